/- The document: two trades compared. -/
import Derived.Test.YtlpgheniajdkfaaGreatPnb
namespace Go.Proofs.YtlpgheniajdkfaaGreat
open Go Go.W
set_option linter.unusedVariables false
set_option linter.unusedSimpArgs false
set_option maxRecDepth 20000
attribute [local irreducible] HL HC HQ HB Row Rows2 Blk Facts


theorem ref04_path_own {A B : Option Addr} {ca cb : Nat} (cs : List Cl) (hs : List Hd) (h6 : cs.length ≤ 6) (hcl : ∀ i, i < cs.length → ClsOK cs i) : ∀ (d : Nat) (c : Int), c < (d : Int) → c < (cs.length : Int) → Meets Tryz.prog F.ref04_path [.agg #[.slice A cs.length ca, .slice B hs.length cb], int c] { LI := [Row A (rows cs)], inv := fun x : OutC × Hp => Grow T.int 1 x.1.1 (pathT cs c).length x.1.2 (rows (pathT cs c)) x.2, val := fun x => .slice x.1.1 (pathT cs c).length x.1.2, hpO := fun x => x.2 } := by
 intro d
 induction d using Nat.strongRecOn
 rename_i d ih
 intro c hcd hcl2
 have hpl := path_len6 h6 hcl hcl2
 refine meets_intro F.ref04_path_f rfl (Nat.le_of_ble_eq_true rfl) fun w0 => ?_
 refine hc_seq (hc_region ?_)
 refine r_box rfl rfl fun gB => ?_
 refine r_assign rfl rfl (hl_nil (then_n (hc_seq (hc_seq (hc_region (r_move rfl rfl (r_lss rfl rfl rfl (hl_nil (then_n ?_)))))))))
 refine c_dec rfl (fun hb1 => ?_) (fun hb1 => ?_)
 ·have hb1' := hb1; try simp at hb1'
  refine hc_seq (hc_region (r_assign rfl rfl (hl_nil (then_n (hc_ret (then_ret ?_))))))
  have e := path_neg cs hb1
  exact ret1 ((none, 0), []) rfl (by show some (Value.slice none 0 0) = some (Value.slice none (pathT cs c).length 0); rw [e]; rfl) rfl (by show Grow _ _ none (pathT cs c).length 0 (rows (pathT cs c)) []; rw [e]; exact Grow.nil _ _) (List.nil_sublist _) trivial
 ·have hb1' := hb1; try simp at hb1'
  have hc0 : c.toNat < cs.length := by omega
  have hck := hcl _ hc0
  have hlo := hck.lo
  have hhi := hck.hi
  have hst := path_step cs hcl (c := c) (by omega) hcl2
  have hul := path_len6 h6 hcl (c := (cs.getD c.toNat default).2) (by omega)
  have hih : Meets Tryz.prog F.ref04_path [.agg #[.slice A cs.length ca, .slice B hs.length cb], int (cs.getD c.toNat default).2] { LI := [Row A (rows cs)], inv := fun x : OutC × Hp => Grow T.int 1 x.1.1 (pathT cs (cs.getD c.toNat default).2).length x.1.2 (rows (pathT cs (cs.getD c.toNat default).2)) x.2, val := fun x => .slice x.1.1 (pathT cs (cs.getD c.toNat default).2).length x.1.2, hpO := fun x => x.2 } := by
    exact ih c.toNat (by omega) (cs.getD c.toNat default).2 (by omega) (by omega)
  refine hc_skip (then_n (hc_seq ?_))
  refine hc_drawW ([]) ([(gB, .cells #[.slice A cs.length ca, .slice B hs.length cb] T.api_Trades (0, 0))]) (List.Perm.refl _) 10 [] mixed (by decide) (by decide) (by decide) rfl rfl rfl ?_
  apply hb_ex _ rfl rfl rfl
  ·intro w1
   refine r_loadB rfl T.row_api_Trades T.sz_api_Trades rfl (by repeat constructor) (by rfl) ?_
   refine hl_nil ?_
   exact qe_done rfl
  apply hb_ex _ rfl rfl rfl
  ·intro w1
   refine r_fieldAddr ⟨_, 0, none⟩ rfl rfl T.fa_api_Trades_0 rfl ?_
   refine hl_nil ?_
   exact qe_done rfl
  apply hb_ex _ rfl rfl rfl
  ·intro w1
   refine r_load rfl T.cell_L_api_Class rfl (cell_blk (by repeat constructor) rfl) ?_
   refine hl_nil ?_
   exact qe_done rfl
  apply hb_ex _ rfl rfl rfl
  ·intro w1
   refine r_move rfl rfl (hl_nil ?_)
   exact qe_done rfl
  apply hb_ex _ rfl rfl rfl
  ·intro w1
   refine r_elem (α := Cl) cs c.toNat rfl T.u_L_api_Class T.sz_api_Class rfl rfl (Int.toNat_of_nonneg (by omega)).symm (by repeat constructor) rfl hc0 (by decide) ?_
   refine hl_nil ?_
   exact qe_done rfl
  apply hb_ex _ rfl rfl rfl
  ·intro w1
   refine r_fieldAddr _ rfl rfl T.fa_api_Class_1 rfl (hl_nil ?_)
   exact qe_done rfl
  apply hb_ex _ rfl rfl rfl
  ·intro w1
   refine r_load (v := int (cs.getD c.toNat default).2) rfl T.cell_int rfl (cell_row_f (by repeat constructor) (rows_get hc0 rfl)) ?_
   refine hl_nil ?_
   exact qe_done rfl
  refine hb_ad ⟨OutC × Hp, fun x => Grow T.int 1 x.1.1 (pathT cs (cs.getD c.toNat default).2).length x.1.2 (rows (pathT cs (cs.getD c.toNat default).2)) x.2, fun x => .slice x.1.1 (pathT cs (cs.getD c.toNat default).2).length x.1.2, fun _ => [], fun x => x.2⟩ rfl rfl rfl ?_ ?_
  ·intro w1
   refine hl_call F.ref04_path_cb rfl rfl hih (hpR := []) (List.Perm.refl _) ⟨(by repeat constructor), trivial⟩ fun x hx => ?_
   refine hl_nil ?_
   exact qw_done x hx (fun _ => rfl) (by rw [List.append_nil]; exact List.Sublist.refl _) trivial
  apply hb_ex _ rfl rfl rfl
  ·intro w1
   refine r_move rfl rfl (hl_nil ?_)
   exact qe_done rfl
  refine hb_vs ⟨Nat, fun _ => True, fun g => .slice (some ⟨g, 0, none⟩) 1 1, fun g => [Row (some ⟨g, 0, none⟩) (rows [c])]⟩ rfl rfl rfl ?_ ?_
  ·intro w1
   refine r_buildSlice _ rfl rfl (fun _ => T.bs_ints_1 ..) fun gS => ?_
   refine hl_nil ?_
   refine hq_letgo (rows [c]) (List.prefix_refl _) ?_
   exact qv_done gS trivial rfl ⟨m0, trivial⟩
  refine hb_nil ⟨rfl, ?_⟩
  intro x hx g9 _
  obtain ⟨⟨na, nc⟩, og⟩ := x
  simp only at hx
  refine r_append ((pathT cs (cs.getD c.toNat default).2).length + 1) (rows ((pathT cs (cs.getD c.toNat default).2) ++ [c])) T.el_ints rfl rfl rfl hx (hp' := [(gB, .cells #[.slice A cs.length ca, .slice B hs.length cb] T.api_Trades (0, 0))]) (show List.Perm ((og ++ []) ++ [(gB, .cells #[.slice A cs.length ca, .slice B hs.length cb] T.api_Trades (0, 0))]) (og ++ [(gB, .cells #[.slice A cs.length ca, .slice B hs.length cb] T.api_Trades (0, 0))]) from (perm_of fun p => by simp only [List.countP_append, List.countP_cons, List.countP_nil]; omega)) (Src.row (news := rows [c]) (m := 1) (by repeat constructor) rfl (rows_one _) (by decide)) rfl (rows_append _ _).symm (by unfold maxLen; omega) (by omega) fun A' c' og' hG' => ?_
  refine r_assign rfl rfl (hl_nil (then_n (hc_ret ?_)))
  exact ret1 ((A', c'), og') rfl (by show some (Value.slice A' ((pathT cs (cs.getD c.toNat default).2).length + 1) c') = some (Value.slice A' (pathT cs c).length c'); rw [hst, List.length_append]; rfl) rfl (by show Grow _ _ A' (pathT cs c).length c' (rows (pathT cs c)) og'; rw [hst, List.length_append]; exact hG') (List.sublist_append_left _ _) trivial

theorem ref04_path_meets {A B : Option Addr} {ca cb : Nat} (cs : List Cl) (hs : List Hd) (c : Int) (h6 : cs.length ≤ 6) (hcl : ∀ i, i < cs.length → ClsOK cs i) (hc : c < (cs.length : Int)) : Meets Tryz.prog F.ref04_path [.agg #[.slice A cs.length ca, .slice B hs.length cb], int c] { LI := [Row A (rows cs)], inv := fun x : OutC => (pathT cs c).length ≤ x.2, val := fun x => .slice x.1 (pathT cs c).length x.2, LO := fun x => [Row x.1 (rows (pathT cs c))] } := by
  intro w hw
  refine (ref04_path_own cs hs h6 hcl cs.length c hc hc w hw).mono fun e w' h => ?_
  obtain ⟨x, h1, h2, h3⟩ := h
  have h4 : Grow T.int 1 x.1.1 (pathT cs c).length x.1.2 (rows (pathT cs c)) x.2 := h2
  refine ⟨x.1, h1, h4.le, ?_⟩
  refine wi_grown (hp := []) h4 ?_
  rw [List.append_nil]
  exact h3

/-- The first heading of the word that leads to a class. -/
def TrAt (hs : List Hd) (w : Str) (z : Int) : Prop := (0 ≤ z ∧ z < (hs.length : Int) ∧ hitB w (hs.getD z.toNat default) = true ∧ ∀ i, i < z.toNat → hitB w (hs.getD i default) = false) ∨ (z = -1 ∧ ∀ i, i < hs.length → hitB w (hs.getD i default) = false)
abbrev namesK (cs : List Cl) (hs : List Hd) (z : Int) : List Str := (pathT cs (hs.getD z.toNat default).2.1).map (nameOf cs)
theorem at_names {cs : List Cl} {hs : List Hd} {w : Str} {z : Int} (h : TrAt hs w z) : namesN (trOf cs hs) w = if 0 ≤ z then some (namesK cs hs z) else none := by
  rcases h with ⟨h1, h2, h3, h4⟩ | ⟨h1, h2⟩
  · rw [if_pos h1]; exact names_at (by omega) h3 h4
  · rw [if_neg (by omega)]; exact names_no h2
theorem at_word {hs : List Hd} {w : Str} {z : Int} (h : TrAt hs w z) (h0 : 0 ≤ z) : z < (hs.length : Int) ∧ (hs.getD z.toNat default).1 = w ∧ ¬ (hs.getD z.toNat default).2.1 = -1 := by
  rcases h with ⟨h1, h2, h3, h4⟩ | ⟨h1, h2⟩
  · unfold hitB at h3
    rw [Bool.and_eq_true, decide_eq_true_eq, decide_eq_true_eq] at h3
    exact ⟨h2, h3⟩
  · omega
theorem move_at {cs cs2 : List Cl} {hs hs2 : List Hd} {w : Str} {z1 z2 : Int} (h1 : TrAt hs w z1) (h2 : TrAt hs2 w z2) : moveN (trOf cs hs) (trOf cs2 hs2) w = if 0 ≤ z1 ∧ z2 < 0 then some (w, 1) else if z1 < 0 ∧ 0 ≤ z2 then some (w, 2) else if (0 ≤ z1 ∧ 0 ≤ z2) ∧ ¬ namesK cs hs z1 = namesK cs2 hs2 z2 then some (w, 3) else none := by
  unfold moveN
  rw [at_names h1, at_names h2]
  by_cases e1 : 0 ≤ z1 <;> by_cases e2 : 0 ≤ z2
  · rw [if_pos e1, if_pos e2, if_neg (by omega), if_neg (by omega)]
    show (if _ = _ then _ else _) = _
    by_cases e3 : namesK cs hs z1 = namesK cs2 hs2 z2
    · rw [if_pos e3, if_neg (fun h => h.2 e3)]
    · rw [if_neg e3, if_pos ⟨⟨e1, e2⟩, e3⟩]
  · rw [if_pos e1, if_neg e2, if_pos ⟨e1, by omega⟩]
  · rw [if_neg e1, if_pos e2, if_neg (by omega), if_pos ⟨by omega, e2⟩]
  · rw [if_neg e1, if_neg e2, if_neg (by omega), if_neg (by omega), if_neg (by omega)]
theorem sgtr_eq (x y : Str) : (!(Op.bytesLess x y || x == y)) = decide (y < x) := by
  rw [str_lt_dec]
  by_cases h1 : y < x
  · rw [decide_eq_true h1, decide_eq_false (fun h2 => slt_irr _ (List.lt_trans h1 h2))]
    have h3 : ¬ x = y := fun e => by subst e; exact slt_irr _ h1
    simp [h3]
  · rw [decide_eq_false h1]
    by_cases h2 : x < y
    · simp [h2]
    · have h3 := slt_tri h2 h1
      subst h3
      simp
/-- The next word behind a word. -/
def nxW (last : Str) (ws : List Str) : Nat → Str
  | 0 => []
  | j + 1 => if last < wat ws j ∧ (nxW last ws j = [] ∨ wat ws j < nxW last ws j) then wat ws j else nxW last ws j
theorem nxW_zero (last : Str) (ws : List Str) : nxW last ws 0 = [] := rfl
theorem nxW_succ (last : Str) (ws : List Str) (j : Nat) : nxW last ws (j + 1) = if last < wat ws j ∧ (nxW last ws j = [] ∨ wat ws j < nxW last ws j) then wat ws j else nxW last ws j := rfl
theorem nxW_is {last : Str} {ws : List Str} : ∀ j, j ≤ ws.length → (nxW last ws j = [] ∧ ∀ p, p < j → ¬ last < wat ws p) ∨ (nxW last ws j ∈ ws ∧ last < nxW last ws j ∧ ∀ p, p < j → last < wat ws p → ¬ wat ws p < nxW last ws j)
  | 0, _ => .inl ⟨rfl, fun p hp => by omega⟩
  | j + 1, hj => by
    have ih := nxW_is (last := last) (ws := ws) j (by omega)
    have hm : wat ws j ∈ ws := getD_mem (by omega)
    rw [nxW]
    by_cases h1 : last < wat ws j ∧ (nxW last ws j = [] ∨ wat ws j < nxW last ws j)
    · rw [if_pos h1]
      refine .inr ⟨hm, h1.1, fun p hp hl hlt => ?_⟩
      by_cases e : p = j
      · subst e; exact slt_irr _ hlt
      · rcases ih with ⟨_, h3⟩ | ⟨_, _, h3⟩
        · exact h3 p (by omega) hl
        · rcases h1.2 with h4 | h4
          · rename_i h5 h6
            rw [h4] at h6
            exact absurd h6 (List.not_lt_nil _)
          · exact h3 p (by omega) hl (List.lt_trans hlt h4)
    · rw [if_neg h1]
      rcases ih with ⟨h2, h3⟩ | ⟨h2, h4, h3⟩
      · refine .inl ⟨h2, fun p hp hl => ?_⟩
        by_cases e : p = j
        · subst e; exact h1 ⟨hl, .inl h2⟩
        · exact h3 p (by omega) hl
      · refine .inr ⟨h2, h4, fun p hp hl hlt => ?_⟩
        by_cases e : p = j
        · subst e; exact h1 ⟨hl, .inr hlt⟩
        · exact h3 p (by omega) hl hlt
def lastW (r : List Str) : Nat → Str
  | 0 => []
  | k + 1 => wat r k
theorem lastW_zero (r : List Str) : lastW r 0 = [] := rfl
theorem lastW_succ (r : List Str) (k : Nat) : lastW r (k + 1) = wat r k := rfl
theorem wat_lt {r : List Str} (h : r.Pairwise (· < ·)) {i j : Nat} (hij : i < j) (hj : j < r.length) : wat r i < wat r j := by
  unfold wat
  rw [getD_at (by omega), getD_at hj]
  exact (List.pairwise_iff_getElem.1 h) i j (by omega) hj hij
theorem nil_lt {x : Str} (h : ¬ x = []) : ([] : Str) < x := by
  cases x with
  | nil => exact absurd rfl h
  | cons a x => exact List.nil_lt_cons a x
theorem last_lt {r : List Str} (h : r.Pairwise (· < ·)) (hne : ∀ x ∈ r, ¬ x = []) : ∀ {k : Nat}, k < r.length → lastW r k < wat r k
  | 0, hk => nil_lt (hne _ (getD_mem hk))
  | k + 1, hk => wat_lt h (Nat.lt_succ_self k) hk
theorem last_ge {r : List Str} (h : r.Pairwise (· < ·)) : ∀ {k m : Nat}, m < k → k ≤ r.length → ¬ lastW r k < wat r m
  | 0, m, hm, _ => by omega
  | k + 1, m, hm, hk => fun hl => by
    by_cases e : m = k
    · subst e; exact slt_irr _ hl
    · exact slt_irr _ (List.lt_trans hl (wat_lt h (show m < k by omega) (by omega)))
theorem nx_next {r ws : List Str} (h : r.Pairwise (· < ·)) (hm : ∀ x, x ∈ r ↔ x ∈ ws) (hne : ∀ x ∈ ws, ¬ x = []) {k : Nat} (hk : k ≤ r.length) : (k < r.length ∧ nxW (lastW r k) ws ws.length = wat r k) ∨ (k = r.length ∧ nxW (lastW r k) ws ws.length = []) := by
  have key : ∀ x, x ∈ r → lastW r k < x → ∃ m, k ≤ m ∧ m < r.length ∧ x = wat r m := fun x hx hl => by
    obtain ⟨m, hm1, e⟩ := List.getElem_of_mem hx
    have e2 : x = wat r m := by unfold wat; rw [getD_at hm1, e]
    refine ⟨m, ?_, hm1, e2⟩
    apply Classical.byContradiction
    intro hn
    rw [e2] at hl
    exact last_ge h (show m < k by omega) hk hl
  rcases nxW_is (last := lastW r k) (ws := ws) ws.length (Nat.le_refl _) with ⟨h1, h2⟩ | ⟨h1, h2, h3⟩
  · refine .inr ⟨?_, h1⟩
    apply Classical.byContradiction
    intro hn
    have hk2 : k < r.length := by omega
    obtain ⟨p, hp, e⟩ := List.getElem_of_mem ((hm _).1 (getD_mem hk2 : wat r k ∈ r))
    refine h2 p hp ?_
    rw [show wat ws p = wat r k by unfold wat; rw [getD_at hp, e]]
    exact last_lt h (fun x hx => hne x ((hm x).1 hx)) hk2
  · obtain ⟨m, hkm, hml, e⟩ := key _ ((hm _).2 h1) h2
    have hk2 : k < r.length := by omega
    refine .inl ⟨hk2, ?_⟩
    by_cases e2 : m = k
    · rw [e, e2]
    · obtain ⟨p, hp, e3⟩ := List.getElem_of_mem ((hm _).1 (getD_mem hk2 : wat r k ∈ r))
      have e4 : wat ws p = wat r k := by unfold wat; rw [getD_at hp, e3]
      refine absurd ?_ (h3 p hp ?_)
      · rw [e4, e]; exact wat_lt h (by omega) hml
      · rw [e4]; exact last_lt h (fun x hx => hne x ((hm x).1 hx)) hk2
theorem insU_len (s : Str) : ∀ l : List Str, (insU s l).length ≤ l.length + 1
  | [] => Nat.le_refl _
  | x :: l => by
    have ih := insU_len s l
    rw [insU]
    split
    · exact Nat.le_refl _
    · split
      · exact Nat.le_succ _
      · rw [List.length_cons, List.length_cons]; omega
theorem sortU_len : ∀ l : List Str, (sortU l).length ≤ l.length
  | [] => Nat.le_refl _
  | x :: l => by
    have ih := sortU_len l
    have := insU_len x (sortU l)
    show (insU x (sortU l)).length ≤ _
    rw [List.length_cons]
    omega
theorem word_get {hs : List Hd} {k : Nat} (hk : k < hs.length) : (hs.map fun h : Hd => h.1).getD k default = (hs.getD k default).1 := by
  rw [getD_at (by rw [List.length_map]; exact hk), getD_at hk, List.getElem_map]
theorem head_ne {cs : List Cl} {hs : List Hd} (hok : TrOK (trOf cs hs)) {i : Nat} (hi : i < hs.length) : ¬ (hs.getD i default).1 = [] := fun e => by
  have h1 := head_word hok hi
  rw [e] at h1
  exact absurd h1 (by decide)
theorem words_ne {cs : List Cl} {hs : List Hd} (hok : TrOK (trOf cs hs)) {x : Str} (hx : x ∈ hs.map fun h : Hd => h.1) : ¬ x = [] := by
  obtain ⟨h, hh, rfl⟩ := List.mem_map.1 hx
  obtain ⟨i, hi, rfl⟩ := List.getElem_of_mem hh
  rw [← getD_at hi]
  exact head_ne hok hi
theorem cls_at {hs : List Hd} {n : Int} {w : Str} {z : Int} (hc : ∀ i, i < hs.length → -1 ≤ (hs.getD i default).2.1 ∧ (hs.getD i default).2.1 < n) (h0 : 0 ≤ z) (h : z < (hs.length : Int) ∧ (hs.getD z.toNat default).1 = w ∧ ¬ (hs.getD z.toNat default).2.1 = -1) : 0 ≤ (hs.getD z.toNat default).2.1 ∧ (hs.getD z.toNat default).2.1 < n := by
  have h1 := hc z.toNat (by omega)
  have h2 := h.2.2
  omega
theorem like_no {l l2 : List Int} {f g : Int → Str} {k : Nat} (h1 : k < l.length) (h2 : k < l2.length) (h : ¬ f (l.getD k default) = g (l2.getD k default)) : ¬ l.map f = l2.map g := fun e => h (by
  have h3 := congrArg (fun m : List Str => m[k]?) e
  simp only [List.getElem?_map, List.getElem?_eq_getElem h1, List.getElem?_eq_getElem h2, Option.map_some, Option.some.injEq] at h3
  rw [getD_at h1, getD_at h2]
  exact h3)
theorem like_step {l l2 : List Int} {f g : Int → Str} {k : Nat} (h1 : k < l.length) (h2 : k < l2.length) (ht : (l.take k).map f = (l2.take k).map g) (h : f (l.getD k default) = g (l2.getD k default)) : (l.take (k + 1)).map f = (l2.take (k + 1)).map g := by
  rw [take_succ_getD l k h1, take_succ_getD l2 k h2, List.map_append, List.map_append, ht]
  show _ ++ [f _] = _ ++ [g _]
  rw [h]
attribute [local irreducible] nxW lastW

theorem ref04_trade_meets {A B : Option Addr} {ca cb : Nat} (cs : List Cl) (hs : List Hd) (w : Str) (hl : hs.length ≤ 1000) (hc : ∀ i, i < hs.length → -1 ≤ (hs.getD i default).2.1) : Meets Tryz.prog F.ref04_trade [.agg #[.slice A cs.length ca, .slice B hs.length cb], str w] { LI := [RowsF B hs Hd.row], inv := fun z : Int => TrAt hs w z, val := fun z => int z } := by
 refine meets_intro F.ref04_trade_f rfl (Nat.le_of_ble_eq_true rfl) fun w0 => ?_
 refine hc_seq (hc_region ?_)
 refine r_box rfl rfl fun gB => ?_
 refine r_assign rfl rfl (hl_nil (then_n (hc_seq (hc_seq (hc_letgoB ?_)))))
 refine hc_outerF (ps := hs) (A := B) (f := Hd.row) (by repeat constructor) ?_
 refine hc_region (r_assign rfl rfl (hl_nil (then_n (hc_block ?_))))
 refine hc_loop (β := Nat) ⟨fun k => k ≤ hs.length ∧ ∀ i, i < k → hitB w (hs.getD i default) = false, fun k => [(1, str w), (2, .pointer (some ⟨gB, 0, none⟩)), (5, int k)], fun _ => [], fun _ => [Row B (rows hs), Blk gB (.cells #[.slice A cs.length ca, .slice B hs.length cb] T.api_Trades (0, 0))]⟩ (fun k => hs.length - k) 0 ⟨Nat.zero_le _, fun i hi => by omega⟩ ⟨rfl, rfl, rfl, trivial⟩ (List.nil_sublist _) ⟨(by repeat constructor), (by repeat constructor), trivial⟩ fun k hk => ?_
 obtain ⟨hk, ht⟩ := hk
 refine hc_seq (hc_seq (hc_region (r_move rfl rfl ?_)))
 refine r_fieldAddr ⟨_, 1, none⟩ rfl rfl T.fa_api_Trades_1 rfl ?_
 refine r_load rfl T.cell_L_api_Head rfl (cell_blk (by repeat constructor) rfl) ?_
 refine r_len_sl rfl T.u_L_api_Head rfl ?_
 refine r_lss rfl rfl rfl (hl_nil (then_n ?_))
 refine c_dec rfl (fun hb1 => ?_) (fun hb1 => ?_)
 ·have hb1' := hb1; try simp at hb1'
  have hk2 : k < hs.length := by omega
  have hck := hc k hk2
  refine hc_skip (then_n (hc_seq (hc_block (hc_seq (hc_region ?_)))))
  refine r_fieldAddr ⟨_, 1, none⟩ rfl rfl T.fa_api_Trades_1 rfl ?_
  refine r_load rfl T.cell_L_api_Head rfl (cell_blk (by repeat constructor) rfl) ?_
  refine r_move rfl rfl ?_
  refine r_elem (α := Hd) hs k rfl T.u_L_api_Head T.sz_api_Head rfl rfl rfl (by repeat constructor) rfl hk2 (by decide) ?_
  refine r_fieldAddr _ rfl rfl T.fa_api_Head_0 rfl ?_
  refine r_load (v := str (hs.getD k default).1) rfl T.cell_string rfl (cell_row_f (by repeat constructor) (rows_get hk2 rfl)) ?_
  refine r_move rfl rfl (r_seql rfl rfl rfl (r_move rfl rfl ?_))
  refine g_split rfl rfl ?_ ?_
  ·intro hg1; have hg1' := hg1; try simp at hg1'
   have g4_9 : (hs.getD k default).1 = w := of_decide_eq_true (eq_of_beq hg1)
   refine g_yes rfl rfl hg1 ?_
   refine r_fieldAddr ⟨_, 1, none⟩ rfl rfl T.fa_api_Trades_1 rfl ?_
   refine g_yes rfl rfl hg1 ?_
   refine r_load rfl T.cell_L_api_Head rfl (cell_blk (by repeat constructor) rfl) ?_
   refine g_yes rfl rfl hg1 (r_move rfl rfl (g_yes rfl rfl hg1 ?_))
   refine r_elem (α := Hd) hs k rfl T.u_L_api_Head T.sz_api_Head rfl rfl rfl (by repeat constructor) rfl hk2 (by decide) ?_
   refine g_yes rfl rfl hg1 (r_fieldAddr _ rfl rfl T.fa_api_Head_1 rfl (g_yes rfl rfl hg1 ?_))
   refine r_load (v := int (hs.getD k default).2.1) rfl T.cell_int rfl (cell_row_f (by repeat constructor) (rows_get hk2 rfl)) ?_
   refine g_yes rfl rfl hg1 (r_geq rfl rfl rfl ?_)
   refine p_t rfl rfl (bt1 hg1) rfl ?_
   refine hl_nil (then_n ?_)
   refine c_dec rfl (fun hb2 => ?_) (fun hb2 => ?_)
   ·have hb2' := hb2; try simp at hb2'
    refine hc_seq (hc_region (r_move rfl rfl (r_assign rfl rfl (hl_nil (then_n (hc_ret (inb_ret (then_ret (then_ret (inb_ret (then_ret ?_)))))))))))
    exact ret1 (k : Int) rfl rfl rfl (.inl ⟨by omega, by omega, by rw [Int.toNat_natCast]; exact hit_yes g4_9 (by omega), by rw [Int.toNat_natCast]; exact ht⟩) (List.nil_sublist _) trivial
   ·have hb2' := hb2; try simp at hb2'
    refine hc_skip (inb_n (then_n (hc_region (r_move rfl rfl ?_))))
    refine r_add _ rfl rfl rfl rfl (by unfold I64; omega) ?_
    refine r_assign rfl rfl (hl_nil ?_)
    exact again _ (k + 1) ⟨by omega, hit_next ht (hit_no2 (by omega))⟩ (by show hs.length - (k + 1) < hs.length - k; omega) ⟨rfl, rfl, rfl, trivial⟩ (List.nil_sublist _) ⟨(by repeat constructor), (by repeat constructor), trivial⟩
  ·intro hg1; have hg1' := hg1; try simp at hg1'
   have g4_9 : ¬ (hs.getD k default).1 = w := of_decide_eq_false (bf2 hg1)
   refine g_no rfl rfl rfl rfl rfl hg1 (g_no rfl rfl rfl rfl rfl hg1 (g_no rfl rfl rfl rfl rfl hg1 (g_no rfl rfl rfl rfl rfl hg1 (g_no rfl rfl rfl rfl rfl hg1 (g_no rfl rfl rfl rfl rfl hg1 (g_no rfl rfl rfl rfl rfl hg1 ?_))))))
   refine p_f rfl rfl (bf2 hg1) rfl ?_
   refine hl_nil (then_n (c_f rfl rfl (hc_skip (inb_n (then_n (hc_region (r_move rfl rfl ?_)))))))
   refine r_add _ rfl rfl rfl rfl (by unfold I64; omega) ?_
   refine r_assign rfl rfl (hl_nil ?_)
   exact again _ (k + 1) ⟨by omega, hit_next ht (hit_no1 g4_9)⟩ (by show hs.length - (k + 1) < hs.length - k; omega) ⟨rfl, rfl, rfl, trivial⟩ (List.nil_sublist _) ⟨(by repeat constructor), (by repeat constructor), trivial⟩
 ·have hb1' := hb1; try simp at hb1'
  obtain rfl : k = hs.length := by omega
  refine hc_exit (then_exit (then_exit (inb_hit (then_n (hc_seq (hc_region (r_assign rfl rfl (hl_nil (then_n (hc_ret ?_))))))))))
  exact ret1 (-1) rfl rfl rfl (.inr ⟨rfl, ht⟩) (List.nil_sublist _) trivial

set_option maxHeartbeats 1000000 in
theorem ref04_likePaths_meets {A B A2 B2 : Option Addr} {ca cb ca2 cb2 : Nat} (cs : List Cl) (hs : List Hd) (cs2 : List Cl) (hs2 : List Hd) (z1 z2 : Int) (hok : TrOK (trOf cs hs)) (hok2 : TrOK (trOf cs2 hs2)) (h1 : 0 ≤ z1 ∧ z1 < (hs.length : Int)) (h2 : 0 ≤ z2 ∧ z2 < (hs2.length : Int)) (hc1 : 0 ≤ (hs.getD z1.toNat default).2.1 ∧ (hs.getD z1.toNat default).2.1 < (cs.length : Int)) (hc2 : 0 ≤ (hs2.getD z2.toNat default).2.1 ∧ (hs2.getD z2.toNat default).2.1 < (cs2.length : Int)) : Meets Tryz.prog F.ref04_likePaths [.agg #[.slice A cs.length ca, .slice B hs.length cb], .agg #[.slice A2 cs2.length ca2, .slice B2 hs2.length cb2], int z1, int z2] { LI := [Row A (rows cs), RowsF B hs Hd.row, Row A2 (rows cs2), RowsF B2 hs2 Hd.row], val := fun _ : Unit => .bool (decide (namesK cs hs z1 = namesK cs2 hs2 z2)) } := by
 refine meets_intro F.ref04_likePaths_f rfl (Nat.le_of_ble_eq_true rfl) fun w0 => ?_
 refine hc_seq (hc_region ?_)
 refine r_box rfl rfl fun gB => ?_
 refine r_box rfl rfl fun gB2 => ?_
 refine r_assign rfl rfl (hl_nil (then_n (hc_seq ?_)))
 have h6 : cs.length ≤ 6 := hok.c6
 have hcl : ∀ i, i < cs.length → ClsOK cs i := hok.c
 have h62 : cs2.length ≤ 6 := hok2.c6
 have hcl2 : ∀ i, i < cs2.length → ClsOK cs2 i := hok2.c
 have hpa := path_asc cs hcl (hs.getD z1.toNat default).2.1.toNat (hs.getD z1.toNat default).2.1 (Nat.le_refl _) hc1.2
 have hpb := path_asc cs2 hcl2 (hs2.getD z2.toNat default).2.1.toNat (hs2.getD z2.toNat default).2.1 (Nat.le_refl _) hc2.2
 have hl1 := path_len6 h6 hcl hc1.2
 have hl2 := path_len6 h62 hcl2 hc2.2
 refine hc_letgoB (hc_letgoB ?_)
 refine hc_outerF (ps := hs) (A := B) (f := Hd.row) (by repeat constructor) ?_
 refine hc_outerF (ps := hs2) (A := B2) (f := Hd.row) (by repeat constructor) ?_
 refine hc_draw 15 mixed (by decide) (by decide) rfl rfl ?_
 apply hb_ex _ rfl rfl rfl
 ·intro w1
  refine r_loadB rfl T.row_api_Trades T.sz_api_Trades rfl (by repeat constructor) (by rfl) ?_
  refine hl_nil ?_
  exact qe_done rfl
 apply hb_ex _ rfl rfl rfl
 ·intro w1
  refine r_fieldAddr ⟨_, 1, none⟩ rfl rfl T.fa_api_Trades_1 rfl ?_
  refine hl_nil ?_
  exact qe_done rfl
 apply hb_ex _ rfl rfl rfl
 ·intro w1
  refine r_load rfl T.cell_L_api_Head rfl (cell_blk (by repeat constructor) rfl) ?_
  refine hl_nil ?_
  exact qe_done rfl
 apply hb_ex _ rfl rfl rfl
 ·intro w1
  refine r_move rfl rfl (hl_nil ?_)
  exact qe_done rfl
 apply hb_ex _ rfl rfl rfl
 ·intro w1
  refine r_elem (α := Hd) hs z1.toNat rfl T.u_L_api_Head T.sz_api_Head rfl rfl (Int.toNat_of_nonneg h1.1).symm (by repeat constructor) rfl (by omega) (by decide) ?_
  refine hl_nil ?_
  exact qe_done rfl
 apply hb_ex _ rfl rfl rfl
 ·intro w1
  refine r_fieldAddr _ rfl rfl T.fa_api_Head_1 rfl (hl_nil ?_)
  exact qe_done rfl
 apply hb_ex _ rfl rfl rfl
 ·intro w1
  refine r_load (v := int (hs.getD z1.toNat default).2.1) rfl T.cell_int rfl (cell_row_f (by repeat constructor) (rows_get (by omega) rfl)) ?_
  refine hl_nil ?_
  exact qe_done rfl
 refine hb_vs ⟨OutC, fun y => (pathT cs (hs.getD z1.toNat default).2.1).length ≤ y.2, fun y => .slice y.1 (pathT cs (hs.getD z1.toNat default).2.1).length y.2, fun y => [Row y.1 (rows (pathT cs (hs.getD z1.toNat default).2.1))]⟩ rfl rfl rfl ?_ ?_
 ·intro w1
  refine hl_call F.ref04_path_cb rfl rfl (ref04_path_meets cs hs (hs.getD z1.toNat default).2.1 h6 hcl hc1.2) (List.Perm.refl _) ⟨(by repeat constructor), trivial⟩ fun y hy => ?_
  refine hl_nil ?_
  exact qv_done y hy rfl ⟨m0, trivial⟩
 apply hb_ex _ rfl rfl rfl
 ·intro w1
  refine r_loadB rfl T.row_api_Trades T.sz_api_Trades rfl (by repeat constructor) (by rfl) ?_
  refine hl_nil ?_
  exact qe_done rfl
 apply hb_ex _ rfl rfl rfl
 ·intro w1
  refine r_fieldAddr ⟨_, 1, none⟩ rfl rfl T.fa_api_Trades_1 rfl ?_
  refine hl_nil ?_
  exact qe_done rfl
 apply hb_ex _ rfl rfl rfl
 ·intro w1
  refine r_load rfl T.cell_L_api_Head rfl (cell_blk (by repeat constructor) rfl) ?_
  refine hl_nil ?_
  exact qe_done rfl
 apply hb_ex _ rfl rfl rfl
 ·intro w1
  refine r_move rfl rfl (hl_nil ?_)
  exact qe_done rfl
 apply hb_ex _ rfl rfl rfl
 ·intro w1
  refine r_elem (α := Hd) hs2 z2.toNat rfl T.u_L_api_Head T.sz_api_Head rfl rfl (Int.toNat_of_nonneg h2.1).symm (by repeat constructor) rfl (by omega) (by decide) ?_
  refine hl_nil ?_
  exact qe_done rfl
 apply hb_ex _ rfl rfl rfl
 ·intro w1
  refine r_fieldAddr _ rfl rfl T.fa_api_Head_1 rfl (hl_nil ?_)
  exact qe_done rfl
 apply hb_ex _ rfl rfl rfl
 ·intro w1
  refine r_load (v := int (hs2.getD z2.toNat default).2.1) rfl T.cell_int rfl (cell_row_f (by repeat constructor) (rows_get (by omega) rfl)) ?_
  refine hl_nil ?_
  exact qe_done rfl
 refine hb_nil ⟨rfl, ?_⟩
 intro p hp
 refine hl_call F.ref04_path_cb rfl rfl (ref04_path_meets cs2 hs2 (hs2.getD z2.toNat default).2.1 h62 hcl2 hc2.2) (List.Perm.refl _) ⟨(by repeat constructor), trivial⟩ fun q hq => ?_
 refine r_assign rfl rfl (r_assign rfl rfl (hl_nil (then_n (hc_seq (hc_seq (hc_region (r_move rfl rfl ?_)))))))
 refine r_len_sl rfl T.u_ints rfl ?_
 refine r_move rfl rfl ?_
 refine r_len_sl rfl T.u_ints rfl ?_
 refine r_neq rfl rfl rfl (hl_nil (then_n ?_))
 refine c_dec rfl (fun hb1 => ?_) (fun hb1 => ?_)
 ·have hb1' := hb1; try simp at hb1'
  have hne : ¬ namesK cs hs z1 = namesK cs2 hs2 z2 := fun e => hb1 (by have h3 := congrArg List.length e; rw [List.length_map, List.length_map] at h3; omega)
  refine hc_seq (hc_region (r_assign rfl rfl (hl_nil (then_n (hc_ret (then_ret ?_))))))
  exact ret1 () rfl (congrArg (fun b => some (Value.bool b)) (by exact (decide_eq_false hne).symm)) rfl trivial (List.nil_sublist _) trivial
 ·have hb1' := hb1; try simp at hb1'
  have hll : (pathT cs (hs.getD z1.toNat default).2.1).length = (pathT cs2 (hs2.getD z2.toNat default).2.1).length := by have := Classical.not_not.1 hb1; omega
  refine hc_skip (then_n (hc_seq (hc_seq (hc_region (r_assign rfl rfl (hl_nil (then_n (hc_block ?_))))))))
  refine hc_loop (β := Nat) ⟨fun k => k ≤ (pathT cs (hs.getD z1.toNat default).2.1).length ∧ ((pathT cs (hs.getD z1.toNat default).2.1).take k).map (nameOf cs) = ((pathT cs2 (hs2.getD z2.toNat default).2.1).take k).map (nameOf cs2), fun k => [(4, .pointer (some ⟨gB, 0, none⟩)), (5, .pointer (some ⟨gB2, 0, none⟩)), (9, .slice p.1 (pathT cs (hs.getD z1.toNat default).2.1).length p.2), (10, .slice q.1 (pathT cs2 (hs2.getD z2.toNat default).2.1).length q.2), (11, int k)], fun _ => [], fun _ => [Row p.1 (rows (pathT cs (hs.getD z1.toNat default).2.1)), Row q.1 (rows (pathT cs2 (hs2.getD z2.toNat default).2.1)), Blk gB (.cells #[.slice A cs.length ca, .slice B hs.length cb] T.api_Trades (0, 0)), Blk gB2 (.cells #[.slice A2 cs2.length ca2, .slice B2 hs2.length cb2] T.api_Trades (0, 0)), Row A (rows cs), Row A2 (rows cs2)]⟩ (fun k => (pathT cs (hs.getD z1.toNat default).2.1).length - k) 0 ⟨Nat.zero_le _, rfl⟩ ⟨rfl, rfl, rfl, rfl, rfl, trivial⟩ (List.nil_sublist _) ⟨(by repeat constructor), (by repeat constructor), (by repeat constructor), (by repeat constructor), (by repeat constructor), (by repeat constructor), trivial⟩ fun k hk => ?_
  obtain ⟨hk, ht⟩ := hk
  refine hc_seq (hc_seq (hc_region (r_move rfl rfl (r_move rfl rfl ?_))))
  refine r_len_sl rfl T.u_ints rfl ?_
  refine r_lss rfl rfl rfl (hl_nil (then_n ?_))
  refine c_dec rfl (fun hb2 => ?_) (fun hb2 => ?_)
  ·have hb2' := hb2; try simp at hb2'
   have hk2 : k < (pathT cs (hs.getD z1.toNat default).2.1).length := by omega
   have hk3 : k < (pathT cs2 (hs2.getD z2.toNat default).2.1).length := by omega
   have hm1 := hpa.2 _ (getD_mem hk2)
   have hm2 := hpb.2 _ (getD_mem hk3)
   refine hc_skip (then_n (hc_seq (hc_block (hc_seq ?_))))
   refine hc_draw 18 mixed (by decide) (by decide) rfl rfl ?_
   apply hb_ex _ rfl rfl rfl
   ·intro w1
    refine r_fieldAddr ⟨_, 0, none⟩ rfl rfl T.fa_api_Trades_0 rfl ?_
    refine hl_nil ?_
    exact qe_done rfl
   apply hb_ex _ rfl rfl rfl
   ·intro w1
    refine r_load rfl T.cell_L_api_Class rfl (cell_blk (by repeat constructor) rfl) ?_
    refine hl_nil ?_
    exact qe_done rfl
   apply hb_ex _ rfl rfl rfl
   ·intro w1
    refine r_move rfl rfl (hl_nil ?_)
    exact qe_done rfl
   apply hb_ex _ rfl rfl rfl
   ·intro w1
    refine r_move rfl rfl (hl_nil ?_)
    exact qe_done rfl
   apply hb_ex _ rfl rfl rfl
   ·intro w1
    refine r_elem (α := Int) (pathT cs (hs.getD z1.toNat default).2.1) k rfl T.u_ints T.sz_int rfl rfl rfl (by repeat constructor) rfl (by omega) (by decide) ?_
    refine hl_nil ?_
    exact qe_done rfl
   apply hb_ex _ rfl rfl rfl
   ·intro w1
    refine r_load (v := int ((pathT cs (hs.getD z1.toNat default).2.1).getD k default)) rfl T.cell_int rfl (cell_row (by repeat constructor) (rows_get0 (by omega) rfl)) ?_
    refine hl_nil ?_
    exact qe_done rfl
   apply hb_ex _ rfl rfl rfl
   ·intro w1
    refine r_elem (α := Cl) cs ((pathT cs (hs.getD z1.toNat default).2.1).getD k default).toNat rfl T.u_L_api_Class T.sz_api_Class rfl rfl (Int.toNat_of_nonneg (by omega)).symm (by repeat constructor) rfl (by omega) (by decide) ?_
    refine hl_nil ?_
    exact qe_done rfl
   apply hb_ex _ rfl rfl rfl
   ·intro w1
    refine r_fieldAddr _ rfl rfl T.fa_api_Class_0 rfl (hl_nil ?_)
    exact qe_done rfl
   apply hb_ex _ rfl rfl rfl
   ·intro w1
    refine r_load (v := str (cs.getD ((pathT cs (hs.getD z1.toNat default).2.1).getD k default).toNat default).1) rfl T.cell_string rfl (cell_row_f (by repeat constructor) (rows_get (by omega) rfl)) ?_
    refine hl_nil ?_
    exact qe_done rfl
   apply hb_ex _ rfl rfl rfl
   ·intro w1
    refine r_fieldAddr ⟨_, 0, none⟩ rfl rfl T.fa_api_Trades_0 rfl ?_
    refine hl_nil ?_
    exact qe_done rfl
   apply hb_ex _ rfl rfl rfl
   ·intro w1
    refine r_load rfl T.cell_L_api_Class rfl (cell_blk (by repeat constructor) rfl) ?_
    refine hl_nil ?_
    exact qe_done rfl
   apply hb_ex _ rfl rfl rfl
   ·intro w1
    refine r_move rfl rfl (hl_nil ?_)
    exact qe_done rfl
   apply hb_ex _ rfl rfl rfl
   ·intro w1
    refine r_move rfl rfl (hl_nil ?_)
    exact qe_done rfl
   apply hb_ex _ rfl rfl rfl
   ·intro w1
    refine r_elem (α := Int) (pathT cs2 (hs2.getD z2.toNat default).2.1) k rfl T.u_ints T.sz_int rfl rfl rfl (by repeat constructor) rfl (by omega) (by decide) ?_
    refine hl_nil ?_
    exact qe_done rfl
   apply hb_ex _ rfl rfl rfl
   ·intro w1
    refine r_load (v := int ((pathT cs2 (hs2.getD z2.toNat default).2.1).getD k default)) rfl T.cell_int rfl (cell_row (by repeat constructor) (rows_get0 (by omega) rfl)) ?_
    refine hl_nil ?_
    exact qe_done rfl
   apply hb_ex _ rfl rfl rfl
   ·intro w1
    refine r_elem (α := Cl) cs2 ((pathT cs2 (hs2.getD z2.toNat default).2.1).getD k default).toNat rfl T.u_L_api_Class T.sz_api_Class rfl rfl (Int.toNat_of_nonneg (by omega)).symm (by repeat constructor) rfl (by omega) (by decide) ?_
    refine hl_nil ?_
    exact qe_done rfl
   apply hb_ex _ rfl rfl rfl
   ·intro w1
    refine r_fieldAddr _ rfl rfl T.fa_api_Class_0 rfl (hl_nil ?_)
    exact qe_done rfl
   apply hb_ex _ rfl rfl rfl
   ·intro w1
    refine r_load (v := str (cs2.getD ((pathT cs2 (hs2.getD z2.toNat default).2.1).getD k default).toNat default).1) rfl T.cell_string rfl (cell_row_f (by repeat constructor) (rows_get (by omega) rfl)) ?_
    refine hl_nil ?_
    exact qe_done rfl
   refine hb_nil ⟨rfl, ?_⟩
   refine r_sneq rfl rfl rfl (hl_nil (then_n ?_))
   refine c_dec rfl (fun hb3 => ?_) (fun hb3 => ?_)
   ·have hb3' := hb3; try simp at hb3'
    refine hc_seq (hc_region (r_assign rfl rfl (hl_nil (then_n (hc_ret (inb_ret (then_ret (then_ret (inb_ret (then_ret ?_))))))))))
    exact ret1 () rfl (congrArg (fun b => some (Value.bool b)) (by exact (decide_eq_false (like_no hk2 hk3 hb3)).symm)) rfl trivial (List.nil_sublist _) trivial
   ·have hb3' := hb3; try simp at hb3'
    refine hc_skip (inb_n (then_n (hc_region (r_move rfl rfl ?_))))
    refine r_add _ rfl rfl rfl rfl (by unfold I64; omega) ?_
    refine r_assign rfl rfl (hl_nil ?_)
    exact again _ (k + 1) ⟨by omega, like_step hk2 hk3 ht (Classical.not_not.1 hb3)⟩ (by show (pathT cs (hs.getD z1.toNat default).2.1).length - (k + 1) < (pathT cs (hs.getD z1.toNat default).2.1).length - k; omega) ⟨rfl, rfl, rfl, rfl, rfl, trivial⟩ (List.nil_sublist _) ⟨(by repeat constructor), (by repeat constructor), (by repeat constructor), (by repeat constructor), (by repeat constructor), (by repeat constructor), trivial⟩
  ·have hb2' := hb2; try simp at hb2'
   obtain rfl : k = (pathT cs (hs.getD z1.toNat default).2.1).length := by omega
   rw [List.take_length, hll, List.take_length] at ht
   refine hc_exit (then_exit (then_exit (inb_hit (then_n (hc_seq (hc_region (r_assign rfl rfl (hl_nil (then_n (hc_ret ?_))))))))))
   exact ret1 () rfl (congrArg (fun b => some (Value.bool b)) (by exact (decide_eq_true ht).symm)) rfl trivial (List.nil_sublist _) trivial

set_option maxHeartbeats 2000000 in
theorem ref04_Compare_meets {A B A2 B2 : Option Addr} {ca cb ca2 cb2 : Nat} (cs : List Cl) (hs : List Hd) (cs2 : List Cl) (hs2 : List Hd) (hhl : hs.length ≤ 1000) (hcl0 : cs.length ≤ 1000) (hwc : ∀ x ∈ cs, x.1.length ≤ 1000) (hwh : ∀ h ∈ hs, h.1.length ≤ 1000) (ha : ∀ h ∈ hs, h.2.2.2.l.length ≤ 1000000) (hhl2 : hs2.length ≤ 1000) (hcl02 : cs2.length ≤ 1000) (hwc2 : ∀ x ∈ cs2, x.1.length ≤ 1000) (hwh2 : ∀ h ∈ hs2, h.1.length ≤ 1000) (ha2 : ∀ h ∈ hs2, h.2.2.2.l.length ≤ 1000000) : Meets Tryz.prog F.ref04_Compare [.agg #[.slice A cs.length ca, .slice B hs.length cb], .agg #[.slice A2 cs2.length ca2, .slice B2 hs2.length cb2]] { LI := [Row A (rows cs), RowsF B hs Hd.row, Row A2 (rows cs2), RowsF B2 hs2 Hd.row], inv := fun x : OutC => (compareE (trOf cs hs) (trOf cs2 hs2)).1.length ≤ x.2, val := fun x => .tuple #[.slice x.1 (compareE (trOf cs hs) (trOf cs2 hs2)).1.length x.2, int (compareE (trOf cs hs) (trOf cs2 hs2)).2], LO := fun x => [Row x.1 (rows (compareE (trOf cs hs) (trOf cs2 hs2)).1)] } := by
 refine meets_intro F.ref04_Compare_f rfl (Nat.le_of_ble_eq_true rfl) fun w0 => ?_
 refine hc_seq (hc_region ?_)
 refine r_box rfl rfl fun gB => ?_
 refine r_box rfl rfl fun gB2 => ?_
 refine r_assign rfl rfl (r_assign rfl rfl (hl_nil (then_n (hc_seq (hc_seq (hc_letgoB (hc_letgoB (hc_region ?_))))))))
 refine r_loadB rfl T.row_api_Trades T.sz_api_Trades rfl (by repeat constructor) (by rfl) ?_
 refine hl_call F.ref04_Check_cb rfl rfl (ref04_Check_meets cs hs hhl hcl0 hwc hwh ha) (List.Perm.refl _) ⟨(by repeat constructor), (by repeat constructor), trivial⟩ fun _ _ => ?_
 refine r_assign rfl rfl (hl_nil (then_n (hc_seq (hc_region (r_move rfl rfl (r_neq rfl rfl rfl (hl_nil (then_n ?_))))))))
 refine c_dec rfl (fun hb1 => ?_) (fun hb1 => ?_)
 ·have hb1' := hb1; try simp at hb1'
  refine hc_seq (hc_region (r_move rfl rfl (r_assign rfl rfl (r_assign rfl rfl (hl_nil (then_n (hc_ret (then_ret ?_))))))))
  refine hq_nilrow (α := Cl) ?_
  have hE : (compareE (trOf cs hs) (trOf cs2 hs2)) = ([], checkT (trOf cs hs)) := by unfold compareE; rw [if_pos hb1]
  exact ret2 (none, 0) rfl rfl rfl (by show Value.tuple #[.slice none ((compareE (trOf cs hs) (trOf cs2 hs2))).1.length 0, int ((compareE (trOf cs hs) (trOf cs2 hs2))).2] = _; rw [hE]; rfl) rfl (by show ((compareE (trOf cs hs) (trOf cs2 hs2))).1.length ≤ 0; rw [hE]; exact Nat.le_refl _) (List.nil_sublist _) (by show LSub _ [Row none (rows ((compareE (trOf cs hs) (trOf cs2 hs2))).1)]; rw [hE]; exact ⟨m0, trivial⟩)
 ·have hb1' := hb1; try simp at hb1'
  refine hc_skip (then_n (hc_seq (hc_seq (hc_region ?_))))
  refine r_loadB rfl T.row_api_Trades T.sz_api_Trades rfl (by repeat constructor) (by rfl) ?_
  refine hl_call F.ref04_Check_cb rfl rfl (ref04_Check_meets cs2 hs2 hhl2 hcl02 hwc2 hwh2 ha2) (List.Perm.refl _) ⟨(by repeat constructor), (by repeat constructor), trivial⟩ fun _ _ => ?_
  refine r_assign rfl rfl (hl_nil (then_n (hc_seq (hc_region (r_move rfl rfl (r_neq rfl rfl rfl (hl_nil (then_n ?_))))))))
  refine c_dec rfl (fun hb2 => ?_) (fun hb2 => ?_)
  ·have hb2' := hb2; try simp at hb2'
   refine hc_seq (hc_region (r_move rfl rfl (r_assign rfl rfl (r_assign rfl rfl (hl_nil (then_n (hc_ret (then_ret ?_))))))))
   refine hq_nilrow (α := Cl) ?_
   have hE : (compareE (trOf cs hs) (trOf cs2 hs2)) = ([], checkT (trOf cs2 hs2)) := by unfold compareE; rw [if_neg hb1, if_pos hb2]
   exact ret2 (none, 0) rfl rfl rfl (by show Value.tuple #[.slice none ((compareE (trOf cs hs) (trOf cs2 hs2))).1.length 0, int ((compareE (trOf cs hs) (trOf cs2 hs2))).2] = _; rw [hE]; rfl) rfl (by show ((compareE (trOf cs hs) (trOf cs2 hs2))).1.length ≤ 0; rw [hE]; exact Nat.le_refl _) (List.nil_sublist _) (by show LSub _ [Row none (rows ((compareE (trOf cs hs) (trOf cs2 hs2))).1)]; rw [hE]; exact ⟨m0, trivial⟩)
  ·have hb2' := hb2; try simp at hb2'
   have hE : (compareE (trOf cs hs) (trOf cs2 hs2)) = (compareT (trOf cs hs) (trOf cs2 hs2), 0) := by unfold compareE; rw [if_neg hb1, if_neg hb2]
   have hok := tr_ok (Classical.not_not.1 hb1)
   have hok2 := tr_ok (Classical.not_not.1 hb2)
   have h6h := hok.h6
   rw [hs_len] at h6h
   have h6h2 := hok2.h6
   rw [hs_len] at h6h2
   have hc1 : ∀ i, i < hs.length → -1 ≤ (hs.getD i default).2.1 ∧ (hs.getD i default).2.1 < (cs.length : Int) := fun i hi => by
     have := (hok.h i (by rw [hs_len]; exact hi)).c
     simp only [trOf, hd_get hi] at this
     exact this
   have hc2 : ∀ i, i < hs2.length → -1 ≤ (hs2.getD i default).2.1 ∧ (hs2.getD i default).2.1 < (cs2.length : Int) := fun i hi => by
     have := (hok2.h i (by rw [hs_len]; exact hi)).c
     simp only [trOf, hd_get hi] at this
     exact this
   refine hc_outerF (ps := hs) (A := B) (f := Hd.row) (by repeat constructor) ?_
   refine hc_outerF (ps := hs2) (A := B2) (f := Hd.row) (by repeat constructor) ?_
   refine hc_skip (then_n (hc_seq (hc_region (r_assign rfl rfl (hl_nil (then_n (hc_seq (hc_seq (hc_region (r_assign rfl rfl (hl_nil ?_)))))))))))
   refine then_n (hc_block ?_)
   refine hc_loop (β := Nat × OutC × Hp) ⟨fun x => x.1 ≤ hs.length ∧ Grow T.string 1 x.2.1.1 x.1 x.2.1.2 (rows ((hs.map fun h : Hd => h.1).take x.1)) x.2.2, fun x => [(2, .pointer (some ⟨gB, 0, none⟩)), (3, .pointer (some ⟨gB2, 0, none⟩)), (8, .slice x.2.1.1 x.1 x.2.1.2), (9, int x.1)], fun x => x.2.2, fun _ => [Row B (rows hs), Row B2 (rows hs2), Blk gB (.cells #[.slice A cs.length ca, .slice B hs.length cb] T.api_Trades (0, 0)), Blk gB2 (.cells #[.slice A2 cs2.length ca2, .slice B2 hs2.length cb2] T.api_Trades (0, 0)), Row A (rows cs), RowsF B hs Hd.row, Row A2 (rows cs2), RowsF B2 hs2 Hd.row]⟩ (fun x => hs.length - x.1) (0, (none, 0), []) ⟨Nat.zero_le _, Grow.nil _ _⟩ ⟨rfl, rfl, rfl, rfl, trivial⟩ (List.nil_sublist _) ⟨(by repeat constructor), (by repeat constructor), (by repeat constructor), (by repeat constructor), (by repeat constructor), (by repeat constructor), (by repeat constructor), (by repeat constructor), trivial⟩ fun x hx => ?_
   obtain ⟨k, ⟨na, nc⟩, og⟩ := x
   obtain ⟨hk, hG⟩ := hx
   simp only at hk hG
   refine hc_seq (hc_seq (hc_region (r_move rfl rfl ?_)))
   refine r_fieldAddr ⟨_, 1, none⟩ rfl rfl T.fa_api_Trades_1 rfl ?_
   refine r_load rfl T.cell_L_api_Head rfl (cell_blk (by repeat constructor) rfl) ?_
   refine r_len_sl rfl T.u_L_api_Head rfl ?_
   refine r_lss rfl rfl rfl (hl_nil (then_n ?_))
   refine c_dec rfl (fun hb3 => ?_) (fun hb3 => ?_)
   ·have hb3' := hb3; try simp at hb3'
    have hk2 : k < hs.length := by omega
    refine hc_skip (then_n (hc_seq (hc_block (hc_region (r_move rfl rfl ?_)))))
    refine r_fieldAddr ⟨_, 1, none⟩ rfl rfl T.fa_api_Trades_1 rfl ?_
    refine r_load rfl T.cell_L_api_Head rfl (cell_blk (by repeat constructor) rfl) ?_
    refine r_move rfl rfl ?_
    refine r_elem (α := Hd) hs k rfl T.u_L_api_Head T.sz_api_Head rfl rfl rfl (by repeat constructor) rfl hk2 (by decide) ?_
    refine r_fieldAddr _ rfl rfl T.fa_api_Head_0 rfl ?_
    refine r_load (v := str (hs.getD k default).1) rfl T.cell_string rfl (cell_row_f (by repeat constructor) (rows_get hk2 rfl)) ?_
    refine r_buildSlice _ rfl rfl (fun _ => T.bs_strs_1 ..) fun gS => ?_
    refine hl_letgo (rows [(hs.getD k default).1]) (List.prefix_refl _) ?_
    refine r_append (k + 1) (rows ((hs.map fun h : Hd => h.1).take (k + 1))) T.el_strs rfl rfl rfl hG (hp' := []) (show List.Perm og (og ++ []) from by rw [List.append_nil]) (Src.row (news := rows [(hs.getD k default).1]) (m := 1) m0 rfl (rows_one _) (by decide)) rfl (by rw [take_succ_getD (hs.map fun h : Hd => h.1) k (by rw [List.length_map]; exact hk2), rows_append, word_get hk2]) (by unfold maxLen; omega) (by omega) fun A' c' og' hG' => ?_
    refine r_assign rfl rfl (hl_nil (inb_n (then_n (hc_region (r_move rfl rfl ?_)))))
    refine r_add _ rfl rfl rfl rfl (by unfold I64; omega) ?_
    refine r_assign rfl rfl (hl_nil ?_)
    exact again _ (k + 1, (A', c'), og') ⟨by show k + 1 ≤ hs.length; omega, hG'⟩ (by show hs.length - (k + 1) < hs.length - k; omega) ⟨rfl, rfl, rfl, rfl, trivial⟩ (List.sublist_append_left _ _) ⟨(by repeat constructor), (by repeat constructor), (by repeat constructor), (by repeat constructor), (by repeat constructor), (by repeat constructor), (by repeat constructor), (by repeat constructor), trivial⟩
   ·have hb3' := hb3; try simp at hb3'
    obtain rfl : k = hs.length := by omega
    rw [List.take_of_length_le (by rw [List.length_map]; exact Nat.le_refl _)] at hG
    refine hc_exit (then_exit (then_exit (inb_hit (then_n (hc_seq (hc_seq (hc_region (r_assign rfl rfl (hl_nil (then_n (hc_block ?_)))))))))))
    refine hc_loop (β := Nat × OutC × Hp) ⟨fun x => x.1 ≤ hs2.length ∧ Grow T.string 1 x.2.1.1 (hs.length + x.1) x.2.1.2 (rows ((hs.map fun h : Hd => h.1) ++ (hs2.map fun h : Hd => h.1).take x.1)) x.2.2, fun x => [(2, .pointer (some ⟨gB, 0, none⟩)), (3, .pointer (some ⟨gB2, 0, none⟩)), (8, .slice x.2.1.1 (hs.length + x.1) x.2.1.2), (10, int x.1)], fun x => x.2.2, fun _ => [Row B (rows hs), Row B2 (rows hs2), Blk gB (.cells #[.slice A cs.length ca, .slice B hs.length cb] T.api_Trades (0, 0)), Blk gB2 (.cells #[.slice A2 cs2.length ca2, .slice B2 hs2.length cb2] T.api_Trades (0, 0)), Row A (rows cs), RowsF B hs Hd.row, Row A2 (rows cs2), RowsF B2 hs2 Hd.row]⟩ (fun x => hs2.length - x.1) (0, (na, nc), og) ⟨Nat.zero_le _, by show Grow _ _ _ (hs.length + 0) _ (rows ((hs.map fun h : Hd => h.1) ++ (hs2.map fun h : Hd => h.1).take 0)) _; rw [List.take_zero, List.append_nil]; exact hG⟩ ⟨rfl, rfl, rfl, rfl, trivial⟩ (List.Sublist.refl _) ⟨(by repeat constructor), (by repeat constructor), (by repeat constructor), (by repeat constructor), (by repeat constructor), (by repeat constructor), (by repeat constructor), (by repeat constructor), trivial⟩ fun x hx => ?_
    clear hG
    obtain ⟨k, ⟨na, nc⟩, og⟩ := x
    obtain ⟨hk, hG⟩ := hx
    simp only at hk hG
    refine hc_seq (hc_seq (hc_region (r_move rfl rfl ?_)))
    refine r_fieldAddr ⟨_, 1, none⟩ rfl rfl T.fa_api_Trades_1 rfl ?_
    refine r_load rfl T.cell_L_api_Head rfl (cell_blk (by repeat constructor) rfl) ?_
    refine r_len_sl rfl T.u_L_api_Head rfl ?_
    refine r_lss rfl rfl rfl (hl_nil (then_n ?_))
    refine c_dec rfl (fun hb4 => ?_) (fun hb4 => ?_)
    ·have hb4' := hb4; try simp at hb4'
     have hk2 : k < hs2.length := by omega
     refine hc_skip (then_n (hc_seq (hc_block (hc_region (r_move rfl rfl ?_)))))
     refine r_fieldAddr ⟨_, 1, none⟩ rfl rfl T.fa_api_Trades_1 rfl ?_
     refine r_load rfl T.cell_L_api_Head rfl (cell_blk (by repeat constructor) rfl) ?_
     refine r_move rfl rfl ?_
     refine r_elem (α := Hd) hs2 k rfl T.u_L_api_Head T.sz_api_Head rfl rfl rfl (by repeat constructor) rfl hk2 (by decide) ?_
     refine r_fieldAddr _ rfl rfl T.fa_api_Head_0 rfl ?_
     refine r_load (v := str (hs2.getD k default).1) rfl T.cell_string rfl (cell_row_f (by repeat constructor) (rows_get hk2 rfl)) ?_
     refine r_buildSlice _ rfl rfl (fun _ => T.bs_strs_1 ..) fun gS => ?_
     refine hl_letgo (rows [(hs2.getD k default).1]) (List.prefix_refl _) ?_
     refine r_append (hs.length + k + 1) (rows ((hs.map fun h : Hd => h.1) ++ (hs2.map fun h : Hd => h.1).take (k + 1))) T.el_strs rfl rfl rfl hG (hp' := []) (show List.Perm og (og ++ []) from by rw [List.append_nil]) (Src.row (news := rows [(hs2.getD k default).1]) (m := 1) m0 rfl (rows_one _) (by decide)) rfl (by rw [take_succ_getD (hs2.map fun h : Hd => h.1) k (by rw [List.length_map]; exact hk2), ← List.append_assoc, rows_append _ [_], word_get hk2]) (by unfold maxLen; omega) (by omega) fun A' c' og' hG' => ?_
     refine r_assign rfl rfl (hl_nil (inb_n (then_n (hc_region (r_move rfl rfl ?_)))))
     refine r_add _ rfl rfl rfl rfl (by unfold I64; omega) ?_
     refine r_assign rfl rfl (hl_nil ?_)
     exact again _ (k + 1, (A', c'), og') ⟨by show k + 1 ≤ hs2.length; omega, hG'⟩ (by show hs2.length - (k + 1) < hs2.length - k; omega) ⟨rfl, rfl, rfl, rfl, trivial⟩ (List.sublist_append_left _ _) ⟨(by repeat constructor), (by repeat constructor), (by repeat constructor), (by repeat constructor), (by repeat constructor), (by repeat constructor), (by repeat constructor), (by repeat constructor), trivial⟩
    ·have hb4' := hb4; try simp at hb4'
     obtain rfl : k = hs2.length := by omega
     rw [List.take_of_length_le (by rw [List.length_map]; exact Nat.le_refl _)] at hG
     obtain ⟨ws, hws⟩ : ∃ ws, ws = (hs.map fun h : Hd => h.1) ++ (hs2.map fun h : Hd => h.1) := ⟨_, rfl⟩
     have hwl : ws.length = hs.length + hs2.length := by rw [hws, List.length_append, List.length_map, List.length_map]
     rw [← hws] at hG
     obtain ⟨r, hr⟩ : ∃ r, r = sortU (wordsT (trOf cs hs) ++ wordsT (trOf cs2 hs2)) := ⟨_, rfl⟩
     have hrs : r.Pairwise (· < ·) := by rw [hr]; exact sortU_sorted _
     have hrm : ∀ x, x ∈ r ↔ x ∈ ws := fun x => by rw [hr, sortU_mem, words_of, words_of, hws]
     have hrl : r.length ≤ 12 := by
       rw [hr]
       refine Nat.le_trans (sortU_len _) ?_
       rw [words_of, words_of, List.length_append, List.length_map, List.length_map]
       omega
     have hwne : ∀ x ∈ ws, ¬ x = [] := fun x hx => by
       rw [hws, List.mem_append] at hx
       rcases hx with hx | hx
       ·exact words_ne hok hx
       ·exact words_ne hok2 hx
     have hrne : ∀ x ∈ r, ¬ x = [] := fun x hx => hwne x ((hrm x).1 hx)
     generalize na = wa at *
     generalize nc = wc at *
     refine hc_grown0 hG ?_
     clear hG
     refine hc_exit (then_exit (then_exit (inb_hit (then_n (hc_seq (hc_region (r_assign rfl rfl (hl_nil (then_n (hc_seq (hc_region ?_)))))))))))
     refine r_assign rfl rfl (hl_nil (then_n (hc_seq (hc_seq (hc_region (r_assign rfl rfl (hl_nil (then_n (hc_block ?_)))))))))
     refine hc_loop (β := Nat × Bool × Str × OutC × Hp) ⟨fun x => x.1 ≤ r.length ∧ (x.2.1 = false → x.1 = r.length) ∧ (x.2.1 = true → x.2.2.1 = lastW r x.1) ∧ Grow T.api_Move 2 x.2.2.2.1.1 ((r.take (x.1)).filterMap (moveN (trOf cs hs) (trOf cs2 hs2))).length x.2.2.2.1.2 (rows ((r.take (x.1)).filterMap (moveN (trOf cs hs) (trOf cs2 hs2)))) x.2.2.2.2, fun x => [(2, .pointer (some ⟨gB, 0, none⟩)), (3, .pointer (some ⟨gB2, 0, none⟩)), (8, .slice wa ws.length wc), (11, .slice x.2.2.2.1.1 ((r.take (x.1)).filterMap (moveN (trOf cs hs) (trOf cs2 hs2))).length x.2.2.2.1.2), (12, str x.2.2.1), (13, .bool x.2.1)], fun x => x.2.2.2.2, fun _ => (Row wa (rows ws) :: [Row B (rows hs), Row B2 (rows hs2), Blk gB (.cells #[.slice A cs.length ca, .slice B hs.length cb] T.api_Trades (0, 0)), Blk gB2 (.cells #[.slice A2 cs2.length ca2, .slice B2 hs2.length cb2] T.api_Trades (0, 0)), Row A (rows cs), RowsF B hs Hd.row, Row A2 (rows cs2), RowsF B2 hs2 Hd.row])⟩ (fun x => if x.2.1 = true then r.length - x.1 + 1 else 0) (0, true, [], (none, 0), []) ⟨Nat.zero_le _, fun h => (by cases h), fun _ => (lastW_zero r).symm, Grow.nil _ _⟩ ⟨rfl, rfl, congrArg (fun n => some (Value.slice wa n wc)) hwl.symm, rfl, rfl, rfl, trivial⟩ (List.nil_sublist _) ⟨(by repeat constructor), (by repeat constructor), (by repeat constructor), (by repeat constructor), (by repeat constructor), (by repeat constructor), (by repeat constructor), (by repeat constructor), (by repeat constructor), trivial⟩ fun x hx => ?_
     obtain ⟨k, more, last, ⟨na, nc⟩, og⟩ := x
     obtain ⟨hk, hmf, hmt, hG⟩ := hx
     simp only at hk hmf hmt hG
     have hol : ((r.take (k)).filterMap (moveN (trOf cs hs) (trOf cs2 hs2))).length ≤ k := Nat.le_trans (List.length_filterMap_le _ _) (by rw [List.length_take]; omega)
     refine hc_seq (hc_seq (hc_region (r_move rfl rfl (hl_nil (then_n ?_)))))
     refine hc_cond rfl (fun hb5 => ?_) (fun hb5 => ?_)
     ·have hb5' := hb5; try simp at hb5'
      have hmo : more = true := hb5
      subst hmo
      have hla := hmt rfl
      subst hla
      have hnx := nx_next hrs hrm hwne hk
      refine hc_skip (then_n (hc_block (hc_seq (hc_region (r_assign rfl rfl (hl_nil (then_n (hc_seq (hc_seq (hc_region (r_assign rfl rfl ?_)))))))))))
      refine hl_nil (then_n (hc_block ?_))
      refine hc_loop (β := Nat) ⟨fun j => j ≤ ws.length, fun j => [(2, .pointer (some ⟨gB, 0, none⟩)), (3, .pointer (some ⟨gB2, 0, none⟩)), (8, .slice wa ws.length wc), (11, .slice na ((r.take (k)).filterMap (moveN (trOf cs hs) (trOf cs2 hs2))).length nc), (12, str (lastW r k)), (14, str (nxW (lastW r k) ws j)), (15, int j)], fun _ => og, fun _ => (Row wa (rows ws) :: [Row B (rows hs), Row B2 (rows hs2), Blk gB (.cells #[.slice A cs.length ca, .slice B hs.length cb] T.api_Trades (0, 0)), Blk gB2 (.cells #[.slice A2 cs2.length ca2, .slice B2 hs2.length cb2] T.api_Trades (0, 0)), Row A (rows cs), RowsF B hs Hd.row, Row A2 (rows cs2), RowsF B2 hs2 Hd.row])⟩ (fun j => ws.length - j) 0 (Nat.zero_le _) ⟨rfl, rfl, rfl, rfl, rfl, congrArg (fun s : Str => some (str s)) (nxW_zero _ _).symm, rfl, trivial⟩ (List.Sublist.refl _) ⟨(by repeat constructor), (by repeat constructor), (by repeat constructor), (by repeat constructor), (by repeat constructor), (by repeat constructor), (by repeat constructor), (by repeat constructor), (by repeat constructor), trivial⟩ fun j hj => ?_
      simp only at hj
      refine hc_seq (hc_seq (hc_region (r_move rfl rfl (r_move rfl rfl ?_))))
      refine r_len_sl rfl T.u_strs rfl ?_
      refine r_lss rfl rfl rfl (hl_nil (then_n ?_))
      refine c_dec rfl (fun hb6 => ?_) (fun hb6 => ?_)
      ·have hb6' := hb6; try simp at hb6'
       have hj2 : j < ws.length := by omega
       have hns : (nxW (lastW r k) ws (j + 1)) = if lastW r k < wat ws j ∧ ((nxW (lastW r k) ws j) = [] ∨ wat ws j < (nxW (lastW r k) ws j)) then wat ws j else (nxW (lastW r k) ws j) := nxW_succ _ _ _
       refine hc_skip (then_n (hc_seq (hc_block (hc_seq (hc_region (r_move rfl rfl (r_move rfl rfl ?_)))))))
       refine r_elem (α := Str) ws j rfl T.u_strs T.sz_string rfl rfl rfl (by repeat constructor) rfl hj2 (by decide) ?_
       refine r_load (v := str (wat ws j)) rfl T.cell_string rfl (cell_row (by repeat constructor) (rows_get0 hj2 rfl)) ?_
       refine r_move rfl rfl (r_sgtr rfl rfl rfl ?_)
       rw [sgtr_eq]
       refine r_move rfl rfl ?_
       refine g_split rfl rfl ?_ ?_
       ·intro hg1; have hg1' := hg1; try simp at hg1'
        have g24_7 : lastW r k < wat ws j := of_decide_eq_true (eq_of_beq hg1)
        refine g_yes rfl rfl hg1 (r_move rfl rfl (g_yes rfl rfl hg1 ?_))
        refine r_seql (y' := ([] : Str)) rfl rfl rfl ?_
        refine g_yes rfl rfl hg1 (r_move rfl rfl ?_)
        refine g_split rfl rfl ?_ ?_
        ·intro hg2; have hg2' := hg2; try simp at hg2'
         have g24_10 : ¬ (nxW (lastW r k) ws j) = [] := of_decide_eq_false (eq_of_beq hg2)
         refine g_yes rfl rfl hg2 (r_move rfl rfl (g_yes rfl rfl hg2 (r_move rfl rfl (g_yes rfl rfl hg2 ?_))))
         refine r_elem (α := Str) ws j rfl T.u_strs T.sz_string rfl rfl rfl (by repeat constructor) rfl hj2 (by decide) ?_
         refine g_yes rfl rfl hg2 ?_
         refine r_load (v := str (wat ws j)) rfl T.cell_string rfl (cell_row (by repeat constructor) (rows_get0 hj2 rfl)) ?_
         refine g_yes rfl rfl hg2 (r_move rfl rfl (g_yes rfl rfl hg2 (r_slss rfl rfl rfl ?_)))
         rw [str_lt_dec]
         refine g_yes rfl rfl hg1 ?_
         refine p_f rfl rfl (bf1 hg2) rfl ?_
         refine p_t rfl rfl (bt1 hg1) rfl ?_
         refine hl_nil (then_n ?_)
         refine c_dec rfl (fun hb7 => ?_) (fun hb7 => ?_)
         ·have hb7' := hb7; try simp at hb7'
          refine hc_region (r_move rfl rfl (r_move rfl rfl ?_))
          refine r_elem (α := Str) ws j rfl T.u_strs T.sz_string rfl rfl rfl (by repeat constructor) rfl hj2 (by decide) ?_
          refine r_load (v := str (wat ws j)) rfl T.cell_string rfl (cell_row (by repeat constructor) (rows_get0 hj2 rfl)) ?_
          refine r_assign rfl rfl (hl_nil (inb_n (then_n (hc_region (r_move rfl rfl ?_)))))
          refine r_add _ rfl rfl rfl rfl (by unfold I64; omega) ?_
          refine r_assign rfl rfl (hl_nil ?_)
          exact again _ (j + 1) (by show j + 1 ≤ ws.length; omega) (by show ws.length - (j + 1) < ws.length - j; omega) ⟨rfl, rfl, rfl, rfl, rfl, congrArg (fun s : Str => some (str s)) (by show wat ws j = _; rw [hns, if_pos ⟨g24_7, .inr hb7⟩]), rfl, trivial⟩ (List.Sublist.refl _) ⟨(by repeat constructor), (by repeat constructor), (by repeat constructor), (by repeat constructor), (by repeat constructor), (by repeat constructor), (by repeat constructor), (by repeat constructor), (by repeat constructor), trivial⟩
         ·have hb7' := hb7; try simp at hb7'
          refine hc_skip (inb_n (then_n (hc_region (r_move rfl rfl ?_))))
          refine r_add _ rfl rfl rfl rfl (by unfold I64; omega) ?_
          refine r_assign rfl rfl (hl_nil ?_)
          exact again _ (j + 1) (by show j + 1 ≤ ws.length; omega) (by show ws.length - (j + 1) < ws.length - j; omega) ⟨rfl, rfl, rfl, rfl, rfl, congrArg (fun s : Str => some (str s)) (by show (nxW (lastW r k) ws j) = _; rw [hns, if_neg (fun e => e.2.elim g24_10 hb7)]), rfl, trivial⟩ (List.Sublist.refl _) ⟨(by repeat constructor), (by repeat constructor), (by repeat constructor), (by repeat constructor), (by repeat constructor), (by repeat constructor), (by repeat constructor), (by repeat constructor), (by repeat constructor), trivial⟩
        ·intro hg2; have hg2' := hg2; try simp at hg2'
         have g24_10 : (nxW (lastW r k) ws j) = [] := Classical.byContradiction (fun e => by rw [decide_eq_false e] at hg2; cases hg2)
         refine g_no rfl rfl rfl rfl rfl hg2 (g_no rfl rfl rfl rfl rfl hg2 (g_no rfl rfl rfl rfl rfl hg2 (g_no rfl rfl rfl rfl rfl hg2 (g_no rfl rfl rfl rfl rfl hg2 (g_no rfl rfl rfl rfl rfl hg2 (g_yes rfl rfl hg1 ?_))))))
         refine p_t rfl rfl (bt2 hg2) rfl ?_
         refine p_t rfl rfl (bt1 hg1) rfl ?_
         refine hl_nil (then_n (c_t rfl rfl (hc_region (r_move rfl rfl (r_move rfl rfl ?_)))))
         refine r_elem (α := Str) ws j rfl T.u_strs T.sz_string rfl rfl rfl (by repeat constructor) rfl hj2 (by decide) ?_
         refine r_load (v := str (wat ws j)) rfl T.cell_string rfl (cell_row (by repeat constructor) (rows_get0 hj2 rfl)) ?_
         refine r_assign rfl rfl (hl_nil (inb_n (then_n (hc_region (r_move rfl rfl ?_)))))
         refine r_add _ rfl rfl rfl rfl (by unfold I64; omega) ?_
         refine r_assign rfl rfl (hl_nil ?_)
         exact again _ (j + 1) (by show j + 1 ≤ ws.length; omega) (by show ws.length - (j + 1) < ws.length - j; omega) ⟨rfl, rfl, rfl, rfl, rfl, congrArg (fun s : Str => some (str s)) (by show wat ws j = _; rw [hns, if_pos ⟨g24_7, .inl g24_10⟩]), rfl, trivial⟩ (List.Sublist.refl _) ⟨(by repeat constructor), (by repeat constructor), (by repeat constructor), (by repeat constructor), (by repeat constructor), (by repeat constructor), (by repeat constructor), (by repeat constructor), (by repeat constructor), trivial⟩
       ·intro hg1; have hg1' := hg1; try simp at hg1'
        have g24_7 : ¬ lastW r k < wat ws j := of_decide_eq_false (bf2 hg1)
        refine g_no rfl rfl rfl rfl rfl hg1 (g_no rfl rfl rfl rfl rfl hg1 (g_no rfl rfl rfl rfl rfl hg1 (g_und rfl rfl rfl rfl rfl rfl (g_und rfl rfl rfl rfl rfl rfl (g_und rfl rfl rfl rfl rfl rfl (g_und rfl rfl rfl rfl rfl rfl (g_und rfl rfl rfl rfl rfl rfl (g_und rfl rfl rfl rfl rfl rfl (g_no rfl rfl rfl rfl rfl hg1 ?_)))))))))
        refine p_f rfl rfl (bf2 hg1) rfl ?_
        refine hl_nil (then_n (c_f rfl rfl (hc_skip (inb_n (then_n (hc_region (r_move rfl rfl ?_)))))))
        refine r_add _ rfl rfl rfl rfl (by unfold I64; omega) ?_
        refine r_assign rfl rfl (hl_nil ?_)
        exact again _ (j + 1) (by show j + 1 ≤ ws.length; omega) (by show ws.length - (j + 1) < ws.length - j; omega) ⟨rfl, rfl, rfl, rfl, rfl, congrArg (fun s : Str => some (str s)) (by show (nxW (lastW r k) ws j) = _; rw [hns, if_neg (fun e => g24_7 e.1)]), rfl, trivial⟩ (List.Sublist.refl _) ⟨(by repeat constructor), (by repeat constructor), (by repeat constructor), (by repeat constructor), (by repeat constructor), (by repeat constructor), (by repeat constructor), (by repeat constructor), (by repeat constructor), trivial⟩
      ·have hb6' := hb6; try simp at hb6'
       obtain rfl : j = ws.length := by omega
       refine hc_exit (then_exit (then_exit (inb_hit (then_n (hc_seq (hc_region (r_move rfl rfl ?_)))))))
       refine r_sneq (y' := ([] : Str)) rfl rfl rfl ?_
       refine r_move rfl rfl (r_assign rfl rfl (r_assign rfl rfl (hl_nil (then_n (hc_seq ?_)))))
       refine hc_drawW (og) ([]) (show List.Perm og (og ++ []) from by rw [List.append_nil]) 5 [] mixed (by decide) (by decide) (by decide) rfl rfl rfl ?_
       apply hb_ex _ rfl rfl rfl
       ·intro w1
        refine r_loadB rfl T.row_api_Trades T.sz_api_Trades rfl (by repeat constructor) (by rfl) ?_
        refine hl_nil ?_
        exact qe_done rfl
       apply hb_ex _ rfl rfl rfl
       ·intro w1
        refine r_move rfl rfl (hl_nil ?_)
        exact qe_done rfl
       refine hb_vs ⟨Int, fun z => TrAt hs (nxW (lastW r k) ws ws.length) z, fun z => int z, fun _ => []⟩ rfl rfl rfl ?_ ?_
       ·intro w1
        refine hl_call F.ref04_trade_cb rfl rfl (ref04_trade_meets cs hs (nxW (lastW r k) ws ws.length) (by omega) (fun i hi => (hc1 i hi).1)) (List.Perm.refl _) ⟨(by repeat constructor), trivial⟩ fun z hz => ?_
        refine hl_nil ?_
        exact qv_done z hz rfl trivial
       apply hb_ex _ rfl rfl rfl
       ·intro w1
        refine r_loadB rfl T.row_api_Trades T.sz_api_Trades rfl (by repeat constructor) (by rfl) ?_
        refine hl_nil ?_
        exact qe_done rfl
       apply hb_ex _ rfl rfl rfl
       ·intro w1
        refine r_move rfl rfl (hl_nil ?_)
        exact qe_done rfl
       refine hb_nil ⟨rfl, ?_⟩
       intro z1 hz1
       refine hl_call F.ref04_trade_cb rfl rfl (ref04_trade_meets cs2 hs2 (nxW (lastW r k) ws ws.length) (by omega) (fun i hi => (hc2 i hi).1)) (hpR := og) (by rw [List.append_nil]; exact List.Perm.refl _) ⟨(by repeat constructor), trivial⟩ fun z2 hz2 => ?_
       refine r_assign rfl rfl (r_assign rfl rfl (hl_nil (then_n (hc_block ?_))))
       refine hc_cut ⟨fun _ : Unit => True, fun _ => [(2, .pointer (some ⟨gB, 0, none⟩)), (3, .pointer (some ⟨gB2, 0, none⟩)), (8, .slice wa ws.length wc), (11, .slice na ((r.take (k)).filterMap (moveN (trOf cs hs) (trOf cs2 hs2))).length nc), (12, str (nxW (lastW r k) ws ws.length)), (13, .bool (decide (¬ (nxW (lastW r k) ws ws.length) = []))), (14, str (nxW (lastW r k) ws ws.length)), (16, int z1), (17, int z2), (98, .bool (decide (0 ≤ z1 ∧ z2 < 0)))], fun _ => og, fun _ => (Row wa (rows ws) :: [Row B (rows hs), Row B2 (rows hs2), Blk gB (.cells #[.slice A cs.length ca, .slice B hs.length cb] T.api_Trades (0, 0)), Blk gB2 (.cells #[.slice A2 cs2.length ca2, .slice B2 hs2.length cb2] T.api_Trades (0, 0)), Row A (rows cs), RowsF B hs Hd.row, Row A2 (rows cs2), RowsF B2 hs2 Hd.row])⟩ ?_ ?_
       ·skip
        have hw1 := fun h0 => at_word hz1 h0
        have hw2 := fun h0 => at_word hz2 h0
        refine hc_region (r_move rfl rfl (r_geq rfl rfl rfl (r_move rfl rfl ?_)))
        refine g_split rfl rfl ?_ ?_
        ·intro hg3; have hg3' := hg3; try simp at hg3'
         have g28_3 : 0 ≤ z1 := of_decide_eq_true (eq_of_beq hg3)
         refine g_yes rfl rfl hg3 (r_move rfl rfl (g_yes rfl rfl hg3 (r_lss rfl rfl rfl ?_)))
         refine p_t rfl rfl (bt1 hg3) rfl ?_
         refine r_assign rfl rfl (hl_nil ?_)
         exact cut_n _ () trivial ⟨rfl, rfl, rfl, rfl, rfl, rfl, rfl, rfl, rfl, congrArg (fun b => some (Value.bool b)) (by exact decide_eq_decide.2 ⟨fun e => ⟨g28_3, e⟩, fun e => e.2⟩), trivial⟩ (List.Sublist.refl _) ⟨(by repeat constructor), (by repeat constructor), (by repeat constructor), (by repeat constructor), (by repeat constructor), (by repeat constructor), (by repeat constructor), (by repeat constructor), (by repeat constructor), trivial⟩
        ·intro hg3; have hg3' := hg3; try simp at hg3'
         have g28_3 : ¬ 0 ≤ z1 := of_decide_eq_false (bf2 hg3)
         refine g_no rfl rfl rfl rfl rfl hg3 (g_no rfl rfl rfl rfl rfl hg3 ?_)
         refine p_f rfl rfl (bf2 hg3) rfl ?_
         refine r_assign rfl rfl (hl_nil ?_)
         exact cut_n _ () trivial ⟨rfl, rfl, rfl, rfl, rfl, rfl, rfl, rfl, rfl, congrArg (fun b => some (Value.bool b)) (by exact (decide_eq_false (fun e => g28_3 e.1)).symm), trivial⟩ (List.Sublist.refl _) ⟨(by repeat constructor), (by repeat constructor), (by repeat constructor), (by repeat constructor), (by repeat constructor), (by repeat constructor), (by repeat constructor), (by repeat constructor), (by repeat constructor), trivial⟩
       ·refine fun _ _ => ?_
        have hw1 := fun h0 => at_word hz1 h0
        have hw2 := fun h0 => at_word hz2 h0
        refine c_dec rfl (fun hb8 => ?_) (fun hb8 => ?_)
        ·have hb8' := hb8; try simp at hb8'
         refine hc_region (r_move rfl rfl (r_move rfl rfl ?_))
         refine r_build _ rfl rfl (fun _ => T.bd_api_Move_0_1 ..) ?_
         refine r_buildSlice _ rfl rfl (fun _ => T.bs_L_api_Move_1 ..) fun gS => ?_
         refine hl_letgo (rows [(((nxW (lastW r k) ws ws.length), (1 : Int)) : Cl)]) (List.prefix_refl _) ?_
         refine r_append (((r.take (k)).filterMap (moveN (trOf cs hs) (trOf cs2 hs2))).length + 1) (rows (((r.take (k)).filterMap (moveN (trOf cs hs) (trOf cs2 hs2))) ++ [(((nxW (lastW r k) ws ws.length), (1 : Int)) : Cl)])) T.el_L_api_Move rfl rfl rfl hG (hp' := []) (show List.Perm og (og ++ []) from by rw [List.append_nil]) (Src.row (news := rows [(((nxW (lastW r k) ws ws.length), (1 : Int)) : Cl)]) (m := 1) m0 rfl (rows_one _) (by decide)) rfl (rows_append _ _).symm (by unfold maxLen; omega) (by omega) fun A' c' og' hG' => ?_
         refine r_assign rfl rfl (hl_nil (inb_n (inb_n ?_)))
         have hn0 : ¬ (nxW (lastW r k) ws ws.length) = [] := by rw [← (hw1 hb8.1).2.1]; exact head_ne hok (by have := (hw1 hb8.1).1; omega)
         obtain ⟨hk2, hnx⟩ := hnx.resolve_right (fun e => hn0 e.2)
         have hmv := move_at (cs := cs) (cs2 := cs2) hz1 hz2
         rw [if_pos hb8] at hmv
         have hst := out_step (f := moveN (trOf cs hs) (trOf cs2 hs2)) hk2
         rw [← hnx, hmv] at hst
         exact again _ (k + 1, true, (nxW (lastW r k) ws ws.length), (A', c'), og') ⟨by show k + 1 ≤ r.length; omega, fun h => (by cases h), fun _ => (lastW_succ r k).symm ▸ hnx, by show Grow _ _ _ ((r.take (k + 1)).filterMap (moveN (trOf cs hs) (trOf cs2 hs2))).length _ (rows ((r.take (k + 1)).filterMap (moveN (trOf cs hs) (trOf cs2 hs2)))) _; rw [hst, List.length_append]; exact hG'⟩ (by show (if true = true then r.length - (k + 1) + 1 else 0) < (if true = true then r.length - k + 1 else 0); rw [if_pos rfl, if_pos rfl]; omega) ⟨rfl, rfl, rfl, (by show some (Value.slice A' (((r.take (k)).filterMap (moveN (trOf cs hs) (trOf cs2 hs2))).length + 1) c') = some (Value.slice A' ((r.take (k + 1)).filterMap (moveN (trOf cs hs) (trOf cs2 hs2))).length c'); rw [hst, List.length_append]; rfl), rfl, congrArg (fun b => some (Value.bool b)) (decide_eq_true hn0), trivial⟩ (List.sublist_append_left _ _) ⟨(by repeat constructor), (by repeat constructor), (by repeat constructor), (by repeat constructor), (by repeat constructor), (by repeat constructor), (by repeat constructor), (by repeat constructor), (by repeat constructor), trivial⟩
        ·have hb8' := hb8; try simp at hb8'
         refine hc_cut ⟨fun _ : Unit => True, fun _ => [(2, .pointer (some ⟨gB, 0, none⟩)), (3, .pointer (some ⟨gB2, 0, none⟩)), (8, .slice wa ws.length wc), (11, .slice na ((r.take (k)).filterMap (moveN (trOf cs hs) (trOf cs2 hs2))).length nc), (12, str (nxW (lastW r k) ws ws.length)), (13, .bool (decide (¬ (nxW (lastW r k) ws ws.length) = []))), (14, str (nxW (lastW r k) ws ws.length)), (16, int z1), (17, int z2), (110, .bool (decide (z1 < 0 ∧ 0 ≤ z2)))], fun _ => og, fun _ => (Row wa (rows ws) :: [Row B (rows hs), Row B2 (rows hs2), Blk gB (.cells #[.slice A cs.length ca, .slice B hs.length cb] T.api_Trades (0, 0)), Blk gB2 (.cells #[.slice A2 cs2.length ca2, .slice B2 hs2.length cb2] T.api_Trades (0, 0)), Row A (rows cs), RowsF B hs Hd.row, Row A2 (rows cs2), RowsF B2 hs2 Hd.row])⟩ ?_ ?_
         ·skip
          refine hc_region (r_move rfl rfl (r_lss rfl rfl rfl (r_move rfl rfl ?_)))
          refine g_split rfl rfl ?_ ?_
          ·intro hg4; have hg4' := hg4; try simp at hg4'
           have g30_3 : z1 < 0 := of_decide_eq_true (eq_of_beq hg4)
           refine g_yes rfl rfl hg4 (r_move rfl rfl (g_yes rfl rfl hg4 (r_geq rfl rfl rfl ?_)))
           refine p_t rfl rfl (bt1 hg4) rfl ?_
           refine r_assign rfl rfl (hl_nil ?_)
           exact cut_n _ () trivial ⟨rfl, rfl, rfl, rfl, rfl, rfl, rfl, rfl, rfl, congrArg (fun b => some (Value.bool b)) (by exact decide_eq_decide.2 ⟨fun e => ⟨g30_3, e⟩, fun e => e.2⟩), trivial⟩ (List.Sublist.refl _) ⟨(by repeat constructor), (by repeat constructor), (by repeat constructor), (by repeat constructor), (by repeat constructor), (by repeat constructor), (by repeat constructor), (by repeat constructor), (by repeat constructor), trivial⟩
          ·intro hg4; have hg4' := hg4; try simp at hg4'
           have g30_3 : ¬ z1 < 0 := of_decide_eq_false (bf2 hg4)
           refine g_no rfl rfl rfl rfl rfl hg4 (g_no rfl rfl rfl rfl rfl hg4 ?_)
           refine p_f rfl rfl (bf2 hg4) rfl ?_
           refine r_assign rfl rfl (hl_nil ?_)
           exact cut_n _ () trivial ⟨rfl, rfl, rfl, rfl, rfl, rfl, rfl, rfl, rfl, congrArg (fun b => some (Value.bool b)) (by exact (decide_eq_false (fun e => g30_3 e.1)).symm), trivial⟩ (List.Sublist.refl _) ⟨(by repeat constructor), (by repeat constructor), (by repeat constructor), (by repeat constructor), (by repeat constructor), (by repeat constructor), (by repeat constructor), (by repeat constructor), (by repeat constructor), trivial⟩
         ·refine fun _ _ => ?_
          refine c_dec rfl (fun hb9 => ?_) (fun hb9 => ?_)
          ·have hb9' := hb9; try simp at hb9'
           refine hc_region (r_move rfl rfl (r_move rfl rfl ?_))
           refine r_build _ rfl rfl (fun _ => T.bd_api_Move_0_1 ..) ?_
           refine r_buildSlice _ rfl rfl (fun _ => T.bs_L_api_Move_1 ..) fun gS => ?_
           refine hl_letgo (rows [(((nxW (lastW r k) ws ws.length), (2 : Int)) : Cl)]) (List.prefix_refl _) ?_
           refine r_append (((r.take (k)).filterMap (moveN (trOf cs hs) (trOf cs2 hs2))).length + 1) (rows (((r.take (k)).filterMap (moveN (trOf cs hs) (trOf cs2 hs2))) ++ [(((nxW (lastW r k) ws ws.length), (2 : Int)) : Cl)])) T.el_L_api_Move rfl rfl rfl hG (hp' := []) (show List.Perm og (og ++ []) from by rw [List.append_nil]) (Src.row (news := rows [(((nxW (lastW r k) ws ws.length), (2 : Int)) : Cl)]) (m := 1) m0 rfl (rows_one _) (by decide)) rfl (rows_append _ _).symm (by unfold maxLen; omega) (by omega) fun A' c' og' hG' => ?_
           refine r_assign rfl rfl (hl_nil (inb_n (inb_n ?_)))
           have hn0 : ¬ (nxW (lastW r k) ws ws.length) = [] := by rw [← (hw2 hb9.2).2.1]; exact head_ne hok2 (by have := (hw2 hb9.2).1; omega)
           obtain ⟨hk2, hnx⟩ := hnx.resolve_right (fun e => hn0 e.2)
           have hmv := move_at (cs := cs) (cs2 := cs2) hz1 hz2
           rw [if_neg hb8, if_pos hb9] at hmv
           have hst := out_step (f := moveN (trOf cs hs) (trOf cs2 hs2)) hk2
           rw [← hnx, hmv] at hst
           exact again _ (k + 1, true, (nxW (lastW r k) ws ws.length), (A', c'), og') ⟨by show k + 1 ≤ r.length; omega, fun h => (by cases h), fun _ => (lastW_succ r k).symm ▸ hnx, by show Grow _ _ _ ((r.take (k + 1)).filterMap (moveN (trOf cs hs) (trOf cs2 hs2))).length _ (rows ((r.take (k + 1)).filterMap (moveN (trOf cs hs) (trOf cs2 hs2)))) _; rw [hst, List.length_append]; exact hG'⟩ (by show (if true = true then r.length - (k + 1) + 1 else 0) < (if true = true then r.length - k + 1 else 0); rw [if_pos rfl, if_pos rfl]; omega) ⟨rfl, rfl, rfl, (by show some (Value.slice A' (((r.take (k)).filterMap (moveN (trOf cs hs) (trOf cs2 hs2))).length + 1) c') = some (Value.slice A' ((r.take (k + 1)).filterMap (moveN (trOf cs hs) (trOf cs2 hs2))).length c'); rw [hst, List.length_append]; rfl), rfl, congrArg (fun b => some (Value.bool b)) (decide_eq_true hn0), trivial⟩ (List.sublist_append_left _ _) ⟨(by repeat constructor), (by repeat constructor), (by repeat constructor), (by repeat constructor), (by repeat constructor), (by repeat constructor), (by repeat constructor), (by repeat constructor), (by repeat constructor), trivial⟩
          ·have hb9' := hb9; try simp at hb9'
           refine hc_cut ⟨fun _ : Unit => True, fun _ => [(2, .pointer (some ⟨gB, 0, none⟩)), (3, .pointer (some ⟨gB2, 0, none⟩)), (8, .slice wa ws.length wc), (11, .slice na ((r.take (k)).filterMap (moveN (trOf cs hs) (trOf cs2 hs2))).length nc), (12, str (nxW (lastW r k) ws ws.length)), (13, .bool (decide (¬ (nxW (lastW r k) ws ws.length) = []))), (14, str (nxW (lastW r k) ws ws.length)), (16, int z1), (17, int z2), (122, .bool (decide ((0 ≤ z1 ∧ 0 ≤ z2) ∧ ¬ namesK cs hs z1 = namesK cs2 hs2 z2)))], fun _ => og, fun _ => (Row wa (rows ws) :: [Row B (rows hs), Row B2 (rows hs2), Blk gB (.cells #[.slice A cs.length ca, .slice B hs.length cb] T.api_Trades (0, 0)), Blk gB2 (.cells #[.slice A2 cs2.length ca2, .slice B2 hs2.length cb2] T.api_Trades (0, 0)), Row A (rows cs), RowsF B hs Hd.row, Row A2 (rows cs2), RowsF B2 hs2 Hd.row])⟩ ?_ ?_
           ·skip
            refine hc_region (r_move rfl rfl (r_geq rfl rfl rfl (r_move rfl rfl ?_)))
            refine g_split rfl rfl ?_ ?_
            ·intro hg5; have hg5' := hg5; try simp at hg5'
             have g32_3 : 0 ≤ z1 := of_decide_eq_true (eq_of_beq hg5)
             refine g_yes rfl rfl hg5 (r_move rfl rfl (g_yes rfl rfl hg5 (r_geq rfl rfl rfl ?_)))
             refine p_t rfl rfl (bt1 hg5) rfl ?_
             refine r_move rfl rfl ?_
             refine g_split rfl rfl ?_ ?_
             ·intro hg6; have hg6' := hg6; try simp at hg6'
              have g32_7 : 0 ≤ z2 := of_decide_eq_true (eq_of_beq hg6)
              refine g_yes rfl rfl hg6 ?_
              refine r_loadB rfl T.row_api_Trades T.sz_api_Trades rfl (by repeat constructor) (by rfl) ?_
              refine g_yes rfl rfl hg6 ?_
              refine r_loadB rfl T.row_api_Trades T.sz_api_Trades rfl (by repeat constructor) (by rfl) ?_
              refine g_yes rfl rfl hg6 (r_move rfl rfl (g_yes rfl rfl hg6 (r_move rfl rfl (g_yes rfl rfl hg6 ?_))))
              refine hl_call F.ref04_likePaths_cb rfl rfl (ref04_likePaths_meets (A := A) (B := B) (A2 := A2) (B2 := B2) (ca := ca) (cb := cb) (ca2 := ca2) (cb2 := cb2) cs hs cs2 hs2 z1 z2 hok hok2 ⟨g32_3, (hw1 g32_3).1⟩ ⟨g32_7, (hw2 g32_7).1⟩ (cls_at hc1 g32_3 (hw1 g32_3)) (cls_at hc2 g32_7 (hw2 g32_7))) (hpR := og) (List.Perm.refl _) ⟨(by repeat constructor), (by repeat constructor), (by repeat constructor), (by repeat constructor), trivial⟩ fun _ _ => ?_
              refine g_yes rfl rfl hg6 (r_not rfl rfl ?_)
              refine p_t rfl rfl (bt1 hg6) rfl ?_
              refine r_assign rfl rfl (hl_nil ?_)
              exact cut_n _ () trivial ⟨rfl, rfl, rfl, rfl, rfl, rfl, rfl, rfl, rfl, congrArg (fun b => some (Value.bool b)) (by rw [← decide_not]; exact decide_eq_decide.2 ⟨fun e => ⟨⟨g32_3, g32_7⟩, e⟩, fun e => e.2⟩), trivial⟩ (List.Sublist.refl _) ⟨(by repeat constructor), (by repeat constructor), (by repeat constructor), (by repeat constructor), (by repeat constructor), (by repeat constructor), (by repeat constructor), (by repeat constructor), (by repeat constructor), trivial⟩
             ·intro hg6; have hg6' := hg6; try simp at hg6'
              have g32_7 : ¬ 0 ≤ z2 := of_decide_eq_false (bf2 hg6)
              refine g_no rfl rfl rfl rfl rfl hg6 (g_no rfl rfl rfl rfl rfl hg6 (g_no rfl rfl rfl rfl rfl hg6 (g_no rfl rfl rfl rfl rfl hg6 (g_no rfl rfl rfl rfl rfl hg6 (g_no rfl rfl rfl rfl rfl hg6 ?_)))))
              refine p_f rfl rfl (bf2 hg6) rfl ?_
              refine r_assign rfl rfl (hl_nil ?_)
              exact cut_n _ () trivial ⟨rfl, rfl, rfl, rfl, rfl, rfl, rfl, rfl, rfl, congrArg (fun b => some (Value.bool b)) (by exact (decide_eq_false (fun e => g32_7 e.1.2)).symm), trivial⟩ (List.Sublist.refl _) ⟨(by repeat constructor), (by repeat constructor), (by repeat constructor), (by repeat constructor), (by repeat constructor), (by repeat constructor), (by repeat constructor), (by repeat constructor), (by repeat constructor), trivial⟩
            ·intro hg5; have hg5' := hg5; try simp at hg5'
             have g32_3 : ¬ 0 ≤ z1 := of_decide_eq_false (bf2 hg5)
             refine g_no rfl rfl rfl rfl rfl hg5 (g_no rfl rfl rfl rfl rfl hg5 ?_)
             refine p_f rfl rfl (bf2 hg5) rfl ?_
             refine r_move rfl rfl (g_no rfl rfl rfl rfl rfl rfl (g_no rfl rfl rfl rfl rfl rfl (g_no rfl rfl rfl rfl rfl rfl (g_no rfl rfl rfl rfl rfl rfl (g_no rfl rfl rfl rfl rfl rfl (g_no rfl rfl rfl rfl rfl rfl (p_f rfl rfl rfl rfl (r_assign rfl rfl (hl_nil ?_)))))))))
             exact cut_n _ () trivial ⟨rfl, rfl, rfl, rfl, rfl, rfl, rfl, rfl, rfl, congrArg (fun b => some (Value.bool b)) (by exact (decide_eq_false (fun e => g32_3 e.1.1)).symm), trivial⟩ (List.Sublist.refl _) ⟨(by repeat constructor), (by repeat constructor), (by repeat constructor), (by repeat constructor), (by repeat constructor), (by repeat constructor), (by repeat constructor), (by repeat constructor), (by repeat constructor), trivial⟩
           ·refine fun _ _ => ?_
            refine c_dec rfl (fun hb10 => ?_) (fun hb10 => ?_)
            ·have hb10' := hb10; try simp at hb10'
             refine hc_region (r_move rfl rfl (r_move rfl rfl ?_))
             refine r_build _ rfl rfl (fun _ => T.bd_api_Move_0_1 ..) ?_
             refine r_buildSlice _ rfl rfl (fun _ => T.bs_L_api_Move_1 ..) fun gS => ?_
             refine hl_letgo (rows [(((nxW (lastW r k) ws ws.length), (3 : Int)) : Cl)]) (List.prefix_refl _) ?_
             refine r_append (((r.take (k)).filterMap (moveN (trOf cs hs) (trOf cs2 hs2))).length + 1) (rows (((r.take (k)).filterMap (moveN (trOf cs hs) (trOf cs2 hs2))) ++ [(((nxW (lastW r k) ws ws.length), (3 : Int)) : Cl)])) T.el_L_api_Move rfl rfl rfl hG (hp' := []) (show List.Perm og (og ++ []) from by rw [List.append_nil]) (Src.row (news := rows [(((nxW (lastW r k) ws ws.length), (3 : Int)) : Cl)]) (m := 1) m0 rfl (rows_one _) (by decide)) rfl (rows_append _ _).symm (by unfold maxLen; omega) (by omega) fun A' c' og' hG' => ?_
             refine r_assign rfl rfl (hl_nil (inb_n (inb_n ?_)))
             have hn0 : ¬ (nxW (lastW r k) ws ws.length) = [] := by rw [← (hw1 hb10.1.1).2.1]; exact head_ne hok (by have := (hw1 hb10.1.1).1; omega)
             obtain ⟨hk2, hnx⟩ := hnx.resolve_right (fun e => hn0 e.2)
             have hmv := move_at (cs := cs) (cs2 := cs2) hz1 hz2
             rw [if_neg hb8, if_neg hb9, if_pos hb10] at hmv
             have hst := out_step (f := moveN (trOf cs hs) (trOf cs2 hs2)) hk2
             rw [← hnx, hmv] at hst
             exact again _ (k + 1, true, (nxW (lastW r k) ws ws.length), (A', c'), og') ⟨by show k + 1 ≤ r.length; omega, fun h => (by cases h), fun _ => (lastW_succ r k).symm ▸ hnx, by show Grow _ _ _ ((r.take (k + 1)).filterMap (moveN (trOf cs hs) (trOf cs2 hs2))).length _ (rows ((r.take (k + 1)).filterMap (moveN (trOf cs hs) (trOf cs2 hs2)))) _; rw [hst, List.length_append]; exact hG'⟩ (by show (if true = true then r.length - (k + 1) + 1 else 0) < (if true = true then r.length - k + 1 else 0); rw [if_pos rfl, if_pos rfl]; omega) ⟨rfl, rfl, rfl, (by show some (Value.slice A' (((r.take (k)).filterMap (moveN (trOf cs hs) (trOf cs2 hs2))).length + 1) c') = some (Value.slice A' ((r.take (k + 1)).filterMap (moveN (trOf cs hs) (trOf cs2 hs2))).length c'); rw [hst, List.length_append]; rfl), rfl, congrArg (fun b => some (Value.bool b)) (decide_eq_true hn0), trivial⟩ (List.sublist_append_left _ _) ⟨(by repeat constructor), (by repeat constructor), (by repeat constructor), (by repeat constructor), (by repeat constructor), (by repeat constructor), (by repeat constructor), (by repeat constructor), (by repeat constructor), trivial⟩
            ·have hb10' := hb10; try simp at hb10'
             refine hc_skip (inb_n (inb_n ?_))
             have hmv := move_at (cs := cs) (cs2 := cs2) hz1 hz2
             rw [if_neg hb8, if_neg hb9, if_neg hb10] at hmv
             rcases hnx with ⟨hk2, hnx⟩ | ⟨hk2, hnx⟩
             ·have hn0 : ¬ (nxW (lastW r k) ws ws.length) = [] := by rw [hnx]; exact hrne _ (getD_mem hk2)
              have hst := out_step (f := moveN (trOf cs hs) (trOf cs2 hs2)) hk2
              rw [← hnx, hmv, Option.toList_none, List.append_nil] at hst
              exact again _ (k + 1, true, (nxW (lastW r k) ws ws.length), (na, nc), og) ⟨by show k + 1 ≤ r.length; omega, fun h => (by cases h), fun _ => (lastW_succ r k).symm ▸ hnx, by show Grow _ _ _ ((r.take (k + 1)).filterMap (moveN (trOf cs hs) (trOf cs2 hs2))).length _ (rows ((r.take (k + 1)).filterMap (moveN (trOf cs hs) (trOf cs2 hs2)))) _; rw [hst]; exact hG⟩ (by show (if true = true then r.length - (k + 1) + 1 else 0) < (if true = true then r.length - k + 1 else 0); rw [if_pos rfl, if_pos rfl]; omega) ⟨rfl, rfl, rfl, (by show some (Value.slice na ((r.take (k)).filterMap (moveN (trOf cs hs) (trOf cs2 hs2))).length nc) = some (Value.slice na ((r.take (k + 1)).filterMap (moveN (trOf cs hs) (trOf cs2 hs2))).length nc); rw [hst]), rfl, congrArg (fun b => some (Value.bool b)) (decide_eq_true hn0), trivial⟩ (List.Sublist.refl _) ⟨(by repeat constructor), (by repeat constructor), (by repeat constructor), (by repeat constructor), (by repeat constructor), (by repeat constructor), (by repeat constructor), (by repeat constructor), (by repeat constructor), trivial⟩
             ·exact again _ (k, false, (nxW (lastW r k) ws ws.length), (na, nc), og) ⟨hk, fun _ => hk2, fun h => (by cases h), hG⟩ (by show (if false = true then r.length - k + 1 else 0) < (if true = true then r.length - k + 1 else 0); rw [if_pos rfl, if_neg (by decide)]; omega) ⟨rfl, rfl, rfl, rfl, rfl, congrArg (fun b => some (Value.bool b)) (decide_eq_false (not_not_intro hnx)), trivial⟩ (List.Sublist.refl _) ⟨(by repeat constructor), (by repeat constructor), (by repeat constructor), (by repeat constructor), (by repeat constructor), (by repeat constructor), (by repeat constructor), (by repeat constructor), (by repeat constructor), trivial⟩
     ·have hb5' := hb5; try simp at hb5'
      have hmo : more = false := by simpa using hb5
      subst hmo
      obtain rfl := hmf rfl
      refine hc_exit (then_exit (then_exit (inb_hit (then_n (hc_seq (hc_region (r_move rfl rfl (r_assign rfl rfl (r_assign rfl rfl (hl_nil (then_n ?_)))))))))))
      refine hc_ret ?_
      have hle := hG.le
      refine hq_grown0 hG ?_
      have hO : ((r.take (r.length)).filterMap (moveN (trOf cs hs) (trOf cs2 hs2))) = ((compareE (trOf cs hs) (trOf cs2 hs2))).1 := by rw [hE, List.take_length, hr]; rfl
      rw [hO] at hle ⊢
      exact ret2 (na, nc) rfl rfl rfl (by show Value.tuple #[.slice na ((compareE (trOf cs hs) (trOf cs2 hs2))).1.length nc, int ((compareE (trOf cs hs) (trOf cs2 hs2))).2] = _; rw [hE]) rfl (by show ((compareE (trOf cs hs) (trOf cs2 hs2))).1.length ≤ nc; exact hle) (List.nil_sublist _) ⟨m0, trivial⟩

end Go.Proofs.YtlpgheniajdkfaaGreat
