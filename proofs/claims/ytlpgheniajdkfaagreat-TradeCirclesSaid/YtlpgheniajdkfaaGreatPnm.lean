/- Circles of references: the plain law; numbers sorted. -/
import Derived.Test.YtlpgheniajdkfaaGreatPm5
namespace Go.Proofs.YtlpgheniajdkfaaGreat
open Go Go.W
set_option linter.unusedVariables false
set_option linter.unusedSimpArgs false
set_option maxRecDepth 20000
attribute [local irreducible] HL HC HQ HB Row Rows2 Blk Facts


theorem nodup_le : ∀ {n : Nat} {l : List Nat}, l.Nodup → (∀ y ∈ l, y < n) → l.length ≤ n
  | 0, [], _, _ => Nat.le_refl _
  | 0, x :: l, _, h => by have := h x (by simp); omega
  | n + 1, l, hnd, h => by
    have h1 := nodup_le (n := n) (hnd.erase n) fun y hy => by
      have h2 := (List.Nodup.mem_erase_iff hnd).1 hy
      have h3 := h y h2.2
      have := h2.1
      omega
    rw [List.length_erase] at h1
    split at h1 <;> omega


theorem growI_blk {l : List Int} {A : Option Addr} {cap : Nat} {og : Hp} (h : Grow T.int 1 A l.length cap (rows l) og) (hn : 0 < l.length) : ∃ g cur, A = some ⟨g, 0, none⟩ ∧ og = [(g, Obj.cells cur T.int (0, 0))] ∧ cur.toList.take (l.length * 1) = rows l := by
  rcases h.2 with ⟨_, h1, _⟩ | ⟨g, cur, h1, h2, _, _, _, h3⟩
  · omega
  · exact ⟨g, cur, h1, h2, h3⟩


def seeZ (H : List PH) (x : Int) : Int := if x < 0 then -1 else (H.getD x.toNat default).2.2.1
def orb (H : List PH) (i : Int) : Nat → Int
  | 0 => i
  | k + 1 => seeZ H (orb H i k)
theorem orb_zero (H : List PH) (i : Int) : orb H i 0 = i := rfl
theorem orb_succ (H : List PH) (i : Int) (k : Nat) : orb H i (k + 1) = seeZ H (orb H i k) := rfl
def pthN (H : List PH) (i : Int) (m : Nat) : List Int := (List.range m).map (orb H i)
theorem pthN_succ (H : List PH) (i : Int) (m : Nat) : pthN H i (m + 1) = pthN H i m ++ [orb H i m] := by unfold pthN; rw [List.range_succ, List.map_append]; rfl
theorem pthN_len (H : List PH) (i : Int) (m : Nat) : (pthN H i m).length = m := by unfold pthN; rw [List.length_map, List.length_range]
theorem pthN_mem {H : List PH} {i x : Int} {m : Nat} : x ∈ pthN H i m ↔ ∃ j, j < m ∧ orb H i j = x := by
  unfold pthN
  rw [List.mem_map]
  constructor
  · rintro ⟨j, hj, e⟩; exact ⟨j, List.mem_range.1 hj, e⟩
  · rintro ⟨j, hj, e⟩; exact ⟨j, List.mem_range.2 hj, e⟩
def SeeP (H : List PH) : Prop := ∀ k, k < H.length → -1 ≤ (H.getD k default).2.2.1 ∧ (H.getD k default).2.2.1 < (H.length : Int)
section
variable {H : List PH} {i : Int} {m : Nat}
theorem orb_bd (hS : SeeP H) (hi : 0 ≤ i ∧ i < (H.length : Int)) : ∀ k, -1 ≤ orb H i k ∧ orb H i k < (H.length : Int)
  | 0 => by rw [orb_zero]; omega
  | k + 1 => by
    have ih := orb_bd hS hi k
    rw [orb_succ]
    unfold seeZ
    split
    · omega
    · exact hS _ (by omega)
theorem orb_neg {k : Nat} (h : orb H i k < 0) : ∀ d, orb H i (k + 1 + d) = -1
  | 0 => by rw [Nat.add_zero, orb_succ]; unfold seeZ; rw [if_pos h]
  | d + 1 => by
    rw [← Nat.add_assoc, orb_succ, orb_neg h d]
    rfl
def Cyc (H : List PH) (i : Int) (m : Nat) : Prop := 1 ≤ m ∧ orb H i m = i ∧ ∀ j, 1 ≤ j → j < m → ¬ orb H i j = i
theorem cyc_pos (hi : 0 ≤ i) (hc : Cyc H i m) : ∀ j, j < m → 0 ≤ orb H i j := by
  intro j hj
  apply Classical.byContradiction
  intro hn
  have h1 := orb_neg (H := H) (i := i) (k := j) (by omega) (m - (j + 1))
  rw [show j + 1 + (m - (j + 1)) = m by omega, hc.2.1] at h1
  omega
theorem orb_add {a b : Nat} (h : orb H i a = orb H i b) : ∀ t, orb H i (a + t) = orb H i (b + t)
  | 0 => h
  | t + 1 => by rw [← Nat.add_assoc, ← Nat.add_assoc, orb_succ, orb_succ, orb_add h t]
theorem cyc_inj (hc : Cyc H i m) {a b : Nat} (hab : a < b) (hb : b < m) : ¬ orb H i a = orb H i b := fun h => by
  have h1 := orb_add h (m - b)
  rw [show b + (m - b) = m by omega, hc.2.1] at h1
  exact hc.2.2 (a + (m - b)) (by omega) (by omega) h1
theorem pth_nodup (hc : Cyc H i m) : (pthN H i m).Nodup := by
  unfold pthN
  rw [List.Nodup, List.pairwise_map]
  exact List.pairwise_lt_range.imp_of_mem fun {a b} ha hb hab => cyc_inj hc hab (List.mem_range.1 hb)
theorem cyc_le (hS : SeeP H) (hi : 0 ≤ i ∧ i < (H.length : Int)) (hc : Cyc H i m) : m ≤ H.length := by
  have h1 := nodup_le (n := H.length) (l := (List.range m).map fun j => (orb H i j).toNat) (by
    rw [List.Nodup, List.pairwise_map]
    refine List.pairwise_lt_range.imp_of_mem fun {a b} ha hb hab e => cyc_inj hc hab (List.mem_range.1 hb) ?_
    have h2 := cyc_pos hi.1 hc a (List.mem_range.1 ha)
    have h3 := cyc_pos hi.1 hc b (List.mem_range.1 hb)
    omega) (fun y hy => by
    obtain ⟨j, hj, rfl⟩ := List.mem_map.1 hy
    have h2 := cyc_pos hi.1 hc j (List.mem_range.1 hj)
    have h3 := (orb_bd hS hi j).2
    omega)
  rw [List.length_map, List.length_range] at h1
  exact h1
def perE (H : List PH) (i : Int) : Option Nat := (List.range H.length).find? fun r => decide (orb H i (r + 1) = i)
theorem per_some (hS : SeeP H) (hi : 0 ≤ i ∧ i < (H.length : Int)) (hc : Cyc H i m) : perE H i = some (m - 1) := by
  have h1 := cyc_le hS hi hc
  have h2 := hc.1
  exact find_range.2 ⟨by omega, by rw [show m - 1 + 1 = m by omega]; exact decide_eq_true hc.2.1, fun k hk => decide_eq_false (hc.2.2 (k + 1) (by omega) (by omega))⟩
theorem per_none (h : ∀ j, 1 ≤ j → j ≤ H.length → ¬ orb H i j = i) : perE H i = none := by
  unfold perE
  rw [List.find?_eq_none]
  intro r hr
  rw [List.mem_range] at hr
  rw [decide_eq_true_eq]
  exact h (r + 1) (by omega) (by omega)
def cirF (H : List PH) (i : Int) (m k : Nat) : List Int := ((List.range k).filter fun x : Nat => decide ((x : Int) ∈ pthN H i m)).map fun x : Nat => (x : Int)
def cirL (H : List PH) (i : Int) (m : Nat) : List Int := cirF H i m H.length
theorem cirF_succ (k : Nat) : cirF H i m (k + 1) = if ((k : Int) ∈ pthN H i m) then cirF H i m k ++ [(k : Int)] else cirF H i m k := by
  unfold cirF
  rw [List.range_succ, List.filter_append, List.map_append, List.filter_cons, List.filter_nil]
  by_cases e : (k : Int) ∈ pthN H i m
  · rw [if_pos e, if_pos (decide_eq_true e)]; rfl
  · rw [if_neg e, if_neg (by rw [decide_eq_true_eq]; exact e)]; simp
theorem cirF_len (k : Nat) : (cirF H i m k).length ≤ k := by
  unfold cirF
  rw [List.length_map]
  exact Nat.le_trans (List.length_filter_le _ _) (by simp)
theorem cirL_asc : (cirL H i m).Pairwise (· < ·) := by
  unfold cirL cirF
  rw [List.pairwise_map]
  exact (List.pairwise_lt_range.filter _).imp fun {a b} h => by omega
theorem cirL_mem (hS : SeeP H) (hi : 0 ≤ i ∧ i < (H.length : Int)) (hc : Cyc H i m) {x : Int} : x ∈ cirL H i m ↔ x ∈ pthN H i m := by
  unfold cirL cirF
  rw [List.mem_map]
  constructor
  · rintro ⟨k, hk, rfl⟩
    exact of_decide_eq_true (List.mem_filter.1 hk).2
  · intro hx
    obtain ⟨j, hj, rfl⟩ := pthN_mem.1 hx
    have h1 := cyc_pos hi.1 hc j hj
    have h2 := (orb_bd hS hi j).2
    refine ⟨(orb H i j).toNat, List.mem_filter.2 ⟨List.mem_range.2 (by omega), ?_⟩, Int.toNat_of_nonneg h1⟩
    rw [decide_eq_true_eq, Int.toNat_of_nonneg h1]
    exact hx
theorem cir_sort (hS : SeeP H) (hi : 0 ≤ i ∧ i < (H.length : Int)) (hc : Cyc H i m) {r : List Int} (hp : r.Perm (pthN H i m)) (hs : r.Pairwise (· ≤ ·)) : r = cirL H i m := by
  refine List.Perm.eq_of_pairwise (le := (· ≤ ·)) (fun a b _ _ h1 h2 => Int.le_antisymm h1 h2) hs (cirL_asc.imp fun {a b} h => Int.le_of_lt h) ?_
  refine hp.trans ((List.perm_ext_iff_of_nodup (pth_nodup hc) (cirL_asc.imp fun {a b} h => Int.ne_of_lt h)).2 fun x => ?_)
  exact (cirL_mem hS hi hc).symm
def minB (i : Int) (l : List Int) : Bool := l.all fun x => decide (i ≤ x)
theorem i_in (hc : Cyc H i m) : i ∈ pthN H i m := pthN_mem.2 ⟨0, by have := hc.1; omega, rfl⟩
theorem min_of (hc : Cyc H i m) {z : Int} (h1 : z ∈ pthN H i m) (h2 : ∀ x ∈ pthN H i m, z ≤ x) : z = i ↔ minB i (pthN H i m) = true := by
  unfold minB
  rw [List.all_eq_true]
  constructor
  · intro e x hx; rw [decide_eq_true_eq, ← e]; exact h2 x hx
  · intro h
    have h3 := of_decide_eq_true (h z h1)
    have h4 := h2 i (i_in hc)
    omega
theorem asc_head {l : List Int} (h : l.Pairwise (· < ·)) : ∀ x ∈ l, l.getD 0 default ≤ x := by
  cases l with
  | nil => intro x hx; cases hx
  | cons a l =>
    intro x hx
    show a ≤ x
    rcases List.mem_cons.1 hx with e | e
    · rw [e]; exact Int.le_refl _
    · exact Int.le_of_lt ((List.pairwise_cons.1 h).1 x e)
theorem cirL_pos (hS : SeeP H) (hi : 0 ≤ i ∧ i < (H.length : Int)) (hc : Cyc H i m) : 0 < (cirL H i m).length := List.length_pos_of_mem ((cirL_mem hS hi hc).2 (i_in hc))
theorem head_of (hS : SeeP H) (hi : 0 ≤ i ∧ i < (H.length : Int)) (hc : Cyc H i m) : (cirL H i m).getD 0 default = i ↔ minB i (pthN H i m) = true :=
  min_of hc ((cirL_mem hS hi hc).1 (getD_mem (cirL_pos hS hi hc))) fun x hx => asc_head cirL_asc x ((cirL_mem hS hi hc).2 hx)
def cirI (H : List PH) (i : Int) : Option (List Int) := match perE H i with | some r => if minB i (pthN H i (r + 1)) = true then some (cirL H i (r + 1)) else none | none => none
theorem cirI_at (hS : SeeP H) (hi : 0 ≤ i ∧ i < (H.length : Int)) (hc : Cyc H i m) : cirI H i = if minB i (pthN H i m) = true then some (cirL H i m) else none := by
  unfold cirI
  rw [per_some hS hi hc]
  show (if minB i (pthN H i (m - 1 + 1)) = true then some (cirL H i (m - 1 + 1)) else none) = _
  rw [show m - 1 + 1 = m by have := hc.1; omega]
theorem cirI_no (h : ∀ j, 1 ≤ j → j ≤ H.length → ¬ orb H i j = i) : cirI H i = none := by unfold cirI; rw [per_none h]
end
def cirK (H : List PH) (k : Nat) : List (List Int) := (List.range k).filterMap fun j : Nat => cirI H (j : Int)
theorem cirK_succ (H : List PH) (k : Nat) : cirK H (k + 1) = cirK H k ++ (cirI H (k : Int)).toList := by
  unfold cirK
  rw [List.range_succ, List.filterMap_append]
  congr 1
theorem cirK_len (H : List PH) (k : Nat) : (cirK H k).length ≤ k := Nat.le_trans (List.length_filterMap_le _ _) (by simp)
theorem cirK_in {H : List PH} {k : Nat} {l : List Int} (h : l ∈ cirK H k) : l.length ≤ H.length := by
  unfold cirK at h
  obtain ⟨j, _, e⟩ := List.mem_filterMap.1 h
  unfold cirI at e
  split at e
  · split at e
    · cases e; exact cirF_len _
    · cases e
  · cases e
def circlesE (t : Tr) : List (List Int) × Int := if ¬ checkT t = 0 then ([], checkT t) else (cirK t.hs t.hs.length, 0)
theorem see_p {cs : List Cl} {hs : List Hd} (hok : TrOK (trOf cs hs)) : SeeP (hs.map Hd.p) := fun k hk => by
  rw [List.length_map] at hk ⊢
  have h1 := sees_ok hok k hk
  rw [hd_get hk]
  exact h1
theorem ilt_tri {a b : Int} (h1 : ¬ a < b) (h2 : ¬ b < a) : a = b := by omega
theorem ilt_irr (a : Int) : ¬ a < a := by omega

abbrev iat (l : List Int) (i : Nat) : Int := l.getD i default
abbrev ile (a b : Int) : Prop := ¬ b < a
theorem ile_trans {a b c : Int} (h1 : ile a b) (h2 : ile b c) : ile a c := fun h => by
  rcases Classical.em (b < a) with h3 | h3
  · exact h1 h3
  · rcases Classical.em (a < b) with h4 | h4
    · exact h2 (Int.lt_trans h h4)
    · rw [ilt_tri h4 h3] at h; exact h2 h
theorem ile_of_lt {a b : Int} (h : a < b) : ile a b := fun h2 => ilt_irr a (Int.lt_trans h h2)
def srtTI (l : List Int) (m : Nat) : Prop := ∀ p q, p < q → q < m → ile (iat l p) (iat l q)
/-- Sorted but for the word at j, which is not greater than those after it. -/
structure InsI (l : List Int) (i j : Nat) : Prop where
  o : ∀ p q, p < q → q ≤ i → ¬ p = j → ¬ q = j → ile (iat l p) (iat l q)
  a : ∀ q, j < q → q ≤ i → ile (iat l j) (iat l q)
theorem iat_set {l : List Int} {i j : Nat} {v : Int} (hi : i < l.length) : iat (l.set i v) j = if i = j then v else iat l j := by
  unfold iat
  rw [List.getD_eq_getElem?_getD, List.getD_eq_getElem?_getD, List.getElem?_set]
  split
  · rfl
  · rfl
def swpI (l : List Int) (j : Nat) : List Int := (l.set (j + 1) (iat l j)).set j (iat l (j + 1))
theorem swpI_len (l : List Int) (j : Nat) : (swpI l j).length = l.length := by simp [swpI]
theorem swpI_perm {l : List Int} {j : Nat} (hj : j + 1 < l.length) : (swpI l j).Perm l := by
  unfold swpI iat
  rw [getD_at hj, getD_at (show j < l.length by omega)]
  exact List.set_set_perm hj (by omega)
theorem swpI_at {l : List Int} {j k : Nat} (hj : j + 1 < l.length) : iat (swpI l j) k = if k = j then iat l (j + 1) else if k = j + 1 then iat l j else iat l k := by
  unfold swpI
  rw [iat_set (by simp; omega), iat_set (by omega)]
  by_cases h1 : k = j
  · rw [if_pos h1.symm, if_pos h1]
  · rw [if_neg (fun e => h1 e.symm), if_neg h1]
    by_cases h2 : k = j + 1
    · rw [if_pos h2.symm, if_pos h2]
    · rw [if_neg (fun e => h2 e.symm), if_neg h2]
theorem InsI.start {l : List Int} {i : Nat} (h : srtTI l i) : InsI l i i := ⟨fun p q h1 h2 h3 h4 => h p q h1 (by omega), fun q h1 h2 => by omega⟩
theorem InsI.swap {l : List Int} {i j : Nat} (h : InsI l i (j + 1)) (hi : i < l.length) (hj : j + 1 ≤ i) (hlt : iat l (j + 1) < iat l j) : InsI (swpI l j) i j := by
  have hj2 : j + 1 < l.length := by omega
  refine ⟨fun p q h1 h2 h3 h4 => ?_, fun q h1 h2 => ?_⟩
  · rw [swpI_at hj2, swpI_at hj2, if_neg h3, if_neg h4]
    by_cases hp : p = j + 1
    · rw [if_pos hp, if_neg (by omega)]
      exact h.o j q (by omega) h2 (by omega) (by omega)
    · rw [if_neg hp]
      by_cases hq : q = j + 1
      · rw [if_pos hq]
        exact h.o p j (by omega) (by omega) (by omega) (by omega)
      · rw [if_neg hq]
        exact h.o p q h1 h2 hp hq
  · rw [swpI_at hj2, swpI_at hj2, if_pos rfl, if_neg (by omega)]
    by_cases hq : q = j + 1
    · rw [if_pos hq]; exact ile_of_lt hlt
    · rw [if_neg hq]; exact h.a q (by omega) h2
theorem InsI.done {l : List Int} {i j : Nat} (h : InsI l i j) (hj : j ≤ i) (he : ∀ k, j = k + 1 → ¬ iat l j < iat l k) : srtTI l (i + 1) := by
  intro p q h1 h2
  by_cases hp : p = j
  · subst hp; exact h.a q h1 (by omega)
  · by_cases hq : q = j
    · subst hq
      obtain ⟨k, rfl⟩ : ∃ k, q = k + 1 := ⟨q - 1, by omega⟩
      have h3 : ile (iat l k) (iat l (k + 1)) := he k rfl
      by_cases hpk : p = k
      · subst hpk; exact h3
      · exact ile_trans (h.o p k (by omega) (by omega) hp (by omega)) h3
    · exact h.o p q h1 (by omega) hp hq
abbrev SrtI (ws l : List Int) : Prop := l.Perm ws ∧ srtTI l l.length
abbrev GrowI (A : Option Addr) (cap : Nat) (l : List Int) (og : Hp) : Prop := Grow T.int 1 A l.length cap (rows l) og


theorem cmp_isNaN_int_meets (x : Int) : Meets Tryz.prog F.cmp_isNaN_int [int x] { val := fun _ : Unit => .bool false } := by
 refine meets_intro F.cmp_isNaN_int_f rfl (Nat.le_of_ble_eq_true rfl) fun w0 => ?_
 refine hc_seq (hc_region (r_assign rfl rfl (hl_nil (then_n (hc_seq (hc_region (r_move rfl rfl (r_move rfl rfl (r_neq rfl rfl rfl (r_assign rfl rfl (hl_nil ?_)))))))))))
 refine then_n (hc_ret ?_)
 exact ret1 () rfl (congrArg (fun b => some (Value.bool b)) (by exact decide_eq_false (not_not_intro (rfl : x = x)))) rfl trivial (List.nil_sublist _) trivial

theorem cmp_Less_int_meets (x y : Int) : Meets Tryz.prog F.cmp_Less_int [int x, int y] { val := fun _ : Unit => .bool (decide (x < y)) } := by
 refine meets_intro F.cmp_Less_int_f rfl (Nat.le_of_ble_eq_true rfl) fun w0 => ?_
 refine hc_seq (hc_region (r_assign rfl rfl (hl_nil (then_n (hc_seq (hc_region (r_move rfl rfl ?_)))))))
 refine hl_call F.cmp_isNaN_int_cb rfl rfl (cmp_isNaN_int_meets _) (.refl _) trivial fun _ _ => ?_
 refine r_move rfl rfl ?_
 refine g_split rfl rfl ?_ ?_
 ·intro hg1; have hg1' := hg1; try simp at hg1'
 ·intro hg1; have hg1' := hg1; try simp at hg1'
  refine g_no rfl rfl rfl rfl rfl hg1 (g_no rfl rfl rfl rfl rfl hg1 (g_no rfl rfl rfl rfl rfl hg1 ?_))
  refine p_f rfl rfl (bf2 hg1) rfl ?_
  refine r_move rfl rfl (g_yes rfl rfl rfl (r_move rfl rfl (g_yes rfl rfl rfl (r_move rfl rfl (g_yes rfl rfl rfl (r_lss rfl rfl rfl (p_f rfl rfl rfl rfl (r_assign rfl rfl (hl_nil (then_n (hc_ret ?_)))))))))))
  exact ret1 () rfl rfl rfl trivial (List.nil_sublist _) trivial

set_option maxHeartbeats 1000000 in
theorem slices_insertionSortOrdered_int_meets {A : Option Addr} {cap : Nat} (ws : List Int) (og : Hp) (hG : GrowI A cap ws og) (hn : ws.length ≤ 1000000) :
    Meets Tryz.prog F.slices_insertionSortOrdered_int [.slice A ws.length cap, int (0 : Nat), int ws.length] { hpI := og, inv := fun x : List Int × Hp => SrtI ws x.1 ∧ GrowI A cap x.1 x.2, val := fun _ => .tuple #[], hpO := fun x => x.2 } := by
 refine meets_intro F.slices_insertionSortOrdered_int_f rfl (Nat.le_of_ble_eq_true rfl) fun w0 => ?_
 refine hc_seq (hc_region (r_move rfl rfl ?_))
 refine r_add ((1 : Nat) : Int) rfl rfl rfl (by rfl) (by unfold I64; omega) ?_
 refine r_assign rfl rfl (hl_nil (then_n (hc_block ?_)))
 refine hc_loop (β := Nat × List Int × Hp) ⟨fun x => 1 ≤ x.1 ∧ x.2.1.Perm ws ∧ srtTI x.2.1 x.1 ∧ GrowI A cap x.2.1 x.2.2, fun x => [(0, .slice A ws.length cap), (1, int (0 : Nat)), (2, int ws.length), (6, int x.1)], fun x => x.2.2, fun _ => []⟩ (fun x => ws.length - x.1) (1, ws, og) ⟨Nat.le_refl _, .refl _, fun p q h1 h2 => by omega, hG⟩ ⟨rfl, rfl, rfl, rfl, trivial⟩ (by first | (rw [List.append_nil]; exact List.Sublist.refl _) | exact List.Sublist.refl _) trivial fun x hx => ?_
 clear hG
 obtain ⟨i, l, og⟩ := x
 obtain ⟨hi0, hP, hS, hG⟩ := hx
 simp only at hi0 hP hS hG
 have hll : l.length = ws.length := hP.length_eq
 refine hc_seq (hc_seq (hc_region (r_move rfl rfl (r_move rfl rfl (r_lss rfl rfl rfl (hl_nil (then_n ?_)))))))
 refine c_dec rfl (fun hb1 => ?_) (fun hb1 => ?_)
 ·have hb1' := hb1; try simp at hb1'
  have hi : i < ws.length := by omega
  rcases hG.2 with ⟨_, hz, _⟩ | ⟨gd, cur, e1, e2, hnc, hcm, hcs, hct⟩
  ·omega
  subst e1
  subst e2
  rw [hll] at hnc
  refine hc_skip (then_n (hc_seq (hc_block (hc_seq (hc_region (r_move rfl rfl (r_assign rfl rfl (hl_nil (then_n (hc_block ?_))))))))))
  refine hc_loop (β := Nat × List Int × Array Value) ⟨fun x => x.1 ≤ i ∧ x.2.1.Perm ws ∧ InsI x.2.1 i x.1 ∧ x.2.2.size = cap * 1 ∧ x.2.2.toList.take (x.2.1.length * 1) = rows x.2.1, fun x => [(0, .slice (some ⟨gd, 0, none⟩) ws.length cap), (1, int (0 : Nat)), (2, int ws.length), (6, int i), (7, int x.1)], fun x => [(gd, Obj.cells x.2.2 T.int (0, 0))], fun _ => []⟩ (fun x => x.1) (i, l, cur) ⟨Nat.le_refl _, hP, .start hS, hcs, hct⟩ ⟨rfl, rfl, rfl, rfl, rfl, trivial⟩ (List.Sublist.refl _) trivial fun x hx => ?_
  clear hG hS hcs hct hP hll
  obtain ⟨j, l, cur⟩ := x
  obtain ⟨hj, hP, hS, hcs, hct⟩ := hx
  simp only at hj hP hS hcs hct
  have hll : l.length = ws.length := hP.length_eq
  refine hc_seq (hc_seq ?_)
  refine hc_draw 13 mixed (by decide) (by decide) rfl rfl ?_
  apply hb_ex _ rfl rfl rfl
  ·intro w1
   refine r_move rfl rfl (hl_nil ?_)
   exact qe_done rfl
  apply hb_ex _ rfl rfl rfl
  ·intro w1
   refine r_move rfl rfl (hl_nil ?_)
   exact qe_done rfl
  apply hb_ex _ rfl rfl rfl
  ·intro w1
   refine r_gtr rfl rfl rfl (hl_nil ?_)
   exact qe_done rfl
  apply hb_ex _ rfl rfl rfl
  ·intro w1
   refine r_move rfl rfl (hl_nil ?_)
   exact qe_done rfl
  refine hb_split (t := 19) (want := true) rfl ?_ ?_
  ·intro hg1; have hg1' := hg1; try simp at hg1'
   obtain ⟨k, rfl⟩ : ∃ k, j = k + 1 := ⟨j - 1, by simp at hg1; omega⟩
   apply hb_ex _ rfl rfl rfl
   ·intro w1
    refine g_yes rfl rfl hg1 (r_move rfl rfl (hl_nil ?_))
    exact qe_done rfl
   apply hb_ex _ rfl rfl rfl
   ·intro w1
    refine g_yes rfl rfl hg1 (r_move rfl rfl (hl_nil ?_))
    exact qe_done rfl
   apply hb_ex _ rfl rfl rfl
   ·intro w1
    refine g_yes rfl rfl hg1 ?_
    refine r_indexAddr_own (k + 1) (k + 1) rfl T.u_ints T.sz_int rfl rfl rfl (by omega) (by omega) ?_
    refine hl_nil ?_
    exact qe_done rfl
   apply hb_ex _ rfl rfl rfl
   ·intro w1
    refine g_yes rfl rfl hg1 ?_
    refine r_load (v := int (iat l (k + 1))) rfl T.cell_int rfl (cell_blk (by repeat constructor) (own_el rfl hct (by omega) rfl rfl)) ?_
    refine hl_nil ?_
    exact qe_done rfl
   apply hb_ex _ rfl rfl rfl
   ·intro w1
    refine g_yes rfl rfl hg1 (r_move rfl rfl (hl_nil ?_))
    exact qe_done rfl
   apply hb_ex _ rfl rfl rfl
   ·intro w1
    refine g_yes rfl rfl hg1 (r_move rfl rfl (hl_nil ?_))
    exact qe_done rfl
   apply hb_ex _ rfl rfl rfl
   ·intro w1
    refine g_yes rfl rfl hg1 ?_
    refine r_sub (k : Int) rfl rfl rfl (by omega) (by unfold I64; omega) ?_
    refine hl_nil ?_
    exact qe_done rfl
   apply hb_ex _ rfl rfl rfl
   ·intro w1
    refine g_yes rfl rfl hg1 ?_
    refine r_indexAddr_own (k) (k) rfl T.u_ints T.sz_int rfl rfl rfl (by omega) (by omega) ?_
    refine hl_nil ?_
    exact qe_done rfl
   apply hb_ex _ rfl rfl rfl
   ·intro w1
    refine g_yes rfl rfl hg1 ?_
    refine r_load (v := int (iat l k)) rfl T.cell_int rfl (cell_blk (by repeat constructor) (own_el rfl hct (by omega) rfl rfl)) ?_
    refine hl_nil ?_
    exact qe_done rfl
   refine hb_nil ⟨rfl, ?_⟩
   refine g_yes rfl rfl hg1 ?_
   refine hl_call F.cmp_Less_int_cb rfl rfl (cmp_Less_int_meets (iat l (k + 1)) (iat l k)) (List.Perm.refl _) trivial fun _ _ => ?_
   refine p_t rfl rfl (bt1 hg1) rfl ?_
   refine hl_nil (then_n ?_)
   refine c_dec rfl (fun hb2 => ?_) (fun hb2 => ?_)
   ·have hb2' := hb2; try simp at hb2'
    refine hc_skip (then_n (hc_seq (hc_block ?_)))
    refine hc_drawW ([(gd, Obj.cells cur T.int (0, 0))]) ([]) (List.Perm.refl _) 16 [15, 1000013, 1000009] mixed (by decide) (by decide) (by decide) rfl rfl rfl ?_
    apply hb_ex _ rfl rfl rfl
    ·intro w1
     refine r_move rfl rfl (hl_nil ?_)
     exact qe_done rfl
    apply hb_ex _ rfl rfl rfl
    ·intro w1
     refine r_move rfl rfl (hl_nil ?_)
     exact qe_done rfl
    apply hb_ex _ rfl rfl rfl
    ·intro w1
     refine r_move rfl rfl (hl_nil ?_)
     exact qe_done rfl
    apply hb_ex _ rfl rfl rfl
    ·intro w1
     refine r_move rfl rfl (hl_nil ?_)
     exact qe_done rfl
    apply hb_ex _ rfl rfl rfl
    ·intro w1
     refine r_sub (k : Int) rfl rfl rfl (by omega) (by unfold I64; omega) ?_
     refine hl_nil ?_
     exact qe_done rfl
    apply hb_ex _ rfl rfl rfl
    ·intro w1
     refine r_move rfl rfl (hl_nil ?_)
     exact qe_done rfl
    apply hb_ex _ rfl rfl rfl
    ·intro w1
     refine r_move rfl rfl (hl_nil ?_)
     exact qe_done rfl
    apply hb_ex _ rfl rfl rfl
    ·intro w1
     refine r_sub (k : Int) rfl rfl rfl (by omega) (by unfold I64; omega) ?_
     refine hl_nil ?_
     exact qe_done rfl
    apply hb_ex _ rfl rfl rfl
    ·intro w1
     refine r_indexAddr_own (k) (k) rfl T.u_ints T.sz_int rfl rfl rfl (by omega) (by omega) ?_
     refine hl_nil ?_
     exact qe_done rfl
    refine hb_rd (int (iat l k)) rfl rfl rfl ?_ ?_
    ·intro w1
     refine r_load (v := int (iat l k)) rfl T.cell_int rfl (cell_blk (by repeat constructor) (own_el rfl hct (by omega) rfl rfl)) ?_
     refine hl_nil ?_
     exact qe_done rfl
    apply hb_ex _ rfl rfl rfl
    ·intro w1
     refine r_move rfl rfl (hl_nil ?_)
     exact qe_done rfl
    apply hb_ex _ rfl rfl rfl
    ·intro w1
     refine r_move rfl rfl (hl_nil ?_)
     exact qe_done rfl
    apply hb_ex _ rfl rfl rfl
    ·intro w1
     refine r_indexAddr_own (k + 1) (k + 1) rfl T.u_ints T.sz_int rfl rfl rfl (by omega) (by omega) ?_
     refine hl_nil ?_
     exact qe_done rfl
    refine hb_rd (int (iat l (k + 1))) rfl rfl rfl ?_ ?_
    ·intro w1
     refine r_load (v := int (iat l (k + 1))) rfl T.cell_int rfl (cell_blk (by repeat constructor) (own_el rfl hct (by omega) rfl rfl)) ?_
     refine hl_nil ?_
     exact qe_done rfl
    apply hb_ex _ rfl rfl rfl
    ·intro w1
     refine r_indexAddr_own (k + 1) (k + 1) rfl T.u_ints T.sz_int rfl rfl rfl (by omega) (by omega) ?_
     refine hl_nil ?_
     exact qe_done rfl
    refine hb_st ⟨Unit, fun _ => True, fun _ => undef, fun _ => [], fun _ => [(gd, Obj.cells (cur.setIfInBounds (k + 1) (int (iat l k))) T.int (0, 0))]⟩ rfl rfl ?_ ?_
    ·intro _ _; intro w1
     refine r_store rfl rfl (.refl _) T.sz_int (own_el rfl hct (show k + 1 < l.length by omega) rfl rfl) (by rfl) ?_
     refine hl_nil ?_
     exact qw_done () trivial (fun h => by cases h) (.refl _) trivial
    refine hb_nil ⟨rfl, ?_⟩
    intro _ _ _ _ _ _
    have hct1 := take_set1 (α := Int) (k := k + 1) (a := iat l k) rfl rfl hct
    refine r_indexAddr_own (k) (k) rfl T.u_ints T.sz_int rfl rfl rfl (by omega) (by omega) ?_
    refine r_store rfl rfl (.refl _) T.sz_int (own_el rfl hct1 (show k < _ by simp; omega) rfl rfl) (by rfl) ?_
    have hct2 := take_set1 (α := Int) (k := k) (a := iat l (k + 1)) rfl rfl hct1
    refine hl_nil (inb_n (then_n (hc_region (r_move rfl rfl ?_))))
    refine r_sub (k : Int) rfl rfl rfl (by omega) (by unfold I64; omega) ?_
    refine r_assign rfl rfl (hl_nil ?_)
    exact again _ (k, swpI l k, (cur.setIfInBounds (k + 1) (int (iat l k))).setIfInBounds k (int (iat l (k + 1)))) ⟨by show k ≤ i; omega, (swpI_perm (by omega)).trans hP, hS.swap (by omega) hj hb2, by show (Array.setIfInBounds _ _ _).size = _; rw [Array.size_setIfInBounds, Array.size_setIfInBounds]; exact hcs, hct2⟩ (by show k < k + 1; omega) ⟨rfl, rfl, rfl, rfl, rfl, trivial⟩ (List.Sublist.refl _) trivial
   ·have hb2' := hb2; try simp at hb2'
    refine hc_exit (then_exit (then_exit (inb_hit (inb_n (then_n (hc_region (r_move rfl rfl ?_)))))))
    refine r_add _ rfl rfl rfl rfl (by unfold I64; omega) ?_
    refine r_assign rfl rfl (hl_nil ?_)
    exact again _ (i + 1, l, [(gd, Obj.cells cur T.int (0, 0))]) ⟨by show 1 ≤ i + 1; omega, hP, hS.done hj (fun q hq hlt => by obtain rfl : k = q := (by omega); exact hb2 hlt), grow_of1 rfl (by show l.length ≤ cap; omega) hcm hcs hct⟩ (by show ws.length - (i + 1) < ws.length - i; omega) ⟨rfl, rfl, rfl, rfl, trivial⟩ (List.Sublist.refl _) trivial
  ·intro hg1; have hg1' := hg1; try simp at hg1'
   have hj0 : j = 0 := by simp at hg1; omega
   subst hj0
   apply hb_ex _ rfl rfl rfl
   ·intro w1
    refine g_no rfl rfl rfl rfl rfl hg1 (hl_nil ?_)
    exact qe_done rfl
   apply hb_ex _ rfl rfl rfl
   ·intro w1
    refine g_no rfl rfl rfl rfl rfl hg1 (hl_nil ?_)
    exact qe_done rfl
   apply hb_ex _ rfl rfl rfl
   ·intro w1
    refine g_no rfl rfl rfl rfl rfl hg1 (hl_nil ?_)
    exact qe_done rfl
   apply hb_ex _ rfl rfl rfl
   ·intro w1
    refine g_no rfl rfl rfl rfl rfl hg1 (hl_nil ?_)
    exact qe_done rfl
   apply hb_ex _ rfl rfl rfl
   ·intro w1
    refine g_no rfl rfl rfl rfl rfl hg1 (hl_nil ?_)
    exact qe_done rfl
   apply hb_ex _ rfl rfl rfl
   ·intro w1
    refine g_no rfl rfl rfl rfl rfl hg1 (hl_nil ?_)
    exact qe_done rfl
   apply hb_ex _ rfl rfl rfl
   ·intro w1
    refine g_no rfl rfl rfl rfl rfl hg1 (hl_nil ?_)
    exact qe_done rfl
   apply hb_ex _ rfl rfl rfl
   ·intro w1
    refine g_no rfl rfl rfl rfl rfl hg1 (hl_nil ?_)
    exact qe_done rfl
   apply hb_ex _ rfl rfl rfl
   ·intro w1
    refine g_no rfl rfl rfl rfl rfl hg1 (hl_nil ?_)
    exact qe_done rfl
   refine hb_nil ⟨rfl, ?_⟩
   refine g_no rfl rfl rfl rfl rfl hg1 ?_
   refine p_f rfl rfl (bf2 hg1) rfl ?_
   refine hl_nil (then_n (c_f rfl rfl (hc_exit (then_exit (then_exit (inb_hit (inb_n (then_n (hc_region (r_move rfl rfl ?_))))))))))
   refine r_add _ rfl rfl rfl rfl (by unfold I64; omega) ?_
   refine r_assign rfl rfl (hl_nil ?_)
   exact again _ (i + 1, l, [(gd, Obj.cells cur T.int (0, 0))]) ⟨by show 1 ≤ i + 1; omega, hP, hS.done hj (fun q hq => by omega), grow_of1 rfl (by show l.length ≤ cap; omega) hcm hcs hct⟩ (by show ws.length - (i + 1) < ws.length - i; omega) ⟨rfl, rfl, rfl, rfl, trivial⟩ (List.Sublist.refl _) trivial
 ·have hb1' := hb1; try simp at hb1'
  refine hc_exit (then_exit (then_exit (inb_hit ?_)))
  exact ret0n (l, og) rfl rfl rfl ⟨⟨hP, fun p q h1 h2 => hS p q h1 (by have h3 : q < l.length := h2; omega)⟩, hG⟩ (List.Sublist.refl _) trivial

theorem slices_pdqsortOrdered_int_meets {A : Option Addr} {cap : Nat} (ws : List Int) (og : Hp) (z : Int) (hG : GrowI A cap ws og) (hn : ws.length ≤ 12) : Meets Tryz.prog F.slices_pdqsortOrdered_int [.slice A ws.length cap, int (0 : Nat), int ws.length, int z] { hpI := og, inv := fun x : List Int × Hp => SrtI ws x.1 ∧ GrowI A cap x.1 x.2, val := fun _ => .tuple #[], hpO := fun x => x.2 } := by
 refine meets_intro F.slices_pdqsortOrdered_int_f rfl (Nat.le_of_ble_eq_true rfl) fun w0 => ?_
 refine hc_seq (hc_region (r_assign rfl rfl (hl_nil (then_n (hc_seq (hc_region (r_assign rfl rfl (hl_nil (then_n (hc_block ?_))))))))))
 refine hc_loop (β := Unit) ⟨fun _ => True, fun _ => [(0, .slice A ws.length cap), (1, int (0 : Nat)), (2, int ws.length), (3, int z)], fun _ => og, fun _ => []⟩ (fun _ => 0) () trivial ⟨rfl, rfl, rfl, rfl, trivial⟩ (List.Sublist.refl _) trivial fun _ _ => ?_
 refine hc_block (hc_seq (hc_region (r_move rfl rfl (r_move rfl rfl ?_))))
 refine r_sub _ rfl rfl rfl rfl (by unfold I64; omega) ?_
 refine r_assign rfl rfl (hl_nil (then_n (hc_seq (hc_seq (hc_region (r_move rfl rfl (r_leq rfl rfl rfl (hl_nil (then_n ?_)))))))))
 refine c_dec rfl (fun hb1 => ?_) (fun hb1 => ?_)
 ·have hb1' := hb1; try simp at hb1'
  refine hc_seq (hc_region (r_move rfl rfl (r_move rfl rfl (r_move rfl rfl ?_))))
  refine hl_call (hpR := []) F.slices_insertionSortOrdered_int_cb rfl rfl (slices_insertionSortOrdered_int_meets ws og hG (by omega)) (by first | (rw [List.append_nil]; done) | (rw [List.append_nil]; exact List.Perm.refl _) | exact List.Perm.refl _) trivial fun x hx => ?_
  refine hl_nil (then_n (hc_ret (then_ret (inb_ret (then_ret (inb_ret ?_))))))
  exact ret0 x rfl rfl rfl hx (List.sublist_append_left _ _) trivial
 ·exact absurd (by omega) hb1

theorem slices_Sort_ints_meets {A : Option Addr} {cap : Nat} (ws : List Int) (og : Hp) (hG : GrowI A cap ws og) (hn : ws.length ≤ 12) : Meets Tryz.prog F.slices_Sort_ints [.slice A ws.length cap] { hpI := og, inv := fun x : List Int × Hp => SrtI ws x.1 ∧ GrowI A cap x.1 x.2, val := fun _ => .tuple #[], hpO := fun x => x.2 } := by
 refine meets_intro F.slices_Sort_ints_f rfl (Nat.le_of_ble_eq_true rfl) fun w0 => ?_
 refine hc_seq (hc_region (r_move rfl rfl ?_))
 refine r_len_sl rfl T.u_ints rfl ?_
 refine r_assign rfl rfl (hl_nil (then_n (hc_region (r_move rfl rfl (r_move rfl rfl (r_move rfl rfl ?_))))))
 refine r_conv (ws.length : Int) rfl T.u_int T.u_uint rfl (IntWalk.u64_in _ (by omega)) ?_
 refine hl_call F.math_bits_Len_cb rfl rfl (math_bits_Len_meets ws.length hn) (.refl _) trivial fun z _ => ?_
 refine hl_call (hpR := []) F.slices_pdqsortOrdered_int_cb rfl rfl (slices_pdqsortOrdered_int_meets ws og z hG hn) (by first | (rw [List.append_nil]; done) | (rw [List.append_nil]; exact List.Perm.refl _) | exact List.Perm.refl _) trivial fun x hx => ?_
 refine hl_nil ?_
 exact ret0n x rfl rfl rfl hx (List.sublist_append_left _ _) trivial

theorem slices_Min_ints_meets {A : Option Addr} {cap : Nat} (l : List Int) (og : Hp) (hG : GrowI A cap l og) (hl : 0 < l.length) (hn : l.length ≤ 1000000) : Meets Tryz.prog F.slices_Min_ints [.slice A l.length cap] { hpI := og, inv := fun z : Int => z ∈ l ∧ ∀ x ∈ l, z ≤ x, val := fun z => int z, hpO := fun _ => og } := by
 refine meets_intro F.slices_Min_ints_f rfl (Nat.le_of_ble_eq_true rfl) fun w0 => ?_
 refine hc_seq (hc_region (r_assign rfl rfl (hl_nil (then_n (hc_seq (hc_seq ?_))))))
 obtain ⟨gd, cur, e1, e2, hct⟩ := growI_blk hG hl
 subst e1
 subst e2
 refine hc_region (r_move rfl rfl ?_)
 refine r_len_sl rfl T.u_ints rfl ?_
 refine r_lss rfl rfl rfl (hl_nil (then_n ?_))
 refine c_dec rfl (fun hb1 => ?_) (fun hb1 => ?_)
 ·exact absurd hb1 (by omega)
 ·have hb1' := hb1; try simp at hb1'
  refine hc_skip (then_n (hc_seq (hc_region (r_move rfl rfl ?_))))
  refine r_indexAddr_own (0) (0 + 0 * 1) rfl T.u_ints T.sz_int rfl rfl rfl hl rfl ?_
  refine r_load (v := int (l.getD 0 default)) rfl T.cell_int rfl (cell_own (List.mem_cons_self ..) (own_el rfl hct hl (by omega) rfl)) ?_
  refine r_assign rfl rfl (hl_nil (then_n (hc_seq (hc_seq (hc_region (r_assign rfl rfl (hl_nil (then_n (hc_block ?_)))))))))
  refine hc_loop (β := Nat × Int) ⟨fun x => 1 ≤ x.1 ∧ x.1 ≤ l.length ∧ x.2 ∈ l ∧ ∀ j, j < x.1 → x.2 ≤ l.getD j default, fun x => [(0, .slice (some ⟨gd, 0, none⟩) l.length cap), (3, int x.2), (4, int x.1)], fun _ => [(gd, Obj.cells cur T.int (0, 0))], fun _ => []⟩ (fun x => l.length - x.1) (1, l.getD 0 default) ⟨Nat.le_refl _, hl, getD_mem hl, fun j hj => by have hj : j < 1 := hj; obtain rfl : j = 0 := (by omega); exact Int.le_refl _⟩ ⟨rfl, rfl, rfl, trivial⟩ (List.Sublist.refl _) trivial fun x hx => ?_
  obtain ⟨k, z⟩ := x
  obtain ⟨hk1, hk, hz, hm⟩ := hx
  simp only at hk1 hk hz hm
  refine hc_seq (hc_seq (hc_region (r_move rfl rfl (r_move rfl rfl ?_))))
  refine r_len_sl rfl T.u_ints rfl ?_
  refine r_lss rfl rfl rfl (hl_nil (then_n ?_))
  refine c_dec rfl (fun hb2 => ?_) (fun hb2 => ?_)
  ·have hb2' := hb2; try simp at hb2'
   have hk2 : k < l.length := by omega
   refine hc_skip (then_n (hc_seq (hc_block (hc_region (r_move rfl rfl (r_move rfl rfl (r_move rfl rfl ?_)))))))
   refine r_indexAddr_own (k) (0 + k * 1) rfl T.u_ints T.sz_int rfl rfl rfl hk2 rfl ?_
   refine r_load (v := int (l.getD k default)) rfl T.cell_int rfl (cell_own (List.mem_cons_self ..) (own_el rfl hct hk2 (by omega) rfl)) ?_
   refine r_min _ rfl rfl rfl rfl (r_assign rfl rfl (hl_nil (inb_n (then_n (hc_region (r_move rfl rfl ?_))))))
   refine r_add _ rfl rfl rfl rfl (by unfold I64; omega) ?_
   refine r_assign rfl rfl (hl_nil ?_)
   refine again _ (k + 1, if l.getD k default < z then l.getD k default else z) ⟨by show 1 ≤ k + 1; omega, by show k + 1 ≤ l.length; omega, ?_, fun j hj => ?_⟩ (by show l.length - (k + 1) < l.length - k; omega) ⟨rfl, rfl, rfl, trivial⟩ (List.Sublist.refl _) trivial
   ·show (if l.getD k default < z then l.getD k default else z) ∈ l
    split
    ·exact getD_mem hk2
    ·exact hz
   ·show (if l.getD k default < z then l.getD k default else z) ≤ l.getD j default
    have hj : j < k + 1 := hj
    rcases Nat.lt_or_ge j k with h1 | h1
    ·have := hm j h1
     split <;> omega
    ·obtain rfl : j = k := by omega
     split <;> omega
  ·have hb2' := hb2; try simp at hb2'
   obtain rfl : k = l.length := by omega
   refine hc_exit (then_exit (then_exit (inb_hit (then_n (hc_seq (hc_region (r_move rfl rfl (r_assign rfl rfl (hl_nil (then_n (hc_ret ?_)))))))))))
   exact ret1 z rfl rfl rfl ⟨hz, fun x hx => by obtain ⟨j, hj, rfl⟩ := List.getElem_of_mem hx; rw [← getD_at hj]; exact hm j hj⟩ (List.Sublist.refl _) trivial

theorem trade_least_int_meets {A : Option Addr} {cap : Nat} (l : List Int) (og : Hp) (hG : GrowI A cap l og) (hl : 0 < l.length) (hn : l.length ≤ 1000000) : Meets Tryz.prog F.trade_least_int [.slice A l.length cap] { hpI := og, inv := fun z : Int => z ∈ l ∧ ∀ x ∈ l, z ≤ x, val := fun z => int z, hpO := fun _ => og } := by
 refine meets_intro F.trade_least_int_f rfl (Nat.le_of_ble_eq_true rfl) fun w0 => ?_
 refine hc_seq (hc_region (r_assign rfl rfl (hl_nil (then_n (hc_seq (hc_region (r_move rfl rfl ?_)))))))
 refine hl_call (hpR := []) F.slices_Min_ints_cb rfl rfl (slices_Min_ints_meets l og hG hl hn) (by first | (rw [List.append_nil]; done) | (rw [List.append_nil]; exact List.Perm.refl _) | exact List.Perm.refl _) trivial fun z hz => ?_
 refine r_assign rfl rfl (hl_nil (then_n (hc_ret ?_)))
 exact ret1 z rfl rfl rfl hz (List.sublist_append_left _ _) trivial

end Go.Proofs.YtlpgheniajdkfaaGreat
