/- Classes numbered anew: the plain law. -/
import Derived.Test.YtlpgheniajdkfaaPbq
import Derived.Test.YtlpgheniajdkfaaPbp
namespace Go.Proofs.Ytlpgheniajdkfaa
open Go Go.W
set_option linter.unusedVariables false
set_option linter.unusedSimpArgs false
set_option maxRecDepth 20000
attribute [local irreducible] HL HC HQ HB Row Rows2 Blk Facts

theorem cls_mk {cs : List Cl} {i : Nat} (h : ClsOK cs i) (hi : i < cs.length) : clsErr cs i = 0 := by
  have h1 := h.lo
  have h2 := h.hi
  unfold clsErr
  rw [if_neg (by rw [h.w]; decide), if_neg h.n, if_neg (by omega), if_neg (by omega)]
theorem head_mk {t : Tr} {i : Nat} (h : HeadOK t i) : headErr t i = 0 := by
  have h1 := h.c
  have h2 := h.s
  have h3 := firstE_all (n := (t.hs.getD i default).2.2.2.length) h.a
  unfold headErr
  rw [if_neg (by rw [h.w]; decide), if_neg h.n, if_neg h.o, if_neg (by omega), if_neg h2.2.2, if_neg (not_not_intro h3), if_neg (by rw [h.k]; decide)]
/-- What is in order is valid. -/
theorem tr_mk {t : Tr} (h : TrOK t) : checkT t = 0 := by
  have h1 := h.c6
  have h2 := h.h6
  unfold checkT
  rw [if_neg (by omega), if_neg (not_not_intro (firstE_all fun i hi => cls_mk (h.c i hi) hi))]
  exact firstE_all fun i hi => head_mk (h.h i hi)
/-- An order of the classes in which what is above comes first. -/
structure Ord (cs : List Cl) (o : List Int) : Prop where
  len : o.length = cs.length
  nd : o.Nodup
  inr : ∀ c ∈ o, 0 ≤ c ∧ c < (cs.length : Int)
  all : ∀ c : Int, 0 ≤ c → c < (cs.length : Int) → c ∈ o
  up : ∀ j, j < o.length → 0 ≤ (cs.getD (o.getD j default).toNat default).2 → (cs.getD (o.getD j default).toNat default).2 ∈ o.take j
theorem find_congr2 {α : Type} {p q : α → Bool} : ∀ {l : List α}, (∀ x ∈ l, p x = q x) → l.find? p = l.find? q
  | [], _ => rfl
  | x :: l, h => by
    rw [List.find?_cons, List.find?_cons, h x (by simp), find_congr2 (fun y hy => h y (by simp [hy]))]
/-- The new number. -/
def idx (o : List Int) (c : Int) : Int := if c ∈ o then (o.idxOf c : Int) else -1
def renC (cs : List Cl) (o : List Int) : List Cl := o.map fun c => ((cs.getD c.toNat default).1, idx o (cs.getD c.toNat default).2)
def renP (o : List Int) (h : PH) : PH := (h.1, idx o h.2.1, h.2.2.1, h.2.2.2)
section
variable {cs : List Cl} {o : List Int}
theorem idx_pos (hn : o.Nodup) {j : Nat} (hj : j < o.length) : idx o (o.getD j default) = (j : Int) := by
  rw [getD_at hj]
  unfold idx
  rw [if_pos (List.getElem_mem hj)]
  have h1 := List.idxOf_lt_length_iff.2 (List.getElem_mem hj)
  have h2 : o[o.idxOf o[j]] = o[j] := List.getElem_idxOf h1
  rcases Nat.lt_trichotomy (o.idxOf o[j]) j with h3 | h3 | h3
  · exact absurd h2 (List.pairwise_iff_getElem.1 hn _ _ h1 hj h3)
  · rw [h3]
  · exact absurd h2.symm (List.pairwise_iff_getElem.1 hn _ _ hj h1 h3)
theorem idx_in {c : Int} (hc : c ∈ o) : 0 ≤ idx o c ∧ idx o c < (o.length : Int) ∧ o.getD (idx o c).toNat default = c := by
  unfold idx
  rw [if_pos hc, Int.toNat_natCast]
  have h := List.idxOf_lt_length_iff.2 hc
  refine ⟨by omega, by omega, ?_⟩
  rw [getD_at h]
  exact List.getElem_idxOf h
theorem idx_out {c : Int} (hc : c ∉ o) : idx o c = -1 := by unfold idx; rw [if_neg hc]
theorem idx_inj {c d : Int} (hc : c ∈ o) (hd : d ∈ o) (h : idx o c = idx o d) : c = d := by
  have h1 := (idx_in hc).2.2
  have h2 := (idx_in hd).2.2
  rw [← h1, h, h2]
theorem idx_take {c : Int} {j : Nat} (hc : c ∈ o.take j) : idx o c < (j : Int) := by
  have hm : c ∈ o := List.mem_of_mem_take hc
  unfold idx
  rw [if_pos hm]
  have h1 : o.idxOf c = (o.take j).idxOf c := by
    conv => lhs; rw [← List.take_append_drop j o, List.idxOf_append]
    rw [if_pos hc]
  rw [h1]
  have h2 := List.idxOf_lt_length_iff.2 hc
  rw [List.length_take] at h2
  omega
theorem renC_len (h : Ord cs o) : (renC cs o).length = cs.length := by unfold renC; rw [List.length_map, h.len]
theorem renC_at {j : Nat} (hj : j < o.length) : (renC cs o).getD j default = ((cs.getD (o.getD j default).toNat default).1, idx o (cs.getD (o.getD j default).toNat default).2) := by
  unfold renC
  rw [getD_at (by rw [List.length_map]; exact hj), List.getElem_map, ← getD_at hj]
theorem cls_uniq (hc : ∀ i, i < cs.length → ClsOK cs i) {i j : Nat} (hi : i < cs.length) (hj : j < cs.length) (h : (cs.getD i default).1 = (cs.getD j default).1) : i = j := by
  have key : ∀ i j, i < j → j < cs.length → ¬ (cs.getD i default).1 = (cs.getD j default).1 := by
    intro i j hij hj e
    refine (hc j hj).n ?_
    rw [← e]
    refine List.mem_map.2 ⟨_, ?_, rfl⟩
    rw [getD_at (show i < cs.length by omega), List.mem_take_iff_getElem]
    exact ⟨i, by omega, rfl⟩
  rcases Nat.lt_trichotomy i j with h1 | h1 | h1
  · exact absurd h (key i j h1 hj)
  · exact h1
  · exact absurd h.symm (key j i h1 hi)
/-- What is numbered anew is in order. -/
theorem ren_cls (hc : ∀ i, i < cs.length → ClsOK cs i) (h : Ord cs o) : ∀ j, j < (renC cs o).length → ClsOK (renC cs o) j := by
  intro j hj
  rw [renC_len h] at hj
  have hjo : j < o.length := by rw [h.len]; exact hj
  have hoj := h.inr _ (getD_mem hjo)
  have hk := hc (o.getD j default).toNat (by omega)
  refine ⟨by rw [renC_at hjo]; exact hk.w, ?_, ?_, ?_⟩
  · rw [renC_at hjo]
    intro hm
    obtain ⟨x, hx, he⟩ := List.mem_map.1 hm
    obtain ⟨i, hi, rfl⟩ := List.mem_take_iff_getElem.1 hx
    rw [renC_len h] at hi
    have hio : i < o.length := by omega
    rw [← getD_at (by rw [renC_len h]; omega), renC_at hio] at he
    have hoi := h.inr _ (getD_mem hio)
    have h1 := cls_uniq hc (by omega) (by omega) he
    have h2 : o.getD i default = o.getD j default := by omega
    have h3 := idx_pos h.nd hio
    rw [h2, idx_pos h.nd hjo] at h3
    omega
  · rw [renC_at hjo]
    show -1 ≤ idx o _
    by_cases hm : (cs.getD (o.getD j default).toNat default).2 ∈ o
    · have := (idx_in hm).1; omega
    · rw [idx_out hm]; omega
  · rw [renC_at hjo]
    show idx o _ < (j : Int)
    by_cases hm : 0 ≤ (cs.getD (o.getD j default).toNat default).2
    · exact idx_take (h.up j hjo hm)
    · rw [idx_out (fun hm2 => hm (h.inr _ hm2).1)]; omega
/-- Paths go the same way. -/
theorem ren_path (hc : ∀ i, i < cs.length → ClsOK cs i) (h : Ord cs o) : ∀ (m j : Nat), j ≤ m → j < o.length → pathT (renC cs o) (j : Int) = (pathT cs (o.getD j default)).map (idx o) := by
  intro m
  induction m with
  | zero =>
    intro j hm hj
    obtain rfl : j = 0 := by omega
    have hoj := h.inr _ (getD_mem hj)
    rw [path_step (renC cs o) (ren_cls hc h) (by omega) (by rw [renC_len h, ← h.len]; omega), path_step cs hc hoj.1 hoj.2, Int.toNat_natCast, renC_at hj, List.map_append, List.map_singleton, idx_pos h.nd hj]
    have hn : ¬ 0 ≤ (cs.getD (o.getD 0 default).toNat default).2 := fun h0 => by have := h.up 0 hj h0; simp at this
    rw [path_neg cs (by omega)]
    show pathT (renC cs o) (idx o _) ++ _ = _
    rw [idx_out (fun hm2 => hn (h.inr _ hm2).1), path_neg _ (by omega)]
    rfl
  | succ m ih =>
    intro j hm hj
    have hoj := h.inr _ (getD_mem hj)
    rw [path_step (renC cs o) (ren_cls hc h) (by omega) (by rw [renC_len h, ← h.len]; omega), path_step cs hc hoj.1 hoj.2, Int.toNat_natCast, renC_at hj, List.map_append, List.map_singleton, idx_pos h.nd hj]
    show pathT (renC cs o) (idx o _) ++ _ = _
    by_cases h0 : 0 ≤ (cs.getD (o.getD j default).toNat default).2
    · have hu := h.up j hj h0
      have hmo := List.mem_of_mem_take hu
      have hi := idx_in hmo
      have hlt := idx_take hu
      generalize (cs.getD (o.getD j default).toNat default).2 = u at *
      obtain ⟨q, hq⟩ := Int.eq_ofNat_of_zero_le hi.1
      rw [hq, ih q (by omega) (by omega)]
      rw [hq, Int.toNat_natCast] at hi
      rw [hi.2.2]
    · rw [path_neg cs (by omega), idx_out (fun hm2 => h0 (h.inr _ hm2).1), path_neg _ (by omega)]
      rfl
theorem ren_path' (hc : ∀ i, i < cs.length → ClsOK cs i) (h : Ord cs o) {c : Int} (hm : c ∈ o) : pathT (renC cs o) (idx o c) = (pathT cs c).map (idx o) := by
  have hi := idx_in hm
  obtain ⟨q, hq⟩ := Int.eq_ofNat_of_zero_le hi.1
  rw [hq, ren_path hc h q q (Nat.le_refl _) (by omega)]
  rw [hq, Int.toNat_natCast] at hi
  rw [hi.2.2]
theorem path_in (hc : ∀ i, i < cs.length → ClsOK cs i) (h : Ord cs o) {c x : Int} (hl : c < (cs.length : Int)) (hx : x ∈ pathT cs c) : x ∈ o := by
  have h1 := (path_asc cs hc c.toNat c (Nat.le_refl _) hl).2 x hx
  exact h.all x h1.1 (by omega)
/-- The least class above two, numbered anew. -/
theorem ren_least (hc : ∀ i, i < cs.length → ClsOK cs i) (h : Ord cs o) {hs hs' : List PH} {a b : Int} (ha : a ∈ o) (hb : b ∈ o) : leastT ⟨renC cs o, hs'⟩ (idx o a) (idx o b) = idx o (leastT ⟨cs, hs⟩ a b) := by
  have hal := h.inr a ha
  have hbl := h.inr b hb
  unfold leastT
  show leastN (pathT (renC cs o) (idx o a)) (pathT (renC cs o) (idx o b)) (renC cs o).length = idx o (leastN (pathT cs a) (pathT cs b) cs.length)
  rw [ren_path' hc h ha, ren_path' hc h hb, renC_len h]
  have h1 := least_ok (pathT cs a) (pathT cs b) cs.length
  have h2 := least_ok ((pathT cs a).map (idx o)) ((pathT cs b).map (idx o)) cs.length
  generalize leastN (pathT cs a) (pathT cs b) cs.length = x at h1 ⊢
  generalize leastN ((pathT cs a).map (idx o)) ((pathT cs b).map (idx o)) cs.length = y at h2 ⊢
  have hm1 : idx o (-1) = -1 := idx_out fun hm => by have := (h.inr _ hm).1; omega
  have hcom : 0 ≤ y → ∃ c, c ∈ pathT cs a ∧ c ∈ pathT cs b ∧ y = idx o c := fun h0 => by
    obtain ⟨ya, yb⟩ := h2.mem h0
    obtain ⟨c, hca, e1⟩ := List.mem_map.1 ya
    obtain ⟨d, hdb, e2⟩ := List.mem_map.1 yb
    obtain rfl := idx_inj (path_in hc h hal.2 hca) (path_in hc h hbl.2 hdb) (e1.trans e2.symm)
    exact ⟨c, hca, hdb, e1.symm⟩
  by_cases hx : 0 ≤ x
  · obtain ⟨xa, xb⟩ := h1.mem hx
    have hxo := path_in hc h hal.2 xa
    have hix := idx_in hxo
    have hol := h.len
    have hge : idx o x ≤ y := Classical.byContradiction fun hn => h2.no (idx o x) (by omega) (by omega) (List.mem_map_of_mem xa) (List.mem_map_of_mem xb)
    obtain ⟨c, hca, hcb, hy⟩ := hcom (by omega)
    have hci := h.inr c (path_in hc h hal.2 hca)
    have hcx : c ≤ x := Classical.byContradiction fun hn => h1.no c (by omega) hci.2 hca hcb
    have hcp := path_below cs hc a.toNat a (Nat.le_refl _) hal.2 x c xa hca hcx
    have h3 : idx o c ∈ pathT (renC cs o) (idx o x) := by rw [ren_path' hc h hxo]; exact List.mem_map_of_mem hcp
    have h4 := (path_asc (renC cs o) (ren_cls hc h) (idx o x).toNat (idx o x) (Nat.le_refl _) (by rw [renC_len h]; omega)).2 _ h3
    omega
  · have hx1 := h1.lo
    obtain rfl : x = -1 := by omega
    rw [hm1]
    have hy1 := h2.lo
    apply Classical.byContradiction
    intro hn
    obtain ⟨c, hca, hcb, hy⟩ := hcom (by omega)
    have hci := h.inr c (path_in hc h hal.2 hca)
    exact h1.no c (by omega) hci.2 hca hcb
theorem idx_m1 (h : Ord cs o) {c : Int} (hl : -1 ≤ c) (hh : c < (cs.length : Int)) : idx o c = -1 ↔ c = -1 := by
  constructor
  · intro e
    apply Classical.byContradiction
    intro hn
    have := (idx_in (h.all c (by omega) hh)).1
    omega
  · rintro rfl
    exact idx_out fun hm => by have := (h.inr _ hm).1; omega
abbrev renT (t : Tr) (o : List Int) : Tr := ⟨renC t.cs o, t.hs.map (renP o)⟩
theorem renP_at {hs : List PH} {j : Nat} (hj : j < hs.length) : (hs.map (renP o)).getD j default = renP o (hs.getD j default) := by
  rw [getD_at (by rw [List.length_map]; exact hj), List.getElem_map, ← getD_at hj]
/-- The trades that are numbered anew are valid. -/
theorem ren_ok {t : Tr} (hok : TrOK t) (h : Ord t.cs o) : TrOK (renT t o) := by
  refine ⟨by show (renC t.cs o).length ≤ 6; rw [renC_len h]; exact hok.c6, by show (t.hs.map (renP o)).length ≤ 6; rw [List.length_map]; exact hok.h6, ren_cls hok.c h, fun j hj => ?_⟩
  have hj2 : j < t.hs.length := by
    have h1 : j < (t.hs.map (renP o)).length := hj
    rwa [List.length_map] at h1
  have hh := hok.h j hj2
  have e : (renT t o).hs.getD j default = renP o (t.hs.getD j default) := renP_at hj2
  have hnm : ∀ m, ((renT t o).hs.take m).map (·.1) = (t.hs.take m).map (·.1) := fun m => by
    show ((t.hs.map (renP o)).take m).map (·.1) = _
    rw [← List.map_take, List.map_map]
    rfl
  have hln : (renT t o).hs.length = t.hs.length := List.length_map ..
  refine ⟨by rw [e]; exact hh.w, by rw [e, hnm]; exact hh.n, ?_, ?_, by rw [e, hln]; exact hh.s, by rw [e, hln]; exact hh.a, ?_⟩
  · by_cases h0 : 0 < j
    · have e2 : (renT t o).hs.getD (j - 1) default = renP o (t.hs.getD (j - 1) default) := renP_at (by omega)
      rw [e, e2]; exact hh.o
    · exact fun hx => h0 hx.1
  · rw [e]
    show -1 ≤ idx o (t.hs.getD j default).2.1 ∧ idx o (t.hs.getD j default).2.1 < ((renC t.cs o).length : Int)
    rw [renC_len h]
    have hol := h.len
    by_cases hm : (t.hs.getD j default).2.1 ∈ o
    · have := idx_in hm; omega
    · rw [idx_out hm]; omega
  · rw [e]
    have hk := hh.k
    unfold kindBad at hk ⊢
    have hi := idx_m1 h hh.c.1 hh.c.2
    show ((decide (¬ (t.hs.getD j default).2.2.1 = -1) && (decide (¬ idx o (t.hs.getD j default).2.1 = -1) || decide (0 < (t.hs.getD j default).2.2.2.length))) || (decide ((t.hs.getD j default).2.2.1 = -1) && (decide (idx o (t.hs.getD j default).2.1 = -1) && decide ((t.hs.getD j default).2.2.2.length = 0)))) = false
    rw [show decide (¬ idx o (t.hs.getD j default).2.1 = -1) = decide (¬ (t.hs.getD j default).2.1 = -1) from decide_eq_decide.2 (by rw [hi]), show decide (idx o (t.hs.getD j default).2.1 = -1) = decide ((t.hs.getD j default).2.1 = -1) from decide_eq_decide.2 hi]
    exact hk
/-- A word names the same path. -/
theorem ren_names {t : Tr} (hok : TrOK t) (h : Ord t.cs o) (s : Str) : namesN (renT t o) s = namesN t s := by
  unfold namesN
  show ((t.hs.map (renP o)).find? _).map _ = _
  rw [List.find?_map, Option.map_map]
  have hp : t.hs.find? ((fun h : PH => decide (h.1 = s) && decide (¬ h.2.1 = -1)) ∘ renP o) = t.hs.find? (fun h : PH => decide (h.1 = s) && decide (¬ h.2.1 = -1)) := by
    refine find_congr2 fun x hx => ?_
    obtain ⟨j, hj, rfl⟩ := List.getElem_of_mem hx
    have hc := (hok.h j hj).c
    rw [getD_at hj] at hc
    show (decide (t.hs[j].1 = s) && decide (¬ idx o t.hs[j].2.1 = -1)) = _
    rw [show decide (¬ idx o t.hs[j].2.1 = -1) = decide (¬ t.hs[j].2.1 = -1) from decide_eq_decide.2 (by rw [idx_m1 h hc.1 hc.2])]
  rw [hp]
  cases hf : t.hs.find? (fun h : PH => decide (h.1 = s) && decide (¬ h.2.1 = -1)) with
  | none => rfl
  | some x =>
    have hx := List.mem_of_find?_eq_some hf
    have hx2 := List.find?_some hf
    obtain ⟨j, hj, rfl⟩ := List.getElem_of_mem hx
    have hc := (hok.h j hj).c
    rw [getD_at hj] at hc
    rw [Bool.and_eq_true, decide_eq_true_eq, decide_eq_true_eq] at hx2
    have hmo := h.all t.hs[j].2.1 (by omega) hc.2
    show some ((pathT (renC t.cs o) (idx o t.hs[j].2.1)).map fun c => ((renC t.cs o).getD c.toNat default).1) = some ((pathT t.cs t.hs[j].2.1).map fun c => (t.cs.getD c.toNat default).1)
    rw [ren_path' hok.c h hmo, List.map_map]
    congr 1
    refine List.map_congr_left fun c hcm => ?_
    have hco := path_in hok.c h hc.2 hcm
    have hi := idx_in hco
    show ((renC t.cs o).getD (idx o c).toNat default).1 = _
    rw [renC_at (by omega), hi.2.2]
theorem ren_compare {t : Tr} (hok : TrOK t) (h : Ord t.cs o) : compareT t (renT t o) = [] := by
  unfold compareT
  rw [List.filterMap_eq_nil_iff]
  intro s _
  unfold moveN
  rw [ren_names hok h]
  cases namesN t s <;> simp
end

theorem at_m1 {l : List Int} {s z : Int} (h : AtInv l s z) (h1 : s ∉ l → z = -1) (hn : l.Nodup) : z = idx l s := by
  by_cases hm : s ∈ l
  · have h2 := h.2 hm
    have h0 := h.1.2 hm
    have hi := idx_in hm
    obtain ⟨q, rfl⟩ := Int.eq_ofNat_of_zero_le h0
    obtain ⟨r, hr⟩ := Int.eq_ofNat_of_zero_le hi.1
    have h3 : s ∈ l.take (q + 1) := (h2 (q + 1)).1 (by omega)
    have h4 : s ∉ l.take q := fun hc => by have := (h2 q).2 hc; omega
    obtain ⟨j, hj, e⟩ := List.mem_take_iff_getElem.1 h3
    have hjl : j < l.length := by omega
    have h5 := idx_pos hn hjl
    rw [getD_at hjl, e] at h5
    rw [h5]
    by_cases hjq : j = q
    · rw [hjq]
    · exact absurd (List.mem_take_iff_getElem.2 ⟨j, by omega, e⟩) h4
  · rw [h1 hm, idx_out hm]

theorem kit_Index_idx {A : Option Addr} {c : Nat} (l : List Int) (s : Int) (hl : l.length ≤ 1000000) : Meets Try.prog F.kit_Index [.slice A l.length c, int s] { LI := [Row A (rows l)], inv := fun z : Int => AtInv l s z ∧ (s ∉ l → z = -1), val := fun z => int z } := by
 refine meets_intro F.kit_Index_f rfl (Nat.le_of_ble_eq_true rfl) fun w0 => ?_
 refine hc_seq ?_
 refine hc_region ?_
 refine r_assign rfl rfl ?_
 refine hl_nil ?_
 refine then_n ?_
 refine hc_seq ?_
 refine hc_seq ?_
 refine hc_region ?_
 refine r_assign rfl rfl ?_
 refine hl_nil ?_
 refine then_n ?_
 refine hc_block ?_
 refine hc_loop (β := Nat) ⟨fun k => k ≤ l.length ∧ s ∉ l.take k, fun k => [(0, .slice A l.length c), (1, int s), (5, int k)], fun _ => [], fun _ => [Row A (rows l)]⟩ (fun k => l.length - k) 0 ⟨Nat.zero_le _, by simp⟩ ⟨rfl, rfl, rfl, trivial⟩ (.refl _) ⟨m0, trivial⟩ fun k hk => ?_
 obtain ⟨hk, ht⟩ := hk
 refine hc_seq ?_
 refine hc_seq ?_
 refine hc_region ?_
 refine r_move rfl rfl ?_
 refine r_move rfl rfl ?_
 refine r_len_sl rfl T.u_ints rfl ?_
 refine r_lss rfl rfl rfl ?_
 refine hl_nil ?_
 refine then_n ?_
 first | refine c_dec rfl (fun hb1 => ?_) (fun hb1 => ?_) | refine hc_cond rfl (fun hb1 => ?_) (fun hb1 => ?_)
 ·have hb1' := hb1; try simp at hb1'
  have hk2 : k < l.length := by omega
  refine hc_skip ?_
  refine then_n ?_
  refine hc_seq ?_
  refine hc_block ?_
  refine hc_seq ?_
  refine hc_region ?_
  refine r_move rfl rfl ?_
  refine r_move rfl rfl ?_
  refine r_elem (α := Int) _ _ rfl T.u_ints T.sz_int rfl rfl rfl (by repeat constructor) rfl (by omega) (by decide) ?_
  refine r_load rfl T.cell_int rfl (cell_row (by repeat constructor) (rows_get0 (by omega) rfl)) ?_
  refine r_move rfl rfl ?_
  refine r_eql rfl rfl rfl ?_
  refine hl_nil ?_
  refine then_n ?_
  first | refine c_dec rfl (fun hb2 => ?_) (fun hb2 => ?_) | refine hc_cond rfl (fun hb2 => ?_) (fun hb2 => ?_)
  ·have hb2' := hb2; try simp at hb2'
   refine hc_seq ?_
   refine hc_region ?_
   refine r_move rfl rfl ?_
   refine r_assign rfl rfl ?_
   refine hl_nil ?_
   refine then_n ?_
   refine hc_ret ?_
   refine inb_ret ?_
   refine then_ret ?_
   refine then_ret ?_
   refine inb_ret ?_
   refine then_ret ?_
   exact ret1 (k : Int) rfl rfl rfl ⟨at_found hk2 hb2 ht, fun hm => absurd (by rw [← hb2]; exact getD_mem hk2) hm⟩ (.refl _) trivial
  ·have hb2' := hb2; try simp at hb2'
   refine hc_skip ?_
   refine inb_n ?_
   refine then_n ?_
   refine hc_region ?_
   refine r_move rfl rfl ?_
   refine r_add _ rfl rfl rfl rfl (by unfold I64; omega) ?_
   refine r_assign rfl rfl ?_
   refine hl_nil ?_
   exact again _ (k + 1) ⟨by omega, not_mem_take hk2 ht (fun e => hb2 e.symm)⟩ (by show l.length - (k + 1) < l.length - k; omega) ⟨rfl, rfl, rfl, trivial⟩ (.refl _) ⟨m0, trivial⟩
 ·have hb1' := hb1; try simp at hb1'
  have hk2 : k = l.length := by omega
  subst hk2
  rw [List.take_length] at ht
  refine hc_exit ?_
  refine then_exit ?_
  refine then_exit ?_
  refine inb_hit ?_
  refine then_n ?_
  refine hc_seq ?_
  refine hc_region ?_
  refine r_assign rfl rfl ?_
  refine hl_nil ?_
  refine then_n ?_
  refine hc_ret ?_
  exact ret1 (-1) rfl rfl rfl ⟨at_none ht, fun _ => rfl⟩ (.refl _) trivial

theorem kit_Index_is {A : Option Addr} {c : Nat} (l : List Int) (s : Int) (hl : l.length ≤ 1000000) (hn : l.Nodup) : Meets Try.prog F.kit_Index [.slice A l.length c, int s] { LI := [Row A (rows l)], val := fun _ : Unit => int (idx l s) } := by
  intro w hw
  refine (kit_Index_idx (A := A) (c := c) l s hl w hw).mono fun e w' h => ?_
  obtain ⟨z, h1, h2, h3⟩ := h
  exact ⟨(), by rw [h1]; show Ending.returned (int z) = Ending.returned (int (idx l s)); rw [at_m1 h2.1 h2.2 hn], trivial, h3⟩

theorem nodupI_le {n : Nat} {l : List Int} (hn : l.Nodup) (h : ∀ x ∈ l, 0 ≤ x ∧ x < (n : Int)) : l.length ≤ n := by
  have h1 : (l.map Int.toNat).Nodup := by
    unfold List.Nodup at hn ⊢
    rw [List.pairwise_map]
    refine hn.imp_of_mem fun {a b} ha hb hab e => hab ?_
    have := h a ha
    have := h b hb
    omega
  have h2 := nodup_le (n := n) h1 fun y hy => by
    obtain ⟨x, hx, rfl⟩ := List.mem_map.1 hy
    have := h x hx
    omega
  rwa [List.length_map] at h2
/-- A class that may come next. -/
def ElB (cs : List Cl) (o : List Int) (c : Nat) : Prop := (c : Int) ∉ o ∧ ((cs.getD c default).2 < 0 ∨ (cs.getD c default).2 ∈ o)
structure OrdP (cs : List Cl) (o : List Int) : Prop where
  nd : o.Nodup
  inr : ∀ c ∈ o, 0 ≤ c ∧ c < (cs.length : Int)
  up : ∀ j, j < o.length → 0 ≤ (cs.getD (o.getD j default).toNat default).2 → (cs.getD (o.getD j default).toNat default).2 ∈ o.take j
theorem OrdP.nil (cs : List Cl) : OrdP cs [] := ⟨by simp, fun c hc => absurd hc (by simp), fun j hj => absurd hj (by simp)⟩
theorem OrdP.snoc {cs : List Cl} {o : List Int} {c : Nat} (h : OrdP cs o) (hc : c < cs.length) (he : ElB cs o c) : OrdP cs (o ++ [(c : Int)]) := by
  refine ⟨?_, fun x hx => ?_, fun j hj h0 => ?_⟩
  · rw [List.nodup_append]
    exact ⟨h.nd, by simp, fun a ha b hb e => by rw [List.mem_singleton] at hb; subst hb; subst e; exact he.1 ha⟩
  · rcases List.mem_append.1 hx with hx | hx
    · exact h.inr x hx
    · rw [List.mem_singleton] at hx; omega
  · rw [List.length_append, List.length_singleton] at hj
    by_cases e : j < o.length
    · have e1 : (o ++ [(c : Int)]).getD j default = o.getD j default := by rw [List.getD_eq_getElem?_getD, List.getD_eq_getElem?_getD, List.getElem?_append_left e]
      rw [e1] at h0 ⊢
      rw [List.take_append_of_le_length (by omega)]
      exact h.up j e h0
    · obtain rfl : j = o.length := by omega
      have e1 : (o ++ [(c : Int)]).getD o.length default = (c : Int) := by rw [List.getD_eq_getElem?_getD, List.getElem?_append_right (Nat.le_refl _), Nat.sub_self]; rfl
      rw [e1, Int.toNat_natCast] at h0 ⊢
      rw [List.take_append_of_le_length (Nat.le_refl _), List.take_length]
      rcases he.2 with h1 | h1
      · omega
      · exact h1
theorem OrdP.full {cs : List Cl} {o : List Int} (h : OrdP cs o) (hl : o.length = cs.length) : Ord cs o :=
  ⟨hl, h.nd, h.inr, fun c h0 h1 => Classical.byContradiction fun hn => by
    have h2 := nodupI_le (n := cs.length) (l := c :: o) (List.nodup_cons.2 ⟨hn, h.nd⟩) fun x hx => by
      rcases List.mem_cons.1 hx with rfl | hx
      · exact ⟨h0, h1⟩
      · exact h.inr x hx
    rw [List.length_cons] at h2
    omega, h.up⟩
/-- While some class is not there one may come next. -/
theorem el_ex {cs : List Cl} {o : List Int} (hc : ∀ i, i < cs.length → ClsOK cs i) (h : OrdP cs o) (hl : o.length < cs.length) : ∃ c, c < cs.length ∧ ElB cs o c := by
  have hex : ∃ c : Nat, c < cs.length ∧ (c : Int) ∉ o := by
    apply Classical.byContradiction
    intro hn
    have hall : ∀ c : Nat, c < cs.length → (c : Int) ∈ o := fun c hc => Classical.byContradiction fun hm => hn ⟨c, hc, hm⟩
    have key : ∀ (m : Nat) (l : List Int), m ≤ cs.length → (∀ c : Nat, c < m → (c : Int) ∈ l) → m ≤ l.length := by
      intro m
      induction m with
      | zero => intro l _ _; omega
      | succ m ih =>
        intro l hm hl2
        have h3 := hl2 m (by omega)
        have h4 := ih (l.erase (m : Int)) (by omega) fun c hc2 => (List.mem_erase_of_ne (by omega)).2 (hl2 c (by omega))
        rw [List.length_erase_of_mem h3] at h4
        have : 0 < l.length := List.length_pos_iff.2 (List.ne_nil_of_mem h3)
        omega
    have := key cs.length o (Nat.le_refl _) hall
    omega
  have hmin : ∀ m : Nat, (∃ c : Nat, c ≤ m ∧ c < cs.length ∧ (c : Int) ∉ o) → ∃ c, c < cs.length ∧ ElB cs o c := by
    intro m
    induction m with
    | zero =>
      rintro ⟨c, hcm, hcl, hco⟩
      obtain rfl : c = 0 := by omega
      have hk := hc 0 hcl
      exact ⟨0, hcl, hco, .inl (by have := hk.hi; omega)⟩
    | succ m ih =>
      rintro ⟨c, hcm, hcl, hco⟩
      have hk := hc c hcl
      have hhi := hk.hi
      by_cases hu : (cs.getD c default).2 < 0 ∨ (cs.getD c default).2 ∈ o
      · exact ⟨c, hcl, hco, hu⟩
      · rw [not_or] at hu
        refine ih ⟨(cs.getD c default).2.toNat, by omega, by omega, ?_⟩
        rw [Int.toNat_of_nonneg (by omega)]
        exact hu.2
  obtain ⟨c, hcl, hco⟩ := hex
  exact hmin c ⟨c, Nat.le_refl _, hcl, hco⟩

theorem growI_blk {l : List Int} {A : Option Addr} {cap : Nat} {og : Hp} (h : Grow T.int 1 A l.length cap (rows l) og) (hn : 0 < l.length) : ∃ g cur, A = some ⟨g, 0, none⟩ ∧ og = [(g, Obj.cells cur T.int (0, 0))] ∧ cur.toList.take (l.length * 1) = rows l := by
  rcases h.2 with ⟨_, h1, _⟩ | ⟨g, cur, h1, h2, _, _, _, h3⟩
  · omega
  · exact ⟨g, cur, h1, h2, h3⟩
theorem at_is {l : List Int} {s z : Int} (h : AtInv l s z ∧ (s ∉ l → z = -1)) (hn : l.Nodup) : z = idx l s := at_m1 h.1 h.2 hn

theorem kit_Index_own {A : Option Addr} {cap : Nat} (l : List Int) (s : Int) (og : Hp) (hG : Grow T.int 1 A l.length cap (rows l) og) (hl : l.length ≤ 1000000) (hn : l.Nodup) : Meets Try.prog F.kit_Index [.slice A l.length cap, int s] { hpI := og, val := fun _ : Unit => int (idx l s), hpO := fun _ => og } := by
 refine meets_intro F.kit_Index_f rfl (Nat.le_of_ble_eq_true rfl) fun w0 => ?_
 refine hc_seq ?_
 refine hc_region ?_
 refine r_assign rfl rfl ?_
 refine hl_nil ?_
 refine then_n ?_
 refine hc_seq ?_
 refine hc_seq ?_
 refine hc_region ?_
 refine r_assign rfl rfl ?_
 refine hl_nil ?_
 refine then_n ?_
 refine hc_block ?_
 refine hc_loop (β := Nat) ⟨fun k => k ≤ l.length ∧ s ∉ l.take k, fun k => [(0, .slice A l.length cap), (1, int s), (5, int k)], fun _ => og, fun _ => []⟩ (fun k => l.length - k) 0 ⟨Nat.zero_le _, by simp⟩ ⟨rfl, rfl, rfl, trivial⟩ (List.Sublist.refl _) trivial fun k hk => ?_
 obtain ⟨hk, ht⟩ := hk
 refine hc_seq ?_
 refine hc_seq ?_
 refine hc_region ?_
 refine r_move rfl rfl ?_
 refine r_move rfl rfl ?_
 refine r_len_sl rfl T.u_ints rfl ?_
 refine r_lss rfl rfl rfl ?_
 refine hl_nil ?_
 refine then_n ?_
 first | refine c_dec rfl (fun hb1 => ?_) (fun hb1 => ?_) | refine hc_cond rfl (fun hb1 => ?_) (fun hb1 => ?_)
 ·have hb1' := hb1; try simp at hb1'
  have hk2 : k < l.length := by omega
  obtain ⟨g, cur, rfl, rfl, hct⟩ := growI_blk hG (by omega)
  refine hc_skip ?_
  refine then_n ?_
  refine hc_seq ?_
  refine hc_block ?_
  refine hc_seq ?_
  refine hc_region ?_
  refine r_move rfl rfl ?_
  refine r_move rfl rfl ?_
  refine r_indexAddr_own k (0 + k * 1) rfl T.u_ints T.sz_int rfl rfl rfl hk2 rfl ?_
  refine r_load (v := int (l.getD k default)) rfl T.cell_int rfl (cell_own (List.mem_cons_self ..) (own_el rfl hct hk2 (by omega) rfl)) ?_
  refine r_move rfl rfl ?_
  refine r_eql rfl rfl rfl ?_
  refine hl_nil ?_
  refine then_n ?_
  first | refine c_dec rfl (fun hb2 => ?_) (fun hb2 => ?_) | refine hc_cond rfl (fun hb2 => ?_) (fun hb2 => ?_)
  ·have hb2' := hb2; try simp at hb2'
   refine hc_seq ?_
   refine hc_region ?_
   refine r_move rfl rfl ?_
   refine r_assign rfl rfl ?_
   refine hl_nil ?_
   refine then_n ?_
   refine hc_ret ?_
   refine inb_ret ?_
   refine then_ret ?_
   refine then_ret ?_
   refine inb_ret ?_
   refine then_ret ?_
   exact ret1 () rfl (congrArg (fun z => some (int z)) (at_is ⟨at_found hk2 hb2 ht, fun hm => absurd (by rw [← hb2]; exact getD_mem hk2) hm⟩ hn)) rfl trivial (List.Sublist.refl _) trivial
  ·have hb2' := hb2; try simp at hb2'
   refine hc_skip ?_
   refine inb_n ?_
   refine then_n ?_
   refine hc_region ?_
   refine r_move rfl rfl ?_
   refine r_add _ rfl rfl rfl rfl (by unfold I64; omega) ?_
   refine r_assign rfl rfl ?_
   refine hl_nil ?_
   exact again _ (k + 1) ⟨by omega, not_mem_take hk2 ht (fun e => hb2 e.symm)⟩ (by show l.length - (k + 1) < l.length - k; omega) ⟨rfl, rfl, rfl, trivial⟩ (List.Sublist.refl _) trivial
 ·have hb1' := hb1; try simp at hb1'
  have hk2 : k = l.length := by omega
  subst hk2
  rw [List.take_length] at ht
  refine hc_exit ?_
  refine then_exit ?_
  refine then_exit ?_
  refine inb_hit ?_
  refine then_n ?_
  refine hc_seq ?_
  refine hc_region ?_
  refine r_assign rfl rfl ?_
  refine hl_nil ?_
  refine then_n ?_
  refine hc_ret ?_
  exact ret1 () rfl (congrArg (fun z => some (int z)) (at_is ⟨at_none ht, fun _ => rfl⟩ hn)) rfl trivial (List.Sublist.refl _) trivial

end Go.Proofs.Ytlpgheniajdkfaa
