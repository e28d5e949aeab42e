/- Plain laws for ProofLines: how many lines marks make, and which lines stay. -/
import Derived.Test.YtpbbgbjidhffoaaPqb
import Derived.Test.YtpbbgbjidhffoaaPqe
import Derived.Test.YtpbbgbjidhffoaaPqc
namespace Go.Proofs.Ytpbbgbjidhffoaa
open Go Go.W
set_option linter.unusedVariables false
set_option linter.unusedSimpArgs false
set_option maxRecDepth 20000
attribute [local irreducible] HL HC HQ HB Row Rows2 Blk Facts

def insM (l : List Mk) : Nat := (l.filter fun m => decide (m.1 = 1)).length
def outsM (l : List Mk) : Nat := (l.filter fun m => decide (m.1 = 3)).length
def mk2 (p : List Str) : List Mk → Nat → List Str
  | [], nx => p.drop nx
  | m :: l, nx => (p.take m.2.1.toNat).drop nx ++ ((if m.1 = 3 then [] else [m.2.2]) ++ mk2 p l (if m.1 = 1 then m.2.1.toNat else m.2.1.toNat + 1))
/-- The marks stand from a line on. -/
def From (nx : Nat) (l : List Mk) : Prop := ∀ m ∈ l, (nx : Int) ≤ m.2.1
theorem From.next {nx : Nat} {m : Mk} {l : List Mk} (hA : Asc (m :: l)) (h : From nx (m :: l)) : From (if m.1 = 1 then m.2.1.toNat else m.2.1.toNat + 1) l := by
  intro b hb
  have h1 := h m (by simp)
  have h2 := hA.1 b hb
  split <;> omega
theorem MV.next {n : Nat} {m : Mk} {l : List Mk} (h : MV n (m :: l)) : MV n l := fun b hb => h b (by simp [hb])
theorem made_mk2 (p : List Str) : ∀ (l : List Mk) (nx : Nat) (ls : List Str), Asc l → MV p.length l → From nx l →
    (l.foldl (stepP p) (ls, nx)).1 ++ p.drop (l.foldl (stepP p) (ls, nx)).2 = ls ++ mk2 p l nx
  | [], nx, ls, _, _, _ => rfl
  | m :: l, nx, ls, hA, hV, hF => by
    have h1 := hF m (by simp)
    have hmax : max nx m.2.1.toNat = m.2.1.toNat := by omega
    have hs : stepP p (ls, nx) m = (deedL m (ls ++ (p.take m.2.1.toNat).drop nx), (deedN m (m.2.1.toNat : Nat)).toNat) := by
      unfold stepP
      simp only [hmax]
    have hn : (deedN m (m.2.1.toNat : Nat)).toNat = (if m.1 = 1 then m.2.1.toNat else m.2.1.toNat + 1) := by
      unfold deedN
      split <;> omega
    rw [List.foldl_cons, hs, hn, made_mk2 p l _ _ hA.2 hV.next (hF.next hA), mk2, deedL]
    split <;> simp
theorem mk2_len (p : List Str) : ∀ (l : List Mk) (nx : Nat), Asc l → MV p.length l → From nx l → nx ≤ p.length → (mk2 p l nx).length + outsM l + nx = p.length + insM l
  | [], nx, _, _, _, h => by simp [mk2, outsM, insM]; omega
  | m :: l, nx, hA, hV, hF, h => by
    have h1 := hF m (by simp)
    have hv := hV m (by simp)
    have ih := mk2_len p l _ hA.2 hV.next (hF.next hA) (by split <;> omega)
    have e1 : insM (m :: l) = insM l + (if m.1 = 1 then 1 else 0) := by
      unfold insM
      by_cases k : m.1 = 1
      · rw [List.filter_cons_of_pos (by simpa using k), if_pos k]; simp
      · rw [List.filter_cons_of_neg (by simpa using k), if_neg k]; simp
    have e3 : outsM (m :: l) = outsM l + (if m.1 = 3 then 1 else 0) := by
      unfold outsM
      by_cases k : m.1 = 3
      · rw [List.filter_cons_of_pos (by simpa using k), if_pos k]; simp
      · rw [List.filter_cons_of_neg (by simpa using k), if_neg k]; simp
    rw [mk2, e1, e3]
    simp only [List.length_append, List.length_drop, List.length_take]
    by_cases k1 : m.1 = 1
    · have k3 : ¬ m.1 = 3 := by omega
      simp only [if_pos k1, if_neg k3, List.length_cons, List.length_nil] at ih ⊢
      omega
    · by_cases k3 : m.1 = 3
      · simp only [if_neg k1, if_pos k3, List.length_nil] at ih ⊢
        omega
      · simp only [if_neg k1, if_neg k3, List.length_cons, List.length_nil] at ih ⊢
        omega
/-- A mark that names a line. -/
def namedM (l : List Mk) (i : Nat) : Bool := l.any fun m => decide (m.2.1 = (i : Int)) && decide (¬ m.1 = 1)
def keptF (p : List Str) (l : List Mk) (nx n : Nat) : List Str := ((List.range' nx n).filter fun i => !namedM l i).map fun i => p.getD i default
theorem range_part (p : List Str) (nx c : Nat) (h : nx + c ≤ p.length) : (List.range' nx c).map (fun i => p.getD i default) = (p.drop nx).take c := by
  apply List.ext_getElem
  · simp; omega
  · intro i h1 h2
    simp only [List.length_map, List.length_range'] at h1
    simp only [List.getElem_map, List.getElem_range', List.getElem_take, List.getElem_drop]
    rw [getD_at (by omega)]
    congr 1
    omega
theorem kept_split (p : List Str) (l : List Mk) (nx t : Nat) (h1 : nx ≤ t) (h2 : t ≤ p.length) (hn : ∀ i, nx ≤ i → i < t → namedM l i = false) : keptF p l nx (p.length - nx) = (p.take t).drop nx ++ keptF p l t (p.length - t) := by
  have e : List.range' nx (p.length - nx) = List.range' nx (t - nx) ++ List.range' t (p.length - t) := by
    have := List.range'_append_1 (s := nx) (m := t - nx) (n := p.length - t)
    rw [show nx + (t - nx) = t by omega, show t - nx + (p.length - t) = p.length - nx by omega] at this
    exact this.symm
  have e2 : (List.range' nx (t - nx)).filter (fun i => !namedM l i) = List.range' nx (t - nx) := by
    rw [List.filter_eq_self]
    intro i hi
    have := List.mem_range'_1.1 hi
    rw [hn i (by omega) (by omega)]; rfl
  unfold keptF
  rw [e, List.filter_append, List.map_append, e2, range_part p nx (t - nx) (by omega), List.drop_take]
theorem kept_congr (p : List Str) (l l' : List Mk) (nx n : Nat) (h : ∀ i, nx ≤ i → namedM l i = namedM l' i) : keptF p l nx n = keptF p l' nx n := by
  unfold keptF
  congr 1
  apply List.filter_congr
  intro i hi
  rw [h i (List.mem_range'_1.1 hi).1]
theorem named_cons (m : Mk) (l : List Mk) (i : Nat) : namedM (m :: l) i = ((decide (m.2.1 = (i : Int)) && decide (¬ m.1 = 1)) || namedM l i) := by simp [namedM]
theorem named_from {nx i : Nat} {l : List Mk} (h : From nx l) (hi : i < nx) : namedM l i = false := by
  unfold namedM
  rw [List.any_eq_false]
  intro m hm
  have := h m hm
  simp only [Bool.and_eq_true, decide_eq_true_eq, not_and]
  intro h2
  omega
/-- What is kept is what the first mark leaves, and the rest. -/
theorem kept_cons (p : List Str) (m : Mk) (l : List Mk) (nx : Nat) (hA : Asc (m :: l)) (hV : MV p.length (m :: l)) (hF : From nx (m :: l)) :
    keptF p (m :: l) nx (p.length - nx) = (p.take m.2.1.toNat).drop nx ++ keptF p l (if m.1 = 1 then m.2.1.toNat else m.2.1.toNat + 1) (p.length - (if m.1 = 1 then m.2.1.toNat else m.2.1.toNat + 1)) := by
  have h1 := hF m (by simp)
  have hv := hV m (by simp)
  have hF2 : From m.2.1.toNat (m :: l) := by
    intro b hb
    rcases List.mem_cons.1 hb with rfl | hb
    · omega
    · have := hA.1 b hb; omega
  rw [kept_split p (m :: l) nx m.2.1.toNat (by omega) (by omega) (fun i _ hi => named_from hF2 hi)]
  congr 1
  by_cases k : m.1 = 1
  · rw [if_pos k]
    refine kept_congr p _ _ _ _ fun i _ => ?_
    rw [named_cons]
    simp [k]
  · rw [if_neg k]
    have hlt : m.2.1.toNat < p.length := by omega
    have e : List.range' m.2.1.toNat (p.length - m.2.1.toNat) = m.2.1.toNat :: List.range' (m.2.1.toNat + 1) (p.length - (m.2.1.toNat + 1)) := by
      rw [show p.length - m.2.1.toNat = (p.length - (m.2.1.toNat + 1)) + 1 by omega, List.range'_succ]
    have e2 : keptF p (m :: l) m.2.1.toNat (p.length - m.2.1.toNat) = keptF p (m :: l) (m.2.1.toNat + 1) (p.length - (m.2.1.toNat + 1)) := by
      unfold keptF
      rw [e, List.filter_cons_of_neg]
      rw [named_cons, decide_eq_true (show m.2.1 = (m.2.1.toNat : Int) by omega), decide_eq_true k]
      simp
    rw [e2]
    refine kept_congr p _ _ _ _ fun i hi => ?_
    rw [named_cons, decide_eq_false (show ¬ m.2.1 = (i : Int) by omega)]
    simp
theorem kept_sub (p : List Str) : ∀ (l : List Mk) (nx : Nat), Asc l → MV p.length l → From nx l → nx ≤ p.length → (keptF p l nx (p.length - nx)).Sublist (mk2 p l nx)
  | [], nx, _, _, _, h => by
    have := kept_split p [] nx p.length h (Nat.le_refl _) (fun _ _ _ => rfl)
    rw [this, mk2, List.take_length, Nat.sub_self]
    show List.Sublist (p.drop nx ++ []) _
    rw [List.append_nil]
    exact List.Sublist.refl _
  | m :: l, nx, hA, hV, hF, h => by
    have h1 := hF m (by simp)
    have hv := hV m (by simp)
    rw [kept_cons p m l nx hA hV hF, mk2]
    have ih := kept_sub p l _ hA.2 hV.next (hF.next hA) (by split <;> omega)
    exact (List.Sublist.refl _).append (ih.trans (List.sublist_append_right _ _))
theorem kept_len (p : List Str) : ∀ (l : List Mk) (nx : Nat), Asc l → MV p.length l → From nx l → nx ≤ p.length → (keptF p l nx (p.length - nx)).length + costM l = (mk2 p l nx).length
  | [], nx, _, _, _, h => by
    have := kept_split p [] nx p.length h (Nat.le_refl _) (fun _ _ _ => rfl)
    rw [this, mk2, List.take_length, Nat.sub_self]
    show (p.drop nx ++ []).length + 0 = _
    rw [List.append_nil]
    rfl
  | m :: l, nx, hA, hV, hF, h => by
    have h1 := hF m (by simp)
    have hv := hV m (by simp)
    rw [kept_cons p m l nx hA hV hF, mk2]
    have ih := kept_len p l _ hA.2 hV.next (hF.next hA) (by split <;> omega)
    have e : costM (m :: l) = costM l + (if m.1 = 3 then 0 else 1) := by
      unfold costM
      by_cases k : m.1 = 3
      · rw [List.filter_cons_of_neg (by simpa using k), if_pos k]; simp
      · rw [List.filter_cons_of_pos (by simpa using k), if_neg k]; simp
    rw [e]
    simp only [List.length_append]
    rw [← ih]
    by_cases k3 : m.1 = 3
    · rw [if_pos k3, if_pos k3, List.length_nil]; omega
    · rw [if_neg k3, if_neg k3, List.length_singleton]; omega
theorem from0 {n : Nat} {l : List Mk} (h : MV n l) : From 0 l := fun m hm => by have := h m hm; omega
theorem made_is (p : List Str) {l : List Mk} (hA : Asc l) (hV : MV p.length l) : madeP p l = mk2 p l 0 := by
  have := made_mk2 p l 0 [] hA hV (from0 hV)
  rw [List.nil_append] at this
  exact this
/-- Marks that the kit makes are valid. -/
theorem marks_ok {n : Nat} {l : List Mk} (h : MarksOK n l) (hl : l.length ≤ 12) : marksErr n l = 0 := by
  rw [marksErr, if_neg (by omega)]
  refine firstErr_all fun k hk => ?_
  have hk := List.mem_range.1 hk
  have hm := getD_mem hk
  have hv := h.v _ hm
  have ht : textErr (l.getD k default) = 0 := by
    rcases h.t _ hm with ⟨h1, h2⟩ | ⟨h1, h2⟩
    · rw [textErr, if_neg (not_not_intro h1), if_neg (not_not_intro h2)]
    · rw [textErr, if_pos h1]; exact words_ok _ h2
  have hn : ¬ k = 0 → okNext (l.getD (k - 1) default) (l.getD k default) := fun h0 => by
    have := h.ch (k - 1) (by omega)
    rwa [Nat.sub_add_cancel (by omega)] at this
  unfold markErr mErr
  unfold okNext at hn
  generalize l.getD k default = m at *
  generalize l.getD (k - 1) default = b at *
  rw [if_neg (by omega), if_neg (by split <;> omega), if_neg (by simp [ht])]
  split
  · rfl
  · rename_i h0
    have := hn h0
    rw [if_neg (by omega), if_pos (by omega)]
theorem check_ok {p : List Str} {l : List Mk} (hp : pageErr p = 0) (h : MarksOK p.length l) (hl : l.length ≤ 12) : checkErr p l = 0 := by rw [checkErr, if_pos hp]; exact marks_ok h hl
/-- All that ProofLines says. -/
structure LinesOK (p : List Str) (l : List Mk) : Prop where
  len : ((madeP p l).length : Int) = (p.length : Int) + insM l - outsM l
  kept : commonI (keptF p l 0 p.length) (madeP p l) = (keptF p l 0 p.length).length
  sum : (keptF p l 0 p.length).length + costM l = (madeP p l).length
theorem lines_ok {p : List Str} {l : List Mk} (hA : Asc l) (hV : MV p.length l) : LinesOK p l := by
  have h1 := mk2_len p l 0 hA hV (from0 hV) (Nat.zero_le _)
  have h2 := kept_sub p l 0 hA hV (from0 hV) (Nat.zero_le _)
  have h3 := kept_len p l 0 hA hV (from0 hV) (Nat.zero_le _)
  rw [← made_is p hA hV, Nat.sub_zero] at *
  refine ⟨by omega, ?_, h3⟩
  obtain ⟨n, e, hl⟩ := common_lcs (keptF p l 0 p.length) (madeP p l)
  obtain ⟨s, s1, s2, s3⟩ := hl.ex
  have := s1.length_le
  have := hl.le _ (List.Sublist.refl _) h2
  rw [e]
  omega


end Go.Proofs.Ytpbbgbjidhffoaa
