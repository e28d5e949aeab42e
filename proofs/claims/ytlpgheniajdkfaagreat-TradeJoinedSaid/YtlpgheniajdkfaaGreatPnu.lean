/- Joins of the document: the plain law. -/
import Derived.Test.YtlpgheniajdkfaaGreatPnt
import Derived.Test.YtlpgheniajdkfaaGreatPnh
namespace Go.Proofs.YtlpgheniajdkfaaGreat
open Go Go.W
set_option linter.unusedVariables false
set_option linter.unusedSimpArgs false
set_option maxRecDepth 20000
attribute [local irreducible] HL HC HQ HB Row Rows2 Blk Facts


theorem getD_set {α : Type} [Inhabited α] {l : List α} {i j : Nat} {a : α} (hi : i < l.length) : (l.set i a).getD j default = if j = i then a else l.getD j default := by
  rw [List.getD_eq_getElem?_getD, List.getElem?_set, List.getD_eq_getElem?_getD]
  by_cases e1 : i = j
  · subst e1; rw [if_pos rfl, if_pos rfl, if_pos hi]; rfl
  · rw [if_neg e1, if_neg (fun e2 => e1 e2.symm)]
section
variable {cs : List Cl} {hs hs' : List Hd} {i k : Nat}
theorem add_len (hA : AddOK hs i k hs') : hs'.length = hs.length := by
  have := congrArg List.length hA
  simpa using this
theorem add_at (hf : FreeP hs i k) (hA : AddOK hs i k hs') (j : Nat) : (trOf cs hs').hs.getD j default = if j = i then addP hs i k else (trOf cs hs).hs.getD j default := by
  show (hs'.map Hd.p).getD j default = if j = i then addP hs i k else (hs.map Hd.p).getD j default
  rw [show hs'.map Hd.p = _ from hA]
  exact getD_set (by rw [List.length_map]; exact hf.il)
theorem p_i (hf : FreeP hs i k) : (trOf cs hs).hs.getD i default = (hs.getD i default).p := hd_get hf.il
theorem add_same (hf : FreeP hs i k) (hA : AddOK hs i k hs') (j : Nat) : ((trOf cs hs').hs.getD j default).1 = ((trOf cs hs).hs.getD j default).1 ∧ ((trOf cs hs').hs.getD j default).2.1 = ((trOf cs hs).hs.getD j default).2.1 ∧ ((trOf cs hs').hs.getD j default).2.2.1 = ((trOf cs hs).hs.getD j default).2.2.1 := by
  rw [add_at (cs := cs) hf hA]
  by_cases e : j = i
  · subst e; rw [if_pos rfl, p_i hf]; exact ⟨rfl, rfl, rfl⟩
  · rw [if_neg e]; exact ⟨rfl, rfl, rfl⟩
theorem add_names (hf : FreeP hs i k) (hA : AddOK hs i k hs') (m : Nat) : ((trOf cs hs').hs.take m).map (·.1) = ((trOf cs hs).hs.take m).map (·.1) := by
  have h : (hs'.map Hd.p).map (·.1) = (hs.map Hd.p).map (·.1) := by
    rw [show hs'.map Hd.p = _ from hA, List.map_set]
    refine List.ext_getElem (by simp) fun j h1 h2 => ?_
    rw [List.getElem_set]
    split
    · rename_i e
      subst e
      rw [List.getElem_map, List.getElem_map]
      show (hs.getD i default).1 = (Hd.p (hs[i]'hf.il)).1
      rw [getD_at hf.il]
      rfl
    · rfl
  show ((hs'.map Hd.p).take m).map (·.1) = ((hs.map Hd.p).take m).map (·.1)
  rw [List.map_take, List.map_take, h]
theorem also_in (hok : TrOK (trOf cs hs)) (hi : i < hs.length) {x : Int} (hx : x ∈ (hs.getD i default).2.2.2.l) : 0 ≤ x ∧ x < (hs.length : Int) ∧ ¬ x = (i : Int) := by
  have hh := (hok.h i (by rw [hs_len]; exact hi)).a
  rw [show (trOf cs hs).hs.getD i default = (hs.getD i default).p from hd_get hi, hs_len] at hh
  obtain ⟨j, hj, rfl⟩ := List.getElem_of_mem hx
  have h1 := also_ok (hh j hj)
  rw [show (hs.getD i default).p.2.2.2.getD j default = (hs.getD i default).2.2.2.l[j] from getD_at hj] at h1
  exact ⟨h1.1, h1.2.1, h1.2.2.1⟩
theorem alsoK_mem {m : Nat} {x : Int} : x ∈ alsoK hs i k m ↔ ∃ j : Nat, j < m ∧ x = (j : Int) ∧ aB hs i k j = true := by
  unfold alsoK
  rw [List.mem_map]
  constructor
  · rintro ⟨j, hj, rfl⟩
    rw [List.mem_filter, List.mem_range] at hj
    exact ⟨j, hj.1, rfl, hj.2⟩
  · rintro ⟨j, hj, rfl, hb⟩
    exact ⟨j, List.mem_filter.2 ⟨List.mem_range.2 hj, hb⟩, rfl⟩
theorem alsoK_asc (m : Nat) : (alsoK hs i k m).Pairwise (· < ·) := by
  unfold alsoK
  refine List.pairwise_map.2 ((List.pairwise_lt_range.filter _).imp fun h => ?_)
  omega
/-- With one reference more the trades are valid still. -/
theorem add_ok (hok : TrOK (trOf cs hs)) (hf : FreeP hs i k) (hA : AddOK hs i k hs') : TrOK (trOf cs hs') := by
  have hln := hs_len cs hs
  have hln' : (trOf cs hs').hs.length = (trOf cs hs).hs.length := by rw [hs_len, hs_len, add_len hA]
  refine ⟨hok.c6, by rw [hln']; exact hok.h6, hok.c, fun j hj => ?_⟩
  rw [hln'] at hj
  have hj0 := hok.h j hj
  have hs1 := add_same (cs := cs) hf hA j
  have hs2 := add_same (cs := cs) hf hA (j - 1)
  refine ⟨by rw [hs1.1]; exact hj0.w, by rw [hs1.1, add_names hf hA]; exact hj0.n, by rw [hs1.1, hs2.1]; exact hj0.o, by rw [hs1.2.1]; exact hj0.c, by rw [hs1.2.2, hln']; exact hj0.s, ?_, ?_⟩
  · rw [add_at (cs := cs) hf hA, hln']
    by_cases e : j = i
    · subst e
      rw [if_pos rfl]
      intro q hq
      show alsoErr _ _ (alsoK hs j k hs.length) q = 0
      have hq' : q < (alsoK hs j k hs.length).length := hq
      have hin : ∀ x ∈ alsoK hs j k hs.length, 0 ≤ x ∧ x < (hs.length : Int) ∧ ¬ x = (j : Int) := fun x hx => by
        obtain ⟨r, hr, rfl, hb⟩ := alsoK_mem.1 hx
        unfold aB at hb
        rw [Bool.or_eq_true, decide_eq_true_eq, decide_eq_true_eq] at hb
        refine ⟨by omega, by omega, fun e1 => ?_⟩
        rcases hb with h1 | h1
        · have := hf.ne; omega
        · exact (also_in hok hf.il h1).2.2 e1
      have h1 := hin _ (getD_mem hq')
      unfold alsoErr
      rw [if_neg (by rw [hln]; omega), if_neg h1.2.2, if_neg]
      rintro ⟨h0, hle⟩
      have h2 := List.pairwise_iff_getElem.1 (alsoK_asc (hs := hs) (i := j) (k := k) hs.length) (q - 1) q (by omega) hq' (by omega)
      rw [← getD_at hq', ← getD_at (show q - 1 < (alsoK hs j k hs.length).length by omega)] at h2
      omega
    · rw [if_neg e]; exact hj0.a
  · rw [add_at (cs := cs) hf hA]
    by_cases e : j = i
    · subst e
      rw [if_pos rfl]
      have h1 := hj0.s
      rw [p_i hf] at h1
      have h3 : (hs.getD j default).2.2.1 = -1 := by
        have h4 := hf.s
        have h5 : -1 ≤ (hs.getD j default).2.2.1 := h1.1
        omega
      have h6 : 0 < (alsoK hs j k hs.length).length := List.length_pos_iff.2 (List.ne_nil_of_mem (alsoK_mem.2 ⟨k, hf.kl, rfl, by unfold aB; rw [decide_eq_true rfl, Bool.true_or]⟩))
      unfold kindBad
      show ((decide (¬ (hs.getD j default).2.2.1 = -1) && _) || (decide ((hs.getD j default).2.2.1 = -1) && (decide ((hs.getD j default).2.1 = -1) && decide ((alsoK hs j k hs.length).length = 0)))) = false
      rw [h3, decide_eq_false (show ¬ (alsoK hs j k hs.length).length = 0 by omega), Bool.and_false, Bool.and_false, Bool.or_false]
      rfl
    · rw [if_neg e]; exact hj0.k
theorem add_is (hf : FreeP hs i k) (hA : AddOK hs i k hs') (j : Int) : isTrB (trOf cs hs') j = isTrB (trOf cs hs) j := by
  unfold isTrB
  have h := add_same (cs := cs) hf hA j.toNat
  rw [h.2.1, h.2.2]
end
theorem add_ha {hs hs' : List Hd} {i k : Nat} (h6h : hs.length ≤ 6) (ha : ∀ h ∈ hs, h.2.2.2.l.length ≤ 1000000) (hA : AddOK hs i k hs') : ∀ h ∈ hs', h.2.2.2.l.length ≤ 1000000 := by
  intro h hh
  have h1 : h.p ∈ hs'.map Hd.p := List.mem_map.2 ⟨h, hh, rfl⟩
  rw [show hs'.map Hd.p = _ from hA] at h1
  rcases List.mem_or_eq_of_mem_set h1 with h2 | h2
  · obtain ⟨q, hq, e⟩ := List.mem_map.1 h2
    have h3 := ha q hq
    rw [show h.2.2.2.l = q.2.2.2.l from (congrArg (fun z : PH => z.2.2.2) e).symm]
    exact h3
  · rw [show h.2.2.2.l = alsoK hs i k hs.length from congrArg (fun z : PH => z.2.2.2) h2]
    have := alsoK_len hs i k hs.length
    omega


theorem reach_eq {n : Nat} {e e' : Edges} {h : Nat} (he : ∀ x y, x < n → y < n → e x y = e' x y) : ∀ (s i : Nat), i < n → reachB n e h s i = true → reachB n e' h s i = true
  | 0, i, _, hr => hr
  | s + 1, i, hi, hr => by
    rcases reach_succ.1 hr with h1 | ⟨k, h1, h2, h3⟩
    · exact reach_succ.2 (.inl (reach_eq he s i hi h1))
    · exact reach_succ.2 (.inr ⟨k, h1, reach_eq he s k h1 h2, by rw [← he k i h1 hi]; exact h3⟩)
/-- The headings hs with the references of b added. -/
structure Adds (cs : List Cl) (hs : List Hd) (b : List Rf) (hs' : List Hd) : Prop where
  ok : TrOK (trOf cs hs')
  len : hs'.length = hs.length
  see : ∀ j, j < hs.length → (hs'.getD j default).2.2.1 = (hs.getD j default).2.2.1
  tr : ∀ j : Int, isTrB (trOf cs hs') j = isTrB (trOf cs hs) j
  al : ∀ x y : Nat, x < hs.length → y < hs.length → ((y : Int) ∈ (hs'.getD x default).2.2.2.l ↔ ((y : Int) ∈ (hs.getD x default).2.2.2.l ∨ ((x : Int), (y : Int)) ∈ b))
  ha : ∀ h ∈ hs', h.2.2.2.l.length ≤ 1000000
theorem adds_free {cs : List Cl} {hs hs' : List Hd} {b : List Rf} (H : Adds cs hs b hs') {i k : Nat} (hf : FreeP hs i k) (hb : ((i : Int), (k : Int)) ∉ b) : FreeP hs' i k :=
  ⟨by rw [H.len]; exact hf.il, by rw [H.len]; exact hf.kl, hf.ne, by rw [H.see i hf.il]; exact hf.s, fun h => ((H.al i k hf.il hf.kl).1 h).elim hf.a hb⟩
theorem adds_one {cs : List Cl} {hs hs' hs2 : List Hd} {b : List Rf} (H : Adds cs hs b hs') {i k : Nat} (hf : FreeP hs i k) (hb : ((i : Int), (k : Int)) ∉ b) (hA : AddOK hs' i k hs2) : Adds cs hs (b ++ [((i : Int), (k : Int))]) hs2 := by
  have hf' := adds_free H hf hb
  have hl : hs2.length = hs'.length := add_len hA
  have hat : ∀ j, j < hs.length → (hs2.getD j default).p = if j = i then addP hs' i k else (hs'.getD j default).p := fun j hj => by
    have h1 := add_at (cs := cs) hf' hA j
    rw [show (trOf cs hs2).hs.getD j default = (hs2.getD j default).p from hd_get (by rw [hl, H.len]; exact hj), show (trOf cs hs').hs.getD j default = (hs'.getD j default).p from hd_get (by rw [H.len]; exact hj)] at h1
    exact h1
  refine ⟨add_ok H.ok hf' hA, by rw [hl, H.len], fun j hj => ?_, fun j => by rw [add_is hf' hA, H.tr], fun x y hx hy => ?_, add_ha (by have := H.ok.h6; rw [hs_len] at this; exact this) H.ha hA⟩
  · have h1 := hat j hj
    rw [← H.see j hj]
    by_cases e : j = i
    · subst e; rw [if_pos rfl] at h1; exact congrArg (fun q : PH => q.2.2.1) h1
    · rw [if_neg e] at h1; exact congrArg (fun q : PH => q.2.2.1) h1
  · have h1 := hat x hx
    have h2 := H.al x y hx hy
    rw [List.mem_append, List.mem_singleton]
    by_cases e : x = i
    · subst e
      rw [if_pos rfl] at h1
      rw [show (hs2.getD x default).2.2.2.l = alsoK hs' x k hs'.length from congrArg (fun q : PH => q.2.2.2) h1, alsoK_mem]
      constructor
      · rintro ⟨r, hr, e, hab⟩
        obtain rfl : r = y := by omega
        unfold aB at hab
        rw [Bool.or_eq_true, decide_eq_true_eq, decide_eq_true_eq] at hab
        rcases hab with h3 | h3
        · exact .inr (.inr (by rw [h3]))
        · exact (h2.1 h3).elim .inl (fun h4 => .inr (.inl h4))
      · intro h3
        refine ⟨y, by rw [H.len]; exact hy, rfl, ?_⟩
        unfold aB
        rw [Bool.or_eq_true, decide_eq_true_eq, decide_eq_true_eq]
        rcases h3 with h3 | h3 | h3
        · exact .inr (h2.2 (.inl h3))
        · exact .inr (h2.2 (.inr h3))
        · exact .inl (congrArg Prod.snd h3)
    · rw [if_neg e] at h1
      rw [show (hs2.getD x default).2.2.2.l = (hs'.getD x default).2.2.2.l from congrArg (fun q : PH => q.2.2.2) h1, h2]
      constructor
      · exact fun h3 => h3.elim .inl (fun h4 => .inr (.inl h4))
      · rintro (h3 | h3 | h3)
        · exact .inl h3
        · exact .inr h3
        · have h4 : (x : Int) = (i : Int) := congrArg Prod.fst h3
          omega
theorem adds_next {cs : List Cl} {hs hs' : List Hd} {b : List Rf} (H : Adds cs hs b hs') {x y : Nat} (hx : x < hs.length) (hy : y < hs.length) : nextB (trOf cs hs') x y = withE (trOf cs hs) b x y := by
  unfold withE nextB
  rw [show (trOf cs hs').hs.getD x default = (hs'.getD x default).p from hd_get (by rw [H.len]; exact hx), show (trOf cs hs).hs.getD x default = (hs.getD x default).p from hd_get hx]
  show (decide ((hs'.getD x default).2.2.1 = (y : Int)) || decide ((y : Int) ∈ (hs'.getD x default).2.2.2.l)) = ((decide ((hs.getD x default).2.2.1 = (y : Int)) || decide ((y : Int) ∈ (hs.getD x default).2.2.2.l)) || _)
  rw [H.see x hx, Bool.or_assoc]
  congr 1
  rw [Bool.eq_iff_iff, Bool.or_eq_true, decide_eq_true_eq, decide_eq_true_eq, decide_eq_true_eq]
  exact H.al x y hx hy
theorem hid_fine {cs : List Cl} {hs hs' : List Hd} {b : List Rf} (H : Adds cs hs b hs') {h s : Nat} (hh : h < hs.length) : (hiddenT (trOf cs hs') (h : Int) (s : Int)).length = 0 ↔ fineB (trOf cs hs) (h : Int) (s : Int) b = true := by
  have hl' : (trOf cs hs').hs.length = hs.length := by rw [hs_len, H.len]
  have key : ∀ j, j < hs.length → (hiB (trOf cs hs') (h : Int) (s : Int) j = false ↔ (!isTrB (trOf cs hs) (j : Int) || reachB hs.length (withE (trOf cs hs) b) h s j) = true) := fun j hj => by
    unfold hiB
    rw [H.tr, steps_at (by rw [hl']; exact hj), hl']
    have h1 := dist_le (e := nextB (trOf cs hs')) hh hj s
    have h2 : reachB hs.length (nextB (trOf cs hs')) h s j = reachB hs.length (withE (trOf cs hs) b) h s j := by
      rw [Bool.eq_iff_iff]
      exact ⟨reach_eq (fun x y hx hy => adds_next H hx hy) s j hj, reach_eq (fun x y hx hy => (adds_next H hx hy).symm) s j hj⟩
    rw [h2] at h1
    cases isTrB (trOf cs hs) (j : Int)
    · simp
    · rw [Bool.true_and, Bool.not_true, Bool.false_or, ← h1]
      simp
  unfold hiddenT hiK fineB
  rw [List.length_map, List.length_eq_zero_iff, List.filter_eq_nil_iff, List.all_eq_true, hl', hs_len]
  constructor
  · intro h1 j hj
    have hj2 := List.mem_range.1 hj
    have h3 := h1 j hj
    rw [Bool.not_eq_true] at h3
    rw [Int.toNat_natCast, Int.toNat_natCast]
    exact (key j hj2).1 h3
  · intro h1 j hj
    have hj2 := List.mem_range.1 hj
    have h3 := h1 j hj
    rw [Int.toNat_natCast, Int.toNat_natCast] at h3
    rw [Bool.not_eq_true]
    exact (key j hj2).2 h3
/-- The first of m references out of r, with those of b. -/
def fstQ (p : List Rf → Bool) (m : Nat) (b r : List Rf) : Option (List Rf) := (combos m r).find? fun c => p (b ++ c)
theorem free_nodup (t : Tr) : (freeT t).Nodup := by
  unfold freeT
  rw [List.Nodup, List.pairwise_flatMap]
  refine ⟨fun i hi => ?_, ?_⟩
  · split
    · rw [List.pairwise_map]
      exact (List.pairwise_lt_range.filter _).imp fun {a b} h e => by have := congrArg Prod.snd e; simp at this; omega
    · exact List.Pairwise.nil
  · refine List.pairwise_lt_range.imp fun {a b} hab x hx y hy e => ?_
    subst e
    split at hx
    · split at hy
      · obtain ⟨k1, _, e1⟩ := List.mem_map.1 hx
        obtain ⟨k2, _, e2⟩ := List.mem_map.1 hy
        have := congrArg Prod.fst (e1.trans e2.symm)
        simp at this
        omega
      · cases hy
    · cases hx
theorem free_is {cs : List Cl} {hs : List Hd} {r : Rf} (h : r ∈ freeT (trOf cs hs)) : ∃ i k : Nat, r = ((i : Int), (k : Int)) ∧ FreeP hs i k := by
  unfold freeT at h
  obtain ⟨i, hi, hm⟩ := List.mem_flatMap.1 h
  rw [List.mem_range, hs_len] at hi
  rw [show (trOf cs hs).hs.getD i default = (hs.getD i default).p from hd_get hi] at hm
  split at hm
  · rename_i hse
    obtain ⟨k, hk, rfl⟩ := List.mem_map.1 hm
    rw [List.mem_filter, List.mem_range, hs_len, Bool.and_eq_true, decide_eq_true_eq] at hk
    have h2 := hk.2.2
    unfold nextB at h2
    rw [show (trOf cs hs).hs.getD i default = (hs.getD i default).p from hd_get hi] at h2
    have hse2 : (hs.getD i default).2.2.1 = -1 := hse
    refine ⟨i, k, rfl, hi, hk.1, fun e => hk.2.1 e.symm, by omega, fun hm2 => ?_⟩
    rw [decide_eq_true (show (k : Int) ∈ (hs.getD i default).p.2.2.2 from hm2), Bool.or_true] at h2
    cases h2
  · cases hm

end Go.Proofs.YtlpgheniajdkfaaGreat
