/- Texts. -/

import Derived.Test.YtdgmfagfpbdbhaaGreatDoorAAs
import Derived.Test.YtdgmfagfpbdbhaaGreatDoorAAl
set_option linter.unusedVariables false
set_option linter.unusedSimpArgs false
section
namespace Go.Proofs.YtdgmfagfpbdbhaaGreatDoor
open Go Go.W Tryz T F
set_option maxRecDepth 20000
attribute [local irreducible] HL HC HQ HB Row Rows2 Blk Facts
def clR (l : List Rl) (n : Nat) : List PL := (l.take n).map (Rl.pl true)
def hdR (l : List Rl) (n : Nat) : List PL := (l.drop n).map (Rl.pl false)
structure LnR (l : List Rl) (n : Nat) : Prop where
  nl : n ≤ l.length
  ct : ∀ x ∈ l.take n, x.1 = true
  hf : ∀ x ∈ l.drop n, x.1 = false
  ok : ∀ x ∈ l, x.ok
  la : ∀ x ∈ l, x.2.2.2.2.2.l.length ≤ 1000
theorem xV {α : Type} {p : α → Bool} : ∀ {l : List α}, (∀ x ∈ l, p x = true) → l.filter p = l
  | [], _ => rfl
  | x :: r, h => by rw [List.filter_cons, if_pos (h x List.mem_cons_self), xV fun y hy => h y (List.mem_cons_of_mem _ hy)]
theorem bq9 {α : Type} {p : α → Bool} : ∀ {l : List α}, (∀ x ∈ l, p x = false) → l.filter p = []
  | [], _ => rfl
  | x :: r, h => by rw [List.filter_cons, if_neg (by rw [h x List.mem_cons_self]; decide), bq9 fun y hy => h y (List.mem_cons_of_mem _ hy)]
theorem LnR.selC {l : List Rl} {n : Nat} (h : LnR l n) : selR true l = clR l n := by
  conv => lhs; rw [← List.take_append_drop n l, cx3]
  unfold selR clR; rw [xV fun x hx => by rw [h.ct x hx]; rfl, bq9 fun x hx => by rw [h.hf x hx]; rfl, List.map_nil, List.append_nil]
theorem LnR.selH {l : List Rl} {n : Nat} (h : LnR l n) : selR false l = hdR l n := by
  conv => lhs; rw [← List.take_append_drop n l, cx3]
  unfold selR hdR; rw [bq9 fun x hx => by rw [h.ct x hx]; rfl, xV fun x hx => by rw [h.hf x hx]; rfl, List.map_nil, List.nil_append]
theorem dz5 {α : Type} [Inhabited α] {l : List α} {j n : Nat} (h1 : j < n) (h2 : j < l.length) : l.getD j default ∈ l.take n := by
  rw [List.mem_take_iff_getElem]; exact ⟨j, by omega, by rw [B8 h2]⟩
theorem dz6 {α : Type} [Inhabited α] {l : List α} {j n : Nat} (h1 : n ≤ j) (h2 : j < l.length) : l.getD j default ∈ l.drop n := by
  rw [List.mem_drop_iff_getElem]; exact ⟨j - n, by omega, by rw [B8 h2]; congr 1; omega⟩
theorem LnR.cls {l : List Rl} {n j : Nat} (h : LnR l n) (hj : j < l.length) : (l.getD j default).1 = true ↔ j < n := by
  constructor
  · intro e
    apply Classical.byContradiction
    intro hn; have := h.hf _ (dz6 (by omega) hj); rw [e] at this
    cases this
  intro e; exact h.ct _ (dz5 e hj)
theorem LnR.hd_nil {l : List Rl} {n : Nat} (h : LnR l n) : hdR l n = [] ↔ n = l.length := by
  unfold hdR; rw [List.map_eq_nil_iff, List.drop_eq_nil_iff]; have := h.nl
  omega
theorem LnR.snocC {l : List Rl} {n : Nat} {x : Rl} (h : LnR l n) (hn : n = l.length) (hx : x.1 = true) (ho : x.ok) (ha : x.2.2.2.2.2.l.length ≤ 1000) : LnR (l ++ [x]) (n + 1) ∧ clR (l ++ [x]) (n + 1) = clR l n ++ [x.pl true] ∧ hdR (l ++ [x]) (n + 1) = hdR l n := by
  subst hn; have e1 : (l ++ [x]).take (l.length + 1) = l ++ [x] := List.take_of_length_le (by simp); have e2 : (l ++ [x]).drop (l.length + 1) = [] := List.drop_eq_nil_of_le (by simp); refine ⟨⟨by simp, ?_, ?_, O7 h.ok ho, O7 h.la ha⟩, ?_, ?_⟩
  · rw [e1]; exact O7 (fun y hy => h.ct y (by rw [List.take_length]; exact hy)) hx
  · rw [e2]; intro y hy; cases hy
  · unfold clR; rw [e1, List.map_append, List.take_length]; rfl
  unfold hdR; rw [e2, List.drop_length]
theorem LnR.snocH {l : List Rl} {n : Nat} {x : Rl} (h : LnR l n) (hx : x.1 = false) (ho : x.ok) (ha : x.2.2.2.2.2.l.length ≤ 1000) : LnR (l ++ [x]) n ∧ clR (l ++ [x]) n = clR l n ∧ hdR (l ++ [x]) n = hdR l n ++ [x.pl false] := by
  have e1 : (l ++ [x]).take n = l.take n := List.take_append_of_le_length h.nl; have e2 : (l ++ [x]).drop n = l.drop n ++ [x] := List.drop_append_of_le_length h.nl; refine ⟨⟨by have := h.nl; simp; omega, by rw [e1]; exact h.ct, by rw [e2]; exact O7 h.hf hx, O7 h.ok ho, O7 h.la ha⟩, ?_, ?_⟩
  · unfold clR; rw [e1]
  unfold hdR; rw [e2, List.map_append]; rfl
structure LsR (L : List Str) (R : RdR) (i : Nat) (l : List Rl) (n : Nat) (e : Bool) : Prop where
  ln : LnR l n
  il : i + 1 ≤ L.length
  li : l.length ≤ i
  op : e = false → rdF i (L.drop i) (clR l n) (hdR l n) = R
  en : e = true → R = if i + 1 = L.length ∧ L.getD i default = [] then (some (clR l n, hdR l n), 0) else (none, i + 1)
section
variable {L : List Str} {R : RdR} {i n : Nat} {l : List Rl} {e : Bool}
theorem nz7 (hL : 1 ≤ L.length) (h : rdF 0 L [] [] = R) : LsR L R 0 [] 0 false := ⟨⟨Nat.le_refl _, fun x h => (by cases h), fun x h => (by cases h), fun x h => (by cases h), fun x h => by cases h⟩, hL, Nat.le_refl _, fun _ => h, fun h => by cases h⟩
theorem ls_on (h : LsR L R i l n true) (hi : i + 1 < L.length) : R = (none, i + 1) := by
  rw [h.en rfl, if_neg fun q => by omega]
theorem ls_fin (h : LsR L R i l n false) (hi : i + 1 < L.length) (hs : L.getD i default = wFinis) : LsR L R (i + 1) l n true := by
  refine ⟨h.ln, hi, Nat.le_succ_of_le h.li, fun e => (by cases e), fun _ => ?_⟩; have he := h.op rfl
  by_cases hl : i + 1 + 1 = L.length ∧ L.getD (i + 1) default = []
  · rw [if_pos hl]; exact kz0 he hl.1 hs hl.2
  rw [if_neg hl]; exact hj9 he hi hs hl
theorem ls_bad (h : LsR L R i l n false) (hi : i + 1 < L.length) (hs : ¬ L.getD i default = wFinis) (hp : parseT (splitB 32 (L.getD i default)) = none) : R = (none, i + 1) := nq1 (h.op rfl) hi hs hp
theorem ls_late {y : PL} (h : LsR L R i l n false) (hi : i + 1 < L.length) (hs : ¬ L.getD i default = wFinis) (hp : parseT (splitB 32 (L.getD i default)) = some (false, y)) (hl : 0 < l.length) (hx : ¬ (l.getD (l.length - 1) default).1 = true) : R = (none, i + 1) :=
  kx9 (h.op rfl) hi hs hp (by rw [h.ln.hd_nil]; intro q; exact hx ((h.ln.cls (by omega)).2 (by omega)))
theorem ls_cls {x : Rl} (h : LsR L R i l n false) (hi : i + 1 < L.length) (hs : ¬ L.getD i default = wFinis) (hp : parseT (splitB 32 (L.getD i default)) = some (!x.1, x.pl x.1)) (ho : x.ok) (ha : x.2.2.2.2.2.l.length ≤ 1000) (hx : x.1 = true) (hl : 0 < l.length → (l.getD (l.length - 1) default).1 = true) : LsR L R (i + 1) (l ++ [x]) (n + 1) false := by
  have hn : n = l.length := by
    have := h.ln.nl
    by_cases h0 : 0 < l.length
    · have := (h.ln.cls (j := l.length - 1) (by omega)).1 (hl h0); omega
    omega
  obtain ⟨a, b, c⟩ := h.ln.snocC hn hx ho ha; refine ⟨a, hi, by have := h.li; rw [List.length_append]; simp; omega, fun _ => ?_, fun e => by cases e⟩; rw [hx] at hp; rw [b, c]; exact nq0 (h.op rfl) hi hs hp (h.ln.hd_nil.2 hn)
theorem ls_hea {x : Rl} (h : LsR L R i l n false) (hi : i + 1 < L.length) (hs : ¬ L.getD i default = wFinis) (hp : parseT (splitB 32 (L.getD i default)) = some (!x.1, x.pl x.1)) (ho : x.ok) (ha : x.2.2.2.2.2.l.length ≤ 1000) (hx : x.1 = false) : LsR L R (i + 1) (l ++ [x]) n false := by
  obtain ⟨a, b, c⟩ := h.ln.snocH hx ho ha; refine ⟨a, hi, by have := h.li; rw [List.length_append]; simp; omega, fun _ => ?_, fun e => by cases e⟩; rw [hx] at hp; rw [b, c]; exact nj8 (h.op rfl) hi hs hp
theorem ls_open (h : LsR L R i l n false) (hi : i + 1 = L.length) : R = (none, L.length) := nj9 (h.op rfl) hi
theorem nz6 (h : LsR L R i l n true) (hi : i + 1 = L.length) : R = if L.getD i default = [] then (some (clR l n, hdR l n), 0) else (none, L.length) := by
  rw [h.en rfl]
  by_cases h2 : L.getD i default = []
  · rw [if_pos ⟨hi, h2⟩, if_pos h2]
  rw [if_neg (fun q => h2 q.2), if_neg h2, hi]
end
def BadR (l : List Rl) (x : Rl) : Prop := ¬ ((0 ≤ findP (selR true l) x.2.2.1 ∨ x.2.2.1 = []) ∧ (0 ≤ findP (selR true l) x.2.2.2.1 ∨ x.2.2.2.1 = []) ∧ (0 ≤ findP (selR false l) x.2.2.2.2.1 ∨ x.2.2.2.2.1 = []))
structure BkI (l : List Rl) (n k : Nat) (cs : List Cl) (hs : List PH) : Prop where
  ln : LnR l n
  kl : k ≤ l.length
  lo : k ≤ n → trbC (clR l n) ((clR l n).drop k) k cs = trbC (clR l n) (clR l n) 0 [] ∧ hs = []
  hi : n ≤ k → trbC (clR l n) (clR l n) 0 [] = (some cs, 0) ∧ trbH (clR l n) (hdR l n) ((hdR l n).drop (k - n)) (k - n) hs = trbH (clR l n) (hdR l n) (hdR l n) 0 []
  lc : cs.length ≤ k
  lh : hs.length ≤ k
section
variable {l : List Rl} {n k : Nat} {cs : List Cl} {hs : List PH}
theorem LnR.clen (h : LnR l n) : (clR l n).length = n := by unfold clR; rw [List.length_map, List.length_take]; have := h.nl; omega
theorem LnR.hlen (h : LnR l n) : (hdR l n).length = l.length - n := by unfold hdR; rw [List.length_map, List.length_drop]
theorem LnR.cget (h : LnR l n) {k : Nat} (hk : k < n) : (clR l n).getD k default = (l.getD k default).pl true := by
  have hn := h.nl; rw [B8 (by rw [h.clen]; exact hk), B8 (show k < l.length by omega)]
  simp [clR]
theorem LnR.hget (h : LnR l n) {k : Nat} (hk : n ≤ k) (hl : k < l.length) : (hdR l n).getD (k - n) default = (l.getD k default).pl false := by
  rw [B8 (by rw [h.hlen]; omega), B8 hl]; simp only [hdR, List.getElem_map, List.getElem_drop]
  congr 2
  omega
theorem px8 (h : LnR l n) : BkI l n 0 [] [] :=
  ⟨h, Nat.zero_le _, fun _ => ⟨by rw [List.drop_zero], rfl⟩, fun hn => by
    have e : clR l n = [] := List.eq_nil_of_length_eq_zero (by rw [h.clen]; omega); rw [e]
    exact ⟨rfl, by rw [Nat.zero_sub, List.drop_zero]⟩, Nat.le_refl _, Nat.le_refl _⟩
theorem kx0 (h : BkI l n k cs hs) (hk : k < l.length) (hb : BadR l (l.getD k default)) : trbT (clR l n) (hdR l n) = (none, k + 1) := by
  have hx := h.ln.ok _ (w8 hk); unfold BadR at hb; rw [h.ln.selC, h.ln.selH] at hb
  by_cases hc : k < n
  · have hcl := (h.ln.cls hk).2 hc
    obtain ⟨h1, h2, h3⟩ := hx.1 hcl; have hlo := (h.lo (by omega)).1
    have hB : ¬ ((clR l n).getD k default).2.1 = [] ∧ findP (clR l n) ((clR l n).getD k default).2.1 < 0 := by
      rw [h.ln.cget hc]; show ¬ (l.getD k default).2.2.1 = [] ∧ findP (clR l n) (l.getD k default).2.2.1 < 0
      constructor
      · intro q; exact hb ⟨.inr q, .inr h1, .inr h2⟩
      apply Classical.byContradiction; intro q; exact hb ⟨.inl (by omega), .inr h1, .inr h2⟩
    have hR := pz2 hlo (by rw [h.ln.clen]; exact hc) hB; unfold trbT; rw [hR]
  have hcl : (l.getD k default).1 = false := by
    cases q : (l.getD k default).1 with
    | false => rfl
    | true => exact absurd ((h.ln.cls hk).1 q) hc
  have h1 := hx.2 hcl; obtain ⟨hi1, hi2⟩ := h.hi (by omega)
  have hB : HBad (clR l n) (hdR l n) ((hdR l n).getD (k - n) default) := by
    rw [h.ln.hget (by omega) hk]; show (¬ (l.getD k default).2.2.2.1 = [] ∧ findP (clR l n) (l.getD k default).2.2.2.1 < 0) ∨ (¬ (l.getD k default).2.2.2.2.1 = [] ∧ findP (hdR l n) (l.getD k default).2.2.2.2.1 < 0)
    apply Classical.byContradiction
    intro q; refine hb ⟨.inr h1, ?_, ?_⟩
    · apply Classical.byContradiction
      intro q2; exact q (.inl ⟨fun e => q2 (.inr e), by apply Classical.byContradiction; intro q3; exact q2 (.inl (by omega))⟩)
    apply Classical.byContradiction
    intro q2; exact q (.inr ⟨fun e => q2 (.inr e), by apply Classical.byContradiction; intro q3; exact q2 (.inl (by omega))⟩)
  have hR := ij6 hi2 (by rw [h.ln.hlen]; omega) hB; unfold trbT; rw [hi1]
  simp only
  rw [hR, h.ln.clen, show n + (k - n) + 1 = k + 1 by omega]
theorem pq7 (h : LnR l n) {x : Rl} (hb : ¬ BadR l x) : ¬ HBad (clR l n) (hdR l n) (x.pl false) := by
  have hb' := Classical.not_not.1 hb; rw [h.selC, h.selH] at hb'; obtain ⟨_, h2, h3⟩ := hb'; rintro (⟨q1, q2⟩ | ⟨q1, q2⟩)
  · have q1' : ¬ x.2.2.2.1 = [] := q1
    have q2' : findP (clR l n) x.2.2.2.1 < 0 := q2
    rcases h2 with h2 | h2
    · omega
    exact q1' h2
  have q1' : ¬ x.2.2.2.2.1 = [] := q1; have q2' : findP (hdR l n) x.2.2.2.2.1 < 0 := q2
  rcases h3 with h3 | h3
  · omega
  exact q1' h3
theorem px9 (h : BkI l n k cs hs) (hk : k < l.length) (hb : ¬ BadR l (l.getD k default)) (ha : aloE (selR false l) (l.getD k default).2.2.2.2.2.l [] = none) : trbT (clR l n) (hdR l n) = (none, k + 1) := by
  have hx := h.ln.ok _ (w8 hk)
  have hc : ¬ k < n := fun hc => by
    obtain ⟨_, _, h3⟩ := hx.1 ((h.ln.cls hk).2 hc); rw [h3] at ha
    cases ha
  obtain ⟨hi1, hi2⟩ := h.hi (by omega); have hR := pz1 hi2 (by rw [h.ln.hlen]; omega) (by rw [h.ln.hget (by omega) hk]; exact pq7 h.ln hb) (by rw [h.ln.hget (by omega) hk, ← h.ln.selH]; exact ha); unfold trbT; rw [hi1]
  simp only
  rw [hR, h.ln.clen, show n + (k - n) + 1 = k + 1 by omega]
theorem bk_cls (h : BkI l n k cs hs) (hk : k < l.length) (hb : ¬ BadR l (l.getD k default)) (hc : (l.getD k default).1 = true) : BkI l n (k + 1) (cs ++ [((l.getD k default).2.1, findP (selR true l) (l.getD k default).2.2.1)]) hs := by
  have hkn := (h.ln.cls hk).1 hc; have hb' := (Classical.not_not.1 hb).1; obtain ⟨h1, h2⟩ := h.lo (by omega)
  have hok := bc_ok h1 (by rw [h.ln.clen]; exact hkn) (by
    rw [h.ln.cget hkn]; rintro ⟨q1, q2⟩; have q1' : ¬ (l.getD k default).2.2.1 = [] := q1; have q2' : findP (clR l n) (l.getD k default).2.2.1 < 0 := q2; rw [← h.ln.selC] at q2'
    rcases hb' with hb' | hb'
    · omega
    exact q1' hb')
  rw [h.ln.cget hkn] at hok
  have hok' : trbC (clR l n) ((clR l n).drop (k + 1)) (k + 1) (cs ++ [((l.getD k default).2.1, findP (selR true l) (l.getD k default).2.2.1)]) = trbC (clR l n) (clR l n) 0 [] := by
    rw [h.ln.selC]; exact hok
  refine ⟨h.ln, hk, fun _ => ⟨hok', h2⟩, fun hn => ?_, by have := h.lc; rw [List.length_append]; simp; omega, by have := h.lh; omega⟩; have hkn2 : k + 1 = n := by omega
  rw [List.drop_eq_nil_of_le (by rw [h.ln.clen]; omega), trbC] at hok'; refine ⟨hok'.symm, ?_⟩; rw [h2, hkn2, Nat.sub_self, List.drop_zero]
theorem bk_hea {al : List Int} (h : BkI l n k cs hs) (hk : k < l.length) (hb : ¬ BadR l (l.getD k default)) (hc : (l.getD k default).1 = false) (ha : aloE (selR false l) (l.getD k default).2.2.2.2.2.l [] = some al) : BkI l n (k + 1) cs (hs ++ [((l.getD k default).2.1, findP (selR true l) (l.getD k default).2.2.2.1, findP (selR false l) (l.getD k default).2.2.2.2.1, al)]) := by
  have hkn : ¬ k < n := fun q => by have := (h.ln.cls hk).2 q; rw [hc] at this; cases this
  obtain ⟨h1, h2⟩ := h.hi (by omega); have hok := bh_ok h2 (by rw [h.ln.hlen]; omega) (by rw [h.ln.hget (by omega) hk]; exact pq7 h.ln hb) (by rw [h.ln.hget (by omega) hk, ← h.ln.selH]; exact ha); rw [h.ln.hget (by omega) hk] at hok; refine ⟨h.ln, hk, fun q => by omega, fun _ => ⟨h1, ?_⟩, by have := h.lc; omega, by have := h.lh; rw [List.length_append]; simp; omega⟩; rw [h.ln.selC, h.ln.selH, show k + 1 - n = k - n + 1 by omega]; exact hok
theorem bk_end (h : BkI l n l.length cs hs) : trbT (clR l n) (hdR l n) = (some (cs, hs), 0) := by
  obtain ⟨h1, h2⟩ := h.hi h.ln.nl; rw [List.drop_eq_nil_of_le (by rw [h.ln.hlen]; omega), trbH] at h2; unfold trbT; rw [h1]
  simp only
  rw [← h2]
end
theorem rt_long {x : Str} (h : 900 < x.length) : readT x = (([], []), 0, 10) := by rw [readT, if_pos h]
theorem cz5 {x : Str} {L : List Str} {p : Nat} (h : ¬ 900 < x.length) (hL : splitB 10 x = L) (hR : rdF 0 L [] [] = (none, p)) : readT x = (([], []), p, 2) := by rw [readT, if_neg h, hL, hR]
theorem ix1 {x : Str} {L : List Str} {c h : List PL} {q p : Nat} (hx : ¬ 900 < x.length) (hL : splitB 10 x = L) (hR : rdF 0 L [] [] = (some (c, h), q)) (ht : trbT c h = (none, p)) : readT x = (([], []), p, 3) := by
  rw [readT, if_neg hx, hL, hR]
  simp only
  rw [ht]
theorem rt_chk {x : Str} {L : List Str} {c h : List PL} {q r : Nat} {cs : List Cl} {hs : List PH} (hx : ¬ 900 < x.length) (hL : splitB 10 x = L) (hR : rdF 0 L [] [] = (some (c, h), q)) (ht : trbT c h = (some (cs, hs), r)) : readT x = if checkT ⟨cs, hs⟩ = 0 then ((cs, hs), 0, 0) else (([], []), 0, checkT ⟨cs, hs⟩) := by
  rw [readT, if_neg hx, hL, hR]
  simp only
  rw [ht]
theorem at_le {w : List Str} (h : ∀ x ∈ w, x.length ≤ 1000) (k : Nat) : (at_ w k).length ≤ 1000 := by
  unfold at_
  by_cases hk : k < w.length
  · exact h _ (w8 hk)
  rw [List.getD_eq_getElem?_getD, List.getElem?_eq_none (by omega)]; exact Nat.zero_le _
theorem hx3 {w : List Str} {b : Bool} {y : PL} (h : ∀ x ∈ w, x.length ≤ 1000) (hp : parseT w = some (b, y)) : y.1.length ≤ 1000 := by
  unfold parseT at hp
  repeat' (split at hp)
  all_goals (cases hp)
  all_goals exact at_le h _
theorem bad_a {l : List Rl} {x : Rl} (h : ¬ (0 ≤ findP (selR true l) x.2.2.1 ∨ x.2.2.1 = [])) : BadR l x := fun q => h q.1
theorem bad_b {l : List Rl} {x : Rl} (h : ¬ (0 ≤ findP (selR true l) x.2.2.2.1 ∨ x.2.2.2.1 = [])) : BadR l x := fun q => h q.2.1
theorem bad_c {l : List Rl} {x : Rl} (h : ¬ (0 ≤ findP (selR false l) x.2.2.2.2.1 ∨ x.2.2.2.2.1 = [])) : BadR l x := fun q => h q.2.2
theorem not_bad {l : List Rl} {x : Rl} (h1 : 0 ≤ findP (selR true l) x.2.2.1 ∨ x.2.2.1 = []) (h2 : 0 ≤ findP (selR true l) x.2.2.2.1 ∨ x.2.2.2.1 = []) (h3 : 0 ≤ findP (selR false l) x.2.2.2.2.1 ∨ x.2.2.2.2.1 = []) : ¬ BadR l x := fun q => q ⟨h1, h2, h3⟩
theorem nb_f {p : Prop} [Decidable p] (h : (!decide p) = false) : p := by
  by_cases q : p
  · exact q
  rw [decide_eq_false q] at h; cases h
theorem nb_t {p : Prop} [Decidable p] (h : (!decide p) = true) : ¬ p := by
  intro q; rw [decide_eq_true q] at h; cases h
theorem nb_g {p : Prop} [Decidable p] (h : ((!decide p) == false) = false) : ¬ p := by
  intro q; rw [decide_eq_true q] at h; cases h
theorem sel_len (b : Bool) (l : List Rl) : (selR b l).length ≤ l.length := by
  unfold selR; rw [List.length_map]; exact List.length_filter_le _ _
theorem lq0 (b : Bool) (l : List Rl) (n : Str) : -1 ≤ findP (selR b l) n ∧ findP (selR b l) n ≤ (l.length : Int) := by
  have h1 := uN (selR b l) n; have h2 := sel_len b l
  omega
set_option maxHeartbeats 4000000 in
theorem ax2 (x : Str) : Meets prog pJ [str x] { inv := fun y : TRs => PrOK (readT x).1 y, val := fun y => .tuple #[.agg #[.slice y.2.1.1 y.1.length y.2.1.2, .slice y.2.2.2.1 y.2.2.1.length y.2.2.2.2], int (readT x).2.1, int (readT x).2.2], LO := fun y => [Row y.2.1.1 (rows y.1), RowsF y.2.2.2.1 y.2.2.1 Hd.row] } := by
 have hS := mZ x 10; have hLn := P2 10 x; have hcl : x.count 10 ≤ x.length := List.count_le_length; have hLw := pU 10 x; obtain ⟨L, hL⟩ : ∃ L, splitB 10 x = L := ⟨_, rfl⟩; rw [hL] at hS hLn hLw; obtain ⟨RT, hRT⟩ : ∃ r, readT x = r := ⟨_, rfl⟩; rw [hRT]; refine j3 cq2 rfl v8 fun w0 => i4 (u4 rfl (fun _ => D4 _) fun g2 => ?_); refine c5 rfl (c5 rfl (c8 (d6 (i4 (b6 rfl ?_))))); refine G5 rfl q8 rfl ?_; refine Q0 rfl rfl rfl (c8 ?_); refine k9 rfl (fun hb1 => ?_) (fun hb1 => ?_)
 ·have hb1' := hb1; try simp at hb1'
  have h9 : 900 < x.length := by omega
  refine i4 (u0 _ rfl rfl (fun _ => A6 ..) (l6 (cs := #[.slice none 0 0, .slice none 0 0]) rfl rfl (.refl _) c7 (by rfl) (by rfl) ?_)); refine c5 rfl (c5 rfl (c8 (E9 ?_))); have hR0 : (([], []), (0), (10)) = RT := by rw [← hRT]; exact (rt_long h9).symm
  subst hR0; refine n5 (α := Cl) (n5 (α := Hd) ?_); refine G1 (Fs := ([] : List Hd).map Hd.row) (by intro F hF; simp at hF) ?_; refine J7 (A := none) (ps := ([] : List Hd)) (f := Hd.row) mB mB ?_; exact A9 (([], (none, 0), [], (none, 0)) : TRs) (fun a w9 ha hw9 => D0 (cs := #[.slice none 0 0, .slice none 0 0]) (v1 := int ((0) : Nat)) (v2 := int (10)) rfl rfl rfl rfl i6 c7 rfl m0 a w9 ha.at_ hw9) rfl U7 nK mC
 have hb1' := hb1; try simp at hb1'
 have h9 : ¬ 900 < x.length := by omega
 refine i8 (i1 (i4 (b6 rfl ?_))); refine j4 nL rfl rfl (hS (by omega)) (hpR := [_]) (.refl _) tK fun q5 hq5 => ?_; refine c5 rfl (t6 (b6 rfl ?_)); refine k6 rfl j9 rfl (P9 ((L.length - 1 : Nat) : Int) rfl rfl rfl (by omega) q6 ?_); refine c5 rfl (t6 (c5 rfl (t6 (c5 rfl (b5 ?_))))); refine i1 (d6 (i4 (c5 rfl (c8 (j5 ?_))))); refine dY (Fs := ([] : List Rl).map Rl.row) (by intro F hF; simp at hF) ?_; obtain ⟨R, hR⟩ : ∃ R, rdF 0 L [] [] = R := ⟨_, rfl⟩; refine u6 (β := Nat × List Rl × Nat × Bool × OutC × Hp) ⟨fun z => LsR L R z.1 z.2.1 z.2.2.1 z.2.2.2.1 ∧ (∀ y ∈ z.2.1, y.2.1.length ≤ 1000) ∧ Grow C9 6 z.2.2.2.2.1.1 z.2.1.length z.2.2.2.2.1.2 (rows z.2.1) z.2.2.2.2.2, fun z => [(2, .pointer (d9 g2)), (5, .slice q5.1 L.length q5.2), (6, int (L.length - 1 : Nat)), (7, .slice z.2.2.2.2.1.1 z.2.1.length z.2.2.2.2.1.2), (8, .bool z.2.2.2.1), (9, int z.1)], fun z => tpB g2 none 0 0 none 0 0 :: z.2.2.2.2.2, fun z => [Row q5.1 (rows L), innersF z.2.1 Rl.row]⟩ (fun z => L.length - z.1) (0, [], 0, false, (none, 0), []) ⟨nz7 (by omega) hR, fun y h => (by cases h), Grow.nil _ _⟩ mC (.refl _) mC fun z hz => ?_; obtain ⟨i, l, n, e, ⟨o1, o2⟩, og⟩ := z; obtain ⟨hz, hnm, hG⟩ := hz; simp only at hz hnm hG; have hil := hz.il; have hli := hz.li; refine d6 (i4 (b6 rfl (b6 rfl (B5 rfl rfl rfl (c8 ?_))))); refine k9 rfl (fun hb2 => ?_) (fun hb2 => ?_)
 ·have hb2' := hb2; try simp at hb2'
  have hi : i + 1 < L.length := by omega
  have hlw := hLw _ (w8 (l := L) (show i < L.length by omega)); refine i8 (i1 (d6 (j5 (d6 (i4 (b6 rfl (c8 ?_))))))); refine j0 rfl (fun hb3 => ?_) (fun hb3 => ?_)
  ·have hb3' := hb3; try simp at hb3'
   obtain rfl : e = true := by simpa using hb3
   refine i4 (u0 _ rfl rfl (fun _ => A6 ..) (b6 rfl ?_)); refine t5 ((i + 1 : Nat) : Int) rfl rfl rfl (by push_cast; rfl) q6 ?_; refine l6 (cs := #[.slice none 0 0, .slice none 0 0]) rfl rfl (.refl _) c7 (by rfl) (by rfl) ?_; refine c5 rfl (c5 rfl (c8 (E9 (B7 (u5 (B7 ?_)))))); have hR9 : R = (none, i + 1) := ls_on hz hi; have hR0 : (([], []), (i + 1), (2)) = RT := by rw [← hRT]; exact (cz5 h9 hL (hR.trans hR9)).symm
   subst hR0; refine n5 (α := Cl) (n5 (α := Hd) ?_); refine G1 (Fs := ([] : List Hd).map Hd.row) (by intro F hF; simp at hF) ?_; refine J7 (A := none) (ps := ([] : List Hd)) (f := Hd.row) mB mB ?_; exact A9 (([], (none, 0), [], (none, 0)) : TRs) (fun a w9 ha hw9 => D0 (cs := #[.slice none 0 0, .slice none 0 0]) (v1 := int ((i + 1) : Nat)) (v2 := int (2)) rfl rfl rfl rfl i6 c7 rfl m0 a w9 ha.at_ hw9) rfl U7 nK mC
  have hb3' := hb3; try simp at hb3'
  obtain rfl : e = false := by simpa using hb3
  refine i8 (i1 (d6 (i4 (b6 rfl (b6 rfl ?_))))); refine m7 (α := Str) L i rfl j9 j6 rfl rfl rfl mB rfl (by omega) (by decide) (a7 (v := str (L.getD i default)) rfl a9 rfl (b7 mB (b4 (by omega) rfl)) ?_); refine J3 rfl rfl rfl (c8 ?_); refine k9 rfl (fun hb4 => ?_) (fun hb4 => ?_)
  ·have hb4' := hb4; try simp at hb4'
   have hs : (L.getD i default) = wFinis := hb4; refine i4 (c5 rfl (c8 (t7 (aO (t8 (i1 (c9 (b6 rfl ?_)))))))); refine t5 _ rfl rfl rfl rfl q6 ?_; refine c5 rfl (b5 ?_); exact again _ (i + 1, l, n, true, (o1, o2), og) ⟨ls_fin hz hi hs, hnm, hG⟩ (y8 (by omega)) mC (.refl _) mC
  have hb4' := hb4; try simp at hb4'
  have hs : ¬ (L.getD i default) = wFinis := hb4; refine i8 (i1 (i4 (b6 rfl (b6 rfl ?_)))); refine m7 (α := Str) L i rfl j9 j6 rfl rfl rfl mB rfl (by omega) (by decide) (a7 (v := str (L.getD i default)) rfl a9 rfl (b7 mB (b4 (by omega) rfl)) ?_); have hln9 := P2 32 (L.getD i default); have hct9 : (L.getD i default).count 32 ≤ (L.getD i default).length := List.count_le_length; have hwl9 : ∀ v ∈ splitB 32 (L.getD i default), v.length ≤ 1000 := fun v hv => by have := pU 32 (L.getD i default) v hv; omega
  refine j4 nL rfl rfl (mZ (L.getD i default) 32 (by omega)) (hpR := tpB g2 none 0 0 none 0 0 :: og) (.refl _) tK fun q9 hq9 => j4 bj5 rfl rfl (ax1 (A := q9.1) (ca := q9.2) (splitB 32 (L.getD i default)) (by omega) (by omega) hwl9 hq9) (hpR := tpB g2 none 0 0 none 0 0 :: og) (.refl _) mC fun y9 hy9 => ?_; obtain ⟨hy9, hya⟩ := hy9; refine b6 rfl (l3 rfl rfl rfl (l3 rfl rfl rfl ?_)); refine u4 rfl (fun _ => S4 _) fun g10 => l6 (cs := #[.bool y9.1.1, str y9.1.2.1, str y9.1.2.2.1, str y9.1.2.2.2.1, str y9.1.2.2.2.2.1, .slice y9.1.2.2.2.2.2.a y9.1.2.2.2.2.2.l.length y9.1.2.2.2.2.2.c]) rfl rfl (.refl _) i7 (by rfl) (by rfl) ?_; refine c5 rfl (c8 ?_); refine I0 ⟨fun y9 : (Rl × Bool) × Nat => ¬ (L.getD i default) = wFinis ∧ parseT (splitB 32 (L.getD i default)) = some (!y9.1.1.1, y9.1.1.pl y9.1.1.1) ∧ y9.1.1.ok ∧ y9.1.1.2.2.2.2.2.l.length ≤ 1000 ∧ y9.1.1.2.1.length ≤ 1000 ∧ (y9.1.1.1 = true → 0 < l.length → (l.getD (l.length - 1) default).1 = true), fun y9 => [(2, .pointer (d9 g2)), (5, .slice q5.1 L.length q5.2), (6, int (L.length - 1 : Nat)), (7, .slice o1 l.length o2), (8, .bool false), (9, int i), (10, .pointer (some ⟨y9.2, 0, none⟩))], fun _ => tpB g2 none 0 0 none 0 0 :: og, fun y9 => [Blk y9.2 (Obj.cells #[.bool y9.1.1.1, str y9.1.1.2.1, str y9.1.1.2.2.1, str y9.1.1.2.2.2.1, str y9.1.1.2.2.2.2.1, .slice y9.1.1.2.2.2.2.2.a y9.1.1.2.2.2.2.2.l.length y9.1.1.2.2.2.2.2.c] C9 (0, 0)), y9.1.1.row, Row q5.1 (rows L), innersF l Rl.row]⟩ ?_ ?_
  ·skip
   refine d6 (C3 (c9 (b6 rfl (H6 rfl rfl (b6 rfl ?_))))); refine v6 rfl rfl ?_ ?_
   ·intro hg1; have hg1' := hg1; try simp at hg1'
    have hok : y9.2 = true := by simpa using hg1
    refine k5 hg1 (a6 ⟨_, 0, none⟩ rfl rfl C6 rfl (k5 hg1 (a7 (v := .bool y9.1.1) rfl q7 rfl (d8 mB rfl) ?_))); refine k5 hg1 (b6 rfl ?_); refine v6 rfl rfl ?_ ?_
    ·intro hg2; have hg2' := hg2; try simp at hg2'
     have hcl : y9.1.1 = true := by simpa using hg2
     refine k5 hg2 (b6 rfl (k5 hg2 ?_)); refine k6 rfl p9 rfl ?_; refine k5 hg2 (Q0 rfl rfl rfl (k5 hg1 ?_)); refine p_t rfl rfl (bt1 hg2) rfl ?_; refine k5 hg1 (b6 rfl ?_); refine v6 rfl rfl ?_ ?_
     ·intro hg3; have hg3' := hg3; try simp at hg3'
      have hl0 : 0 < l.length := by have h7 : (0 : Int) < (l.length : Int) := of_decide_eq_true (eq_of_beq hg3); omega
      refine k5 hg3 (b6 rfl (k5 hg3 (b6 rfl (k5 hg3 ?_)))); refine k6 rfl p9 rfl (k5 hg3 ?_); refine P9 ((l.length - 1 : Nat) : Int) rfl rfl rfl (by show (l.length : Int) - 1 = ((l.length - 1 : Nat) : Int); omega) q6 ?_; refine k5 hg3 ?_
      obtain ⟨gl, cur, rfl, rfl, hr1, hr2, hr3, hr4⟩ : ∃ g cur, o1 = some ⟨g, 0, none⟩ ∧ og = [(g, Obj.cells cur C9 (0, 0))] ∧ l.length ≤ o2 ∧ o2 ≤ maxLen ∧ cur.size = o2 * 6 ∧ cur.toList.take (l.length * 6) = rows l := by
        rcases hG.2 with ⟨_, h, _⟩ | h
        · omega
        obtain ⟨g, cur, h1, h2, h3, h4, h5, h6⟩ := h; exact ⟨g, cur, h1, h2, h3, h4, h5, h6⟩
      refine B4 (l.length - 1) ((l.length - 1) * 6) rfl p9 i7 rfl rfl rfl (by show l.length - 1 < l.length; omega) (Nat.zero_add _) ?_; refine k5 hg3 (a6 _ rfl rfl C6 rfl (k5 hg3 ?_)); refine a7 (v := .bool (l.getD (l.length - 1) default).1) rfl q7 rfl (i2 m1 (own_f (α := Rl) (k := l.length - 1) (f := 0) hr4 (by omega) rfl rfl)) ?_; refine k5 hg3 (H6 rfl rfl (k5 hg1 ?_)); refine p_t rfl rfl (bt1 hg3) rfl (p_f rfl rfl (bf1 hg1) rfl (c8 ?_)); refine j0 rfl (fun hb5 => ?_) (fun hb5 => ?_)
      ·have hb5' := hb5; try simp at hb5'
       have hlst : ¬ (l.getD (l.length - 1) default).1 = true := by simpa using hb5
       refine i4 (u0 _ rfl rfl (fun _ => A6 ..) (b6 rfl ?_)); refine t5 ((i + 1 : Nat) : Int) rfl rfl rfl (by push_cast; rfl) q6 ?_; refine l6 (cs := #[.slice none 0 0, .slice none 0 0]) rfl rfl (.refl _) c7 (by rfl) (by rfl) ?_; refine c5 rfl (c5 rfl (c8 (E9 (B7 (u5 (B7 ?_)))))); have hyp := (hy9.ye hok).1; rw [hcl] at hyp; have hR9 : R = (none, i + 1) := ls_late hz hi hs hyp hl0 hlst; have hR0 : (([], []), (i + 1), (2)) = RT := by rw [← hRT]; exact (cz5 h9 hL (hR.trans hR9)).symm
       subst hR0; refine n5 (α := Cl) (n5 (α := Hd) ?_); refine G1 (Fs := ([] : List Hd).map Hd.row) (by intro F hF; simp at hF) ?_; refine J7 (A := none) (ps := ([] : List Hd)) (f := Hd.row) mB mB ?_; exact A9 (([], (none, 0), [], (none, 0)) : TRs) (fun a w9 ha hw9 => D0 (cs := #[.slice none 0 0, .slice none 0 0]) (v1 := int ((i + 1) : Nat)) (v2 := int (2)) rfl rfl rfl rfl i6 c7 rfl m0 a w9 ha.at_ hw9) rfl U7 nK mC
      have hb5' := hb5; try simp at hb5'
      have hlst : (l.getD (l.length - 1) default).1 = true := by simpa using hb5
      refine i8 ?_; exact D5 _ (y9, g10) ⟨hs, (hy9.ye hok).1, (hy9.ye hok).2, by show y9.1.2.2.2.2.2.l.length ≤ 1000; omega, by have h8 := hx3 hwl9 (hy9.ye hok).1; rw [iz1] at h8; exact h8, fun q1 q2 => hlst⟩ mC (.refl _) mC
     intro hg3; have hg3' := hg3; try simp at hg3'
     have hl0 : ¬ 0 < l.length := by have h7 : ¬ ((0 : Int) < (l.length : Int)) := of_decide_eq_false (bf2 hg3); omega
     refine l8 hg3 (l8 hg3 (l8 hg3 (l8 hg3 (l8 hg3 (l8 hg3 (l8 hg3 (l8 hg3 (k5 hg1 ?_)))))))); refine p_f rfl rfl (bf2 hg3) rfl (p_f rfl rfl (bf1 hg1) rfl ?_); refine c8 (c_f rfl rfl (i8 ?_)); exact D5 _ (y9, g10) ⟨hs, (hy9.ye hok).1, (hy9.ye hok).2, by show y9.1.2.2.2.2.2.l.length ≤ 1000; omega, by have h8 := hx3 hwl9 (hy9.ye hok).1; rw [iz1] at h8; exact h8, fun q1 q2 => absurd q2 hl0⟩ mC (.refl _) mC
    intro hg2; have hg2' := hg2; try simp at hg2'
    have hcl : y9.1.1 = false := by simpa using hg2
    refine l8 hg2 (l8 hg2 (l8 hg2 (k5 hg1 ?_))); refine p_f rfl rfl (bf2 hg2) rfl ?_; refine k5 hg1 (b6 rfl (S5 rfl rfl rfl rfl rfl rfl (S5 rfl rfl rfl rfl rfl rfl (S5 rfl rfl rfl rfl rfl rfl (S5 rfl rfl rfl rfl rfl rfl (S5 rfl rfl rfl rfl rfl rfl (S5 rfl rfl rfl rfl rfl rfl (S5 rfl rfl rfl rfl rfl rfl (S5 rfl rfl rfl rfl rfl rfl (k5 hg1 (p_f rfl rfl rfl rfl ?_))))))))))); refine p_f rfl rfl (bf1 hg1) rfl ?_; refine c8 (c_f rfl rfl (i8 ?_)); exact D5 _ (y9, g10) ⟨hs, (hy9.ye hok).1, (hy9.ye hok).2, by show y9.1.2.2.2.2.2.l.length ≤ 1000; omega, by have h8 := hx3 hwl9 (hy9.ye hok).1; rw [iz1] at h8; exact h8, fun q1 q2 => by rw [hcl] at q1; cases q1⟩ mC (.refl _) mC
   intro hg1; have hg1' := hg1; try simp at hg1'
   have hok : y9.2 = false := by simpa using hg1
   refine l8 hg1 (l8 hg1 (l8 hg1 (K6 rfl rfl rfl rfl rfl rfl (K6 rfl rfl rfl rfl rfl rfl (K6 rfl rfl rfl rfl rfl rfl (l8 hg1 (l8 hg1 (K6 rfl rfl rfl rfl rfl rfl (K6 rfl rfl rfl rfl rfl rfl (K6 rfl rfl rfl rfl rfl rfl (K6 rfl rfl rfl rfl rfl rfl ?_))))))))))); refine K6 rfl rfl rfl rfl rfl rfl (K6 rfl rfl rfl rfl rfl rfl (K6 rfl rfl rfl rfl rfl rfl (K6 rfl rfl rfl rfl rfl rfl (l8 hg1 ?_)))); refine p_t rfl rfl (bt2 hg1) rfl ?_; refine c8 (c_t rfl rfl (i4 ?_)); refine u0 _ rfl rfl (fun _ => A6 ..) (b6 rfl ?_); refine t5 ((i + 1 : Nat) : Int) rfl rfl rfl (by push_cast; rfl) q6 ?_; refine l6 (cs := #[.slice none 0 0, .slice none 0 0]) rfl rfl (.refl _) c7 (by rfl) (by rfl) ?_; refine c5 rfl (c5 rfl (c8 (E9 (B7 (u5 (B7 ?_)))))); have hR9 : R = (none, i + 1) := ls_bad hz hi hs (hy9.no hok); have hR0 : (([], []), (i + 1), (2)) = RT := by rw [← hRT]; exact (cz5 h9 hL (hR.trans hR9)).symm
   subst hR0; refine n5 (α := Cl) (n5 (α := Hd) ?_); refine G1 (Fs := ([] : List Hd).map Hd.row) (by intro F hF; simp at hF) ?_; refine J7 (A := none) (ps := ([] : List Hd)) (f := Hd.row) mB mB ?_; exact A9 (([], (none, 0), [], (none, 0)) : TRs) (fun a w9 ha hw9 => D0 (cs := #[.slice none 0 0, .slice none 0 0]) (v1 := int ((i + 1) : Nat)) (v2 := int (2)) rfl rfl rfl rfl i6 c7 rfl m0 a w9 ha.at_ hw9) rfl U7 nK mC
  intro y9 hy9; obtain ⟨y9, g10⟩ := y9; obtain ⟨hs, hyp, hyo, hya, hyn, hlst⟩ := hy9; simp only at hs hyp hyo hya hyn hlst; refine c9 (b6 rfl ?_); refine z8 (cs := El.cells y9.1) rfl n9 i7 rfl rfl (R3 (o := 0) mB (S8 (List.append_nil _).symm)) (n7 _ rfl rfl (fun _ => jH ..) fun gS => D2 (rows [(y9.1 : Rl)]) (List.prefix_refl _) ?_); refine E3 (hp' := [tpB g2 none 0 0 none 0 0]) (l.length + 1) (rows (l ++ [y9.1])) kR rfl rfl rfl hG (show List.Perm (tpB g2 none 0 0 none 0 0 :: og) (og ++ [tpB g2 none 0 0 none 0 0]) from (B1 fun p => by simp only [List.countP_append, List.countP_cons, List.countP_nil]; omega)) (Src.row (news := rows [(y9.1 : Rl)]) (m := 1) m0 rfl (E8 _) (by decide)) rfl (A1 _ _).symm (by unfold maxLen; omega) (by omega) fun A' c' og' hG' => ?_; refine jN (V8 (ps := l) (f := Rl.row) (p := y9.1) mB mB) ?_; refine c5 rfl (b5 (w6 (i1 (c9 (b6 rfl ?_))))); refine t5 _ rfl rfl rfl rfl q6 ?_; refine c5 rfl (b5 ?_); have hxy : (l ++ [y9.1]).length = l.length + 1 := by simp
  rw [← hxy] at hG'; refine Q5 (hp' := tpB g2 none 0 0 none 0 0 :: og') (show List.Perm (og' ++ [tpB g2 none 0 0 none 0 0]) (tpB g2 none 0 0 none 0 0 :: og') from (B1 fun p => by simp only [List.countP_append, List.countP_cons, List.countP_nil]; omega)) ?_; have hnm2 := O7 hnm hyn
  by_cases hcl : y9.1.1 = true
  · exact again _ (i + 1, l ++ [y9.1], n + 1, false, (A', c'), og') ⟨ls_cls hz hi hs hyp hyo hya hcl (hlst hcl), hnm2, hG'⟩ (y8 (by omega)) ⟨rfl, rfl, rfl, by show some (Value.slice A' (l.length + 1) c') = some (Value.slice A' (l ++ [y9.1]).length c'); rw [hxy], rfl, rfl, tK⟩ (.refl _) mC
  exact again _ (i + 1, l ++ [y9.1], n, false, (A', c'), og') ⟨ls_hea hz hi hs hyp hyo hya (by simpa using hcl), hnm2, hG'⟩ (y8 (by omega)) ⟨rfl, rfl, rfl, by show some (Value.slice A' (l.length + 1) c') = some (Value.slice A' (l ++ [y9.1]).length c'); rw [hxy], rfl, rfl, tK⟩ (.refl _) mC
 have hb2' := hb2; try simp at hb2'
 have hi : i + 1 = L.length := by omega
 refine t7 (C7 (t8 (i1 (d6 (i4 (b6 rfl (H6 rfl rfl (b6 rfl ?_)))))))); refine v6 rfl rfl ?_ ?_
 ·intro hg4; have hg4' := hg4; try simp at hg4'
  obtain rfl : e = true := by simpa using hg4
  refine k5 hg4 (b6 rfl (k5 hg4 (b6 rfl (k5 hg4 ?_)))); refine m7 (α := Str) L (L.length - 1) rfl j9 j6 rfl rfl rfl mB rfl (by omega) (by decide) (k5 hg4 (a7 (v := str (L.getD (L.length - 1) default)) rfl a9 rfl (b7 mB (b4 (by omega) rfl)) ?_)); refine k5 hg4 (iK rfl rfl rfl ?_); refine p_f rfl rfl (bf1 hg4) rfl (c8 ?_); refine k9 rfl (fun hb6 => ?_) (fun hb6 => ?_)
  ·have hb6' := hb6; try simp at hb6'
   have hls : ¬ L.getD i default = [] := by rw [show i = L.length - 1 by omega]; simpa using hb6
   have hR8 := nz6 hz hi; rw [if_neg hls] at hR8; refine i4 (u0 _ rfl rfl (fun _ => A6 ..) (b6 rfl (t5 ((L.length : Nat) : Int) rfl rfl rfl (by omega) q6 (l6 (cs := #[.slice none 0 0, .slice none 0 0]) rfl rfl (.refl _) c7 (by rfl) (by rfl) ?_)))); refine c5 rfl (c5 rfl (c8 (E9 ?_))); have hR9 : R = (none, L.length) := hR8; have hR0 : (([], []), (L.length), (2)) = RT := by rw [← hRT]; exact (cz5 h9 hL (hR.trans hR9)).symm
   subst hR0; refine n5 (α := Cl) (n5 (α := Hd) ?_); refine G1 (Fs := ([] : List Hd).map Hd.row) (by intro F hF; simp at hF) ?_; refine J7 (A := none) (ps := ([] : List Hd)) (f := Hd.row) mB mB ?_; exact A9 (([], (none, 0), [], (none, 0)) : TRs) (fun a w9 ha hw9 => D0 (cs := #[.slice none 0 0, .slice none 0 0]) (v1 := int ((L.length) : Nat)) (v2 := int (2)) rfl rfl rfl rfl i6 c7 rfl m0 a w9 ha.at_ hw9) rfl U7 nK mC
  have hb6' := hb6; try simp at hb6'
  have hls : L.getD i default = [] := by rw [show i = L.length - 1 by omega]; simpa using hb6
  have hR8 := nz6 hz hi; rw [if_pos hls] at hR8; refine i8 (i1 (i4 ?_)); refine u4 rfl (fun _ => D4 _) fun g12 => ?_; refine c8 (d6 (i4 (c5 rfl (c8 (j5 ?_))))); have hln := hz.ln; refine Y6 (hp' := og ++ [tpB g12 none 0 0 none 0 0, tpB g2 none 0 0 none 0 0]) (show List.Perm (tpB g12 none 0 0 none 0 0 :: tpB g2 none 0 0 none 0 0 :: og) (og ++ [tpB g12 none 0 0 none 0 0, tpB g2 none 0 0 none 0 0]) from (B1 fun p => by simp only [List.countP_append, List.countP_cons, List.countP_nil]; omega)) ?_; refine Z7 hG ?_; refine dY (Fs := ([] : List Hd).map Hd.row) (by intro F hF; simp at hF) ?_; refine u6 (β := Nat × List Cl × OutC × Hp × List Hd × OutC × Hp) ⟨fun z => BkI l n z.1 z.2.1 (z.2.2.2.2.1.map Hd.p) ∧ Grow U2 2 z.2.2.1.1 z.2.1.length z.2.2.1.2 (rows z.2.1) z.2.2.2.1 ∧ Grow G0 4 z.2.2.2.2.2.1.1 z.2.2.2.2.1.length z.2.2.2.2.2.1.2 (rows z.2.2.2.2.1) z.2.2.2.2.2.2 ∧ (∀ c ∈ z.2.1, c.1.length ≤ 1000) ∧ (∀ h ∈ z.2.2.2.2.1, h.1.length ≤ 1000 ∧ h.2.2.2.l.length ≤ 1000), fun z => [(2, .pointer (d9 g2)), (7, .slice o1 l.length o2), (12, .pointer (d9 g12)), (13, int z.1)], fun z => tpB g12 z.2.2.1.1 z.2.1.length z.2.2.1.2 z.2.2.2.2.2.1.1 z.2.2.2.2.1.length z.2.2.2.2.2.1.2 :: tpB g2 none 0 0 none 0 0 :: (z.2.2.2.1 ++ z.2.2.2.2.2.2), fun z => [Row o1 (rows l), innersF l Rl.row, innersF z.2.2.2.2.1 Hd.row]⟩ (fun z => l.length - z.1) (0, [], (none, 0), [], [], (none, 0), []) ⟨px8 hln, Grow.nil _ _, Grow.nil _ _, fun y h => (by cases h), fun y h => by cases h⟩ mC (.refl _) mC fun z hz => ?_; obtain ⟨k, cs, ⟨cA, cC⟩, cH, hs, ⟨hA, hC⟩, hH⟩ := z; obtain ⟨hb, hGc, hGh, hcn, hhn⟩ := hz; simp only at hb hGc hGh hcn hhn; have hkl := hb.kl; have hlc := hb.lc; have hlh := hb.lh; rw [List.length_map] at hlh; refine d6 (i4 (b6 rfl (b6 rfl ?_))); refine k6 rfl p9 rfl ?_; refine B5 rfl rfl rfl (c8 ?_); refine k9 rfl (fun hb7 => ?_) (fun hb7 => ?_)
  ·have hb7' := hb7; try simp at hb7'
   have hk1 : k < l.length := by omega
   have hb1 := lq0 true l (l.getD k default).2.2.1; have hb2 := lq0 true l (l.getD k default).2.2.2.1; have hb3_ := lq0 false l (l.getD k default).2.2.2.2.1; have hxa := hln.la _ (w8 hk1); have hxn := hnm _ (w8 hk1); refine i8 (i1 (d6 (j5 (i4 (b6 rfl (b6 rfl (b6 rfl ?_))))))); refine m7 (α := Rl) l k rfl p9 i7 rfl rfl rfl mB rfl hk1 (by decide) (a6 _ rfl rfl kQ rfl (a7 (v := str (l.getD k default).2.2.1) rfl a9 rfl (b8 mB (rows_get hk1 rfl)) (j4 nM rfl rfl (nB l (l.getD k default).2.2.1 (by omega)) (hpR := tpB g12 cA cs.length cC hA hs.length hC :: tpB g2 none 0 0 none 0 0 :: (cH ++ hH)) (.refl _) mC fun _ _ => ?_))); refine b6 rfl (l3 rfl rfl rfl (l3 rfl rfl rfl (c5 rfl (c5 rfl (t6 (b6 rfl (b6 rfl (b6 rfl ?_)))))))); refine m7 (α := Rl) l k rfl p9 i7 rfl rfl rfl mB rfl hk1 (by decide) (a6 _ rfl rfl Y4 rfl (a7 (v := str (l.getD k default).2.2.2.1) rfl a9 rfl (b8 mB (rows_get hk1 rfl)) (j4 nM rfl rfl (nB l (l.getD k default).2.2.2.1 (by omega)) (hpR := tpB g12 cA cs.length cC hA hs.length hC :: tpB g2 none 0 0 none 0 0 :: (cH ++ hH)) (.refl _) mC fun _ _ => ?_))); refine b6 rfl (l3 rfl rfl rfl (l3 rfl rfl rfl (c5 rfl (c5 rfl (t6 (b6 rfl (b6 rfl (b6 rfl ?_)))))))); refine m7 (α := Rl) l k rfl p9 i7 rfl rfl rfl mB rfl hk1 (by decide) (a6 _ rfl rfl Y3 rfl (a7 (v := str (l.getD k default).2.2.2.2.1) rfl a9 rfl (b8 mB (rows_get hk1 rfl)) (j4 kL rfl rfl (kI l (l.getD k default).2.2.2.2.1 (by omega)) (hpR := tpB g12 cA cs.length cC hA hs.length hC :: tpB g2 none 0 0 none 0 0 :: (cH ++ hH)) (.refl _) mC fun _ _ => ?_))); refine b6 rfl (l3 rfl rfl rfl (l3 rfl rfl rfl (c5 rfl (c5 rfl (c8 ?_))))); refine I0 ⟨fun _ : Unit => ¬ BadR l (l.getD k default), fun _ => [(2, .pointer (d9 g2)), (7, .slice o1 l.length o2), (12, .pointer (d9 g12)), (13, int k), (14, int (findP (selR true l) (l.getD k default).2.2.1)), (16, int (findP (selR true l) (l.getD k default).2.2.2.1)), (18, int (findP (selR false l) (l.getD k default).2.2.2.2.1))], fun _ => tpB g12 cA cs.length cC hA hs.length hC :: tpB g2 none 0 0 none 0 0 :: (cH ++ hH), fun _ => [Row o1 (rows l), innersF l Rl.row, innersF hs Hd.row]⟩ ?_ ?_
   ·skip
    refine i4 (b6 rfl (H6 rfl rfl (b6 rfl ?_))); refine v6 rfl rfl ?_ ?_
    ·intro hg5; have hg5' := hg5; try simp at hg5'
     have hoi : (0 ≤ (findP (selR true l) (l.getD k default).2.2.1) ∨ (l.getD k default).2.2.1 = []) := by simpa using hg5
     refine k5 hg5 (b6 rfl (k5 hg5 (H6 rfl rfl ?_))); refine p_f rfl rfl (bf1 hg5) rfl (b6 rfl ?_); refine v6 rfl rfl ?_ ?_
     ·intro hg6; have hg6' := hg6; try simp at hg6'
      have hos : (0 ≤ (findP (selR true l) (l.getD k default).2.2.2.1) ∨ (l.getD k default).2.2.2.1 = []) := by simpa using hg6
      refine k5 hg6 (b6 rfl (k5 hg6 (H6 rfl rfl ?_))); refine p_f rfl rfl (bf1 hg6) rfl (c8 ?_); refine j0 rfl (fun hb8 => ?_) (fun hb8 => ?_)
      ·have hb8' := hb8; try simp at hb8'
       refine i4 (u0 _ rfl rfl (fun _ => A6 ..) (b6 rfl ?_)); refine t5 ((k + 1 : Nat) : Int) rfl rfl rfl (by push_cast; rfl) q6 ?_; refine l6 (cs := #[.slice none 0 0, .slice none 0 0]) rfl rfl (show List.Perm (tpB g12 cA cs.length cC hA hs.length hC :: tpB g2 none 0 0 none 0 0 :: (cH ++ hH)) (tpB g2 none 0 0 none 0 0 :: (tpB g12 cA cs.length cC hA hs.length hC :: (cH ++ hH))) from (B1 fun p => by simp only [List.countP_append, List.countP_cons, List.countP_nil]; omega)) c7 (by rfl) (by rfl) ?_; refine c5 rfl (c5 rfl (c8 (E9 (B7 (u5 (B7 ?_)))))); have hR9 := kx0 hb hk1 (bad_c (nb_t hb8)); have hR0 : (([], []), (k + 1), (3)) = RT := by rw [← hRT]; exact (ix1 h9 hL (hR.trans hR8) hR9).symm
       subst hR0; refine n5 (α := Cl) (n5 (α := Hd) ?_); refine G1 (Fs := ([] : List Hd).map Hd.row) (by intro F hF; simp at hF) ?_; refine J7 (A := none) (ps := ([] : List Hd)) (f := Hd.row) mB mB ?_; exact A9 (([], (none, 0), [], (none, 0)) : TRs) (fun a w9 ha hw9 => D0 (cs := #[.slice none 0 0, .slice none 0 0]) (v1 := int ((k + 1) : Nat)) (v2 := int (3)) rfl rfl rfl rfl i6 c7 rfl m0 a w9 ha.at_ hw9) rfl U7 nK mC
      have hb8' := hb8; try simp at hb8'
      refine i8 ?_; exact D5 _ () (not_bad hoi hos (nb_f hb8)) mC (.refl _) mC
     intro hg6; have hg6' := hg6; try simp at hg6'
     have hos : ¬ (0 ≤ (findP (selR true l) (l.getD k default).2.2.2.1) ∨ (l.getD k default).2.2.2.1 = []) := by simpa using hg6
     refine l8 hg6 (l8 hg6 ?_); refine p_t rfl rfl (bt2 hg6) rfl ?_; refine c8 (c_t rfl rfl (i4 ?_)); refine u0 _ rfl rfl (fun _ => A6 ..) (b6 rfl ?_); refine t5 ((k + 1 : Nat) : Int) rfl rfl rfl (by push_cast; rfl) q6 ?_; refine l6 (cs := #[.slice none 0 0, .slice none 0 0]) rfl rfl (show List.Perm (tpB g12 cA cs.length cC hA hs.length hC :: tpB g2 none 0 0 none 0 0 :: (cH ++ hH)) (tpB g2 none 0 0 none 0 0 :: (tpB g12 cA cs.length cC hA hs.length hC :: (cH ++ hH))) from (B1 fun p => by simp only [List.countP_append, List.countP_cons, List.countP_nil]; omega)) c7 (by rfl) (by rfl) ?_; refine c5 rfl (c5 rfl (c8 (E9 (B7 (u5 (B7 ?_)))))); have hR9 := kx0 hb hk1 (bad_b hos); have hR0 : (([], []), (k + 1), (3)) = RT := by rw [← hRT]; exact (ix1 h9 hL (hR.trans hR8) hR9).symm
     subst hR0; refine n5 (α := Cl) (n5 (α := Hd) ?_); refine G1 (Fs := ([] : List Hd).map Hd.row) (by intro F hF; simp at hF) ?_; refine J7 (A := none) (ps := ([] : List Hd)) (f := Hd.row) mB mB ?_; exact A9 (([], (none, 0), [], (none, 0)) : TRs) (fun a w9 ha hw9 => D0 (cs := #[.slice none 0 0, .slice none 0 0]) (v1 := int ((k + 1) : Nat)) (v2 := int (3)) rfl rfl rfl rfl i6 c7 rfl m0 a w9 ha.at_ hw9) rfl U7 nK mC
    intro hg5; have hg5' := hg5; try simp at hg5'
    have hoi : ¬ (0 ≤ (findP (selR true l) (l.getD k default).2.2.1) ∨ (l.getD k default).2.2.1 = []) := by simpa using hg5
    refine l8 hg5 (l8 hg5 ?_); refine p_t rfl rfl (bt2 hg5) rfl ?_; refine b6 rfl (S5 rfl rfl rfl rfl rfl rfl (S5 rfl rfl rfl rfl rfl rfl (p_t rfl rfl rfl rfl (c8 (c_t rfl rfl (i4 ?_)))))); refine u0 _ rfl rfl (fun _ => A6 ..) (b6 rfl ?_); refine t5 ((k + 1 : Nat) : Int) rfl rfl rfl (by push_cast; rfl) q6 ?_; refine l6 (cs := #[.slice none 0 0, .slice none 0 0]) rfl rfl (show List.Perm (tpB g12 cA cs.length cC hA hs.length hC :: tpB g2 none 0 0 none 0 0 :: (cH ++ hH)) (tpB g2 none 0 0 none 0 0 :: (tpB g12 cA cs.length cC hA hs.length hC :: (cH ++ hH))) from (B1 fun p => by simp only [List.countP_append, List.countP_cons, List.countP_nil]; omega)) c7 (by rfl) (by rfl) ?_; refine c5 rfl (c5 rfl (c8 (E9 (B7 (u5 (B7 ?_)))))); have hR9 := kx0 hb hk1 (bad_a hoi); have hR0 : (([], []), (k + 1), (3)) = RT := by rw [← hRT]; exact (ix1 h9 hL (hR.trans hR8) hR9).symm
    subst hR0; refine n5 (α := Cl) (n5 (α := Hd) ?_); refine G1 (Fs := ([] : List Hd).map Hd.row) (by intro F hF; simp at hF) ?_; refine J7 (A := none) (ps := ([] : List Hd)) (f := Hd.row) mB mB ?_; exact A9 (([], (none, 0), [], (none, 0)) : TRs) (fun a w9 ha hw9 => D0 (cs := #[.slice none 0 0, .slice none 0 0]) (v1 := int ((k + 1) : Nat)) (v2 := int (3)) rfl rfl rfl rfl i6 c7 rfl m0 a w9 ha.at_ hw9) rfl U7 nK mC
   intro _ hgd; simp only at hgd; refine d6 (cx6 (F := Rl.row (l.getD k default)) (Fs := l.map Rl.row) mB (List.mem_map.2 ⟨_, w8 hk1, rfl⟩) ?_); refine c9 (c5 rfl (c8 (d6 (i4 (c5 rfl (c8 (j5 ?_))))))); obtain ⟨RA, hRA⟩ : ∃ R, aloE (selR false l) (l.getD k default).2.2.2.2.2.l [] = R := ⟨_, rfl⟩; refine u6 (β := Nat × List Int × OutC × Hp) ⟨fun z => z.1 ≤ (l.getD k default).2.2.2.2.2.l.length ∧ aloE (selR false l) ((l.getD k default).2.2.2.2.2.l.drop z.1) z.2.1 = RA ∧ Grow aU 1 z.2.2.1.1 z.2.1.length z.2.2.1.2 (rows z.2.1) z.2.2.2 ∧ z.2.1.length = z.1, fun z => [(2, .pointer (d9 g2)), (7, .slice o1 l.length o2), (12, .pointer (d9 g12)), (13, int k), (14, int (findP (selR true l) (l.getD k default).2.2.1)), (16, int (findP (selR true l) (l.getD k default).2.2.2.1)), (18, int (findP (selR false l) (l.getD k default).2.2.2.2.1)), (20, .slice z.2.2.1.1 z.2.1.length z.2.2.1.2), (21, int z.1)], fun z => tpB g12 cA cs.length cC hA hs.length hC :: tpB g2 none 0 0 none 0 0 :: (z.2.2.2 ++ (cH ++ hH)), fun _ => [Row (l.getD k default).2.2.2.2.2.a (rows (l.getD k default).2.2.2.2.2.l), Row o1 (rows l), innersF l Rl.row, innersF hs Hd.row]⟩ (fun z => (l.getD k default).2.2.2.2.2.l.length - z.1) (0, [], (none, 0), []) ⟨Nat.zero_le _, hRA, Grow.nil _ _, rfl⟩ mC (.refl _) mC fun z hz => ?_; obtain ⟨j, al, ⟨aA, aC⟩, aH⟩ := z; obtain ⟨hj, he3, hG3, hal3⟩ := hz; simp only at hj he3 hG3 hal3; refine d6 (i4 (b6 rfl (b6 rfl (b6 rfl ?_)))); refine m7 (α := Rl) l k rfl p9 i7 rfl rfl rfl mB rfl hk1 (by decide) (a6 _ rfl rfl J4 rfl (a7 (v := .slice (l.getD k default).2.2.2.2.2.a (l.getD k default).2.2.2.2.2.l.length (l.getD k default).2.2.2.2.2.c) rfl U0 rfl (b8 mB (rows_get hk1 rfl)) (k6 rfl j9 rfl ?_))); refine B5 rfl rfl rfl (c8 ?_); refine k9 rfl (fun hb9 => ?_) (fun hb9 => ?_)
   ·have hb9' := hb9; try simp at hb9'
    have hj1 : j < (l.getD k default).2.2.2.2.2.l.length := by omega
    have hfb3 := lq0 false l ((l.getD k default).2.2.2.2.2.l.getD j default); refine i8 (i1 (d6 (j5 (i4 (b6 rfl (b6 rfl (b6 rfl ?_))))))); refine m7 (α := Rl) l k rfl p9 i7 rfl rfl rfl mB rfl hk1 (by decide) (a6 _ rfl rfl J4 rfl (a7 (v := .slice (l.getD k default).2.2.2.2.2.a (l.getD k default).2.2.2.2.2.l.length (l.getD k default).2.2.2.2.2.c) rfl U0 rfl (b8 mB (rows_get hk1 rfl)) (b6 rfl (m7 (α := Str) (l.getD k default).2.2.2.2.2.l j rfl j9 j6 rfl rfl rfl mB rfl hj1 (by decide) (a7 (v := str ((l.getD k default).2.2.2.2.2.l.getD j default)) rfl a9 rfl (b7 mB (b4 hj1 rfl)) (j4 kL rfl rfl (kI l ((l.getD k default).2.2.2.2.2.l.getD j default) (by omega)) (hpR := tpB g12 cA cs.length cC hA hs.length hC :: tpB g2 none 0 0 none 0 0 :: (aH ++ (cH ++ hH))) (.refl _) mC fun _ _ => ?_)))))); refine b6 rfl (l3 rfl rfl rfl (l3 rfl rfl rfl (c5 rfl (c5 rfl (c8 (d6 (i4 (b6 rfl (H6 rfl rfl ?_))))))))); refine b6 rfl ?_; refine v6 rfl rfl ?_ ?_
    ·intro hg7; have hg7' := hg7; try simp at hg7'
     refine k5 hg7 (b6 rfl (k5 hg7 (B5 rfl rfl rfl ?_))); refine p_f rfl rfl (bf1 hg7) rfl (c8 ?_); refine k9 rfl (fun hb10 => ?_) (fun hb10 => ?_)
     ·have hb10' := hb10; try simp at hb10'
      have hno := kx4 he3 hj1 hb10; refine i4 (u0 _ rfl rfl (fun _ => A6 ..) (b6 rfl ?_)); refine t5 ((k + 1 : Nat) : Int) rfl rfl rfl (by push_cast; rfl) q6 ?_; refine l6 (cs := #[.slice none 0 0, .slice none 0 0]) rfl rfl (show List.Perm (tpB g12 cA cs.length cC hA hs.length hC :: tpB g2 none 0 0 none 0 0 :: (aH ++ (cH ++ hH))) (tpB g2 none 0 0 none 0 0 :: (tpB g12 cA cs.length cC hA hs.length hC :: (aH ++ (cH ++ hH)))) from (B1 fun p => by simp only [List.countP_append, List.countP_cons, List.countP_nil]; omega)) c7 (by rfl) (by rfl) ?_; refine c5 rfl (c5 rfl (c8 (E9 (B7 (u5 (B7 (jE ?_))))))); refine tr_tr (B7 ?_); have hR9 := px9 hb hk1 hgd (hRA.trans hno); have hR0 : (([], []), (k + 1), (3)) = RT := by rw [← hRT]; exact (ix1 h9 hL (hR.trans hR8) hR9).symm
      subst hR0; refine n5 (α := Cl) (n5 (α := Hd) ?_); refine G1 (Fs := ([] : List Hd).map Hd.row) (by intro F hF; simp at hF) ?_; refine J7 (A := none) (ps := ([] : List Hd)) (f := Hd.row) mB mB ?_; exact A9 (([], (none, 0), [], (none, 0)) : TRs) (fun a w9 ha hw9 => D0 (cs := #[.slice none 0 0, .slice none 0 0]) (v1 := int ((k + 1) : Nat)) (v2 := int (3)) rfl rfl rfl rfl i6 c7 rfl m0 a w9 ha.at_ hw9) rfl U7 nK mC
     have hb10' := hb10; try simp at hb10'
     refine i8 (i1 (c9 (b6 rfl (b6 rfl ?_)))); refine n7 _ rfl rfl (fun _ => J5 ..) fun gS => D2 (rows [(findP (selR false l) ((l.getD k default).2.2.2.2.2.l.getD j default))]) (List.prefix_refl _) ?_; refine E3 (hp' := tpB g12 cA cs.length cC hA hs.length hC :: tpB g2 none 0 0 none 0 0 :: (cH ++ hH)) (al.length + 1) (rows (al ++ [(findP (selR false l) ((l.getD k default).2.2.2.2.2.l.getD j default))])) cK rfl rfl rfl hG3 (show List.Perm (tpB g12 cA cs.length cC hA hs.length hC :: tpB g2 none 0 0 none 0 0 :: (aH ++ (cH ++ hH))) (aH ++ (tpB g12 cA cs.length cC hA hs.length hC :: tpB g2 none 0 0 none 0 0 :: (cH ++ hH))) from (B1 fun p => by simp only [List.countP_append, List.countP_cons, List.countP_nil]; omega)) (Src.row (news := rows [(findP (selR false l) ((l.getD k default).2.2.2.2.2.l.getD j default))]) (m := 1) m0 rfl (E8 _) (by decide)) rfl (A1 _ _).symm (by unfold maxLen; omega) (by omega) fun A' c' og' hG' => ?_; refine c5 rfl (b5 (w6 (i1 (c9 (b6 rfl ?_))))); refine t5 _ rfl rfl rfl rfl q6 ?_; refine c5 rfl (b5 ?_); have hxy : (al ++ [(findP (selR false l) ((l.getD k default).2.2.2.2.2.l.getD j default))]).length = al.length + 1 := by simp
     rw [← hxy] at hG'; refine Q5 (hp' := tpB g12 cA cs.length cC hA hs.length hC :: tpB g2 none 0 0 none 0 0 :: (og' ++ (cH ++ hH))) (show List.Perm (og' ++ (tpB g12 cA cs.length cC hA hs.length hC :: tpB g2 none 0 0 none 0 0 :: (cH ++ hH))) (tpB g12 cA cs.length cC hA hs.length hC :: tpB g2 none 0 0 none 0 0 :: (og' ++ (cH ++ hH))) from (B1 fun p => by simp only [List.countP_append, List.countP_cons, List.countP_nil]; omega)) ?_; exact again _ (j + 1, al ++ [(findP (selR false l) ((l.getD k default).2.2.2.2.2.l.getD j default))], (A', c'), og') ⟨hj1, al_ok he3 hj1 hb10, hG', by show (al ++ [_]).length = j + 1; omega⟩ (y8 (by omega)) ⟨rfl, rfl, rfl, rfl, rfl, rfl, rfl, by show some (Value.slice A' (al.length + 1) c') = some (Value.slice A' (al ++ [(findP (selR false l) ((l.getD k default).2.2.2.2.2.l.getD j default))]).length c'); rw [hxy], rfl, tK⟩ (.refl _) mC
    intro hg7; have hg7' := hg7; try simp at hg7'
    have hng : (findP (selR false l) ((l.getD k default).2.2.2.2.2.l.getD j default)) < 0 := Classical.byContradiction fun q => nb_g hg7 (.inl (by omega)); refine l8 hg7 (l8 hg7 ?_); refine p_t rfl rfl (bt2 hg7) rfl ?_; refine c8 (c_t rfl rfl ?_); have hno := kx4 he3 hj1 hng; refine i4 (u0 _ rfl rfl (fun _ => A6 ..) (b6 rfl ?_)); refine t5 ((k + 1 : Nat) : Int) rfl rfl rfl (by push_cast; rfl) q6 ?_; refine l6 (cs := #[.slice none 0 0, .slice none 0 0]) rfl rfl (show List.Perm (tpB g12 cA cs.length cC hA hs.length hC :: tpB g2 none 0 0 none 0 0 :: (aH ++ (cH ++ hH))) (tpB g2 none 0 0 none 0 0 :: (tpB g12 cA cs.length cC hA hs.length hC :: (aH ++ (cH ++ hH)))) from (B1 fun p => by simp only [List.countP_append, List.countP_cons, List.countP_nil]; omega)) c7 (by rfl) (by rfl) ?_; refine c5 rfl (c5 rfl (c8 (E9 (B7 (u5 (B7 (jE ?_))))))); refine tr_tr (B7 ?_); have hR9 := px9 hb hk1 hgd (hRA.trans hno); have hR0 : (([], []), (k + 1), (3)) = RT := by rw [← hRT]; exact (ix1 h9 hL (hR.trans hR8) hR9).symm
    subst hR0; refine n5 (α := Cl) (n5 (α := Hd) ?_); refine G1 (Fs := ([] : List Hd).map Hd.row) (by intro F hF; simp at hF) ?_; refine J7 (A := none) (ps := ([] : List Hd)) (f := Hd.row) mB mB ?_; exact A9 (([], (none, 0), [], (none, 0)) : TRs) (fun a w9 ha hw9 => D0 (cs := #[.slice none 0 0, .slice none 0 0]) (v1 := int ((k + 1) : Nat)) (v2 := int (3)) rfl rfl rfl rfl i6 c7 rfl m0 a w9 ha.at_ hw9) rfl U7 nK mC
   have hb9' := hb9; try simp at hb9'
   have hj1 : j = (l.getD k default).2.2.2.2.2.l.length := by omega
   rw [hj1, List.drop_eq_nil_of_le (Nat.le_refl _), aloE] at he3; have hal9 := hRA.trans he3.symm; refine t7 (C7 (t8 (i1 (d6 ?_)))); refine Y6 (hp' := aH ++ (tpB g12 cA cs.length cC hA hs.length hC :: tpB g2 none 0 0 none 0 0 :: (cH ++ hH))) (show List.Perm (tpB g12 cA cs.length cC hA hs.length hC :: tpB g2 none 0 0 none 0 0 :: (aH ++ (cH ++ hH))) (aH ++ (tpB g12 cA cs.length cC hA hs.length hC :: tpB g2 none 0 0 none 0 0 :: (cH ++ hH))) from (B1 fun p => by simp only [List.countP_append, List.countP_cons, List.countP_nil]; omega)) ?_; refine Z7 hG3 (c9 (b6 rfl (b6 rfl ?_))); refine m7 (α := Rl) l k rfl p9 i7 rfl rfl rfl mB rfl hk1 (by decide) (a6 _ rfl rfl C6 rfl (a7 (v := .bool (l.getD k default).1) rfl q7 rfl (b7 mB (b4 hk1 rfl)) (c8 ?_))); refine j0 rfl (fun hb11 => ?_) (fun hb11 => ?_)
   ·have hb11' := hb11; try simp at hb11'
    have hcl : (l.getD k default).1 = true := by simpa using hb11
    have hbk := bk_cls hb hk1 hgd hcl; refine H3 ((cH ++ hH)) ([tpB g12 cA cs.length cC hA hs.length hC, tpB g2 none 0 0 none 0 0]) (show List.Perm (tpB g12 cA cs.length cC hA hs.length hC :: tpB g2 none 0 0 none 0 0 :: (cH ++ hH)) ((cH ++ hH) ++ [tpB g12 cA cs.length cC hA hs.length hC, tpB g2 none 0 0 none 0 0]) from (B1 fun p => by simp only [List.countP_append, List.countP_cons, List.countP_nil]; omega)) 10 [] mixed (by decide) (by decide) (by decide) rfl rfl rfl ?_; refine k8 (fun w1 => a6 ⟨_, 0, none⟩ rfl rfl i9 rfl (q_z rfl)) (k8 (fun w1 => a7 (v := .slice cA cs.length cC) rfl b3 rfl (d8 mB rfl) (q_z rfl)) (r7 rfl (r7 rfl (k8 (fun w1 => m7 (α := Rl) l k rfl p9 i7 rfl rfl rfl mB rfl hk1 (by decide) (q_z rfl)) (k8 (fun w1 => a6 _ rfl rfl L5 rfl (q_z rfl)) (k8 (fun w1 => a7 (v := str (l.getD k default).2.1) rfl a9 rfl (b8 mB (rows_get hk1 rfl)) (q_z rfl)) (r7 rfl (k8 (fun w1 => u0 _ rfl rfl (fun _ => M5 ..) (q_z rfl)) ?_)))))))); refine V9 ⟨Nat, fun _ => True, fun g => .slice (d9 g) 1 1, fun g => [Row (d9 g) (rows [(((l.getD k default).2.1, (findP (selR true l) (l.getD k default).2.2.1)) : Cl)])]⟩ rfl rfl rfl ?_ ?_
    ·intro w1; refine n7 _ rfl rfl (fun _ => aV ..) fun gS => b5 (R8 (rows [(((l.getD k default).2.1, (findP (selR true l) (l.getD k default).2.2.1)) : Cl)]) (List.prefix_refl _) ?_); exact K5 gS tK rfl ⟨m0, tK⟩
    refine v7 ⟨rfl, ?_⟩; intro gS _; refine E3 (hp' := tpB g12 cA cs.length cC hA hs.length hC :: tpB g2 none 0 0 none 0 0 :: hH) (cs.length + 1) (rows (cs ++ [(((l.getD k default).2.1, (findP (selR true l) (l.getD k default).2.2.1)) : Cl)])) dQ rfl rfl rfl hGc (show List.Perm ((cH ++ hH) ++ [tpB g12 cA cs.length cC hA hs.length hC, tpB g2 none 0 0 none 0 0]) (cH ++ (tpB g12 cA cs.length cC hA hs.length hC :: tpB g2 none 0 0 none 0 0 :: hH)) from (B1 fun p => by simp only [List.countP_append, List.countP_cons, List.countP_nil]; omega)) (Src.row (news := rows [(((l.getD k default).2.1, (findP (selR true l) (l.getD k default).2.2.1)) : Cl)]) (m := 1) m0 rfl (E8 _) (by decide)) rfl (A1 _ _).symm (by unfold maxLen; omega) (by omega) fun A' c' og' hG' => ?_; refine a6 ⟨_, 0, none⟩ rfl rfl i9 rfl ?_; refine C8 (hp' := og' ++ (tpB g2 none 0 0 none 0 0 :: hH)) rfl rfl (show List.Perm (og' ++ (tpB g12 cA cs.length cC hA hs.length hC :: tpB g2 none 0 0 none 0 0 :: hH)) (tpB g12 cA cs.length cC hA hs.length hC :: (og' ++ (tpB g2 none 0 0 none 0 0 :: hH))) from (B1 fun p => by simp only [List.countP_append, List.countP_cons, List.countP_nil]; omega)) dO (by rfl) (by rfl) ?_; refine b5 (w6 (i1 (c9 (b6 rfl ?_)))); refine t5 _ rfl rfl rfl rfl q6 ?_; refine c5 rfl (b5 ?_); have hxy : (cs ++ [(((l.getD k default).2.1, (findP (selR true l) (l.getD k default).2.2.1)) : Cl)]).length = cs.length + 1 := by simp
    rw [← hxy] at hG'; refine Q5 (hp' := tpB g12 A' (cs ++ [(((l.getD k default).2.1, (findP (selR true l) (l.getD k default).2.2.1)) : Cl)]).length c' hA hs.length hC :: tpB g2 none 0 0 none 0 0 :: (og' ++ hH)) (show List.Perm (tpB g12 A' (cs.length + 1) c' hA hs.length hC :: (og' ++ (tpB g2 none 0 0 none 0 0 :: hH))) _ from by rw [hxy]; exact (B1 fun p => by simp only [List.countP_append, List.countP_cons, List.countP_nil]; omega)) ?_; exact again _ (k + 1, cs ++ [(((l.getD k default).2.1, (findP (selR true l) (l.getD k default).2.2.1)) : Cl)], (A', c'), og', hs, (hA, hC), hH) ⟨hbk, hG', hGh, O7 hcn hxn, hhn⟩ (y8 (by omega)) mC (.refl _) mC
   have hb11' := hb11; try simp at hb11'
   have hcl : (l.getD k default).1 = false := by simpa using hb11
   have hbk := bk_hea hb hk1 hgd hcl hal9; refine H3 ((cH ++ hH)) ([tpB g12 cA cs.length cC hA hs.length hC, tpB g2 none 0 0 none 0 0]) (show List.Perm (tpB g12 cA cs.length cC hA hs.length hC :: tpB g2 none 0 0 none 0 0 :: (cH ++ hH)) ((cH ++ hH) ++ [tpB g12 cA cs.length cC hA hs.length hC, tpB g2 none 0 0 none 0 0]) from (B1 fun p => by simp only [List.countP_append, List.countP_cons, List.countP_nil]; omega)) 12 [] mixed (by decide) (by decide) (by decide) rfl rfl rfl ?_; refine k8 (fun w1 => a6 ⟨_, 1, none⟩ rfl rfl i3 rfl (q_z rfl)) (k8 (fun w1 => a7 (v := .slice hA hs.length hC) rfl b2 rfl (d8 mB rfl) (q_z rfl)) (r7 rfl (r7 rfl (k8 (fun w1 => m7 (α := Rl) l k rfl p9 i7 rfl rfl rfl mB rfl hk1 (by decide) (q_z rfl)) (k8 (fun w1 => a6 _ rfl rfl L5 rfl (q_z rfl)) (k8 (fun w1 => a7 (v := str (l.getD k default).2.1) rfl a9 rfl (b8 mB (rows_get hk1 rfl)) (q_z rfl)) (r7 rfl (r7 rfl (r7 rfl (k8 (fun w1 => u0 _ rfl rfl (fun _ => dR ..) (q_z rfl)) ?_)))))))))); refine V9 ⟨Nat, fun _ => True, fun g => .slice (d9 g) 1 1, fun g => [Row (d9 g) (rows [(((l.getD k default).2.1, (findP (selR true l) (l.getD k default).2.2.2.1), (findP (selR false l) (l.getD k default).2.2.2.2.1), ⟨aA, aC, al⟩) : Hd)])]⟩ rfl rfl rfl ?_ ?_
   ·intro w1; refine n7 _ rfl rfl (fun _ => W3 ..) fun gS => b5 (R8 (rows [(((l.getD k default).2.1, (findP (selR true l) (l.getD k default).2.2.2.1), (findP (selR false l) (l.getD k default).2.2.2.2.1), ⟨aA, aC, al⟩) : Hd)]) (List.prefix_refl _) ?_); exact K5 gS tK rfl ⟨m0, tK⟩
   refine v7 ⟨rfl, ?_⟩; intro gS _; refine E3 (hp' := tpB g12 cA cs.length cC hA hs.length hC :: tpB g2 none 0 0 none 0 0 :: cH) (hs.length + 1) (rows (hs ++ [(((l.getD k default).2.1, (findP (selR true l) (l.getD k default).2.2.2.1), (findP (selR false l) (l.getD k default).2.2.2.2.1), ⟨aA, aC, al⟩) : Hd)])) Q8 rfl rfl rfl hGh (show List.Perm ((cH ++ hH) ++ [tpB g12 cA cs.length cC hA hs.length hC, tpB g2 none 0 0 none 0 0]) (hH ++ (tpB g12 cA cs.length cC hA hs.length hC :: tpB g2 none 0 0 none 0 0 :: cH)) from (B1 fun p => by simp only [List.countP_append, List.countP_cons, List.countP_nil]; omega)) (Src.row (news := rows [(((l.getD k default).2.1, (findP (selR true l) (l.getD k default).2.2.2.1), (findP (selR false l) (l.getD k default).2.2.2.2.1), ⟨aA, aC, al⟩) : Hd)]) (m := 1) m0 rfl (E8 _) (by decide)) rfl (A1 _ _).symm (by unfold maxLen; omega) (by omega) fun A' c' og' hG' => ?_; refine a6 ⟨_, 1, none⟩ rfl rfl i3 rfl ?_; refine C8 (hp' := og' ++ (tpB g2 none 0 0 none 0 0 :: cH)) rfl rfl (show List.Perm (og' ++ (tpB g12 cA cs.length cC hA hs.length hC :: tpB g2 none 0 0 none 0 0 :: cH)) (tpB g12 cA cs.length cC hA hs.length hC :: (og' ++ (tpB g2 none 0 0 none 0 0 :: cH))) from (B1 fun p => by simp only [List.countP_append, List.countP_cons, List.countP_nil]; omega)) V0 (by rfl) (by rfl) ?_; refine jN (V8 (ps := hs) (f := Hd.row) (p := (((l.getD k default).2.1, (findP (selR true l) (l.getD k default).2.2.2.1), (findP (selR false l) (l.getD k default).2.2.2.2.1), ⟨aA, aC, al⟩) : Hd)) mB mB) ?_; refine b5 (w6 (i1 (c9 (b6 rfl ?_)))); refine t5 _ rfl rfl rfl rfl q6 ?_; refine c5 rfl (b5 ?_); have hxy : (hs ++ [(((l.getD k default).2.1, (findP (selR true l) (l.getD k default).2.2.2.1), (findP (selR false l) (l.getD k default).2.2.2.2.1), ⟨aA, aC, al⟩) : Hd)]).length = hs.length + 1 := by simp
   rw [← hxy] at hG'; refine Q5 (hp' := tpB g12 cA cs.length cC A' (hs ++ [(((l.getD k default).2.1, (findP (selR true l) (l.getD k default).2.2.2.1), (findP (selR false l) (l.getD k default).2.2.2.2.1), ⟨aA, aC, al⟩) : Hd)]).length c' :: tpB g2 none 0 0 none 0 0 :: (cH ++ og')) (show List.Perm (tpB g12 cA cs.length cC A' (hs.length + 1) c' :: (og' ++ (tpB g2 none 0 0 none 0 0 :: cH))) _ from by rw [hxy]; exact (B1 fun p => by simp only [List.countP_append, List.countP_cons, List.countP_nil]; omega)) ?_; exact again _ (k + 1, cs, (cA, cC), cH, hs ++ [(((l.getD k default).2.1, (findP (selR true l) (l.getD k default).2.2.2.1), (findP (selR false l) (l.getD k default).2.2.2.2.1), ⟨aA, aC, al⟩) : Hd)], (A', c'), og') ⟨by show BkI l n (k + 1) cs ((hs ++ [(((l.getD k default).2.1, (findP (selR true l) (l.getD k default).2.2.2.1), (findP (selR false l) (l.getD k default).2.2.2.2.1), ⟨aA, aC, al⟩) : Hd)]).map Hd.p); rw [List.map_append]; exact hbk, hGc, hG', hcn, O7 hhn ⟨hxn, by show al.length ≤ 1000; omega⟩⟩ (y8 (by omega)) mC (.refl _) mC
  have hb7' := hb7; try simp at hb7'
  have hk1 : k = l.length := by omega
  subst hk1; refine t7 (C7 (t8 (i1 (Y7 ?_)))); have hR9 := bk_end hb; have hRc := rt_chk h9 hL (hR.trans hR8) hR9; rw [hRT] at hRc; have hGcl := hGc.le; have hGhl := hGh.le; refine Y6 (hp' := cH ++ (hH ++ [tpB g12 cA cs.length cC hA hs.length hC, tpB g2 none 0 0 none 0 0])) (show List.Perm (tpB g12 cA cs.length cC hA hs.length hC :: tpB g2 none 0 0 none 0 0 :: (cH ++ hH)) (cH ++ (hH ++ [tpB g12 cA cs.length cC hA hs.length hC, tpB g2 none 0 0 none 0 0])) from (B1 fun p => by simp only [List.countP_append, List.countP_cons, List.countP_nil]; omega)) ?_; refine Z7 hGc (Z7 hGh ?_); refine dq0 (A := hA) (ps := hs) (f := Hd.row) mB mB (c9 (G3 rfl i6 c7 rfl m0 (by rfl) ?_)); refine j4 nN rfl rfl (nD (A := cA) (B := hA) (ca := cC) (cb := hC) cs hs (by omega) (by omega) hcn (fun h q => (hhn h q).1) (fun h q => Nat.le_trans (hhn h q).2 (by decide))) (hpR := [_, _]) (.refl _) mC fun _ _ => ?_; refine c5 rfl (t6 (b6 rfl (M8 rfl rfl rfl (c8 ?_)))); refine k9 rfl (fun hb12 => ?_) (fun hb12 => ?_)
  ·have hb12' := hb12; try simp at hb12'
   have h0 : ¬ checkT (trOf cs hs) = 0 := hb12; rw [if_neg (show ¬ checkT ⟨cs, hs.map Hd.p⟩ = 0 from h0)] at hRc; refine i4 (u0 _ rfl rfl (fun _ => A6 ..) (b6 rfl (l6 (cs := #[.slice none 0 0, .slice none 0 0]) rfl rfl (.swap _ _ _) c7 (by rfl) (by rfl) ?_))); refine c5 rfl (c5 rfl (c8 (E9 ?_))); subst hRc; refine n5 (α := Cl) (n5 (α := Hd) ?_); refine G1 (Fs := ([] : List Hd).map Hd.row) (by intro F hF; simp at hF) ?_; refine J7 (A := none) (ps := ([] : List Hd)) (f := Hd.row) mB mB ?_; exact A9 (([], (none, 0), [], (none, 0)) : TRs) (fun a w9 ha hw9 => D0 (cs := #[.slice none 0 0, .slice none 0 0]) (v1 := int ((0 : Nat))) (v2 := int (checkT (trOf cs hs))) rfl rfl rfl rfl i6 c7 rfl m0 a w9 ha.at_ hw9) rfl U7 nK mC
  have hb12' := hb12; try simp at hb12'
  have h0 : checkT (trOf cs hs) = 0 := Classical.not_not.1 hb12; rw [if_pos (show checkT ⟨cs, hs.map Hd.p⟩ = 0 from h0)] at hRc; refine i8 (i1 (i4 ?_)); refine G3 rfl i6 c7 rfl m0 (by rfl) (l6 (cs := #[.slice cA cs.length cC, .slice hA hs.length hC]) rfl rfl (.swap _ _ _) c7 (by rfl) (by rfl) ?_); refine c5 rfl (c5 rfl (c8 (l4 ?_))); subst hRc; exact A9 ((cs, (cA, cC), hs, (hA, hC)) : TRs) (fun a w9 ha hw9 => D0 (cs := #[.slice cA cs.length cC, .slice hA hs.length hC]) (v1 := int (0 : Nat)) (v2 := int 0) rfl rfl rfl rfl i6 c7 rfl m0 a w9 ha.at_ hw9) rfl ⟨rfl, rfl, by show cs.length ≤ 1000; omega, by show hs.length ≤ 1000; omega, fun h q => (hhn h q).2, hGcl, hGhl⟩ nK mC
 intro hg4; have hg4' := hg4; try simp at hg4'
 obtain rfl : e = false := by simpa using hg4
 refine l8 hg4 (l8 hg4 (l8 hg4 (l8 hg4 (l8 hg4 ?_)))); refine p_t rfl rfl (bt2 hg4) rfl ?_; refine c8 (c_t rfl rfl ?_); have hR8 := ls_open hz hi; refine i4 (u0 _ rfl rfl (fun _ => A6 ..) (b6 rfl (t5 ((L.length : Nat) : Int) rfl rfl rfl (by omega) q6 (l6 (cs := #[.slice none 0 0, .slice none 0 0]) rfl rfl (.refl _) c7 (by rfl) (by rfl) ?_)))); refine c5 rfl (c5 rfl (c8 (E9 ?_))); have hR9 : R = (none, L.length) := hR8; have hR0 : (([], []), (L.length), (2)) = RT := by rw [← hRT]; exact (cz5 h9 hL (hR.trans hR9)).symm
 subst hR0; refine n5 (α := Cl) (n5 (α := Hd) ?_); refine G1 (Fs := ([] : List Hd).map Hd.row) (by intro F hF; simp at hF) ?_; refine J7 (A := none) (ps := ([] : List Hd)) (f := Hd.row) mB mB ?_; exact A9 (([], (none, 0), [], (none, 0)) : TRs) (fun a w9 ha hw9 => D0 (cs := #[.slice none 0 0, .slice none 0 0]) (v1 := int ((L.length) : Nat)) (v2 := int (2)) rfl rfl rfl rfl i6 c7 rfl m0 a w9 ha.at_ hw9) rfl U7 nK mC
section
variable {c : Cx} {Q : Exit → Act → World → Prop} {fr : Fr} {hp : Hp} {L : List Fact} {ops : Array Oper} {rest : List Oper} {d : Tmp} {ty : TypeId} {pos : String} {af : Array Edge}
theorem wQ {s t e : TypeId} {x : Operand} {l : Str} {p : Addr} {cap : Nat} (hd : Nat.blt d c.n = true) (hs : c.P.underlying s = some (.slice e)) (he : c.P.underlying e = some (.int .u8)) (ht : c.P.underlying t = some .string) (hx : ev fr x = some (.slice (some p) l.length cap)) (hc : Cells c.b hp L p (rows l))
    (k : HL c ops Q rest ((d, str l) :: fr) hp L) : HL c ops Q (⟨some d, .convert s t x, ty, pos, af, none⟩ :: rest) fr hp L :=
  E0 _ rfl rfl hd (fun a w ha hw => by
    have h1 := run_convert_bytes_back (P := c.P) w s t e p cap l hs he ht (fun j hj => hc w hw j _ (by rw [jz2, List.getElem?_map, List.getElem?_eq_getElem hj]; rfl)); simp only [execOp, ha.ev hx, Sem.run_bind, h1, Result.andThen_ok, Sem.run_pure]
    rfl) k
end
theorem dx3 {b : Bx} {hp : Hp} {L : List Fact} {g : Nat} {l : Str} (h : Row (d9 g) (rows l) ∈ L) : Cells b hp L ⟨g, 0, none⟩ (rows l) := by
  have := v9 (b := b) (hp := hp) (j := 0) (us := rows l) h (fun i u hu => by rw [Nat.zero_add]; exact hu); exact this
theorem kq8 {b : Bx} {hp : Hp} {L : List Fact} {g : Nat} {l : Str} {t : TypeId} {fz : Nat × Nat} (h : (g, Obj.cells (rows l).toArray t fz) ∈ hp) : Cells b hp L ⟨g, 0, none⟩ (rows l) :=
  vE h (fun i u hu => by rw [Nat.zero_add]; simpa using hu)
theorem tmod_bd (n m : Int) (hm : 0 < m) : -m < n.tmod m ∧ n.tmod m < m := ⟨Int.lt_tmod_of_pos n hm, Int.tmod_lt_of_pos n hm⟩
theorem wF (n m : Int) (hm : 0 < m ∧ m ≤ 1000000) : Meets prog xO [int n, int m] { val := fun z : Int => int z, inv := fun z => 0 ≤ z ∧ z < m } := by
 refine j3 hz8 rfl v8 fun w0 => ?_; refine i4 (c5 rfl (t6 (b6 rfl (b6 rfl ?_)))); refine nq5 rfl rfl rfl (by omega) ?_; have hbd := tmod_bd n m hm.1; refine c5 rfl (c8 (d6 (i4 (b6 rfl (B5 rfl rfl rfl (c8 ?_)))))); refine k9 rfl (fun hb1 => ?_) (fun hb1 => ?_)
 ·have hb1' := hb1; try simp at hb1'
  refine c9 (b6 rfl (b6 rfl ?_)); refine t5 _ rfl rfl rfl rfl q6 ?_; refine c5 rfl (t6 (b6 rfl (c5 rfl (c8 (l4 ?_))))); exact ret1 (n.tmod m + m) rfl rfl rfl ⟨by omega, by omega⟩ nK tK
 have hb1' := hb1; try simp at hb1'
 refine i8 (i1 (i4 (b6 rfl (c5 rfl (c8 (l4 ?_)))))); exact ret1 (n.tmod m) rfl rfl rfl ⟨by omega, by omega⟩ nK tK
set_option maxHeartbeats 1000000 in
theorem zE (s : Str) (a h : Int) (b : UInt8) (hs : s.length ≤ 100000) : Meets prog mL [str s, int a, int h, .int .u8 b.toNat] { val := fun z : Str => str z, inv := fun z => z.length ≤ s.length + 1 } := by
 refine j3 bq4 rfl v8 fun w0 => ?_; refine i4 (c5 rfl (c8 (d6 (i4 (b6 rfl ?_))))); refine G5 rfl q8 rfl ?_; refine J0 rfl rfl rfl (c8 ?_); refine k9 rfl (fun hb1 => ?_) (fun hb1 => ?_)
 ·have hb1' := hb1; try simp at hb1'
  refine i4 (b6 rfl ?_); refine n7 _ rfl rfl (fun _ => jR ..) fun gS => wQ (l := [b]) rfl kO yL q8 rfl (kq8 (l := [b]) m0) ?_; refine c5 rfl (c8 (E9 ?_)); exact ret1 [b] rfl rfl rfl (by simp) nK tK
 have hb1' := hb1; try simp at hb1'
 refine i8 (i1 (i4 (b6 rfl (b6 rfl ?_)))); refine G5 rfl q8 rfl (j4 wG rfl rfl (wF a s.length ⟨by omega, by omega⟩) t4 tK fun zi hzi => ?_); obtain ⟨i, rfl⟩ : ∃ i : Nat, zi = i := ⟨zi.toNat, by have := hzi.1; omega⟩; have hi : i < s.length := by have := hzi.2; omega
 refine c5 rfl (c8 (d6 (i4 (b6 rfl ?_)))); refine j4 wG rfl rfl (wF h 3 (by omega)) t4 tK fun zh _ => ?_; refine c8 (j5 (i4 (J0 rfl rfl rfl (c5 rfl (c8 ?_))))); refine k9 rfl (fun hb2 => ?_) (fun hb2 => ?_)
 ·have hb2' := hb2; try simp at hb2'
  refine d6 (C0 11 mixed (by decide) (by decide) rfl rfl (r7 rfl (r7 rfl (k8 (fun w1 => Z3 (s := s) i rfl q8 rfl rfl rfl (by omega) (q_z rfl)) (r7 rfl ?_))))); refine V9 ⟨Nat, fun _ => True, fun g1 => .slice (d9 g1) 1 1, fun g1 => [Row (d9 g1) (rows [b])]⟩ rfl rfl rfl ?_ ?_
  ·intro w1; refine n7 _ rfl rfl (fun _ => jR ..) fun gS => b5 (R8 (rows [b]) (List.prefix_refl _) ?_); exact K5 gS tK rfl ⟨m0, tK⟩
  apply k7 _ rfl rfl rfl
  ·intro g1 _; intro w1; refine wQ (l := [b]) (cap := 1) rfl kO yL q8 rfl (dx3 (by first | exact m0 | simp)) ?_; refine b5 ?_; exact i5 rfl
  refine k8 (fun w1 => P8 (x' := (s.take i)) (y' := [b]) rfl rfl rfl (by simp only [List.length_append, List.length_cons, List.length_nil, List.length_take, List.length_drop]; omega) (q_z rfl)) ?_; refine r7 rfl (r7 rfl (k8 (fun w1 => t5 _ rfl rfl rfl rfl q6 (q_z rfl)) (k8 (fun w1 => jL (s := s) (i + 1) rfl q8 rfl rfl rfl (by omega) (q_z rfl)) ?_))); refine v7 ⟨rfl, ?_⟩; intro g1 _; refine P8 (x' := (s.take i) ++ [b]) (y' := s.drop (i + 1)) rfl rfl rfl (by simp only [List.length_append, List.length_cons, List.length_nil, List.length_take, List.length_drop]; omega) ?_; refine c5 rfl (c8 (l4 (B7 ?_))); exact ret1 (((s.take i) ++ [b]) ++ s.drop (i + 1)) rfl rfl rfl (by show (((s.take i) ++ [b]) ++ s.drop (i + 1)).length ≤ s.length + 1; simp only [List.length_append, List.length_cons, List.length_nil, List.length_take, List.length_drop]; omega) nK tK
 have hb2' := hb2; try simp at hb2'
 refine i4 (J0 rfl rfl rfl (c5 rfl (c8 ?_))); refine k9 rfl (fun hb3 => ?_) (fun hb3 => ?_)
 ·have hb3' := hb3; try simp at hb3'
  refine d6 (C0 7 mixed (by decide) (by decide) rfl rfl (r7 rfl (r7 rfl (k8 (fun w1 => Z3 (s := s) i rfl q8 rfl rfl rfl (by omega) (q_z rfl)) (r7 rfl (r7 rfl (k8 (fun w1 => t5 _ rfl rfl rfl rfl q6 (q_z rfl)) (k8 (fun w1 => jL (s := s) (i + 1) rfl q8 rfl rfl rfl (by omega) (q_z rfl)) ?_)))))))); refine v7 ⟨rfl, ?_⟩; refine P8 (x' := (s.take i)) (y' := s.drop (i + 1)) rfl rfl rfl (by simp only [List.length_append, List.length_cons, List.length_nil, List.length_take, List.length_drop]; omega) ?_; refine c5 rfl (c8 (l4 (B7 ?_))); exact ret1 ((s.take i) ++ s.drop (i + 1)) rfl rfl rfl (by show ((s.take i) ++ s.drop (i + 1)).length ≤ s.length + 1; simp only [List.length_append, List.length_cons, List.length_nil, List.length_take, List.length_drop]; omega) nK tK
 have hb3' := hb3; try simp at hb3'
 refine i8 (w6 (i1 (d6 ?_))); refine C0 10 mixed (by decide) (by decide) rfl rfl (r7 rfl (r7 rfl (k8 (fun w1 => Z3 (s := s) i rfl q8 rfl rfl rfl (by omega) (q_z rfl)) (r7 rfl ?_)))); refine V9 ⟨Nat, fun _ => True, fun g1 => .slice (d9 g1) 1 1, fun g1 => [Row (d9 g1) (rows [b])]⟩ rfl rfl rfl ?_ ?_
 ·intro w1; refine n7 _ rfl rfl (fun _ => jR ..) fun gS => b5 (R8 (rows [b]) (List.prefix_refl _) ?_); exact K5 gS tK rfl ⟨m0, tK⟩
 apply k7 _ rfl rfl rfl
 ·intro g1 _; intro w1; refine wQ (l := [b]) (cap := 1) rfl kO yL q8 rfl (dx3 (by first | exact m0 | simp)) ?_; refine b5 ?_; exact i5 rfl
 refine k8 (fun w1 => P8 (x' := (s.take i)) (y' := [b]) rfl rfl rfl (by simp only [List.length_append, List.length_cons, List.length_nil, List.length_take, List.length_drop]; omega) (q_z rfl)) ?_; refine r7 rfl (r7 rfl (k8 (fun w1 => jL (s := s) i rfl q8 rfl rfl rfl (by omega) (q_z rfl)) ?_)); refine v7 ⟨rfl, ?_⟩; intro g1 _; refine P8 (x' := (s.take i) ++ [b]) (y' := s.drop i) rfl rfl rfl (by simp only [List.length_append, List.length_cons, List.length_nil, List.length_take, List.length_drop]; omega) ?_; refine c5 rfl (c8 (l4 ?_)); exact ret1 (((s.take i) ++ [b]) ++ s.drop i) rfl rfl rfl (by show (((s.take i) ++ [b]) ++ s.drop i).length ≤ s.length + 1; simp only [List.length_append, List.length_cons, List.length_nil, List.length_take, List.length_drop]; omega) nK tK
end Go.Proofs.YtdgmfagfpbdbhaaGreatDoor
end
