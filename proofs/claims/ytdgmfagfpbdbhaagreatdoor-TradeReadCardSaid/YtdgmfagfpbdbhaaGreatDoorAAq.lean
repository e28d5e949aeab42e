/- Texts. -/
import Derived.ProofKit
import Derived.OpenShut
import Derived.ShutString
import Derived.ChangeOld
import Derived.Below
import Derived.SliceStrings
import Derived.ChangeSlices
import Derived.Deep.Slices
import Derived.Test.YtdgmfagfpbdbhaaGreatDoorAAp
import Derived.Test.YtdgmfagfpbdbhaaGreatDoorAAl
import Derived.Test.YtdgmfagfpbdbhaaGreatDoorAAe
set_option linter.unusedVariables false
set_option linter.unusedSimpArgs false
section
namespace Go.Proofs.YtdgmfagfpbdbhaaGreatDoor
open Go Go.W Tryz T F
set_option maxRecDepth 20000
attribute [local irreducible] HL HC HQ HB Row Rows2 Blk Facts
theorem rL {w : Str} (h : wordB w = true) : ¬ w = [] := (R3 h).2.1
theorem par_c {w : List Str} {y : PL} (h : parseT w = some (false, y)) : w = wClass :: y.1 :: (if y.2.1 = [] then [] else [kIn, y.2.1]) ∧ y.2.2 = ([], []) ∧ wordB y.1 = true := by
  unfold parseT at h
  split at h
  · cases h
  rename_i h2
  split at h
  · rename_i h0
    split at h
    · cases h
    rename_i hw
    have hw1 : wordB (at_ w 1) = true := by cases q : wordB (at_ w 1) with
      | true => rfl
      | false => exact absurd q hw
    split at h
    · rename_i h4
      split at h
      · rename_i h5
        cases h
        refine ⟨?_, rfl, hw1⟩; obtain ⟨h4, h6⟩ := h4
        match w, h4, h0, h6, h5 with
        | [a, b, c, d], _, h0, h6, h5 =>
          have e0 : a = wClass := h0; have e2 : c = kIn := h6; have e3 : ¬ d = [] := rL h5; show [a, b, c, d] = wClass :: b :: (if d = [] then [] else [kIn, d]); rw [if_neg e3, e0, e2]
      cases h
    split at h
    · rename_i h3
      cases h
      refine ⟨?_, rfl, hw1⟩
      match w, h3, h0 with
      | [a, b], _, h0 =>
        have e0 : a = wClass := h0; show [a, b] = [wClass, b]; rw [e0]
    cases h
  split at h
  · cases h
  split at h
  · split at h
    · cases h
    split at h
    · cases h
    split at h <;> cases h
  split at h
  · split at h <;> cases h
  split at h
  · split at h <;> cases h
  cases h
def hlW (y : PL) : List Str := y.1 :: ((if y.2.2.1 = [] then [] else [kSee, y.2.2.1]) ++ ((if y.2.1 = [] then [] else [kIs, y.2.1]) ++ (if y.2.2.2 = [] then [] else kAlso :: y.2.2.2)))
theorem par_h {w : List Str} {y : PL} (h : parseT w = some (true, y)) : w = hlW y ∧ wordB y.1 = true := by
  unfold parseT at h
  split at h
  · cases h
  rename_i h2
  split at h
  · split at h
    · cases h
    split at h
    · split at h <;> cases h
    split at h <;> cases h
  split at h
  · cases h
  rename_i hw
  have hw1 : wordB (at_ w 0) = true := by cases q : wordB (at_ w 0) with
    | true => rfl
    | false => exact absurd q hw
  split at h
  · rename_i h1
    split at h
    · cases h
    rename_i h3
    have hw2 : wordB (at_ w 2) = true := by cases q : wordB (at_ w 2) with
      | true => rfl
      | false => exact absurd (.inr q) h3
    split at h
    · rename_i h4
      cases h
      refine ⟨?_, hw1⟩
      match w, h4, h1, hw2 with
      | [a, b, c], _, h1, hw2 =>
        have e1 : b = kIs := h1; have e2 : ¬ c = [] := rL hw2; show [a, b, c] = a :: ((if ([] : Str) = [] then [] else [kSee, []]) ++ ((if c = [] then [] else [kIs, c]) ++ (if ([] : List Str) = [] then [] else kAlso :: []))); rw [if_pos rfl, if_neg e2, if_pos rfl, e1]; rfl
    split at h
    · rename_i h4 h5
      cases h
      refine ⟨?_, hw1⟩; obtain ⟨h5, h6⟩ := h5
      have h7 : 0 < (w.drop 4).length := by
        unfold wordsB at h6; rw [Bool.and_eq_true, decide_eq_true_eq] at h6; exact h6.2
      match w, h7, h1, hw2, h5 with
      | a :: b :: c :: d :: r, h7, h1, hw2, h5 =>
        have e1 : b = kIs := h1; have e3 : d = kAlso := h5; have e2 : ¬ c = [] := rL hw2; have e4 : ¬ r = [] := List.length_pos_iff.1 h7; show a :: b :: c :: d :: r = a :: ((if ([] : Str) = [] then [] else [kSee, []]) ++ ((if c = [] then [] else [kIs, c]) ++ (if r = [] then [] else kAlso :: r))); rw [if_pos rfl, if_neg e2, if_neg e4, e1, e3]; rfl
    cases h
  split at h
  · rename_i h1
    split at h
    · rename_i h6
      cases h
      refine ⟨?_, hw1⟩
      have h7 : 0 < (w.drop 2).length := by
        unfold wordsB at h6; rw [Bool.and_eq_true, decide_eq_true_eq] at h6; exact h6.2
      match w, h7, h1 with
      | a :: b :: r, h7, h1 =>
        have e1 : b = kAlso := h1; have e4 : ¬ r = [] := List.length_pos_iff.1 h7; show a :: b :: r = a :: ((if ([] : Str) = [] then [] else [kSee, []]) ++ ((if ([] : Str) = [] then [] else [kIs, []]) ++ (if r = [] then [] else kAlso :: r))); rw [if_pos rfl, if_pos rfl, if_neg e4, e1]; rfl
    cases h
  split at h
  · rename_i h1
    split at h
    · rename_i h6
      cases h
      refine ⟨?_, hw1⟩; obtain ⟨h6, h7⟩ := h6
      match w, h6, h1, h7 with
      | [a, b, c], _, h1, h7 =>
        have e1 : b = kSee := h1; have e2 : ¬ c = [] := rL h7; show [a, b, c] = a :: ((if c = [] then [] else [kSee, c]) ++ ((if ([] : Str) = [] then [] else [kIs, []]) ++ (if ([] : List Str) = [] then [] else kAlso :: []))); rw [if_pos rfl, if_neg e2, if_pos rfl, e1]; rfl
    cases h
  cases h
theorem gz3 : ∀ (L : List Str) {i : Nat} {cl hd C H : List PL} {r : Nat}, rdF i L cl hd = (some (C, H), r) → ∃ l1 l2 : List (Str × PL), L = l1.map (·.1) ++ (l2.map (·.1) ++ [wFinis, []]) ∧ C = cl ++ l1.map (·.2) ∧ H = hd ++ l2.map (·.2) ∧ (∀ q ∈ l1, parseT (splitB 32 q.1) = some (false, q.2)) ∧ (∀ q ∈ l2, parseT (splitB 32 q.1) = some (true, q.2)) ∧ (hd ≠ [] → l1 = [])
  | [], i, cl, hd, C, H, r, h => by rw [rdF] at h; cases h
  | s :: L, i, cl, hd, C, H, r, h => by
    rw [rdF] at h
    split at h
    · cases h
    split at h
    · rename_i hs
      split at h
      · rename_i hr
        cases h
        exact ⟨[], [], by rw [hs, hr]; rfl, by simp, by simp, fun q hq => (by cases hq), fun q hq => (by cases hq), fun _ => rfl⟩
      cases h
    split at h
    · cases h
    · rename_i y hp
      split at h
      · rename_i hh
        obtain ⟨l1, l2, h1, h2, h3, h4, h5, h6⟩ := gz3 L h; refine ⟨(s, y) :: l1, l2, by rw [h1]; rfl, by rw [h2]; simp, h3, fun q hq => ?_, h5, fun e => absurd hh e⟩
        rcases List.mem_cons.1 hq with e | hq
        · rw [e]; exact hp
        exact h4 q hq
      cases h
    rename_i y hp
    obtain ⟨l1, l2, h1, h2, h3, h4, h5, h6⟩ := gz3 L h; obtain rfl := h6 (by simp); refine ⟨[], (s, y) :: l2, by rw [h1]; rfl, h2, by rw [h3]; simp, fun q hq => (by cases hq), fun q hq => ?_, fun _ => rfl⟩
    rcases List.mem_cons.1 hq with e | hq
    · rw [e]; exact hp
    exact h5 q hq
theorem gq8 {x : Str} {cs : List Cl} {hs : List Hd} (h0 : (readT x).2.2 = 0) (h1 : cs = (readT x).1.1) (h2 : hs.map Hd.p = (readT x).1.2) : wrT cs hs = x ∧ checkT (trOf cs hs) = 0 := by
  by_cases hx : 900 < x.length
  · rw [readT, if_pos hx] at h0; exact absurd h0 (by decide)
  rw [zU hx] at h0 h1 h2
  rcases hq : prT x with ⟨⟨cs0, hs0⟩, _ | ⟨p, e⟩⟩
  · rw [hq] at h0 h1 h2
    simp only at h0 h1 h2
    have hck : checkT ⟨cs0, hs0⟩ = 0 := by
      by_cases hc : checkT ⟨cs0, hs0⟩ = 0
      · exact hc
      rw [if_neg hc] at h0; exact absurd h0 hc
    rw [if_pos hck] at h1 h2; simp only at h1 h2; subst h1; subst h2; refine ⟨?_, hck⟩
    -- what the lines came to
    rcases hr : rdF 0 (splitB 10 x) [] [] with ⟨_ | ⟨C, H⟩, r⟩
    · rw [pr_no hr] at hq; exact absurd (congrArg Prod.snd hq) (by simp)
    rcases hb : trbT C H with ⟨_ | t, q⟩
    · rw [kx8 hr hb] at hq; exact absurd (congrArg Prod.snd hq) (by simp)
    rw [kx6 hr hb] at hq; obtain rfl : t = (cs, hs.map Hd.p) := congrArg Prod.fst hq; unfold trbT at hb
    rcases hb1 : trbC C C 0 [] with ⟨_ | c1, p1⟩
    · rw [hb1] at hb; exact absurd (congrArg Prod.fst hb) (by simp)
    rw [hb1] at hb; simp only at hb
    rcases hb2 : trbH C H H 0 [] with ⟨_ | h1, p2⟩
    · rw [hb2] at hb; exact absurd (congrArg Prod.fst hb) (by simp)
    rw [hb2] at hb; simp only at hb; have e1 : c1 = cs := by injection hb with hb _; injection hb with hb; injection hb
    have e2 : h1 = hs.map Hd.p := by injection hb with hb _; injection hb with hb; injection hb
    subst e1; obtain ⟨ok1, ec⟩ := kj7 C hb1; obtain ⟨ok2, eh⟩ := kj6 H hb2; rw [List.nil_append] at ec eh; rw [e2] at eh; obtain ⟨l1, l2, hL, hC, hH, p1, p2, _⟩ := gz3 _ hr; rw [List.nil_append] at hC hH
    have hCn : ∀ y ∈ C, wordB y.1 = true := fun y hy => by
      rw [hC] at hy; obtain ⟨q, hq, rfl⟩ := List.mem_map.1 hy; exact (par_c (p1 q hq)).2.2
    have hHn : ∀ y ∈ H, wordB y.1 = true := fun y hy => by
      rw [hH] at hy; obtain ⟨q, hq, rfl⟩ := List.mem_map.1 hy; exact (par_h (p2 q hq)).2
    have hcn : ∀ n, 0 ≤ findP C n → cnT c1 (findP C n) = n := fun n h => by
      obtain ⟨k, hk, hf, hn⟩ := az3 h; have hf2 : findP C n = (k : Int) := by rw [findP, hf, Nat.zero_add]
      rw [hf2, cnT, Int.toNat_natCast, ec, dZ hk]; exact hn
    have hhn : ∀ n, 0 ≤ findP H n → hnT hs (findP H n) = n := fun n h => by
      obtain ⟨k, hk, hf, hn⟩ := az3 h; have hf2 : findP H n = (k : Int) := by rw [findP, hf, Nat.zero_add]
      have hl : k < hs.length := by
        have := congrArg List.length eh; rw [List.length_map, List.length_map] at this
        omega
      rw [hf2, hnT, Int.toNat_natCast]; have e3 : (hs.getD k default).1 = ((hs.map Hd.p).getD k default).1 := by rw [N4 hl]; rfl
      rw [e3, eh, dZ hk]; exact hn
    have hCz := sA (l := C) fun y hy => rL (hCn y hy); have hHz := sA (l := H) fun y hy => rL (hHn y hy)
    have one : ∀ (n key : Str) (l : List PL) (f : Int → Str), findP l [] = -1 → (0 ≤ findP l n → f (findP l n) = n) → ¬ (¬ n = [] ∧ findP l n < 0) → (if 0 ≤ findP l n then [key, f (findP l n)] else []) = if n = [] then [] else [key, n] := fun n key l f hz hf hb => by
      by_cases q : n = []
      · subst q
        rw [if_neg (by rw [hz]; decide), if_pos rfl]
      have : 0 ≤ findP l n := by
        rcases Int.lt_or_le (findP l n) 0 with h | h
        · exact absurd ⟨q, h⟩ hb
        exact h
      rw [if_pos this, if_neg q, hf this]
    rw [jz9, ← mW 10 x, hL]
    have g1 : c1.map (fun c => joinB 32 (cwT (cnT c1) c)) = l1.map (·.1) := by
      conv => lhs; rw [show c1.map (fun c => joinB 32 (cwT (cnT c1) c)) = (l1.map (·.2)).map fun y => joinB 32 (cwT (cnT c1) (y.1, findP C y.2.1)) from by
        conv => lhs; arg 2; rw [ec]
        rw [List.map_map, hC]; rfl]
      rw [List.map_map]; refine List.map_congr_left fun q hq => ?_; obtain ⟨w1, w2, w3⟩ := par_c (p1 q hq); have hm : q.2 ∈ C := by rw [hC]; exact List.mem_map.2 ⟨q, hq, rfl⟩
      show joinB 32 (cwT (cnT c1) (q.2.1, findP C q.2.2.1)) = q.1; unfold cwT; rw [one q.2.2.1 kIn C (cnT c1) hCz (hcn _) (ok1 _ hm), ← w1, mW]
    have g2 : hs.map (fun h => joinB 32 (hwT (cnT c1) (hnT hs) h.p)) = l2.map (·.1) := by
      rw [show hs.map (fun h => joinB 32 (hwT (cnT c1) (hnT hs) h.p)) = (hs.map Hd.p).map fun p => joinB 32 (hwT (cnT c1) (hnT hs) p) from by rw [List.map_map]; rfl]; generalize hg : hnT hs = g at *; rw [eh, hH, List.map_map, List.map_map, ← hH]; refine List.map_congr_left fun q hq => ?_; obtain ⟨w1, w3⟩ := par_h (p2 q hq); have hm : q.2 ∈ H := by rw [hH]; exact List.mem_map.2 ⟨q, hq, rfl⟩
      obtain ⟨ob, oa⟩ := ok2 _ hm
      have ha : ∀ l : List Str, (∀ a ∈ l, ¬ findP H a < 0) → (if l.map (findP H) = [] then [] else kAlso :: (l.map (findP H)).map g) = if l = [] then [] else kAlso :: l := fun l hl => by
        by_cases ql : l = []
        · rw [if_pos (by rw [ql]; rfl), if_pos ql]
        rw [if_neg (by simpa using ql), if_neg ql, List.map_map]
        congr 1
        exact (List.map_congr_left fun a ha => hhn a (by have := hl a ha; omega)).trans (List.map_id _)
      show joinB 32 (hwT (cnT c1) g (hdOf C H q.2)) = q.1; unfold hwT hdOf
      simp only
      rw [one q.2.2.2.1 kSee H g hHz (hhn _) (fun e => ob (.inr e)), one q.2.2.1 kIs C (cnT c1) hCz (hcn _) (fun e => ob (.inl e)), ha q.2.2.2.2 oa]; have : splitB 32 q.1 = hlW q.2 := w1; unfold hlW at this; rw [← this, mW]
    unfold trL; rw [g1, g2, ← dz1, List.append_assoc, List.append_assoc]
    rfl
  rw [hq] at h0; exact absurd h0 (kx7 (by rw [hq]))
section
variable {cs : List Cl} {hs : List Hd}
theorem mj3 (ho : TrOK (trOf cs hs)) {i : Nat} (hi : i < hs.length) : (hs.getD i default).2.2.2.l.length ≤ 6 ∧ ∀ x ∈ (hs.getD i default).2.2.2.l, 0 ≤ x ∧ x < (hs.length : Int) := by
  have h6h := ho.h6; rw [C9] at h6h; have e : (trOf cs hs).hs.getD i default = (hs.getD i default).p := N4 hi; have ha := (ho.h i (by rw [C9]; exact hi)).a; rw [e, C9] at ha; simp only [Hd.p] at ha; generalize (hs.getD i default).2.2.2.l = l at ha; have hg := az8 (l := l) fun k hk => ⟨(Z9 (ha k hk)).1, (Z9 (ha k hk)).2.2.2⟩; refine ⟨?_, fun x hx => ?_⟩
  · by_cases h0 : l.length = 0
    · omega
    have h1 := hg (l.length - 1) (by omega); have h2 := (Z9 (ha (l.length - 1) (by omega))).2.1
    omega
  obtain ⟨k, hk, rfl⟩ := List.getElem_of_mem hx; have := Z9 (ha k hk); rw [w7 hk] at this
  omega
theorem kz9 (ho : TrOK (trOf cs hs)) (k : Nat) : (cs.getD k default).1.length ≤ 12 := by
  by_cases h : k < cs.length
  · exact (R3 (show wordB (cs.getD k default).1 = true from (ho.c k h).w)).2.2.2.2
  rw [List.getD_eq_getElem?_getD, List.getElem?_eq_none (by omega)]; exact Nat.zero_le 12
theorem iq0 (ho : TrOK (trOf cs hs)) (k : Nat) : (hs.getD k default).1.length ≤ 12 := by
  by_cases h : k < hs.length
  · have q := (ho.h k (by rw [C9]; exact h)).w
    rw [show (trOf cs hs).hs.getD k default = (hs.getD k default).p from N4 h] at q; exact (R3 q).2.2.2.2
  rw [List.getD_eq_getElem?_getD, List.getElem?_eq_none (by omega)]; exact Nat.zero_le 12
theorem wr_ok (ho : TrOK (trOf cs hs)) : WrOK cs hs where
  c6 := ho.c6
  h6 := by have := ho.h6; rw [C9] at this; exact this
  cn k hk := by
    have q := ho.c k hk; have h1 : (cs.getD k default).2 < (k : Int) := q.hi; exact ⟨Nat.le_trans (kz9 ho k) (by decide), by omega⟩
  hn k hk := by
    have q := ho.h k (by rw [C9]; exact hk); have e : (trOf cs hs).hs.getD k default = (hs.getD k default).p := N4 hk; have hc := q.c; have hS := q.s; rw [e] at hc hS; rw [C9] at hS; exact ⟨Nat.le_trans (iq0 ho k) (by decide), hc.2, hS.2.1, mj3 ho hk⟩
theorem lz9 (ho : TrOK (trOf cs hs)) (z : Int) (pre : Str) : (clsT cs z pre).length ≤ pre.length + 12 := by
  unfold clsT
  split
  · rw [List.length_append]; have := kz9 ho z.toNat; omega
  exact Nat.zero_le _
theorem hea_le (ho : TrOK (trOf cs hs)) (z : Int) (pre : Str) : (heaT hs z pre).length ≤ pre.length + 12 := by
  unfold heaT
  split
  · rw [List.length_append]; have := iq0 ho z.toNat; omega
  exact Nat.zero_le _
theorem gq1 (ho : TrOK (trOf cs hs)) : ∀ l : List Cl, (∀ c ∈ l, c ∈ cs) → (accC cs l).length ≤ 35 * l.length
  | [], _ => Nat.le_refl 0
  | c :: l, h => by
    have h1 := gq1 ho l fun x hx => h x (List.mem_cons_of_mem _ hx); have h2 := lz9 ho c.2 inS; obtain ⟨k, hk, e⟩ := mem_at' (h c List.mem_cons_self); have h3 := kz9 ho k; rw [e] at h3; rw [accC]; simp only [List.length_append, List.length_cons]; have e1 : claS.length = 6 := rfl; have e2 : inS.length = 4 := rfl; have e3 : nlS.length = 1 := rfl
    omega
theorem gq2 (ho : TrOK (trOf cs hs)) : ∀ l : List Int, (accA hs l).length ≤ 13 * l.length + (if l = [] then 0 else 5)
  | [] => Nat.le_refl 0
  | x :: l => by
    have h1 := gq2 ho l; have h3 := iq0 ho x.toNat; rw [accA]; have e1 : spS.length = 1 := rfl; have e2 : alS.length = 5 := rfl; rw [if_neg (List.cons_ne_nil x l)]
    by_cases h0 : l = []
    · subst h0
      simp only [List.length_append, List.length_cons, List.length_nil, if_true, accA]
      omega
    have h0' : ¬ l.length = 0 := fun q => h0 (List.length_eq_zero_iff.1 q); rw [if_neg h0] at h1; rw [if_neg h0']; simp only [List.length_append, List.length_cons, List.length_nil]
    omega
theorem lq4 (ho : TrOK (trOf cs hs)) {k : Nat} (hk : k < hs.length) : (heaE cs hs (hs.getD k default)).length ≤ 112 := by
  have hk3 := (ho.h k (by rw [C9]; exact hk)).kinds; rw [show (trOf cs hs).hs.getD k default = (hs.getD k default).p from N4 hk] at hk3; have hn := iq0 ho k; have ha := (mj3 ho hk).1; generalize hs.getD k default = h at hk3 hn ha; simp only [Hd.p] at hk3; have h1 := lz9 ho h.2.1 isS; have h2 := hea_le ho h.2.2.1 seS; have h3 := gq2 ho h.2.2.2.l.reverse; have e1 : isS.length = 4 := rfl; have e2 : seS.length = 5 := rfl; have e3 : nlS.length = 1 := rfl; have h4 : (if h.2.2.2.l.reverse = [] then 0 else 5) ≤ 5 := by split <;> omega
  have h5 : ∀ z : Int, z = -1 → clsT cs z isS = [] ∧ heaT hs z seS = [] := fun z hz => by
    subst hz; exact ⟨rfl, rfl⟩
  rw [List.length_reverse] at h3; unfold heaE; simp only [List.length_append]
  rcases hk3 with ⟨q1, q2, q3⟩ | q | q
  · rw [q3] at h3 ⊢
    rw [(h5 _ q2).1]; simp only [List.length_nil, List.reverse_nil, accA] at h3 ⊢
    omega
  · rw [(h5 _ q.1).2]
    simp only [List.length_nil]
    omega
  rw [(h5 _ q.1).2]; simp only [List.length_nil]
  omega
theorem gq0 (ho : TrOK (trOf cs hs)) (a : Str) : ∀ l : List Hd, (∀ h ∈ l, h ∈ hs) → (accH a cs hs l).length ≤ a.length + 112 * l.length
  | [], _ => Nat.le_refl _
  | c :: l, h => by
    have h1 := gq0 ho a l fun x hx => h x (List.mem_cons_of_mem _ hx); obtain ⟨k, hk, e⟩ := mem_at' (h c List.mem_cons_self); have h3 := lq4 ho hk; rw [e] at h3; rw [accH]; simp only [List.length_append, List.length_cons]
    omega
theorem wr_len (ho : TrOK (trOf cs hs)) : (wrT cs hs).length ≤ 900 := by
  have h1 := gq0 ho (accC cs cs.reverse) hs.reverse fun h q => List.mem_reverse.1 q; have h2 := gq1 ho cs.reverse fun h q => List.mem_reverse.1 q; have h6 := ho.c6; have h6h := ho.h6; rw [C9] at h6h; have h6 : cs.length ≤ 6 := h6; have e1 : fiS.length = 6 := rfl; unfold wrT; rw [List.length_append]; rw [List.length_reverse] at h1 h2
  omega
end
abbrev Td := Sl Cl × Sl Hd
instance : El Td where
  default := (⟨none, 0, []⟩, ⟨none, 0, []⟩)
  cells m := [.slice m.1.a m.1.l.length m.1.c, .slice m.2.a m.2.l.length m.2.c]
  sz := 2
  len _ := rfl
  one a u h := by simp at h; rcases h with h | h <;> subst h <;> rfl
abbrev Td.row (d : Td) : Fact := Facts [Row d.1.a (rows d.1.l), RowsF d.2.a d.2.l Hd.row]
structure TdOK (d : Td) : Prop where
  a : d.1.l.length ≤ d.1.c
  b : d.2.l.length ≤ d.2.c
  c : d.1.l.length ≤ 20
  h : d.2.l.length ≤ 20
  ha : ∀ h ∈ d.2.l, h.2.2.2.l.length ≤ 1000000
  wc : ∀ x ∈ d.1.l, x.1.length ≤ 1000
  wh : ∀ h ∈ d.2.l, h.1.length ≤ 1000
set_option maxHeartbeats 1000000 in
theorem tL {A B A2 B2 : Option Addr} {ca cb ca2 cb2 : Nat} (cs : List Cl) (hs hs2 : List Hd) (hp : hs2.map Hd.p = hs.map Hd.p) (hc : cs.length ≤ 1000) (hh : hs.length ≤ 1000) (ha : ∀ h ∈ hs, h.2.2.2.l.length ≤ 1000000) : Meets prog gR [.agg #[.slice A cs.length ca, .slice B hs.length cb], .agg #[.slice A2 cs.length ca2, .slice B2 hs2.length cb2]] { LI := [Row A (rows cs), RowsF B hs Hd.row, Row A2 (rows cs), RowsF B2 hs2 Hd.row], val := fun _ : Unit => .bool true } := by
 refine i5 wJ rfl t3 fun w0 => i3 (O9 rfl rfl fun gB => O9 rfl rfl fun gC => ?_); refine c8 rfl (c9 (bT ?_)); have hl := p_len hp; refine B4 (B4 (d4 ?_))
 first | refine a6 ⟨_, 0, none⟩ rfl rfl j3 rfl ?_ | refine a6 _ rfl rfl j3 rfl ?_
 first | refine a7 rfl b3 rfl (d5 mB rfl) ?_ | refine a7 rfl b3 rfl (d3 mB rfl) ?_ | refine a7 rfl b3 rfl (b7 mB (b2 (by omega) rfl)) ?_ | refine a7 rfl b3 rfl (b8 mB (rows_get (by omega) rfl)) ?_ | refine a7 rfl b3 rfl (d6 mB rfl) ?_
 refine j9 rfl p9 rfl ?_
 first | refine a6 ⟨_, 0, none⟩ rfl rfl j3 rfl ?_ | refine a6 _ rfl rfl j3 rfl ?_
 first | refine a7 rfl b3 rfl (d5 mB rfl) ?_ | refine a7 rfl b3 rfl (d3 mB rfl) ?_ | refine a7 rfl b3 rfl (b7 mB (b2 (by omega) rfl)) ?_ | refine a7 rfl b3 rfl (b8 mB (rows_get (by omega) rfl)) ?_ | refine a7 rfl b3 rfl (d6 mB rfl) ?_
 refine j9 rfl p9 rfl ?_; refine L5 rfl rfl rfl (b6 rfl ?_); refine v4 rfl rfl ?_ ?_
 ·intro hg1; have hg1' := hg1; try simp at hg1'
  refine k9 hg1 ?_
  first | refine a6 ⟨_, 1, none⟩ rfl rfl j0 rfl ?_ | refine a6 _ rfl rfl j0 rfl ?_
  refine k9 hg1 ?_
  first | refine a7 rfl b4 rfl (d5 mB rfl) ?_ | refine a7 rfl b4 rfl (d3 mB rfl) ?_ | refine a7 rfl b4 rfl (b7 mB (b2 (by omega) rfl)) ?_ | refine a7 rfl b4 rfl (b8 mB (rows_get (by omega) rfl)) ?_ | refine a7 rfl b4 rfl (d6 mB rfl) ?_
  refine k9 hg1 (j9 rfl n7 rfl (k9 hg1 ?_))
  first | refine a6 ⟨_, 1, none⟩ rfl rfl j0 rfl ?_ | refine a6 _ rfl rfl j0 rfl ?_
  refine k9 hg1 ?_
  first | refine a7 rfl b4 rfl (d5 mB rfl) ?_ | refine a7 rfl b4 rfl (d3 mB rfl) ?_ | refine a7 rfl b4 rfl (b7 mB (b2 (by omega) rfl)) ?_ | refine a7 rfl b4 rfl (b8 mB (rows_get (by omega) rfl)) ?_ | refine a7 rfl b4 rfl (d6 mB rfl) ?_
  refine k9 hg1 (j9 rfl n7 rfl ?_); refine k9 hg1 (L5 rfl rfl rfl ?_); refine p_f rfl rfl (bf1 hg1) rfl (c9 ?_)
  first | refine k6 rfl (fun hb1 => ?_) (fun hb1 => ?_) | refine i6 rfl (fun hb1 => ?_) (fun hb1 => ?_)
  ·exact absurd (by omega) hb1
  have hb1' := hb1; try simp at hb1'
  refine i9 (i2 (d7 (i3 (c8 rfl (c9 (j4 ?_)))))); refine t8 (β := Nat) ⟨fun k => k ≤ cs.length, fun k => [(2, .pointer (c5 gB)), (3, .pointer (c5 gC)), (5, int k)], fun _ => [], fun _ => [Blk gC (.cells #[.slice A2 cs.length ca2, .slice B2 hs2.length cb2] r5 (0, 0)), Blk gB (.cells #[.slice A cs.length ca, .slice B hs.length cb] r5 (0, 0)), Row A (rows cs), RowsF B hs Hd.row, Row A2 (rows cs), RowsF B2 hs2 Hd.row]⟩ (fun k => cs.length - k) 0 (Nat.zero_le _) mC nK mC fun k hk => ?_; simp only at hk; refine d7 (i3 (b6 rfl ?_))
  first | refine a6 ⟨_, 0, none⟩ rfl rfl j3 rfl ?_ | refine a6 _ rfl rfl j3 rfl ?_
  first | refine a7 rfl b3 rfl (d5 mB rfl) ?_ | refine a7 rfl b3 rfl (d3 mB rfl) ?_ | refine a7 rfl b3 rfl (b7 mB (b2 (by omega) rfl)) ?_ | refine a7 rfl b3 rfl (b8 mB (rows_get (by omega) rfl)) ?_ | refine a7 rfl b3 rfl (d6 mB rfl) ?_
  refine j9 rfl p9 rfl ?_; refine z6 rfl rfl rfl (c9 ?_)
  first | refine k6 rfl (fun hb2 => ?_) (fun hb2 => ?_) | refine i6 rfl (fun hb2 => ?_) (fun hb2 => ?_)
  ·have hb2' := hb2; try simp at hb2'
   have hk2 : k < cs.length := by omega
   refine i9 (i2 (d7 (j4 (d7 ?_)))); refine A7 10 mixed (by decide) (by decide) rfl rfl ?_
   apply j8 _ rfl rfl rfl
   ·intro w1
    first | refine a6 ⟨_, 0, none⟩ rfl rfl j3 rfl ?_ | refine a6 _ rfl rfl j3 rfl ?_
    refine b5 ?_; exact i1 rfl
   apply j8 _ rfl rfl rfl
   ·intro w1
    first | refine a7 rfl b3 rfl (d3 mB rfl) ?_ | refine a7 rfl b3 rfl (d5 mB rfl) ?_ | refine a7 rfl b3 rfl (b7 mB (b2 (by omega) rfl)) ?_ | refine a7 rfl b3 rfl (b8 mB (rows_get (by omega) rfl)) ?_ | refine a7 rfl b3 rfl (d6 mB rfl) ?_
    refine b5 ?_; exact i1 rfl
   refine p6 rfl (k7 (fun w1 => q8 (α := Cl) cs k rfl p9 u7 rfl rfl rfl mB rfl hk2 (by decide) (q_z rfl)) (k7 (fun w1 => u0 rfl J7 u7 rfl rfl (r4 mB (u5 (by omega))) (q_z rfl)) ?_))
   apply j8 _ rfl rfl rfl
   ·intro w1
    first | refine a6 ⟨_, 0, none⟩ rfl rfl j3 rfl ?_ | refine a6 _ rfl rfl j3 rfl ?_
    refine b5 ?_; exact i1 rfl
   apply j8 _ rfl rfl rfl
   ·intro w1
    first | refine a7 rfl b3 rfl (d3 mB rfl) ?_ | refine a7 rfl b3 rfl (d5 mB rfl) ?_ | refine a7 rfl b3 rfl (b7 mB (b2 (by omega) rfl)) ?_ | refine a7 rfl b3 rfl (b8 mB (rows_get (by omega) rfl)) ?_ | refine a7 rfl b3 rfl (d6 mB rfl) ?_
    refine b5 ?_; exact i1 rfl
   refine p6 rfl (k7 (fun w1 => q8 (α := Cl) cs k rfl p9 u7 rfl rfl rfl mB rfl hk2 (by decide) (q_z rfl)) (k7 (fun w1 => u0 rfl J7 u7 rfl rfl (r4 mB (u5 (by omega))) (q_z rfl)) ?_)); refine u4 ⟨rfl, ?_⟩; refine N3 _ rfl rfl rfl (fun _ => xA ..) (fun _ => wW ..) (c9 ?_)
   first | refine k6 rfl (fun hb3 => ?_) (fun hb3 => ?_) | refine i6 rfl (fun hb3 => ?_) (fun hb3 => ?_)
   ·exact absurd rfl hb3
   have hb3' := hb3; try simp at hb3'
   refine i9 (v5 (i2 (d4 (b6 rfl ?_)))); refine t7 _ rfl rfl rfl rfl p8 ?_; refine c8 rfl (b5 ?_); exact again _ (k + 1) (by show k + 1 ≤ cs.length; omega) (z8 (by omega)) mC nK mC
  have hb2' := hb2; try simp at hb2'
  refine q9 (C3 (r7 (i2 (d7 (i3 (c8 rfl (c9 (j4 ?_)))))))); refine V9 (ps := hs) (A := B) (f := Hd.row) mB (V9 (ps := hs2) (A := B2) (f := Hd.row) mB ?_); refine t8 (β := Nat) ⟨fun k => k ≤ hs.length, fun k => [(2, .pointer (c5 gB)), (3, .pointer (c5 gC)), (6, int k)], fun _ => [], fun _ => [Row B2 (rows hs2), Row B (rows hs), Blk gC (.cells #[.slice A2 cs.length ca2, .slice B2 hs2.length cb2] r5 (0, 0)), Blk gB (.cells #[.slice A cs.length ca, .slice B hs.length cb] r5 (0, 0)), Row A (rows cs), RowsF B hs Hd.row, Row A2 (rows cs), RowsF B2 hs2 Hd.row]⟩ (fun k => hs.length - k) 0 (Nat.zero_le _) mC nK mC fun k hk => ?_; simp only at hk; refine d7 (i3 (b6 rfl ?_))
  first | refine a6 ⟨_, 1, none⟩ rfl rfl j0 rfl ?_ | refine a6 _ rfl rfl j0 rfl ?_
  first | refine a7 rfl b4 rfl (d5 mB rfl) ?_ | refine a7 rfl b4 rfl (d3 mB rfl) ?_ | refine a7 rfl b4 rfl (b7 mB (b2 (by omega) rfl)) ?_ | refine a7 rfl b4 rfl (b8 mB (rows_get (by omega) rfl)) ?_ | refine a7 rfl b4 rfl (d6 mB rfl) ?_
  refine j9 rfl n7 rfl ?_; refine z6 rfl rfl rfl (c9 ?_)
  first | refine k6 rfl (fun hb4 => ?_) (fun hb4 => ?_) | refine i6 rfl (fun hb4 => ?_) (fun hb4 => ?_)
  ·have hb4' := hb4; try simp at hb4'
   have hk2 : k < hs.length := by omega
   have hk3 : k < hs2.length := by omega
   have he := p_at hp hk3; have e1 : (hs.getD k default).1 = (hs2.getD k default).1 := (congrArg (fun q : PH => q.1) he).symm; have e2 : (hs.getD k default).2.1 = (hs2.getD k default).2.1 := (congrArg (fun q : PH => q.2.1) he).symm; have e3 : (hs.getD k default).2.2.1 = (hs2.getD k default).2.2.1 := (congrArg (fun q : PH => q.2.2.1) he).symm; have e4 : (hs.getD k default).2.2.2.l = (hs2.getD k default).2.2.2.l := (congrArg (fun q : PH => q.2.2.2) he).symm; have hal := ha _ (A9 hk2); refine i9 (i2 (d7 (j4 (d7 ?_)))); refine G4 ([]) ([]) n4 13 [12, 10] mixed (by decide) (by decide) (by decide) rfl rfl rfl ?_
   apply j8 _ rfl rfl rfl
   ·intro w1
    first | refine a6 ⟨_, 1, none⟩ rfl rfl j0 rfl ?_ | refine a6 _ rfl rfl j0 rfl ?_
    refine b5 ?_; exact i1 rfl
   apply j8 _ rfl rfl rfl
   ·intro w1
    first | refine a7 rfl b4 rfl (d3 mB rfl) ?_ | refine a7 rfl b4 rfl (d5 mB rfl) ?_ | refine a7 rfl b4 rfl (b7 mB (b2 (by omega) rfl)) ?_ | refine a7 rfl b4 rfl (b8 mB (rows_get (by omega) rfl)) ?_ | refine a7 rfl b4 rfl (d6 mB rfl) ?_
    refine b5 ?_; exact i1 rfl
   refine p6 rfl (k7 (fun w1 => q8 (α := Hd) hs k rfl n7 l4 rfl rfl rfl mB rfl hk2 (by decide) (q_z rfl)) (k7 (fun w1 => u0 rfl w5 l4 rfl rfl (r4 mB (u5 (by omega))) (q_z rfl)) ?_))
   apply j8 _ rfl rfl rfl
   ·intro w1
    first | refine a6 ⟨_, 1, none⟩ rfl rfl j0 rfl ?_ | refine a6 _ rfl rfl j0 rfl ?_
    refine b5 ?_; exact i1 rfl
   apply j8 _ rfl rfl rfl
   ·intro w1
    first | refine a7 rfl b4 rfl (d3 mB rfl) ?_ | refine a7 rfl b4 rfl (d5 mB rfl) ?_ | refine a7 rfl b4 rfl (b7 mB (b2 (by omega) rfl)) ?_ | refine a7 rfl b4 rfl (b8 mB (rows_get (by omega) rfl)) ?_ | refine a7 rfl b4 rfl (d6 mB rfl) ?_
    refine b5 ?_; exact i1 rfl
   refine p6 rfl (k7 (fun w1 => q8 (α := Hd) hs2 k rfl n7 l4 rfl rfl rfl mB rfl hk3 (by decide) (q_z rfl)) (k7 (fun w1 => u0 rfl w5 l4 rfl rfl (r4 mB (u5 (by omega))) (q_z rfl)) ?_)); refine nX ⟨Nat, fun _ => True, fun g => .pointer (c5 g), fun _ => [], fun g => [(g, Obj.cells #[str [], int 0, int 0, .slice none 0 0] C1 (0, 0))]⟩ rfl rfl rfl ?_ ?_
   ·intro w1; refine q6 rfl (fun _ => E1 _) fun gA => b5 ?_; exact H1 gA tK (fun _ => rfl) (List.Sublist.refl _) tK
   refine iq7 ⟨Nat, fun _ => True, fun g => .pointer (c5 g), fun _ => [], fun g => [(g, Obj.cells #[str [], int 0, int 0, .slice none 0 0] C1 (0, 0))]⟩ rfl rfl rfl ?_ ?_
   ·intro w1; refine q6 rfl (fun _ => E1 _) fun gA => b5 ?_; exact H1 gA tK (fun _ => rfl) (List.Sublist.refl _) tK
   refine hb_stL ⟨Nat, fun _ => True, fun _ => undef, fun _ => [], fun g => [(g, Obj.cells #[str (hs.getD k default).1, int (hs.getD k default).2.1, int (hs.getD k default).2.2.1, .slice (hs.getD k default).2.2.2.a (hs.getD k default).2.2.2.l.length (hs.getD k default).2.2.2.c] C1 (0, 0))]⟩ [(7, 0)] rfl rfl rfl ?_ ?_
   ·intro ρ; intro x7 hx7 hr7 _; intro w1; refine l6 (cs := #[str (hs.getD k default).1, int (hs.getD k default).2.1, int (hs.getD k default).2.2.1, .slice (hs.getD k default).2.2.2.a (hs.getD k default).2.2.2.l.length (hs.getD k default).2.2.2.c]) rfl rfl (.refl _) l4 (by rfl) (by rfl) (b5 ?_); exact ql_done x7 tK (fun h => by cases h) (fun p hp => by simp at hp; subst hp; exact hr7 rfl) (List.Sublist.refl _) tK
   refine u4 ⟨rfl, ?_⟩; intro x7 _ x8 _ y7 _ hl7; obtain rfl : x7 = y7 := ptr_inj (hl7 (7, 0) (by simp) rfl _ rfl); refine bU (hp' := [(x8, Obj.cells #[str [], int 0, int 0, .slice none 0 0] C1 (0, 0)), (x7, Obj.cells #[str (hs.getD k default).1, int (hs.getD k default).2.1, int (hs.getD k default).2.2.1, .slice (hs.getD k default).2.2.2.a (hs.getD k default).2.2.2.l.length (hs.getD k default).2.2.2.c] C1 (0, 0))]) (show List.Perm (([(x7, Obj.cells #[str (hs.getD k default).1, int (hs.getD k default).2.1, int (hs.getD k default).2.2.1, .slice (hs.getD k default).2.2.2.a (hs.getD k default).2.2.2.l.length (hs.getD k default).2.2.2.c] C1 (0, 0))] ++ ([(x8, Obj.cells #[str [], int 0, int 0, .slice none 0 0] C1 (0, 0))] ++ [])) ++ []) ([(x8, Obj.cells #[str [], int 0, int 0, .slice none 0 0] C1 (0, 0)), (x7, Obj.cells #[str (hs.getD k default).1, int (hs.getD k default).2.1, int (hs.getD k default).2.2.1, .slice (hs.getD k default).2.2.2.a (hs.getD k default).2.2.2.l.length (hs.getD k default).2.2.2.c] C1 (0, 0))]) from (A6 fun p => by simp only [List.countP_append, List.countP_cons, List.countP_nil]; omega)) ?_; refine l6 rfl rfl aJ l4 (by rfl) (by rfl) ?_; refine c9 (d7 ?_); refine P7 (rows [(hs2.getD k default)]) ⟨[], List.append_nil _⟩ (P7 (rows [(hs.getD k default)]) ⟨[], List.append_nil _⟩ (rZ (p := (hs.getD k default)) (f := Hd.row) (ps := hs) mB (A9 hk2) (rZ (p := (hs2.getD k default)) (f := Hd.row) (ps := hs2) mB (A9 hk3) (d4 ?_))))
   first | refine a6 ⟨_, 0, none⟩ rfl rfl n6 rfl ?_ | refine a6 _ rfl rfl n6 rfl ?_
   first | refine a7 rfl a9 rfl (d5 mB rfl) ?_ | refine a7 rfl a9 rfl (d3 mB rfl) ?_ | refine a7 rfl a9 rfl (b7 mB (b2 (by omega) rfl)) ?_ | refine a7 rfl a9 rfl (b8 mB (rows_get (by omega) rfl)) ?_ | refine a7 rfl a9 rfl (d6 mB rfl) ?_
   first | refine a6 ⟨_, 0, none⟩ rfl rfl n6 rfl ?_ | refine a6 _ rfl rfl n6 rfl ?_
   first | refine a7 rfl a9 rfl (d5 mB rfl) ?_ | refine a7 rfl a9 rfl (d3 mB rfl) ?_ | refine a7 rfl a9 rfl (b7 mB (b2 (by omega) rfl)) ?_ | refine a7 rfl a9 rfl (b8 mB (rows_get (by omega) rfl)) ?_ | refine a7 rfl a9 rfl (d6 mB rfl) ?_
   refine qN rfl rfl rfl (b6 rfl ?_); refine v4 rfl rfl ?_ ?_
   ·intro hg2; have hg2' := hg2; try simp at hg2'
    refine k9 hg2 ?_
    first | refine a6 ⟨_, 1, none⟩ rfl rfl m7 rfl ?_ | refine a6 _ rfl rfl m7 rfl ?_
    refine k9 hg2 ?_
    first | refine a7 rfl a8 rfl (d5 mB rfl) ?_ | refine a7 rfl a8 rfl (d3 mB rfl) ?_ | refine a7 rfl a8 rfl (b7 mB (b2 (by omega) rfl)) ?_ | refine a7 rfl a8 rfl (b8 mB (rows_get (by omega) rfl)) ?_ | refine a7 rfl a8 rfl (d6 mB rfl) ?_
    refine k9 hg2 ?_
    first | refine a6 ⟨_, 1, none⟩ rfl rfl m7 rfl ?_ | refine a6 _ rfl rfl m7 rfl ?_
    refine k9 hg2 ?_
    first | refine a7 rfl a8 rfl (d5 mB rfl) ?_ | refine a7 rfl a8 rfl (d3 mB rfl) ?_ | refine a7 rfl a8 rfl (b7 mB (b2 (by omega) rfl)) ?_ | refine a7 rfl a8 rfl (b8 mB (rows_get (by omega) rfl)) ?_ | refine a7 rfl a8 rfl (d6 mB rfl) ?_
    refine k9 hg2 (L5 rfl rfl rfl ?_); refine p_f rfl rfl (bf1 hg2) rfl (b6 rfl ?_); refine v4 rfl rfl ?_ ?_
    ·intro hg3; have hg3' := hg3; try simp at hg3'
     refine k9 hg3 ?_
     first | refine a6 ⟨_, 2, none⟩ rfl rfl n5 rfl ?_ | refine a6 _ rfl rfl n5 rfl ?_
     refine k9 hg3 ?_
     first | refine a7 rfl a8 rfl (d5 mB rfl) ?_ | refine a7 rfl a8 rfl (d3 mB rfl) ?_ | refine a7 rfl a8 rfl (b7 mB (b2 (by omega) rfl)) ?_ | refine a7 rfl a8 rfl (b8 mB (rows_get (by omega) rfl)) ?_ | refine a7 rfl a8 rfl (d6 mB rfl) ?_
     refine k9 hg3 ?_
     first | refine a6 ⟨_, 2, none⟩ rfl rfl n5 rfl ?_ | refine a6 _ rfl rfl n5 rfl ?_
     refine k9 hg3 ?_
     first | refine a7 rfl a8 rfl (d5 mB rfl) ?_ | refine a7 rfl a8 rfl (d3 mB rfl) ?_ | refine a7 rfl a8 rfl (b7 mB (b2 (by omega) rfl)) ?_ | refine a7 rfl a8 rfl (b8 mB (rows_get (by omega) rfl)) ?_ | refine a7 rfl a8 rfl (d6 mB rfl) ?_
     refine k9 hg3 (L5 rfl rfl rfl ?_); refine p_f rfl rfl (bf1 hg3) rfl (b6 rfl ?_); refine v4 rfl rfl ?_ ?_
     ·intro hg4; have hg4' := hg4; try simp at hg4'
      refine k9 hg4 ?_
      first | refine a6 ⟨_, 3, none⟩ rfl rfl m6 rfl ?_ | refine a6 _ rfl rfl m6 rfl ?_
      refine k9 hg4 ?_
      first | refine a7 rfl j2 rfl (d5 mB rfl) ?_ | refine a7 rfl j2 rfl (d3 mB rfl) ?_ | refine a7 rfl j2 rfl (b7 mB (b2 (by omega) rfl)) ?_ | refine a7 rfl j2 rfl (b8 mB (rows_get (by omega) rfl)) ?_ | refine a7 rfl j2 rfl (d6 mB rfl) ?_
      refine k9 hg4 ?_
      first | refine a6 ⟨_, 3, none⟩ rfl rfl m6 rfl ?_ | refine a6 _ rfl rfl m6 rfl ?_
      refine k9 hg4 ?_
      first | refine a7 rfl j2 rfl (d5 mB rfl) ?_ | refine a7 rfl j2 rfl (d3 mB rfl) ?_ | refine a7 rfl j2 rfl (b7 mB (b2 (by omega) rfl)) ?_ | refine a7 rfl j2 rfl (b8 mB (rows_get (by omega) rfl)) ?_ | refine a7 rfl j2 rfl (d6 mB rfl) ?_
      refine k9 hg4 (i8 dO rfl rfl (dC (hs.getD k default).2.2.2.l (hs2.getD k default).2.2.2.l (by omega)) n4 mC fun _ _ => ?_); refine k9 hg4 (I4 rfl rfl ?_); refine p_f rfl rfl (bf1 hg4) rfl (c9 ?_)
      first | refine k6 rfl (fun hb5 => ?_) (fun hb5 => ?_) | refine i6 rfl (fun hb5 => ?_) (fun hb5 => ?_)
      ·exfalso; first | exact hb5 e4 | (rw [e4] at hb5; simp at hb5)
      have hb5' := hb5; try simp at hb5'
      refine i9 (v5 (i2 (d4 (b6 rfl ?_)))); refine t7 _ rfl rfl rfl rfl p8 ?_; refine c8 rfl (b5 ?_); exact again _ (k + 1) (by show k + 1 ≤ hs.length; omega) (z8 (by omega)) mC nK mC
     intro hg4; have hg4' := hg4; try simp at hg4'
     exfalso; rw [e3] at hg4; simp at hg4
    intro hg3; have hg3' := hg3; try simp at hg3'
    exfalso; rw [e2] at hg3; simp at hg3
   intro hg2; have hg2' := hg2; try simp at hg2'
   exfalso; rw [e1] at hg2; simp at hg2
  have hb4' := hb4; try simp at hb4'
  refine q9 (C3 (r7 (i2 (i3 (c8 rfl (c9 (k8 ?_))))))); exact ret1 () rfl rfl rfl tK nK tK
 intro hg1; have hg1' := hg1; try simp at hg1'
theorem pP {A : Option Addr} {c : Nat} (nums : List Int) (tx : Str) (hn : nums.length ≤ 9223372036854775807) : Meets prog jJ [.slice A nums.length c, str tx] { LI := [Row A (rows nums), ERRT], val := fun _ : Unit => .bool true } := by
 refine i5 rI rfl t3 fun w0 => ?_; refine i3 (c8 rfl (c9 (d7 (i3 (b6 rfl ?_))))); refine K0 rfl r9 rfl ?_; refine cR rfl rfl rfl (c9 ?_)
 first | refine k6 rfl (fun hb1 => ?_) (fun hb1 => ?_) | refine i6 rfl (fun hb1 => ?_) (fun hb1 => ?_)
 ·have hb1' := hb1; try simp at hb1'
  refine i3 (i8 X9 rfl rfl (W6) n4 tK fun _ _ => ?_); refine c8 rfl (c9 (J0 ?_)); exact ret1 () rfl rfl rfl tK nK tK
 have hb1' := hb1; try simp at hb1'
 refine i9 (i2 (i3 (b6 rfl ?_))); refine i8 wI rfl rfl (vQ nums) n4 mC fun g _ => i8 uG rfl rfl (tJ 6 6 hn (dok0 nums) (by decide) (by decide)) n4 mC fun x hx => ?_; obtain ⟨sd, cs, hs, ⟨CA, ca⟩, ⟨HB, cb⟩⟩ := x; obtain ⟨hsd, hT⟩ := hx; have hca : cs.length ≤ ca := hT.ca; have hcb : hs.length ≤ cb := hT.cb; have ha : ∀ h ∈ hs, h.2.2.2.l.length ≤ 1000000 := hT.ha; have hT0 : checkT (trOf cs hs) = 0 := hT.ok; have hok : TrOK (trOf cs hs) := lD hT0; clear hT; have h6 : cs.length ≤ 6 := hok.c6; have h6h := hok.h6; have hln := C9 cs hs; rw [hln] at h6h; have hcl : ∀ i, i < cs.length → ClsOK cs i := hok.c; refine q6 rfl (fun _ => A1 _) fun gT => l6 (cs := #[.slice CA cs.length ca, .slice HB hs.length cb]) rfl rfl (.refl _) c7 (by rfl) (by rfl) ?_; refine c9 (d7 (B4 ?_)); have hR := gz2 hT0 (wr_len hok); have hRd := lC (wrT cs hs); rw [hR] at hRd
 dsimp only at hRd
 refine d4 ?_
 first | refine D1 rfl d9 c7 rfl mB (by rfl) ?_ | refine G0 rfl d9 c7 rfl mB (by rfl) ?_ | refine u0 rfl d9 c7 rfl rfl (r4 mB (u5 (by omega))) ?_
 refine i8 kE rfl rfl (jV (A := CA) (B := HB) (ca := ca) (cb := cb) cs hs hca hcb ha hT0 (wr_ok hok)) n4 mC fun _ _ => ?_; refine b6 rfl (j7 rfl rfl rfl (j7 rfl rfl rfl (c8 rfl (c8 rfl (n9 (b6 rfl ?_)))))); refine i8 mD rfl rfl (hRd) n4 mC fun y hy => ?_; obtain ⟨yc, ⟨yA, yC⟩, yh, ⟨yB, yD⟩⟩ := y; have e : cs = yc := hy.e1.symm; subst e; have hy2 : yh.map Hd.p = hs.map Hd.p := hy.e2; refine b6 rfl (j7 rfl rfl rfl (j7 rfl rfl rfl (j7 rfl rfl rfl ?_))); refine q6 rfl (fun _ => A1 _) fun gU => l6 (cs := #[.slice yA cs.length yC, .slice yB yh.length yD]) rfl rfl (.refl _) c7 (by rfl) (by rfl) ?_; refine c8 rfl (c8 rfl (c9 (bT (B4 (d4 (b6 rfl (L5 rfl rfl rfl (b6 rfl ?_)))))))); refine v4 rfl rfl ?_ ?_
 ·intro hg1; have hg1' := hg1; try simp at hg1'
  refine k9 hg1 (b6 rfl (k9 hg1 (L5 rfl rfl rfl ?_))); refine p_f rfl rfl (bf1 hg1) rfl (b6 rfl ?_); refine v4 rfl rfl ?_ ?_
  ·intro hg2; have hg2' := hg2; try simp at hg2'
   refine k9 hg2 (b6 rfl (k9 hg2 (L5 rfl rfl rfl ?_))); refine p_f rfl rfl (bf1 hg2) rfl (b6 rfl ?_); refine v4 rfl rfl ?_ ?_
   ·intro hg3; have hg3' := hg3; try simp at hg3'
    refine k9 hg3 ?_
    first | refine D1 rfl d9 c7 rfl mB (by rfl) ?_ | refine G0 rfl d9 c7 rfl mB (by rfl) ?_ | refine u0 rfl d9 c7 rfl rfl (r4 mB (u5 (by omega))) ?_
    refine k9 hg3 ?_
    first | refine D1 rfl d9 c7 rfl mB (by rfl) ?_ | refine G0 rfl d9 c7 rfl mB (by rfl) ?_ | refine u0 rfl d9 c7 rfl rfl (r4 mB (u5 (by omega))) ?_
    refine k9 hg3 (i8 uH rfl rfl (tL (A := CA) (B := HB) (A2 := yA) (B2 := yB) (ca := ca) (cb := cb) (ca2 := yC) (cb2 := yD) cs hs yh hy2 (by omega) (by omega) ha) n4 mC fun _ _ => ?_); refine k9 hg3 (I4 rfl rfl ?_); refine p_f rfl rfl (bf1 hg3) rfl (c9 ?_)
    first | refine k6 rfl (fun hb2 => ?_) (fun hb2 => ?_) | refine i6 rfl (fun hb2 => ?_) (fun hb2 => ?_)
    ·have hb2' := hb2; try simp at hb2'
    have hb2' := hb2; try simp at hb2'
    refine i9 (i2 (i3 (b6 rfl ?_))); refine i8 mD rfl rfl (lC tx) n4 mC fun z hz => ?_; refine b6 rfl (j7 rfl rfl rfl (j7 rfl rfl rfl (j7 rfl rfl rfl ?_))); refine q6 rfl (fun _ => A1 _) fun gV => l6 (cs := #[.slice z.2.1.1 z.1.length z.2.1.2, .slice z.2.2.2.1 z.2.2.1.length z.2.2.2.2]) rfl rfl (.refl _) c7 (by rfl) (by rfl) ?_; refine c8 rfl (c8 rfl (c9 (bT (B4 (d4 (b6 rfl (L5 rfl rfl rfl (c9 ?_))))))))
    first | refine k6 rfl (fun hb3 => ?_) (fun hb3 => ?_) | refine i6 rfl (fun hb3 => ?_) (fun hb3 => ?_)
    ·have hb3' := hb3; try simp at hb3'
     refine i3 (i8 X9 rfl rfl (W6) n4 tK fun _ _ => ?_); refine c8 rfl (c9 (J0 ?_)); exact ret1 () rfl rfl rfl tK nK tK
    have hb3' := hb3; try simp at hb3'
    have h0 : (readT tx).2.2 = 0 := Classical.not_not.1 hb3; obtain ⟨hW, hK⟩ := gq8 h0 hz.e1 hz.e2; refine i9 (i2 (i3 ?_))
    first | refine D1 rfl d9 c7 rfl mB (by rfl) ?_ | refine G0 rfl d9 c7 rfl mB (by rfl) ?_ | refine u0 rfl d9 c7 rfl rfl (r4 mB (u5 (by omega))) ?_
    refine i8 kE rfl rfl (jV (A := z.2.1.1) (B := z.2.2.2.1) (ca := z.2.1.2) (cb := z.2.2.2.2) z.1 z.2.2.1 hz.c1 hz.c2 (fun h9 h8 => Nat.le_trans (hz.na h9 h8) (by decide)) hK (wr_ok (lD hK))) n4 mC fun _ _ => ?_; refine b6 rfl (j7 rfl rfl rfl (j7 rfl rfl rfl (c8 rfl (c8 rfl (n9 (b6 rfl (H5 rfl rfl rfl (b6 rfl ?_)))))))); refine v4 rfl rfl ?_ ?_
    ·intro hg4; have hg4' := hg4; try simp at hg4'
     refine k9 hg4 (b6 rfl (k9 hg4 (b6 rfl (k9 hg4 (K4 rfl rfl rfl ?_))))); refine p_t rfl rfl (bt1 hg4) rfl (b6 rfl ?_); refine v4 rfl rfl ?_ ?_
     ·intro hg5; have hg5' := hg5; try simp at hg5'
      refine k9 hg5 (i8 X9 rfl rfl (W6) n4 tK fun _ _ => p_t rfl rfl (bt1 hg5) rfl ?_); refine c8 rfl (c9 (k8 ?_)); exact ret1 () rfl rfl rfl tK nK tK
     intro hg5; have hg5' := hg5; try simp at hg5'
     exact absurd hW hg5'
    intro hg4; have hg4' := hg4; try simp at hg4'
   intro hg3; have hg3' := hg3; try simp at hg3'
  intro hg2; have hg2' := hg2; try simp at hg2'
 intro hg1; have hg1' := hg1; try simp at hg1'
end Go.Proofs.YtdgmfagfpbdbhaaGreatDoor
end
section
namespace Go.W
open Go Go.RowKit Go.ChangeShapes Go.WideShapes
section
variable {H : Type} {enc : TypeId × Value → H} {P : Program} {w : World} {base : Nat} {spare : Nat → Bool} {held : Bool}
theorem row_of {α : Type} [El α] (h1 : El.sz α = 1) {a : Addr} {l : List α} (h : ∀ j (hj : j < l.length), ∃ v, El.cells l[j] = [v] ∧ w.cell? (a.add j) = some v) : (Row (some a) (rows l)).P w := by
  intro j u hu; refine ⟨a, rfl, ?_⟩
  have hj : j < l.length := by
    have := (List.getElem?_eq_some_iff.1 hu).1; rw [O6, h1, Nat.mul_one] at this; exact this
  obtain ⟨v, hv, hc⟩ := h j hj; have h2 := rows_get (l := l) (i := j) (j := 0) (v := v) hj (by simp [List.getD_eq_getElem?_getD, hj, hv]); rw [h1] at h2; simp only [Nat.mul_one, Nat.add_zero] at h2; rw [hu] at h2
  cases h2
  exact hc
theorem in_ints {t e : TypeId} {A : Option Addr} {n c fuel : Nat} {x : DataW H × List MemPlace} (ht : P.underlying t = some (.slice e)) (he : P.underlying e = some (.int .i64)) (hc : P.cellsOf e = 1)
    (h : DataW.trod enc P w base spare held fuel t [.slice A n c] = some x) : ∃ l : List Int, n = l.length ∧ l.length ≤ c ∧ c ≤ maxLen ∧ (Row A (rows l)).P w ∧ ∀ z ∈ l, I64 z := by
  rcases open_ints ht he hc h with ⟨hcs, _⟩ | ⟨a, len, cap, zs, hcs, _, hl, hm, hlen, _, hcell, hwf⟩
  · simp at hcs
    obtain ⟨rfl, rfl, rfl⟩ := hcs; exact ⟨[], rfl, Nat.le_refl _, by unfold maxLen; omega, Row.nil _ _, by intro z hz; simp at hz⟩
  simp at hcs
  obtain ⟨rfl, rfl, rfl⟩ := hcs; have hle : n ≤ zs.length := by rw [hlen]; split <;> omega
  have hlen2 : (zs.take n).length = n := by rw [List.length_take]; omega
  refine ⟨zs.take n, hlen2.symm, by rw [hlen2]; exact hl, hm, row_of rfl fun j hj => ?_, fun z hz => ?_⟩
  · rw [hlen2] at hj
    refine ⟨int zs[j], by simp [El.cells], ?_⟩; rw [hcell j (by omega)]
    simp [List.getD_eq_getElem?_getD, show j < zs.length by omega]
  have := hwf z (List.mem_of_mem_take hz)
  simp [Lit.wf, IntKind.min, IntKind.max, IntKind.signed, IntKind.bits] at this
  exact ⟨by omega, by omega⟩
theorem jq9 {f : Nat} {args : List Value} {LI : List Fact} (h : Meets P f args ({ LI := LI, val := fun _ : Unit => .bool true } : Con Unit)) (hL : ∀ F ∈ LI, F.P w) : Calls P f args.toArray w fun e w' => e = .returned (.bool true) ∧ Below w.heap.size w w' := by
  refine (h w ⟨Ext.refl _ _, by simp, by simp, by simp, hL, by simp, fun F hF k hk => .inr (.inr ⟨F, hF, hk⟩)⟩).mono fun e w' hp => ?_; obtain ⟨_, rfl, _, hwi⟩ := hp; exact ⟨rfl, hwi.ext.below⟩
end
end Go.W
end
