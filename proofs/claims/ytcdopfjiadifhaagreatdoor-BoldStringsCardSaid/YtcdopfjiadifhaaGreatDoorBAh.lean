/- Texts. -/
import Derived.Conc.LoneCalls
import Derived.Laws.CopyRow
import Derived.Laws.Tables
import Derived.Test.YtcdopfjiadifhaaGreatDoorBAg
set_option linter.unusedVariables false
set_option linter.unusedSimpArgs false
section
namespace Go.Proofs.YtcdopfjiadifhaaGreatDoor
open Go Go.W Tryz T F
set_option maxRecDepth 20000
attribute [local irreducible] HL HC HQ HB Row Rows2 Blk Facts
theorem nz0 {α : Type} [El α] (h1 : El.sz α = 1) {cur : Array Value} {l : List α} {i q : Nat} {v : Value} (h : cur.toList.take (l.length * 1) = rows l) (hi : i < l.length) (hq : q = i) (hv : El.cells (l.getD i default) = [v]) : cur[q]? = some v := by
  subst hq; have h2 := j9 hi (v := v) (by rw [hv]; rfl); rw [h1] at h2; rw [← h, List.getElem?_take, if_pos (by omega), Nat.mul_one] at h2; rw [← Array.getElem?_toList]; exact h2
abbrev wat (l : List Str) (i : Nat) : Str := l.getD i default
abbrev wle (a b : Str) : Prop := ¬ b < a
theorem tq4 {a b c : Str} (h1 : wle a b) (h2 : wle b c) : wle a c := fun h => by
  rcases Classical.em (b < a) with h3 | h3
  · exact h1 h3
  rcases Classical.em (a < b) with h4 | h4
  · exact h2 (List.lt_trans h h4)
  rw [sq6 h4 h3] at h; exact h2 h
theorem tq5 {a b : Str} (h : a < b) : wle a b := fun h2 => slt_irr a (List.lt_trans h h2)
def srtTo (l : List Str) (m : Nat) : Prop := ∀ p q, p < q → q < m → wle (wat l p) (wat l q)
structure InsOK (l : List Str) (i j : Nat) : Prop where
  o : ∀ p q, p < q → q ≤ i → ¬ p = j → ¬ q = j → wle (wat l p) (wat l q)
  a : ∀ q, j < q → q ≤ i → wle (wat l j) (wat l q)
theorem nj8 {l : List Str} {i j : Nat} {v : Str} (hi : i < l.length) : wat (l.set i v) j = if i = j then v else wat l j := by
  unfold wat; rw [List.getD_eq_getElem?_getD, List.getD_eq_getElem?_getD, List.getElem?_set]
  split
  · rfl
  rfl
def swp (l : List Str) (j : Nat) : List Str := (l.set (j + 1) (wat l j)).set j (wat l (j + 1))
theorem nq9 {l : List Str} {j k : Nat} (hj : j + 1 < l.length) : wat (swp l j) k = if k = j then wat l (j + 1) else if k = j + 1 then wat l j else wat l k := by
  unfold swp; rw [nj8 (by simp; omega), nj8 (by omega)]
  by_cases h1 : k = j
  · rw [if_pos h1.symm, if_pos h1]
  rw [if_neg (fun e => h1 e.symm), if_neg h1]
  by_cases h2 : k = j + 1
  · rw [if_pos h2.symm, if_pos h2]
  rw [if_neg (fun e => h2 e.symm), if_neg h2]
theorem InsOK.start {l : List Str} {i : Nat} (h : srtTo l i) : InsOK l i i := ⟨fun p q h1 h2 h3 h4 => h p q h1 (by omega), fun q h1 h2 => by omega⟩
theorem InsOK.swap {l : List Str} {i j : Nat} (h : InsOK l i (j + 1)) (hi : i < l.length) (hj : j + 1 ≤ i) (hlt : wat l (j + 1) < wat l j) : InsOK (swp l j) i j := by
  have hj2 : j + 1 < l.length := by omega
  refine ⟨fun p q h1 h2 h3 h4 => ?_, fun q h1 h2 => ?_⟩
  · rw [nq9 hj2, nq9 hj2, if_neg h3, if_neg h4]
    by_cases hp : p = j + 1
    · rw [if_pos hp, if_neg (by omega)]
      exact h.o j q (by omega) h2 (by omega) (by omega)
    rw [if_neg hp]
    by_cases hq : q = j + 1
    · rw [if_pos hq]
      exact h.o p j (by omega) (by omega) (by omega) (by omega)
    rw [if_neg hq]; exact h.o p q h1 h2 hp hq
  rw [nq9 hj2, nq9 hj2, if_pos rfl, if_neg (by omega)]
  by_cases hq : q = j + 1
  · rw [if_pos hq]; exact tq5 hlt
  rw [if_neg hq]; exact h.a q (by omega) h2
theorem InsOK.done {l : List Str} {i j : Nat} (h : InsOK l i j) (hj : j ≤ i) (he : ∀ k, j = k + 1 → ¬ wat l j < wat l k) : srtTo l (i + 1) := by
  intro p q h1 h2
  by_cases hp : p = j
  · subst hp; exact h.a q h1 (by omega)
  by_cases hq : q = j
  · subst hq
    obtain ⟨k, rfl⟩ : ∃ k, q = k + 1 := ⟨q - 1, by omega⟩; have h3 : wle (wat l k) (wat l (k + 1)) := he k rfl
    by_cases hpk : p = k
    · subst hpk; exact h3
    exact tq4 (h.o p k (by omega) (by omega) hp (by omega)) h3
  exact h.o p q h1 (by omega) hp hq
abbrev SrtW (ws l : List Str) : Prop := l.Perm ws ∧ srtTo l l.length
abbrev GrowS (A : Option Addr) (cap : Nat) (l : List Str) (og : Hp) : Prop := Grow aD 1 A l.length cap (rows l) og
def ascTo (l : List Str) (m : Nat) : Prop := ∀ p q, p < q → q < m → wat l p < wat l q
theorem uz5 {a b : Str} (h : wle a b) (hne : ¬ a = b) : a < b := by
  rcases Classical.em (a < b) with h1 | h1
  · exact h1
  exact absurd (sq6 h1 h) hne
theorem ascTo.next {l0 : List Str} {k : Nat} (h : ascTo l0 k) (h0 : 1 ≤ k) (hk : k < l0.length) (hs : srtTo l0 l0.length) (hne : ¬ wat l0 k = wat l0 (k - 1)) : ascTo l0 (k + 1) := by
  intro p q h1 h2
  by_cases hq : q = k
  · subst hq
    have h3 : wat l0 (q - 1) < wat l0 q := uz5 (hs _ _ (by omega) hk) (fun e => hne e.symm)
    by_cases hp : p = q - 1
    · subst hp; exact h3
    exact List.lt_trans (h p (q - 1) (by omega) (by omega)) h3
  exact h p q h1 (by omega)
structure CptOK (l0 : List Str) (b0 k j : Nat) (l : List Str) : Prop where
  len : l.length = l0.length
  j1 : 1 ≤ j
  jn : b0 + j ≤ l0.length
  k1 : 1 ≤ k
  kj : k < b0 + j
  asc : ascTo l k
  rest : ∀ q, b0 + j ≤ q + 1 → wat l q = wat l0 q
  mem : ∀ s, (∃ p, p < k ∧ wat l p = s) ↔ (∃ p, p < b0 + j ∧ wat l0 p = s)
  last : wat l (k - 1) = wat l0 (b0 + j - 1)
theorem CptOK.start {l0 : List Str} {k : Nat} (h : ascTo l0 k) (h0 : 1 ≤ k) (hk : k < l0.length) (he : wat l0 k = wat l0 (k - 1)) : CptOK l0 k k 1 l0 := by
  refine ⟨rfl, by omega, by omega, h0, by omega, h, fun _ _ => rfl, fun s => ⟨?_, ?_⟩, by rw [Nat.add_sub_cancel]; exact he.symm⟩
  · rintro ⟨p, h1, h2⟩; exact ⟨p, by omega, h2⟩
  rintro ⟨p, h1, h2⟩
  by_cases hp : p = k
  · subst hp; exact ⟨p - 1, by omega, by rw [← he]; exact h2⟩
  exact ⟨p, by omega, h2⟩
theorem CptOK.ne {l0 l : List Str} {b0 k j : Nat} (h : CptOK l0 b0 k j l) (hs : srtTo l0 l0.length) (hj : b0 + j < l0.length) (hne : ¬ wat l (b0 + j) = wat l (b0 + j - 1)) : CptOK l0 b0 (k + 1) (j + 1) (l.set k (wat l (b0 + j))) := by
  have hj1 := h.j1; have h1 := h.rest (b0 + j) (by omega); have h2 := h.rest (b0 + j - 1) (by omega); have hkj := h.kj; have hk1 := h.k1; have hkl : k < l.length := by rw [h.len]; omega
  have hat : ∀ p, wat (l.set k (wat l (b0 + j))) p = if k = p then wat l (b0 + j) else wat l p := fun p => nj8 hkl
  have hlt : wat l (k - 1) < wat l (b0 + j) := by
    rw [h.last, h1]; refine uz5 (hs _ _ (by omega) hj) (fun e => hne ?_); rw [h1, h2]; exact e.symm
  refine ⟨by rw [List.length_set]; exact h.len, by omega, by omega, by omega, by omega, fun p q h3 h4 => ?_, fun q hq => ?_, fun s => ?_, ?_⟩
  · rw [hat, hat, if_neg (by omega)]
    by_cases hq : k = q
    · rw [if_pos hq]
      by_cases hp : p = k - 1
      · subst hp; exact hlt
      exact List.lt_trans (h.asc p (k - 1) (by omega) (by omega)) hlt
    rw [if_neg hq]; exact h.asc p q h3 (by omega)
  · rw [hat, if_neg (by omega)]; exact h.rest q (by omega)
  · constructor
    · rintro ⟨p, h3, h4⟩
      rw [hat] at h4
      by_cases hp : k = p
      · rw [if_pos hp] at h4
        exact ⟨b0 + j, by omega, by rw [← h1]; exact h4⟩
      rw [if_neg hp] at h4; obtain ⟨q, h5, h6⟩ := (h.mem s).1 ⟨p, by omega, h4⟩; exact ⟨q, by omega, h6⟩
    rintro ⟨p, h3, h4⟩
    by_cases hp : p = b0 + j
    · subst hp
      exact ⟨k, by omega, by rw [hat, if_pos rfl, h1]; exact h4⟩
    obtain ⟨q, h5, h6⟩ := (h.mem s).2 ⟨p, by omega, h4⟩; exact ⟨q, by omega, by rw [hat, if_neg (by omega)]; exact h6⟩
  rw [hat, if_pos (by omega), h1, show b0 + (j + 1) - 1 = b0 + j by omega]
theorem sx5 {l : List Str} {s : Str} : s ∈ l ↔ ∃ p, p < l.length ∧ wat l p = s := by
  constructor
  · intro h
    obtain ⟨i, hi, rfl⟩ := List.getElem_of_mem h; exact ⟨i, hi, D7 hi⟩
  rintro ⟨p, hp, rfl⟩; unfold wat; exact A3 hp
theorem xx5 {l : List Str} (h : ascTo l l.length) : l.Pairwise (· < ·) := by
  rw [List.pairwise_iff_getElem]; intro i j hi hj hij; have := h i j hij hj; unfold wat at this; rw [D7 hi, D7 hj] at this; exact this
abbrev DedW (l0 r : List Str) : Prop := r.Pairwise (· < ·) ∧ ∀ s, s ∈ r ↔ s ∈ l0
theorem bz2 {l : List Str} {k p : Nat} (hp : p < k) (hk : k ≤ l.length) : wat (l.take k) p = wat l p := by
  unfold wat; rw [List.getD_eq_getElem?_getD, List.getD_eq_getElem?_getD, List.getElem?_take, if_pos hp]
theorem CptOK.done {l0 l : List Str} {b0 k j : Nat} (h : CptOK l0 b0 k j l) (hj : l0.length ≤ b0 + j) : DedW l0 (l.take k) := by
  have h1 := h.jn; have h2 := h.kj; have hlen : (l.take k).length = k := by rw [List.length_take, h.len]; omega
  have hkl : k ≤ l.length := by rw [h.len]; omega
  refine ⟨xx5 fun p q h3 h4 => ?_, fun s => ?_⟩
  · rw [hlen] at h4
    rw [bz2 (by omega) hkl, bz2 h4 hkl]; exact h.asc p q h3 h4
  rw [sx5, sx5, hlen]
  constructor
  · rintro ⟨p, h3, h4⟩
    rw [bz2 h3 hkl] at h4; obtain ⟨q, h5, h6⟩ := (h.mem s).1 ⟨p, h3, h4⟩; exact ⟨q, by omega, h6⟩
  rintro ⟨p, h3, h4⟩; obtain ⟨q, h5, h6⟩ := (h.mem s).2 ⟨p, by omega, h4⟩; exact ⟨q, h5, by rw [bz2 h5 hkl]; exact h6⟩
def compareE (a b : Tr) : List Cl × Int := if ¬ checkT a = 0 then ([], checkT a) else if ¬ checkT b = 0 then ([], checkT b) else (compareT a b, 0)
theorem mt_art (v : Value) (w : World) : (method (prog.types.size + Made.depth) rU v "wayzgoose/trade.next").run prog w = .ok (O5, v) w := p9
theorem mt_ptr (v : Value) (w : World) : (method (prog.types.size + Made.depth) rT v "wayzgoose/trade.next").run prog w = .ok (O4, v) w := p9
theorem mt_idx (v : Value) (w : World) : (method (prog.types.size + Made.depth) wZ v "wayzgoose/trade.next").run prog w = .ok (R3, v) w := p9
def nextL (h : Hd) : List Int := if ¬ h.2.2.1 = -1 then [h.2.2.1] else h.2.2.2.l
abbrev SetIs (m : Nat) (p : Nat → Bool) : Prop := m < 256 ∧ ∀ j, m.testBit j = p j
theorem SetIs.add {m e : Nat} {p q : Nat → Bool} (h : SetIs m p) (he : e < 8) (hq : ∀ j, q j = (p j || decide (e = j))) : SetIs (m ||| 2 ^ e) q := ⟨Nat.or_lt_two_pow (n := 8) h.1 (Nat.pow_lt_pow_right (by omega) he), fun j => by rw [Nat.testBit_or, Nat.testBit_two_pow, h.2 j, hq j]⟩
theorem SetIs.same {m : Nat} {p q : Nat → Bool} (h : SetIs m p) (hq : ∀ j, q j = p j) : SetIs m q := ⟨h.1, fun j => by rw [h.2 j, hq j]⟩
theorem SetIs.or {m n : Nat} {p q : Nat → Bool} (h : SetIs m p) (h2 : SetIs n q) : SetIs (m ||| n) (fun j => p j || q j) := ⟨Nat.or_lt_two_pow (n := 8) h.1 h2.1, fun j => by rw [Nat.testBit_or, h.2 j, h2.2 j]⟩
theorem next_in {cs : List Cl} {hs : List Hd} (hok : TrOK (trOf cs hs)) {i : Nat} (hi : i < hs.length) : ∀ x ∈ nextL (hs.getD i default), 0 ≤ x ∧ x < (hs.length : Int) := by
  have hh := hok.h i (by rw [bA]; exact hi); have e : (trOf cs hs).hs.getD i default = (hs.getD i default).p := kz6 hi; have hS := hh.s; have ha := hh.a; rw [e, bA] at hS ha; intro x hx; unfold nextL at hx
  split at hx
  · rename_i h1
    rw [List.mem_singleton] at hx; subst hx; simp only [Hd.p] at hS
    omega
  obtain ⟨k, hk, rfl⟩ := List.getElem_of_mem hx; have := kj8 (ha k hk); simp only [Hd.p] at this; rw [D7 hk] at this
  omega
theorem qq3 {cs : List Cl} {hs : List Hd} (hok : TrOK (trOf cs hs)) {i : Nat} (hi : i < hs.length) (k : Nat) : nextB (trOf cs hs) i k = decide ((k : Int) ∈ nextL (hs.getD i default)) := by
  have hh := hok.h i (by rw [bA]; exact hi); have e : (trOf cs hs).hs.getD i default = (hs.getD i default).p := kz6 hi; have hk := hh.kinds; rw [e] at hk; unfold nextB nextL; rw [e, Bool.eq_iff_iff, Bool.or_eq_true, decide_eq_true_eq, decide_eq_true_eq, decide_eq_true_eq]; generalize hs.getD i default = h at *; simp only [Hd.p] at hk ⊢
  by_cases h1 : h.2.2.1 = -1
  · rw [if_neg (fun e => e h1)]
    exact ⟨fun e => e.elim (fun e => by omega) id, .inr⟩
  rw [if_pos h1]
  have h2 : h.2.2.2.l = [] := by
    rcases hk with ⟨_, _, h2⟩ | ⟨h2, _⟩ | ⟨h2, _⟩
    · exact h2
    · exact absurd h2 h1
    exact absurd h2 h1
  rw [h2, List.mem_singleton]; exact ⟨fun e => e.elim (fun e => e.symm) (fun e => by cases e), fun e => .inl e.symm⟩
theorem qL (c : Int) (al : Sl Int) : Meets prog O5 [.agg #[int c, .slice al.a al.l.length al.c]] { val := fun _ : Unit => .slice al.a al.l.length al.c } := by
 refine j3 tB rfl t8 fun w0 => d9 (J5 rfl rfl fun gB => ?_); refine c7 rfl (k6 ?_); refine a9 ⟨_, 1, none⟩ rfl rfl vT rfl (c8 rfl k8 rfl (m3 mB rfl) ?_); refine c7 rfl (d8 (k5 ?_)); exact ret1 () rfl rfl rfl tK nK tK
theorem tR (al : Sl Int) : Meets prog R3 [.agg #[.slice al.a al.l.length al.c]] { val := fun _ : Unit => .slice al.a al.l.length al.c } := by
 refine j3 wD rfl t8 fun w0 => d9 (J5 rfl rfl fun gB => ?_); refine c7 rfl (k6 ?_); refine a9 ⟨_, 0, none⟩ rfl rfl zI rfl (c8 rfl k8 rfl (m3 mB rfl) ?_); refine c7 rfl (d8 (k5 ?_)); exact ret1 () rfl rfl rfl tK nK tK
theorem qI (s : Int) : Meets prog O4 [.agg #[int s]] { val := fun x : OutC => .slice x.1 1 x.2, LO := fun x => [Row x.1 (rows [s])] } := by
 refine j3 sX rfl t8 fun w0 => d9 (J5 rfl rfl fun gB => ?_); refine c7 rfl (k6 ?_); refine a9 ⟨_, 0, none⟩ rfl rfl vS rfl (c8 rfl b9 rfl (m3 mB rfl) (p7 _ rfl rfl (fun _ => R8 ..) fun gS => ?_)); refine c7 rfl (d8 (k5 ?_)); refine H6 (rows [s]) (List.prefix_refl _) ?_; exact ret1 (some ⟨gS, 0, none⟩, 1) rfl rfl rfl tK nK ⟨m0, tK⟩
section
variable {c : Cx} {Q : Exit → Act → World → Prop} {fr : Fr} {hp : Hp} {L : List Fact} {ops : Array Oper} {rest : List Oper} {d : Tmp} {ty : TypeId} {pos : String} {af : Array Edge}
theorem r_next {x : Operand} {ats : Array TypeId} {h : Hd} (hd : Nat.blt d c.n = true) (hP : c.P = prog) (hx : ev fr x = some (kindOf h).v) (hL : Hd.row h ∈ L)
    (k : ∀ o : OutC, HL c ops Q rest ((d, .slice o.1 (nextL h).length o.2) :: fr) hp (Row o.1 (rows (nextL h)) :: L)) : HL c ops Q (⟨some d, .call ⟨.invoke x "wayzgoose/trade.next", #[], ats⟩, ty, pos, af, none⟩ :: rest) fr hp L := by
  unfold kindOf at hx; unfold nextL at k
  by_cases h1 : ¬ h.2.2.1 = -1
  · rw [if_pos h1] at hx
    simp only [if_pos h1] at k; have hm := qI h.2.2.1; rw [← hP] at hm; refine lX (f := O4) (hpR := hp) (by rw [hP]; exact qZ) hd hx (by rw [hP]; exact mt_ptr _) hm p6 tK fun o _ => ?_; exact k o
  rw [if_neg h1] at hx; simp only [if_neg h1] at k; have k2 : HL c ops Q rest ((d, .slice h.2.2.2.a h.2.2.2.l.length h.2.2.2.c) :: fr) hp L := hl_dup hL (k (h.2.2.2.a, h.2.2.2.c))
  by_cases h2 : ¬ h.2.1 = -1
  · rw [if_pos h2] at hx
    have hm := qL h.2.1 h.2.2.2; rw [← hP] at hm; exact lX (f := O5) (hpR := hp) (by rw [hP]; exact rC) hd hx (by rw [hP]; exact mt_art _) hm p6 tK fun _ _ => k2
  rw [if_neg h2] at hx; have hm := tR h.2.2.2; rw [← hP] at hm; exact lX (f := R3) (hpR := hp) (by rw [hP]; exact uK) hd hx (by rw [hP]; exact mt_idx _) hm p6 tK fun _ _ => k2
end
theorem sj8 {l : List Int} (h : ∀ k, k < l.length → 0 ≤ l.getD k default ∧ (0 < k → l.getD (k - 1) default < l.getD k default)) : ∀ k : Nat, k < l.length → (k : Int) ≤ l.getD k default
  | 0, hk => (h 0 hk).1
  | k + 1, hk => by
    have h1 := sj8 h k (by omega); have h2 := (h (k + 1) hk).2 (by omega); rw [Nat.add_sub_cancel] at h2
    omega
theorem wj8 {cs : List Cl} {hs : List Hd} (hok : TrOK (trOf cs hs)) {i : Nat} (hi : i < hs.length) : (nextL (hs.getD i default)).length ≤ 6 := by
  have h6h := hok.h6; rw [bA] at h6h; have hh := hok.h i (by rw [bA]; exact hi); have e : (trOf cs hs).hs.getD i default = (hs.getD i default).p := kz6 hi; have ha := hh.a; rw [e, bA] at ha; unfold nextL
  split
  · simp
  generalize hl : (hs.getD i default).2.2.2.l = l; have ha2 : ∀ k, k < l.length → alsoErr hs.length i l k = 0 := by rw [← hl]; exact ha
  have hg := sj8 (l := l) fun k hk => ⟨(kj8 (ha2 k hk)).1, (kj8 (ha2 k hk)).2.2.2⟩
  by_cases h0 : l.length = 0
  · omega
  have h1 := hg (l.length - 1) (by omega); have h2 := (kj8 (ha2 (l.length - 1) (by omega))).2.1
  omega
theorem wz2 {l : List Nat} {k j v : Nat} (hk : k < l.length) : (l.set k v).getD j default = if k = j then v else l.getD j default := by
  rw [List.getD_eq_getElem?_getD, List.getD_eq_getElem?_getD, List.getElem?_set]
  split
  · rfl
  rfl
structure NetK (t : Tr) (k : Nat) (ns : List Nat) : Prop where
  len : ns.length = 6
  is : ∀ i, SetIs (ns.getD i default) (fun x => decide (i < k) && nextB t i x)
structure NetJ (t : Tr) (k : Nat) (l : List Int) (ns : List Nat) : Prop where
  len : ns.length = 6
  is : ∀ i, SetIs (ns.getD i default) (fun x => if i = k then decide ((x : Int) ∈ l) else decide (i < k) && nextB t i x)
theorem NetK.zero (t : Tr) : NetK t 0 (List.replicate 6 0) := ⟨rfl, fun i => by
  have e : (List.replicate 6 0).getD i (default : Nat) = 0 := by
    rw [List.getD_eq_getElem?_getD, List.getElem?_replicate]
    split <;> rfl
  rw [e]
  exact ⟨by decide, fun j => by simp⟩⟩
theorem NetK.start {t : Tr} {k : Nat} {ns : List Nat} (h : NetK t k ns) : NetJ t k [] ns := ⟨h.len, fun i => (h.is i).same fun j => by
  by_cases hi : i = k
  · rw [if_pos hi]; subst hi; simp
  rw [if_neg hi]⟩
theorem NetJ.add {t : Tr} {k e : Nat} {l : List Int} {ns : List Nat} (h : NetJ t k l ns) (hk : k < 6) (he : e < 8) : NetJ t k (l ++ [(e : Int)]) (ns.set k (ns.getD k default ||| 2 ^ e)) := ⟨by rw [List.length_set]; exact h.len, fun i => by
  rw [wz2 (by rw [h.len]; exact hk)]
  by_cases hi : k = i
  · subst hi
    rw [if_pos rfl]; refine (h.is k).add he fun j => ?_; rw [if_pos rfl, if_pos rfl, ← Bool.decide_or]; refine decide_eq_decide.2 ?_; rw [List.mem_append, List.mem_singleton]; exact or_congr_right ⟨fun e => by omega, fun e => by omega⟩
  rw [if_neg hi]
  exact (h.is i).same fun j => by rw [if_neg (fun e => hi e.symm), if_neg (fun e => hi e.symm)]⟩
theorem NetJ.done {cs : List Cl} {hs : List Hd} {k : Nat} {ns : List Nat} (hok : TrOK (trOf cs hs)) (hk : k < hs.length) (h : NetJ (trOf cs hs) k (nextL (hs.getD k default)) ns) : NetK (trOf cs hs) (k + 1) ns := ⟨h.len, fun i => (h.is i).same fun j => by
  by_cases hi : i = k
  · subst hi
    rw [if_pos rfl, qq3 hok hk]
    simp
  rw [if_neg hi]; have e : decide (i < k + 1) = decide (i < k) := decide_eq_decide.2 (by omega)
  rw [e]⟩
def sortN (names : List Int) (i : Nat) : Str := sortsL.getD (names.getD i default).toNat default
def callN (words : List Int) (i : Nat) : Str := callingsL.getD (words.getD i default).toNat default
def ClsMade (names : List Int) (cs : List Cl) : Prop := ∀ i, i < cs.length → (cs.getD i default).1 = sortN names i ∧ -1 ≤ (cs.getD i default).2 ∧ (cs.getD i default).2 < (i : Int)
theorem ClsMade.snoc {names : List Int} {cs : List Cl} (h : ClsMade names cs) {u : Int} (h1 : -1 ≤ u) (h2 : u < (cs.length : Int)) : ClsMade names (cs ++ [(sortN names cs.length, u)]) := by
  intro i hi; rw [List.length_append, List.length_singleton] at hi; rw [D7 (by simp; omega)]
  by_cases e : i < cs.length
  · rw [List.getElem_append_left e, ← D7 e]
    exact h i e
  obtain rfl : i = cs.length := by omega
  rw [List.getElem_append_right (by omega)]; simp only [Nat.sub_self, List.getElem_cons_zero]; exact ⟨tK, h1, h2⟩
def HdMade (nc n i : Nat) (h : Hd) : Prop := (∀ k, k < h.2.2.2.l.length → alsoErr n i h.2.2.2.l k = 0) ∧ ((0 ≤ h.2.2.1 ∧ h.2.2.1 < (n : Int) ∧ ¬ h.2.2.1 = (i : Int) ∧ h.2.1 = -1 ∧ h.2.2.2.l = []) ∨ (h.2.2.1 = -1 ∧ 0 ≤ h.2.1 ∧ h.2.1 < (nc : Int)) ∨ (h.2.2.1 = -1 ∧ h.2.1 = -1 ∧ h.2.2.2.l ≠ []))
def HsMade (words : List Int) (nc n : Nat) (hs : List Hd) : Prop := ∀ i, i < hs.length → (hs.getD i default).1 = callN words i ∧ HdMade nc n i (hs.getD i default)
theorem HsMade.snoc {words : List Int} {nc n : Nat} {hs : List Hd} (h : HsMade words nc n hs) {x : Hd} (h1 : x.1 = callN words hs.length) (h2 : HdMade nc n hs.length x) : HsMade words nc n (hs ++ [x]) := by
  intro i hi; rw [List.length_append, List.length_singleton] at hi; rw [D7 (by simp; omega)]
  by_cases e : i < hs.length
  · rw [List.getElem_append_left e, ← D7 e]
    exact h i e
  obtain rfl : i = hs.length := by omega
  rw [List.getElem_append_right (by omega)]; simp only [Nat.sub_self, List.getElem_cons_zero]; exact ⟨h1, h2⟩
theorem asc_at {l : List Int} (h : l.Pairwise (· < ·)) {j i : Nat} (hji : j < i) (hi : i < l.length) : l.getD j default < l.getD i default := by
  rw [D7 (show j < l.length by omega), D7 hi]; exact (List.pairwise_iff_getElem.1 h) j i (by omega) hi hji
def AscB (i k : Nat) (l : List Int) : Prop := l.Pairwise (· < ·) ∧ ∀ x ∈ l, 0 ≤ x ∧ x < (k : Int) ∧ ¬ x = (i : Int)
theorem AscB.step {i k : Nat} {l : List Int} (h : AscB i k l) : AscB i (k + 1) l := ⟨h.1, fun x hx => by have := h.2 x hx; omega⟩
theorem AscB.snoc {i k : Nat} {l : List Int} (h : AscB i k l) (hk : ¬ k = i) : AscB i (k + 1) (l ++ [(k : Int)]) := by
  refine ⟨List.pairwise_append.2 ⟨h.1, by simp, fun a ha b hb => ?_⟩, fun x hx => ?_⟩
  · rw [List.mem_singleton] at hb; have := (h.2 a ha).2.1; omega
  rcases List.mem_append.1 hx with hx | hx
  · have := h.2 x hx; omega
  rw [List.mem_singleton] at hx; omega
theorem AscB.len {i n : Nat} {l : List Int} (h : AscB i n l) : l.length ≤ n := by
  have hg := sj8 (l := l) fun k hk => ⟨(h.2 _ (A3 hk)).1, fun h0 => asc_at h.1 (show k - 1 < k by omega) hk⟩
  by_cases h0 : l.length = 0
  · omega
  have h1 := hg (l.length - 1) (by omega); have h2 := (h.2 _ (A3 (show l.length - 1 < l.length by omega))).2.1
  omega
abbrev trB (g : Nat) (A : Option Addr) (n c : Nat) (B : Option Addr) (m k : Nat) : Nat × Obj := (g, .cells #[.slice A n c, .slice B m k] B7 (0, 0))
abbrev hdB (g : Nat) (w : Str) (cl se : Int) (A : Option Addr) (n c : Nat) : Nat × Obj := (g, .cells #[str w, int cl, int se, .slice A n c] pT (0, 0))
abbrev TRes := List Cl × List Hd × OutC × OutC
structure TOf (m1 m2 : Nat) (x : TRes) : Prop where
  ok : checkT (trOf x.1 x.2.1) = 0
  c1 : 1 ≤ x.1.length
  c2 : x.1.length ≤ m1
  h2 : x.2.1.length ≤ m2
  ca : x.1.length ≤ x.2.2.1.2
  cb : x.2.1.length ≤ x.2.2.2.2
  ha : ∀ h ∈ x.2.1, h.2.2.2.l.length ≤ 1000000
theorem dok0 (nums : List Int) : DOK nums (0, 11400714819323198485) := ⟨by decide, by show (0 : Int) ≤ nums.length; omega, by decide, by decide⟩
theorem ask_one {t : Tr} {h : Int} (h0 : checkT t = 0) (h1 : 0 ≤ h ∧ h ≤ (t.hs.length : Int) - 1) : askE t [h] = 0 := by
  unfold askE; rw [if_neg (by rw [Classical.not_not]; exact h0)]
  simp [h1]
end Go.Proofs.YtcdopfjiadifhaaGreatDoor
end
section
namespace Go.W
open Go Go.RowKit Go.Conc
section
/-! ### The words of a walk that communicates: the same aS9 of any other -/
def kw (c : Cx) (x : Code) (Q : Exit → Act → World → Prop) : Act → World → Prop := cw c x Q
def KC (c : Cx) (x : Code) (Q : Exit → Act → World → Prop) (fr : Fr) (hp : Hp) (L : List Fact) : Prop := HC c x Q fr hp L
def KL (c : Cx) (ops : Array Oper) (Q : Exit → Act → World → Prop) (l : List Nat) (fr : Fr) (hp : Hp) (L : List Fact) : Prop := ∀ a w, Ok c a fr → WI c.b w hp L → wpI c.P ops Q l a w
variable {c : Cx} {Q : Exit → Act → World → Prop} {fr : Fr} {hp : Hp} {L : List Fact} {ops : Array Oper}
theorem Y2 {x y : Code} (h : KC c x (Exit.then (kw c y Q) Q) fr hp L) : KC c (.seq x y) Q fr hp L := i7 h
theorem P6 {y : Code} (h : KC c y Q fr hp L) : HQ c (Exit.then (kw c y Q) Q) .normal fr hp L := fun a w ha hw => h a w ha hw
theorem N8 {P : Program} {n : Nat} {b : Bx} {D : List Deferred} {id : Nat} {l : List Oper} (h : HL ⟨P, n, b, D, none⟩ l.toArray Q l fr hp L) : KC ⟨P, n, b, D, none⟩ (.region id l.toArray false) Q fr hp L := j0 h
theorem nz9 (h : HQ c Q .normal fr hp L) : KC c .skip Q fr hp L := j6 h
theorem sz2 {id : Nat} (h : HQ c Q (.exit id) fr hp L) : KC c (.exit id) Q fr hp L := w8 h
theorem kc_ret (h : HQ c Q .ret fr hp L) : KC c .ret Q fr hp L := k5 h
theorem dj6 {id : Nat} {x : Code} (h : KC c x (Exit.inBlock id Q) fr hp L) : KC c (.block id x) Q fr hp L := j8 h
theorem kc_cond {x : Operand} {b : Bool} {thn els : Code} (hx : ev fr x = some (.bool b)) (ht : b = true → KC c thn Q fr hp L) (hf : b = false → KC c els Q fr hp L) : KC c (.cond x thn els) Q fr hp L := D0 hx ht hf
theorem wq9 {x : Operand} {p : Prop} [Decidable p] {thn els : Code} (hx : ev fr x = some (.bool (decide p))) (ht : p → KC c thn Q fr hp L) (hf : ¬ p → KC c els Q fr hp L) : KC c (.cond x thn els) Q fr hp L :=
  kc_cond hx (fun h => ht (of_decide_eq_true h)) (fun h => hf (of_decide_eq_false h))
theorem sz1 {β : Type} (s : Sta β) (μ : β → Nat) {body : Code} (z0 : β) (hz0 : s.inv z0) (h1 : FrSub fr (s.fr z0)) (h2 : (s.hp z0).Sublist hp) (h3 : LSub L (s.L z0))
    (round : ∀ z, s.inv z → KC c body (Exit.then (AgainQ s μ (μ z) c) Q) (s.fr z) (s.hp z) (s.L z)) : KC c (.loop body) Q fr hp L := y8 s μ z0 hz0 h1 h2 h3 round
theorem nz8 {β : Type} {P : Program} {f : Nat} {args : List Value} {k : Con β} {fn : Func} {code : Code} (hf : P.funcs[f]? = some fn) (hb : fn.body = some code) (hn : args.length ≤ fn.ntmps)
    (h : ∀ w, KC ⟨P, fn.ntmps, k.entry w, [], none⟩ code (postB P fn (k.post w)) (argFr 0 args) k.hpI k.LI) : Meets P f args k := j3 hf hb hn h
theorem pj0 {id : Nat} {l : List Oper} (h : KL c l.toArray Q (List.range l.length) fr hp L) : KC c (.region id l.toArray false) Q fr hp L := fun a w ha hw => by
  intro b k cs Goal hk hc; refine L5 rfl (fun _ => stepG_region) (bx5 hk hc _ a w ?_)
  simpa using h a w ha hw
theorem rx9 (h : HQ c Q .normal fr hp L) : KL c ops Q [] fr hp L := fun a w ha hw => h a w ha hw
variable {i : Nat} {rest : List Nat} {d : Tmp} {ty : TypeId} {pos : String} {af : Array Edge}
theorem wq7 {o : Oper} (hi : ops[i]? = some o) (hg : o.guard = none) (h : ∀ a w, Ok c a fr → WI c.b w hp L → owp c.P o a w (wpI c.P ops Q rest) Q) : KL c ops Q (i :: rest) fr hp L := by
  intro a w ha hw; show wpO c.P ops Q i (wpI c.P ops Q rest) a w; unfold wpO; simp only [hi]; rw [if_pos (by simp [Region.wanted, hg])]; exact h a w ha hw
theorem wq6 {o : Oper} (v : Value) (hi : ops[i]? = some o) (ho : o.dst = some d) (hg : o.guard = none) (hd : Nat.blt d c.n = true)
    (hr : ∀ a w, Ok c a fr → WI c.b w hp L → (execOp a.eval o).run c.P w = .ok (.value v) w) (k : KL c ops Q rest ((d, v) :: fr) hp L) (hok : okOp o = true := by exact rfl) : KL c ops Q (i :: rest) fr hp L := by
  refine wq7 hi hg fun a w ha hw d0 => ⟨jI hok _, ?_⟩; rw [hr a _ ha (hw.at d0), pL, ho]; exact k _ _ (ha.put (by simpa using hd) v) (hw.at d0)
theorem dj1 {x : Operand} {v : Value} (hi : ops[i]? = some ⟨some d, .move x, ty, pos, af, none⟩) (hd : Nat.blt d c.n = true) (hx : ev fr x = some v) (k : KL c ops Q rest ((d, v) :: fr) hp L) : KL c ops Q (i :: rest) fr hp L :=
  wq6 v hi rfl rfl hd (fun a w ha _ => by show Result.ok (Next.value (a.eval x)) w = _; rw [ha.ev hx]) k
theorem uj1 {x : Operand} {v : Value} (hi : ops[i]? = some ⟨some d, .assign x, ty, pos, af, none⟩) (hd : Nat.blt d c.n = true) (hx : ev fr x = some v) (k : KL c ops Q rest ((d, v) :: fr) hp L) : KL c ops Q (i :: rest) fr hp L :=
  wq6 v hi rfl rfl hd (fun a w ha _ => by show Result.ok (Next.value (a.eval x)) w = _; rw [ha.ev hx]) k
abbrev chanO (cap : Nat) (buf : List Value) (s r : Nat) : Obj := .chan cap buf.toArray false s r false
theorem sq1 {b : Bx} {w : World} {g cap s' r' : Nat} {buf' : Array Value} {o : Obj} (h : WI b w ((g, o) :: hp) L) : WI b { w with heap := w.heap.setIfInBounds g (.chan cap buf' false s' r' false) } ((g, .chan cap buf' false s' r' false) :: hp) L := by
  have hg := h.own (g, o) (by simp); have hlt : g < w.heap.size := I4 hg; refine h.write ⟨rfl, rfl, rfl, by simp, fun k hk hn => ?_, Nat.le_refl _⟩ (by simp [hlt])
  simp only
  rw [Array.getElem?_setIfInBounds_ne (fun e => hn (by rw [e]; simp))]
theorem sz0 {x y : Operand} {v : Value} {g cap s r : Nat} {buf : List Value} {hp' : Hp} (hi : ops[i]? = some ⟨none, .send x y, ty, pos, af, none⟩) (hx : ev fr x = some (.chan (some g))) (hy : ev fr y = some v) (hpp : hp.Perm ((g, chanO cap buf s r) :: hp')) (hroom : buf.length < cap)
    (k : KL c ops Q rest fr ((g, chanO cap (buf ++ [v]) (s + 1) r) :: hp') L) : KL c ops Q (i :: rest) fr hp L := by
  refine wq7 hi rfl fun a w ha hw d0 => ⟨jI rfl _, ?_⟩; have hw' := (hw.at d0).perm hpp; have hg := hw'.own (g, chanO cap buf s r) (by simp)
  have hrun : (execOp a.eval (⟨none, .send x y, ty, pos, af, none⟩ : Oper)).run c.P (w.at d0) = .ok (.comm #[scase g v (.tuple #[])] true .send) (w.at d0) := by
    simp [execOp, scase, ha.ev hx, ha.ev hy]
  rw [hrun, kq1]; refine .inl ⟨g, v, .tuple #[], cap, buf.toArray, s, r, false, rfl, rfl, hg, by simpa using hroom, ?_⟩; refine k a _ ha ?_; have h2 := sq1 (cap := cap) (s' := s + 1) (r' := r) (buf' := buf.toArray.push v) hw'; have e : (buf ++ [v]).toArray = buf.toArray.push v := by simp
  show WI c.b _ ((g, .chan cap (buf ++ [v]).toArray false (s + 1) r false) :: hp') L; rw [e]; exact h2
theorem kl_recv {t e : TypeId} {dir : ChanDir} {x : Operand} {v z : Value} {g cap s r : Nat} {buf : List Value} {hp' : Hp} (hi : ops[i]? = some ⟨some d, .recv t x false, ty, pos, af, none⟩) (hd : Nat.blt d c.n = true) (ht : c.P.underlying t = some (.chan dir e)) (hz : ∀ w, (zeroValue e).run c.P w = .ok z w)
    (hx : ev fr x = some (.chan (some g))) (hpp : hp.Perm ((g, chanO cap (v :: buf) s r) :: hp'))
    (k : KL c ops Q rest ((d, v) :: fr) ((g, chanO cap buf s (r + 1)) :: hp') L) : KL c ops Q (i :: rest) fr hp L := by
  refine wq7 hi rfl fun a w ha hw d0 => ⟨jI rfl _, ?_⟩; have hw' := (hw.at d0).perm hpp; have hg := hw'.own (g, chanO cap (v :: buf) s r) (by simp)
  have hrun : (execOp a.eval (⟨some d, .recv t x false, ty, pos, af, none⟩ : Oper)).run c.P (w.at d0) = .ok (.comm #[rcase g z] true (.recv false)) (w.at d0) := by
    simp [execOp, Sem.run_bind, run_underlying ht, hz, rcase, ha.ev hx]
  rw [hrun, kq1]; refine .inr ⟨g, z, false, cap, (v :: buf).toArray, false, s, r, false, rfl, rfl, hg, by simp, ?_⟩; refine k _ _ (ha.put (by simpa using hd) v) ?_; have h2 := sq1 (cap := cap) (s' := s) (r' := r + 1) (buf' := (v :: buf).toArray.extract 1 (v :: buf).toArray.size) hw'; have e : (v :: buf).toArray.extract 1 (v :: buf).toArray.size = buf.toArray := by simp
  rw [e] at h2 ⊢; exact h2
end
section
variable {c : Cx} {Q : Exit → Act → World → Prop} {fr : Fr} {hp : Hp} {L : List Fact} {ops : Array Oper} {rest : List Oper}
variable {d : Tmp} {ty : TypeId} {pos : String} {af : Array Edge}
theorem ax6 {t e : TypeId} {dir : ChanDir} {x : Operand} {n : Nat} {z : TypeInfo} (hd : Nat.blt d c.n = true) (ht : c.P.underlying t = some (.chan dir e)) (hi : c.P.info? e = some z) (hx : ev fr x = some (int (n : Int))) (h63 : (n : Int) ≤ 9223372036854775807) (hb : (z.bytes : Int) * n ≤ 281474976710544)
    (k : ∀ g, HL c ops Q rest ((d, .chan (some g)) :: fr) ((g, chanO n [] 0 0) :: hp) L) : HL c ops Q (⟨some d, .makeChan t x, ty, pos, af, none⟩ :: rest) fr hp L :=
  uI rfl rfl hd fun a w ha hw => by
    refine ⟨.chan (some w.heap.size), _, _, L, ?_, hw.alloc _, k w.heap.size⟩; simp only [execOp, Sem.run_bind, Sem.run_pure, Result.andThen_ok, ha.ev hx, run_makeChan ht hi .i64 n h63 hb]
theorem rx1 {dT sT e : TypeId} {x y : Operand} {g off dLen dCap sLen sCap : Nat} {ad : Addr} {cur : Array Value} {cs : List Value} {hp' : Hp} (hd : Nat.blt d c.n = true) (ht : c.P.underlying dT = some (.slice e)) (hz : Sz c.P e 1)
    (hx : ev fr x = some (.slice (some ⟨g, off, none⟩) dLen dCap)) (hy : ev fr y = some (.slice (some ad) sLen sCap)) (hpp : hp.Perm ((g, .cells cur e (0, 0)) :: hp')) (hn : cs.length = Nat.min sLen dLen) (hs : Cells c.b ((g, .cells cur e (0, 0)) :: hp') L ad cs)
    (hfit : off + cs.length ≤ cur.size) (h1 : ∀ v ∈ cs, v.oneCell' = true)
    (k : HL c ops Q rest ((d, int cs.length) :: fr) ((g, .cells (cur.toList.take off ++ cs ++ cur.toList.drop (off + cs.length)).toArray e (0, 0)) :: hp') L) :
    HL c ops Q (⟨some d, .call ⟨.builtin .copy, #[x, y], #[dT, sT]⟩, ty, pos, af, none⟩ :: rest) fr hp L :=
  uI rfl rfl hd fun a w ha hw => by
    have hw' := hw.perm hpp; have hg := hw'.own (g, .cells cur e (0, 0)) (by simp); simp only at hg; have hrun := run_copy_row (P := c.P) w dT sT ty e g off dLen dCap ad sLen sCap cur e cs ht hz hg hn (hs w hw') hfit h1; refine ⟨int cs.length, w.setRow g (cur.toList.take off ++ cs ++ cur.toList.drop (off + cs.length)).toArray, _, L, ?_, hw'.write (o' := .cells (cur.toList.take off ++ cs ++ cur.toList.drop (off + cs.length)).toArray e (0, 0)) ⟨rfl, rfl, rfl, by simp [World.setRow], fun k hk hn => setRow_other w g k _ (fun e => hn (by rw [e]; simp)), Nat.le_refl _⟩ (setRow_heap w g cur _ e (0, 0) hg), k⟩; simp only [execOp, resolve, invoke, builtin, Sem.run_bind, Sem.run_pure, Result.andThen_ok, List.map_toArray, List.map_cons, List.map_nil, ha.ev hx, ha.ev hy, hrun]
    rfl
theorem r_makeN {t e : TypeId} {x y : Operand} {n sz bytes : Nat} {m m' : Int} (el : ElT c.P t e sz bytes) (hd : Nat.blt d c.n = true) (hx : ev fr x = some (int m')) (hy : ev fr y = some (int m)) (hm' : m' = (n : Int)) (hm : m = (n : Int)) (hb : bytes * n ≤ 140737488355328) (hn : n ≤ 140737488355328)
    (k : ∀ g (cur : Array Value), cur.size = n * sz → HL c ops Q rest ((d, .slice (d6 g) n n) :: fr) ((g, .cells cur e (0, 0)) :: hp) L) : HL c ops Q (⟨some d, .makeSlice t x y, ty, pos, af, none⟩ :: rest) fr hp L := by
  obtain ⟨i, z, hi, hz, hsz, hby, hzs⟩ := el.i; refine uH (.cells (madeCells z.cells (n * i.size)) e (0, 0)) (fun g => .slice (d6 g) n n) rfl rfl hd (fun a w ha _ => ?_) (fun g => k g _ ?_)
  · subst hm
    subst hm'
    have hb' : (i.bytes : Int) * (n : Int) ≤ 281474976710656 := by
      have h : ((i.bytes * n : Nat) : Int) ≤ 281474976710656 := by rw [hby]; omega
      rwa [Int.natCast_mul] at h
    have hr := run_make (P := c.P) w t e i z el.u hi hz .i64 .i64 (n : Int) n (by omega) (by omega) hb' (by omega); simp only [Int.toNat_natCast] at hr; simp only [execOp, ha.ev hx, ha.ev hy, Sem.run_bind, hr, Result.andThen_ok, Sem.run_pure]
  rw [← hsz]
  simp [madeCells]
end
/-! ### Slices that grow from nothing, whose cells are written -/
section
def GrowE (e : TypeId) (sz : Nat) (A : Option Addr) (n cap : Nat) (xs : List Value) (og : Hp) : Prop := Grow e sz A n cap xs og ∨ (n = 0 ∧ cap = 0 ∧ xs = [] ∧ og = [])
theorem GrowE.grow {e : TypeId} {sz n cap : Nat} {A : Option Addr} {xs : List Value} {og : Hp} (h : GrowE e sz A n cap xs og) (hn : 0 < n) : Grow e sz A n cap xs og := by
  rcases h with h | ⟨h, _⟩
  · exact h
  omega
theorem GrowE.le {e : TypeId} {sz n cap : Nat} {A : Option Addr} {xs : List Value} {og : Hp} (h : GrowE e sz A n cap xs og) : n ≤ cap := by
  rcases h with h | ⟨h, h2, _⟩
  · exact h.le
  omega
theorem GrowE.blk {e : TypeId} {sz n cap : Nat} {A : Option Addr} {xs : List Value} {og : Hp} (h : GrowE e sz A n cap xs og) (hn : 0 < n) : ∃ g cur, A = some ⟨g, 0, none⟩ ∧ og = [(g, .cells cur e (0, 0))] ∧ n ≤ cap ∧ cap ≤ maxLen ∧ cur.size = cap * sz ∧ cur.toList.take (n * sz) = xs := by
  rcases (h.grow hn).2 with ⟨_, h1, _⟩ | h1
  · omega
  exact h1
variable {c : Cx} {Q : Exit → Act → World → Prop} {fr : Fr} {hp : Hp} {L : List Fact} {ops : Array Oper} {rest : List Oper}
variable {d : Tmp} {ty : TypeId} {pos : String} {af : Array Edge}
/-! ### Cells of rows that are written -/
theorem mq9 {α : Type} [El α] {v : Value} {a : α} {f : Nat} (hf : f < El.sz α) : ∀ {l : List α} {k : Nat}, k < l.length → El.cells a = (El.cells (l.getD k default)).set f v → (rows l).set (k * El.sz α + f) v = rows (l.set k a)
  | [], k, hk, _ => by simp at hk
  | b :: l, 0, _, hc => by
    show (El.cells b ++ rows l).set _ v = El.cells a ++ rows l; rw [Nat.zero_mul, Nat.zero_add, List.set_append_left _ _ (by rw [El.len]; exact hf), hc]
    rfl
  | b :: l, k + 1, hk, hc => by
    have ih := mq9 hf (l := l) (k := k) (by simpa using hk) (by simpa using hc); show (El.cells b ++ rows l).set _ v = El.cells b ++ rows (l.set k a); rw [List.set_append_right _ _ (by rw [El.len, Nat.add_mul]; omega), El.len, ← ih]
    congr 2
    rw [Nat.add_mul]; omega
theorem own_f {α : Type} [El α] {cur : Array Value} {l : List α} {k f q : Nat} {v : Value} (h : cur.toList.take (l.length * El.sz α) = rows l) (hk : k < l.length) (hq : q = k * El.sz α + f) (hv : (El.cells (l.getD k default))[f]? = some v) : cur[q]? = some v := by
  subst hq; have h2 := rows_get (j := f) hk hv; rw [← h, List.getElem?_take] at h2
  split at h2
  · simpa using h2
  cases h2
end
section
variable {c : Cx} {Q : Exit → Act → World → Prop} {fr : Fr} {hp : Hp} {L : List Fact} {ops : Array Oper} {rest : List Oper} {ty : TypeId} {pos : String} {af : Array Edge}
theorem cx0 {t : TypeId} {x y : Operand} {g o : Nat} {old cs : Array Value} {e : TypeId} {hp' : Hp} (hx : ev fr x = some (.pointer (some ⟨g, o, none⟩))) (hy : ev fr y = some (.agg cs)) (hpp : hp.Perm ((g, .cells old e (0, 0)) :: hp'))
    (hz : Sz c.P t cs.size) (ho : o + cs.size ≤ old.size) (h1 : cs.toList.all (·.oneCell') = true)
    (k : HL c ops Q rest fr ((g, .cells (old.toList.take o ++ cs.toList ++ old.toList.drop (o + cs.size)).toArray e (0, 0)) :: hp') L) : HL c ops Q (⟨none, .store t x y, ty, pos, af, none⟩ :: rest) fr hp L :=
  kj4 rfl rfl fun a w ha hw => by
    have hw' := hw.perm hpp; have hg := hw'.own (g, .cells old e (0, 0)) (by simp); simp only at hg; have hst := run_storeCells_at (P := c.P) g o e cs.toList 0 old w hg (by simpa using ho) (fun v hv => List.all_eq_true.1 h1 v hv); simp only [Nat.add_zero, Array.length_toList] at hst
    have hrun : (storeVar t ⟨g, o, none⟩ (.agg cs)).run c.P w = .ok () (w.setRow g (old.toList.take o ++ cs.toList ++ old.toList.drop (o + cs.size)).toArray) := by
      unfold Sz at hz
      cases hq : c.P.info? t with
      | none => simp [hq] at hz
      | some i =>
        have hs : cs.size = i.size := by simp [hq] at hz; omega
        simp [storeVar, sizeOf, typeInfo, hq, Value.cells, hs, hst]
    refine ⟨w.setRow g (old.toList.take o ++ cs.toList ++ old.toList.drop (o + cs.size)).toArray, _, L, ?_, hw'.write (bx3 _) (setRow_heap w g old _ e (0, 0) hg), k⟩; simp only [execOp, ha.ev hx, ha.ev hy, Instr.storeAt, Instr.sureAddr, Sem.run_bind, Sem.run_pure, Result.andThen_ok, hrun]
end
end Go.W
end
section
namespace Go.Proofs.YtcdopfjiadifhaaGreatDoor
open Go Go.W Tryz T F
set_option maxRecDepth 20000
attribute [local irreducible] HL HC HQ HB Row Rows2 Blk Facts
theorem az6 : Meets prog H2 [.int .u64 1, .int .u64 0] { val := fun _ : Unit => .tuple #[.int .u64 0, .int .u64 0] } := by
 refine j3 K5 rfl t8 fun w0 => ?_; refine d9 (c7 rfl (c7 rfl (k6 (b8 rfl ?_)))); refine q8 _ rfl rfl rfl (fun _ => rfl) (fun _ => rfl) ?_; refine c7 rfl (k6 (b8 rfl ?_)); refine q8 _ rfl rfl rfl (fun _ => rfl) (fun _ => rfl) ?_; refine c7 rfl (k6 (b8 rfl ?_)); refine q8 _ rfl rfl rfl (fun _ => rfl) (fun _ => rfl) ?_; refine c7 rfl (k6 (b8 rfl ?_)); refine q8 _ rfl rfl rfl (fun _ => rfl) (fun _ => rfl) ?_; refine c7 rfl (k6 (b8 rfl (b8 rfl ?_))); refine q8 _ rfl rfl rfl (fun _ => rfl) (fun _ => rfl) ?_; refine c7 rfl (k6 (b8 rfl (b8 rfl ?_))); refine q8 _ rfl rfl rfl (fun _ => rfl) (fun _ => rfl) (b8 rfl (q8 _ rfl rfl rfl (fun _ => rfl) (fun _ => rfl) (q8 _ rfl rfl rfl (fun _ => rfl) (fun _ => rfl) ?_))); refine c7 rfl (k6 (b8 rfl ?_)); refine q8 _ rfl rfl rfl (fun _ => rfl) (fun _ => rfl) ?_; refine c7 rfl (k6 (b8 rfl ?_)); refine q8 _ rfl rfl rfl (fun _ => rfl) (fun _ => rfl) ?_; refine c7 rfl (k6 (b8 rfl (b8 rfl (b8 rfl ?_)))); refine q8 _ rfl rfl rfl (fun _ => rfl) (fun _ => rfl) (q8 _ rfl rfl rfl (fun _ => rfl) (fun _ => rfl) ?_); refine c7 rfl (k6 (b8 rfl (b8 rfl ?_))); refine q8 _ rfl rfl rfl (fun _ => rfl) (fun _ => rfl) (b8 rfl (q8 _ rfl rfl rfl (fun _ => rfl) (fun _ => rfl) (b8 rfl (q8 _ rfl rfl rfl (fun _ => rfl) (fun _ => rfl) (q8 _ rfl rfl rfl (fun _ => rfl) (fun _ => rfl) ?_))))); refine c7 rfl (k6 (b8 rfl (b8 rfl ?_))); refine q8 _ rfl rfl rfl (fun _ => rfl) (fun _ => rfl) ?_; refine c7 rfl (d8 (k5 ?_)); exact ret2 () rfl rfl rfl rfl rfl tK nK tK
theorem az5 : Meets prog H2 [.int .u64 1, .int .u64 1] { val := fun _ : Unit => .tuple #[.int .u64 0, .int .u64 1] } := by
 refine j3 K5 rfl t8 fun w0 => ?_; refine d9 (c7 rfl (c7 rfl (k6 (b8 rfl ?_)))); refine q8 _ rfl rfl rfl (fun _ => rfl) (fun _ => rfl) ?_; refine c7 rfl (k6 (b8 rfl ?_)); refine q8 _ rfl rfl rfl (fun _ => rfl) (fun _ => rfl) ?_; refine c7 rfl (k6 (b8 rfl ?_)); refine q8 _ rfl rfl rfl (fun _ => rfl) (fun _ => rfl) ?_; refine c7 rfl (k6 (b8 rfl ?_)); refine q8 _ rfl rfl rfl (fun _ => rfl) (fun _ => rfl) ?_; refine c7 rfl (k6 (b8 rfl (b8 rfl ?_))); refine q8 _ rfl rfl rfl (fun _ => rfl) (fun _ => rfl) ?_; refine c7 rfl (k6 (b8 rfl (b8 rfl ?_))); refine q8 _ rfl rfl rfl (fun _ => rfl) (fun _ => rfl) (b8 rfl (q8 _ rfl rfl rfl (fun _ => rfl) (fun _ => rfl) (q8 _ rfl rfl rfl (fun _ => rfl) (fun _ => rfl) ?_))); refine c7 rfl (k6 (b8 rfl ?_)); refine q8 _ rfl rfl rfl (fun _ => rfl) (fun _ => rfl) ?_; refine c7 rfl (k6 (b8 rfl ?_)); refine q8 _ rfl rfl rfl (fun _ => rfl) (fun _ => rfl) ?_; refine c7 rfl (k6 (b8 rfl (b8 rfl (b8 rfl ?_)))); refine q8 _ rfl rfl rfl (fun _ => rfl) (fun _ => rfl) (q8 _ rfl rfl rfl (fun _ => rfl) (fun _ => rfl) ?_); refine c7 rfl (k6 (b8 rfl (b8 rfl ?_))); refine q8 _ rfl rfl rfl (fun _ => rfl) (fun _ => rfl) (b8 rfl (q8 _ rfl rfl rfl (fun _ => rfl) (fun _ => rfl) (b8 rfl (q8 _ rfl rfl rfl (fun _ => rfl) (fun _ => rfl) (q8 _ rfl rfl rfl (fun _ => rfl) (fun _ => rfl) ?_))))); refine c7 rfl (k6 (b8 rfl (b8 rfl ?_))); refine q8 _ rfl rfl rfl (fun _ => rfl) (fun _ => rfl) ?_; refine c7 rfl (d8 (k5 ?_)); exact ret2 () rfl rfl rfl rfl rfl tK nK tK
theorem az4 : Meets prog H2 [.int .u64 1, .int .u64 2] { val := fun _ : Unit => .tuple #[.int .u64 0, .int .u64 2] } := by
 refine j3 K5 rfl t8 fun w0 => ?_; refine d9 (c7 rfl (c7 rfl (k6 (b8 rfl ?_)))); refine q8 _ rfl rfl rfl (fun _ => rfl) (fun _ => rfl) ?_; refine c7 rfl (k6 (b8 rfl ?_)); refine q8 _ rfl rfl rfl (fun _ => rfl) (fun _ => rfl) ?_; refine c7 rfl (k6 (b8 rfl ?_)); refine q8 _ rfl rfl rfl (fun _ => rfl) (fun _ => rfl) ?_; refine c7 rfl (k6 (b8 rfl ?_)); refine q8 _ rfl rfl rfl (fun _ => rfl) (fun _ => rfl) ?_; refine c7 rfl (k6 (b8 rfl (b8 rfl ?_))); refine q8 _ rfl rfl rfl (fun _ => rfl) (fun _ => rfl) ?_; refine c7 rfl (k6 (b8 rfl (b8 rfl ?_))); refine q8 _ rfl rfl rfl (fun _ => rfl) (fun _ => rfl) (b8 rfl (q8 _ rfl rfl rfl (fun _ => rfl) (fun _ => rfl) (q8 _ rfl rfl rfl (fun _ => rfl) (fun _ => rfl) ?_))); refine c7 rfl (k6 (b8 rfl ?_)); refine q8 _ rfl rfl rfl (fun _ => rfl) (fun _ => rfl) ?_; refine c7 rfl (k6 (b8 rfl ?_)); refine q8 _ rfl rfl rfl (fun _ => rfl) (fun _ => rfl) ?_; refine c7 rfl (k6 (b8 rfl (b8 rfl (b8 rfl ?_)))); refine q8 _ rfl rfl rfl (fun _ => rfl) (fun _ => rfl) (q8 _ rfl rfl rfl (fun _ => rfl) (fun _ => rfl) ?_); refine c7 rfl (k6 (b8 rfl (b8 rfl ?_))); refine q8 _ rfl rfl rfl (fun _ => rfl) (fun _ => rfl) (b8 rfl (q8 _ rfl rfl rfl (fun _ => rfl) (fun _ => rfl) (b8 rfl (q8 _ rfl rfl rfl (fun _ => rfl) (fun _ => rfl) (q8 _ rfl rfl rfl (fun _ => rfl) (fun _ => rfl) ?_))))); refine c7 rfl (k6 (b8 rfl (b8 rfl ?_))); refine q8 _ rfl rfl rfl (fun _ => rfl) (fun _ => rfl) ?_; refine c7 rfl (d8 (k5 ?_)); exact ret2 () rfl rfl rfl rfl rfl tK nK tK
theorem az3 : Meets prog H2 [.int .u64 1, .int .u64 3] { val := fun _ : Unit => .tuple #[.int .u64 0, .int .u64 3] } := by
 refine j3 K5 rfl t8 fun w0 => ?_; refine d9 (c7 rfl (c7 rfl (k6 (b8 rfl ?_)))); refine q8 _ rfl rfl rfl (fun _ => rfl) (fun _ => rfl) ?_; refine c7 rfl (k6 (b8 rfl ?_)); refine q8 _ rfl rfl rfl (fun _ => rfl) (fun _ => rfl) ?_; refine c7 rfl (k6 (b8 rfl ?_)); refine q8 _ rfl rfl rfl (fun _ => rfl) (fun _ => rfl) ?_; refine c7 rfl (k6 (b8 rfl ?_)); refine q8 _ rfl rfl rfl (fun _ => rfl) (fun _ => rfl) ?_; refine c7 rfl (k6 (b8 rfl (b8 rfl ?_))); refine q8 _ rfl rfl rfl (fun _ => rfl) (fun _ => rfl) ?_; refine c7 rfl (k6 (b8 rfl (b8 rfl ?_))); refine q8 _ rfl rfl rfl (fun _ => rfl) (fun _ => rfl) (b8 rfl (q8 _ rfl rfl rfl (fun _ => rfl) (fun _ => rfl) (q8 _ rfl rfl rfl (fun _ => rfl) (fun _ => rfl) ?_))); refine c7 rfl (k6 (b8 rfl ?_)); refine q8 _ rfl rfl rfl (fun _ => rfl) (fun _ => rfl) ?_; refine c7 rfl (k6 (b8 rfl ?_)); refine q8 _ rfl rfl rfl (fun _ => rfl) (fun _ => rfl) ?_; refine c7 rfl (k6 (b8 rfl (b8 rfl (b8 rfl ?_)))); refine q8 _ rfl rfl rfl (fun _ => rfl) (fun _ => rfl) (q8 _ rfl rfl rfl (fun _ => rfl) (fun _ => rfl) ?_); refine c7 rfl (k6 (b8 rfl (b8 rfl ?_))); refine q8 _ rfl rfl rfl (fun _ => rfl) (fun _ => rfl) (b8 rfl (q8 _ rfl rfl rfl (fun _ => rfl) (fun _ => rfl) (b8 rfl (q8 _ rfl rfl rfl (fun _ => rfl) (fun _ => rfl) (q8 _ rfl rfl rfl (fun _ => rfl) (fun _ => rfl) ?_))))); refine c7 rfl (k6 (b8 rfl (b8 rfl ?_))); refine q8 _ rfl rfl rfl (fun _ => rfl) (fun _ => rfl) ?_; refine c7 rfl (d8 (k5 ?_)); exact ret2 () rfl rfl rfl rfl rfl tK nK tK
theorem az2 : Meets prog H2 [.int .u64 1, .int .u64 4] { val := fun _ : Unit => .tuple #[.int .u64 0, .int .u64 4] } := by
 refine j3 K5 rfl t8 fun w0 => ?_; refine d9 (c7 rfl (c7 rfl (k6 (b8 rfl ?_)))); refine q8 _ rfl rfl rfl (fun _ => rfl) (fun _ => rfl) ?_; refine c7 rfl (k6 (b8 rfl ?_)); refine q8 _ rfl rfl rfl (fun _ => rfl) (fun _ => rfl) ?_; refine c7 rfl (k6 (b8 rfl ?_)); refine q8 _ rfl rfl rfl (fun _ => rfl) (fun _ => rfl) ?_; refine c7 rfl (k6 (b8 rfl ?_)); refine q8 _ rfl rfl rfl (fun _ => rfl) (fun _ => rfl) ?_; refine c7 rfl (k6 (b8 rfl (b8 rfl ?_))); refine q8 _ rfl rfl rfl (fun _ => rfl) (fun _ => rfl) ?_; refine c7 rfl (k6 (b8 rfl (b8 rfl ?_))); refine q8 _ rfl rfl rfl (fun _ => rfl) (fun _ => rfl) (b8 rfl (q8 _ rfl rfl rfl (fun _ => rfl) (fun _ => rfl) (q8 _ rfl rfl rfl (fun _ => rfl) (fun _ => rfl) ?_))); refine c7 rfl (k6 (b8 rfl ?_)); refine q8 _ rfl rfl rfl (fun _ => rfl) (fun _ => rfl) ?_; refine c7 rfl (k6 (b8 rfl ?_)); refine q8 _ rfl rfl rfl (fun _ => rfl) (fun _ => rfl) ?_; refine c7 rfl (k6 (b8 rfl (b8 rfl (b8 rfl ?_)))); refine q8 _ rfl rfl rfl (fun _ => rfl) (fun _ => rfl) (q8 _ rfl rfl rfl (fun _ => rfl) (fun _ => rfl) ?_); refine c7 rfl (k6 (b8 rfl (b8 rfl ?_))); refine q8 _ rfl rfl rfl (fun _ => rfl) (fun _ => rfl) (b8 rfl (q8 _ rfl rfl rfl (fun _ => rfl) (fun _ => rfl) (b8 rfl (q8 _ rfl rfl rfl (fun _ => rfl) (fun _ => rfl) (q8 _ rfl rfl rfl (fun _ => rfl) (fun _ => rfl) ?_))))); refine c7 rfl (k6 (b8 rfl (b8 rfl ?_))); refine q8 _ rfl rfl rfl (fun _ => rfl) (fun _ => rfl) ?_; refine c7 rfl (d8 (k5 ?_)); exact ret2 () rfl rfl rfl rfl rfl tK nK tK
theorem az1 : Meets prog H2 [.int .u64 1, .int .u64 5] { val := fun _ : Unit => .tuple #[.int .u64 0, .int .u64 5] } := by
 refine j3 K5 rfl t8 fun w0 => ?_; refine d9 (c7 rfl (c7 rfl (k6 (b8 rfl ?_)))); refine q8 _ rfl rfl rfl (fun _ => rfl) (fun _ => rfl) ?_; refine c7 rfl (k6 (b8 rfl ?_)); refine q8 _ rfl rfl rfl (fun _ => rfl) (fun _ => rfl) ?_; refine c7 rfl (k6 (b8 rfl ?_)); refine q8 _ rfl rfl rfl (fun _ => rfl) (fun _ => rfl) ?_; refine c7 rfl (k6 (b8 rfl ?_)); refine q8 _ rfl rfl rfl (fun _ => rfl) (fun _ => rfl) ?_; refine c7 rfl (k6 (b8 rfl (b8 rfl ?_))); refine q8 _ rfl rfl rfl (fun _ => rfl) (fun _ => rfl) ?_; refine c7 rfl (k6 (b8 rfl (b8 rfl ?_))); refine q8 _ rfl rfl rfl (fun _ => rfl) (fun _ => rfl) (b8 rfl (q8 _ rfl rfl rfl (fun _ => rfl) (fun _ => rfl) (q8 _ rfl rfl rfl (fun _ => rfl) (fun _ => rfl) ?_))); refine c7 rfl (k6 (b8 rfl ?_)); refine q8 _ rfl rfl rfl (fun _ => rfl) (fun _ => rfl) ?_; refine c7 rfl (k6 (b8 rfl ?_)); refine q8 _ rfl rfl rfl (fun _ => rfl) (fun _ => rfl) ?_; refine c7 rfl (k6 (b8 rfl (b8 rfl (b8 rfl ?_)))); refine q8 _ rfl rfl rfl (fun _ => rfl) (fun _ => rfl) (q8 _ rfl rfl rfl (fun _ => rfl) (fun _ => rfl) ?_); refine c7 rfl (k6 (b8 rfl (b8 rfl ?_))); refine q8 _ rfl rfl rfl (fun _ => rfl) (fun _ => rfl) (b8 rfl (q8 _ rfl rfl rfl (fun _ => rfl) (fun _ => rfl) (b8 rfl (q8 _ rfl rfl rfl (fun _ => rfl) (fun _ => rfl) (q8 _ rfl rfl rfl (fun _ => rfl) (fun _ => rfl) ?_))))); refine c7 rfl (k6 (b8 rfl (b8 rfl ?_))); refine q8 _ rfl rfl rfl (fun _ => rfl) (fun _ => rfl) ?_; refine c7 rfl (d8 (k5 ?_)); exact ret2 () rfl rfl rfl rfl rfl tK nK tK
theorem az0 : Meets prog H2 [.int .u64 1, .int .u64 6] { val := fun _ : Unit => .tuple #[.int .u64 0, .int .u64 6] } := by
 refine j3 K5 rfl t8 fun w0 => ?_; refine d9 (c7 rfl (c7 rfl (k6 (b8 rfl ?_)))); refine q8 _ rfl rfl rfl (fun _ => rfl) (fun _ => rfl) ?_; refine c7 rfl (k6 (b8 rfl ?_)); refine q8 _ rfl rfl rfl (fun _ => rfl) (fun _ => rfl) ?_; refine c7 rfl (k6 (b8 rfl ?_)); refine q8 _ rfl rfl rfl (fun _ => rfl) (fun _ => rfl) ?_; refine c7 rfl (k6 (b8 rfl ?_)); refine q8 _ rfl rfl rfl (fun _ => rfl) (fun _ => rfl) ?_; refine c7 rfl (k6 (b8 rfl (b8 rfl ?_))); refine q8 _ rfl rfl rfl (fun _ => rfl) (fun _ => rfl) ?_; refine c7 rfl (k6 (b8 rfl (b8 rfl ?_))); refine q8 _ rfl rfl rfl (fun _ => rfl) (fun _ => rfl) (b8 rfl (q8 _ rfl rfl rfl (fun _ => rfl) (fun _ => rfl) (q8 _ rfl rfl rfl (fun _ => rfl) (fun _ => rfl) ?_))); refine c7 rfl (k6 (b8 rfl ?_)); refine q8 _ rfl rfl rfl (fun _ => rfl) (fun _ => rfl) ?_; refine c7 rfl (k6 (b8 rfl ?_)); refine q8 _ rfl rfl rfl (fun _ => rfl) (fun _ => rfl) ?_; refine c7 rfl (k6 (b8 rfl (b8 rfl (b8 rfl ?_)))); refine q8 _ rfl rfl rfl (fun _ => rfl) (fun _ => rfl) (q8 _ rfl rfl rfl (fun _ => rfl) (fun _ => rfl) ?_); refine c7 rfl (k6 (b8 rfl (b8 rfl ?_))); refine q8 _ rfl rfl rfl (fun _ => rfl) (fun _ => rfl) (b8 rfl (q8 _ rfl rfl rfl (fun _ => rfl) (fun _ => rfl) (b8 rfl (q8 _ rfl rfl rfl (fun _ => rfl) (fun _ => rfl) (q8 _ rfl rfl rfl (fun _ => rfl) (fun _ => rfl) ?_))))); refine c7 rfl (k6 (b8 rfl (b8 rfl ?_))); refine q8 _ rfl rfl rfl (fun _ => rfl) (fun _ => rfl) ?_; refine c7 rfl (d8 (k5 ?_)); exact ret2 () rfl rfl rfl rfl rfl tK nK tK
theorem wB (n : Nat) (hn : n ≤ 6) : Meets prog H2 [.int .u64 1, .int .u64 (n : Int)] { val := fun _ : Unit => .tuple #[.int .u64 0, .int .u64 (n : Int)] } := by
  match n, hn with
  | 0, _ => exact az6
  | 1, _ => exact az5
  | 2, _ => exact az4
  | 3, _ => exact az3
  | 4, _ => exact az2
  | 5, _ => exact az1
  | 6, _ => exact az0
theorem wrapu {n : Nat} (h : n ≤ 1000000) : IntKind.u64.wrap (n : Int) = n := IntWalk.u64_in _ (by omega)
theorem wrapi {n : Nat} (h : n ≤ 1000000) : IntKind.i64.wrap (n : Int) = n := IntWalk.i64_in _ (by omega)
theorem vx3 {m k : Nat} {v : Value} {l : List Value} (h : l.take k = List.replicate k v) (hm : k + m ≤ l.length) : (l.take k ++ List.replicate m v ++ l.drop (k + m)).take (k + m) = List.replicate (k + m) v := by
  rw [h, List.replicate_append_replicate]; exact List.take_left' (by simp)
theorem rep_get {k m : Nat} {v : Value} {cu : Array Value} (h : cu.toList.take k = List.replicate k v) (hm : m ≤ k) (i : Nat) (u : Value) (hu : (List.replicate m v)[i]? = some u) : cu[0 + i]? = some u := by
  rw [List.getElem?_replicate] at hu
  split at hu
  · rename_i hi
    cases hu
    have h2 : (cu.toList.take k)[i]? = some v := by rw [h, List.getElem?_replicate, if_pos (by omega)]
    rw [List.getElem?_take, if_pos (by omega)] at h2; rw [Nat.zero_add]
    simpa using h2
  cases hu
theorem cut_k {g n k : Nat} (h : k < n) : cutA (d6 g) n k 1 = some ⟨g, k, none⟩ := by
  rw [cutA, if_neg (by omega)]
  simp [Addr.add]
  omega
theorem pz9 (x : Int) : ∀ n : Nat, rows (List.replicate n x) = List.replicate n (int x)
  | 0 => rfl
  | n + 1 => by
    rw [List.replicate_succ, List.replicate_succ, ← pz9 x n]
    rfl
theorem zT (n : Nat) (hn : n ≤ 6) : Meets prog jA [.int .u64 1, .int .u64 (n : Int)] { val := fun _ : Unit => .tuple #[.int .u64 0, .int .u64 (n : Int)] } := by
 refine j3 bj8 rfl t8 fun w0 => ?_; refine d9 (c7 rfl (c7 rfl (d8 (i7 (c_f rfl rfl (j6 (i8 (d9 ?_)))))))); refine b8 rfl (b8 rfl ?_); refine j5 wI rfl rfl (wB n hn) p6 tK fun _ _ => ?_; refine b8 rfl (m4 rfl rfl rfl (m4 rfl rfl rfl (c7 rfl (c7 rfl (k6 (b8 rfl (b8 rfl (c7 rfl ?_)))))))); refine c7 rfl (d8 (k5 ?_)); exact ret2 () rfl rfl rfl rfl rfl tK nK tK
set_option maxHeartbeats 1000000 in
theorem qR {b0 cb : Nat} (x : Int) (n : Nat) (h0 : 0 < n) (hn : n ≤ 6) : Meets prog aJ [.slice (d6 b0) 1 cb, int n] { LI := [Row (d6 b0) (rows [x])], val := fun g : Nat => .slice (d6 g) n n, hpO := fun g => [(g, .cells (rows (List.replicate n x)).toArray H8 (0, 0))] } := by
 refine j3 tD rfl t8 fun w0 => ?_; refine d9 (c7 rfl (d8 (i7 (d9 (b8 rfl (C4 rfl rfl rfl (d8 ?_))))))); refine m6 rfl (fun hb1 => ?_) (fun hb1 => ?_)
 ·exact absurd hb1 (by omega)
 refine j6 (i8 (d9 (b8 rfl ?_))); refine l7 rfl l8 rfl (aH 1 rfl X8 gq3 rfl (wrapu (n := 1) (by decide)) (b8 rfl (aH (n : Int) rfl X8 gq3 rfl (wrapu (by omega)) (j5 zX rfl rfl (zT n hn) p6 tK fun _ _ => ?_)))); refine b8 rfl (m4 rfl rfl rfl (m4 rfl rfl rfl (c7 rfl (c7 rfl (d8 (i7 (d9 (b8 rfl (P4 rfl rfl rfl ?_))))))))); refine b8 rfl ?_; refine t7 rfl rfl ?_ ?_
 ·intro hg1; refine l9 hg1 (b8 rfl (l9 hg1 (P4 rfl rfl rfl ?_))); refine p_f rfl rfl (bf1 hg1) rfl (d8 ?_); refine m6 rfl (fun hb2 => ?_) (fun hb2 => ?_)
  ·exact absurd hb2 (by omega)
  refine j6 (i8 (d9 (b8 rfl ?_))); refine aH (n : Int) rfl gq3 X8 rfl (wrapi (by omega)) (r_makeN (n := n) mG rfl rfl rfl rfl rfl (by omega) (by omega) fun gM cur hcs => ?_); refine c7 rfl (k6 (b8 rfl (b8 rfl ?_))); refine rx1 (cs := [int x]) (off := 0) rfl l8 m9 rfl rfl p6 (show 1 = Nat.min 1 n from (Nat.min_eq_left h0).symm) (H5 (cs := [int x]) (j := 0) mB (fun i u hu => by rw [Nat.zero_add]; exact hu)) (by simp; omega) (by intro v hv; rw [List.mem_singleton.1 hv]; rfl) ?_; refine c7 rfl (d8 (i7 (j8 ?_))); refine y8 (β := Nat × Array Value) ⟨fun y => 1 ≤ y.1 ∧ y.1 ≤ n ∧ y.2.size = n ∧ y.2.toList.take y.1 = List.replicate y.1 (int x), fun y => [(7, .slice (d6 gM) n n), (8, int y.1)], fun y => [(gM, .cells y.2 H8 (0, 0))], fun _ => []⟩ (fun y => n - y.1) (1, _) ⟨Nat.le_refl _, h0, by simp; omega, by simp⟩ mC (List.Sublist.refl _) tK fun y hy => ?_; obtain ⟨k, cu⟩ := y; obtain ⟨h1, hk, hcu, ht⟩ := hy; simp only at h1 hk hcu ht; refine i7 (d9 (b8 rfl (b8 rfl ?_))); refine l7 rfl l8 rfl ?_; refine C4 rfl rfl rfl (d8 ?_); refine m6 rfl (fun hb3 => ?_) (fun hb3 => ?_)
  ·have hk2 : k < n := by omega
   obtain ⟨m, hm, hm1, hm2, hm3⟩ : ∃ m, m = Nat.min k (n - k) ∧ 1 ≤ m ∧ m ≤ k ∧ m ≤ n - k := ⟨min k (n - k), rfl, by omega, by omega, by omega⟩; refine j6 (i8 (j8 ?_)); refine Y4 ([(gM, .cells cu H8 (0, 0))]) ([]) p6 8 [7] mixed (by decide) (by decide) (by decide) rfl rfl rfl (u4 rfl (u4 rfl (u4 rfl (k7 (fun w1 => ax5 k rfl l8 m9 rfl rfl rfl (by omega) (q_z rfl)) (u4 rfl (u4 rfl (k7 (fun w1 => uB k rfl l8 m9 rfl rfl rfl (by omega) (q_z rfl)) ?_))))))); refine kY ⟨Array Value, fun c2 => c2.size = n ∧ c2.toList.take (k + m) = List.replicate (k + m) (int x), fun _ => int (m : Int), fun _ => [], fun c2 => [(gM, Obj.cells c2 H8 (0, 0))]⟩ rfl rfl rfl ?_ ?_
   ·intro w1; refine rx1 (g := gM) (off := k) (ad := ⟨gM, 0, none⟩) (cs := List.replicate m (int x)) rfl l8 m9 (show ev _ _ = some (.slice (some ⟨gM, k, none⟩) (n - k) (n - k)) from congrArg (fun A => some (Value.slice A (n - k) (n - k))) (cut_k hk2)) rfl p6 (by rw [List.length_replicate]; exact hm) (dV (List.mem_cons_self ..) (rep_get ht hm2)) (by rw [List.length_replicate]; omega) (by intro v hv; rw [List.eq_of_mem_replicate hv]; rfl) ?_; refine j4 ?_; exact Q3 _ ⟨by simp; omega, by rw [List.length_replicate]; exact vx3 ht (by simp; omega)⟩ (fun _ => congrArg (fun z : Nat => some (int (z : Int))) List.length_replicate) (.refl _) tK
   refine E1 ⟨rfl, ?_⟩; intro c2 hc2; refine v8 _ rfl rfl rfl rfl r6 ?_; refine c7 rfl (j4 (w9 ?_)); exact again _ (k + m, c2) ⟨by show 1 ≤ k + m; omega, by show k + m ≤ n; omega, hc2.1, hc2.2⟩ (by show n - (k + m) < n - k; omega) mC (List.Sublist.refl _) tK
  obtain rfl : k = n := by omega
  obtain rfl : cu = (rows (List.replicate k x)).toArray := by
    rw [pz9, ← ht, List.take_of_length_le (by simp; omega)]
  refine w8 (E4 (w6 (i8 (d9 (b8 rfl (c7 rfl (d8 (k5 ?_)))))))); exact ret1 gM rfl rfl rfl tK (List.Sublist.refl _) tK
 intro hg1; have hg1' := hg1; try simp at hg1'
attribute [local irreducible] KC KL
theorem kx8 : ∀ {n : Nat} {l : List Nat}, l.Nodup → (∀ y ∈ l, y < n) → l.length ≤ n
  | 0, [], _, _ => Nat.le_refl _
  | 0, x :: l, _, h => by have := h x (by simp); omega
  | n + 1, l, hnd, h => by
    have h1 := kx8 (n := n) (hnd.erase n) fun y hy => by
      have h2 := (List.Nodup.mem_erase_iff hnd).1 hy; have h3 := h y h2.2; have := h2.1
      omega
    rw [List.length_erase] at h1
    split at h1 <;> omega
section
variable {n : Nat} {e : Edges} {h : Nat}
abbrev dAt (ds : List Int) (i : Nat) : Int := ds.getD i default
structure Bf (n : Nat) (e : Edges) (h : Nat) (ds : List Int) : Prop where
  len : ds.length = n
  lo : ∀ i, i < n → -1 ≤ dAt ds i
  at_ : ∀ i, i < n → 0 ≤ dAt ds i → reachB n e h (dAt ds i).toNat i = true ∧ ∀ m, m < (dAt ds i).toNat → reachB n e h m i = false
structure Bo (n : Nat) (e : Edges) (h : Nat) (k : Nat) (ds : List Int) (q : List Nat) : Prop where
  b : Bf n e h ds
  nd : q.Nodup
  inq : ∀ y ∈ q, y < n ∧ (dAt ds y = (k : Int) ∨ dAt ds y = (k : Int) + 1)
  srt : q.Pairwise fun a b => dAt ds a ≤ dAt ds b
  pr : ∀ i, i < n → 0 ≤ dAt ds i → i ∉ q → ∀ s, s < n → e i s = true → 0 ≤ dAt ds s
  lv : ∀ i, i < n → reachB n e h k i = true → 0 ≤ dAt ds i
structure Br (n : Nat) (e : Edges) (h : Nat) (k : Nat) (x : Nat) (ds : List Int) (q : List Nat) : Prop where
  b : Bf n e h ds
  hx : x < n
  dx : dAt ds x = (k : Int)
  nd : q.Nodup
  inq : ∀ y ∈ q, y < n ∧ (dAt ds y = (k : Int) ∨ dAt ds y = (k : Int) + 1)
  srt : q.Pairwise fun a b => dAt ds a ≤ dAt ds b
  pr : ∀ i, i < n → 0 ≤ dAt ds i → i ∉ q → i ≠ x → ∀ s, s < n → e i s = true → 0 ≤ dAt ds s
  lv : ∀ i, i < n → reachB n e h k i = true → 0 ≤ dAt ds i
theorem bf_le {ds : List Int} (hb : Bf n e h ds) {i m : Nat} (hi : i < n) (hr : reachB n e h m i = true) (h0 : 0 ≤ dAt ds i) : dAt ds i ≤ (m : Int) := by
  apply Classical.byContradiction
  intro hn; have := (hb.at_ i hi h0).2 m (by omega); rw [hr] at this; cases this
theorem bo_pop {k : Nat} {ds : List Int} {x : Nat} {q : List Nat} (H : Bo n e h k ds (x :: q)) : ∃ k', Br n e h k' x ds q := by
  obtain ⟨hx, hdx⟩ := H.inq x (by simp); have hs := List.pairwise_cons.1 H.srt; have hnd := List.nodup_cons.1 H.nd
  rcases hdx with hdx | hdx
  · refine ⟨k, H.b, hx, hdx, hnd.2, fun y hy => H.inq y (by simp [hy]), hs.2, fun i hi h0 hq hix => H.pr i hi h0 (by simp [hq, hix]), H.lv⟩
  refine ⟨k + 1, H.b, hx, by rw [hdx]; omega, hnd.2, fun y hy => ?_, hs.2, fun i hi h0 hq hix => H.pr i hi h0 (by simp [hq, hix]), fun i hi hr => ?_⟩
  · have h1 := H.inq y (by simp [hy])
    have h2 := hs.1 y hy; refine ⟨h1.1, .inl ?_⟩
    rcases h1.2 with h3 | h3 <;> omega
  rcases mM.1 hr with h1 | ⟨z, hz, hrz, hez⟩
  · exact H.lv i hi h1
  have hz0 := H.lv z hz hrz; have hzk := bf_le H.b hz hrz hz0; refine H.pr z hz hz0 (fun hm => ?_) i hi hez
  rcases List.mem_cons.1 hm with e1 | hm
  · subst e1; omega
  have := hs.1 z hm
  omega
theorem gj5 {ds : List Int} {i j : Nat} {v : Int} (hi : i < ds.length) : dAt (ds.set i v) j = if j = i then v else dAt ds j := by
  unfold dAt; rw [List.getD_eq_getElem?_getD, List.getElem?_set, List.getD_eq_getElem?_getD]
  by_cases e1 : i = j
  · subst e1; rw [if_pos rfl, if_pos rfl, if_pos hi]; rfl
  rw [if_neg e1, if_neg (fun e2 => e1 e2.symm)]
theorem br_put {k x i : Nat} {ds : List Int} {q : List Nat} (H : Br n e h k x ds q) (hi : i < n) (hei : e x i = true) (h0 : dAt ds i < 0) : Br n e h k x (ds.set i (dAt ds x + 1)) (q ++ [i]) ∧ q.length < n := by
  have hil : i < ds.length := by rw [H.b.len]; exact hi
  have hg : ∀ j, dAt (ds.set i (dAt ds x + 1)) j = if j = i then dAt ds x + 1 else dAt ds j := fun j => gj5 hil; have hge : ∀ j, ¬ j = i → dAt (ds.set i (dAt ds x + 1)) j = dAt ds j := fun j hj => by rw [hg, if_neg hj]
  have hgi : dAt (ds.set i (dAt ds x + 1)) i = (k : Int) + 1 := by rw [hg, if_pos rfl, H.dx]
  have hxi : ¬ x = i := fun e1 => by subst e1; have := H.dx; omega
  have hiq : i ∉ q := fun hm => by rcases (H.inq i hm).2 with h1 | h1 <;> omega
  have hqi : ∀ y ∈ q, ¬ y = i := fun y hy e1 => by subst e1; exact hiq hy
  have hnd : (q ++ [i]).Nodup := by
    rw [List.nodup_append]; exact ⟨H.nd, by simp, fun a ha b hb e1 => by rw [List.mem_singleton] at hb; subst hb; subst e1; exact hiq ha⟩
  have hrx := H.b.at_ x H.hx (by rw [H.dx]; omega); rw [H.dx, Int.toNat_natCast] at hrx
  have hni : reachB n e h k i = false := by
    cases hc : reachB n e h k i with
    | false => rfl
    | true => have := H.lv i hi hc; omega
  refine ⟨⟨⟨by rw [List.length_set]; exact H.b.len, fun j hj => ?_, fun j hj hj0 => ?_⟩, H.hx, by rw [hge x hxi]; exact H.dx, hnd, fun y hy => ?_, ?_, fun j hj hj0 hjq hjx s hs hes => ?_, fun j hj hr => ?_⟩, ?_⟩
  · by_cases e1 : j = i
    · subst e1; rw [hgi]; omega
    rw [hge j e1]; exact H.b.lo j hj
  · by_cases e1 : j = i
    · subst e1
      rw [hgi, show ((k : Int) + 1).toNat = k + 1 by omega]; refine ⟨mM.2 (.inr ⟨x, H.hx, hrx.1, hei⟩), fun m hm => ?_⟩
      cases hc : reachB n e h m j with
      | false => rfl
      | true => rw [uA (show m ≤ k by omega) hc] at hni; cases hni
    rw [hge j e1] at hj0 ⊢; exact H.b.at_ j hj hj0
  · rcases List.mem_append.1 hy with hy | hy
    · rw [hge y (hqi y hy)]; exact H.inq y hy
    rw [List.mem_singleton] at hy; subst hy; exact ⟨hi, .inr hgi⟩
  · rw [List.pairwise_append]
    refine ⟨H.srt.imp_of_mem fun {a b} ha hb hab => by rw [hge a (hqi a ha), hge b (hqi b hb)]; exact hab, by simp, fun a ha b hb => ?_⟩; rw [List.mem_singleton] at hb; subst hb; rw [hgi, hge a (hqi a ha)]
    rcases (H.inq a ha).2 with h1 | h1 <;> omega
  · have hji : ¬ j = i := fun e1 => hjq (by simp [e1])
    rw [hge j hji] at hj0; have := H.pr j hj hj0 (fun hm => hjq (by simp [hm])) hjx s hs hes
    by_cases e1 : s = i
    · subst e1; rw [hgi]; omega
    rw [hge s e1]; exact this
  · by_cases e1 : j = i
    · subst e1; rw [hgi]; omega
    rw [hge j e1]; exact H.lv j hj hr
  have h1 : (q ++ [i]).length ≤ n := kx8 hnd fun y hy => by
    rcases List.mem_append.1 hy with hy | hy
    · exact (H.inq y hy).1
    rw [List.mem_singleton] at hy; subst hy; exact hi
  rw [List.length_append, List.length_singleton] at h1
  omega
theorem br_k {k x : Nat} {ds : List Int} {q : List Nat} (hh : h < n) (H : Br n e h k x ds q) : k ≤ n := by
  have hr := H.b.at_ x H.hx (by rw [H.dx]; omega); rw [H.dx, Int.toNat_natCast] at hr
  apply Classical.byContradiction
  intro hn; have := hr.2 n (by omega); rw [mx0 hh H.hx hr.1] at this; cases this
theorem br_done {k x : Nat} {ds : List Int} {q : List Nat} (H : Br n e h k x ds q) (hd : ∀ s, s < n → e x s = true → 0 ≤ dAt ds s) : Bo n e h k ds q :=
  ⟨H.b, H.nd, H.inq, H.srt, fun i hi h0 hq s hs hes => by
    by_cases e1 : i = x
    · subst e1; exact hd s hs hes
    exact H.pr i hi h0 hq e1 s hs hes, H.lv⟩
theorem bo_end {k : Nat} {ds : List Int} (hh : h < n) (H : Bo n e h k ds []) (h0 : dAt ds h = 0) : ds = (List.range n).map fun i => distI n e h i := by
  have hall : ∀ m i, i < n → reachB n e h m i = true → 0 ≤ dAt ds i := by
    intro m
    induction m with
    | zero => intro i hi hr; rw [reachB] at hr; rw [of_decide_eq_true hr, h0]; omega
    | succ m ih =>
      intro i hi hr
      rcases mM.1 hr with h1 | ⟨z, hz, hrz, hez⟩
      · exact ih i hi h1
      exact H.pr z hz (ih z hz hrz) (by simp) i hi hez
  refine List.ext_getElem (by rw [H.b.len, List.length_map, List.length_range]) fun i hi hi2 => ?_; rw [H.b.len] at hi; rw [List.getElem_map, List.getElem_range, ← D7]; have hlo := H.b.lo i hi; unfold distI
  cases hd : distB n e h i with
  | none =>
    have hr := uq8.1 hd; show dAt ds i = -1
    apply Classical.byContradiction
    intro hn; have h1 := (H.b.at_ i hi (by omega)).1; have h2 := hr n (Nat.le_refl _); rw [mx0 hh hi h1] at h2; cases h2
  | some s =>
    have hr := uq7.1 hd; show dAt ds i = (s : Int); have h1 := hall s i hi hr.2.1; have h2 := bf_le H.b hi hr.2.1 h1; have h3 := (H.b.at_ i hi h1).1
    apply Classical.byContradiction
    intro hn; have h4 := hr.2.2 (dAt ds i).toNat (by omega); rw [h3] at h4; cases h4
theorem xq6 (hh : h < n) : Bo n e h 0 ((List.replicate n (-1 : Int)).set h 0) [h] := by
  have hg : ∀ j, dAt ((List.replicate n (-1 : Int)).set h 0) j = if j = h then 0 else dAt (List.replicate n (-1 : Int)) j := fun j => gj5 (by rw [List.length_replicate]; exact hh)
  have hm : ∀ j, j < n → ¬ j = h → dAt ((List.replicate n (-1 : Int)).set h 0) j = -1 := fun j hj e1 => by
    rw [hg, if_neg e1]; unfold dAt; rw [List.getD_eq_getElem?_getD, List.getElem?_replicate, if_pos hj]; rfl
  have h0 : dAt ((List.replicate n (-1 : Int)).set h 0) h = 0 := by rw [hg, if_pos rfl]
  refine ⟨⟨by simp, fun j hj => ?_, fun j hj hj0 => ?_⟩, by simp, fun y hy => ?_, by simp, fun i hi hi0 hq => ?_, fun i hi hr => ?_⟩
  · by_cases e1 : j = h
    · subst e1; rw [h0]; omega
    rw [hm j hj e1]; omega
  · by_cases e1 : j = h
    · subst e1; rw [h0]; exact ⟨by simp [reachB], fun m hm => by simp at hm⟩
    rw [hm j hj e1] at hj0; omega
  · rw [List.mem_singleton] at hy; subst hy; exact ⟨hh, .inl h0⟩
  · by_cases e1 : i = h
    · subst e1; exact absurd (List.mem_singleton.2 rfl) hq
    rw [hm i hi e1] at hi0; omega
  rw [reachB] at hr; rw [of_decide_eq_true hr, h0]; omega
end
theorem zv_int (w : World) : (zeroValue H8).run prog w = .ok (int 0) w := p9
theorem tj8 (l : List Int) (k : Nat) (v : Int) : (rows l).toArray.setIfInBounds (0 + k * 1) (int v) = (rows (l.set k v)).toArray := by
  rw [← gx1 rfl (int v) v rfl]
  simp
theorem gq0 (l : List Int) : (rows l).toArray.toList.take (l.length * 1) = rows l := by
  have h1 : (rows l).length = l.length := by rw [Z7]; exact Nat.mul_one _
  rw [List.take_of_length_le (by simp [h1])]
theorem cnt_set {l : List Int} {i : Nat} {v : Int} (hi : i < l.length) (h : l.getD i default < 0) (hv : 0 ≤ v) : (l.set i v).countP (fun z => decide (z < 0)) + 1 = l.countP fun z => decide (z < 0) := by
  rw [D7 hi] at h; rw [List.countP_set hi]; have h1 : 0 < l.countP fun z => decide (z < 0) := List.countP_pos_iff.2 ⟨l[i], List.getElem_mem hi, by simpa using h⟩; rw [if_pos (by simpa using h), if_neg (by simpa using hv)]
  omega
set_option maxHeartbeats 2000000 in
theorem tQ {A B oa ka : Option Addr} {ca cb oc kc gl : Nat} (cs : List Cl) (hs : List Hd) (h : Nat) (hok : TrOK (trOf cs hs)) (hh : h < hs.length) : Meets prog cB [.pointer (d6 gl), int h] { LI := [Row (d6 gl) [.slice A cs.length ca, .slice B hs.length cb, .slice oa cs.length oc, .slice ka hs.length kc], Row ka (rows (kindsN hs hs.length)), RowsF B hs Hd.row], inv := fun x : OutC => (stepsT (trOf cs hs) (h : Int)).length ≤ x.2, val := fun x => .slice x.1 (stepsT (trOf cs hs) (h : Int)).length x.2, LO := fun x => [Row x.1 (rows (stepsT (trOf cs hs) (h : Int)))] } := by
 refine nz8 wC rfl t8 fun w0 => ?_; refine Y2 (N8 (c7 rfl (j4 (P6 (Y2 ?_))))); have h6h := hok.h6; have hln := bA cs hs; rw [hln] at h6h; refine N8 (p7 _ rfl rfl (fun _ => R8 ..) fun gS => ?_); refine b8 rfl (r9 rfl rfl ?_); refine a9 ⟨_, 3, none⟩ rfl rfl I5 rfl (c8 rfl M0 rfl (u7 mB rfl) (l7 rfl dY rfl (E0 (rows [(-1 : Int)]) ⟨[], List.append_nil _⟩ (j5 rD rfl rfl (qR (-1) hs.length (by omega) h6h) p6 mC fun g5 _ => ?_)))); refine c7 rfl (j4 (P6 (Y2 (N8 (b8 rfl (b8 rfl ?_)))))); refine B9 h (0 + h * 1) rfl l8 m9 rfl rfl rfl hh rfl ?_; refine z8 rfl rfl (.refl _) m9 (nz0 rfl (gq0 (List.replicate hs.length (-1))) (by rw [List.length_replicate]; exact hh) (by omega) rfl) (by rfl) ?_; rw [tj8]; refine j4 (P6 (Y2 (N8 (b8 rfl (r9 rfl rfl ?_))))); refine a9 ⟨_, 3, none⟩ rfl rfl I5 rfl (c8 rfl M0 rfl (u7 mB rfl) (l7 rfl dY rfl ?_)); obtain ⟨ii, zz, hii, _, _, hby, _⟩ := mG.i; refine ax6 (n := hs.length) rfl underlying183 hii rfl (by omega) (by rw [hby]; omega) fun gC => ?_; refine c7 rfl (j4 (P6 (Y2 (pj0 ?_)))); show KL _ _ _ [0, 1, 2] _ _ _; refine dj1 rfl rfl rfl (dj1 rfl rfl rfl ?_); refine sz0 (buf := []) rfl rfl rfl p6 (by simp; omega) ?_; refine rx9 (P6 (Y2 (Y2 (N8 (c7 rfl (j4 (P6 (dj6 ?_)))))))); refine sz1 (β := Nat × List Int × List Nat × Nat × Nat) ⟨fun x => Bo hs.length (nextB (trOf cs hs)) h x.1 x.2.1 x.2.2.1 ∧ dAt x.2.1 h = 0, fun x => [(0, .pointer (d6 gl)), (5, .slice (d6 g5) hs.length hs.length), (6, .chan (some gC)), (7, int x.2.2.1.length)], fun x => [(gC, chanO hs.length (x.2.2.1.map fun y : Nat => int (y : Int)) x.2.2.2.1 x.2.2.2.2), (g5, Obj.cells (rows x.2.1).toArray H8 (0, 0))], fun _ => [Row (d6 gl) [.slice A cs.length ca, .slice B hs.length cb, .slice oa cs.length oc, .slice ka hs.length kc], Row ka (rows (kindsN hs hs.length)), RowsF B hs Hd.row]⟩ (fun x => 2 * x.2.1.countP (fun z => decide (z < 0)) + x.2.2.1.length) (0, (List.replicate hs.length (-1 : Int)).set h 0, [h], 1, 0) ⟨xq6 hh, by rw [gj5 (by rw [List.length_replicate]; exact hh), if_pos rfl]⟩ mC (List.Sublist.refl _) mC fun x hx => ?_; obtain ⟨k, ds, q, s, r⟩ := x; obtain ⟨hB, hd0⟩ := hx; simp only at hB hd0; refine Y2 (Y2 (N8 (b8 rfl (P4 rfl rfl rfl (j4 (P6 ?_)))))); refine wq9 rfl (fun hb1 => ?_) (fun hb1 => ?_)
 ·obtain ⟨x, q, rfl⟩ : ∃ x q', q = x :: q' := by
    cases q with
    | nil => simp at hb1
    | cons x q => exact ⟨x, q, rfl⟩
  obtain ⟨k, hR⟩ := bo_pop hB; clear hB; have hx := hR.hx; have hin := next_in hok hx; have hnle := wj8 hok hx; have hnb := fun k => qq3 hok hx k; generalize hnl : nextL (hs.getD x default) = nl at hin hnle hnb; refine nz9 (P6 (Y2 (dj6 (Y2 (pj0 ?_))))); show KL _ _ _ [0, 1, 2] _ _ _; refine dj1 rfl rfl rfl ?_; refine kl_recv (v := int x) (buf := q.map fun y : Nat => int (y : Int)) rfl rfl underlying183 zv_int rfl p6 ?_; refine uj1 rfl rfl rfl (rx9 (P6 (Y2 (N8 (b8 rfl (r9 rfl rfl ?_)))))); refine a9 ⟨_, 3, none⟩ rfl rfl I5 rfl (c8 rfl M0 rfl (u7 mB rfl) (b8 rfl ?_)); refine r8 (α := Kd) (kindsN hs hs.length) x rfl dY gq4 rfl rfl rfl mB (zB (Nat.le_refl _)).symm (by rw [zB (Nat.le_refl _)]; exact hx) (by decide) ?_; refine c8 (v := (kindOf (hs.getD x default)).v) rfl aq3 rfl (k9 mB (by rw [← wq8 hx]; exact j9 (by rw [zB (Nat.le_refl _)]; exact hx) rfl)) ?_; refine uj6 (p := hs.getD x default) mB (A3 hx) (r_next rfl rfl rfl m0 fun o => ?_); rw [hnl]; refine l7 rfl l8 rfl ?_; refine b8 rfl (j4 (P6 (dj6 ?_))); refine sz1 (β := Nat × List Int × List Nat × Nat × Nat) ⟨fun y => y.1 ≤ nl.length ∧ Br hs.length (nextB (trOf cs hs)) h k x y.2.1 y.2.2.1 ∧ (∀ i, i < y.1 → 0 ≤ dAt y.2.1 (nl.getD i default).toNat) ∧ dAt y.2.1 h = 0 ∧ 2 * y.2.1.countP (fun z => decide (z < 0)) + y.2.2.1.length < 2 * ds.countP (fun z => decide (z < 0)) + (x :: q).length, fun y => [(0, .pointer (d6 gl)), (5, .slice (d6 g5) hs.length hs.length), (6, .chan (some gC)), (7, int (y.2.2.1.length + 1 : Nat)), (8, int x), (42, .slice o.1 nl.length o.2), (43, int nl.length), (44, int y.1)], fun y => [(gC, chanO hs.length (y.2.2.1.map fun y : Nat => int (y : Int)) y.2.2.2.1 y.2.2.2.2), (g5, Obj.cells (rows y.2.1).toArray H8 (0, 0))], fun _ => Row o.1 (rows nl) :: [Row (d6 gl) [.slice A cs.length ca, .slice B hs.length cb, .slice oa cs.length oc, .slice ka hs.length kc], Row ka (rows (kindsN hs hs.length)), RowsF B hs Hd.row]⟩ (fun y => nl.length - y.1) (0, ds, q, s, r + 1) ⟨Nat.zero_le _, hR, fun i hi => by omega, hd0, by show 2 * ds.countP (fun z => decide (z < 0)) + q.length < 2 * ds.countP (fun z => decide (z < 0)) + (x :: q).length; rw [List.length_cons]; omega⟩ mC (List.Sublist.refl _) mC fun y hy => ?_; generalize 2 * ds.countP (fun z => decide (z < 0)) + (x :: q).length = M at hy ⊢; clear hR hd0; obtain ⟨j, ds, q, s, r⟩ := y; obtain ⟨hj, hR, hdn, hd0, hM⟩ := hy; simp only at hj hR hdn hd0 hM; have hdl := hR.b.len; have hqn := kx8 hR.nd fun y hy => (hR.inq y hy).1; have hdx := hR.dx; have hkn := br_k hh hR; refine Y2 (N8 (C4 rfl rfl rfl (j4 (P6 (Y2 ?_))))); refine wq9 rfl (fun hb2 => ?_) (fun hb2 => ?_)
  ·have hj2 : j < nl.length := by omega
   have hij := hin _ (A3 hj2); obtain ⟨i, hi⟩ := Int.eq_ofNat_of_zero_le hij.1; have hil : i < hs.length := by omega
   refine nz9 (P6 (Y2 (dj6 (Y2 (N8 ?_))))); refine r8 (α := Int) nl j rfl l8 m9 rfl rfl rfl mB rfl hj2 (by decide) ?_; refine c8 (v := int (i : Int)) rfl b9 rfl (k9 mB (j9 hj2 (by rw [← hi]; rfl))) ?_; refine c7 rfl (j4 (P6 (Y2 (N8 (b8 rfl (b8 rfl ?_)))))); refine B9 i (0 + i * 1) rfl l8 m9 rfl rfl rfl hil rfl ?_; refine c8 (v := int (dAt ds i)) rfl b9 rfl (m3 mB (nz0 rfl (gq0 ds) (by rw [hdl]; exact hil) (by omega) rfl)) ?_; refine C4 rfl rfl rfl (j4 (P6 ?_)); refine wq9 rfl (fun hb3 => ?_) (fun hb3 => ?_)
   ·obtain ⟨hR2, hql⟩ := br_put hR hil (by rw [hnb i, decide_eq_true_eq, ← hi]; exact A3 hj2) hb3; have hc2 := cnt_set (v := dAt ds x + 1) (by rw [hdl]; exact hil) hb3 (by rw [hdx]; omega); refine Y2 (N8 (b8 rfl (b8 rfl (b8 rfl (b8 rfl ?_))))); refine B9 x (0 + x * 1) rfl l8 m9 rfl rfl rfl hx rfl ?_; refine c8 (v := int (dAt ds x)) rfl b9 rfl (m3 mB (nz0 rfl (gq0 ds) (by rw [hdl]; exact hx) (by omega) rfl)) ?_; refine v8 _ rfl rfl rfl rfl r6 (B9 i (0 + i * 1) rfl l8 m9 rfl rfl rfl hil rfl ?_); refine z8 rfl rfl (.swap _ _ _) m9 (nz0 rfl (gq0 ds) (by rw [hdl]; exact hil) (by omega) rfl) (by rfl) ?_; rw [tj8]; refine j4 (P6 (Y2 (pj0 ?_))); show KL _ _ _ [0, 1, 2] _ _ _; refine dj1 rfl rfl rfl (dj1 rfl rfl rfl ?_); refine sz0 (buf := q.map fun y : Nat => int (y : Int)) rfl rfl rfl (.swap _ _ _) (by rw [List.length_map]; exact hql) ?_; refine rx9 (P6 (N8 (b8 rfl ?_))); refine v8 ((q.length : Int) + 2) rfl rfl rfl (by show ((q.length + 1 : Nat) : Int) + 1 = _; omega) r6 ?_; refine c7 rfl (j4 (w9 (P6 (N8 ?_)))); refine v8 _ rfl rfl rfl rfl r6 ?_; refine b8 rfl (j4 ?_); exact again _ (j + 1, ds.set i (dAt ds x + 1), q ++ [i], s + 1, r) ⟨by show j + 1 ≤ nl.length; omega, hR2, fun p hp => by show 0 ≤ dAt (ds.set i (dAt ds x + 1)) _; rw [gj5 (by rw [hdl]; exact hil)]; split; omega; exact hdn p (by rename_i hne; rcases Nat.lt_or_ge p j with h1 | h1; exact h1; exact absurd (by rw [show p = j by omega, hi]; rfl) hne), by show dAt (ds.set i (dAt ds x + 1)) h = 0; rw [gj5 (by rw [hdl]; exact hil), if_neg (fun e1 => by subst e1; omega)]; exact hd0, by show 2 * (ds.set i (dAt ds x + 1)).countP (fun z => decide (z < 0)) + (q ++ [i]).length < M; rw [List.length_append, List.length_singleton]; omega⟩ (C8 (by omega)) ⟨rfl, rfl, rfl, congrArg (fun z : Int => some (int z)) (by show (q.length : Int) + 2 = (((q ++ [i]).length + 1 : Nat) : Int); rw [List.length_append, List.length_singleton]; omega), rfl, rfl, rfl, rfl, tK⟩ (by show List.Sublist [(gC, chanO hs.length ((q ++ [i]).map fun y : Nat => int (y : Int)) (s + 1) r), (g5, Obj.cells (rows (ds.set i (dAt ds x + 1))).toArray H8 (0, 0))] _; rw [List.map_append]; exact List.Sublist.refl _) mC
   skip
   refine nz9 (w9 (P6 (N8 ?_))); refine v8 _ rfl rfl rfl rfl r6 ?_; refine b8 rfl (j4 ?_); exact again _ (j + 1, ds, q, s, r) ⟨by show j + 1 ≤ nl.length; omega, hR, fun p hp => by rcases Nat.lt_or_ge p j with h1 | h1; exact hdn p h1; rw [show p = j by omega, hi]; exact Int.not_lt.1 hb3, hd0, hM⟩ (C8 (by omega)) mC (List.Sublist.refl _) mC
  obtain rfl : j = nl.length := by omega
  have hB := br_done hR fun t ht het => by
    rw [hnb t, decide_eq_true_eq] at het; obtain ⟨p, hp, he⟩ := List.getElem_of_mem het; have h1 := hdn p hp; rw [D7 hp, he, Int.toNat_natCast] at h1; exact h1
  refine sz2 (E4 (w6 (w9 (P6 (N8 (b8 rfl ?_)))))); refine W9 (q.length : Int) rfl rfl rfl (by show ((q.length + 1 : Nat) : Int) - 1 = _; omega) r6 ?_; refine c7 rfl (j4 ?_); exact again _ (k, ds, q, s, r) ⟨hB, hd0⟩ hM mC (List.Sublist.refl _) mC
 have hq0 : q = [] := by
   cases q with
   | nil => rfl
   | cons x q => exact absurd hb1 (by simp)
 subst hq0; have hE := bo_end hh hB hd0; refine sz2 (E4 (w6 (P6 (Y2 (N8 (b8 rfl (c7 rfl (j4 (P6 (kc_ret ?_)))))))))); have hE2 : ds = (stepsT (trOf cs hs) (h : Int)) := by rw [hE]; unfold stepsT; rw [hln]; try rfl
 have hle : (stepsT (trOf cs hs) (h : Int)).length = hs.length := by rw [← hE2]; exact hB.b.len
 refine Z3 (.swap _ _ _) (H6 (rows ds) ⟨[], List.append_nil _⟩ ?_); exact ret1 (some ⟨g5, 0, none⟩, hs.length) rfl (by show some (Value.slice _ hs.length hs.length) = some (Value.slice _ (stepsT (trOf cs hs) (h : Int)).length hs.length); rw [hle]) rfl (by show (stepsT (trOf cs hs) (h : Int)).length ≤ hs.length; rw [hle]; exact Nat.le_refl _) nK (by rw [← hE2]; exact ⟨m0, tK⟩)
def stepsE (t : Tr) (h : Int) : List Int × Int := if ¬ askE t [h] = 0 then ([], askE t [h]) else (stepsT t h, 0)
def hiB (t : Tr) (h s : Int) (i : Nat) : Bool := isTrB t (i : Int) && !decide (0 ≤ (stepsT t h).getD i default ∧ (stepsT t h).getD i default ≤ s)
def hiK (t : Tr) (h s : Int) (k : Nat) : List Int := ((List.range k).filter (hiB t h s)).map fun i : Nat => (i : Int)
def hiddenT (t : Tr) (h s : Int) : List Int := hiK t h s t.hs.length
def hiddenE (t : Tr) (h s : Int) : List Int × Int := if ¬ askE t [h] = 0 then ([], askE t [h]) else if 0 ≤ s ∧ s ≤ 6 then (hiddenT t h s, 0) else ([], 1)
theorem mq1 (t : Tr) (h : Int) : (stepsT t h).length = t.hs.length := by unfold stepsT; rw [List.length_map, List.length_range]
theorem bz7 {A B : Option Addr} {ca cb : Nat} (cs : List Cl) (hs : List Hd) (h : Int) (hca : cs.length ≤ ca) (hcb : hs.length ≤ cb) (ha : ∀ h ∈ hs, h.2.2.2.l.length ≤ 1000000) : Meets prog mX [.agg #[.slice A cs.length ca, .slice B hs.length cb], int h] { LI := [Row A (rows cs), RowsF B hs Hd.row], inv := fun x : OutC => (stepsE (trOf cs hs) h).1.length ≤ x.2, val := fun x => .tuple #[.slice x.1 (stepsE (trOf cs hs) h).1.length x.2, int (stepsE (trOf cs hs) h).2], LO := fun x => [Row x.1 (rows (stepsE (trOf cs hs) h).1)] } := by
 refine j3 gz9 rfl t8 fun w0 => d9 (J5 rfl rfl fun gB => ?_); refine c7 rfl (c7 rfl (d8 ?_)); refine kE ⟨fun _ : Nat × OutC × OutC => True, fun x => [(1, int h), (2, .pointer (d6 gB)), (6, if askE (trOf cs hs) [h] = 0 then .pointer (some ⟨x.1, 0, none⟩) else .pointer none), (7, int (askE (trOf cs hs) [h]))], fun _ => [(gB, .cells #[.slice A cs.length ca, .slice B hs.length cb] B7 (0, 0))], fun x => (if askE (trOf cs hs) [h] = 0 then beginL cs hs A ca B cb x else []) ++ [Row A (rows cs), RowsF B hs Hd.row]⟩ ?_ ?_
 ·skip
  refine j0 (B8 rfl E8 E6 rfl mB (by rfl) ?_); refine b8 rfl (p7 _ rfl rfl (fun _ => R8 ..) fun gS => E0 (rows [h]) (List.prefix_refl _) ?_); refine j5 jq2 rfl rfl (iz9 cs hs [h] hca hcb ha (by simp)) p6 mC fun x _ => ?_; refine b8 rfl (m4 rfl rfl rfl (m4 rfl rfl rfl (c7 rfl (c7 rfl (j4 ?_))))); exact P5 _ x tK mC (List.Sublist.refl _) (LSub.of_mem fun F hF => (List.mem_append.1 hF).elim (fun h1 => List.mem_append_left _ h1) (fun h2 => List.mem_append_right _ (List.mem_cons_of_mem _ h2)))
 refine fun x _ => ?_
 dsimp only
 refine i7 (d9 (b8 rfl (P9 rfl rfl rfl (d8 ?_)))); refine m6 rfl (fun hb1 => ?_) (fun hb1 => ?_)
 ·have hE : stepsE (trOf cs hs) h = ([], askE (trOf cs hs) [h]) := by rw [stepsE, if_pos hb1]
  refine d9 (b8 rfl (c7 rfl (c7 rfl (d8 (J4 ?_))))); refine B5 (α := Int) ?_; exact ret2 (none, 0) rfl rfl rfl (by show Value.tuple #[.slice none (stepsE (trOf cs hs) h).1.length 0, int (stepsE (trOf cs hs) h).2] = _; rw [hE]; rfl) rfl (by show (stepsE (trOf cs hs) h).1.length ≤ 0; rw [hE]; exact Nat.le_refl _) nK (by show LSub _ [Row none (rows (stepsE (trOf cs hs) h).1)]; rw [hE]; exact ⟨m0, tK⟩)
 have h0 := Classical.not_not.1 hb1; rw [if_pos h0, if_pos h0]; have hch := nj3 h0; have hin := ask_in h0 (List.mem_singleton.2 rfl); rw [bA] at hin; obtain ⟨i, hi⟩ := Int.eq_ofNat_of_zero_le hin.1; have hok := sq3 hch; have h6 : cs.length ≤ 6 := hok.c6; have h6h := hok.h6; rw [bA] at h6h; have hcl : ∀ i, i < cs.length → ClsOK cs i := hok.c; obtain ⟨gl, ⟨oa, oc⟩, ⟨ka, kc⟩⟩ := x; have hln := bA cs hs; show HC _ _ _ _ _ [Row (d6 gl) [.slice A cs.length ca, .slice B hs.length cb, .slice oa cs.length oc, .slice ka hs.length kc], Row oa (rows (masksN cs cs.length)), Row ka (rows (kindsN hs hs.length)), Row A (rows cs), RowsF B hs Hd.row]; refine j6 (i8 (d9 (b8 rfl (b8 rfl ?_)))); have hE : stepsE (trOf cs hs) h = (stepsT (trOf cs hs) h, 0) := by rw [stepsE, if_neg hb1]
 subst hi; refine j5 uJ rfl rfl (tQ (A := A) (B := B) (oa := oa) (ka := ka) (ca := ca) (cb := cb) (oc := oc) (kc := kc) (gl := gl) cs hs i hok (by omega)) p6 mC fun y hy => ?_; refine c7 rfl (c7 rfl (d8 (k5 ?_))); exact ret2 y rfl rfl rfl (by show Value.tuple #[.slice y.1 (stepsE (trOf cs hs) (i : Int)).1.length y.2, int (stepsE (trOf cs hs) (i : Int)).2] = _; rw [hE]) rfl (by show (stepsE (trOf cs hs) (i : Int)).1.length ≤ y.2; rw [hE]; exact hy) nK (by show LSub _ [Row y.1 (rows (stepsE (trOf cs hs) (i : Int)).1)]; rw [hE]; exact ⟨m0, tK⟩)
end Go.Proofs.YtcdopfjiadifhaaGreatDoor
end
