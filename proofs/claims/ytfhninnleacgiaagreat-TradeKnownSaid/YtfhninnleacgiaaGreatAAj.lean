/- Texts of this claim, one behind another. -/

import Derived.Test.YtfhninnleacgiaaGreatAAi
set_option linter.unusedVariables false
set_option linter.unusedSimpArgs false
section
namespace Go.Proofs.YtfhninnleacgiaaGreat
open Go Go.W
set_option maxRecDepth 20000
attribute [local irreducible] HL HC HQ HB Row Rows2 Blk Facts
theorem cj1 {a b : Nat} (ha : a < 256) (hb : b < 256) : diff8 a b = 0 ↔ ∀ j, a.testBit j = true → b.testBit j = true := by
  have hnot : ∀ j, (255 - b).testBit j = (decide (j < 8) && !b.testBit j) := fun j => by
    rw [show 255 - b = 2 ^ 8 - (b + 1) by omega]; exact Nat.testBit_two_pow_sub_succ (n := 8) hb j
  have hhi : ∀ j, 8 ≤ j → a.testBit j = false := fun j hj => Nat.testBit_lt_two_pow (Nat.lt_of_lt_of_le ha (Nat.pow_le_pow_right (by omega) hj : 2 ^ 8 ≤ 2 ^ j)); unfold diff8
  constructor
  · intro h j hj
    have h1 := congrArg (fun m => m.testBit j) h; simp only [Nat.testBit_and, hnot, hj, Nat.zero_testBit, Bool.true_and] at h1
    by_cases h8 : j < 8
    · simpa [h8] using h1
    rw [hhi j (by omega)] at hj; cases hj
  intro h; refine Nat.eq_of_testBit_eq fun j => ?_; rw [Nat.testBit_and, hnot, Nat.zero_testBit]
  cases hj : a.testBit j
  · rfl
  rw [h j hj]; simp
theorem reach6 {n : Nat} (hn : n ≤ 6) {e e' : Edges} {h : Nat} (hE : ∀ k, k < n → ∀ i, e k i = e' k i) (h0 : ∀ k, n ≤ k → ∀ i, e k i = false) : ∀ (s i : Nat), reachB 6 e h s i = reachB n e' h s i
  | 0, i => rfl
  | s + 1, i => by
    rw [Bool.eq_iff_iff, P7, P7, reach6 hn hE h0 s i]; refine or_congr_right ⟨?_, ?_⟩
    · rintro ⟨k, h1, h2, h3⟩
      by_cases hk : k < n
      · exact ⟨k, hk, by rw [← reach6 hn hE h0 s k]; exact h2, by rw [← hE k hk]; exact h3⟩
      rw [h0 k (by omega)] at h3; cases h3
    rintro ⟨k, h1, h2, h3⟩; exact ⟨k, by omega, by rw [reach6 hn hE h0 s k]; exact h2, by rw [hE k h1]; exact h3⟩
abbrev InRf (n : Nat) (l : List Rf) : Prop := ∀ r ∈ l, (0 ≤ r.1 ∧ r.1 < (n : Int)) ∧ 0 ≤ r.2 ∧ r.2 < (n : Int)
abbrev wE (t : Tr) (n : Nat) (r : List Rf) (i x : Nat) : Bool := (decide (i < n) && nextB t i x) || decide (((i : Int), (x : Int)) ∈ r)
structure WithK (t : Tr) (n : Nat) (r : List Rf) (ns : List Nat) : Prop where
  len : ns.length = 6
  is : ∀ i, SetIs (ns.getD i default) (fun x => wE t n r i x)
theorem WithK.start {t : Tr} {n : Nat} {ns : List Nat} (h : NetK t n ns) : WithK t n [] ns := ⟨h.len, fun i => (h.is i).same fun j => by simp [wE]⟩
theorem WithK.add {t : Tr} {n a e : Nat} {r : List Rf} {ns : List Nat} (h : WithK t n r ns) (ha : a < 6) (he : e < 8) : WithK t n (r ++ [((a : Int), (e : Int))]) (ns.set a (ns.getD a default ||| 2 ^ e)) := ⟨by rw [List.length_set]; exact h.len, fun i => by
  rw [ax3 (by rw [h.len]; exact ha)]
  by_cases hi : a = i
  · subst hi
    rw [if_pos rfl]; refine (h.is a).add he fun j => ?_; show wE t n _ a j = (wE t n r a j || decide (e = j)); unfold wE; rw [Bool.or_assoc]
    congr 1
    rw [← Bool.decide_or]; refine decide_eq_decide.2 ?_; rw [List.mem_append, List.mem_singleton, Prod.mk.injEq]; exact or_congr_right ⟨fun e => by omega, fun e => by omega⟩
  rw [if_neg hi]; refine (h.is i).same fun j => ?_; show wE t n _ i j = wE t n r i j; unfold wE
  congr 1
  refine decide_eq_decide.2 ?_; rw [List.mem_append, List.mem_singleton, Prod.mk.injEq]
  exact ⟨fun e => e.elim id (fun e => by omega), .inl⟩⟩
theorem cz4 {t : Tr} {r : List Rf} {due m h s : Nat} (hn : t.hs.length ≤ 6) (hr : InRf t.hs.length r) (hd : SetIs due (fun j => decide (j < t.hs.length) && isTrB t (j : Int))) (hm : SetIs m (reachB 6 (wE t t.hs.length r) h s)) : decide ((diff8 due m : Int) = 0) = fineB t (h : Int) (s : Int) r := by
  have hR : ∀ i, reachB 6 (wE t t.hs.length r) h s i = reachB t.hs.length (withE t r) h s i := fun i => reach6 hn (fun k hk i => by unfold wE withE; rw [decide_eq_true hk, Bool.true_and]) (fun k hk i => by
    unfold wE; rw [decide_eq_false (show ¬ k < t.hs.length by omega), Bool.false_and, Bool.false_or]; refine decide_eq_false fun hm => ?_; have := (hr _ hm).1.2; simp only at this
    omega) s i
  rw [Bool.eq_iff_iff, decide_eq_true_eq]; unfold fineB; rw [List.all_eq_true]; have hz := cj1 hd.1 hm.1
  constructor
  · intro h0 i hi
    have hi := List.mem_range.1 hi; have h1 := hz.1 (by omega) i; rw [hd.2 i, hm.2 i, hR i] at h1; simp only [Int.toNat_natCast]
    cases ht : isTrB t (i : Int)
    · rfl
    rw [h1 (by simp [hi, ht])]; rfl
  intro h0
  have : diff8 due m = 0 := hz.2 fun j hj => by
    rw [hd.2 j] at hj; simp only [Bool.and_eq_true, decide_eq_true_eq] at hj; have h1 := h0 j (List.mem_range.2 hj.1); rw [hj.2] at h1; rw [hm.2 j, hR j]
    simpa using h1
  omega
abbrev gbO (g : Nat) (cur : Array Value) : Nat × Obj := (g, .cells cur T.M5 (0, 0))
abbrev WL (g9 g8 g4 g5 : Nat) (ns : List Nat) (due h s : Nat) : List Fact := [Blk g9 (.cells (rows ns).toArray T.V4 (0, 0)), Blk g8 (.cells #[u8 due] T.y0 (0, 0)), Blk g4 (.cells #[int h] T.int (0, 0)), Blk g5 (.cells #[int s] T.int (0, 0))]
abbrev pt (g : Nat) : Value := .pointer (b8 g)
theorem own2 {cur : Array Value} {l : List Rf} {k : Nat} (h : cur.toList.take (l.length * 2) = rows l) (hk : k < l.length) : ∀ i u, [int (l.getD k default).1, int (l.getD k default).2][i]? = some u → cur[0 + k * 2 + i]? = some u := by
  intro i u hu; have hlt : i < 2 := (List.getElem?_eq_some_iff.1 hu).1; have h2 : (rows l)[k * 2 + i]? = some u := rows_get (α := Rf) hk hu; rw [← h, List.getElem?_take, if_pos (by omega)] at h2; rw [Nat.zero_add, ← Array.getElem?_toList]; exact h2
set_option maxHeartbeats 1000000 in
theorem dO {A : Option Addr} {c : Nat} {g9 g8 g4 g5 : Nat} {t : Tr} (ns : List Nat) (due h s : Nat) (refs : List Rf) (hn : t.hs.length ≤ 6) (hN : NetK t t.hs.length ns) (hD : SetIs due (fun j => decide (j < t.hs.length) && isTrB t (j : Int))) (hh : h < 6) (hs : s ≤ 1000000) (hr : InRf t.hs.length refs) (hrl : refs.length ≤ 1000000) :
    Meets Tryz.prog F.A6 [.slice A refs.length c, pt g9, pt g8, pt g4, pt g5] { LI := Row A (rows refs) :: WL g9 g8 g4 g5 ns due h s, val := fun _ : Unit => .bool (fineB t h s refs) } := by
 refine i7 F.aJ rfl p7 fun w0 => ?_; refine i1 ?_; obtain ⟨a0, a1, a2, a3, a4, a5, rfl⟩ := six hN.len; refine b9 (b7 rfl (j8 ?_))
 first | refine u6 rfl T.w8 T.u0 rfl mB (by rfl) ?_ | refine t9 rfl T.w8 T.u0 rfl mB (by rfl) ?_ | refine q6 rfl T.w8 T.u0 rfl rfl (m7 mB (n7 (by omega))) ?_
 refine r7 rfl (fun _ => T.O4 _) fun g7 => ?_; refine r4 rfl rfl (by first | exact .refl _ | exact perm2 _ _ _ | exact perm3 _ _ _ _ | exact perm4 _ _ _ _ _) T.u0 (by rfl) (by rfl) ?_; refine d9 (i1 (i4 (a8 rfl ?_))); refine k4 rfl T.C5 rfl ?_; refine a8 rfl (d9 (i9 ?_)); refine p6 (β := Nat × List Nat) ⟨fun x => x.1 ≤ refs.length ∧ WithK t t.hs.length (refs.take x.1) x.2, fun x => [(2, pt g8), (3, pt g4), (4, pt g5), (7, pt g7), (11, .slice A refs.length c), (12, int refs.length), (13, int x.1)], fun x => arr8 g7 x.2 :: [], fun _ => Row A (rows refs) :: WL g9 g8 g4 g5 [a0, a1, a2, a3, a4, a5] due h s⟩ (fun x => refs.length - x.1) (0, [a0, a1, a2, a3, a4, a5]) ⟨Nat.zero_le _, .start hN⟩ mC (List.Sublist.refl _) mC fun x hx => ?_; obtain ⟨k, ns⟩ := x; obtain ⟨hk, hW⟩ := hx; simp only at hk hW; refine i4 (t7 rfl rfl rfl (d9 (i1 ?_)))
 first | refine k8 rfl (fun hb1 => ?_) (fun hb1 => ?_) | refine i5 rfl (fun hb1 => ?_) (fun hb1 => ?_)
 ·have hb1' := hb1; try simp at hb1'
  have hk2 : k < refs.length := by omega
  have hrk := hr _ (s6 hk2); obtain ⟨a, ha⟩ := Int.eq_ofNat_of_zero_le hrk.1.1; obtain ⟨e, he⟩ := Int.eq_ofNat_of_zero_le hrk.2.1; have hax : a < ns.length := by rw [hW.len]; omega
  refine j3 (g6 (i1 (i9 (i4 ?_)))); refine r9 (α := Rf) refs k rfl T.C5 T.s8 rfl rfl rfl mB rfl hk2 (by decide) (q6 rfl T.A1 T.s8 rfl rfl (m7 mB (n7 (by omega))) ?_); refine r7 rfl (fun _ => T.aR _) fun gA => ?_; refine r4 rfl rfl (by first | exact .refl _ | exact perm2 _ _ _ | exact perm3 _ _ _ _ | exact perm4 _ _ _ _ _) T.s8 (by rfl) (by rfl) ?_; refine d9 ?_; refine C4 (rows [refs.getD k default]) ⟨[], List.append_nil _⟩ (C8 9 mixed (by decide) (by decide) rfl rfl ?_)
  apply n6 _ rfl rfl rfl
  ·intro w1
   first | refine a7 ⟨_, 0, none⟩ rfl rfl T.C0 rfl ?_ | refine a7 _ rfl rfl T.C0 rfl ?_
   refine b3 ?_; exact j7 rfl
  apply n6 _ rfl rfl rfl
  ·intro w1
   first | refine a6 rfl T.b2 rfl (d8 mB rfl) ?_ | refine a6 rfl T.b2 rfl (h9 mB rfl) ?_ | refine a6 rfl T.b2 rfl (d3 mB (b4 (by omega) rfl)) ?_ | refine a6 rfl T.b2 rfl (d1 mB (rows_get (by omega) rfl)) ?_ | refine a6 rfl T.b2 rfl (d7 mB rfl) ?_
   refine b3 ?_; exact j7 rfl
  apply n6 _ rfl rfl rfl
  ·intro w1
   first | refine a7 ⟨_, 0, none⟩ rfl rfl T.C0 rfl ?_ | refine a7 _ rfl rfl T.C0 rfl ?_
   refine b3 ?_; exact j7 rfl
  apply n6 _ rfl rfl rfl
  ·intro w1
   first | refine a6 rfl T.b2 rfl (d8 mB rfl) ?_ | refine a6 rfl T.b2 rfl (h9 mB rfl) ?_ | refine a6 rfl T.b2 rfl (d3 mB (b4 (by omega) rfl)) ?_ | refine a6 rfl T.b2 rfl (d1 mB (rows_get (by omega) rfl)) ?_ | refine a6 rfl T.b2 rfl (d7 mB rfl) ?_
   refine b3 ?_; exact j7 rfl
  refine l3 (fun w1 => W9 a a rfl T.J9 T.v5 rfl rfl ha (by omega) (by omega) (q_z rfl)) (l3 (fun w1 => a6 (v := u8 (ns.getD a default)) rfl T.j6 rfl (d8 mB (at8 hax)) (q_z rfl)) ?_)
  apply n6 _ rfl rfl rfl
  ·intro w1
   first | refine a7 ⟨_, 1, none⟩ rfl rfl T.J5 rfl ?_ | refine a7 _ rfl rfl T.J5 rfl ?_
   refine b3 ?_; exact j7 rfl
  apply n6 _ rfl rfl rfl
  ·intro w1
   first | refine a6 rfl T.b2 rfl (d8 mB rfl) ?_ | refine a6 rfl T.b2 rfl (h9 mB rfl) ?_ | refine a6 rfl T.b2 rfl (d3 mB (b4 (by omega) rfl)) ?_ | refine a6 rfl T.b2 rfl (d1 mB (rows_get (by omega) rfl)) ?_ | refine a6 rfl T.b2 rfl (d7 mB rfl) ?_
   refine b3 ?_; exact j7 rfl
  refine l3 (fun w1 => d5 (vs := [u8 (ns.getD a default), int (e : Int)]) F.w6 rfl (by rw [← he]; rfl) (t8 (ns.getD a default) e (hW.is a).1 (by omega)) j5 trivial fun _ _ => (q_z rfl)) ?_; refine w5 ⟨rfl, ?_⟩; refine W9 a a rfl T.J9 T.v5 rfl rfl ha (by omega) (by omega) (z9 (v := u8 (ns.getD a default ||| 2 ^ e)) rfl rfl (.refl _) T.v5 (at8 hax) (by rfl) ?_); rw [vV]; refine b3 (n9 (g6 (b9 ?_))); refine q9 _ rfl rfl rfl rfl n5 ?_; refine a8 rfl (b3 ?_); exact again _ (k + 1, ns.set a (ns.getD a default ||| 2 ^ e)) ⟨by show k + 1 ≤ refs.length; omega, by show WithK _ _ (refs.take (k + 1)) _; rw [s4 refs k hk2, show refs.getD k default = ((a : Int), (e : Int)) from Prod.ext ha he]; exact hW.add (by omega) (by omega)⟩ (r6 (by omega)) mC (List.Sublist.refl _) mC
 have hb1' := hb1; try simp at hb1'
 have hk2 : k = refs.length := by omega
 subst hk2; rw [List.take_length] at hW; refine n2 (t4 (n1 (g6 (i1 ?_)))); refine C8 5 mixed (by decide) (by decide) rfl rfl ?_
 apply n6 _ rfl rfl rfl
 ·intro w1
  first | refine a6 rfl T.j6 rfl (d8 mB rfl) ?_ | refine a6 rfl T.j6 rfl (h9 mB rfl) ?_ | refine a6 rfl T.j6 rfl (d3 mB (b4 (by omega) rfl)) ?_ | refine a6 rfl T.j6 rfl (d1 mB (rows_get (by omega) rfl)) ?_ | refine a6 rfl T.j6 rfl (d7 mB rfl) ?_
  refine b3 ?_; exact j7 rfl
 refine l3 (fun w1 => t9 (n := 6) rfl T.w8 T.u0 rfl mB (by rw [List.size_toArray, I2]; show ns.length * 1 = 6; rw [hW.len]) (q_z rfl)) ?_
 apply n6 _ rfl rfl rfl
 ·intro w1
  first | refine a6 rfl T.b2 rfl (d8 mB rfl) ?_ | refine a6 rfl T.b2 rfl (h9 mB rfl) ?_ | refine a6 rfl T.b2 rfl (d3 mB (b4 (by omega) rfl)) ?_ | refine a6 rfl T.b2 rfl (d1 mB (rows_get (by omega) rfl)) ?_ | refine a6 rfl T.b2 rfl (d7 mB rfl) ?_
  refine b3 ?_; exact j7 rfl
 apply n6 _ rfl rfl rfl
 ·intro w1
  first | refine a6 rfl T.b2 rfl (d8 mB rfl) ?_ | refine a6 rfl T.b2 rfl (h9 mB rfl) ?_ | refine a6 rfl T.b2 rfl (d3 mB (b4 (by omega) rfl)) ?_ | refine a6 rfl T.b2 rfl (d1 mB (rows_get (by omega) rfl)) ?_ | refine a6 rfl T.b2 rfl (d7 mB rfl) ?_
  refine b3 ?_; exact j7 rfl
 refine V0 ⟨Nat, fun m => SetIs m (reachB 6 (fun i x => wE t t.hs.length refs i x) h s), fun m => u8 m, fun _ => []⟩ rfl rfl rfl ?_ ?_
 ·intro w1; refine d5 F.aG rfl rfl (R3 ns hW.len (fun i x => wE t t.hs.length refs i x) hW.is h s hh hs) j5 trivial fun m hm => ?_; refine b3 ?_; exact H2 m hm rfl trivial
 refine w5 ⟨rfl, ?_⟩; intro m hm; refine xK rfl rfl rfl hD.1 hm.1 (G0 rfl rfl rfl (b7 rfl (d9 (k5 ?_)))); exact ret1 () rfl (congrArg (fun b => some (Value.bool b)) (cz4 hn hr hD hm)) rfl trivial nil_sb trivial
set_option maxHeartbeats 1000000 in
theorem cO {gb : Nat} {c : Nat} {cur : Array Value} {g9 g8 g4 g5 : Nat} {t : Tr} (ns : List Nat) (due h s : Nat) (refs : List Rf) (hn : t.hs.length ≤ 6) (hN : NetK t t.hs.length ns) (hD : SetIs due (fun j => decide (j < t.hs.length) && isTrB t (j : Int))) (hh : h < 6) (hs : s ≤ 1000000) (hr : InRf t.hs.length refs) (hrl : refs.length ≤ 1000000) (hct : cur.toList.take (refs.length * 2) = rows refs) :
    Meets Tryz.prog F.A6 [.slice (b8 gb) refs.length c, pt g9, pt g8, pt g4, pt g5] { hpI := [gbO gb cur], hpO := fun _ => [gbO gb cur], LI := WL g9 g8 g4 g5 ns due h s, val := fun _ : Unit => .bool (fineB t h s refs) } := by
 refine i7 F.aJ rfl p7 fun w0 => ?_; refine i1 ?_; obtain ⟨a0, a1, a2, a3, a4, a5, rfl⟩ := six hN.len; refine b9 (b7 rfl (j8 ?_))
 first | refine u6 rfl T.w8 T.u0 rfl mB (by rfl) ?_ | refine t9 rfl T.w8 T.u0 rfl mB (by rfl) ?_ | refine q6 rfl T.w8 T.u0 rfl rfl (m7 mB (n7 (by omega))) ?_
 refine r7 rfl (fun _ => T.O4 _) fun g7 => ?_; refine r4 rfl rfl (by first | exact .refl _ | exact perm2 _ _ _ | exact perm3 _ _ _ _ | exact perm4 _ _ _ _ _) T.u0 (by rfl) (by rfl) ?_; refine d9 (i1 (i4 (a8 rfl ?_))); refine k4 rfl T.C5 rfl ?_; refine a8 rfl (d9 (i9 ?_)); refine p6 (β := Nat × List Nat) ⟨fun x => x.1 ≤ refs.length ∧ WithK t t.hs.length (refs.take x.1) x.2, fun x => [(2, pt g8), (3, pt g4), (4, pt g5), (7, pt g7), (11, .slice (b8 gb) refs.length c), (12, int refs.length), (13, int x.1)], fun x => arr8 g7 x.2 :: [gbO gb cur], fun _ => WL g9 g8 g4 g5 [a0, a1, a2, a3, a4, a5] due h s⟩ (fun x => refs.length - x.1) (0, [a0, a1, a2, a3, a4, a5]) ⟨Nat.zero_le _, .start hN⟩ mC (List.Sublist.refl _) mC fun x hx => ?_; obtain ⟨k, ns⟩ := x; obtain ⟨hk, hW⟩ := hx; simp only at hk hW; refine i4 (t7 rfl rfl rfl (d9 (i1 ?_)))
 first | refine k8 rfl (fun hb1 => ?_) (fun hb1 => ?_) | refine i5 rfl (fun hb1 => ?_) (fun hb1 => ?_)
 ·have hb1' := hb1; try simp at hb1'
  have hk2 : k < refs.length := by omega
  have hrk := hr _ (s6 hk2); obtain ⟨a, ha⟩ := Int.eq_ofNat_of_zero_le hrk.1.1; obtain ⟨e, he⟩ := Int.eq_ofNat_of_zero_le hrk.2.1; have hax : a < ns.length := by rw [hW.len]; omega
  refine j3 (g6 (i1 (i9 (i4 ?_)))); refine l6 k (0 + k * 2) rfl T.C5 T.s8 rfl rfl rfl hk2 rfl (q6 rfl T.A1 T.s8 rfl rfl (lQ mB (own2 hct hk2)) ?_); refine r7 rfl (fun _ => T.aR _) fun gA => ?_; refine r4 rfl rfl (by first | exact .refl _ | exact perm2 _ _ _ | exact perm3 _ _ _ _ | exact perm4 _ _ _ _ _) T.s8 (by rfl) (by rfl) ?_; refine d9 ?_; refine C4 (rows [refs.getD k default]) ⟨[], List.append_nil _⟩ (C8 9 mixed (by decide) (by decide) rfl rfl ?_)
  apply n6 _ rfl rfl rfl
  ·intro w1
   first | refine a7 ⟨_, 0, none⟩ rfl rfl T.C0 rfl ?_ | refine a7 _ rfl rfl T.C0 rfl ?_
   refine b3 ?_; exact j7 rfl
  apply n6 _ rfl rfl rfl
  ·intro w1
   first | refine a6 rfl T.b2 rfl (d8 mB rfl) ?_ | refine a6 rfl T.b2 rfl (h9 mB rfl) ?_ | refine a6 rfl T.b2 rfl (d3 mB (b4 (by omega) rfl)) ?_ | refine a6 rfl T.b2 rfl (d1 mB (rows_get (by omega) rfl)) ?_ | refine a6 rfl T.b2 rfl (d7 mB rfl) ?_
   refine b3 ?_; exact j7 rfl
  apply n6 _ rfl rfl rfl
  ·intro w1
   first | refine a7 ⟨_, 0, none⟩ rfl rfl T.C0 rfl ?_ | refine a7 _ rfl rfl T.C0 rfl ?_
   refine b3 ?_; exact j7 rfl
  apply n6 _ rfl rfl rfl
  ·intro w1
   first | refine a6 rfl T.b2 rfl (d8 mB rfl) ?_ | refine a6 rfl T.b2 rfl (h9 mB rfl) ?_ | refine a6 rfl T.b2 rfl (d3 mB (b4 (by omega) rfl)) ?_ | refine a6 rfl T.b2 rfl (d1 mB (rows_get (by omega) rfl)) ?_ | refine a6 rfl T.b2 rfl (d7 mB rfl) ?_
   refine b3 ?_; exact j7 rfl
  refine l3 (fun w1 => W9 a a rfl T.J9 T.v5 rfl rfl ha (by omega) (by omega) (q_z rfl)) (l3 (fun w1 => a6 (v := u8 (ns.getD a default)) rfl T.j6 rfl (d8 mB (at8 hax)) (q_z rfl)) ?_)
  apply n6 _ rfl rfl rfl
  ·intro w1
   first | refine a7 ⟨_, 1, none⟩ rfl rfl T.J5 rfl ?_ | refine a7 _ rfl rfl T.J5 rfl ?_
   refine b3 ?_; exact j7 rfl
  apply n6 _ rfl rfl rfl
  ·intro w1
   first | refine a6 rfl T.b2 rfl (d8 mB rfl) ?_ | refine a6 rfl T.b2 rfl (h9 mB rfl) ?_ | refine a6 rfl T.b2 rfl (d3 mB (b4 (by omega) rfl)) ?_ | refine a6 rfl T.b2 rfl (d1 mB (rows_get (by omega) rfl)) ?_ | refine a6 rfl T.b2 rfl (d7 mB rfl) ?_
   refine b3 ?_; exact j7 rfl
  refine l3 (fun w1 => d5 (vs := [u8 (ns.getD a default), int (e : Int)]) F.w6 rfl (by rw [← he]; rfl) (t8 (ns.getD a default) e (hW.is a).1 (by omega)) j5 trivial fun _ _ => (q_z rfl)) ?_; refine w5 ⟨rfl, ?_⟩; refine W9 a a rfl T.J9 T.v5 rfl rfl ha (by omega) (by omega) (z9 (v := u8 (ns.getD a default ||| 2 ^ e)) rfl rfl (.refl _) T.v5 (at8 hax) (by rfl) ?_); rw [vV]; refine b3 (n9 (g6 (b9 ?_))); refine q9 _ rfl rfl rfl rfl n5 ?_; refine a8 rfl (b3 ?_); exact again _ (k + 1, ns.set a (ns.getD a default ||| 2 ^ e)) ⟨by show k + 1 ≤ refs.length; omega, by show WithK _ _ (refs.take (k + 1)) _; rw [s4 refs k hk2, show refs.getD k default = ((a : Int), (e : Int)) from Prod.ext ha he]; exact hW.add (by omega) (by omega)⟩ (r6 (by omega)) mC (List.Sublist.refl _) mC
 have hb1' := hb1; try simp at hb1'
 have hk2 : k = refs.length := by omega
 subst hk2; rw [List.take_length] at hW; refine n2 (t4 (n1 (g6 (i1 ?_)))); refine C8 5 mixed (by decide) (by decide) rfl rfl ?_
 apply n6 _ rfl rfl rfl
 ·intro w1
  first | refine a6 rfl T.j6 rfl (d8 mB rfl) ?_ | refine a6 rfl T.j6 rfl (h9 mB rfl) ?_ | refine a6 rfl T.j6 rfl (d3 mB (b4 (by omega) rfl)) ?_ | refine a6 rfl T.j6 rfl (d1 mB (rows_get (by omega) rfl)) ?_ | refine a6 rfl T.j6 rfl (d7 mB rfl) ?_
  refine b3 ?_; exact j7 rfl
 refine l3 (fun w1 => t9 (n := 6) rfl T.w8 T.u0 rfl mB (by rw [List.size_toArray, I2]; show ns.length * 1 = 6; rw [hW.len]) (q_z rfl)) ?_
 apply n6 _ rfl rfl rfl
 ·intro w1
  first | refine a6 rfl T.b2 rfl (d8 mB rfl) ?_ | refine a6 rfl T.b2 rfl (h9 mB rfl) ?_ | refine a6 rfl T.b2 rfl (d3 mB (b4 (by omega) rfl)) ?_ | refine a6 rfl T.b2 rfl (d1 mB (rows_get (by omega) rfl)) ?_ | refine a6 rfl T.b2 rfl (d7 mB rfl) ?_
  refine b3 ?_; exact j7 rfl
 apply n6 _ rfl rfl rfl
 ·intro w1
  first | refine a6 rfl T.b2 rfl (d8 mB rfl) ?_ | refine a6 rfl T.b2 rfl (h9 mB rfl) ?_ | refine a6 rfl T.b2 rfl (d3 mB (b4 (by omega) rfl)) ?_ | refine a6 rfl T.b2 rfl (d1 mB (rows_get (by omega) rfl)) ?_ | refine a6 rfl T.b2 rfl (d7 mB rfl) ?_
  refine b3 ?_; exact j7 rfl
 refine V0 ⟨Nat, fun m => SetIs m (reachB 6 (fun i x => wE t t.hs.length refs i x) h s), fun m => u8 m, fun _ => []⟩ rfl rfl rfl ?_ ?_
 ·intro w1; refine d5 F.aG rfl rfl (R3 ns hW.len (fun i x => wE t t.hs.length refs i x) hW.is h s hh hs) j5 trivial fun m hm => ?_; refine b3 ?_; exact H2 m hm rfl trivial
 refine w5 ⟨rfl, ?_⟩; intro m hm; refine xK rfl rfl rfl hD.1 hm.1 (G0 rfl rfl rfl (b7 rfl (d9 (k5 ?_)))); exact ret1 () rfl (congrArg (fun b => some (Value.bool b)) (cz4 hn hr hD hm)) rfl trivial (List.sublist_cons_self _ _) trivial
def growQ (p : List Rf → Bool) (d : Nat) (b r : List Rf) : Option (List Rf) := ((combos d r).map (b ++ ·)).find? p
theorem vJ (p : List Rf → Bool) (b r : List Rf) : growQ p 0 b r = if p b = true then some b else none := by
  unfold growQ; rw [combos]; simp only [List.map_cons, List.map_nil, List.append_nil, List.find?_cons, List.find?_nil]
  cases p b <;> rfl
theorem gj7 (p : List Rf → Bool) (d : Nat) (b : List Rf) : growQ p (d + 1) b [] = none := rfl
theorem bx8 (p : List Rf → Bool) (d : Nat) (b r : List Rf) (x : Rf) : growQ p (d + 1) b (x :: r) = (growQ p d (b ++ [x]) r).or (growQ p (d + 1) b r) := by
  unfold growQ; rw [combos, List.map_append, List.find?_append, List.map_map]
  congr 3
  funext l
  simp
theorem sC (p : List Rf → Bool) (d : Nat) (r : List Rf) : growQ p d [] r = (combos d r).find? p := by
  unfold growQ
  congr 1
  exact (List.map_congr_left fun l _ => List.nil_append l).trans (List.map_id _)
theorem sM {cur : Array Value} {b : List Rf} {x : Rf} (h : cur.toList.take ((b.length + 1) * 2) = rows (b ++ [x])) : cur.toList.take (b.length * 2) = rows b := by
  have h2 : (cur.toList.take ((b.length + 1) * 2)).take (b.length * 2) = (rows (b ++ [x])).take (b.length * 2) := by rw [h]
  rw [List.take_take, Nat.min_eq_left (by omega), s9] at h2; rw [h2]; exact List.take_left' (I2 b)
section
variable (lb : Nat) (rc : Option Code → Loop) (J : Code) (gb cap : Nat) (R0 : Hp) {γ : Type} (R1 : γ → Hp) (L1 : γ → List Fact) (I1 : List Rf → γ → Prop) (LI0 : List Fact) (p : List Rf → Bool)
def ry : Option γ → Hp | none => R0 | some y => R1 y
def ly : Option γ → List Fact | none => [] | some y => L1 y
def yC (b : List Rf) (cur : Array Value) : Con (Option γ) :=
  { hpI := (lb, .loop (rc none)) :: gbO gb cur :: R0, LI := LI0, inv := fun x => x.isSome = p b ∧ ∀ y, x = some y → I1 b y, val := fun x => .bool x.isNone, hpO := fun x => (lb, .loop (rc (x.map fun _ => J))) :: gbO gb cur :: ry R0 R1 x, LO := ly L1 }
abbrev OrdG (γ : Type) := Option (List Rf × γ)
def gC (b : List Rf) (cur : Array Value) (q : Option (List Rf)) (LI : List Fact) : Con (OrdG γ × Array Value) :=
  { hpI := (lb, .loop (rc none)) :: gbO gb cur :: R0, LI := LI, inv := fun x => (q = x.1.map (·.1) ∧ ∀ y, x.1 = some y → I1 y.1 y.2) ∧ x.2.size = cap * 2 ∧ x.2.toList.take (b.length * 2) = rows b, val := fun x => .bool x.1.isNone, hpO := fun x => (lb, .loop (rc (x.1.map fun _ => J))) :: gbO gb x.2 :: ry R0 R1 (x.1.map (·.2)), LO := fun x => ly L1 (x.1.map (·.2)) }
def pC (q : Option (List Rf)) (LI : List Fact) : Con (OrdG γ) :=
  { hpI := (lb, .loop (rc none)) :: R0, LI := LI, inv := fun x => q = x.map (·.1) ∧ ∀ y, x = some y → I1 y.1 y.2, val := fun _ => .tuple #[], hpO := fun x => (lb, .loop (rc (x.map fun _ => J))) :: ry R0 R1 (x.map (·.2)), LO := fun x => ly L1 (x.map (·.2)) }
end
abbrev boxN (g : Nat) (n : Int) : Fact := Blk g (.cells #[int n] T.int (0, 0))
abbrev boxF (g : Nat) (v : Value) : Fact := Blk g (.cells #[v] T.K9 (0, 0))
abbrev boxG (g : Nat) (v : Value) : Fact := Blk g (.cells #[v] T.H4 (0, 0))
abbrev boxL (g : Nat) (A : Option Addr) (n c : Nat) : Fact := Blk g (.cells #[.slice A n c] T.cM (0, 0))
def growV (gm gy gl gg : Nat) : Value := .func (.func F.O5) #[] [pt gm, pt gy, pt gl, pt gg].toArray
set_option maxHeartbeats 1000000 in
theorem iZ {lb : Nat} {rc : Option Code → Loop} {J : Code} {R0 : Hp} {γ : Type} {R1 : γ → Hp} {L1 : γ → List Fact} {I1 : List Rf → γ → Prop} {LI0 : List Fact} {p : List Rf → Bool} {cap : Nat} {LA : Option Addr} {lc : Nat} (l : List Rf) {gb gm gy gl gg : Nat} (hn : l.length ≤ 1000) (hc : cap ≤ 1000) (hY : ∀ (b : List Rf) (cur : Array Value), b.length = cap → (∀ r ∈ b, r ∈ l) → cur.toList.take (b.length * 2) = rows b → MeetsY Tryz.prog lb [.slice (b8 gb) b.length cap] (yC lb rc J gb R0 R1 L1 I1 LI0 p b cur)) :
    ∀ (d : Nat) (b : List Rf) (frm : Nat) (cur : Array Value), d + b.length = cap → (∀ r ∈ b, r ∈ l) → frm ≤ l.length → cur.size = cap * 2 → cur.toList.take (b.length * 2) = rows b → Meets Tryz.prog F.O5 [.slice (b8 gb) b.length cap, int (frm : Nat), pt gm, pt gy, pt gl, pt gg] (gC lb rc J gb cap R0 R1 L1 I1 b cur (growQ p d b (l.drop frm)) (boxN gm cap :: boxF gy (yieldV lb) :: boxL gl LA l.length lc :: boxG gg (growV gm gy gl gg) :: Row LA (rows l) :: LI0)) := by
 intro d
 induction d using Nat.strongRecOn
 rename_i d ih
 intro b frm cur hd hsub hfrm hcs hct; refine i7 F.pQ rfl p7 fun w0 => ?_; refine i4 (b7 rfl (d9 (i1 (i4 (a8 rfl ?_))))); refine k4 rfl T.C5 rfl (a6 (v := int (cap : Nat)) rfl T.b2 rfl (d8 mB rfl) ?_); refine G0 rfl rfl rfl (d9 ?_)
 first | refine k8 rfl (fun hb1 => ?_) (fun hb1 => ?_) | refine i5 rfl (fun hb1 => ?_) (fun hb1 => ?_)
 ·have hb1' := hb1; try simp at hb1'
  have h0 : d = 0 := by omega
  subst h0; have hlen : b.length = cap := by omega
  refine i4 ?_; refine a6 (v := yieldV lb) rfl T.H0 rfl (d8 mB rfl) (a8 rfl ?_); refine ix5 (k := yC lb rc J gb R0 R1 L1 I1 LI0 p b cur) rfl rfl rfl (hY b cur hlen hsub hct) (hpR := []) (by rw [List.append_nil]; exact .refl _) (LSub.of_mem fun F hF => by repeat (first | exact hF | apply List.Mem.tail)) fun x hx => ?_; refine b7 rfl (d9 (P8 ?_)); obtain ⟨hx1, hx2⟩ := hx
  cases x with
  | none => exact ret1 (none, cur) rfl rfl rfl ⟨⟨by rw [vJ, ← hx1]; rfl, fun y hy => by cases hy⟩, hcs, hct⟩ (by rw [List.append_nil]; exact .refl _) trivial
  | some y => exact ret1 (some (b, y), cur) rfl rfl rfl ⟨⟨by rw [vJ, ← hx1]; rfl, fun z hz => by cases hz; exact hx2 y rfl⟩, hcs, hct⟩ (by rw [List.append_nil]; exact .refl _) (LSub.of_mem fun F hF => List.mem_append_left _ hF)
 have hb1' := hb1; try simp at hb1'
 obtain ⟨d0, rfl⟩ : ∃ d0, d = d0 + 1 := ⟨d - 1, by omega⟩; refine j3 (g6 (i1 (i4 (a8 rfl (b7 rfl (d9 (i9 ?_))))))); refine p6 (β := Nat × Array Value) ⟨fun x => x.1 ≤ l.length ∧ growQ p (d0 + 1) b (l.drop frm) = growQ p (d0 + 1) b (l.drop x.1) ∧ x.2.size = cap * 2 ∧ x.2.toList.take (b.length * 2) = rows b, fun x => [(0, .slice (b8 gb) b.length cap), (2, pt gm), (3, pt gy), (4, pt gl), (5, pt gg), (9, int x.1)], fun x => (lb, .loop (rc none)) :: gbO gb x.2 :: R0, fun _ => (boxN gm cap :: boxF gy (yieldV lb) :: boxL gl LA l.length lc :: boxG gg (growV gm gy gl gg) :: Row LA (rows l) :: LI0)⟩ (fun x => l.length - x.1) (frm, cur) ⟨hfrm, rfl, hcs, hct⟩ mC (.refl _) ⟨mB, mB, mB, mB, mB, (LSub.of_mem fun F hF => by repeat (first | exact hF | apply List.Mem.tail))⟩ fun x hx => ?_; clear hcs hct; obtain ⟨i, cur⟩ := x; obtain ⟨hi, hq, hcs, hct⟩ := hx; simp only at hi hq hcs hct; refine i1 (i4 (a8 rfl ?_)); refine a6 (v := .slice LA l.length lc) rfl T.gU rfl (d8 mB rfl) (k4 rfl T.C5 rfl ?_); refine t7 rfl rfl rfl (d9 ?_)
 first | refine k8 rfl (fun hb2 => ?_) (fun hb2 => ?_) | refine i5 rfl (fun hb2 => ?_) (fun hb2 => ?_)
 ·have hb2' := hb2; try simp at hb2'
  have hi2 : i < l.length := by omega
  have hdr : l.drop i = l.getD i default :: l.drop (i + 1) := by rw [List.drop_eq_getElem_cons hi2, u9 hi2]
  rw [hdr, bx8] at hq; refine j3 (g6 (i1 (i9 (i1 ?_)))); refine G1 ([gbO gb cur]) ((lb, .loop (rc none)) :: R0) (List.Perm.swap _ _ _) 10 [7] mixed (by decide) (by decide) (by decide) rfl rfl rfl (l3 (fun w1 => a6 (v := growV gm gy gl gg) rfl T.J6 rfl (d8 (List.mem_append_right _ mB) rfl) (q_z rfl)) (l3 (fun w1 => a8 rfl (q_z rfl)) (l3 (fun w1 => a6 (v := .slice LA l.length lc) rfl T.gU rfl (d8 (List.mem_append_right _ mB) rfl) (q_z rfl)) (l3 (fun w1 => a8 rfl (q_z rfl)) (l3 (fun w1 => r9 (α := Rf) l i rfl T.C5 T.s8 rfl rfl rfl (List.mem_append_right _ mB) rfl hi2 (by decide) (q_z rfl)) (l3 (fun w1 => q6 rfl T.A1 T.s8 rfl rfl (m7 (List.mem_append_right _ mB) (n7 hi2)) (q_z rfl)) ?_)))))); refine V0 ⟨Nat, fun _ => True, fun g1 => .slice (b8 g1) 1 1, fun g1 => [Row (b8 g1) (rows [l.getD i default])]⟩ rfl rfl rfl ?_ ?_
  ·intro w1; refine j4 _ rfl rfl (fun _ => T.gV ..) fun gS => ?_; refine b3 ?_; refine U3 (rows [l.getD i default]) (List.prefix_refl _) ?_; exact H2 gS trivial rfl ⟨m0, trivial⟩
  refine iX ⟨Array Value, fun x => x.size = cap * 2 ∧ x.toList.take ((b.length + 1) * 2) = rows (b ++ [l.getD i default]), fun _ => .slice (b8 gb) (b.length + 1) cap, fun _ => [], fun x => [gbO gb x]⟩ rfl rfl rfl ?_ ?_
  ·intro g1 _; intro w1; refine aj8 T.bT rfl rfl rfl hcs hct (.refl _) (Src.row (news := rows [l.getD i default]) (m := 1) m0 rfl (A9 _) (by decide)) (by decide) (by omega) fun cur2 hs2 ht2 => ?_; refine b3 ?_; exact G4 cur2 ⟨hs2, by rw [s9]; exact ht2⟩ (fun _ => rfl) (.refl _) trivial
  refine l3 (fun w1 => a8 rfl (q_z rfl)) (l3 (fun w1 => q9 _ rfl rfl rfl rfl n5 (q_z rfl)) ?_); refine w5 ⟨rfl, ?_⟩; intro g1 _ cur2 hx2; obtain ⟨hs2, ht2⟩ := hx2; have hl1 : (b ++ [l.getD i default]).length = b.length + 1 := by simp
  have ihk := ih d0 (by omega) (b ++ [l.getD i default]) (i + 1) cur2 (by omega) (fun r hr => (List.mem_append.1 hr).elim (hsub r) (fun h => by rw [List.mem_singleton] at h; subst h; exact s6 hi2)) (by omega) hs2 (by rw [hl1]; exact ht2); rw [hl1] at ihk; refine Y7 (vs := [.slice (b8 gb) (b.length + 1) cap, int ((i + 1 : Nat) : Int)]) (cap := [pt gm, pt gy, pt gl, pt gg]) F.bA rfl rfl rfl ihk (hpR := []) (by rw [List.append_nil]; exact List.Perm.swap _ _ _) ⟨mB, mB, mB, mB, mB, (LSub.of_mem fun F hF => by repeat (first | exact hF | apply List.Mem.tail))⟩ fun y hy => ?_; obtain ⟨z, cur3⟩ := y; obtain ⟨⟨hz1, hz2⟩, hs3, ht3⟩ := hy; simp only at hz1 hz2 hs3 ht3; rw [hl1] at ht3; refine B3 rfl rfl (d9 ?_)
  first | refine k8 rfl (fun hb3 => ?_) (fun hb3 => ?_) | refine i5 rfl (fun hb3 => ?_) (fun hb3 => ?_)
  ·have hb3' := hb3; try simp at hb3'
   obtain ⟨y, rfl⟩ : ∃ y, z = some y := by cases z with | none => cases hb3 | some y => exact ⟨y, rfl⟩
   refine i4 (b7 rfl (d9 (k5 (B7 (z8 (B7 ?_)))))); exact ret1 (some y, cur3) rfl rfl rfl ⟨⟨by rw [hq, hz1]; rfl, hz2⟩, hs3, sM ht3⟩ (by rw [List.append_nil]; exact .refl _) (LSub.of_mem fun F hF => List.mem_append_left _ hF)
  have hb3' := hb3; try simp at hb3'
  have hzn : z = none := by cases z with | none => rfl | some y => cases hb3
  subst hzn; refine j3 (n9 (g6 (b9 (a8 rfl ?_)))); refine q9 _ rfl rfl rfl rfl n5 ?_; refine b7 rfl (b3 ?_); exact again _ (i + 1, cur3) ⟨by show i + 1 ≤ l.length; omega, by rw [hq, hz1]; rfl, hs3, sM ht3⟩ (r6 (by omega)) mC (by rw [List.append_nil]; exact .refl _) ⟨mB, mB, mB, mB, mB, (LSub.of_mem fun F hF => by repeat (first | exact hF | apply List.Mem.tail))⟩
 have hb2' := hb2; try simp at hb2'
 have hi2 : i = l.length := by omega
 subst hi2; rw [List.drop_length, gj7] at hq; refine n2 (t4 (n1 (g6 (i4 (b7 rfl (d9 (k5 ?_))))))); exact ret1 (none, cur) rfl rfl rfl ⟨⟨hq, fun y hy => by cases hy⟩, hcs, hct⟩ (.refl _) trivial
theorem lR {lb : Nat} {rc : Option Code → Loop} {J : Code} {R0 : Hp} {γ : Type} {R1 : γ → Hp} {L1 : γ → List Fact} {I1 : List Rf → γ → Prop} {LI0 : List Fact} {p : List Rf → Bool} {cap : Nat} {LA : Option Addr} {lc : Nat} (l : List Rf) {gm gl : Nat} (hn : l.length ≤ 1000) (hc : cap ≤ 1000) (hY : ∀ (gb : Nat) (b : List Rf) (cur : Array Value), b.length = cap → (∀ r ∈ b, r ∈ l) → cur.toList.take (b.length * 2) = rows b → MeetsY Tryz.prog lb [.slice (b8 gb) b.length cap] (yC lb rc J gb R0 R1 L1 I1 LI0 p b cur)) : Meets Tryz.prog F.X5 [yieldV lb, pt gm, pt gl] (pC lb rc J R0 R1 L1 I1 (growQ p cap [] l) (boxN gm cap :: boxL gl LA l.length lc :: Row LA (rows l) :: LI0)) := by
 refine i7 F.sV rfl p7 fun w0 => ?_; refine i4 ?_; refine E5 rfl rfl fun gy => ?_; refine j8 ?_; refine r7 rfl (fun _ => T.aF _) fun gg => ?_; refine j8 (W8 rfl rfl rfl ?_); refine z9 rfl rfl (.refl _) T.Z7 (by rfl) (by rfl) ?_; refine d9 (D9 (D9 ?_)); refine G1 ([]) (_) (.refl _) 3 [2] mixed (by decide) (by decide) (by decide) rfl rfl rfl (l3 (fun w1 => a6 (v := growV gm gy gl gg) rfl T.J6 rfl (d8 (List.mem_append_right _ mB) rfl) (q_z rfl)) (l3 (fun w1 => a6 (v := int (cap : Nat)) rfl T.b2 rfl (d8 (List.mem_append_right _ mB) rfl) (q_z rfl)) ?_)); refine iX ⟨Nat × Array Value, fun x => x.2.size = cap * 2, fun x => .slice (some ⟨x.1, 0, none⟩) 0 cap, fun _ => [], fun x => [gbO x.1 x.2]⟩ rfl rfl rfl ?_ ?_
 ·intro w1; refine r_make0 (n := cap) T.bT rfl rfl rfl rfl (by omega) (by omega) fun g cur hcs => ?_; refine b3 ?_; exact G4 (g, cur) hcs (fun _ => rfl) (List.Sublist.refl _) trivial
 refine w5 ⟨rfl, ?_⟩; intro x hx; obtain ⟨gb, cur⟩ := x; have hcs : cur.size = cap * 2 := hx; refine Y7 (vs := [.slice (b8 gb) 0 cap, int (0 : Nat)]) (cap := [pt gm, pt gy, pt gl, pt gg]) F.bA rfl rfl rfl (iZ (gb := gb) (gm := gm) (gy := gy) (gl := gl) (gg := gg) (LA := LA) (lc := lc) l hn hc (hY gb) cap [] 0 cur (by simp) (by simp) (Nat.zero_le _) hcs (by simp [rows])) (hpR := []) (by rw [List.append_nil]; exact List.Perm.swap _ _ _) ⟨mB, mB, mB, mB, mB, (LSub.of_mem fun F hF => by repeat (first | exact hF | apply List.Mem.tail))⟩ fun y hy => ?_; obtain ⟨z, cur3⟩ := y; obtain ⟨⟨hz1, hz2⟩, _, _⟩ := hy; refine b3 ?_; exact ret0n z rfl rfl rfl ⟨hz1, hz2⟩ (by rw [List.append_nil]; exact List.Sublist.cons_cons _ (List.sublist_cons_self _ _)) (LSub.of_mem fun F hF => List.mem_append_left _ hF)
theorem pP {A : Option Addr} {n c : Nat} (many : Int) : Meets Tryz.prog F.jS [.slice A n c, int many] { val := fun x : Nat × Nat => .func (.func F.X5) #[] [pt x.1, pt x.2].toArray, LO := fun x => [boxN x.1 many, boxL x.2 A n c] } := by
 refine i7 F.wA rfl p7 fun w0 => ?_; refine i4 ?_; refine E5 rfl rfl fun gl => ?_; refine E5 rfl rfl fun gm => ?_; refine b7 rfl (j8 (W8 rfl rfl rfl (b7 rfl (d9 (k5 (xP (xP ?_))))))); exact ret1 (gm, gl) rfl rfl rfl trivial (.refl _) mC
theorem aq5 {Q : Nat → Prop} {k : Nat} (h0 : ∀ m, m < k → Q m) (h1 : Q k) : ∀ m, m < k + 1 → Q m := fun m hm => by
  rcases Nat.lt_or_ge m k with h | h
  · exact h0 m h
  obtain rfl : m = k := (by omega); exact h1
theorem lD {α : Type} : ∀ (k : Nat) (l : List α), l.length < k → combos k l = []
  | 0, l, h => by omega
  | k + 1, [], _ => rfl
  | k + 1, x :: l, h => by
    rw [List.length_cons] at h; rw [combos, lD k l (by omega), lD (k + 1) l (by omega)]
    rfl
theorem vO {α : Type} : ∀ (l : List α), combos l.length l = [l]
  | [] => rfl
  | x :: l => by
    rw [List.length_cons, combos, vO l, lD (l.length + 1) l (by omega)]
    rfl
theorem bj8 {α : Type} {f : Nat → Option α} {n : Nat} (h : ∀ m, m < n → f m = none) : (List.range n).findSome? f = none := by
  rw [List.findSome?_eq_none_iff]; exact fun m hm => h m (List.mem_range.1 hm)
theorem zZ {α : Type} {f : Nat → Option α} {k : Nat} {x : α} (h : ∀ m, m < k → f m = none) (h1 : f k = some x) : ∀ (n : Nat), k < n → (List.range n).findSome? f = some x
  | 0, hk => by omega
  | n + 1, hk => by
    rw [List.range_succ, List.findSome?_append]
    by_cases hkn : k < n
    · rw [zZ h h1 n hkn]; rfl
    have e : k = n := by omega
    subst e; rw [bj8 h]
    simp [h1]
theorem join_no {t : Tr} {h s : Int} (hf : fineB t h s (freeT t) = false) : joinT t h s = none := by unfold joinT; rw [if_pos hf]
theorem join_at {t : Tr} {h s : Int} {k : Nat} {b : List Rf} (hf : fineB t h s (freeT t) = true) (hk : k < (freeT t).length + 1) (h0 : ∀ m, m < k → growQ (fineB t h s) m [] (freeT t) = none) (h1 : growQ (fineB t h s) k [] (freeT t) = some b) : joinT t h s = some b := by
  unfold joinT; rw [if_neg (by rw [hf]; decide), List.find?_flatMap]; refine zZ (k := k) (fun m hm => ?_) ?_ _ hk
  · rw [← sC]; exact h0 m hm
  rw [← sC]; exact h1
theorem ix1 {t : Tr} {h s : Int} (hf : fineB t h s (freeT t) = true) (h0 : ∀ m, m < (freeT t).length + 1 → growQ (fineB t h s) m [] (freeT t) = none) : False := by
  have h1 := h0 (freeT t).length (by omega); rw [sC, vO, List.find?_cons] at h1; rw [hf] at h1
  cases h1
theorem cz2 {t : Tr} : InRf t.hs.length (freeT t) := by
  intro r hr; unfold freeT at hr; obtain ⟨i, hi, hm⟩ := List.mem_flatMap.1 hr; have hi := List.mem_range.1 hi
  split at hm
  · obtain ⟨k, hk, rfl⟩ := List.mem_map.1 hm
    have hk := List.mem_range.1 (List.mem_filter.1 hk).1
    simp only
    omega
  cases hm
theorem iz4 {t : Tr} (h6 : t.hs.length ≤ 6) : (freeT t).length ≤ 36 := by
  have h1 := zI t t.hs.length; have h2 : t.hs.length * t.hs.length ≤ 6 * 6 := Nat.mul_le_mul h6 h6; rw [ax4]
  omega
abbrev OutS := List (Sl Int) × OutC
def pairsOf (l : List Rf) : List (List Int) := l.map fun r => [r.1, r.2]
theorem bq7 (l : List Rf) (r : Rf) : pairsOf (l ++ [r]) = pairsOf l ++ [[r.1, r.2]] := by unfold pairsOf; rw [List.map_append]; rfl
def isOut (b : List Rf) (y : OutS) : Prop := y.1.map (·.l) = pairsOf b
abbrev cell12 (g : Nat) (v : Value) : Nat × Obj := (g, .cells #[v] T.intss (0, 0))
theorem xG {c : Cx} {fr : Fr} {fn : Func} {t u : Tmp} {v1 v2 : Value} (hres : fn.results = #[.tmp t, .tmp u]) (hv : lk fr t = some v1) (hv2 : lk fr u = some v2) (a : Act) (w : World) (hfr : ∀ t v, lk fr t = some v → a.tmps.getD t undef = v) : (results fn a.tmps).run c.P w = .ok (.tuple #[v1, v2]) w := by
  have h : (results fn a.tmps).run c.P w = .ok (.tuple #[a.tmps.getD t undef, a.tmps.getD u undef]) w := by
    unfold results; rw [hres]; simp
  rw [hfr _ _ hv, hfr _ _ hv2] at h; exact h
set_option maxHeartbeats 1000000 in
theorem jB {A B oa ka : Option Addr} {ca cb oc kc gl : Nat} (cs : List Cl) (hs : List Hd) (h s : Nat) (hok : TrOK (trOf cs hs)) (hh : h < hs.length) (hs6 : s ≤ 6) : Meets Tryz.prog F.Z0 [.pointer (b8 gl), int h, int s] { LI := [Row (b8 gl) [.slice A cs.length ca, .slice B hs.length cb, .slice oa cs.length oc, .slice ka hs.length kc], Row ka (rows (kindsN hs hs.length)), RowsF B hs Hd.row], inv := fun x : OutS => isOut ((joinT (trOf cs hs) (h : Int) (s : Int)).getD []) x, val := fun x => .tuple #[.slice x.2.1 x.1.length x.2.2, .bool (joinT (trOf cs hs) (h : Int) (s : Int)).isSome], LO := fun x => [Rows2 x.2.1 x.1] } := by
 refine zB F.pT rfl p7 fun w0 => ?_; refine i4 ?_; have h6h := hok.h6; have hln := t0 cs hs; rw [hln] at h6h; refine E5 rfl rfl fun g4 => ?_; refine E5 rfl rfl fun g5 => ?_; refine b7 rfl (b7 rfl (d9 (ix9 (i4 (a8 rfl ?_))))); refine d5 F.jT rfl rfl (dN (A := A) (B := B) (oa := oa) (ka := ka) (ca := ca) (cb := cb) (oc := oc) (kc := kc) (gl := gl) cs hs (by omega)) j5 mC fun due hD => ?_; refine a8 rfl ?_; refine d5 F.mX rfl rfl (jA (A := A) (B := B) (oa := oa) (ka := ka) (ca := ca) (cb := cb) (oc := oc) (kc := kc) (gl := gl) cs hs hok) j5 mC fun ns hN => ?_; refine a8 rfl ?_; refine d5 F.nA rfl rfl (jC (A := A) (B := B) (oa := oa) (ka := ka) (ca := ca) (cb := cb) (oc := oc) (kc := kc) (gl := gl) cs hs hok) j5 mC fun fo hfo => ?_; refine r7 rfl (fun _ => T.lG _) fun g8 => ?_; refine r7 rfl (fun _ => T.O4 _) fun g9 => ?_; refine z9 (v := u8 due) rfl rfl (.swap _ _ _) T.v5 (by rfl) (by rfl) ?_; rw [← hln] at hN hD; obtain ⟨a0, a1, a2, a3, a4, a5, rfl⟩ := six hN.len; refine r4 (cs := (rows [a0, a1, a2, a3, a4, a5]).toArray) rfl rfl (.swap _ _ _) T.u0 (by rfl) (by rfl) ?_; refine b7 rfl (d9 (i1 ?_)); have hfl := iz4 (t := (trOf cs hs)) (by rw [hln]; exact h6h); refine D9 (D9 (D9 (D9 (b9 (W8 rfl rfl rfl ?_))))); refine r7 rfl (fun _ => T.dL _) fun g11 => ?_; refine z9 rfl rfl (.refl _) T.cV (by rfl) (by rfl) ?_; refine d9 (bY (D9 (b9 ?_))); refine a6 (v := .func (.func F.A6) #[] [pt g9, pt g8, pt g4, pt g5].toArray) rfl T.H0 rfl (d8 mB rfl) (a8 rfl ?_); refine Y7 (vs := [.slice fo.1 (freeT (trOf cs hs)).length fo.2]) (cap := [pt g9, pt g8, pt g4, pt g5]) F.Y0 rfl rfl rfl (dO (t := (trOf cs hs)) [a0, a1, a2, a3, a4, a5] due h s (freeT (trOf cs hs)) (by rw [hln]; exact h6h) hN hD (by omega) (by omega) cz2 (by omega)) j5 mC fun _ _ => ?_; refine B3 rfl rfl (d9 ?_)
 first | refine k8 rfl (fun hb1 => ?_) (fun hb1 => ?_) | refine i5 rfl (fun hb1 => ?_) (fun hb1 => ?_)
 ·have hb1' := hb1; try simp at hb1'
  have hf : fineB (trOf cs hs) (h : Int) (s : Int) (freeT (trOf cs hs)) = false := by simpa using hb1
  refine i4 (b7 rfl (b7 rfl (d9 (P8 (ij1 ?_))))); refine A4 (α := Sl Int) ?_; refine O3 (Fs := ([] : List (Sl Int)).map fun p => Row p.a (rows p.l)) (by intro F hF; simp at hF) ?_; refine X0 (A := none) (ps := ([] : List (Sl Int))) mB mB ?_; have hJ := join_no hf; refine xF [] (([] : List (Sl Int)), (none, 0)) rfl j5 (fun a w _ hfr _ => ?_) rfl (by show isOut _ _; rw [hJ]; rfl) nil_sb ⟨m0, trivial⟩; rw [hJ]; exact xG rfl rfl rfl a w hfr
 have hb1' := hb1; try simp at hb1'
 have hf : fineB (trOf cs hs) (h : Int) (s : Int) (freeT (trOf cs hs)) = true := by simpa using hb1
 refine j3 (g6 (i4 ?_)); refine r7 rfl (fun _ => T.jq7 _) fun g12 => ?_; refine d9 (i1 (iz1 (g6 (i1 (i4 (a8 rfl ?_)))))); refine k4 rfl T.C5 rfl (q9 _ rfl rfl rfl rfl n5 ?_); refine a8 rfl (d9 (i9 ?_)); refine iz0 (β := Nat × List Nat) ⟨fun x => x.1 ≤ (freeT (trOf cs hs)).length + 1 ∧ ∀ m, m < x.1 → growQ (fineB (trOf cs hs) (h : Int) (s : Int)) m [] (freeT (trOf cs hs)) = none, fun x => [(10, .slice fo.1 (freeT (trOf cs hs)).length fo.2), (11, pt g11), (12, pt g12), (30, int ((freeT (trOf cs hs)).length + 1 : Nat)), (31, int x.1)], fun _ => [cell12 g12 (.slice none 0 0)], fun _ => (Row fo.1 (rows (freeT (trOf cs hs))) :: (boxF g11 (.func (.func F.A6) #[] [pt g9, pt g8, pt g4, pt g5].toArray) :: WL g9 g8 g4 g5 [a0, a1, a2, a3, a4, a5] due h s))⟩ (fun x => x.2) (fun x => (freeT (trOf cs hs)).length + 1 - x.1) (0, []) ⟨Nat.zero_le _, fun m hm => by omega⟩ rfl mC (List.Sublist.refl _) mC fun x hx => ?_; obtain ⟨k, ds⟩ := x; obtain ⟨hk, h0⟩ := hx; simp only at hk h0; refine i4 (t7 rfl rfl rfl (d9 (i1 ?_)))
 first | refine k8 rfl (fun hb2 => ?_) (fun hb2 => ?_) | refine i5 rfl (fun hb2 => ?_) (fun hb2 => ?_)
 ·have hb2' := hb2; try simp at hb2'
  have hk2 : k < (freeT (trOf cs hs)).length + 1 := by omega
  refine j3 (g6 (i1 (i9 (i4 (a8 rfl (b7 rfl (j8 ?_))))))); refine a8 rfl (a8 rfl ?_); refine d5 F.uI rfl rfl (pP (A := fo.1) (n := (freeT (trOf cs hs)).length) (c := fo.2) (k : Int)) j5 trivial fun gp _ => ?_; obtain ⟨gm, gl2⟩ := gp; refine d9 (i9 ?_); refine zG (β := OrdG OutS) (cap := [pt gm, pt gl2]) (hpR := shutM ds) [cell12 g12 (.slice none 0 0)] (boxN gm k :: boxL gl2 fo.1 (freeT (trOf cs hs)).length fo.2 :: Row fo.1 (rows (freeT (trOf cs hs))) :: (boxF g11 (.func (.func F.A6) #[] [pt g9, pt g8, pt g4, pt g5].toArray) :: WL g9 g8 g4 g5 [a0, a1, a2, a3, a4, a5] due h s)) (fun x => growQ (fineB (trOf cs hs) (h : Int) (s : Int)) k [] (freeT (trOf cs hs)) = x.map (·.1) ∧ ∀ y, x = some y → isOut y.1 y.2) (fun _ => .tuple #[]) (fun x => x.map fun _ => .exit 0) (fun x => ry [cell12 g12 (.slice none 0 0)] (fun y : OutS => [cell12 g12 (.slice y.2.1 y.1.length y.2.2)]) (x.map (·.2))) (fun x => ly (fun y : OutS => [Rows2 y.2.1 y.1]) (x.map (·.2))) rfl F.rM (List.perm_append_comm (l₁ := shutM ds) (l₂ := [cell12 g12 (.slice none 0 0)])) mC ?_ ?_ ?_
  ·intro lb d fn tmps hsz hfr; refine lR (lb := lb) (rc := recL fn tmps #[37] _ _ d) (J := .exit 0) (R0 := [cell12 g12 (.slice none 0 0)]) (R1 := (fun y : OutS => [cell12 g12 (.slice y.2.1 y.1.length y.2.2)])) (L1 := (fun y : OutS => [Rows2 y.2.1 y.1])) (I1 := isOut) (LI0 := (boxF g11 (.func (.func F.A6) #[] [pt g9, pt g8, pt g4, pt g5].toArray) :: WL g9 g8 g4 g5 [a0, a1, a2, a3, a4, a5] due h s)) (p := (fineB (trOf cs hs) (h : Int) (s : Int))) (cap := k) (LA := fo.1) (lc := fo.2) (freeT (trOf cs hs)) (by omega) (by omega) (fun gb b cur hbl hbs hct => ?_); refine zA m0 hsz hfr rfl (by intro t ht; simp at ht; subst ht; exact Nat.lt_of_lt_of_le (show 37 < 59 by decide) (Nat.le_refl _)) fun w => ?_; refine M3 rfl (b7 rfl (b3 ?_)); refine bj2 (.refl _) ?_; refine i9 (bY (M3 rfl ?_)); refine a6 (v := .func (.func F.A6) #[] [pt g9, pt g8, pt g4, pt g5].toArray) rfl T.H0 rfl (d8 mB rfl) (a8 rfl ?_); refine Y7 (vs := [.slice (b8 gb) b.length k]) (cap := [pt g9, pt g8, pt g4, pt g5]) F.Y0 rfl rfl rfl (cO (gb := gb) (c := k) (cur := cur) (t := (trOf cs hs)) [a0, a1, a2, a3, a4, a5] due h s b (by rw [hln]; exact h6h) hN hD (by omega) (by omega) (fun r hr => cz2 r (hbs r hr)) (by omega) hct) (List.Perm.swap _ _ _) mC fun _ _ => ?_; refine B3 rfl rfl (d9 ?_)
   first | refine k8 rfl (fun hb3 => ?_) (fun hb3 => ?_) | refine i5 rfl (fun hb3 => ?_) (fun hb3 => ?_)
   ·have hb3' := hb3; try simp at hb3'
    have hpb : (fineB (trOf cs hs) (h : Int) (s : Int)) b = false := by simpa using hb3
    refine n2 (H5 (n1 ?_)); exact rp_n none (List.Perm.swap _ _ _) rfl rfl ⟨hpb.symm, fun y hy => by cases hy⟩ (List.Sublist.refl _) trivial
   have hb3' := hb3; try simp at hb3'
   have hpb : (fineB (trOf cs hs) (h : Int) (s : Int)) b = true := by simpa using hb3
   refine j3 (g6 (bY ?_)); refine bQ (Fs := ([] : List (Sl Int)).map (fun p : Sl Int => Row p.a (rows p.l))) (by intro F hF; simp at hF) ?_; refine M3 rfl (a8 rfl ?_); refine k4 rfl T.C5 rfl ?_; refine a8 rfl (d9 (i9 ?_)); refine rF (List.reverse_perm _).symm ?_; refine p6 (β := Nat × List (Sl Int) × OutC × Hp) ⟨fun x => x.1 ≤ b.length ∧ Grow T.ints 1 x.2.2.1.1 x.2.1.length x.2.2.1.2 (rows x.2.1) x.2.2.2 ∧ x.2.1.map (·.l) = pairsOf (b.take x.1), fun x => [(12, pt g12), (42, .slice (b8 gb) b.length k), (43, int b.length), (44, int x.1)], fun x => cell12 g12 (.slice x.2.2.1.1 x.2.1.length x.2.2.1.2) :: (x.2.2.2 ++ [(lb, .loop (recB fn tmps #[37] _ _ d)), gbO gb cur]), fun x => [Facts (x.2.1.map (fun p : Sl Int => Row p.a (rows p.l)))]⟩ (fun x => b.length - x.1) (0, [], (none, 0), []) ⟨Nat.zero_le _, Grow.nil _ _, rfl⟩ mC (show List.Sublist _ _ from List.Sublist.refl _) mC fun x hx => ?_; obtain ⟨j, ps, ⟨na, nc⟩, og⟩ := x; obtain ⟨hj, hG, hps⟩ := hx; simp only at hj hG hps; have hpl : ps.length = j := by have := congrArg List.length hps; rw [List.length_map, pairsOf, List.length_map, List.length_take] at this; omega
   refine i1 (M3 rfl (t7 rfl rfl rfl (d9 (i1 ?_))))
   first | refine k8 rfl (fun hb4 => ?_) (fun hb4 => ?_) | refine i5 rfl (fun hb4 => ?_) (fun hb4 => ?_)
   ·have hb4' := hb4; try simp at hb4'
    have hj2 : j < b.length := by omega
    refine j3 (g6 (i1 (i9 (i1 (M3 rfl ?_))))); refine l6 j (0 + j * 2) rfl T.C5 T.s8 rfl rfl rfl hj2 rfl (q6 rfl T.A1 T.s8 rfl rfl (lQ (List.mem_cons_of_mem _ (List.mem_append_right _ (List.mem_cons_of_mem _ (List.mem_cons_self ..)))) (own2 hct hj2)) ?_); refine r7 rfl (fun _ => T.aR _) fun gA => ?_; refine r4 rfl rfl (by first | exact .refl _ | exact perm2 _ _ _ | exact perm3 _ _ _ _ | exact perm4 _ _ _ _ _) T.s8 (by rfl) (by rfl) ?_; refine d9 ?_; refine C4 (rows [b.getD j default]) ⟨[], List.append_nil _⟩ (M3 rfl (a6 (v := .slice na ps.length nc) rfl T.vQ rfl (h9 (List.mem_cons_self ..) rfl) ?_))
    first | refine a7 ⟨_, 0, none⟩ rfl rfl T.C0 rfl ?_ | refine a7 _ rfl rfl T.C0 rfl ?_
    first | refine a6 rfl T.b2 rfl (h9 mB rfl) ?_ | refine a6 rfl T.b2 rfl (d8 mB rfl) ?_ | refine a6 rfl T.b2 rfl (d3 mB (b4 (by omega) rfl)) ?_ | refine a6 rfl T.b2 rfl (d1 mB (rows_get (by omega) rfl)) ?_ | refine a6 rfl T.b2 rfl (d7 mB rfl) ?_
    first | refine a7 ⟨_, 1, none⟩ rfl rfl T.J5 rfl ?_ | refine a7 _ rfl rfl T.J5 rfl ?_
    first | refine a6 rfl T.b2 rfl (h9 mB rfl) ?_ | refine a6 rfl T.b2 rfl (d8 mB rfl) ?_ | refine a6 rfl T.b2 rfl (d3 mB (b4 (by omega) rfl)) ?_ | refine a6 rfl T.b2 rfl (d1 mB (rows_get (by omega) rfl)) ?_ | refine a6 rfl T.b2 rfl (d7 mB rfl) ?_
    refine j4 _ rfl rfl (fun _ => T.H6 ..) fun gS => ?_; refine n0 (rows [(b.getD j default).1, (b.getD j default).2]) (List.prefix_refl _) ?_; refine j4 _ rfl rfl (fun _ => T.iR ..) fun gS2 => ?_; refine n0 (rows [(⟨some ⟨gS, 0, none⟩, 2, [(b.getD j default).1, (b.getD j default).2]⟩ : Sl Int)]) (List.prefix_refl _) ?_; refine B6 (ps.length + 1) (rows (ps ++ [(⟨some ⟨gS, 0, none⟩, 2, [(b.getD j default).1, (b.getD j default).2]⟩ : Sl Int)])) T.ax9 rfl rfl rfl hG (pm3 _ _ _ _) (Src.row (news := rows [(⟨some ⟨gS, 0, none⟩, 2, [(b.getD j default).1, (b.getD j default).2]⟩ : Sl Int)]) (m := 1) m0 rfl (A9 _) (by decide)) rfl (s9 _ _).symm (by unfold maxLen; omega) (by omega) fun A' c' og' hG' => ?_; refine z9 rfl rfl (pm4 _ _ _ _) T.hj6 (by rfl) (by rfl) ?_; refine kX (kU (ps := ps) (f := fun p : Sl Int => Row p.a (rows p.l)) (p := (⟨some ⟨gS, 0, none⟩, 2, [(b.getD j default).1, (b.getD j default).2]⟩ : Sl Int)) (by repeat constructor) (by repeat constructor)) ?_; refine b3 (n9 (g6 (M3 rfl ?_))); refine q9 _ rfl rfl rfl rfl n5 ?_; refine a8 rfl (b3 ?_); exact again _ (j + 1, ps ++ [(⟨some ⟨gS, 0, none⟩, 2, [(b.getD j default).1, (b.getD j default).2]⟩ : Sl Int)], (A', c'), og') ⟨by show j + 1 ≤ b.length; omega, by show Grow _ _ _ (ps ++ [_]).length _ _ _; rw [List.length_append]; exact hG', by show (ps ++ [_]).map (fun p : Sl Int => p.l) = pairsOf (b.take (j + 1)); rw [s4 b j hj2, bq7, List.map_append, hps]; rfl⟩ (r6 (by omega)) mC (by show List.Sublist (cell12 g12 (.slice A' (ps ++ [_]).length c') :: _) _; rw [List.length_append]; exact List.Sublist.refl _) mC
   have hb4' := hb4; try simp at hb4'
   have hj2 : j = b.length := by omega
   subst hj2; rw [List.take_length] at hps; refine n2 (t4 (n1 (g6 (n2 (kV rfl ?_))))); refine rC (pm3 _ _ _ _) (aq9 hG (X0 (A := na) (ps := ps) mB mB ?_)); exact rp_exit (some (ps, (na, nc))) (hp' := [gbO gb cur, cell12 g12 (.slice na ps.length nc)]) ((List.Perm.swap _ _ _).trans (List.Perm.cons _ (List.Perm.swap _ _ _))) rfl rfl ⟨hpb.symm, fun y hy => by cases hy; exact hps⟩ (List.Sublist.refl _) ⟨m0, trivial⟩
  ·intro x d hx hp; obtain rfl : x = none := by cases x with | none => rfl | some y => cases hp
   refine n9 (n9 (g6 (b9 ?_))); refine q9 _ rfl rfl rfl rfl n5 ?_; refine a8 rfl (b3 ?_); refine rC (List.Perm.cons _ (List.perm_append_comm (l₂ := shutM ds))) ?_; exact againM _ (k + 1, d :: ds) ⟨by show k + 1 ≤ (freeT (trOf cs hs)).length + 1; omega, aq5 h0 hx.1⟩ (r6 (by omega)) rfl mC (List.Sublist.refl _) mC
  intro x d j hx hp; obtain ⟨y, rfl⟩ : ∃ y, x = some y := by cases x with | none => cases hp | some y => exact ⟨y, rfl⟩
  cases hp
  refine n2 (kV rfl (kV rfl (t4 (n1 (g6 (i4 ?_)))))); refine a6 (v := .slice y.2.2.1 y.2.1.length y.2.2.2) rfl T.vQ rfl (h9 (List.mem_cons_of_mem _ (List.mem_append_left _ (List.mem_cons_self ..))) rfl) ?_; refine b7 rfl (b7 rfl (d9 (k5 (ij1 ?_)))); have hJ := join_at hf hk2 h0 hx.1; have hIs := hx.2 _ rfl; refine xF (d :: ds) y.2 rfl (List.Perm.cons _ (List.perm_append_comm (l₂ := shutM ds))) (fun a w _ hfr _ => ?_) rfl (by show isOut _ _; rw [hJ]; exact hIs) nil_sb mC; rw [hJ]; exact xG rfl rfl rfl a w hfr
 exact (ix1 hf fun m hm => h0 m (by omega)).elim
def joinE (t : Tr) (h s : Int) : List (List Int) × Int := if ¬ askE t [h] = 0 then ([], askE t [h]) else if ¬ (0 ≤ s ∧ s ≤ 6) then ([], 1) else if (joinT t h s).isSome = false then ([], 11) else (pairsOf ((joinT t h s).getD []), 0)
set_option maxHeartbeats 1000000 in
theorem M6 {A B : Option Addr} {ca cb : Nat} (cs : List Cl) (hs : List Hd) (h s : Int) (hca : cs.length ≤ ca) (hcb : hs.length ≤ cb) (ha : ∀ h ∈ hs, h.2.2.2.l.length ≤ 1000000) : Meets Tryz.prog F.P2 [.agg #[.slice A cs.length ca, .slice B hs.length cb], int h, int s] { LI := [Row A (rows cs), RowsF B hs Hd.row], inv := fun x : OutS => lsts x.1 = (joinE (trOf cs hs) h s).1, val := fun x => .tuple #[.slice x.2.1 x.1.length x.2.2, int (joinE (trOf cs hs) h s).2], LO := fun x => [Rows2 x.2.1 x.1] } := by
 refine i7 F.yI rfl p7 fun w0 => ?_; refine i4 ?_; refine E5 rfl rfl fun gB => ?_; refine b7 rfl (b7 rfl (d9 ?_)); refine B8 ⟨fun _ : Nat × OutC × OutC => True, fun x => [(1, int h), (2, int s), (3, .pointer (b8 gB)), (8, if askE (trOf cs hs) [h] = 0 then .pointer (some ⟨x.1, 0, none⟩) else .pointer none), (9, int (askE (trOf cs hs) [h]))], fun _ => [(gB, .cells #[.slice A cs.length ca, .slice B hs.length cb] T.i2 (0, 0))], fun x => (if askE (trOf cs hs) [h] = 0 then beginL cs hs A ca B cb x else []) ++ [Row A (rows cs), RowsF B hs Hd.row]⟩ ?_ ?_
 ·skip
  refine b9 ?_
  first | refine u6 rfl T.d6 T.d4 rfl mB (by rfl) ?_ | refine t9 rfl T.d6 T.d4 rfl mB (by rfl) ?_ | refine q6 rfl T.d6 T.d4 rfl rfl (m7 mB (n7 (by omega))) ?_
  refine a8 rfl ?_; refine j4 _ rfl rfl (fun _ => T.v0 ..) fun gS => ?_; refine n0 (rows [h]) (List.prefix_refl _) ?_; refine d5 F.K0 rfl rfl (E7 cs hs [h] hca hcb ha (by simp)) j5 mC fun x _ => ?_; refine a8 rfl (i6 rfl rfl rfl (i6 rfl rfl rfl (b7 rfl (b7 rfl (b3 ?_))))); exact w4 _ x trivial mC (List.Sublist.refl _) (LSub.of_mem fun F hF => (List.mem_append.1 hF).elim (fun h1 => List.mem_append_left _ h1) (fun h2 => List.mem_append_right _ (List.mem_cons_of_mem _ h2)))
 refine fun x _ => ?_
 dsimp only
 refine i1 (i9 (i4 (a8 rfl (t3 rfl rfl rfl (b7 rfl (d9 ?_))))))
 first | refine k8 rfl (fun hb1 => ?_) (fun hb1 => ?_) | refine i5 rfl (fun hb1 => ?_) (fun hb1 => ?_)
 ·have hb1' := hb1; try simp at hb1'
  refine i4 (a8 rfl (b7 rfl (b7 rfl (d9 (k5 (B7 ?_)))))); refine A4 (α := Sl Int) ?_; refine O3 (Fs := ([] : List (Sl Int)).map fun p => Row p.a (rows p.l)) (by intro F hF; simp at hF) ?_; refine X0 (A := none) (ps := ([] : List (Sl Int))) mB mB ?_; have hE : (joinE (trOf cs hs) h s) = ([], askE (trOf cs hs) [h]) := by unfold joinE; rw [if_pos hb1]
  exact ret2 (([] : List (Sl Int)), (none, 0)) rfl rfl rfl (by show Value.tuple #[.slice none 0 0, int ((joinE (trOf cs hs) h s)).2] = _; rw [hE]) rfl (by show [] = ((joinE (trOf cs hs) h s)).1; rw [hE]) nil_sb ⟨m0, trivial⟩
 have hb1' := hb1; try simp at hb1'
 have h0 := Classical.not_not.1 hb1; rw [if_pos h0, if_pos h0]; have hch := Q6 h0; have hin := pK h0 (List.mem_singleton.2 rfl); rw [t0] at hin; have hok := Y3 hch; have h6 : cs.length ≤ 6 := hok.c6; have h6h := hok.h6; rw [t0] at h6h; have hcl : ∀ i, i < cs.length → ClsOK cs i := hok.c; obtain ⟨gl, ⟨oa, oc⟩, ⟨ka, kc⟩⟩ := x; show HC _ _ _ _ _ [Row (b8 gl) [.slice A cs.length ca, .slice B hs.length cb, .slice oa cs.length oc, .slice ka hs.length kc], Row oa (rows (masksN cs cs.length)), Row ka (rows (kindsN hs hs.length)), Row A (rows cs), RowsF B hs Hd.row]; refine i4 (a8 rfl ?_); refine d5 F.v4 rfl rfl (s7 _ _ _) j5 trivial fun _ _ => ?_; refine B3 rfl rfl (b7 rfl (d9 ?_))
 first | refine k8 rfl (fun hb2 => ?_) (fun hb2 => ?_) | refine i5 rfl (fun hb2 => ?_) (fun hb2 => ?_)
 ·have hb2' := hb2; try simp at hb2'
  have h2 : ¬ (0 ≤ s ∧ s ≤ 6) := fun e => by rw [decide_eq_true e] at hb2; cases hb2
  refine i4 (b7 rfl (b7 rfl (d9 (k5 (B7 ?_))))); refine A4 (α := Sl Int) ?_; refine O3 (Fs := ([] : List (Sl Int)).map fun p => Row p.a (rows p.l)) (by intro F hF; simp at hF) ?_; refine X0 (A := none) (ps := ([] : List (Sl Int))) mB mB ?_; have hE : (joinE (trOf cs hs) h s) = ([], 1) := by unfold joinE; rw [if_neg hb1, if_pos h2]
  exact ret2 (([] : List (Sl Int)), (none, 0)) rfl rfl rfl (by show Value.tuple #[.slice none 0 0, int ((joinE (trOf cs hs) h s)).2] = _; rw [hE]) rfl (by show [] = ((joinE (trOf cs hs) h s)).1; rw [hE]) nil_sb ⟨m0, trivial⟩
 have hb2' := hb2; try simp at hb2'
 have h2 : 0 ≤ s ∧ s ≤ 6 := by simpa using hb2
 obtain ⟨sn, rfl⟩ : ∃ sn : Nat, s = (sn : Int) := ⟨s.toNat, by omega⟩; obtain ⟨hn, rfl⟩ : ∃ hn : Nat, h = (hn : Int) := ⟨h.toNat, by omega⟩; refine j3 (n9 (g6 (i4 (a8 rfl (a8 rfl (a8 rfl ?_)))))); refine d5 F.mZ rfl rfl (jB (A := A) (B := B) (oa := oa) (ka := ka) (ca := ca) (cb := cb) (oc := oc) (kc := kc) (gl := gl) cs hs hn sn hok (by omega) (by omega)) j5 mC fun y hy => ?_; refine a8 rfl (i6 rfl rfl rfl (i6 rfl rfl rfl (b7 rfl (b7 rfl (d9 (i1 (i4 (a8 rfl (B3 rfl rfl ?_))))))))); refine d9 ?_
 first | refine k8 rfl (fun hb3 => ?_) (fun hb3 => ?_) | refine i5 rfl (fun hb3 => ?_) (fun hb3 => ?_)
 ·have hb3' := hb3; try simp at hb3'
  have h3 : (joinT (trOf cs hs) (hn : Int) (sn : Int)).isSome = false := by simpa using hb3
  refine i4 (b7 rfl (b7 rfl (d9 (P8 ?_)))); refine A4 (α := Sl Int) ?_; refine O3 (Fs := ([] : List (Sl Int)).map fun p => Row p.a (rows p.l)) (by intro F hF; simp at hF) ?_; refine X0 (A := none) (ps := ([] : List (Sl Int))) mB mB ?_; have hE : (joinE (trOf cs hs) (hn : Int) (sn : Int)) = ([], 11) := by unfold joinE; rw [if_neg hb1, if_neg (fun e => e h2), if_pos h3]
  exact ret2 (([] : List (Sl Int)), (none, 0)) rfl rfl rfl (by show Value.tuple #[.slice none 0 0, int ((joinE (trOf cs hs) (hn : Int) (sn : Int))).2] = _; rw [hE]) rfl (by show [] = ((joinE (trOf cs hs) (hn : Int) (sn : Int))).1; rw [hE]) nil_sb ⟨m0, trivial⟩
 have hb3' := hb3; try simp at hb3'
 have h3 : ¬ (joinT (trOf cs hs) (hn : Int) (sn : Int)).isSome = false := fun e => by rw [e] at hb3; cases hb3
 refine j3 (g6 (i4 (a8 rfl (b7 rfl (b7 rfl (d9 (k5 ?_))))))); have hE : joinE (trOf cs hs) (hn : Int) (sn : Int) = (pairsOf ((joinT (trOf cs hs) (hn : Int) (sn : Int)).getD []), 0) := by unfold joinE; rw [if_neg hb1, if_neg (fun e => e h2), if_neg h3]
 exact ret2 y rfl rfl rfl (by show Value.tuple #[.slice y.2.1 y.1.length y.2.2, int (joinE (trOf cs hs) (hn : Int) (sn : Int)).2] = _; rw [hE]; rfl) rfl (by show lsts y.1 = (joinE (trOf cs hs) (hn : Int) (sn : Int)).1; rw [hE]; exact hy) nil_sb ⟨m0, trivial⟩
def shT : Tr := ⟨shopsC, (shopsH 0 0).map Hd.p⟩
def laT : Tr := ⟨shopsC, (laterH 0).map Hd.p⟩
theorem wZ (a b : Nat) : trOf shopsC (shopsH a b) = shT := rfl
theorem la_of (a : Nat) : trOf shopsC (laterH a) = laT := rfl
theorem ix3 : leastE shT 1 0 = (0, 0) := by kernel_rfl
theorem dz8 : followE shT 5 = (3, 2, 0) := by kernel_rfl
theorem ix_join : joinE shT 3 2 = ([[2, 4], [3, 2]], 0) := by kernel_rfl
theorem ix_may : mayE shT [109] = ([3, 4], 0) := by kernel_rfl
theorem ix2 : shortE shT 1 = ([98, 111], 0) := by kernel_rfl
theorem bx6 : compareE shT laT = ([([99, 111, 110, 102, 101, 99, 116, 105, 111, 110, 101, 114], 1), ([104, 97, 116, 116, 101, 114], 3), ([105, 114, 111, 110, 109, 111, 110, 103, 101, 114], 2)], 0) := by kernel_rfl
theorem kL (a b : Nat) : ∀ h ∈ shopsH a b, h.2.2.2.l.length ≤ 1000000 := by
  intro h hh; simp only [shopsH, List.mem_cons, List.not_mem_nil, or_false] at hh
  rcases hh with rfl | rfl | rfl | rfl | rfl | rfl <;> simp
theorem la_ok (a : Nat) : ∀ h ∈ laterH a, h.2.2.2.l.length ≤ 1000000 := by
  intro h hh; simp only [laterH, List.mem_cons, List.not_mem_nil, or_false] at hh
  rcases hh with rfl | rfl | rfl | rfl | rfl | rfl <;> simp
abbrev shF (x : Nat × Nat × Nat × Nat) : List Fact := [Row (some ⟨x.1, 0, none⟩) (rows shopsC), RowsF (some ⟨x.2.1, 0, none⟩) (shopsH x.2.2.1 x.2.2.2) Hd.row]
abbrev shV (x : Nat × Nat × Nat × Nat) : Value := .agg #[.slice (some ⟨x.1, 0, none⟩) 4 4, .slice (some ⟨x.2.1, 0, none⟩) 6 6]
theorem jj3 (x : Nat × Nat × Nat × Nat) : Meets Tryz.prog F.Q2 [shV x, int 1, int 0] { LI := shF x, val := fun _ : Unit => .tuple #[int 0, int 0] } := by
  have h := S2 (A := some ⟨x.1, 0, none⟩) (B := some ⟨x.2.1, 0, none⟩) (ca := 4) (cb := 6) shopsC (shopsH x.2.2.1 x.2.2.2) 1 0 (Nat.le_refl 4) (Nat.le_refl 6) (kL _ _); rw [wZ, ix3] at h; exact h
theorem gx3 (x : Nat × Nat × Nat × Nat) : Meets Tryz.prog F.M7 [shV x, int 5] { LI := shF x, val := fun _ : Unit => .tuple #[int 3, int 2, int 0] } := by
  have h := P3 (A := some ⟨x.1, 0, none⟩) (B := some ⟨x.2.1, 0, none⟩) (ca := 4) (cb := 6) shopsC (shopsH x.2.2.1 x.2.2.2) 5 (Nat.le_refl 4) (Nat.le_refl 6) (kL _ _); rw [wZ, dz8] at h; exact h
theorem ex_join (x : Nat × Nat × Nat × Nat) : Meets Tryz.prog F.P2 [shV x, int 3, int 2] { LI := shF x, inv := fun y : OutS => lsts y.1 = [[2, 4], [3, 2]], val := fun y => .tuple #[.slice y.2.1 y.1.length y.2.2, int 0], LO := fun y => [Rows2 y.2.1 y.1] } := by
  have h := M6 (A := some ⟨x.1, 0, none⟩) (B := some ⟨x.2.1, 0, none⟩) (ca := 4) (cb := 6) shopsC (shopsH x.2.2.1 x.2.2.2) 3 2 (Nat.le_refl 4) (Nat.le_refl 6) (kL _ _); rw [wZ, ix_join] at h; exact h
theorem ex_may (x : Nat × Nat × Nat × Nat) : Meets Tryz.prog F.dS [shV x, str [109]] { LI := shF x, inv := fun y : OutC => 2 ≤ y.2, val := fun y => .tuple #[.slice y.1 2 y.2, int 0], LO := fun y => [Row y.1 (rows ([3, 4] : List Int))] } := by
  have h := iV (A := some ⟨x.1, 0, none⟩) (B := some ⟨x.2.1, 0, none⟩) (ca := 4) (cb := 6) shopsC (shopsH x.2.2.1 x.2.2.2) [109] (Nat.le_refl 4) (Nat.le_refl 6) (kL _ _); rw [wZ, ix_may] at h; exact h
theorem iz8 (x : Nat × Nat × Nat × Nat) : Meets Tryz.prog F.Q1 [shV x, int 1] { LI := shF x, val := fun _ : Unit => .tuple #[str [98, 111], int 0] } := by
  have h := R9 (A := some ⟨x.1, 0, none⟩) (B := some ⟨x.2.1, 0, none⟩) (ca := 4) (cb := 6) shopsC (shopsH x.2.2.1 x.2.2.2) 1 (Nat.le_refl 4) (Nat.le_refl 6) (kL _ _); rw [wZ, ix2] at h; exact h
def movesX : List Cl := [([99, 111, 110, 102, 101, 99, 116, 105, 111, 110, 101, 114], 1), ([104, 97, 116, 116, 101, 114], 3), ([105, 114, 111, 110, 109, 111, 110, 103, 101, 114], 2)]
theorem bz6 (x : Nat × Nat × Nat × Nat) (y : Nat × Nat × Nat) : Meets Tryz.prog F.X7 [shV x, .agg #[.slice (some ⟨y.1, 0, none⟩) 4 4, .slice (some ⟨y.2.1, 0, none⟩) 6 6]] { LI := shF x ++ [Row (some ⟨y.1, 0, none⟩) (rows shopsC), RowsF (some ⟨y.2.1, 0, none⟩) (laterH y.2.2) Hd.row], inv := fun z : OutC => 3 ≤ z.2, val := fun z => .tuple #[.slice z.1 3 z.2, int 0], LO := fun z => [Row z.1 (rows movesX)] } := by
  have h := mD (A := some ⟨x.1, 0, none⟩) (B := some ⟨x.2.1, 0, none⟩) (ca := 4) (cb := 6) (A2 := some ⟨y.1, 0, none⟩) (B2 := some ⟨y.2.1, 0, none⟩) (ca2 := 4) (cb2 := 6) shopsC (shopsH x.2.2.1 x.2.2.2) shopsC (laterH y.2.2) (Nat.le_refl 4) (Nat.le_refl 6) (kL _ _) (Nat.le_refl 4) (Nat.le_refl 6) (la_ok _); rw [wZ, la_of, bx6] at h; exact h
def pairsX (p q : Nat) : List (Sl Int) := [⟨some ⟨p, 0, none⟩, 2, [2, 4]⟩, ⟨some ⟨q, 0, none⟩, 2, [3, 2]⟩]
theorem jj2 {A B : Option Addr} {ca p q : Nat} {a : List (Sl Int)} (h : lsts a = [[2, 4], [3, 2]]) : Meets Tryz.prog F.Y6 [.slice A a.length ca, .slice B 2 2] { LI := [Rows2 A a, Rows2 B (pairsX p q)], val := fun _ : Unit => .bool true } := by
  have hl : a.length = 2 := by have := congrArg List.length h; rw [bO] at this; exact this
  have h2 := cH (A := A) (B := B) (ca := ca) (cb := 2) a (pairsX p q) (by omega) (fun s hs => by
    have hm : s.l ∈ lsts a := List.mem_map.2 ⟨s, hs, rfl⟩; rw [h] at hm; simp only [List.mem_cons, List.not_mem_nil, or_false] at hm
    rcases hm with e | e <;> rw [e] <;> decide)
  rw [decide_eq_true (show lsts a = lsts (pairsX p q) from h)] at h2; exact h2
theorem jj1 {A B : Option Addr} {ca cb : Nat} : Meets Tryz.prog F.cG [.slice A 3 ca, .slice B 3 cb] { LI := [Row A (rows movesX), Row B (rows movesX)], val := fun _ : Unit => .bool true } := by
  have h2 := qY (A := A) (B := B) (ca := ca) (cb := cb) movesX movesX (by decide); rw [decide_eq_true rfl] at h2; exact h2
theorem ex_ints {A B : Option Addr} {ca cb : Nat} : Meets Tryz.prog F.bP [.slice A 2 ca, .slice B 2 cb] { LI := [Row A (rows ([3, 4] : List Int)), Row B (rows ([3, 4] : List Int))], val := fun _ : Unit => .bool true } := by
  have h2 := N2 (A := A) (B := B) (ca := ca) (cb := cb) [3, 4] [3, 4] (by decide); rw [decide_eq_true rfl] at h2; exact h2
set_option maxHeartbeats 1000000 in
theorem mM : Meets Tryz.prog F.dG [] { val := fun _ : Unit => .bool true } := by
 refine i7 F.tF rfl p7 fun w0 => ?_; refine i4 (b7 rfl (j8 ?_)); refine d5 F.l4 rfl rfl (k9) j5 trivial fun x1 _ => ?_; refine d5 F.bF rfl rfl (jj3 x1) j5 mC fun _ _ => ?_; refine a8 rfl (i6 rfl rfl rfl (i6 rfl rfl rfl (b7 rfl (b7 rfl (j8 ?_))))); refine d5 F.l4 rfl rfl (k9) j5 trivial fun x2 _ => ?_; refine d5 F.Z6 rfl rfl (gx3 x2) j5 mC fun _ _ => ?_; refine a8 rfl (i6 rfl rfl rfl (i6 rfl rfl rfl (i6 rfl rfl rfl (b7 rfl (b7 rfl (b7 rfl (j8 ?_))))))); refine d5 F.l4 rfl rfl (k9) j5 trivial fun x3 _ => ?_; refine d5 F.X6 rfl rfl (ex_join x3) j5 mC fun y3 hy3 => ?_; refine a8 rfl (i6 rfl rfl rfl (i6 rfl rfl rfl (b7 rfl (b7 rfl (j8 ?_))))); refine d5 F.l4 rfl rfl (k9) j5 trivial fun x4 _ => ?_; refine d5 F.qB rfl rfl (ex_may x4) j5 mC fun y4 _ => ?_; refine a8 rfl (i6 rfl rfl rfl (i6 rfl rfl rfl (b7 rfl (b7 rfl (j8 ?_))))); refine d5 F.l4 rfl rfl (k9) j5 trivial fun x5 _ => ?_; refine d5 F.bD rfl rfl (iz8 x5) j5 mC fun _ _ => ?_; refine a8 rfl (i6 rfl rfl rfl (i6 rfl rfl rfl (b7 rfl (b7 rfl (j8 ?_))))); refine d5 F.l4 rfl rfl (k9) j5 trivial fun x6 _ => ?_; refine d5 F.vC rfl rfl (qW) j5 trivial fun x7 _ => ?_; refine d5 F.rQ rfl rfl (bz6 x6 x7) j5 mC fun y6 _ => ?_; refine a8 rfl (i6 rfl rfl rfl (i6 rfl rfl rfl (b7 rfl (b7 rfl (j8 (a8 rfl (G0 rfl rfl rfl (a8 rfl ?_)))))))); refine m6 rfl rfl ?_ ?_
 ·intro hg1; have hg1' := hg1; try simp at hg1'
  refine i3 rfl rfl hg1 (a8 rfl (i3 rfl rfl hg1 (G0 rfl rfl rfl ?_))); refine p_t rfl rfl (bt1 hg1) rfl (a8 rfl ?_); refine m6 rfl rfl ?_ ?_
  ·intro hg2; have hg2' := hg2; try simp at hg2'
   refine i3 rfl rfl hg2 (a8 rfl (i3 rfl rfl hg2 (G0 rfl rfl rfl ?_))); refine p_t rfl rfl (bt1 hg2) rfl (a8 rfl ?_); refine m6 rfl rfl ?_ ?_
   ·intro hg3; have hg3' := hg3; try simp at hg3'
    refine i3 rfl rfl hg3 (a8 rfl (i3 rfl rfl hg3 (G0 rfl rfl rfl ?_))); refine p_t rfl rfl (bt1 hg3) rfl (a8 rfl ?_); refine m6 rfl rfl ?_ ?_
    ·intro hg4; have hg4' := hg4; try simp at hg4'
     refine i3 rfl rfl hg4 (a8 rfl (i3 rfl rfl hg4 (G0 rfl rfl rfl ?_))); refine p_t rfl rfl (bt1 hg4) rfl (a8 rfl ?_); refine m6 rfl rfl ?_ ?_
     ·intro hg5; have hg5' := hg5; try simp at hg5'
      refine i3 rfl rfl hg5 (a8 rfl (i3 rfl rfl hg5 (G0 rfl rfl rfl ?_))); refine p_t rfl rfl (bt1 hg5) rfl (a8 rfl ?_); refine m6 rfl rfl ?_ ?_
      ·intro hg6; have hg6' := hg6; try simp at hg6'
       refine i3 rfl rfl hg6 (a8 rfl (i3 rfl rfl hg6 (G0 rfl rfl rfl ?_))); refine p_t rfl rfl (bt1 hg6) rfl (a8 rfl ?_); refine m6 rfl rfl ?_ ?_
       ·intro hg7; have hg7' := hg7; try simp at hg7'
        refine i3 rfl rfl hg7 (a8 rfl (i3 rfl rfl hg7 (G0 rfl rfl rfl ?_))); refine p_t rfl rfl (bt1 hg7) rfl (a8 rfl ?_); refine m6 rfl rfl ?_ ?_
        ·intro hg8; have hg8' := hg8; try simp at hg8'
         refine i3 rfl rfl hg8 (a8 rfl (i3 rfl rfl hg8 (G0 rfl rfl rfl ?_))); refine p_t rfl rfl (bt1 hg8) rfl (a8 rfl ?_); refine m6 rfl rfl ?_ ?_
         ·intro hg9; have hg9' := hg9; try simp at hg9'
          refine i3 rfl rfl hg9 (a8 rfl (i3 rfl rfl hg9 (kQ rfl rfl rfl ?_))); refine p_t rfl rfl (bt1 hg9) rfl (a8 rfl ?_); refine m6 rfl rfl ?_ ?_
          ·intro hg10; have hg10' := hg10; try simp at hg10'
           refine i3 rfl rfl hg10 (a8 rfl (i3 rfl rfl hg10 ?_)); refine j4 _ rfl rfl (fun _ => T.H6 ..) fun gp => ?_; refine n0 (rows [(2 : Int), 4]) (List.prefix_refl _) ?_; refine i3 rfl rfl hg10 ?_; refine j4 _ rfl rfl (fun _ => T.H6 ..) fun gq => ?_; refine n0 (rows [(3 : Int), 2]) (List.prefix_refl _) ?_; refine i3 rfl rfl hg10 ?_; refine j4 _ rfl rfl (fun _ => T.vR ..) fun gr => ?_; refine n0 (rows (pairsX gp gq)) (List.prefix_refl _) ?_; refine rD (A := some ⟨gr, 0, none⟩) (ps := pairsX gp gq) mB (by intro p hp; simp only [pairsX, List.mem_cons, List.not_mem_nil, or_false] at hp; rcases hp with rfl | rfl <;> repeat constructor) ?_; refine i3 rfl rfl hg10 ?_; refine d5 F.S9 rfl rfl (jj2 (p := gp) (q := gq) hy3) j5 mC fun _ _ => ?_; refine p_t rfl rfl (bt1 hg10) rfl ?_; refine a8 rfl ?_; refine m6 rfl rfl ?_ ?_
           ·intro hg11; have hg11' := hg11; try simp at hg11'
            refine i3 rfl rfl hg11 (a8 rfl (i3 rfl rfl hg11 ?_)); refine j4 _ rfl rfl (fun _ => T.H6 ..) fun gS => ?_; refine i3 rfl rfl hg11 (n0 (rows ([3, 4] : List Int)) (List.prefix_refl _) ?_); refine d5 F.B9 rfl rfl (ex_ints) j5 mC fun _ _ => ?_; refine p_t rfl rfl (bt1 hg11) rfl (a8 rfl ?_); refine m6 rfl rfl ?_ ?_
            ·intro hg12; have hg12' := hg12; try simp at hg12'
             refine i3 rfl rfl hg12 (a8 rfl (i3 rfl rfl hg12 ?_)); refine w7 _ rfl rfl (fun _ => T.H7 ..) (i3 rfl rfl hg12 (w7 _ rfl rfl (fun _ => T.H7 ..) (i3 rfl rfl hg12 (w7 _ rfl rfl (fun _ => T.H7 ..) (i3 rfl rfl hg12 ?_))))); refine j4 _ rfl rfl (fun _ => T.tK ..) fun gS => ?_; refine i3 rfl rfl hg12 (n0 (rows movesX) (List.prefix_refl _) ?_); refine d5 F.vF rfl rfl (jj1) j5 mC fun _ _ => ?_; refine p_t rfl rfl (bt1 hg12) rfl ?_; refine b7 rfl (d9 (k5 ?_)); exact ret1 () rfl rfl rfl trivial nil_sb trivial
            intro hg12; have hg12' := hg12; try simp at hg12'
           intro hg11; have hg11' := hg11; try simp at hg11'
          intro hg10; have hg10' := hg10; try simp at hg10'
         intro hg9; have hg9' := hg9; try simp at hg9'
        intro hg8; have hg8' := hg8; try simp at hg8'
       intro hg7; have hg7' := hg7; try simp at hg7'
      intro hg6; have hg6' := hg6; try simp at hg6'
     intro hg5; have hg5' := hg5; try simp at hg5'
    intro hg4; have hg4' := hg4; try simp at hg4'
   intro hg3; have hg3' := hg3; try simp at hg3'
  intro hg2; have hg2' := hg2; try simp at hg2'
 intro hg1; have hg1' := hg1; try simp at hg1'
def sortN (names : List Int) (i : Nat) : Str := sortsL.getD (names.getD i default).toNat default
def callN (words : List Int) (i : Nat) : Str := callingsL.getD (words.getD i default).toNat default
def ClsMade (names : List Int) (cs : List Cl) : Prop := ∀ i, i < cs.length → (cs.getD i default).1 = sortN names i ∧ -1 ≤ (cs.getD i default).2 ∧ (cs.getD i default).2 < (i : Int)
def HdMade (nc n i : Nat) (h : Hd) : Prop := (∀ k, k < h.2.2.2.l.length → alsoErr n i h.2.2.2.l k = 0) ∧ ((0 ≤ h.2.2.1 ∧ h.2.2.1 < (n : Int) ∧ ¬ h.2.2.1 = (i : Int) ∧ h.2.1 = -1 ∧ h.2.2.2.l = []) ∨ (h.2.2.1 = -1 ∧ 0 ≤ h.2.1 ∧ h.2.1 < (nc : Int)) ∨ (h.2.2.1 = -1 ∧ h.2.1 = -1 ∧ h.2.2.2.l ≠ []))
def HsMade (words : List Int) (nc n : Nat) (hs : List Hd) : Prop := ∀ i, i < hs.length → (hs.getD i default).1 = callN words i ∧ HdMade nc n i (hs.getD i default)
theorem asc_at {l : List Int} (h : l.Pairwise (· < ·)) {j i : Nat} (hji : j < i) (hi : i < l.length) : l.getD j default < l.getD i default := by
  rw [u9 (show j < l.length by omega), u9 hi]; exact (List.pairwise_iff_getElem.1 h) j i (by omega) hi hji
def AscB (i k : Nat) (l : List Int) : Prop := l.Pairwise (· < ·) ∧ ∀ x ∈ l, 0 ≤ x ∧ x < (k : Int) ∧ ¬ x = (i : Int)
theorem AscB.step {i k : Nat} {l : List Int} (h : AscB i k l) : AscB i (k + 1) l := ⟨h.1, fun x hx => by have := h.2 x hx; omega⟩
theorem AscB.len {i n : Nat} {l : List Int} (h : AscB i n l) : l.length ≤ n := by
  have hg := cj4 (l := l) fun k hk => ⟨(h.2 _ (s6 hk)).1, fun h0 => asc_at h.1 (show k - 1 < k by omega) hk⟩
  by_cases h0 : l.length = 0
  · omega
  have h1 := hg (l.length - 1) (by omega); have h2 := (h.2 _ (s6 (show l.length - 1 < l.length by omega))).2.1
  omega
abbrev trB (g : Nat) (A : Option Addr) (n c : Nat) (B : Option Addr) (m k : Nat) : Nat × Obj := (g, .cells #[.slice A n c, .slice B m k] T.i2 (0, 0))
abbrev hdB (g : Nat) (w : Str) (cl se : Int) (A : Option Addr) (n c : Nat) : Nat × Obj := (g, .cells #[str w, int cl, int se, .slice A n c] T.i8 (0, 0))
abbrev TRes := List Cl × List Hd × OutC × OutC
structure TOf (m1 m2 : Nat) (x : TRes) : Prop where
  ok : checkT (trOf x.1 x.2.1) = 0
  c1 : 1 ≤ x.1.length
  c2 : x.1.length ≤ m1
  h2 : x.2.1.length ≤ m2
  ca : x.1.length ≤ x.2.2.1.2
  cb : x.2.1.length ≤ x.2.2.2.2
  ha : ∀ h ∈ x.2.1, h.2.2.2.l.length ≤ 1000000
end Go.Proofs.YtfhninnleacgiaaGreat
end
