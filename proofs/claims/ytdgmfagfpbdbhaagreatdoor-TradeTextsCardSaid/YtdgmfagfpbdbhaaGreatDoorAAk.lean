/- Texts. -/

import Derived.Test.YtdgmfagfpbdbhaaGreatDoorAAj
set_option linter.unusedVariables false
set_option linter.unusedSimpArgs false
section
namespace Go.Proofs.YtdgmfagfpbdbhaaGreatDoor
open Go Go.W Tryz T F
set_option maxRecDepth 20000
attribute [local irreducible] HL HC HQ HB Row Rows2 Blk Facts
theorem kq7 {a b : Nat} (ha : a < 256) (hb : b < 256) : diff8 a b = 0 ↔ ∀ j, a.testBit j = true → b.testBit j = true := by
  have hnot : ∀ j, (255 - b).testBit j = (decide (j < 8) && !b.testBit j) := fun j => by
    rw [show 255 - b = 2 ^ 8 - (b + 1) by omega]; exact Nat.testBit_two_pow_sub_succ (n := 8) hb j
  have hhi : ∀ j, 8 ≤ j → a.testBit j = false := fun j hj => Nat.testBit_lt_two_pow (Nat.lt_of_lt_of_le ha (Nat.pow_le_pow_right (by omega) hj : 2 ^ 8 ≤ 2 ^ j)); unfold diff8
  constructor
  · intro h j hj
    have h1 := congrArg (fun m => m.testBit j) h; simp only [Nat.testBit_and, hnot, hj, Nat.zero_testBit, Bool.true_and] at h1
    by_cases h8 : j < 8
    · simpa [h8] using h1
    rw [hhi j (by omega)] at hj; cases hj
  intro h; refine Nat.eq_of_testBit_eq fun j => ?_; rw [Nat.testBit_and, hnot, Nat.zero_testBit]
  cases hj : a.testBit j
  · rfl
  rw [h j hj]; simp
theorem reach6 {n : Nat} (hn : n ≤ 6) {e e' : Edges} {h : Nat} (hE : ∀ k, k < n → ∀ i, e k i = e' k i) (h0 : ∀ k, n ≤ k → ∀ i, e k i = false) : ∀ (s i : Nat), reachB 6 e h s i = reachB n e' h s i
  | 0, i => rfl
  | s + 1, i => by
    rw [Bool.eq_iff_iff, cz6, cz6, reach6 hn hE h0 s i]; refine or_congr_right ⟨?_, ?_⟩
    · rintro ⟨k, h1, h2, h3⟩
      by_cases hk : k < n
      · exact ⟨k, hk, by rw [← reach6 hn hE h0 s k]; exact h2, by rw [← hE k hk]; exact h3⟩
      rw [h0 k (by omega)] at h3; cases h3
    rintro ⟨k, h1, h2, h3⟩; exact ⟨k, by omega, by rw [reach6 hn hE h0 s k]; exact h2, by rw [hE k h1]; exact h3⟩
abbrev InRf (n : Nat) (l : List Rf) : Prop := ∀ r ∈ l, (0 ≤ r.1 ∧ r.1 < (n : Int)) ∧ 0 ≤ r.2 ∧ r.2 < (n : Int)
abbrev wE (t : Tr) (n : Nat) (r : List Rf) (i x : Nat) : Bool := (decide (i < n) && nextB t i x) || decide (((i : Int), (x : Int)) ∈ r)
structure WithK (t : Tr) (n : Nat) (r : List Rf) (ns : List Nat) : Prop where
  len : ns.length = 6
  is : ∀ i, SetIs (ns.getD i default) (fun x => wE t n r i x)
theorem WithK.start {t : Tr} {n : Nat} {ns : List Nat} (h : NetK t n ns) : WithK t n [] ns := ⟨h.len, fun i => (h.is i).same fun j => by simp [wE]⟩
theorem WithK.add {t : Tr} {n a e : Nat} {r : List Rf} {ns : List Nat} (h : WithK t n r ns) (ha : a < 6) (he : e < 8) : WithK t n (r ++ [((a : Int), (e : Int))]) (ns.set a (ns.getD a default ||| 2 ^ e)) := ⟨by rw [List.length_set]; exact h.len, fun i => by
  rw [jj5 (by rw [h.len]; exact ha)]
  by_cases hi : a = i
  · subst hi
    rw [if_pos rfl]; refine (h.is a).add he fun j => ?_; show wE t n _ a j = (wE t n r a j || decide (e = j)); unfold wE; rw [Bool.or_assoc]
    congr 1
    rw [← Bool.decide_or]; refine decide_eq_decide.2 ?_; rw [List.mem_append, List.mem_singleton, Prod.mk.injEq]; exact or_congr_right ⟨fun e => by omega, fun e => by omega⟩
  rw [if_neg hi]; refine (h.is i).same fun j => ?_; show wE t n _ i j = wE t n r i j; unfold wE
  congr 1
  refine decide_eq_decide.2 ?_; rw [List.mem_append, List.mem_singleton, Prod.mk.injEq]
  exact ⟨fun e => e.elim id (fun e => by omega), .inl⟩⟩
theorem lq1 {t : Tr} {r : List Rf} {due m h s : Nat} (hn : t.hs.length ≤ 6) (hr : InRf t.hs.length r) (hd : SetIs due (fun j => decide (j < t.hs.length) && isTrB t (j : Int))) (hm : SetIs m (reachB 6 (wE t t.hs.length r) h s)) : decide ((diff8 due m : Int) = 0) = fineB t (h : Int) (s : Int) r := by
  have hR : ∀ i, reachB 6 (wE t t.hs.length r) h s i = reachB t.hs.length (withE t r) h s i := fun i => reach6 hn (fun k hk i => by unfold wE withE; rw [decide_eq_true hk, Bool.true_and]) (fun k hk i => by
    unfold wE; rw [decide_eq_false (show ¬ k < t.hs.length by omega), Bool.false_and, Bool.false_or]; refine decide_eq_false fun hm => ?_; have := (hr _ hm).1.2; simp only at this
    omega) s i
  rw [Bool.eq_iff_iff, decide_eq_true_eq]; unfold fineB; rw [List.all_eq_true]; have hz := kq7 hd.1 hm.1
  constructor
  · intro h0 i hi
    have hi := List.mem_range.1 hi; have h1 := hz.1 (by omega) i; rw [hd.2 i, hm.2 i, hR i] at h1; simp only [Int.toNat_natCast]
    cases ht : isTrB t (i : Int)
    · rfl
    rw [h1 (by simp [hi, ht])]; rfl
  intro h0
  have : diff8 due m = 0 := hz.2 fun j hj => by
    rw [hd.2 j] at hj; simp only [Bool.and_eq_true, decide_eq_true_eq] at hj; have h1 := h0 j (List.mem_range.2 hj.1); rw [hj.2] at h1; rw [hm.2 j, hR j]
    simpa using h1
  omega
abbrev gbO (g : Nat) (cur : Array Value) : Nat × Obj := (g, .cells cur Q4 (0, 0))
abbrev WL (g9 g8 g4 g5 : Nat) (ns : List Nat) (due h s : Nat) : List Fact := [Blk g9 (.cells (rows ns).toArray X4 (0, 0)), Blk g8 (.cells #[u8 due] dM (0, 0)), Blk g4 (.cells #[int h] aU (0, 0)), Blk g5 (.cells #[int s] aU (0, 0))]
abbrev pt (g : Nat) : Value := .pointer (d9 g)
theorem own2 {cur : Array Value} {l : List Rf} {k : Nat} (h : cur.toList.take (l.length * 2) = rows l) (hk : k < l.length) : ∀ i u, [int (l.getD k default).1, int (l.getD k default).2][i]? = some u → cur[0 + k * 2 + i]? = some u := by
  intro i u hu; have hlt : i < 2 := (List.getElem?_eq_some_iff.1 hu).1; have h2 : (rows l)[k * 2 + i]? = some u := rows_get (α := Rf) hk hu; rw [← h, List.getElem?_take, if_pos (by omega)] at h2; rw [Nat.zero_add, ← Array.getElem?_toList]; exact h2
set_option maxHeartbeats 1000000 in
theorem pN {A : Option Addr} {c : Nat} {g9 g8 g4 g5 : Nat} {t : Tr} (ns : List Nat) (due h s : Nat) (refs : List Rf) (hn : t.hs.length ≤ 6) (hN : NetK t t.hs.length ns) (hD : SetIs due (fun j => decide (j < t.hs.length) && isTrB t (j : Int))) (hh : h < 6) (hs : s ≤ 1000000) (hr : InRf t.hs.length refs) (hrl : refs.length ≤ 1000000) :
    Meets prog H1 [.slice A refs.length c, pt g9, pt g8, pt g4, pt g5] { LI := Row A (rows refs) :: WL g9 g8 g4 g5 ns due h s, val := fun _ : Unit => .bool (fineB t h s refs) } := by
 refine j3 gG rfl v8 fun w0 => d6 ?_; obtain ⟨a0, a1, a2, a3, a4, a5, rfl⟩ := six hN.len; refine c9 (c5 rfl (t6 ?_))
 first | refine G3 rfl E2 C5 rfl mB (by rfl) ?_ | refine I3 rfl E2 C5 rfl mB (by rfl) ?_ | refine z8 rfl E2 C5 rfl rfl (v9 mB (B3 (by omega))) ?_
 refine u4 rfl (fun _ => V1 _) fun g7 => l6 rfl rfl X2 C5 (by rfl) (by rfl) ?_; refine c8 (d6 (i4 (b6 rfl ?_))); refine k6 rfl I5 rfl ?_; refine b6 rfl (c8 (j5 ?_)); refine u6 (β := Nat × List Nat) ⟨fun x => x.1 ≤ refs.length ∧ WithK t t.hs.length (refs.take x.1) x.2, fun x => [(2, pt g8), (3, pt g4), (4, pt g5), (7, pt g7), (11, .slice A refs.length c), (12, int refs.length), (13, int x.1)], fun x => arr8 g7 x.2 :: [], fun _ => Row A (rows refs) :: WL g9 g8 g4 g5 [a0, a1, a2, a3, a4, a5] due h s⟩ (fun x => refs.length - x.1) (0, [a0, a1, a2, a3, a4, a5]) ⟨Nat.zero_le _, .start hN⟩ mC (List.Sublist.refl _) mC fun x hx => ?_; obtain ⟨k, ns⟩ := x; obtain ⟨hk, hW⟩ := hx; simp only at hk hW; refine i4 (B5 rfl rfl rfl (c8 (d6 ?_)))
 first | refine k9 rfl (fun hb1 => ?_) (fun hb1 => ?_) | refine j0 rfl (fun hb1 => ?_) (fun hb1 => ?_)
 ·have hb1' := hb1; try simp at hb1'
  have hk2 : k < refs.length := by omega
  have hrk := hr _ (w8 hk2); obtain ⟨a, ha⟩ := Int.eq_ofNat_of_zero_le hrk.1.1; obtain ⟨e, he⟩ := Int.eq_ofNat_of_zero_le hrk.2.1; have hax : a < ns.length := by rw [hW.len]; omega
  refine i8 (i1 (d6 (j5 (i4 ?_)))); refine m7 (α := Rf) refs k rfl I5 B9 rfl rfl rfl mB rfl hk2 (by decide) (z8 rfl G2 B9 rfl rfl (v9 mB (B3 (by omega))) (u4 rfl (fun _ => bZ _) fun gA => l6 rfl rfl X2 B9 (by rfl) (by rfl) (c8 (Q1 (rows [refs.getD k default]) ⟨[], List.append_nil _⟩ (C0 9 mixed (by decide) (by decide) rfl rfl ?_)))))
  apply k7 _ rfl rfl rfl
  ·intro w1
   first | refine a6 ⟨_, 0, none⟩ rfl rfl H8 rfl ?_ | refine a6 _ rfl rfl H8 rfl ?_
   refine b5 ?_; exact i5 rfl
  apply k7 _ rfl rfl rfl
  ·intro w1
   first | refine a7 rfl a8 rfl (d8 mB rfl) ?_ | refine a7 rfl a8 rfl (i2 mB rfl) ?_ | refine a7 rfl a8 rfl (b7 mB (b4 (by omega) rfl)) ?_ | refine a7 rfl a8 rfl (b8 mB (rows_get (by omega) rfl)) ?_ | refine a7 rfl a8 rfl (d7 mB rfl) ?_
   refine b5 ?_; exact i5 rfl
  apply k7 _ rfl rfl rfl
  ·intro w1
   first | refine a6 ⟨_, 0, none⟩ rfl rfl H8 rfl ?_ | refine a6 _ rfl rfl H8 rfl ?_
   refine b5 ?_; exact i5 rfl
  apply k7 _ rfl rfl rfl
  ·intro w1
   first | refine a7 rfl a8 rfl (d8 mB rfl) ?_ | refine a7 rfl a8 rfl (i2 mB rfl) ?_ | refine a7 rfl a8 rfl (b7 mB (b4 (by omega) rfl)) ?_ | refine a7 rfl a8 rfl (b8 mB (rows_get (by omega) rfl)) ?_ | refine a7 rfl a8 rfl (d7 mB rfl) ?_
   refine b5 ?_; exact i5 rfl
  refine k8 (fun w1 => iM a a rfl P6 G8 rfl rfl ha (by omega) (by omega) (q_z rfl)) (k8 (fun w1 => a7 (v := u8 (ns.getD a default)) rfl D3 rfl (d8 mB (at8 hax)) (q_z rfl)) ?_)
  apply k7 _ rfl rfl rfl
  ·intro w1
   first | refine a6 ⟨_, 1, none⟩ rfl rfl O9 rfl ?_ | refine a6 _ rfl rfl O9 rfl ?_
   refine b5 ?_; exact i5 rfl
  apply k7 _ rfl rfl rfl
  ·intro w1
   first | refine a7 rfl a8 rfl (d8 mB rfl) ?_ | refine a7 rfl a8 rfl (i2 mB rfl) ?_ | refine a7 rfl a8 rfl (b7 mB (b4 (by omega) rfl)) ?_ | refine a7 rfl a8 rfl (b8 mB (rows_get (by omega) rfl)) ?_ | refine a7 rfl a8 rfl (d7 mB rfl) ?_
   refine b5 ?_; exact i5 rfl
  refine k8 (fun w1 => j4 (vs := [u8 (ns.getD a default), int (e : Int)]) K2 rfl (by rw [← he]; rfl) (K1 (ns.getD a default) e (hW.is a).1 (by omega)) t4 tK fun _ _ => (q_z rfl)) ?_; refine v7 ⟨rfl, ?_⟩; refine iM a a rfl P6 G8 rfl rfl ha (by omega) (by omega) (C8 (v := u8 (ns.getD a default ||| 2 ^ e)) rfl rfl (.refl _) G8 (at8 hax) (by rfl) ?_); rw [dx6]; refine b5 (w6 (i1 (c9 ?_))); refine t5 _ rfl rfl rfl rfl q6 ?_; refine b6 rfl (b5 ?_); exact again _ (k + 1, ns.set a (ns.getD a default ||| 2 ^ e)) ⟨by show k + 1 ≤ refs.length; omega, by show WithK _ _ (refs.take (k + 1)) _; rw [D6 refs k hk2, show refs.getD k default = ((a : Int), (e : Int)) from Prod.ext ha he]; exact hW.add (by omega) (by omega)⟩ (y8 (by omega)) mC (List.Sublist.refl _) mC
 have hb1' := hb1; try simp at hb1'
 have hk2 : k = refs.length := by omega
 subst hk2; rw [List.take_length] at hW; refine t7 (C7 (t8 (i1 (d6 ?_)))); refine C0 5 mixed (by decide) (by decide) rfl rfl ?_
 apply k7 _ rfl rfl rfl
 ·intro w1
  first | refine a7 rfl D3 rfl (d8 mB rfl) ?_ | refine a7 rfl D3 rfl (i2 mB rfl) ?_ | refine a7 rfl D3 rfl (b7 mB (b4 (by omega) rfl)) ?_ | refine a7 rfl D3 rfl (b8 mB (rows_get (by omega) rfl)) ?_ | refine a7 rfl D3 rfl (d7 mB rfl) ?_
  refine b5 ?_; exact i5 rfl
 refine k8 (fun w1 => I3 (n := 6) rfl E2 C5 rfl mB (by rw [List.size_toArray, R6]; show ns.length * 1 = 6; rw [hW.len]) (q_z rfl)) ?_
 apply k7 _ rfl rfl rfl
 ·intro w1
  first | refine a7 rfl a8 rfl (d8 mB rfl) ?_ | refine a7 rfl a8 rfl (i2 mB rfl) ?_ | refine a7 rfl a8 rfl (b7 mB (b4 (by omega) rfl)) ?_ | refine a7 rfl a8 rfl (b8 mB (rows_get (by omega) rfl)) ?_ | refine a7 rfl a8 rfl (d7 mB rfl) ?_
  refine b5 ?_; exact i5 rfl
 apply k7 _ rfl rfl rfl
 ·intro w1
  first | refine a7 rfl a8 rfl (d8 mB rfl) ?_ | refine a7 rfl a8 rfl (i2 mB rfl) ?_ | refine a7 rfl a8 rfl (b7 mB (b4 (by omega) rfl)) ?_ | refine a7 rfl a8 rfl (b8 mB (rows_get (by omega) rfl)) ?_ | refine a7 rfl a8 rfl (d7 mB rfl) ?_
  refine b5 ?_; exact i5 rfl
 refine V9 ⟨Nat, fun m => SetIs m (reachB 6 (fun i x => wE t t.hs.length refs i x) h s), fun m => u8 m, fun _ => []⟩ rfl rfl rfl ?_ ?_
 ·intro w1; refine j4 dZ rfl rfl (dJ ns hW.len (fun i x => wE t t.hs.length refs i x) hW.is h s hh hs) t4 tK fun m hm => ?_; refine b5 ?_; exact K5 m hm rfl tK
 refine v7 ⟨rfl, ?_⟩; intro m hm; refine gq8 rfl rfl rfl hD.1 hm.1 (J0 rfl rfl rfl (c5 rfl (c8 (l4 ?_)))); exact ret1 () rfl (congrArg (fun b => some (Value.bool b)) (lq1 hn hr hD hm)) rfl tK nK tK
set_option maxHeartbeats 1000000 in
theorem nR {gb : Nat} {c : Nat} {cur : Array Value} {g9 g8 g4 g5 : Nat} {t : Tr} (ns : List Nat) (due h s : Nat) (refs : List Rf) (hn : t.hs.length ≤ 6) (hN : NetK t t.hs.length ns) (hD : SetIs due (fun j => decide (j < t.hs.length) && isTrB t (j : Int))) (hh : h < 6) (hs : s ≤ 1000000) (hr : InRf t.hs.length refs) (hrl : refs.length ≤ 1000000) (hct : cur.toList.take (refs.length * 2) = rows refs) :
    Meets prog H1 [.slice (d9 gb) refs.length c, pt g9, pt g8, pt g4, pt g5] { hpI := [gbO gb cur], hpO := fun _ => [gbO gb cur], LI := WL g9 g8 g4 g5 ns due h s, val := fun _ : Unit => .bool (fineB t h s refs) } := by
 refine j3 gG rfl v8 fun w0 => d6 ?_; obtain ⟨a0, a1, a2, a3, a4, a5, rfl⟩ := six hN.len; refine c9 (c5 rfl (t6 ?_))
 first | refine G3 rfl E2 C5 rfl mB (by rfl) ?_ | refine I3 rfl E2 C5 rfl mB (by rfl) ?_ | refine z8 rfl E2 C5 rfl rfl (v9 mB (B3 (by omega))) ?_
 refine u4 rfl (fun _ => V1 _) fun g7 => l6 rfl rfl X2 C5 (by rfl) (by rfl) ?_; refine c8 (d6 (i4 (b6 rfl ?_))); refine k6 rfl I5 rfl ?_; refine b6 rfl (c8 (j5 ?_)); refine u6 (β := Nat × List Nat) ⟨fun x => x.1 ≤ refs.length ∧ WithK t t.hs.length (refs.take x.1) x.2, fun x => [(2, pt g8), (3, pt g4), (4, pt g5), (7, pt g7), (11, .slice (d9 gb) refs.length c), (12, int refs.length), (13, int x.1)], fun x => arr8 g7 x.2 :: [gbO gb cur], fun _ => WL g9 g8 g4 g5 [a0, a1, a2, a3, a4, a5] due h s⟩ (fun x => refs.length - x.1) (0, [a0, a1, a2, a3, a4, a5]) ⟨Nat.zero_le _, .start hN⟩ mC (List.Sublist.refl _) mC fun x hx => ?_; obtain ⟨k, ns⟩ := x; obtain ⟨hk, hW⟩ := hx; simp only at hk hW; refine i4 (B5 rfl rfl rfl (c8 (d6 ?_)))
 first | refine k9 rfl (fun hb1 => ?_) (fun hb1 => ?_) | refine j0 rfl (fun hb1 => ?_) (fun hb1 => ?_)
 ·have hb1' := hb1; try simp at hb1'
  have hk2 : k < refs.length := by omega
  have hrk := hr _ (w8 hk2); obtain ⟨a, ha⟩ := Int.eq_ofNat_of_zero_le hrk.1.1; obtain ⟨e, he⟩ := Int.eq_ofNat_of_zero_le hrk.2.1; have hax : a < ns.length := by rw [hW.len]; omega
  refine i8 (i1 (d6 (j5 (i4 ?_)))); refine B4 k (0 + k * 2) rfl I5 B9 rfl rfl rfl hk2 rfl (z8 rfl G2 B9 rfl rfl (vE mB (own2 hct hk2)) (u4 rfl (fun _ => bZ _) fun gA => l6 rfl rfl X2 B9 (by rfl) (by rfl) (c8 (Q1 (rows [refs.getD k default]) ⟨[], List.append_nil _⟩ (C0 9 mixed (by decide) (by decide) rfl rfl ?_)))))
  apply k7 _ rfl rfl rfl
  ·intro w1
   first | refine a6 ⟨_, 0, none⟩ rfl rfl H8 rfl ?_ | refine a6 _ rfl rfl H8 rfl ?_
   refine b5 ?_; exact i5 rfl
  apply k7 _ rfl rfl rfl
  ·intro w1
   first | refine a7 rfl a8 rfl (d8 mB rfl) ?_ | refine a7 rfl a8 rfl (i2 mB rfl) ?_ | refine a7 rfl a8 rfl (b7 mB (b4 (by omega) rfl)) ?_ | refine a7 rfl a8 rfl (b8 mB (rows_get (by omega) rfl)) ?_ | refine a7 rfl a8 rfl (d7 mB rfl) ?_
   refine b5 ?_; exact i5 rfl
  apply k7 _ rfl rfl rfl
  ·intro w1
   first | refine a6 ⟨_, 0, none⟩ rfl rfl H8 rfl ?_ | refine a6 _ rfl rfl H8 rfl ?_
   refine b5 ?_; exact i5 rfl
  apply k7 _ rfl rfl rfl
  ·intro w1
   first | refine a7 rfl a8 rfl (d8 mB rfl) ?_ | refine a7 rfl a8 rfl (i2 mB rfl) ?_ | refine a7 rfl a8 rfl (b7 mB (b4 (by omega) rfl)) ?_ | refine a7 rfl a8 rfl (b8 mB (rows_get (by omega) rfl)) ?_ | refine a7 rfl a8 rfl (d7 mB rfl) ?_
   refine b5 ?_; exact i5 rfl
  refine k8 (fun w1 => iM a a rfl P6 G8 rfl rfl ha (by omega) (by omega) (q_z rfl)) (k8 (fun w1 => a7 (v := u8 (ns.getD a default)) rfl D3 rfl (d8 mB (at8 hax)) (q_z rfl)) ?_)
  apply k7 _ rfl rfl rfl
  ·intro w1
   first | refine a6 ⟨_, 1, none⟩ rfl rfl O9 rfl ?_ | refine a6 _ rfl rfl O9 rfl ?_
   refine b5 ?_; exact i5 rfl
  apply k7 _ rfl rfl rfl
  ·intro w1
   first | refine a7 rfl a8 rfl (d8 mB rfl) ?_ | refine a7 rfl a8 rfl (i2 mB rfl) ?_ | refine a7 rfl a8 rfl (b7 mB (b4 (by omega) rfl)) ?_ | refine a7 rfl a8 rfl (b8 mB (rows_get (by omega) rfl)) ?_ | refine a7 rfl a8 rfl (d7 mB rfl) ?_
   refine b5 ?_; exact i5 rfl
  refine k8 (fun w1 => j4 (vs := [u8 (ns.getD a default), int (e : Int)]) K2 rfl (by rw [← he]; rfl) (K1 (ns.getD a default) e (hW.is a).1 (by omega)) t4 tK fun _ _ => (q_z rfl)) ?_; refine v7 ⟨rfl, ?_⟩; refine iM a a rfl P6 G8 rfl rfl ha (by omega) (by omega) (C8 (v := u8 (ns.getD a default ||| 2 ^ e)) rfl rfl (.refl _) G8 (at8 hax) (by rfl) ?_); rw [dx6]; refine b5 (w6 (i1 (c9 ?_))); refine t5 _ rfl rfl rfl rfl q6 ?_; refine b6 rfl (b5 ?_); exact again _ (k + 1, ns.set a (ns.getD a default ||| 2 ^ e)) ⟨by show k + 1 ≤ refs.length; omega, by show WithK _ _ (refs.take (k + 1)) _; rw [D6 refs k hk2, show refs.getD k default = ((a : Int), (e : Int)) from Prod.ext ha he]; exact hW.add (by omega) (by omega)⟩ (y8 (by omega)) mC (List.Sublist.refl _) mC
 have hb1' := hb1; try simp at hb1'
 have hk2 : k = refs.length := by omega
 subst hk2; rw [List.take_length] at hW; refine t7 (C7 (t8 (i1 (d6 ?_)))); refine C0 5 mixed (by decide) (by decide) rfl rfl ?_
 apply k7 _ rfl rfl rfl
 ·intro w1
  first | refine a7 rfl D3 rfl (d8 mB rfl) ?_ | refine a7 rfl D3 rfl (i2 mB rfl) ?_ | refine a7 rfl D3 rfl (b7 mB (b4 (by omega) rfl)) ?_ | refine a7 rfl D3 rfl (b8 mB (rows_get (by omega) rfl)) ?_ | refine a7 rfl D3 rfl (d7 mB rfl) ?_
  refine b5 ?_; exact i5 rfl
 refine k8 (fun w1 => I3 (n := 6) rfl E2 C5 rfl mB (by rw [List.size_toArray, R6]; show ns.length * 1 = 6; rw [hW.len]) (q_z rfl)) ?_
 apply k7 _ rfl rfl rfl
 ·intro w1
  first | refine a7 rfl a8 rfl (d8 mB rfl) ?_ | refine a7 rfl a8 rfl (i2 mB rfl) ?_ | refine a7 rfl a8 rfl (b7 mB (b4 (by omega) rfl)) ?_ | refine a7 rfl a8 rfl (b8 mB (rows_get (by omega) rfl)) ?_ | refine a7 rfl a8 rfl (d7 mB rfl) ?_
  refine b5 ?_; exact i5 rfl
 apply k7 _ rfl rfl rfl
 ·intro w1
  first | refine a7 rfl a8 rfl (d8 mB rfl) ?_ | refine a7 rfl a8 rfl (i2 mB rfl) ?_ | refine a7 rfl a8 rfl (b7 mB (b4 (by omega) rfl)) ?_ | refine a7 rfl a8 rfl (b8 mB (rows_get (by omega) rfl)) ?_ | refine a7 rfl a8 rfl (d7 mB rfl) ?_
  refine b5 ?_; exact i5 rfl
 refine V9 ⟨Nat, fun m => SetIs m (reachB 6 (fun i x => wE t t.hs.length refs i x) h s), fun m => u8 m, fun _ => []⟩ rfl rfl rfl ?_ ?_
 ·intro w1; refine j4 dZ rfl rfl (dJ ns hW.len (fun i x => wE t t.hs.length refs i x) hW.is h s hh hs) t4 tK fun m hm => ?_; refine b5 ?_; exact K5 m hm rfl tK
 refine v7 ⟨rfl, ?_⟩; intro m hm; refine gq8 rfl rfl rfl hD.1 hm.1 (J0 rfl rfl rfl (c5 rfl (c8 (l4 ?_)))); exact ret1 () rfl (congrArg (fun b => some (Value.bool b)) (lq1 hn hr hD hm)) rfl tK (List.sublist_cons_self _ _) tK
def growQ (p : List Rf → Bool) (d : Nat) (b r : List Rf) : Option (List Rf) := ((combos d r).map (b ++ ·)).find? p
theorem dq3 (p : List Rf → Bool) (b r : List Rf) : growQ p 0 b r = if p b = true then some b else none := by
  unfold growQ; rw [combos]; simp only [List.map_cons, List.map_nil, List.append_nil, List.find?_cons, List.find?_nil]
  cases p b <;> rfl
theorem mx0 (p : List Rf → Bool) (d : Nat) (b : List Rf) : growQ p (d + 1) b [] = none := rfl
theorem kj8 (p : List Rf → Bool) (d : Nat) (b r : List Rf) (x : Rf) : growQ p (d + 1) b (x :: r) = (growQ p d (b ++ [x]) r).or (growQ p (d + 1) b r) := by
  unfold growQ; rw [combos, List.map_append, List.find?_append, List.map_map]
  congr 3
  funext l
  simp
theorem az2 (p : List Rf → Bool) (d : Nat) (r : List Rf) : growQ p d [] r = (combos d r).find? p := by
  unfold growQ
  congr 1
  exact (List.map_congr_left fun l _ => List.nil_append l).trans (List.map_id _)
theorem bx7 {cur : Array Value} {b : List Rf} {x : Rf} (h : cur.toList.take ((b.length + 1) * 2) = rows (b ++ [x])) : cur.toList.take (b.length * 2) = rows b := by
  have h2 : (cur.toList.take ((b.length + 1) * 2)).take (b.length * 2) = (rows (b ++ [x])).take (b.length * 2) := by rw [h]
  rw [List.take_take, Nat.min_eq_left (by omega), A1] at h2; rw [h2]; exact List.take_left' (R6 b)
section
variable (lb : Nat) (rc : Option Code → Loop) (J : Code) (gb cap : Nat) (R0 : Hp) {γ : Type} (R1 : γ → Hp) (L1 : γ → List Fact) (I1 : List Rf → γ → Prop) (LI0 : List Fact) (p : List Rf → Bool)
def ry : Option γ → Hp | none => R0 | some y => R1 y
def ly : Option γ → List Fact | none => [] | some y => L1 y
def yC (b : List Rf) (cur : Array Value) : Con (Option γ) :=
  { hpI := (lb, .loop (rc none)) :: gbO gb cur :: R0, LI := LI0, inv := fun x => x.isSome = p b ∧ ∀ y, x = some y → I1 b y, val := fun x => .bool x.isNone, hpO := fun x => (lb, .loop (rc (x.map fun _ => J))) :: gbO gb cur :: ry R0 R1 x, LO := ly L1 }
abbrev OrdG (γ : Type) := Option (List Rf × γ)
def gC (b : List Rf) (cur : Array Value) (q : Option (List Rf)) (LI : List Fact) : Con (OrdG γ × Array Value) :=
  { hpI := (lb, .loop (rc none)) :: gbO gb cur :: R0, LI := LI, inv := fun x => (q = x.1.map (·.1) ∧ ∀ y, x.1 = some y → I1 y.1 y.2) ∧ x.2.size = cap * 2 ∧ x.2.toList.take (b.length * 2) = rows b, val := fun x => .bool x.1.isNone, hpO := fun x => (lb, .loop (rc (x.1.map fun _ => J))) :: gbO gb x.2 :: ry R0 R1 (x.1.map (·.2)), LO := fun x => ly L1 (x.1.map (·.2)) }
def pC (q : Option (List Rf)) (LI : List Fact) : Con (OrdG γ) :=
  { hpI := (lb, .loop (rc none)) :: R0, LI := LI, inv := fun x => q = x.map (·.1) ∧ ∀ y, x = some y → I1 y.1 y.2, val := fun _ => .tuple #[], hpO := fun x => (lb, .loop (rc (x.map fun _ => J))) :: ry R0 R1 (x.map (·.2)), LO := fun x => ly L1 (x.map (·.2)) }
end
abbrev boxN (g : Nat) (n : Int) : Fact := Blk g (.cells #[int n] aU (0, 0))
abbrev boxF (g : Nat) (v : Value) : Fact := Blk g (.cells #[v] U3 (0, 0))
abbrev boxG (g : Nat) (v : Value) : Fact := Blk g (.cells #[v] P7 (0, 0))
abbrev boxL (g : Nat) (A : Option Addr) (n c : Nat) : Fact := Blk g (.cells #[.slice A n c] dS (0, 0))
def growV (gm gy gl gg : Nat) : Value := .func (.func W6) #[] [pt gm, pt gy, pt gl, pt gg].toArray
set_option maxHeartbeats 1000000 in
theorem sD {lb : Nat} {rc : Option Code → Loop} {J : Code} {R0 : Hp} {γ : Type} {R1 : γ → Hp} {L1 : γ → List Fact} {I1 : List Rf → γ → Prop} {LI0 : List Fact} {p : List Rf → Bool} {cap : Nat} {LA : Option Addr} {lc : Nat} (l : List Rf) {gb gm gy gl gg : Nat} (hn : l.length ≤ 1000) (hc : cap ≤ 1000) (hY : ∀ (b : List Rf) (cur : Array Value), b.length = cap → (∀ r ∈ b, r ∈ l) → cur.toList.take (b.length * 2) = rows b → MeetsY prog lb [.slice (d9 gb) b.length cap] (yC lb rc J gb R0 R1 L1 I1 LI0 p b cur)) :
    ∀ (d : Nat) (b : List Rf) (frm : Nat) (cur : Array Value), d + b.length = cap → (∀ r ∈ b, r ∈ l) → frm ≤ l.length → cur.size = cap * 2 → cur.toList.take (b.length * 2) = rows b → Meets prog W6 [.slice (d9 gb) b.length cap, int (frm : Nat), pt gm, pt gy, pt gl, pt gg] (gC lb rc J gb cap R0 R1 L1 I1 b cur (growQ p d b (l.drop frm)) (boxN gm cap :: boxF gy (yieldV lb) :: boxL gl LA l.length lc :: boxG gg (growV gm gy gl gg) :: Row LA (rows l) :: LI0)) := by
 intro d
 induction d using Nat.strongRecOn
 rename_i d ih
 intro b frm cur hd hsub hfrm hcs hct; refine j3 uC rfl v8 fun w0 => ?_; refine i4 (c5 rfl (c8 (d6 (i4 (b6 rfl ?_))))); refine k6 rfl I5 rfl (a7 (v := int (cap : Nat)) rfl a8 rfl (d8 mB rfl) ?_); refine J0 rfl rfl rfl (c8 ?_)
 first | refine k9 rfl (fun hb1 => ?_) (fun hb1 => ?_) | refine j0 rfl (fun hb1 => ?_) (fun hb1 => ?_)
 ·have hb1' := hb1; try simp at hb1'
  have h0 : d = 0 := by omega
  subst h0; have hlen : b.length = cap := by omega
  refine i4 (a7 (v := yieldV lb) rfl O1 rfl (d8 mB rfl) (b6 rfl ?_)); refine pj6 (k := yC lb rc J gb R0 R1 L1 I1 LI0 p b cur) rfl rfl rfl (hY b cur hlen hsub hct) (hpR := []) (by rw [List.append_nil]; exact .refl _) (LSub.of_mem fun F hF => by repeat (first | exact hF | apply List.Mem.tail)) fun x hx => ?_; refine c5 rfl (c8 (E9 ?_)); obtain ⟨hx1, hx2⟩ := hx
  cases x with
  | none => exact ret1 (none, cur) rfl rfl rfl ⟨⟨by rw [dq3, ← hx1]; rfl, fun y hy => by cases hy⟩, hcs, hct⟩ (by rw [List.append_nil]; exact .refl _) tK
  | some y => exact ret1 (some (b, y), cur) rfl rfl rfl ⟨⟨by rw [dq3, ← hx1]; rfl, fun z hz => by cases hz; exact hx2 y rfl⟩, hcs, hct⟩ (by rw [List.append_nil]; exact .refl _) (LSub.of_mem fun F hF => List.mem_append_left _ hF)
 have hb1' := hb1; try simp at hb1'
 obtain ⟨d0, rfl⟩ : ∃ d0, d = d0 + 1 := ⟨d - 1, by omega⟩; refine i8 (i1 (d6 (i4 (b6 rfl (c5 rfl (c8 (j5 ?_))))))); refine u6 (β := Nat × Array Value) ⟨fun x => x.1 ≤ l.length ∧ growQ p (d0 + 1) b (l.drop frm) = growQ p (d0 + 1) b (l.drop x.1) ∧ x.2.size = cap * 2 ∧ x.2.toList.take (b.length * 2) = rows b, fun x => [(0, .slice (d9 gb) b.length cap), (2, pt gm), (3, pt gy), (4, pt gl), (5, pt gg), (9, int x.1)], fun x => (lb, .loop (rc none)) :: gbO gb x.2 :: R0, fun _ => (boxN gm cap :: boxF gy (yieldV lb) :: boxL gl LA l.length lc :: boxG gg (growV gm gy gl gg) :: Row LA (rows l) :: LI0)⟩ (fun x => l.length - x.1) (frm, cur) ⟨hfrm, rfl, hcs, hct⟩ mC (.refl _) ⟨mB, mB, mB, mB, mB, (LSub.of_mem fun F hF => by repeat (first | exact hF | apply List.Mem.tail))⟩ fun x hx => ?_; clear hcs hct; obtain ⟨i, cur⟩ := x; obtain ⟨hi, hq, hcs, hct⟩ := hx; simp only at hi hq hcs hct; refine d6 (i4 (b6 rfl ?_)); refine a7 (v := .slice LA l.length lc) rfl kF rfl (d8 mB rfl) (k6 rfl I5 rfl ?_); refine B5 rfl rfl rfl (c8 ?_)
 first | refine k9 rfl (fun hb2 => ?_) (fun hb2 => ?_) | refine j0 rfl (fun hb2 => ?_) (fun hb2 => ?_)
 ·have hb2' := hb2; try simp at hb2'
  have hi2 : i < l.length := by omega
  have hdr : l.drop i = l.getD i default :: l.drop (i + 1) := by rw [List.drop_eq_getElem_cons hi2, B8 hi2]
  rw [hdr, kj8] at hq; refine i8 (i1 (d6 (j5 (d6 ?_)))); refine H3 ([gbO gb cur]) ((lb, .loop (rc none)) :: R0) (List.Perm.swap _ _ _) 10 [7] mixed (by decide) (by decide) (by decide) rfl rfl rfl (k8 (fun w1 => a7 (v := growV gm gy gl gg) rfl S2 rfl (d8 (List.mem_append_right _ mB) rfl) (q_z rfl)) (r7 rfl (k8 (fun w1 => a7 (v := .slice LA l.length lc) rfl kF rfl (d8 (List.mem_append_right _ mB) rfl) (q_z rfl)) (r7 rfl (k8 (fun w1 => m7 (α := Rf) l i rfl I5 B9 rfl rfl rfl (List.mem_append_right _ mB) rfl hi2 (by decide) (q_z rfl)) (k8 (fun w1 => z8 rfl G2 B9 rfl rfl (v9 (List.mem_append_right _ mB) (B3 hi2)) (q_z rfl)) ?_)))))); refine V9 ⟨Nat, fun _ => True, fun g1 => .slice (d9 g1) 1 1, fun g1 => [Row (d9 g1) (rows [l.getD i default])]⟩ rfl rfl rfl ?_ ?_
  ·intro w1; refine n7 _ rfl rfl (fun _ => kG ..) fun gS => b5 (R8 (rows [l.getD i default]) (List.prefix_refl _) ?_); exact K5 gS tK rfl ⟨m0, tK⟩
  refine nE ⟨Array Value, fun x => x.size = cap * 2 ∧ x.toList.take ((b.length + 1) * 2) = rows (b ++ [l.getD i default]), fun _ => .slice (d9 gb) (b.length + 1) cap, fun _ => [], fun x => [gbO gb x]⟩ rfl rfl rfl ?_ ?_
  ·intro g1 _; intro w1; refine iz0 dP rfl rfl rfl hcs hct (.refl _) (Src.row (news := rows [l.getD i default]) (m := 1) m0 rfl (E8 _) (by decide)) (by decide) (by omega) fun cur2 hs2 ht2 => b5 ?_; exact H4 cur2 ⟨hs2, by rw [A1]; exact ht2⟩ (fun _ => rfl) (.refl _) tK
  refine r7 rfl (k8 (fun w1 => t5 _ rfl rfl rfl rfl q6 (q_z rfl)) ?_); refine v7 ⟨rfl, ?_⟩; intro g1 _ cur2 hx2; obtain ⟨hs2, ht2⟩ := hx2; have hl1 : (b ++ [l.getD i default]).length = b.length + 1 := by simp
  have ihk := ih d0 (by omega) (b ++ [l.getD i default]) (i + 1) cur2 (by omega) (fun r hr => (List.mem_append.1 hr).elim (hsub r) (fun h => by rw [List.mem_singleton] at h; subst h; exact w8 hi2)) (by omega) hs2 (by rw [hl1]; exact ht2); rw [hl1] at ihk; refine X3 (vs := [.slice (d9 gb) (b.length + 1) cap, int ((i + 1 : Nat) : Int)]) (cap := [pt gm, pt gy, pt gl, pt gg]) iD rfl rfl rfl ihk (hpR := []) (by rw [List.append_nil]; exact List.Perm.swap _ _ _) ⟨mB, mB, mB, mB, mB, (LSub.of_mem fun F hF => by repeat (first | exact hF | apply List.Mem.tail))⟩ fun y hy => ?_; obtain ⟨z, cur3⟩ := y; obtain ⟨⟨hz1, hz2⟩, hs3, ht3⟩ := hy; simp only at hz1 hz2 hs3 ht3; rw [hl1] at ht3; refine H6 rfl rfl (c8 ?_)
  first | refine k9 rfl (fun hb3 => ?_) (fun hb3 => ?_) | refine j0 rfl (fun hb3 => ?_) (fun hb3 => ?_)
  ·have hb3' := hb3; try simp at hb3'
   obtain ⟨y, rfl⟩ : ∃ y, z = some y := by cases z with | none => cases hb3 | some y => exact ⟨y, rfl⟩
   refine i4 (c5 rfl (c8 (l4 (B7 (u5 (B7 ?_)))))); exact ret1 (some y, cur3) rfl rfl rfl ⟨⟨by rw [hq, hz1]; rfl, hz2⟩, hs3, bx7 ht3⟩ (by rw [List.append_nil]; exact .refl _) (LSub.of_mem fun F hF => List.mem_append_left _ hF)
  have hb3' := hb3; try simp at hb3'
  have hzn : z = none := by cases z with | none => rfl | some y => cases hb3
  subst hzn; refine i8 (w6 (i1 (c9 (b6 rfl ?_)))); refine t5 _ rfl rfl rfl rfl q6 ?_; refine c5 rfl (b5 ?_); exact again _ (i + 1, cur3) ⟨by show i + 1 ≤ l.length; omega, by rw [hq, hz1]; rfl, hs3, bx7 ht3⟩ (y8 (by omega)) mC (by rw [List.append_nil]; exact .refl _) ⟨mB, mB, mB, mB, mB, (LSub.of_mem fun F hF => by repeat (first | exact hF | apply List.Mem.tail))⟩
 have hb2' := hb2; try simp at hb2'
 have hi2 : i = l.length := by omega
 subst hi2; rw [List.drop_length, mx0] at hq; refine t7 (C7 (t8 (i1 (i4 (c5 rfl (c8 (l4 ?_))))))); exact ret1 (none, cur) rfl rfl rfl ⟨⟨hq, fun y hy => by cases hy⟩, hcs, hct⟩ (.refl _) tK
theorem vG {lb : Nat} {rc : Option Code → Loop} {J : Code} {R0 : Hp} {γ : Type} {R1 : γ → Hp} {L1 : γ → List Fact} {I1 : List Rf → γ → Prop} {LI0 : List Fact} {p : List Rf → Bool} {cap : Nat} {LA : Option Addr} {lc : Nat} (l : List Rf) {gm gl : Nat} (hn : l.length ≤ 1000) (hc : cap ≤ 1000) (hY : ∀ (gb : Nat) (b : List Rf) (cur : Array Value), b.length = cap → (∀ r ∈ b, r ∈ l) → cur.toList.take (b.length * 2) = rows b → MeetsY prog lb [.slice (d9 gb) b.length cap] (yC lb rc J gb R0 R1 L1 I1 LI0 p b cur)) : Meets prog aR [yieldV lb, pt gm, pt gl] (pC lb rc J R0 R1 L1 I1 (growQ p cap [] l) (boxN gm cap :: boxL gl LA l.length lc :: Row LA (rows l) :: LI0)) := by
 refine j3 wY rfl v8 fun w0 => i4 (O3 rfl rfl fun gy => t6 (u4 rfl (fun _ => gZ _) fun gg => ?_)); refine t6 (iL rfl rfl rfl ?_); refine C8 rfl rfl (.refl _) gV (by rfl) (by rfl) ?_; refine c8 (C3 (C3 ?_)); refine H3 ([]) (_) (.refl _) 3 [2] mixed (by decide) (by decide) (by decide) rfl rfl rfl (k8 (fun w1 => a7 (v := growV gm gy gl gg) rfl S2 rfl (d8 (List.mem_append_right _ mB) rfl) (q_z rfl)) (k8 (fun w1 => a7 (v := int (cap : Nat)) rfl a8 rfl (d8 (List.mem_append_right _ mB) rfl) (q_z rfl)) ?_)); refine nE ⟨Nat × Array Value, fun x => x.2.size = cap * 2, fun x => .slice (some ⟨x.1, 0, none⟩) 0 cap, fun _ => [], fun x => [gbO x.1 x.2]⟩ rfl rfl rfl ?_ ?_
 ·intro w1; refine r_make0 (n := cap) dP rfl rfl rfl rfl (by omega) (by omega) fun g cur hcs => b5 ?_; exact H4 (g, cur) hcs (fun _ => rfl) (List.Sublist.refl _) tK
 refine v7 ⟨rfl, ?_⟩; intro x hx; obtain ⟨gb, cur⟩ := x; have hcs : cur.size = cap * 2 := hx; refine X3 (vs := [.slice (d9 gb) 0 cap, int (0 : Nat)]) (cap := [pt gm, pt gy, pt gl, pt gg]) iD rfl rfl rfl (sD (gb := gb) (gm := gm) (gy := gy) (gl := gl) (gg := gg) (LA := LA) (lc := lc) l hn hc (hY gb) cap [] 0 cur (by simp) (by simp) (Nat.zero_le _) hcs (by simp [rows])) (hpR := []) (by rw [List.append_nil]; exact List.Perm.swap _ _ _) ⟨mB, mB, mB, mB, mB, (LSub.of_mem fun F hF => by repeat (first | exact hF | apply List.Mem.tail))⟩ fun y hy => ?_; obtain ⟨z, cur3⟩ := y; obtain ⟨⟨hz1, hz2⟩, _, _⟩ := hy; refine b5 ?_; exact ret0n z rfl rfl rfl ⟨hz1, hz2⟩ (by rw [List.append_nil]; exact List.Sublist.cons_cons _ (List.sublist_cons_self _ _)) (LSub.of_mem fun F hF => List.mem_append_left _ hF)
theorem yG {A : Option Addr} {n c : Nat} (many : Int) : Meets prog lO [.slice A n c, int many] { val := fun x : Nat × Nat => .func (.func aR) #[] [pt x.1, pt x.2].toArray, LO := fun x => [boxN x.1 many, boxL x.2 A n c] } := by
 refine j3 az4 rfl v8 fun w0 => i4 (O3 rfl rfl fun gl => O3 rfl rfl fun gm => ?_); refine c5 rfl (t6 (iL rfl rfl rfl (c5 rfl (c8 (l4 (az0 (az0 ?_))))))); exact ret1 (gm, gl) rfl rfl rfl tK (.refl _) mC
theorem iz8 {Q : Nat → Prop} {k : Nat} (h0 : ∀ m, m < k → Q m) (h1 : Q k) : ∀ m, m < k + 1 → Q m := fun m hm => by
  rcases Nat.lt_or_ge m k with h | h
  · exact h0 m h
  obtain rfl : m = k := (by omega); exact h1
theorem uO {α : Type} : ∀ (k : Nat) (l : List α), l.length < k → combos k l = []
  | 0, l, h => by omega
  | k + 1, [], _ => rfl
  | k + 1, x :: l, h => by
    rw [List.length_cons] at h; rw [combos, uO k l (by omega), uO (k + 1) l (by omega)]
    rfl
theorem dx2 {α : Type} : ∀ (l : List α), combos l.length l = [l]
  | [] => rfl
  | x :: l => by
    rw [List.length_cons, combos, dx2 l, uO (l.length + 1) l (by omega)]
    rfl
theorem jz4 {α : Type} {f : Nat → Option α} {n : Nat} (h : ∀ m, m < n → f m = none) : (List.range n).findSome? f = none := by
  rw [List.findSome?_eq_none_iff]; exact fun m hm => h m (List.mem_range.1 hm)
theorem ix3 {α : Type} {f : Nat → Option α} {k : Nat} {x : α} (h : ∀ m, m < k → f m = none) (h1 : f k = some x) : ∀ (n : Nat), k < n → (List.range n).findSome? f = some x
  | 0, hk => by omega
  | n + 1, hk => by
    rw [List.range_succ, List.findSome?_append]
    by_cases hkn : k < n
    · rw [ix3 h h1 n hkn]; rfl
    have e : k = n := by omega
    subst e; rw [jz4 h]
    simp [h1]
theorem join_no {t : Tr} {h s : Int} (hf : fineB t h s (freeT t) = false) : joinT t h s = none := by unfold joinT; rw [if_pos hf]
theorem join_at {t : Tr} {h s : Int} {k : Nat} {b : List Rf} (hf : fineB t h s (freeT t) = true) (hk : k < (freeT t).length + 1) (h0 : ∀ m, m < k → growQ (fineB t h s) m [] (freeT t) = none) (h1 : growQ (fineB t h s) k [] (freeT t) = some b) : joinT t h s = some b := by
  unfold joinT; rw [if_neg (by rw [hf]; decide), List.find?_flatMap]; refine ix3 (k := k) (fun m hm => ?_) ?_ _ hk
  · rw [← az2]; exact h0 m hm
  rw [← az2]; exact h1
theorem pj2 {t : Tr} {h s : Int} (hf : fineB t h s (freeT t) = true) (h0 : ∀ m, m < (freeT t).length + 1 → growQ (fineB t h s) m [] (freeT t) = none) : False := by
  have h1 := h0 (freeT t).length (by omega); rw [az2, dx2, List.find?_cons] at h1; rw [hf] at h1
  cases h1
theorem lj7 {t : Tr} : InRf t.hs.length (freeT t) := by
  intro r hr; unfold freeT at hr; obtain ⟨i, hi, hm⟩ := List.mem_flatMap.1 hr; have hi := List.mem_range.1 hi
  split at hm
  · obtain ⟨k, hk, rfl⟩ := List.mem_map.1 hm
    have hk := List.mem_range.1 (List.mem_filter.1 hk).1
    simp only
    omega
  cases hm
theorem pq9 {t : Tr} (h6 : t.hs.length ≤ 6) : (freeT t).length ≤ 36 := by
  have h1 := hz6 t t.hs.length; have h2 : t.hs.length * t.hs.length ≤ 6 * 6 := Nat.mul_le_mul h6 h6; rw [jj6]
  omega
abbrev OutS := List (Sl Int) × OutC
def pairsOf (l : List Rf) : List (List Int) := l.map fun r => [r.1, r.2]
theorem kj2 (l : List Rf) (r : Rf) : pairsOf (l ++ [r]) = pairsOf l ++ [[r.1, r.2]] := by unfold pairsOf; rw [List.map_append]; rfl
def isOut (b : List Rf) (y : OutS) : Prop := y.1.map (·.l) = pairsOf b
abbrev cell12 (g : Nat) (v : Value) : Nat × Obj := (g, .cells #[v] tN (0, 0))
theorem gq3 {c : Cx} {fr : Fr} {fn : Func} {t u : Tmp} {v1 v2 : Value} (hres : fn.results = #[.tmp t, .tmp u]) (hv : lk fr t = some v1) (hv2 : lk fr u = some v2) (a : Act) (w : World) (hfr : ∀ t v, lk fr t = some v → a.tmps.getD t undef = v) : (results fn a.tmps).run c.P w = .ok (.tuple #[v1, v2]) w := by
  have h : (results fn a.tmps).run c.P w = .ok (.tuple #[a.tmps.getD t undef, a.tmps.getD u undef]) w := by
    unfold results; rw [hres]; simp
  rw [hfr _ _ hv, hfr _ _ hv2] at h; exact h
set_option maxHeartbeats 1000000 in
theorem sG {A B oa ka : Option Addr} {ca cb oc kc gl : Nat} (cs : List Cl) (hs : List Hd) (h s : Nat) (hok : TrOK (trOf cs hs)) (hh : h < hs.length) (hs6 : s ≤ 6) : Meets prog cR [.pointer (d9 gl), int h, int s] { LI := [Row (d9 gl) [.slice A cs.length ca, .slice B hs.length cb, .slice oa cs.length oc, .slice ka hs.length kc], Row ka (rows (kindsN hs hs.length)), RowsF B hs Hd.row], inv := fun x : OutS => isOut ((joinT (trOf cs hs) (h : Int) (s : Int)).getD []) x, val := fun x => .tuple #[.slice x.2.1 x.1.length x.2.2, .bool (joinT (trOf cs hs) (h : Int) (s : Int)).isSome], LO := fun x => [Rows2 x.2.1 x.1] } := by
 refine hx5 uF rfl v8 fun w0 => i4 ?_; have h6h := hok.h6; have hln := H0 cs hs; rw [hln] at h6h; refine O3 rfl rfl fun g4 => O3 rfl rfl fun g5 => ?_; refine c5 rfl (c5 rfl (c8 (pq2 (i4 (b6 rfl ?_))))); refine j4 qD rfl rfl (pM (A := A) (B := B) (oa := oa) (ka := ka) (ca := ca) (cb := cb) (oc := oc) (kc := kc) (gl := gl) cs hs (by omega)) t4 mC fun due hD => b6 rfl (j4 sU rfl rfl (sF (A := A) (B := B) (oa := oa) (ka := ka) (ca := ca) (cb := cb) (oc := oc) (kc := kc) (gl := gl) cs hs hok) t4 mC fun ns hN => b6 rfl (j4 sX rfl rfl (sH (A := A) (B := B) (oa := oa) (ka := ka) (ca := ca) (cb := cb) (oc := oc) (kc := kc) (gl := gl) cs hs hok) t4 mC fun fo hfo => u4 rfl (fun _ => yP _) fun g8 => u4 rfl (fun _ => V1 _) fun g9 => C8 (v := u8 due) rfl rfl (.swap _ _ _) G8 (by rfl) (by rfl) ?_)); rw [← hln] at hN hD; obtain ⟨a0, a1, a2, a3, a4, a5, rfl⟩ := six hN.len; refine l6 (cs := (rows [a0, a1, a2, a3, a4, a5]).toArray) rfl rfl (.swap _ _ _) C5 (by rfl) (by rfl) ?_; refine c5 rfl (c8 (d6 ?_)); have hfl := pq9 (t := (trOf cs hs)) (by rw [hln]; exact h6h); refine C3 (C3 (C3 (C3 (c9 (iL rfl rfl rfl ?_))))); refine u4 rfl (fun _ => kV _) fun g11 => C8 rfl rfl (.refl _) kP (by rfl) (by rfl) ?_; refine c8 (Y7 (C3 (c9 ?_))); refine a7 (v := .func (.func H1) #[] [pt g9, pt g8, pt g4, pt g5].toArray) rfl O1 rfl (d8 mB rfl) (b6 rfl ?_); refine X3 (vs := [.slice fo.1 (freeT (trOf cs hs)).length fo.2]) (cap := [pt g9, pt g8, pt g4, pt g5]) dD rfl rfl rfl (pN (t := (trOf cs hs)) [a0, a1, a2, a3, a4, a5] due h s (freeT (trOf cs hs)) (by rw [hln]; exact h6h) hN hD (by omega) (by omega) lj7 (by omega)) t4 mC fun _ _ => ?_; refine H6 rfl rfl (c8 ?_)
 first | refine k9 rfl (fun hb1 => ?_) (fun hb1 => ?_) | refine j0 rfl (fun hb1 => ?_) (fun hb1 => ?_)
 ·have hb1' := hb1; try simp at hb1'
  have hf : fineB (trOf cs hs) (h : Int) (s : Int) (freeT (trOf cs hs)) = false := by simpa using hb1
  refine i4 (c5 rfl (c5 rfl (c8 (E9 (nx8 ?_))))); refine n5 (α := Sl Int) ?_; refine G1 (Fs := ([] : List (Sl Int)).map fun p => Row p.a (rows p.l)) (by intro F hF; simp at hF) ?_; refine pZ (A := none) (ps := ([] : List (Sl Int))) mB mB ?_; have hJ := join_no hf; refine gq2 [] (([] : List (Sl Int)), (none, 0)) rfl t4 (fun a w _ hfr _ => ?_) rfl (by show isOut _ _; rw [hJ]; rfl) nK ⟨m0, tK⟩; rw [hJ]; exact gq3 rfl rfl rfl a w hfr
 have hb1' := hb1; try simp at hb1'
 have hf : fineB (trOf cs hs) (h : Int) (s : Int) (freeT (trOf cs hs)) = true := by simpa using hb1
 refine i8 (i1 (i4 ?_)); refine u4 rfl (fun _ => iq8 _) fun g12 => ?_; refine c8 (d6 (pq4 (i1 (d6 (i4 (b6 rfl ?_)))))); refine k6 rfl I5 rfl (t5 _ rfl rfl rfl rfl q6 ?_); refine b6 rfl (c8 (j5 ?_)); refine pq3 (β := Nat × List Nat) ⟨fun x => x.1 ≤ (freeT (trOf cs hs)).length + 1 ∧ ∀ m, m < x.1 → growQ (fineB (trOf cs hs) (h : Int) (s : Int)) m [] (freeT (trOf cs hs)) = none, fun x => [(10, .slice fo.1 (freeT (trOf cs hs)).length fo.2), (11, pt g11), (12, pt g12), (30, int ((freeT (trOf cs hs)).length + 1 : Nat)), (31, int x.1)], fun _ => [cell12 g12 (.slice none 0 0)], fun _ => (Row fo.1 (rows (freeT (trOf cs hs))) :: (boxF g11 (.func (.func H1) #[] [pt g9, pt g8, pt g4, pt g5].toArray) :: WL g9 g8 g4 g5 [a0, a1, a2, a3, a4, a5] due h s))⟩ (fun x => x.2) (fun x => (freeT (trOf cs hs)).length + 1 - x.1) (0, []) ⟨Nat.zero_le _, fun m hm => by omega⟩ rfl mC (List.Sublist.refl _) mC fun x hx => ?_; obtain ⟨k, ds⟩ := x; obtain ⟨hk, h0⟩ := hx; simp only at hk h0; refine i4 (B5 rfl rfl rfl (c8 (d6 ?_)))
 first | refine k9 rfl (fun hb2 => ?_) (fun hb2 => ?_) | refine j0 rfl (fun hb2 => ?_) (fun hb2 => ?_)
 ·have hb2' := hb2; try simp at hb2'
  have hk2 : k < (freeT (trOf cs hs)).length + 1 := by omega
  refine i8 (i1 (d6 (j5 (i4 (b6 rfl (c5 rfl (t6 ?_))))))); refine b6 rfl (b6 rfl ?_); refine j4 zL rfl rfl (yG (A := fo.1) (n := (freeT (trOf cs hs)).length) (c := fo.2) (k : Int)) t4 tK fun gp _ => ?_; obtain ⟨gm, gl2⟩ := gp; refine c8 (j5 ?_); refine hx9 (β := OrdG OutS) (cap := [pt gm, pt gl2]) (hpR := shutM ds) [cell12 g12 (.slice none 0 0)] (boxN gm k :: boxL gl2 fo.1 (freeT (trOf cs hs)).length fo.2 :: Row fo.1 (rows (freeT (trOf cs hs))) :: (boxF g11 (.func (.func H1) #[] [pt g9, pt g8, pt g4, pt g5].toArray) :: WL g9 g8 g4 g5 [a0, a1, a2, a3, a4, a5] due h s)) (fun x => growQ (fineB (trOf cs hs) (h : Int) (s : Int)) k [] (freeT (trOf cs hs)) = x.map (·.1) ∧ ∀ y, x = some y → isOut y.1 y.2) (fun _ => .tuple #[]) (fun x => x.map fun _ => .exit 0) (fun x => ry [cell12 g12 (.slice none 0 0)] (fun y : OutS => [cell12 g12 (.slice y.2.1 y.1.length y.2.2)]) (x.map (·.2))) (fun x => ly (fun y : OutS => [Rows2 y.2.1 y.1]) (x.map (·.2))) rfl vP (List.perm_append_comm (l₁ := shutM ds) (l₂ := [cell12 g12 (.slice none 0 0)])) mC ?_ ?_ ?_
  ·intro lb d fn tmps hsz hfr; refine vG (lb := lb) (rc := recL fn tmps #[37] _ _ d) (J := .exit 0) (R0 := [cell12 g12 (.slice none 0 0)]) (R1 := (fun y : OutS => [cell12 g12 (.slice y.2.1 y.1.length y.2.2)])) (L1 := (fun y : OutS => [Rows2 y.2.1 y.1])) (I1 := isOut) (LI0 := (boxF g11 (.func (.func H1) #[] [pt g9, pt g8, pt g4, pt g5].toArray) :: WL g9 g8 g4 g5 [a0, a1, a2, a3, a4, a5] due h s)) (p := (fineB (trOf cs hs) (h : Int) (s : Int))) (cap := k) (LA := fo.1) (lc := fo.2) (freeT (trOf cs hs)) (by omega) (by omega) (fun gb b cur hbl hbs hct => ?_); refine hx4 m0 hsz hfr rfl (by intro t ht; simp at ht; subst ht; exact Nat.lt_of_lt_of_le (show 37 < 59 by decide) (Nat.le_refl _)) fun w => ?_; refine Z6 rfl (c5 rfl (b5 ?_)); refine jx8 (.refl _) ?_; refine j5 (Y7 (Z6 rfl ?_)); refine a7 (v := .func (.func H1) #[] [pt g9, pt g8, pt g4, pt g5].toArray) rfl O1 rfl (d8 mB rfl) (b6 rfl ?_); refine X3 (vs := [.slice (d9 gb) b.length k]) (cap := [pt g9, pt g8, pt g4, pt g5]) dD rfl rfl rfl (nR (gb := gb) (c := k) (cur := cur) (t := (trOf cs hs)) [a0, a1, a2, a3, a4, a5] due h s b (by rw [hln]; exact h6h) hN hD (by omega) (by omega) (fun r hr => lj7 r (hbs r hr)) (by omega) hct) (List.Perm.swap _ _ _) mC fun _ _ => ?_; refine H6 rfl rfl (c8 ?_)
   first | refine k9 rfl (fun hb3 => ?_) (fun hb3 => ?_) | refine j0 rfl (fun hb3 => ?_) (fun hb3 => ?_)
   ·have hb3' := hb3; try simp at hb3'
    have hpb : (fineB (trOf cs hs) (h : Int) (s : Int)) b = false := by simpa using hb3
    refine t7 (aO (t8 ?_)); exact rp_n none (List.Perm.swap _ _ _) rfl rfl ⟨hpb.symm, fun y hy => by cases hy⟩ (List.Sublist.refl _) tK
   have hb3' := hb3; try simp at hb3'
   have hpb : (fineB (trOf cs hs) (h : Int) (s : Int)) b = true := by simpa using hb3
   refine i8 (i1 (Y7 ?_)); refine dY (Fs := ([] : List (Sl Int)).map (fun p : Sl Int => Row p.a (rows p.l))) (by intro F hF; simp at hF) ?_; refine Z6 rfl (b6 rfl ?_); refine k6 rfl I5 rfl ?_; refine b6 rfl (c8 (j5 ?_)); refine Y6 (List.reverse_perm _).symm ?_; refine u6 (β := Nat × List (Sl Int) × OutC × Hp) ⟨fun x => x.1 ≤ b.length ∧ Grow yN 1 x.2.2.1.1 x.2.1.length x.2.2.1.2 (rows x.2.1) x.2.2.2 ∧ x.2.1.map (·.l) = pairsOf (b.take x.1), fun x => [(12, pt g12), (42, .slice (d9 gb) b.length k), (43, int b.length), (44, int x.1)], fun x => cell12 g12 (.slice x.2.2.1.1 x.2.1.length x.2.2.1.2) :: (x.2.2.2 ++ [(lb, .loop (recB fn tmps #[37] _ _ d)), gbO gb cur]), fun x => [Facts (x.2.1.map (fun p : Sl Int => Row p.a (rows p.l)))]⟩ (fun x => b.length - x.1) (0, [], (none, 0), []) ⟨Nat.zero_le _, Grow.nil _ _, rfl⟩ mC (show List.Sublist _ _ from List.Sublist.refl _) mC fun x hx => ?_; obtain ⟨j, ps, ⟨na, nc⟩, og⟩ := x; obtain ⟨hj, hG, hps⟩ := hx; simp only at hj hG hps; have hpl : ps.length = j := by have := congrArg List.length hps; rw [List.length_map, pairsOf, List.length_map, List.length_take] at this; omega
   refine d6 (Z6 rfl (B5 rfl rfl rfl (c8 (d6 ?_))))
   first | refine k9 rfl (fun hb4 => ?_) (fun hb4 => ?_) | refine j0 rfl (fun hb4 => ?_) (fun hb4 => ?_)
   ·have hb4' := hb4; try simp at hb4'
    have hj2 : j < b.length := by omega
    refine i8 (i1 (d6 (j5 (d6 (Z6 rfl ?_))))); refine B4 j (0 + j * 2) rfl I5 B9 rfl rfl rfl hj2 rfl (z8 rfl G2 B9 rfl rfl (vE (List.mem_cons_of_mem _ (List.mem_append_right _ (List.mem_cons_of_mem _ (List.mem_cons_self ..)))) (own2 hct hj2)) (u4 rfl (fun _ => bZ _) fun gA => l6 rfl rfl X2 B9 (by rfl) (by rfl) (c8 (Q1 (rows [b.getD j default]) ⟨[], List.append_nil _⟩ (Z6 rfl (a7 (v := .slice na ps.length nc) rfl wB rfl (i2 (List.mem_cons_self ..) rfl) ?_))))))
    first | refine a6 ⟨_, 0, none⟩ rfl rfl H8 rfl ?_ | refine a6 _ rfl rfl H8 rfl ?_
    first | refine a7 rfl a8 rfl (i2 mB rfl) ?_ | refine a7 rfl a8 rfl (d8 mB rfl) ?_ | refine a7 rfl a8 rfl (b7 mB (b4 (by omega) rfl)) ?_ | refine a7 rfl a8 rfl (b8 mB (rows_get (by omega) rfl)) ?_ | refine a7 rfl a8 rfl (d7 mB rfl) ?_
    first | refine a6 ⟨_, 1, none⟩ rfl rfl O9 rfl ?_ | refine a6 _ rfl rfl O9 rfl ?_
    first | refine a7 rfl a8 rfl (i2 mB rfl) ?_ | refine a7 rfl a8 rfl (d8 mB rfl) ?_ | refine a7 rfl a8 rfl (b7 mB (b4 (by omega) rfl)) ?_ | refine a7 rfl a8 rfl (b8 mB (rows_get (by omega) rfl)) ?_ | refine a7 rfl a8 rfl (d7 mB rfl) ?_
    refine n7 _ rfl rfl (fun _ => kS ..) fun gS => D2 (rows [(b.getD j default).1, (b.getD j default).2]) (List.prefix_refl _) (n7 _ rfl rfl (fun _ => dz3 ..) fun gS2 => D2 (rows [(⟨some ⟨gS, 0, none⟩, 2, [(b.getD j default).1, (b.getD j default).2]⟩ : Sl Int)]) (List.prefix_refl _) ?_); refine E3 (ps.length + 1) (rows (ps ++ [(⟨some ⟨gS, 0, none⟩, 2, [(b.getD j default).1, (b.getD j default).2]⟩ : Sl Int)])) iq7 rfl rfl rfl hG (pm3 _ _ _ _) (Src.row (news := rows [(⟨some ⟨gS, 0, none⟩, 2, [(b.getD j default).1, (b.getD j default).2]⟩ : Sl Int)]) (m := 1) m0 rfl (E8 _) (by decide)) rfl (A1 _ _).symm (by unfold maxLen; omega) (by omega) fun A' c' og' hG' => ?_; refine C8 rfl rfl (pm4 _ _ _ _) iq4 (by rfl) (by rfl) ?_; refine jN (V8 (ps := ps) (f := fun p : Sl Int => Row p.a (rows p.l)) (p := (⟨some ⟨gS, 0, none⟩, 2, [(b.getD j default).1, (b.getD j default).2]⟩ : Sl Int)) mC mC) ?_; refine b5 (w6 (i1 (Z6 rfl ?_))); refine t5 _ rfl rfl rfl rfl q6 ?_; refine b6 rfl (b5 ?_); exact again _ (j + 1, ps ++ [(⟨some ⟨gS, 0, none⟩, 2, [(b.getD j default).1, (b.getD j default).2]⟩ : Sl Int)], (A', c'), og') ⟨by show j + 1 ≤ b.length; omega, by show Grow _ _ _ (ps ++ [_]).length _ _ _; rw [List.length_append]; exact hG', by show (ps ++ [_]).map (fun p : Sl Int => p.l) = pairsOf (b.take (j + 1)); rw [D6 b j hj2, kj2, List.map_append, hps]; rfl⟩ (y8 (by omega)) mC (by show List.Sublist (cell12 g12 (.slice A' (ps ++ [_]).length c') :: _) _; rw [List.length_append]; exact List.Sublist.refl _) mC
   have hb4' := hb4; try simp at hb4'
   have hj2 : j = b.length := by omega
   subst hj2; rw [List.take_length] at hps; refine t7 (C7 (t8 (i1 (t7 (dj8 rfl ?_))))); refine Q5 (pm3 _ _ _ _) (lM hG (pZ (A := na) (ps := ps) mB mB ?_)); exact rp_exit (some (ps, (na, nc))) (hp' := [gbO gb cur, cell12 g12 (.slice na ps.length nc)]) ((List.Perm.swap _ _ _).trans (List.Perm.cons _ (List.Perm.swap _ _ _))) rfl rfl ⟨hpb.symm, fun y hy => by cases hy; exact hps⟩ (List.Sublist.refl _) ⟨m0, tK⟩
  ·intro x d hx hp; obtain rfl : x = none := by cases x with | none => rfl | some y => cases hp
   refine w6 (w6 (i1 (c9 ?_))); refine t5 _ rfl rfl rfl rfl q6 ?_; refine b6 rfl (b5 ?_); refine Q5 (List.Perm.cons _ (List.perm_append_comm (l₂ := shutM ds))) ?_; exact againM _ (k + 1, d :: ds) ⟨by show k + 1 ≤ (freeT (trOf cs hs)).length + 1; omega, iz8 h0 hx.1⟩ (y8 (by omega)) rfl mC (List.Sublist.refl _) mC
  intro x d j hx hp; obtain ⟨y, rfl⟩ : ∃ y, x = some y := by cases x with | none => cases hp | some y => exact ⟨y, rfl⟩
  cases hp
  refine t7 (dj8 rfl (dj8 rfl (C7 (t8 (i1 (i4 ?_)))))); refine a7 (v := .slice y.2.2.1 y.2.1.length y.2.2.2) rfl wB rfl (i2 (List.mem_cons_of_mem _ (List.mem_append_left _ (List.mem_cons_self ..))) rfl) ?_; refine c5 rfl (c5 rfl (c8 (l4 (nx8 ?_)))); have hJ := join_at hf hk2 h0 hx.1; have hIs := hx.2 _ rfl; refine gq2 (d :: ds) y.2 rfl (List.Perm.cons _ (List.perm_append_comm (l₂ := shutM ds))) (fun a w _ hfr _ => ?_) rfl (by show isOut _ _; rw [hJ]; exact hIs) nK mC; rw [hJ]; exact gq3 rfl rfl rfl a w hfr
 exact (pj2 hf fun m hm => h0 m (by omega)).elim
def joinE (t : Tr) (h s : Int) : List (List Int) × Int := if ¬ askE t [h] = 0 then ([], askE t [h]) else if ¬ (0 ≤ s ∧ s ≤ 6) then ([], 1) else if (joinT t h s).isSome = false then ([], 11) else (pairsOf ((joinT t h s).getD []), 0)
set_option maxHeartbeats 1000000 in
theorem aj9 {A B : Option Addr} {ca cb : Nat} (cs : List Cl) (hs : List Hd) (h s : Int) (hca : cs.length ≤ ca) (hcb : hs.length ≤ cb) (ha : ∀ h ∈ hs, h.2.2.2.l.length ≤ 1000000) : Meets prog jF [.agg #[.slice A cs.length ca, .slice B hs.length cb], int h, int s] { LI := [Row A (rows cs), RowsF B hs Hd.row], inv := fun x : OutS => lsts x.1 = (joinE (trOf cs hs) h s).1, val := fun x => .tuple #[.slice x.2.1 x.1.length x.2.2, int (joinE (trOf cs hs) h s).2], LO := fun x => [Rows2 x.2.1 x.1] } := by
 refine j3 cj9 rfl v8 fun w0 => i4 (O3 rfl rfl fun gB => ?_); refine c5 rfl (c5 rfl (c8 ?_)); refine I0 ⟨fun _ : Nat × OutC × OutC => True, fun x => [(1, int h), (2, int s), (3, .pointer (d9 gB)), (8, if askE (trOf cs hs) [h] = 0 then .pointer (some ⟨x.1, 0, none⟩) else .pointer none), (9, int (askE (trOf cs hs) [h]))], fun _ => [(gB, .cells #[.slice A cs.length ca, .slice B hs.length cb] p8 (0, 0))], fun x => (if askE (trOf cs hs) [h] = 0 then beginL cs hs A ca B cb x else []) ++ [Row A (rows cs), RowsF B hs Hd.row]⟩ ?_ ?_
 ·skip
  refine c9 ?_
  first | refine G3 rfl i6 c7 rfl mB (by rfl) ?_ | refine I3 rfl i6 c7 rfl mB (by rfl) ?_ | refine z8 rfl i6 c7 rfl rfl (v9 mB (B3 (by omega))) ?_
  refine b6 rfl (n7 _ rfl rfl (fun _ => J5 ..) fun gS => D2 (rows [h]) (List.prefix_refl _) ?_); refine j4 jT rfl rfl (jP cs hs [h] hca hcb ha (by simp)) t4 mC fun x _ => ?_; refine b6 rfl (l3 rfl rfl rfl (l3 rfl rfl rfl (c5 rfl (c5 rfl (b5 ?_))))); exact D5 _ x tK mC (List.Sublist.refl _) (LSub.of_mem fun F hF => (List.mem_append.1 hF).elim (fun h1 => List.mem_append_left _ h1) (fun h2 => List.mem_append_right _ (List.mem_cons_of_mem _ h2)))
 refine fun x _ => ?_
 dsimp only
 refine d6 (j5 (i4 (b6 rfl (M8 rfl rfl rfl (c5 rfl (c8 ?_))))))
 first | refine k9 rfl (fun hb1 => ?_) (fun hb1 => ?_) | refine j0 rfl (fun hb1 => ?_) (fun hb1 => ?_)
 ·have hb1' := hb1; try simp at hb1'
  refine i4 (b6 rfl (c5 rfl (c5 rfl (c8 (l4 (B7 ?_)))))); refine n5 (α := Sl Int) ?_; refine G1 (Fs := ([] : List (Sl Int)).map fun p => Row p.a (rows p.l)) (by intro F hF; simp at hF) ?_; refine pZ (A := none) (ps := ([] : List (Sl Int))) mB mB ?_; have hE : (joinE (trOf cs hs) h s) = ([], askE (trOf cs hs) [h]) := by unfold joinE; rw [if_pos hb1]
  exact ret2 (([] : List (Sl Int)), (none, 0)) rfl rfl rfl (by show Value.tuple #[.slice none 0 0, int ((joinE (trOf cs hs) h s)).2] = _; rw [hE]) rfl (by show [] = ((joinE (trOf cs hs) h s)).1; rw [hE]) nK ⟨m0, tK⟩
 have hb1' := hb1; try simp at hb1'
 have h0 := Classical.not_not.1 hb1; rw [if_pos h0, if_pos h0]; have hch := vF h0; have hin := kx1 h0 (List.mem_singleton.2 rfl); rw [H0] at hin; have hok := mW hch; have h6 : cs.length ≤ 6 := hok.c6; have h6h := hok.h6; rw [H0] at h6h; have hcl : ∀ i, i < cs.length → ClsOK cs i := hok.c; obtain ⟨gl, ⟨oa, oc⟩, ⟨ka, kc⟩⟩ := x; show HC _ _ _ _ _ [Row (d9 gl) [.slice A cs.length ca, .slice B hs.length cb, .slice oa cs.length oc, .slice ka hs.length kc], Row oa (rows (masksN cs cs.length)), Row ka (rows (kindsN hs hs.length)), Row A (rows cs), RowsF B hs Hd.row]; refine i4 (b6 rfl ?_); refine j4 J1 rfl rfl (I8 _ _ _) t4 tK fun _ _ => ?_; refine H6 rfl rfl (c5 rfl (c8 ?_))
 first | refine k9 rfl (fun hb2 => ?_) (fun hb2 => ?_) | refine j0 rfl (fun hb2 => ?_) (fun hb2 => ?_)
 ·have hb2' := hb2; try simp at hb2'
  have h2 : ¬ (0 ≤ s ∧ s ≤ 6) := fun e => by rw [decide_eq_true e] at hb2; cases hb2
  refine i4 (c5 rfl (c5 rfl (c8 (l4 (B7 ?_))))); refine n5 (α := Sl Int) ?_; refine G1 (Fs := ([] : List (Sl Int)).map fun p => Row p.a (rows p.l)) (by intro F hF; simp at hF) ?_; refine pZ (A := none) (ps := ([] : List (Sl Int))) mB mB ?_; have hE : (joinE (trOf cs hs) h s) = ([], 1) := by unfold joinE; rw [if_neg hb1, if_pos h2]
  exact ret2 (([] : List (Sl Int)), (none, 0)) rfl rfl rfl (by show Value.tuple #[.slice none 0 0, int ((joinE (trOf cs hs) h s)).2] = _; rw [hE]) rfl (by show [] = ((joinE (trOf cs hs) h s)).1; rw [hE]) nK ⟨m0, tK⟩
 have hb2' := hb2; try simp at hb2'
 have h2 : 0 ≤ s ∧ s ≤ 6 := by simpa using hb2
 obtain ⟨sn, rfl⟩ : ∃ sn : Nat, s = (sn : Int) := ⟨s.toNat, by omega⟩; obtain ⟨hn, rfl⟩ : ∃ hn : Nat, h = (hn : Int) := ⟨h.toNat, by omega⟩; refine i8 (w6 (i1 (i4 (b6 rfl (b6 rfl (b6 rfl ?_)))))); refine j4 sW rfl rfl (sG (A := A) (B := B) (oa := oa) (ka := ka) (ca := ca) (cb := cb) (oc := oc) (kc := kc) (gl := gl) cs hs hn sn hok (by omega) (by omega)) t4 mC fun y hy => ?_; refine b6 rfl (l3 rfl rfl rfl (l3 rfl rfl rfl (c5 rfl (c5 rfl (c8 (d6 (i4 (b6 rfl (H6 rfl rfl ?_))))))))); refine c8 ?_
 first | refine k9 rfl (fun hb3 => ?_) (fun hb3 => ?_) | refine j0 rfl (fun hb3 => ?_) (fun hb3 => ?_)
 ·have hb3' := hb3; try simp at hb3'
  have h3 : (joinT (trOf cs hs) (hn : Int) (sn : Int)).isSome = false := by simpa using hb3
  refine i4 (c5 rfl (c5 rfl (c8 (E9 ?_)))); refine n5 (α := Sl Int) ?_; refine G1 (Fs := ([] : List (Sl Int)).map fun p => Row p.a (rows p.l)) (by intro F hF; simp at hF) ?_; refine pZ (A := none) (ps := ([] : List (Sl Int))) mB mB ?_; have hE : (joinE (trOf cs hs) (hn : Int) (sn : Int)) = ([], 11) := by unfold joinE; rw [if_neg hb1, if_neg (fun e => e h2), if_pos h3]
  exact ret2 (([] : List (Sl Int)), (none, 0)) rfl rfl rfl (by show Value.tuple #[.slice none 0 0, int ((joinE (trOf cs hs) (hn : Int) (sn : Int))).2] = _; rw [hE]) rfl (by show [] = ((joinE (trOf cs hs) (hn : Int) (sn : Int))).1; rw [hE]) nK ⟨m0, tK⟩
 have hb3' := hb3; try simp at hb3'
 have h3 : ¬ (joinT (trOf cs hs) (hn : Int) (sn : Int)).isSome = false := fun e => by rw [e] at hb3; cases hb3
 refine i8 (i1 (i4 (b6 rfl (c5 rfl (c5 rfl (c8 (l4 ?_))))))); have hE : joinE (trOf cs hs) (hn : Int) (sn : Int) = (pairsOf ((joinT (trOf cs hs) (hn : Int) (sn : Int)).getD []), 0) := by unfold joinE; rw [if_neg hb1, if_neg (fun e => e h2), if_neg h3]
 exact ret2 y rfl rfl rfl (by show Value.tuple #[.slice y.2.1 y.1.length y.2.2, int (joinE (trOf cs hs) (hn : Int) (sn : Int)).2] = _; rw [hE]; rfl) rfl (by show lsts y.1 = (joinE (trOf cs hs) (hn : Int) (sn : Int)).1; rw [hE]; exact hy) nK ⟨m0, tK⟩
def shT : Tr := ⟨shopsC, (shopsH 0 0).map Hd.p⟩
def laT : Tr := ⟨shopsC, (laterH 0).map Hd.p⟩
theorem gj6 (a b : Nat) : trOf shopsC (shopsH a b) = shT := rfl
theorem la_of (a : Nat) : trOf shopsC (laterH a) = laT := rfl
theorem pj4 : leastE shT 1 0 = (0, 0) := w7
theorem mq3 : followE shT 5 = (3, 2, 0) := w7
theorem ix_join : joinE shT 3 2 = ([[2, 4], [3, 2]], 0) := w7
theorem ix_may : mayE shT [109] = ([3, 4], 0) := w7
theorem pj3 : shortE shT 1 = ([98, 111], 0) := w7
theorem kj6 : compareE shT laT = ([([99, 111, 110, 102, 101, 99, 116, 105, 111, 110, 101, 114], 1), ([104, 97, 116, 116, 101, 114], 3), ([105, 114, 111, 110, 109, 111, 110, 103, 101, 114], 2)], 0) := w7
theorem gj5 (a b : Nat) : ∀ h ∈ shopsH a b, h.2.2.2.l.length ≤ 1000000 := by
  intro h hh; simp only [shopsH, List.mem_cons, List.not_mem_nil, or_false] at hh
  rcases hh with rfl | rfl | rfl | rfl | rfl | rfl <;> simp
theorem la_ok (a : Nat) : ∀ h ∈ laterH a, h.2.2.2.l.length ≤ 1000000 := by
  intro h hh; simp only [laterH, List.mem_cons, List.not_mem_nil, or_false] at hh
  rcases hh with rfl | rfl | rfl | rfl | rfl | rfl <;> simp
abbrev shF (x : Nat × Nat × Nat × Nat) : List Fact := [Row (some ⟨x.1, 0, none⟩) (rows shopsC), RowsF (some ⟨x.2.1, 0, none⟩) (shopsH x.2.2.1 x.2.2.2) Hd.row]
abbrev shV (x : Nat × Nat × Nat × Nat) : Value := .agg #[.slice (some ⟨x.1, 0, none⟩) 4 4, .slice (some ⟨x.2.1, 0, none⟩) 6 6]
theorem px5 (x : Nat × Nat × Nat × Nat) : Meets prog gK [shV x, int 1, int 0] { LI := shF x, val := fun _ : Unit => .tuple #[int 0, int 0] } := by
  have h := yK (A := some ⟨x.1, 0, none⟩) (B := some ⟨x.2.1, 0, none⟩) (ca := 4) (cb := 6) shopsC (shopsH x.2.2.1 x.2.2.2) 1 0 (Nat.le_refl 4) (Nat.le_refl 6) (gj5 _ _); rw [gj6, pj4] at h; exact h
theorem mx3 (x : Nat × Nat × Nat × Nat) : Meets prog cG [shV x, int 5] { LI := shF x, val := fun _ : Unit => .tuple #[int 3, int 2, int 0] } := by
  have h := wH (A := some ⟨x.1, 0, none⟩) (B := some ⟨x.2.1, 0, none⟩) (ca := 4) (cb := 6) shopsC (shopsH x.2.2.1 x.2.2.2) 5 (Nat.le_refl 4) (Nat.le_refl 6) (gj5 _ _); rw [gj6, mq3] at h; exact h
theorem ex_join (x : Nat × Nat × Nat × Nat) : Meets prog jF [shV x, int 3, int 2] { LI := shF x, inv := fun y : OutS => lsts y.1 = [[2, 4], [3, 2]], val := fun y => .tuple #[.slice y.2.1 y.1.length y.2.2, int 0], LO := fun y => [Rows2 y.2.1 y.1] } := by
  have h := aj9 (A := some ⟨x.1, 0, none⟩) (B := some ⟨x.2.1, 0, none⟩) (ca := 4) (cb := 6) shopsC (shopsH x.2.2.1 x.2.2.2) 3 2 (Nat.le_refl 4) (Nat.le_refl 6) (gj5 _ _); rw [gj6, ix_join] at h; exact h
theorem ex_may (x : Nat × Nat × Nat × Nat) : Meets prog kX [shV x, str [109]] { LI := shF x, inv := fun y : OutC => 2 ≤ y.2, val := fun y => .tuple #[.slice y.1 2 y.2, int 0], LO := fun y => [Row y.1 (rows ([3, 4] : List Int))] } := by
  have h := bz9 (A := some ⟨x.1, 0, none⟩) (B := some ⟨x.2.1, 0, none⟩) (ca := 4) (cb := 6) shopsC (shopsH x.2.2.1 x.2.2.2) [109] (Nat.le_refl 4) (Nat.le_refl 6) (gj5 _ _); rw [gj6, ix_may] at h; exact h
theorem px2 (x : Nat × Nat × Nat × Nat) : Meets prog gJ [shV x, int 1] { LI := shF x, val := fun _ : Unit => .tuple #[str [98, 111], int 0] } := by
  have h := yJ (A := some ⟨x.1, 0, none⟩) (B := some ⟨x.2.1, 0, none⟩) (ca := 4) (cb := 6) shopsC (shopsH x.2.2.1 x.2.2.2) 1 (Nat.le_refl 4) (Nat.le_refl 6) (gj5 _ _); rw [gj6, pj3] at h; exact h
def movesX : List Cl := [([99, 111, 110, 102, 101, 99, 116, 105, 111, 110, 101, 114], 1), ([104, 97, 116, 116, 101, 114], 3), ([105, 114, 111, 110, 109, 111, 110, 103, 101, 114], 2)]
theorem kq3 (x : Nat × Nat × Nat × Nat) (y : Nat × Nat × Nat) : Meets prog aT [shV x, .agg #[.slice (some ⟨y.1, 0, none⟩) 4 4, .slice (some ⟨y.2.1, 0, none⟩) 6 6]] { LI := shF x ++ [Row (some ⟨y.1, 0, none⟩) (rows shopsC), RowsF (some ⟨y.2.1, 0, none⟩) (laterH y.2.2) Hd.row], inv := fun z : OutC => 3 ≤ z.2, val := fun z => .tuple #[.slice z.1 3 z.2, int 0], LO := fun z => [Row z.1 (rows movesX)] } := by
  have h := vH (A := some ⟨x.1, 0, none⟩) (B := some ⟨x.2.1, 0, none⟩) (ca := 4) (cb := 6) (A2 := some ⟨y.1, 0, none⟩) (B2 := some ⟨y.2.1, 0, none⟩) (ca2 := 4) (cb2 := 6) shopsC (shopsH x.2.2.1 x.2.2.2) shopsC (laterH y.2.2) (Nat.le_refl 4) (Nat.le_refl 6) (gj5 _ _) (Nat.le_refl 4) (Nat.le_refl 6) (la_ok _); rw [gj6, la_of, kj6] at h; exact h
def pairsX (p q : Nat) : List (Sl Int) := [⟨some ⟨p, 0, none⟩, 2, [2, 4]⟩, ⟨some ⟨q, 0, none⟩, 2, [3, 2]⟩]
theorem px4 {A B : Option Addr} {ca p q : Nat} {a : List (Sl Int)} (h : lsts a = [[2, 4], [3, 2]]) : Meets prog gP [.slice A a.length ca, .slice B 2 2] { LI := [Rows2 A a, Rows2 B (pairsX p q)], val := fun _ : Unit => .bool true } := by
  have hl : a.length = 2 := by have := congrArg List.length h; rw [tY] at this; exact this
  have h2 := zH (A := A) (B := B) (ca := ca) (cb := 2) a (pairsX p q) (by omega) (fun s hs => by
    have hm : s.l ∈ lsts a := List.mem_map.2 ⟨s, hs, rfl⟩; rw [h] at hm; simp only [List.mem_cons, List.not_mem_nil, or_false] at hm
    rcases hm with e | e <;> rw [e] <;> decide)
  rw [decide_eq_true (show lsts a = lsts (pairsX p q) from h)] at h2; exact h2
theorem px3 {A B : Option Addr} {ca cb : Nat} : Meets prog gO [.slice A 3 ca, .slice B 3 cb] { LI := [Row A (rows movesX), Row B (rows movesX)], val := fun _ : Unit => .bool true } := by
  have h2 := zG (A := A) (B := B) (ca := ca) (cb := cb) movesX movesX (by decide); rw [decide_eq_true rfl] at h2; exact h2
theorem ex_ints {A B : Option Addr} {ca cb : Nat} : Meets prog jG [.slice A 2 ca, .slice B 2 cb] { LI := [Row A (rows ([3, 4] : List Int)), Row B (rows ([3, 4] : List Int))], val := fun _ : Unit => .bool true } := by
  have h2 := iN (A := A) (B := B) (ca := ca) (cb := cb) [3, 4] [3, 4] (by decide); rw [decide_eq_true rfl] at h2; exact h2
set_option maxHeartbeats 1000000 in
theorem aX : Meets prog iZ [] { val := fun _ : Unit => .bool true } := by
 refine j3 xM rfl v8 fun w0 => ?_; refine i4 (c5 rfl (t6 ?_)); refine j4 M4 rfl rfl (M2) t4 tK fun x1 _ => j4 zP rfl rfl (px5 x1) t4 mC fun _ _ => ?_; refine b6 rfl (l3 rfl rfl rfl (l3 rfl rfl rfl (c5 rfl (c5 rfl (t6 ?_))))); refine j4 M4 rfl rfl (M2) t4 tK fun x2 _ => j4 xE rfl rfl (mx3 x2) t4 mC fun _ _ => ?_; refine b6 rfl (l3 rfl rfl rfl (l3 rfl rfl rfl (l3 rfl rfl rfl (c5 rfl (c5 rfl (c5 rfl (t6 ?_))))))); refine j4 M4 rfl rfl (M2) t4 tK fun x3 _ => j4 bj2 rfl rfl (ex_join x3) t4 mC fun y3 hy3 => ?_; refine b6 rfl (l3 rfl rfl rfl (l3 rfl rfl rfl (c5 rfl (c5 rfl (t6 ?_))))); refine j4 M4 rfl rfl (M2) t4 tK fun x4 _ => j4 cj8 rfl rfl (ex_may x4) t4 mC fun y4 _ => ?_; refine b6 rfl (l3 rfl rfl rfl (l3 rfl rfl rfl (c5 rfl (c5 rfl (t6 ?_))))); refine j4 M4 rfl rfl (M2) t4 tK fun x5 _ => j4 zO rfl rfl (px2 x5) t4 mC fun _ _ => ?_; refine b6 rfl (l3 rfl rfl rfl (l3 rfl rfl rfl (c5 rfl (c5 rfl (t6 ?_))))); refine j4 M4 rfl rfl (M2) t4 tK fun x6 _ => j4 zU rfl rfl (zD) t4 tK fun x7 _ => j4 vU rfl rfl (kq3 x6 x7) t4 mC fun y6 _ => ?_; refine b6 rfl (l3 rfl rfl rfl (l3 rfl rfl rfl (c5 rfl (c5 rfl (t6 (b6 rfl (J0 rfl rfl rfl (b6 rfl ?_)))))))); refine v6 rfl rfl ?_ ?_
 ·intro hg1; have hg1' := hg1; try simp at hg1'
  refine k5 hg1 (b6 rfl (k5 hg1 (J0 rfl rfl rfl ?_))); refine p_t rfl rfl (bt1 hg1) rfl (b6 rfl ?_); refine v6 rfl rfl ?_ ?_
  ·intro hg2; have hg2' := hg2; try simp at hg2'
   refine k5 hg2 (b6 rfl (k5 hg2 (J0 rfl rfl rfl ?_))); refine p_t rfl rfl (bt1 hg2) rfl (b6 rfl ?_); refine v6 rfl rfl ?_ ?_
   ·intro hg3; have hg3' := hg3; try simp at hg3'
    refine k5 hg3 (b6 rfl (k5 hg3 (J0 rfl rfl rfl ?_))); refine p_t rfl rfl (bt1 hg3) rfl (b6 rfl ?_); refine v6 rfl rfl ?_ ?_
    ·intro hg4; have hg4' := hg4; try simp at hg4'
     refine k5 hg4 (b6 rfl (k5 hg4 (J0 rfl rfl rfl ?_))); refine p_t rfl rfl (bt1 hg4) rfl (b6 rfl ?_); refine v6 rfl rfl ?_ ?_
     ·intro hg5; have hg5' := hg5; try simp at hg5'
      refine k5 hg5 (b6 rfl (k5 hg5 (J0 rfl rfl rfl ?_))); refine p_t rfl rfl (bt1 hg5) rfl (b6 rfl ?_); refine v6 rfl rfl ?_ ?_
      ·intro hg6; have hg6' := hg6; try simp at hg6'
       refine k5 hg6 (b6 rfl (k5 hg6 (J0 rfl rfl rfl ?_))); refine p_t rfl rfl (bt1 hg6) rfl (b6 rfl ?_); refine v6 rfl rfl ?_ ?_
       ·intro hg7; have hg7' := hg7; try simp at hg7'
        refine k5 hg7 (b6 rfl (k5 hg7 (J0 rfl rfl rfl ?_))); refine p_t rfl rfl (bt1 hg7) rfl (b6 rfl ?_); refine v6 rfl rfl ?_ ?_
        ·intro hg8; have hg8' := hg8; try simp at hg8'
         refine k5 hg8 (b6 rfl (k5 hg8 (J0 rfl rfl rfl ?_))); refine p_t rfl rfl (bt1 hg8) rfl (b6 rfl ?_); refine v6 rfl rfl ?_ ?_
         ·intro hg9; have hg9' := hg9; try simp at hg9'
          refine k5 hg9 (b6 rfl (k5 hg9 (J3 rfl rfl rfl ?_))); refine p_t rfl rfl (bt1 hg9) rfl (b6 rfl ?_); refine v6 rfl rfl ?_ ?_
          ·intro hg10; have hg10' := hg10; try simp at hg10'
           refine k5 hg10 (b6 rfl (k5 hg10 ?_)); refine n7 _ rfl rfl (fun _ => kS ..) fun gp => ?_; refine D2 (rows [(2 : Int), 4]) (List.prefix_refl _) ?_; refine k5 hg10 ?_; refine n7 _ rfl rfl (fun _ => kS ..) fun gq => ?_; refine D2 (rows [(3 : Int), 2]) (List.prefix_refl _) ?_; refine k5 hg10 ?_; refine n7 _ rfl rfl (fun _ => dz2 ..) fun gr => ?_; refine D2 (rows (pairsX gp gq)) (List.prefix_refl _) ?_; refine pj7 (A := some ⟨gr, 0, none⟩) (ps := pairsX gp gq) mB (by intro p hp; simp only [pairsX, List.mem_cons, List.not_mem_nil, or_false] at hp; rcases hp with rfl | rfl <;> repeat constructor) ?_; refine k5 hg10 ?_; refine j4 aj1 rfl rfl (px4 (p := gp) (q := gq) hy3) t4 mC fun _ _ => ?_; refine p_t rfl rfl (bt1 hg10) rfl ?_; refine b6 rfl ?_; refine v6 rfl rfl ?_ ?_
           ·intro hg11; have hg11' := hg11; try simp at hg11'
            refine k5 hg11 (b6 rfl (k5 hg11 ?_)); refine n7 _ rfl rfl (fun _ => kS ..) fun gS => k5 hg11 (D2 (rows ([3, 4] : List Int)) (List.prefix_refl _) (j4 jA rfl rfl (ex_ints) t4 mC fun _ _ => p_t rfl rfl (bt1 hg11) rfl (b6 rfl ?_))); refine v6 rfl rfl ?_ ?_
            ·intro hg12; have hg12' := hg12; try simp at hg12'
             refine k5 hg12 (b6 rfl (k5 hg12 ?_)); refine u0 _ rfl rfl (fun _ => N7 ..) (k5 hg12 (u0 _ rfl rfl (fun _ => N7 ..) (k5 hg12 (u0 _ rfl rfl (fun _ => N7 ..) (k5 hg12 (n7 _ rfl rfl (fun _ => wK ..) fun gS => k5 hg12 (D2 (rows movesX) (List.prefix_refl _) (j4 aj0 rfl rfl (px3) t4 mC fun _ _ => p_t rfl rfl (bt1 hg12) rfl ?_)))))))); refine c5 rfl (c8 (l4 ?_)); exact ret1 () rfl rfl rfl tK nK tK
            intro hg12; have hg12' := hg12; try simp at hg12'
           intro hg11; have hg11' := hg11; try simp at hg11'
          intro hg10; have hg10' := hg10; try simp at hg10'
         intro hg9; have hg9' := hg9; try simp at hg9'
        intro hg8; have hg8' := hg8; try simp at hg8'
       intro hg7; have hg7' := hg7; try simp at hg7'
      intro hg6; have hg6' := hg6; try simp at hg6'
     intro hg5; have hg5' := hg5; try simp at hg5'
    intro hg4; have hg4' := hg4; try simp at hg4'
   intro hg3; have hg3' := hg3; try simp at hg3'
  intro hg2; have hg2' := hg2; try simp at hg2'
 intro hg1; have hg1' := hg1; try simp at hg1'
theorem rW {f : Nat → Int} : ∀ {n : Nat}, (∀ i, i < n → f i = 0) → firstE f n = 0
  | 0, _ => rfl
  | n + 1, h => by rw [firstE, if_pos (rW fun i hi => h i (by omega))]; exact h n (by omega)
def sortN (names : List Int) (i : Nat) : Str := sortsL.getD (names.getD i default).toNat default
def callN (words : List Int) (i : Nat) : Str := callingsL.getD (words.getD i default).toNat default
theorem jz0 : ∀ k, k < 9 → wordB (sortsL.getD k default) = true := by decide
theorem kq9 : ∀ k, k < 16 → wordB (callingsL.getD k default) = true := by decide
theorem lz4 : ∀ a, a < 9 → ∀ b, b < 9 → sortsL.getD a default = sortsL.getD b default → a = b := by decide
theorem mx4 : ∀ b, b < 16 → ∀ a, a < b → callingsL.getD a default < callingsL.getD b default := by decide
theorem jz3 {names : List Int} {n i : Nat} (hP : names.Perm (rngI n)) (hi : i < n) : 0 ≤ names.getD i default ∧ names.getD i default < (n : Int) := by
  have hl : names.length = n := by rw [hP.length_eq, uU]
  have hm : names.getD i default ∈ rngI n := hP.mem_iff.1 (w8 (by omega)); obtain ⟨k, hk, e⟩ := List.mem_map.1 hm; have := List.mem_range.1 hk
  omega
theorem rng_inj {names : List Int} {n i j : Nat} (hP : names.Perm (rngI n)) (hi : i < n) (hj : j < i) : ¬ names.getD j default = names.getD i default := by
  have hl : names.length = n := by rw [hP.length_eq, uU]
  have hnd : names.Nodup := hP.nodup_iff.2 (by
    unfold rngI; rw [List.nodup_iff_pairwise_ne, List.pairwise_map]
    exact List.pairwise_lt_range.imp fun h => by omega)
  rw [B8 (show j < names.length by omega), B8 (show i < names.length by omega)]; intro e; have := (List.getElem_inj hnd).1 e
  omega
def ClsMade (names : List Int) (cs : List Cl) : Prop := ∀ i, i < cs.length → (cs.getD i default).1 = sortN names i ∧ -1 ≤ (cs.getD i default).2 ∧ (cs.getD i default).2 < (i : Int)
theorem ClsMade.snoc {names : List Int} {cs : List Cl} (h : ClsMade names cs) {u : Int} (h1 : -1 ≤ u) (h2 : u < (cs.length : Int)) : ClsMade names (cs ++ [(sortN names cs.length, u)]) := by
  intro i hi; rw [List.length_append, List.length_singleton] at hi; rw [B8 (by simp; omega)]
  by_cases e : i < cs.length
  · rw [List.getElem_append_left e, ← B8 e]
    exact h i e
  obtain rfl : i = cs.length := by omega
  rw [List.getElem_append_right (by omega)]; simp only [Nat.sub_self, List.getElem_cons_zero]; exact ⟨tK, h1, h2⟩
theorem cls_all {names : List Int} {cs : List Cl} (hP : names.Perm (rngI 9)) (h : ClsMade names cs) (h6 : cs.length ≤ 6) (i : Nat) (hi : i < cs.length) : clsErr cs i = 0 := by
  obtain ⟨e1, e2, e3⟩ := h i hi; have hr := jz3 hP (show i < 9 by omega); unfold clsErr; rw [if_neg, if_neg, if_neg (by omega), if_neg (by omega)]
  · intro hm
    obtain ⟨x, hx, ex⟩ := List.mem_map.1 hm; obtain ⟨j, hj, rfl⟩ := List.getElem_of_mem hx; rw [List.length_take] at hj; have hj2 : j < i := by omega
    rw [List.getElem_take, ← B8 (show j < cs.length by omega), (h j (by omega)).1, e1] at ex; have hrj := jz3 hP (show j < 9 by omega); have := lz4 _ (by omega) _ (by omega) ex; exact rng_inj hP (show i < 9 by omega) hj2 (by omega)
  rw [e1]; have := jz0 (names.getD i default).toNat (by omega); unfold sortN; rw [this]
  decide
def HdMade (nc n i : Nat) (h : Hd) : Prop := (∀ k, k < h.2.2.2.l.length → alsoErr n i h.2.2.2.l k = 0) ∧ ((0 ≤ h.2.2.1 ∧ h.2.2.1 < (n : Int) ∧ ¬ h.2.2.1 = (i : Int) ∧ h.2.1 = -1 ∧ h.2.2.2.l = []) ∨ (h.2.2.1 = -1 ∧ 0 ≤ h.2.1 ∧ h.2.1 < (nc : Int)) ∨ (h.2.2.1 = -1 ∧ h.2.1 = -1 ∧ h.2.2.2.l ≠ []))
def HsMade (words : List Int) (nc n : Nat) (hs : List Hd) : Prop := ∀ i, i < hs.length → (hs.getD i default).1 = callN words i ∧ HdMade nc n i (hs.getD i default)
theorem HsMade.snoc {words : List Int} {nc n : Nat} {hs : List Hd} (h : HsMade words nc n hs) {x : Hd} (h1 : x.1 = callN words hs.length) (h2 : HdMade nc n hs.length x) : HsMade words nc n (hs ++ [x]) := by
  intro i hi; rw [List.length_append, List.length_singleton] at hi; rw [B8 (by simp; omega)]
  by_cases e : i < hs.length
  · rw [List.getElem_append_left e, ← B8 e]
    exact h i e
  obtain rfl : i = hs.length := by omega
  rw [List.getElem_append_right (by omega)]; simp only [Nat.sub_self, List.getElem_cons_zero]; exact ⟨h1, h2⟩
theorem kx2 {l : List Int} (h : l.Pairwise (· < ·)) {j i : Nat} (hji : j < i) (hi : i < l.length) : l.getD j default < l.getD i default := by
  rw [B8 (show j < l.length by omega), B8 hi]; exact (List.pairwise_iff_getElem.1 h) j i (by omega) hi hji
theorem jq5 {words : List Int} (h : words.Pairwise (· < ·)) (h2 : ∀ v ∈ words, 0 ≤ v ∧ v < 16) {j i : Nat} (hji : j < i) (hi : i < words.length) : callN words j < callN words i := by
  have h3 := kx2 h hji hi; have h4 := h2 _ (w8 (show j < words.length by omega)); have h5 := h2 _ (w8 hi); exact mx4 _ (by omega) _ (by omega)
theorem mq2 {n nc i : Nat} {h : Hd} (e : (0 ≤ h.2.2.1 ∧ h.2.2.1 < (n : Int) ∧ ¬ h.2.2.1 = (i : Int) ∧ h.2.1 = -1 ∧ h.2.2.2.l = []) ∨ (h.2.2.1 = -1 ∧ 0 ≤ h.2.1 ∧ h.2.1 < (nc : Int)) ∨ (h.2.2.1 = -1 ∧ h.2.1 = -1 ∧ h.2.2.2.l ≠ [])) : kindBad h.p = false := by
  have e1 : h.p.2.2.1 = h.2.2.1 := rfl; have e2 : h.p.2.1 = h.2.1 := rfl; have e3 : h.p.2.2.2 = h.2.2.2.l := rfl; unfold kindBad; rw [e1, e2, e3]
  rcases e with ⟨h1, _, _, h2, h3⟩ | ⟨h1, h2, _⟩ | ⟨h1, h2, h3⟩
  · have h4 : ¬ h.2.2.1 = -1 := by omega
    rw [h2, h3, decide_eq_false h4]; simp
  · have h4 : ¬ h.2.1 = -1 := by omega
    rw [h1, decide_eq_false h4]; simp
  have h4 : ¬ h.2.2.2.l.length = 0 := fun e => h3 (List.eq_nil_of_length_eq_zero e); rw [h1, h2, decide_eq_false h4]; simp
theorem pj8 {words : List Int} {cs : List Cl} {hs : List Hd} {n : Nat} (hw : words.Pairwise (· < ·)) (hw2 : ∀ v ∈ words, 0 ≤ v ∧ v < 16) (hn : words.length = n) (hl : hs.length = n) (h : HsMade words cs.length n hs) (i : Nat) (hi : i < n) : headErr (trOf cs hs) i = 0 := by
  obtain ⟨e1, e2, e3⟩ := h i (by omega); have hg : ∀ j, j < n → (trOf cs hs).hs.getD j default = (hs.getD j default).p := fun j hj => V4 (by omega); have hlen : (trOf cs hs).hs.length = n := by rw [H0, hl]
  have hwi := hw2 _ (w8 (show i < words.length by omega)); unfold headErr; rw [hlen, hg i hi]; rw [if_neg, if_neg, if_neg, if_neg, if_neg, if_neg, if_neg]
  · rw [mq2 e3]; decide
  · rw [Classical.not_not]
    exact rW e2
  · show ¬ (hs.getD i default).2.2.1 = (i : Int)
    rcases e3 with ⟨_, _, h1, _, _⟩ | ⟨h1, _, _⟩ | ⟨h1, _, _⟩ <;> omega
  · show ¬ ((hs.getD i default).2.1 < -1 ∨ (cs.length : Int) ≤ (hs.getD i default).2.1 ∨ (hs.getD i default).2.2.1 < -1 ∨ (n : Int) ≤ (hs.getD i default).2.2.1)
    rcases e3 with ⟨h1, h2, _, h3, _⟩ | ⟨h1, h2, h3⟩ | ⟨h1, h2, _⟩ <;> omega
  · rintro ⟨h0, hlt⟩
    rw [hg (i - 1) (by omega)] at hlt; have h1 : (hs.getD i default).1 < (hs.getD (i - 1) default).1 := hlt; rw [e1, (h (i - 1) (by omega)).1] at h1; exact uS _ (List.lt_trans h1 (jq5 hw hw2 (show i - 1 < i by omega) (by omega)))
  · intro hm
    obtain ⟨x, hx, ex⟩ := List.mem_map.1 hm; obtain ⟨j, hj, rfl⟩ := List.getElem_of_mem hx; rw [List.length_take, hlen] at hj; have hj2 : j < i := by omega
    rw [List.getElem_take, ← B8 (show j < (trOf cs hs).hs.length by rw [hlen]; omega), hg j (by omega)] at ex; have h1 : (hs.getD j default).1 = (hs.getD i default).1 := ex; rw [(h j (by omega)).1, e1] at h1; have h2 := jq5 hw hw2 hj2 (by omega); rw [h1] at h2; exact uS _ h2
  show ¬ wordB (hs.getD i default).1 = false; rw [e1]; have := kq9 (words.getD i default).toNat (by omega); unfold callN; rw [this]
  decide
theorem made_ok {names words : List Int} {cs : List Cl} {hs : List Hd} (hP : names.Perm (rngI 9)) (hC : ClsMade names cs) (h6 : cs.length ≤ 6) (hw : words.Pairwise (· < ·)) (hw2 : ∀ v ∈ words, 0 ≤ v ∧ v < 16) (hl : hs.length = words.length) (hn : words.length ≤ 6) (h : HsMade words cs.length words.length hs) : checkT (trOf cs hs) = 0 := by
  unfold checkT; have hlen : (trOf cs hs).hs.length = words.length := by rw [H0, hl]
  have h1 : firstE (clsErr cs) cs.length = 0 := rW fun i hi => cls_all hP hC h6 i hi; have h2 : firstE (headErr (trOf cs hs)) words.length = 0 := rW fun i hi => pj8 hw hw2 rfl hl h i hi; rw [hlen, if_neg (by show ¬ (6 < cs.length ∨ 6 < words.length); omega), if_neg (by rw [Classical.not_not]; exact h1)]; exact h2
def AscB (i k : Nat) (l : List Int) : Prop := l.Pairwise (· < ·) ∧ ∀ x ∈ l, 0 ≤ x ∧ x < (k : Int) ∧ ¬ x = (i : Int)
theorem AscB.step {i k : Nat} {l : List Int} (h : AscB i k l) : AscB i (k + 1) l := ⟨h.1, fun x hx => by have := h.2 x hx; omega⟩
theorem AscB.snoc {i k : Nat} {l : List Int} (h : AscB i k l) (hk : ¬ k = i) : AscB i (k + 1) (l ++ [(k : Int)]) := by
  refine ⟨List.pairwise_append.2 ⟨h.1, by simp, fun a ha b hb => ?_⟩, fun x hx => ?_⟩
  · rw [List.mem_singleton] at hb; have := (h.2 a ha).2.1; omega
  rcases List.mem_append.1 hx with hx | hx
  · have := h.2 x hx; omega
  rw [List.mem_singleton] at hx; omega
theorem AscB.err {i n : Nat} {l : List Int} (h : AscB i n l) (k : Nat) (hk : k < l.length) : alsoErr n i l k = 0 := by
  have h1 := h.2 _ (w8 hk); unfold alsoErr; rw [if_neg (by omega), if_neg h1.2.2, if_neg]; rintro ⟨h0, h2⟩; have := kx2 h.1 (show k - 1 < k by omega) hk
  omega
theorem AscB.len {i n : Nat} {l : List Int} (h : AscB i n l) : l.length ≤ n := by
  have hg := dx5 (l := l) fun k hk => ⟨(h.2 _ (w8 hk)).1, fun h0 => kx2 h.1 (show k - 1 < k by omega) hk⟩
  by_cases h0 : l.length = 0
  · omega
  have h1 := hg (l.length - 1) (by omega); have h2 := (h.2 _ (w8 (show l.length - 1 < l.length by omega))).2.1
  omega
theorem past {n i : Nat} {v : Int} (hi : i < n) (h0 : 0 ≤ v) (h1 : v ≤ (n : Int) - 2) : 0 ≤ (((i : Int) + 1 + v).tmod n) ∧ (((i : Int) + 1 + v).tmod n) < (n : Int) ∧ ¬ (((i : Int) + 1 + v).tmod n) = (i : Int) := by
  rw [Int.tmod_eq_emod_of_nonneg (by omega)]
  by_cases h : (i : Int) + 1 + v < (n : Int)
  · rw [Int.emod_eq_of_lt (by omega) h]; omega
  have e : ((i : Int) + 1 + v) % (n : Int) = (i : Int) + 1 + v - n := by
    rw [← Int.sub_emod_right]; exact Int.emod_eq_of_lt (by omega) (by omega)
  rw [e]; omega
abbrev trB (g : Nat) (A : Option Addr) (n c : Nat) (B : Option Addr) (m k : Nat) : Nat × Obj := (g, .cells #[.slice A n c, .slice B m k] p8 (0, 0))
abbrev hdB (g : Nat) (w : Str) (cl se : Int) (A : Option Addr) (n c : Nat) : Nat × Obj := (g, .cells #[str w, int cl, int se, .slice A n c] G0 (0, 0))
abbrev TRes := List Cl × List Hd × OutC × OutC
structure TOf (m1 m2 : Nat) (x : TRes) : Prop where
  ok : checkT (trOf x.1 x.2.1) = 0
  c1 : 1 ≤ x.1.length
  c2 : x.1.length ≤ m1
  h2 : x.2.1.length ≤ m2
  ca : x.1.length ≤ x.2.2.1.2
  cb : x.2.1.length ≤ x.2.2.2.2
  ha : ∀ h ∈ x.2.1, h.2.2.2.l.length ≤ 1000000
theorem hs_ha {words : List Int} {nc n : Nat} {hs : List Hd} (hn : n ≤ 6) (h : HsMade words nc n hs) : ∀ x ∈ hs, x.2.2.2.l.length ≤ 1000000 := by
  intro x hx; obtain ⟨i, hi, rfl⟩ := List.getElem_of_mem hx; have ha := (h i hi).2.1; rw [B8 hi] at ha; have hg := dx5 (l := hs[i].2.2.2.l) fun k hk => ⟨(gU (ha k hk)).1, (gU (ha k hk)).2.2.2⟩
  by_cases h0 : hs[i].2.2.2.l.length = 0
  · omega
  have h1 := hg (hs[i].2.2.2.l.length - 1) (by omega); have h2 := (gU (ha (hs[i].2.2.2.l.length - 1) (by omega))).2.1
  omega
set_option maxHeartbeats 2000000 in
theorem wR {g : Nat} {A : Option Addr} {c : Nat} {nums : List Int} {s : Int × Int} (m1 m2 : Nat) (hn : nums.length ≤ 9223372036854775807) (hs : DOK nums s) (h1 : 2 ≤ m1 ∧ m1 ≤ 6) (h2 : m2 ≤ 6) :
    Meets prog jY [.pointer (d9 g), int m1, int m2] (diceCon g A c nums s (TOf m1 m2) (fun x => .agg #[.slice x.2.2.1.1 x.1.length x.2.2.1.2, .slice x.2.2.2.1 x.2.1.length x.2.2.2.2]) (fun x => [Row x.2.2.1.1 (rows x.1), RowsF x.2.2.2.1 x.2.1 Hd.row])) := by
 refine j3 zW rfl v8 fun w0 => i4 (u4 rfl (fun _ => D4 _) fun g6 => t6 (u4 rfl (fun _ => D4 _) fun g7 => ?_)); refine c8 (d6 ?_); refine Y6 (List.perm_append_comm (l₁ := [trB g7 none 0 0 none 0 0, trB g6 none 0 0 none 0 0]) (l₂ := [dice g A c nums s])) ?_; refine c9 (b6 rfl ?_); refine j4 sA rfl rfl (rY) t4 tK fun gs _ => k6 rfl j9 rfl (j4 jO rfl rfl (jM 9 hn hs (by decide)) t4 mC fun x hx => ?_); obtain ⟨s1, no⟩ := x; obtain ⟨hs1, hno⟩ := hx; simp only at hs1; obtain ⟨names, nA, nC⟩ := no; obtain ⟨hP, hnc⟩ := hno; simp only at hP hnc; have hnl : names.length = 9 := by rw [hP.length_eq, uU]
 refine c5 rfl (c8 (d6 (i4 (b6 rfl (b6 rfl ?_))))); refine j4 kN rfl rfl (kJ 1 (m1 : Int) hn hs1 (by omega)) t4 mC fun x hx => ?_; obtain ⟨s2, z⟩ := x; obtain ⟨hs2, hz⟩ := hx; simp only at hs2; simp only [FromInv] at hz; have hz2 : 1 ≤ z ∧ z ≤ m1 := ⟨hz.1, by by_cases h1 : (1 : Int) < m1; exact hz.2.1 h1; have := hz.2.2 (by omega); omega⟩; obtain ⟨zn, rfl⟩ := Int.eq_ofNat_of_zero_le (show 0 ≤ z by omega); refine c5 rfl (c8 (j5 ?_)); refine u6 (β := Nat × List Cl × OutC × Hp × (Int × Int)) ⟨fun x => x.2.1.length + x.1 = zn ∧ ClsMade names x.2.1 ∧ Grow U2 2 x.2.2.1.1 x.2.1.length x.2.2.1.2 (rows x.2.1) x.2.2.2.1 ∧ DOK nums x.2.2.2.2, fun x => [(0, .pointer (d9 g)), (2, int m2), (6, .pointer (d9 g6)), (7, .pointer (d9 g7)), (8, .slice nA names.length nC), (9, int x.1)], fun x => dice g A c nums x.2.2.2.2 :: trB g7 x.2.2.1.1 x.2.1.length x.2.2.1.2 none 0 0 :: trB g6 none 0 0 none 0 0 :: x.2.2.2.1, fun _ => [Row nA (rows names), Row A (rows nums)]⟩ (fun x => x.1) (zn, [], (none, 0), [], s2) ⟨Nat.zero_add _, fun i hi => by simp at hi, Grow.nil _ _, hs2⟩ mC (List.Sublist.refl _) mC fun x hx => ?_; clear hs hs1 hs2 hz; obtain ⟨r, cs, ⟨cA, cC⟩, og, s⟩ := x; obtain ⟨hr, hC, hG, hs⟩ := hx; simp only at hr hC hG hs; refine d6 (i4 (b6 rfl (Q0 rfl rfl rfl (c8 ?_))))
 first | refine k9 rfl (fun hb1 => ?_) (fun hb1 => ?_) | refine j0 rfl (fun hb1 => ?_) (fun hb1 => ?_)
 ·have hb1' := hb1; try simp at hb1'
  obtain ⟨r, rfl⟩ : ∃ q, r = q + 1 := ⟨r - 1, by omega⟩; have hcl : cs.length < 6 := by omega
  have hrg := jz3 hP (show cs.length < 9 by omega); obtain ⟨nm, hnm⟩ := Int.eq_ofNat_of_zero_le hrg.1; have hnm9 : nm < 9 := by omega
  have hsn : sortsL.getD nm default = sortN names cs.length := by unfold sortN; rw [hnm, Int.toNat_natCast]
  refine i8 (i1 (d6 (j5 ?_))); refine H3 (dice g A c nums s :: og) ([trB g7 cA cs.length cC none 0 0, trB g6 none 0 0 none 0 0]) (B1 fun p => by simp only [List.countP_append, List.countP_cons, List.countP_nil]; omega) 19 [16] mixed (by decide) (by decide) (by decide) rfl rfl rfl ?_
  apply k7 _ rfl rfl rfl
  ·intro w1
   first | refine a6 ⟨_, 0, none⟩ rfl rfl i9 rfl ?_ | refine a6 _ rfl rfl i9 rfl ?_
   refine b5 ?_; exact i5 rfl
  apply k7 _ rfl rfl rfl
  ·intro w1
   first | refine a7 rfl b3 rfl (d8 mB rfl) ?_ | refine a7 rfl b3 rfl (i2 mB rfl) ?_ | refine a7 rfl b3 rfl (b7 mB (b4 (by omega) rfl)) ?_ | refine a7 rfl b3 rfl (b8 mB (rows_get (by omega) rfl)) ?_ | refine a7 rfl b3 rfl (d7 mB rfl) ?_
   refine b5 ?_; exact i5 rfl
  refine V9 ⟨Nat, fun _ => True, fun g => .slice (d9 g) 9 9, fun g => [Row (d9 g) (rows sortsL)]⟩ rfl rfl rfl ?_ ?_
  ·intro w1; refine j4 sA rfl rfl (rY) t4 tK fun gs2 _ => b5 ?_; exact K5 gs2 tK rfl ⟨m0, tK⟩
  refine r7 rfl ?_
  apply k7 _ rfl rfl rfl
  ·intro w1
   first | refine a6 ⟨_, 0, none⟩ rfl rfl i9 rfl ?_ | refine a6 _ rfl rfl i9 rfl ?_
   refine b5 ?_; exact i5 rfl
  apply k7 _ rfl rfl rfl
  ·intro w1
   first | refine a7 rfl b3 rfl (d8 mB rfl) ?_ | refine a7 rfl b3 rfl (i2 mB rfl) ?_ | refine a7 rfl b3 rfl (b7 mB (b4 (by omega) rfl)) ?_ | refine a7 rfl b3 rfl (b8 mB (rows_get (by omega) rfl)) ?_ | refine a7 rfl b3 rfl (d7 mB rfl) ?_
   refine b5 ?_; exact i5 rfl
  refine k8 (fun w1 => k6 rfl n6 rfl (q_z rfl)) (k8 (fun w1 => m7 (α := Int) names cs.length rfl A8 E1 rfl rfl rfl mB rfl (by omega) (by decide) (q_z rfl)) (k8 (fun w1 => a7 (v := int (names.getD cs.length default)) rfl a8 rfl (b7 mB (b4 (by omega) rfl)) (q_z rfl)) ?_)); refine V9 ⟨Nat, fun _ => True, fun g => .pointer (some ((adr (d9 g)).add (nm * 1))), fun g => [Row (d9 g) (rows sortsL)]⟩ rfl rfl rfl ?_ ?_
  ·intro g2 _; intro w1; refine m7 (α := Str) sortsL nm rfl j9 j6 rfl rfl hnm mB rfl hnm9 (by decide) (b5 ?_); exact K5 g2 tK rfl mC
  apply k7 _ rfl rfl rfl
  ·intro g9 _; intro w1; refine a7 (v := str (sortN names cs.length)) rfl a9 rfl (b7 mB (by rw [← hsn]; exact b4 (show nm < 9 from hnm9) rfl)) ?_; refine b5 ?_; exact i5 rfl
  refine r7 rfl ?_
  apply k7 _ rfl rfl rfl
  ·intro w1
   first | refine a6 ⟨_, 0, none⟩ rfl rfl i9 rfl ?_ | refine a6 _ rfl rfl i9 rfl ?_
   refine b5 ?_; exact i5 rfl
  apply k7 _ rfl rfl rfl
  ·intro w1
   first | refine a7 rfl b3 rfl (d8 mB rfl) ?_ | refine a7 rfl b3 rfl (i2 mB rfl) ?_ | refine a7 rfl b3 rfl (b7 mB (b4 (by omega) rfl)) ?_ | refine a7 rfl b3 rfl (b8 mB (rows_get (by omega) rfl)) ?_ | refine a7 rfl b3 rfl (d7 mB rfl) ?_
   refine b5 ?_; exact i5 rfl
  refine k8 (fun w1 => k6 rfl n6 rfl (q_z rfl)) (k8 (fun w1 => P9 ((cs.length : Int) - 1) rfl rfl rfl rfl q6 (q_z rfl)) ?_); refine nE ⟨(Int × Int) × Int, fun x => DOK nums x.1 ∧ FromInv (-1) ((cs.length : Int) - 1) x.2, fun x => int x.2, fun _ => [], fun x => dice g A c nums x.1 :: og⟩ rfl rfl rfl ?_ ?_
  ·intro w1; refine j4 kN rfl rfl (kJ (-1) ((cs.length : Int) - 1) hn hs (by omega)) t4 mC fun x hx => ?_; obtain ⟨s3, u⟩ := x; obtain ⟨hs3, hu⟩ := hx; simp only at hs3; refine b5 ?_; exact H4 (s3, u) ⟨hs3, hu⟩ (fun _ => rfl) (List.Sublist.refl _) tK
  refine V9 ⟨Int, fun u => FromInv (-1) ((cs.length : Int) - 1) u, fun u => .agg #[str (sortN names cs.length), int u], fun _ => []⟩ rfl rfl rfl ?_ ?_
  ·intro x hx; intro w1; refine u0 _ rfl rfl (fun _ => M5 ..) (b5 ?_); exact K5 x.2 hx.2 rfl tK
  refine V9 ⟨Nat × Int, fun x => FromInv (-1) ((cs.length : Int) - 1) x.2, fun x => .slice (some ⟨x.1, 0, none⟩) 1 1, fun x => [Row (some ⟨x.1, 0, none⟩) (rows [(((sortN names cs.length), x.2) : Cl)])]⟩ rfl rfl rfl ?_ ?_
  ·intro u hu; intro w1; refine n7 _ rfl rfl (fun _ => aV ..) fun gS => b5 (R8 (rows [(((sortN names cs.length), u) : Cl)]) (List.prefix_refl _) ?_); exact K5 (gS, u) hu rfl ⟨m0, tK⟩
  refine v7 ⟨rfl, ?_⟩; intro g2 _ g9 _ x16 h16 u17 h17 x18 h18; obtain ⟨s4, z16⟩ := x16; obtain ⟨hs4, _⟩ := h16; obtain ⟨g18, u⟩ := x18; simp only at hs4; simp only [FromInv] at h18
  have hu5 : -1 ≤ u ∧ u < (cs.length : Int) := by
    refine ⟨h18.1, ?_⟩
    by_cases h1 : (-1 : Int) < (cs.length : Int) - 1
    · have := h18.2.1 h1; omega
    have := h18.2.2 (by omega); omega
  refine E3 (hp' := [dice g A c nums s4, trB g7 cA cs.length cC none 0 0, trB g6 none 0 0 none 0 0]) (cs.length + 1) (rows (cs ++ [(((sortN names cs.length), u) : Cl)])) dQ rfl rfl rfl hG (show List.Perm (dice g A c nums s4 :: og ++ [trB g7 cA cs.length cC none 0 0, trB g6 none 0 0 none 0 0]) (og ++ [dice g A c nums s4, trB g7 cA cs.length cC none 0 0, trB g6 none 0 0 none 0 0]) from (B1 fun p => by simp only [List.countP_append, List.countP_cons, List.countP_nil]; omega)) (Src.row (news := rows [(((sortN names cs.length), u) : Cl)]) (m := 1) mB rfl (E8 _) (by decide)) rfl (A1 _ _).symm (by unfold maxLen; omega) (by omega) fun A4 c4 og4 hG4 => ?_
  first | refine a6 ⟨_, 0, none⟩ rfl rfl i9 rfl ?_ | refine a6 _ rfl rfl i9 rfl ?_
  refine C8 (hp' := og4 ++ [dice g A c nums s4, trB g6 none 0 0 none 0 0]) rfl rfl (show List.Perm (og4 ++ [dice g A c nums s4, trB g7 cA cs.length cC none 0 0, trB g6 none 0 0 none 0 0]) (trB g7 cA cs.length cC none 0 0 :: (og4 ++ [dice g A c nums s4, trB g6 none 0 0 none 0 0])) from (B1 fun p => by simp only [List.countP_append, List.countP_cons, List.countP_nil]; omega)) dO (by rfl) (by rfl) ?_; refine b5 (w6 (i1 (c9 (b6 rfl ?_)))); refine P9 (r : Int) rfl rfl rfl (by omega) q6 ?_; refine c5 rfl (b5 ?_); have hl1 : (cs ++ [(((sortN names cs.length), u) : Cl)]).length = cs.length + 1 := by simp
  refine Q5 (show List.Perm (trB g7 A4 (cs.length + 1) c4 none 0 0 :: (og4 ++ [dice g A c nums s4, trB g6 none 0 0 none 0 0])) (dice g A c nums s4 :: trB g7 A4 (cs.length + 1) c4 none 0 0 :: trB g6 none 0 0 none 0 0 :: og4) from (B1 fun p => by simp only [List.countP_append, List.countP_cons, List.countP_nil]; omega)) ?_; exact again _ (r, cs ++ [(((sortN names cs.length), u) : Cl)], (A4, c4), og4, s4) ⟨by show (cs ++ [_]).length + r = zn; rw [hl1]; omega, hC.snoc hu5.1 hu5.2, by show Grow _ _ _ (cs ++ [_]).length _ _ _; rw [hl1]; exact hG4, hs4⟩ (by show r < r + 1; omega) mC (by show List.Sublist (_ :: trB g7 A4 (cs ++ [_]).length c4 none 0 0 :: _) _; rw [hl1]; exact List.Sublist.refl _) mC
 have hb1' := hb1; try simp at hb1'
 have hr0 : r = 0 := by omega
 subst hr0; refine t7 (C7 (t8 (i1 (d6 ?_)))); refine pq5 (og ++ [dice g A c nums s, trB g7 cA cs.length cC none 0 0, trB g6 none 0 0 none 0 0]) (by intro p; simp only [List.countP_append, List.countP_cons, List.countP_nil]; omega) ?_; have hCle := hG.le; have hC1 := hC; refine Z7 hG ?_; clear hG; refine c9 (b6 rfl ?_); refine j4 mJ rfl rfl (lL) t4 tK fun gk _ => k6 rfl j9 rfl ?_; refine b6 rfl (b6 rfl ?_); refine j4 P5 rfl rfl (P3 (m2 : Int) hn hs (by omega)) t4 mC fun x hx => ?_; obtain ⟨s5, z5⟩ := x; obtain ⟨hs5, hz5⟩ := hx; simp only at hs5; simp only [ToInv] at hz5; obtain ⟨zm, rfl⟩ := Int.eq_ofNat_of_zero_le hz5.1; have hzm : zm ≤ m2 := by by_cases h1 : (1 : Int) ≤ m2; have := hz5.2.1 h1; omega; have := hz5.2.2 (by omega); omega
 refine j4 bq3 rfl rfl (ax9 16 zm hn hs5 ⟨by decide, by omega⟩) t4 mC fun x hx => ?_; obtain ⟨s6, wo⟩ := x; obtain ⟨hs6, hwo⟩ := hx; simp only at hs6; obtain ⟨words, wA, wC⟩ := wo; obtain ⟨⟨hwp, hwi⟩, hwl, hwc⟩ := hwo; simp only at hwp hwi hwl hwc; refine c5 rfl (t6 (b6 rfl ?_)); refine k6 rfl A8 rfl ?_; refine c5 rfl (c8 (d6 (i4 (c5 rfl (c8 (j5 ?_)))))); have hcs1 : 1 ≤ cs.length := by omega
 have hcs6 : cs.length ≤ 6 := by omega
 have hwl6 : words.length ≤ 6 := by omega
 refine dY (Fs := ([] : List Hd).map Hd.row) (by intro F hF; simp at hF) ?_; refine u6 (β := Nat × List Hd × OutC × Hp × (Int × Int)) ⟨fun x => x.1 ≤ words.length ∧ x.2.1.length = x.1 ∧ HsMade words cs.length words.length x.2.1 ∧ Grow G0 4 x.2.2.1.1 x.2.1.length x.2.2.1.2 (rows x.2.1) x.2.2.2.1 ∧ DOK nums x.2.2.2.2, fun x => [(0, .pointer (d9 g)), (6, .pointer (d9 g6)), (7, .pointer (d9 g7)), (10, .slice wA words.length wC), (11, int words.length), (12, int x.1)], fun x => dice g A c nums x.2.2.2.2 :: trB g7 cA cs.length cC x.2.2.1.1 x.2.1.length x.2.2.1.2 :: trB g6 none 0 0 none 0 0 :: x.2.2.2.1, fun x => [Row wA (rows words), Row cA (rows cs), Row A (rows nums), innersF x.2.1 Hd.row]⟩ (fun x => words.length - x.1) (0, [], (none, 0), [], s6) ⟨Nat.zero_le _, rfl, fun i hi => by simp at hi, Grow.nil _ _, hs6⟩ mC (List.Sublist.refl _) mC fun x hx => ?_; clear hs hs5 hs6 hz5; obtain ⟨i, hs, ⟨hA, hC⟩, og, s⟩ := x; obtain ⟨hi, hhl, hH, hG, hD⟩ := hx; simp only at hi hhl hH hG hD; refine d6 (i4 (b6 rfl (b6 rfl (B5 rfl rfl rfl (c8 ?_)))))
 first | refine k9 rfl (fun hb2 => ?_) (fun hb2 => ?_) | refine j0 rfl (fun hb2 => ?_) (fun hb2 => ?_)
 ·have hb2' := hb2; try simp at hb2'
  have hi2 : i < words.length := by omega
  have hwi2 := hwi _ (w8 hi2); obtain ⟨wm, hwm⟩ := Int.eq_ofNat_of_zero_le hwi2.1; have hwm16 : wm < 16 := by omega
  have hcn : callingsL.getD wm default = callN words i := by unfold callN; rw [hwm, Int.toNat_natCast]
  refine i8 (i1 (d6 (j5 (d6 ?_)))); refine H3 ([dice g A c nums s]) (trB g7 cA cs.length cC hA hs.length hC :: trB g6 none 0 0 none 0 0 :: og) t4 15 [12] mixed (by decide) (by decide) (by decide) rfl rfl rfl ?_; refine V9 ⟨Nat, fun _ => True, fun g => .slice (d9 g) 16 16, fun g => [Row (d9 g) (rows callingsL)]⟩ rfl rfl rfl ?_ ?_
  ·intro w1; refine j4 mJ rfl rfl (lL) t4 tK fun gk2 _ => b5 ?_; exact K5 gk2 tK rfl ⟨m0, tK⟩
  refine r7 rfl (r7 rfl (k8 (fun w1 => m7 (α := Int) words i rfl A8 E1 rfl rfl rfl (List.mem_append_right _ mB) rfl hi2 (by decide) (q_z rfl)) (k8 (fun w1 => a7 (v := int (words.getD i default)) rfl a8 rfl (b7 (List.mem_append_right _ mB) (b4 hi2 rfl)) (q_z rfl)) ?_))); refine V9 ⟨Nat, fun _ => True, fun g => .pointer (some ((adr (d9 g)).add (wm * 1))), fun g => [Row (d9 g) (rows callingsL)]⟩ rfl rfl rfl ?_ ?_
  ·intro g0 _; intro w1; refine m7 (α := Str) callingsL wm rfl j9 j6 rfl rfl hwm mB rfl hwm16 (by decide) (b5 ?_); exact K5 g0 tK rfl mC
  apply k7 _ rfl rfl rfl
  ·intro g5 _; intro w1; refine a7 (v := str (callN words i)) rfl a9 rfl (b7 mB (by rw [← hcn]; exact b4 (show wm < 16 from hwm16) rfl)) ?_; refine b5 ?_; exact i5 rfl
  refine r7 rfl ?_
  apply k7 _ rfl rfl rfl
  ·intro w1
   first | refine a6 ⟨_, 0, none⟩ rfl rfl i9 rfl ?_ | refine a6 _ rfl rfl i9 rfl ?_
   refine b5 ?_; exact i5 rfl
  apply k7 _ rfl rfl rfl
  ·intro w1
   first | refine a7 rfl b3 rfl (d8 mB rfl) ?_ | refine a7 rfl b3 rfl (i2 mB rfl) ?_ | refine a7 rfl b3 rfl (b7 mB (b4 (by omega) rfl)) ?_ | refine a7 rfl b3 rfl (b8 mB (rows_get (by omega) rfl)) ?_ | refine a7 rfl b3 rfl (d7 mB rfl) ?_
   refine b5 ?_; exact i5 rfl
  refine k8 (fun w1 => k6 rfl n6 rfl (q_z rfl)) (k8 (fun w1 => P9 ((cs.length : Int) - 1) rfl rfl rfl rfl q6 (q_z rfl)) ?_); refine nE ⟨(Int × Int) × Int, fun x => DOK nums x.1 ∧ ToInv ((cs.length : Int) - 1) x.2, fun x => int x.2, fun _ => [], fun x => [dice g A c nums x.1]⟩ rfl rfl rfl ?_ ?_
  ·intro w1; refine j4 P5 rfl rfl (P3 ((cs.length : Int) - 1) hn hD (by omega)) t4 mC fun x hx => ?_; obtain ⟨s7, z7⟩ := x; obtain ⟨hs7, hz7⟩ := hx; simp only at hs7; refine b5 ?_; exact H4 (s7, z7) ⟨hs7, hz7⟩ (fun _ => rfl) (List.sublist_append_left _ _) tK
  refine V9 ⟨Int, fun z => ToInv ((cs.length : Int) - 1) z, fun z => .agg #[str (callN words i), int z, int (-1), .slice none 0 0], fun _ => []⟩ rfl rfl rfl ?_ ?_
  ·intro x hx; intro w1; refine u0 _ rfl rfl (fun _ => Z2 ..) (b5 ?_); exact K5 x.2 hx.2 rfl tK
  refine jj4 ⟨Nat, fun _ => True, fun g => .pointer (d9 g), fun _ => [], fun g => [hdB g [] 0 0 none 0 0]⟩ rfl rfl rfl ?_ ?_
  ·intro w1; refine u4 rfl (fun _ => G9 _) fun g13 => b5 ?_; exact H4 g13 tK (fun _ => rfl) (List.Sublist.refl _) tK
  refine v7 ⟨rfl, ?_⟩; intro _ _ _ _ x12 h12; refine fun (z : Int) hz => ?_; intro g13 _; obtain ⟨s8, _⟩ := x12; have hs8 : DOK nums s8 := h12.1; clear h12; simp only [ToInv] at hz
  have hz2 : 0 ≤ z ∧ z < (cs.length : Int) := by
    refine ⟨hz.1, ?_⟩
    by_cases h1 : 1 ≤ (cs.length : Int) - 1
    · have := hz.2.1 h1; omega
    have := hz.2.2 (by omega); omega
  refine l6 (cs := #[str (callN words i), int z, int (-1), .slice none 0 0]) rfl rfl (.refl _) l7 (by rfl) (by rfl) ?_; refine c8 (d6 ?_); refine I0 ⟨fun x : (Int × Int) × Bool => DOK nums x.1 ∧ (x.2 = true → 1 < words.length), fun x => [(0, .pointer (d9 g)), (6, .pointer (d9 g6)), (7, .pointer (d9 g7)), (10, .slice wA words.length wC), (11, int words.length), (12, int i), (13, .pointer (d9 g13)), (80, .bool x.2)], fun x => dice g A c nums x.1 :: hdB g13 (callN words i) z (-1) none 0 0 :: trB g7 cA cs.length cC hA hs.length hC :: trB g6 none 0 0 none 0 0 :: og, fun _ => [Row wA (rows words), Row cA (rows cs), Row A (rows nums), innersF hs Hd.row]⟩ ?_ ?_
  ·skip
   refine c9 (b6 rfl (Q0 rfl rfl rfl (b6 rfl ?_))); refine v6 rfl rfl ?_ ?_
   ·intro hg1; have hg1' := hg1; try simp at hg1'
    refine k5 hg1 (b6 rfl (k5 hg1 ?_)); refine j4 bN rfl rfl (aY 3 hn hs8 (by omega)) (List.Perm.swap _ _ _) mC fun x hx => ?_; obtain ⟨s9, b9⟩ := x; obtain ⟨hs9, hb9⟩ := hx; simp only at hs9; refine p_t rfl rfl (bt1 hg1) rfl (b5 ?_); exact D5 _ (s9, b9) ⟨hs9, fun _ => by simp at hg1; omega⟩ mC (List.Sublist.refl _) mC
   intro hg1; have hg1' := hg1; try simp at hg1'
   refine l8 hg1 (l8 hg1 ?_); refine p_f rfl rfl (bf2 hg1) rfl (b5 (Q5 (List.Perm.swap _ _ _) ?_)); exact D5 _ (s8, false) ⟨hs8, fun h => by cases h⟩ mC (List.Sublist.refl _) mC
  intro x hx; obtain ⟨s9, b9⟩ := x; obtain ⟨hs9, hb9⟩ := hx; simp only at hs9 hb9
  first | refine k9 rfl (fun hb3 => ?_) (fun hb3 => ?_) | refine j0 rfl (fun hb3 => ?_) (fun hb3 => ?_)
  ·have hb3' := hb3; try simp at hb3'
   have h1w : 1 < words.length := hb9 hb3; refine d6 (H3 ([dice g A c nums s9, hdB g13 (callN words i) z (-1) none 0 0]) (trB g7 cA cs.length cC hA hs.length hC :: trB g6 none 0 0 none 0 0 :: og) t4 11 [10, 5] mixed (by decide) (by decide) (by decide) rfl rfl rfl (r7 rfl (k8 (fun w1 => t5 _ rfl rfl rfl rfl q6 (q_z rfl)) (r7 rfl (r7 rfl (k8 (fun w1 => P9 ((words.length : Int) - 2) rfl rfl rfl rfl q6 (q_z rfl)) ?_)))))); refine nE ⟨(Int × Int) × Int, fun x => DOK nums x.1 ∧ ToInv ((words.length : Int) - 2) x.2, fun x => int x.2, fun _ => [], fun x => [dice g A c nums x.1, hdB g13 (callN words i) z (-1) none 0 0]⟩ rfl rfl rfl ?_ ?_
   ·intro w1; refine j4 P5 rfl rfl (P3 ((words.length : Int) - 2) hn hs9 (by omega)) t4 mC fun x hx => ?_; obtain ⟨s10, v10⟩ := x; obtain ⟨hs10, hv10⟩ := hx; simp only at hs10; refine b5 ?_; exact H4 (s10, v10) ⟨hs10, hv10⟩ (fun _ => rfl) (List.Sublist.refl _) tK
   refine V9 ⟨Int, fun v => ToInv ((words.length : Int) - 2) v, fun v => int ((i : Int) + 1 + v), fun _ => []⟩ rfl rfl rfl ?_ ?_
   ·intro x hx; intro w1; refine t5 ((i : Int) + 1 + x.2) rfl rfl rfl rfl (by have h1 := hx.2; simp only [ToInv] at h1; have h2 : x.2 ≤ 6 := (by by_cases h3 : 1 ≤ (words.length : Int) - 2; have := h1.2.1 h3; omega; have := h1.2.2 (by omega); omega); unfold I64; omega) ?_; refine b5 ?_; exact K5 x.2 hx.2 rfl tK
   refine r7 rfl ?_; refine V9 ⟨Int, fun v => ToInv ((words.length : Int) - 2) v, fun v => int (((i : Int) + 1 + v).tmod words.length), fun _ => []⟩ rfl rfl rfl ?_ ?_
   ·intro v hv; intro w1; refine nq5 rfl rfl rfl (by omega) (b5 ?_); exact K5 v hv rfl tK
   apply k7 _ rfl rfl rfl
   ·intro w1
    first | refine a6 ⟨_, 1, none⟩ rfl rfl p7 rfl ?_ | refine a6 _ rfl rfl p7 rfl ?_
    refine b5 ?_; exact i5 rfl
   refine nF ⟨Int × Int, fun s => DOK nums s, fun _ => undef, fun _ => [], fun s => [hdB g13 (callN words i) (-1) (-1) none 0 0, dice g A c nums s]⟩ rfl rfl ?_ ?_
   ·intro x hx; intro w1; refine C8 rfl rfl (.swap _ _ _) E1 (by rfl) (by rfl) (b5 ?_); exact H4 x.1 hx.1 (fun h => by cases h) (List.Sublist.refl _) tK
   refine v7 ⟨rfl, ?_⟩; intro _ _ _ _; refine fun (v : Int) hv => ?_; intro s11 hs11; have hs11 : DOK nums s11 := hs11; simp only [ToInv] at hv
   have hv2 : 0 ≤ v ∧ v ≤ (words.length : Int) - 2 := by
     refine ⟨hv.1, ?_⟩
     by_cases h1 : 1 ≤ (words.length : Int) - 2
     · exact hv.2.1 h1
     have := hv.2.2 (by omega); omega
   have hps := past hi2 hv2.1 hv2.2
   first | refine a6 ⟨_, 2, none⟩ rfl rfl p6 rfl ?_ | refine a6 _ rfl rfl p6 rfl ?_
   refine C8 rfl rfl (.refl _) E1 (by rfl) (by rfl) (t6 ?_)
   first | refine a6 ⟨_, 1, none⟩ rfl rfl i3 rfl ?_ | refine a6 _ rfl rfl i3 rfl ?_
   first | refine a7 rfl b2 rfl (i2 mB rfl) ?_ | refine a7 rfl b2 rfl (d8 mB rfl) ?_ | refine a7 rfl b2 rfl (b7 mB (b4 (by omega) rfl)) ?_ | refine a7 rfl b2 rfl (b8 mB (rows_get (by omega) rfl)) ?_ | refine a7 rfl b2 rfl (d7 mB rfl) ?_
   first | refine G3 rfl C1 l7 rfl mB (by rfl) ?_ | refine I3 rfl C1 l7 rfl mB (by rfl) ?_ | refine z8 rfl C1 l7 rfl rfl (v9 mB (B3 (by omega))) ?_
   refine n7 _ rfl rfl (fun _ => W3 ..) fun gS => D2 (rows [(((callN words i), -1, (((i : Int) + 1 + v).tmod words.length), ⟨none, 0, []⟩) : Hd)]) (List.prefix_refl _) (mq5 (α := Int) ?_); refine E3 (hp' := [hdB g13 (callN words i) (-1) (((i : Int) + 1 + v).tmod words.length) none 0 0, dice g A c nums s11, trB g7 cA cs.length cC hA hs.length hC, trB g6 none 0 0 none 0 0]) (hs.length + 1) (rows (hs ++ [(((callN words i), -1, (((i : Int) + 1 + v).tmod words.length), ⟨none, 0, []⟩) : Hd)])) Q8 rfl rfl rfl hG (show List.Perm (hdB g13 (callN words i) (-1) (((i : Int) + 1 + v).tmod words.length) none 0 0 :: dice g A c nums s11 :: trB g7 cA cs.length cC hA hs.length hC :: trB g6 none 0 0 none 0 0 :: og) (og ++ [hdB g13 (callN words i) (-1) (((i : Int) + 1 + v).tmod words.length) none 0 0, dice g A c nums s11, trB g7 cA cs.length cC hA hs.length hC, trB g6 none 0 0 none 0 0]) from (B1 fun p => by simp only [List.countP_append, List.countP_cons, List.countP_nil]; omega)) (Src.row (news := rows [(((callN words i), -1, (((i : Int) + 1 + v).tmod words.length), ⟨none, 0, []⟩) : Hd)]) (m := 1) mB rfl (E8 _) (by decide)) rfl (A1 _ _).symm (by unfold maxLen; omega) (by omega) fun A' c' og' hG' => ?_
   first | refine a6 ⟨_, 1, none⟩ rfl rfl i3 rfl ?_ | refine a6 _ rfl rfl i3 rfl ?_
   refine C8 (hp' := og' ++ [hdB g13 (callN words i) (-1) (((i : Int) + 1 + v).tmod words.length) none 0 0, dice g A c nums s11, trB g6 none 0 0 none 0 0]) rfl rfl (show List.Perm (og' ++ [hdB g13 (callN words i) (-1) (((i : Int) + 1 + v).tmod words.length) none 0 0, dice g A c nums s11, trB g7 cA cs.length cC hA hs.length hC, trB g6 none 0 0 none 0 0]) (trB g7 cA cs.length cC hA hs.length hC :: (og' ++ [hdB g13 (callN words i) (-1) (((i : Int) + 1 + v).tmod words.length) none 0 0, dice g A c nums s11, trB g6 none 0 0 none 0 0])) from (B1 fun p => by simp only [List.countP_append, List.countP_cons, List.countP_nil]; omega)) V0 (by rfl) (by rfl) ?_; refine jN (V8 (ps := hs) (f := Hd.row) (p := (((callN words i), -1, (((i : Int) + 1 + v).tmod words.length), ⟨none, 0, []⟩) : Hd)) mC mC) ?_; refine c8 (t7 (aO (t8 (i1 (c9 (b6 rfl ?_)))))); refine t5 _ rfl rfl rfl rfl q6 ?_; refine c5 rfl (b5 ?_); have hl1 : (hs ++ [(((callN words i), -1, (((i : Int) + 1 + v).tmod words.length), ⟨none, 0, []⟩) : Hd)]).length = hs.length + 1 := by simp
   refine Q5 (show List.Perm (trB g7 cA cs.length cC A' (hs.length + 1) c' :: (og' ++ [hdB g13 (callN words i) (-1) (((i : Int) + 1 + v).tmod words.length) none 0 0, dice g A c nums s11, trB g6 none 0 0 none 0 0])) (hdB g13 (callN words i) (-1) (((i : Int) + 1 + v).tmod words.length) none 0 0 :: dice g A c nums s11 :: trB g7 cA cs.length cC A' (hs.length + 1) c' :: trB g6 none 0 0 none 0 0 :: og') from (B1 fun p => by simp only [List.countP_append, List.countP_cons, List.countP_nil]; omega)) ?_; exact again _ (i + 1, hs ++ [(((callN words i), -1, (((i : Int) + 1 + v).tmod words.length), ⟨none, 0, []⟩) : Hd)], (A', c'), og', s11) ⟨by show i + 1 ≤ words.length; omega, by show (hs ++ [_]).length = i + 1; rw [hl1]; omega, hH.snoc (by rw [hhl]) (by rw [hhl]; exact ⟨fun k hk => by simp at hk, .inl ⟨hps.1, hps.2.1, hps.2.2, rfl, rfl⟩⟩), by show Grow _ _ _ (hs ++ [_]).length _ _ _; rw [hl1]; exact hG', by assumption⟩ (y8 (by omega)) mC (by show List.Sublist (_ :: trB g7 _ _ _ _ (hs ++ [_]).length _ :: _) _; rw [hl1]; exact List.sublist_cons_self _ _) mC
  have hb3' := hb3; try simp at hb3'
  refine i8 (i1 (d6 (i4 (c5 rfl (c8 (j5 ?_)))))); refine u6 (β := Nat × List Int × OutC × Hp × (Int × Int)) ⟨fun x => x.1 ≤ words.length ∧ AscB i x.1 x.2.1 ∧ Grow aU 1 x.2.2.1.1 x.2.1.length x.2.2.1.2 (rows x.2.1) x.2.2.2.1 ∧ DOK nums x.2.2.2.2, fun x => [(0, .pointer (d9 g)), (6, .pointer (d9 g6)), (7, .pointer (d9 g7)), (10, .slice wA words.length wC), (11, int words.length), (12, int i), (13, .pointer (d9 g13)), (14, int x.1)], fun x => dice g A c nums x.2.2.2.2 :: hdB g13 (callN words i) z (-1) x.2.2.1.1 x.2.1.length x.2.2.1.2 :: trB g7 cA cs.length cC hA hs.length hC :: trB g6 none 0 0 none 0 0 :: (x.2.2.2.1 ++ og), fun _ => [Row wA (rows words), Row cA (rows cs), Row A (rows nums), innersF hs Hd.row]⟩ (fun x => words.length - x.1) (0, [], (none, 0), [], s9) ⟨Nat.zero_le _, ⟨List.Pairwise.nil, fun x hx => by cases hx⟩, Grow.nil _ _, hs9⟩ mC (List.Sublist.refl _) mC fun x hx => ?_; clear hs9; obtain ⟨k, al, ⟨aA, aC⟩, og3, s9⟩ := x; obtain ⟨hk, hB, hG3, hs9⟩ := hx; simp only at hk hB hG3 hs9; refine d6 (i4 (b6 rfl (b6 rfl (B5 rfl rfl rfl (c8 ?_)))))
  first | refine k9 rfl (fun hb4 => ?_) (fun hb4 => ?_) | refine j0 rfl (fun hb4 => ?_) (fun hb4 => ?_)
  ·have hb4' := hb4; try simp at hb4'
   have hk2 : k < words.length := by omega
   have hal := hB.len; refine i8 (i1 (d6 (j5 ?_))); refine I0 ⟨fun x : (Int × Int) × Bool => DOK nums x.1 ∧ (x.2 = true → ¬ k = i), fun x => [(0, .pointer (d9 g)), (6, .pointer (d9 g6)), (7, .pointer (d9 g7)), (10, .slice wA words.length wC), (11, int words.length), (12, int i), (13, .pointer (d9 g13)), (14, int k), (109, .bool x.2)], fun x => dice g A c nums x.1 :: hdB g13 (callN words i) z (-1) aA al.length aC :: trB g7 cA cs.length cC hA hs.length hC :: trB g6 none 0 0 none 0 0 :: (og3 ++ og), fun _ => [Row wA (rows words), Row cA (rows cs), Row A (rows nums), innersF hs Hd.row]⟩ ?_ ?_
   ·skip
    refine c9 (b6 rfl (b6 rfl (M8 rfl rfl rfl (b6 rfl ?_)))); refine v6 rfl rfl ?_ ?_
    ·intro hg2; have hg2' := hg2; try simp at hg2'
     refine k5 hg2 (b6 rfl (k5 hg2 ?_)); refine j4 bN rfl rfl (aY 4 hn hs9 (by omega)) t4 mC fun x hx => ?_; obtain ⟨s12, b12⟩ := x; obtain ⟨hs12, hb12⟩ := hx; simp only at hs12; refine p_t rfl rfl (bt1 hg2) rfl (b5 ?_); exact D5 _ (s12, b12) ⟨hs12, fun _ => by simp at hg2; omega⟩ mC (List.Sublist.refl _) mC
    intro hg2; have hg2' := hg2; try simp at hg2'
    refine l8 hg2 (l8 hg2 ?_); refine p_f rfl rfl (bf2 hg2) rfl (b5 ?_); exact D5 _ (s9, false) ⟨hs9, fun h => by cases h⟩ mC (List.Sublist.refl _) mC
   intro x hx; obtain ⟨s13, b13⟩ := x; obtain ⟨hs13, hb13⟩ := hx; simp only at hs13 hb13
   first | refine k9 rfl (fun hb5 => ?_) (fun hb5 => ?_) | refine j0 rfl (fun hb5 => ?_) (fun hb5 => ?_)
   ·have hb5' := hb5; try simp at hb5'
    refine c9 ?_
    first | refine a6 ⟨_, 3, none⟩ rfl rfl l5 rfl ?_ | refine a6 _ rfl rfl l5 rfl ?_
    first | refine a7 rfl k4 rfl (i2 mB rfl) ?_ | refine a7 rfl k4 rfl (d8 mB rfl) ?_ | refine a7 rfl k4 rfl (b7 mB (b4 (by omega) rfl)) ?_ | refine a7 rfl k4 rfl (b8 mB (rows_get (by omega) rfl)) ?_ | refine a7 rfl k4 rfl (d7 mB rfl) ?_
    refine b6 rfl (n7 _ rfl rfl (fun _ => J5 ..) fun gS => D2 (rows [(k : Int)]) (List.prefix_refl _) ?_); refine E3 (hp' := dice g A c nums s13 :: hdB g13 (callN words i) z (-1) aA al.length aC :: trB g7 cA cs.length cC hA hs.length hC :: trB g6 none 0 0 none 0 0 :: og) (al.length + 1) (rows (al ++ [(k : Int)])) cK rfl rfl rfl hG3 (show List.Perm (dice g A c nums s13 :: hdB g13 (callN words i) z (-1) aA al.length aC :: trB g7 cA cs.length cC hA hs.length hC :: trB g6 none 0 0 none 0 0 :: (og3 ++ og)) (og3 ++ (dice g A c nums s13 :: hdB g13 (callN words i) z (-1) aA al.length aC :: trB g7 cA cs.length cC hA hs.length hC :: trB g6 none 0 0 none 0 0 :: og)) from (B1 fun p => by simp only [List.countP_append, List.countP_cons, List.countP_nil]; omega)) (Src.row (news := rows [(k : Int)]) (m := 1) m0 rfl (E8 _) (by decide)) rfl (A1 _ _).symm (by unfold maxLen; omega) (by omega) fun A' c' og' hG' => ?_
    first | refine a6 ⟨_, 3, none⟩ rfl rfl l5 rfl ?_ | refine a6 _ rfl rfl l5 rfl ?_
    refine C8 (hp' := og' ++ (dice g A c nums s13 :: trB g7 cA cs.length cC hA hs.length hC :: trB g6 none 0 0 none 0 0 :: og)) rfl rfl (show List.Perm (og' ++ (dice g A c nums s13 :: hdB g13 (callN words i) z (-1) aA al.length aC :: trB g7 cA cs.length cC hA hs.length hC :: trB g6 none 0 0 none 0 0 :: og)) (hdB g13 (callN words i) z (-1) aA al.length aC :: (og' ++ (dice g A c nums s13 :: trB g7 cA cs.length cC hA hs.length hC :: trB g6 none 0 0 none 0 0 :: og))) from (B1 fun p => by simp only [List.countP_append, List.countP_cons, List.countP_nil]; omega)) qT (by rfl) (by rfl) ?_; refine b5 (w6 (i1 (c9 (b6 rfl ?_)))); refine t5 _ rfl rfl rfl rfl q6 ?_; refine c5 rfl (b5 ?_); have hl1 : (al ++ [(k : Int)]).length = al.length + 1 := by simp
    refine Q5 (show List.Perm (hdB g13 (callN words i) z (-1) A' (al.length + 1) c' :: (og' ++ (dice g A c nums s13 :: trB g7 cA cs.length cC hA hs.length hC :: trB g6 none 0 0 none 0 0 :: og))) (dice g A c nums s13 :: hdB g13 (callN words i) z (-1) A' (al.length + 1) c' :: trB g7 cA cs.length cC hA hs.length hC :: trB g6 none 0 0 none 0 0 :: (og' ++ og)) from (B1 fun p => by simp only [List.countP_append, List.countP_cons, List.countP_nil]; omega)) ?_; exact again _ (k + 1, al ++ [(k : Int)], (A', c'), og', s13) ⟨by show k + 1 ≤ words.length; omega, hB.snoc (hb13 hb5), by show Grow _ _ _ (al ++ [_]).length _ _ _; rw [hl1]; exact hG', hs13⟩ (y8 (by omega)) mC (by show List.Sublist (_ :: hdB g13 _ _ _ _ (al ++ [_]).length _ :: _) _; rw [hl1]; exact List.Sublist.refl _) mC
   have hb5' := hb5; try simp at hb5'
   refine i8 (w6 (i1 (c9 (b6 rfl ?_)))); refine t5 _ rfl rfl rfl rfl q6 ?_; refine c5 rfl (b5 ?_); exact again _ (k + 1, al, (aA, aC), og3, s13) ⟨by show k + 1 ≤ words.length; omega, hB.step, hG3, hs13⟩ (y8 (by omega)) mC (List.Sublist.refl _) mC
  have hb4' := hb4; try simp at hb4'
  have hk2 : k = words.length := by omega
  subst hk2; have hal := hB.len; refine t7 (C7 (t8 (i1 ?_))); refine I0 ⟨fun x : (Int × Int) × Int => DOK nums x.1 ∧ ((0 ≤ x.2 ∧ x.2 < (cs.length : Int)) ∨ (x.2 = -1 ∧ al ≠ [])), fun x => [(0, .pointer (d9 g)), (6, .pointer (d9 g6)), (7, .pointer (d9 g7)), (10, .slice wA words.length wC), (11, int words.length), (12, int i), (13, .pointer (d9 g13))], fun x => dice g A c nums x.1 :: hdB g13 (callN words i) x.2 (-1) aA al.length aC :: trB g7 cA cs.length cC hA hs.length hC :: trB g6 none 0 0 none 0 0 :: (og3 ++ og), fun _ => [Row wA (rows words), Row cA (rows cs), Row A (rows nums), innersF hs Hd.row]⟩ ?_ ?_
  ·skip
   refine I0 ⟨fun x : (Int × Int) × Bool => DOK nums x.1 ∧ (x.2 = true → al ≠ []), fun x => [(0, .pointer (d9 g)), (6, .pointer (d9 g6)), (7, .pointer (d9 g7)), (10, .slice wA words.length wC), (11, int words.length), (12, int i), (13, .pointer (d9 g13)), (123, .bool x.2)], fun x => dice g A c nums x.1 :: hdB g13 (callN words i) z (-1) aA al.length aC :: trB g7 cA cs.length cC hA hs.length hC :: trB g6 none 0 0 none 0 0 :: (og3 ++ og), fun _ => [Row wA (rows words), Row cA (rows cs), Row A (rows nums), innersF hs Hd.row]⟩ ?_ ?_
   ·skip
    refine c9 ?_
    first | refine a6 ⟨_, 3, none⟩ rfl rfl l5 rfl ?_ | refine a6 _ rfl rfl l5 rfl ?_
    first | refine a7 rfl k4 rfl (i2 mB rfl) ?_ | refine a7 rfl k4 rfl (d8 mB rfl) ?_ | refine a7 rfl k4 rfl (b7 mB (b4 (by omega) rfl)) ?_ | refine a7 rfl k4 rfl (b8 mB (rows_get (by omega) rfl)) ?_ | refine a7 rfl k4 rfl (d7 mB rfl) ?_
    refine k6 rfl A8 rfl ?_; refine Q0 rfl rfl rfl (b6 rfl ?_); refine v6 rfl rfl ?_ ?_
    ·intro hg3; have hg3' := hg3; try simp at hg3'
     refine k5 hg3 (b6 rfl (k5 hg3 ?_)); refine j4 bN rfl rfl (aY 4 hn hs9 (by omega)) t4 mC fun x hx => ?_; obtain ⟨s14, b14⟩ := x; obtain ⟨hs14, hb14⟩ := hx; simp only at hs14; refine p_t rfl rfl (bt1 hg3) rfl (b5 ?_); exact D5 _ (s14, b14) ⟨hs14, fun _ e => by subst e; simp at hg3⟩ mC (List.Sublist.refl _) mC
    intro hg3; have hg3' := hg3; try simp at hg3'
    refine l8 hg3 (l8 hg3 ?_); refine p_f rfl rfl (bf2 hg3) rfl (b5 ?_); exact D5 _ (s9, false) ⟨hs9, fun h => by cases h⟩ mC (List.Sublist.refl _) mC
   intro x hx; obtain ⟨s15, b15⟩ := x; obtain ⟨hs15, hb15⟩ := hx; simp only at hs15 hb15
   first | refine k9 rfl (fun hb6 => ?_) (fun hb6 => ?_) | refine j0 rfl (fun hb6 => ?_) (fun hb6 => ?_)
   ·have hb6' := hb6; try simp at hb6'
    refine c9 ?_
    first | refine a6 ⟨_, 1, none⟩ rfl rfl p7 rfl ?_ | refine a6 _ rfl rfl p7 rfl ?_
    refine C8 rfl rfl (.swap _ _ _) E1 (by rfl) (by rfl) (b5 (Q5 (List.Perm.swap _ _ _) ?_)); exact D5 _ (s15, -1) ⟨hs15, .inr ⟨rfl, hb15 hb6⟩⟩ mC (List.Sublist.refl _) mC
   have hb6' := hb6; try simp at hb6'
   refine i8 ?_; exact D5 _ (s15, z) ⟨hs15, .inl hz2⟩ mC (List.Sublist.refl _) mC
  intro x hx; obtain ⟨s16, cl⟩ := x; obtain ⟨hs16, hcl⟩ := hx; simp only at hs16 hcl; refine Y6 (show List.Perm (dice g A c nums s16 :: hdB g13 (callN words i) cl (-1) aA al.length aC :: trB g7 cA cs.length cC hA hs.length hC :: trB g6 none 0 0 none 0 0 :: (og3 ++ og)) (og3 ++ (hdB g13 (callN words i) cl (-1) aA al.length aC :: dice g A c nums s16 :: trB g7 cA cs.length cC hA hs.length hC :: trB g6 none 0 0 none 0 0 :: og)) from (B1 fun p => by simp only [List.countP_append, List.countP_cons, List.countP_nil]; omega)) ?_; refine Z7 hG3 (c9 ?_)
  first | refine a6 ⟨_, 1, none⟩ rfl rfl i3 rfl ?_ | refine a6 _ rfl rfl i3 rfl ?_
  first | refine a7 rfl b2 rfl (i2 mB rfl) ?_ | refine a7 rfl b2 rfl (d8 mB rfl) ?_ | refine a7 rfl b2 rfl (b7 mB (b4 (by omega) rfl)) ?_ | refine a7 rfl b2 rfl (b8 mB (rows_get (by omega) rfl)) ?_ | refine a7 rfl b2 rfl (d7 mB rfl) ?_
  first | refine G3 rfl C1 l7 rfl mB (by rfl) ?_ | refine I3 rfl C1 l7 rfl mB (by rfl) ?_ | refine z8 rfl C1 l7 rfl rfl (v9 mB (B3 (by omega))) ?_
  refine n7 _ rfl rfl (fun _ => W3 ..) fun gS => D2 (rows [(((callN words i), cl, -1, ⟨aA, aC, al⟩) : Hd)]) (List.prefix_refl _) ?_; refine E3 (hp' := [hdB g13 (callN words i) cl (-1) aA al.length aC, dice g A c nums s16, trB g7 cA cs.length cC hA hs.length hC, trB g6 none 0 0 none 0 0]) (hs.length + 1) (rows (hs ++ [(((callN words i), cl, -1, ⟨aA, aC, al⟩) : Hd)])) Q8 rfl rfl rfl hG (show List.Perm (hdB g13 (callN words i) cl (-1) aA al.length aC :: dice g A c nums s16 :: trB g7 cA cs.length cC hA hs.length hC :: trB g6 none 0 0 none 0 0 :: og) (og ++ [hdB g13 (callN words i) cl (-1) aA al.length aC, dice g A c nums s16, trB g7 cA cs.length cC hA hs.length hC, trB g6 none 0 0 none 0 0]) from (B1 fun p => by simp only [List.countP_append, List.countP_cons, List.countP_nil]; omega)) (Src.row (news := rows [(((callN words i), cl, -1, ⟨aA, aC, al⟩) : Hd)]) (m := 1) m0 rfl (E8 _) (by decide)) rfl (A1 _ _).symm (by unfold maxLen; omega) (by omega) fun A' c' og' hG' => ?_
  first | refine a6 ⟨_, 1, none⟩ rfl rfl i3 rfl ?_ | refine a6 _ rfl rfl i3 rfl ?_
  refine C8 (hp' := og' ++ [hdB g13 (callN words i) cl (-1) aA al.length aC, dice g A c nums s16, trB g6 none 0 0 none 0 0]) rfl rfl (show List.Perm (og' ++ [hdB g13 (callN words i) cl (-1) aA al.length aC, dice g A c nums s16, trB g7 cA cs.length cC hA hs.length hC, trB g6 none 0 0 none 0 0]) (trB g7 cA cs.length cC hA hs.length hC :: (og' ++ [hdB g13 (callN words i) cl (-1) aA al.length aC, dice g A c nums s16, trB g6 none 0 0 none 0 0])) from (B1 fun p => by simp only [List.countP_append, List.countP_cons, List.countP_nil]; omega)) V0 (by rfl) (by rfl) ?_; refine jN (V8 (ps := hs) (f := Hd.row) (p := (((callN words i), cl, -1, ⟨aA, aC, al⟩) : Hd)) mC mC) ?_; refine b5 (w6 (i1 (c9 (b6 rfl ?_)))); refine t5 _ rfl rfl rfl rfl q6 ?_; refine c5 rfl (b5 ?_); have hl1 : (hs ++ [(((callN words i), cl, -1, ⟨aA, aC, al⟩) : Hd)]).length = hs.length + 1 := by simp
  refine Q5 (show List.Perm (trB g7 cA cs.length cC A' (hs.length + 1) c' :: (og' ++ [hdB g13 (callN words i) cl (-1) aA al.length aC, dice g A c nums s16, trB g6 none 0 0 none 0 0])) (hdB g13 (callN words i) cl (-1) aA al.length aC :: dice g A c nums s16 :: trB g7 cA cs.length cC A' (hs.length + 1) c' :: trB g6 none 0 0 none 0 0 :: og') from (B1 fun p => by simp only [List.countP_append, List.countP_cons, List.countP_nil]; omega)) ?_; exact again _ (i + 1, hs ++ [(((callN words i), cl, -1, ⟨aA, aC, al⟩) : Hd)], (A', c'), og', s16) ⟨by show i + 1 ≤ words.length; omega, by show (hs ++ [_]).length = i + 1; rw [hl1]; omega, hH.snoc (by rw [hhl]) (by rw [hhl]; exact ⟨hB.err, hcl.elim (fun h => .inr (.inl ⟨rfl, h.1, h.2⟩)) (fun h => .inr (.inr ⟨rfl, h.1, h.2⟩))⟩), by show Grow _ _ _ (hs ++ [_]).length _ _ _; rw [hl1]; exact hG', by assumption⟩ (y8 (by omega)) mC (by show List.Sublist (_ :: trB g7 _ _ _ _ (hs ++ [_]).length _ :: _) _; rw [hl1]; exact List.sublist_cons_self _ _) mC
 have hb2' := hb2; try simp at hb2'
 have hi2 : i = words.length := by omega
 subst hi2; refine t7 (C7 (t8 (i1 (d6 ?_)))); refine Y6 (show List.Perm (dice g A c nums s :: trB g7 cA cs.length cC hA hs.length hC :: trB g6 none 0 0 none 0 0 :: og) (og ++ [trB g7 cA cs.length cC hA hs.length hC, trB g6 none 0 0 none 0 0, dice g A c nums s]) from (B1 fun p => by simp only [List.countP_append, List.countP_cons, List.countP_nil]; omega)) ?_; have hHle := hG.le; refine Z7 hG (dq0 (A := hA) (ps := hs) (f := Hd.row) mB mB (c9 ?_))
 first | refine G3 rfl i6 c7 rfl mB (by rfl) ?_ | refine I3 rfl i6 c7 rfl mB (by rfl) ?_ | refine z8 rfl i6 c7 rfl rfl (v9 mB (B3 (by omega))) ?_
 refine l6 (cs := #[.slice cA cs.length cC, .slice hA hs.length hC]) rfl rfl (.swap _ _ _) c7 (by rfl) (by rfl) ?_; refine c8 (l4 ?_); refine uV (s, cs, hs, (cA, cC), (hA, hC)) rfl rfl i6 c7 rfl m0 rfl rfl ⟨hD, ⟨made_ok hP hC1 hcs6 hwp hwi hhl hwl6 hH, hcs1, by show cs.length ≤ m1; omega, by show hs.length ≤ m2; omega, hCle, hHle, hs_ha hwl6 hH⟩⟩ (List.Sublist.cons _ (List.Sublist.cons _ (List.Sublist.refl _))) mC
theorem dok0 (nums : List Int) : DOK nums (0, 11400714819323198485) := ⟨by decide, by show (0 : Int) ≤ nums.length; omega, by decide, by decide⟩
end Go.Proofs.YtdgmfagfpbdbhaaGreatDoor
end
