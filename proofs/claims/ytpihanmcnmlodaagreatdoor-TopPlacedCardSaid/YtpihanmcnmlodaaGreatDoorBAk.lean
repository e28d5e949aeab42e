/- Texts. -/

import Derived.Test.YtpihanmcnmlodaaGreatDoorBAj
set_option linter.unusedVariables false
set_option linter.unusedSimpArgs false
section
namespace Go.Proofs.YtpihanmcnmlodaaGreatDoor
open Go Go.W Tryz T F
set_option maxRecDepth 20000
attribute [local irreducible] HL HC HQ HB Row Rows2 Blk Facts
def cmpI (a b : Int) : Int := if a < b then -1 else if b < a then 1 else 0
def orL : List Int → Int
  | [] => 0
  | a :: l => if ¬ a = 0 then a else orL l
def cmpIs : List Int → List Int → Int
  | [], [] => 0
  | [], _ :: _ => -1
  | _ :: _, [] => 1
  | a :: l, b :: l' => if ¬ cmpI a b = 0 then cmpI a b else cmpIs l l'
theorem kL {α : Type} [Inhabited α] {l : List α} {k : Nat} (hk : k < l.length) : l.drop k = l.getD k default :: l.drop (k + 1) := by rw [List.drop_eq_getElem_cons hk, q7 hk]
def cmpS (a b : Str) : Int := if Op.bytesLess a b = true then -1 else if (!(Op.bytesLess a b || a == b)) = true then 1 else 0
theorem vD {α : Type} [Inhabited α] {l : List α} {p : α → Prop} (h : ∀ j, j < l.length → p (l.getD j default)) : ∀ x ∈ l, p x := fun x hx => by
  obtain ⟨j, hj, rfl⟩ := List.getElem_of_mem hx; rw [← q7 hj]; exact h j hj
theorem nbt {p : Prop} [Decidable p] (h : (!decide p) = true) : ¬ p := by simpa using h
theorem nbf {p : Prop} [Decidable p] (h : (!decide p) = false) : p := by simpa using h
theorem iq5 {α : Type} [Inhabited α] {l : List α} {p : α → Prop} {k : Nat} (hk : k < l.length) (h : ¬ p (l.getD k default)) : ¬ ∀ x ∈ l, p x := fun ha => h (ha _ (n7 hk))
theorem bT (a : Int) : Meets prog aB [int a] { val := fun _ : Unit => .bool false } := by
 refine d3 sK rfl n2 fun w0 => ?_; refine d4 (b6 rfl (j4 (b4 rfl (b4 rfl (B9 rfl rfl rfl (b6 rfl (b7 ?_))))))); refine c7 (j6 ?_); exact ret1 () rfl (congrArg (fun b => some (Value.bool b)) (by simp)) rfl tK (.refl _) tK
theorem J0 (a b : Int) : Meets prog U7 [int a, int b] { val := fun _ : Unit => int (cmpI a b) } := by
 refine d3 pP rfl n2 fun w0 => ?_; refine d4 (b6 rfl (j4 (b4 rfl ?_))); refine i5 bS rfl rfl (bT _) (.refl _) tK fun _ _ => ?_; refine b6 rfl (j4 (b4 rfl ?_)); refine i5 bS rfl rfl (bT _) (.refl _) tK fun _ _ => ?_; refine b6 rfl (c3 (d1 (d4 (b4 rfl (c3 ?_))))); refine c_f rfl bf_x ?_; refine i4 (c7 (d1 (d4 (b4 rfl (c3 ?_))))); refine c_f rfl bf_x ?_; refine i4 (c7 (d1 (d4 (b4 rfl (b4 rfl (u7 rfl rfl rfl (c3 ?_)))))))
 first | refine j9 rfl (fun hb4 => ?_) (fun hb4 => ?_) | refine d6 rfl (fun hb4 => ?_) (fun hb4 => ?_)
 ·have hb4' := hb4; try simp at hb4'
  refine d4 (b6 rfl (c3 (M2 ?_))); exact ret1 () rfl (congrArg (fun n => some (int n)) (by rw [cmpI, if_pos hb4])) rfl tK nK tK
 have hb4' := hb4; try simp at hb4'
 refine i4 (c7 (d1 (d4 (b4 rfl (b4 rfl (K5 rfl rfl rfl (c3 ?_)))))))
 first | refine j9 rfl (fun hb5 => ?_) (fun hb5 => ?_) | refine d6 rfl (fun hb5 => ?_) (fun hb5 => ?_)
 ·have hb5' := hb5; try simp at hb5'
  refine d4 (b6 rfl (c3 (M2 ?_))); exact ret1 () rfl (congrArg (fun n => some (int n)) (by rw [cmpI, if_neg hb4, if_pos hb5])) rfl tK nK tK
 have hb5' := hb5; try simp at hb5'
 refine i4 (c7 (d4 (b6 rfl (c3 (j6 ?_))))); exact ret1 () rfl (congrArg (fun n => some (int n)) (by rw [cmpI, if_neg hb4, if_neg hb5])) rfl tK nK tK
theorem lq0 {l : List Int} {k : Nat} (hk : k < l.length) : orL (l.drop k) = if ¬ l.getD k default = 0 then l.getD k default else orL (l.drop (k + 1)) := by
  rw [List.drop_eq_getElem_cons hk, orL, q7 hk]
theorem kM {A : Option Addr} {c : Nat} (l : List Int) (hl : l.length ≤ 1000000) : Meets prog iT [.slice A l.length c] { LI := [Row A (rows l)], val := fun _ : Unit => int (orL l) } := by
 refine d3 yF rfl n2 fun w0 => ?_; refine d4 (b6 rfl (j4 (b6 rfl (c3 (cW ?_))))); refine c9 (b4 rfl ?_); refine k5 rfl j2 rfl ?_; refine b4 rfl (c3 (i8 ?_)); refine p6 (β := Nat) ⟨fun k => k ≤ l.length ∧ orL l = orL (l.drop k), fun k => [(3, int 0), (6, .slice A l.length c), (7, int l.length), (8, int k)], fun _ => [], fun _ => [Row A (rows l)]⟩ (fun k => l.length - k) 0 ⟨Nat.zero_le _, rfl⟩ mC (.refl _) ⟨m0, tK⟩ fun k hk => ?_; obtain ⟨hk, ht⟩ := hk; refine d4 (u7 rfl rfl rfl (c3 (d1 ?_)))
 first | refine j9 rfl (fun hb1 => ?_) (fun hb1 => ?_) | refine d6 rfl (fun hb1 => ?_) (fun hb1 => ?_)
 ·have hb1' := hb1; try simp at hb1'
  have hk2 : k < l.length := by omega
  rw [lq0 hk2] at ht; refine i4 (c7 (d1 (i8 (d4 ?_)))); refine p8 (α := Int) _ _ rfl j2 k6 rfl rfl rfl mB rfl (by omega) (by decide) (b3 rfl b5 rfl (i1 mB (c5 (by omega) rfl)) ?_); refine b6 rfl (j4 (b4 rfl (b4 rfl (B9 rfl rfl rfl (c3 ?_)))))
  first | refine j9 rfl (fun hb2 => ?_) (fun hb2 => ?_) | refine d6 rfl (fun hb2 => ?_) (fun hb2 => ?_)
  ·have hb2' := hb2; try simp at hb2'
   rw [if_pos hb2] at ht; refine d4 (b4 rfl (b6 rfl (c3 (j6 (A1 (u4 (A1 ?_))))))); exact ret1 () rfl (congrArg (fun n => some (int n)) (by rw [ht])) rfl tK nK tK
  have hb2' := hb2; try simp at hb2'
  rw [if_neg hb2] at ht; refine i4 (q8 (c7 (c9 ?_))); refine r4 _ rfl rfl rfl rfl m7 ?_; refine b4 rfl (b7 ?_); exact again _ (k + 1) ⟨by omega, ht⟩ (r9 (by omega)) mC (.refl _) ⟨m0, tK⟩
 have hb1' := hb1; try simp at hb1'
 have hk2 : k = l.length := by omega
 refine m4 (v6 (l9 (c7 (d4 (b4 rfl (b6 rfl (c3 (j6 ?_)))))))); exact ret1 () rfl (congrArg (fun n => some (int n)) (by rw [ht, hk2, List.drop_length]; rfl)) rfl tK nK tK
theorem dW {A B : Option Addr} {ca cb : Nat} (a b : List Int) (ha : a.length ≤ 1000000) : Meets prog M1 [.slice A a.length ca, .slice B b.length cb] { LI := [Row A (rows a), Row B (rows b)], val := fun _ : Unit => int (cmpIs a b) } := by
 refine d3 iI rfl n2 fun w0 => ?_; refine d4 (b6 rfl (c3 (d1 (d4 (b4 rfl ?_))))); refine k5 rfl j2 rfl ?_; refine b4 rfl (c3 (i8 ?_)); refine p6 (β := Nat) ⟨fun k => k ≤ a.length ∧ k ≤ b.length ∧ cmpIs a b = cmpIs (a.drop k) (b.drop k), fun k => [(0, .slice A a.length ca), (1, .slice B b.length cb), (9, .slice A a.length ca), (10, int a.length), (11, int k)], fun _ => [], fun _ => [Row A (rows a), Row B (rows b)]⟩ (fun k => a.length - k) 0 ⟨Nat.zero_le _, Nat.zero_le _, rfl⟩ mC (.refl _) ⟨m0, m1, tK⟩ fun k hk => ?_; obtain ⟨hka, hkb, ht⟩ := hk; refine d4 (u7 rfl rfl rfl (c3 (d1 ?_)))
 first | refine j9 rfl (fun hb1 => ?_) (fun hb1 => ?_) | refine d6 rfl (fun hb1 => ?_) (fun hb1 => ?_)
 ·have hb1' := hb1; try simp at hb1'
  have hk2 : k < a.length := by omega
  rw [kL hk2] at ht; refine i4 (c7 (d1 (i8 (d4 (b4 rfl ?_))))); refine p8 (α := Int) _ _ rfl j2 k6 rfl rfl rfl mB rfl (by omega) (by decide) (b3 rfl b5 rfl (i1 mB (c5 (by omega) rfl)) ?_); refine b6 rfl (b6 rfl (c3 (d1 (d4 (b4 rfl (b4 rfl ?_)))))); refine k5 rfl j2 rfl ?_; refine cT rfl rfl rfl (c3 ?_)
  first | refine j9 rfl (fun hb2 => ?_) (fun hb2 => ?_) | refine d6 rfl (fun hb2 => ?_) (fun hb2 => ?_)
  ·have hb2' := hb2; try simp at hb2'
   have hk3 : k = b.length := by omega
   refine d4 (b6 rfl (c3 (M2 (A1 (u4 (A1 ?_)))))); exact ret1 () rfl (congrArg (fun n => some (int n)) (by rw [ht, hk3, List.drop_length]; rfl)) rfl tK nK tK
  have hb2' := hb2; try simp at hb2'
  have hk3 : k < b.length := by omega
  rw [kL hk3, cmpIs] at ht; refine i4 (c7 (d4 (b4 rfl (b4 rfl ?_)))); refine p8 (α := Int) _ _ rfl j2 k6 rfl rfl rfl mB rfl (by omega) (by decide) (b3 rfl b5 rfl (i1 mB (c5 (by omega) rfl)) ?_); refine b6 rfl (j4 (b4 rfl (b4 rfl ?_))); refine i5 I9 rfl rfl (J0 _ _) (.refl _) tK fun _ _ => ?_; refine b6 rfl (j4 (b4 rfl (B9 rfl rfl rfl (c3 ?_))))
  first | refine j9 rfl (fun hb3 => ?_) (fun hb3 => ?_) | refine d6 rfl (fun hb3 => ?_) (fun hb3 => ?_)
  ·have hb3' := hb3; try simp at hb3'
   rw [if_pos hb3] at ht; refine d4 (b4 rfl (b6 rfl (c3 (j6 (A1 (u4 (A1 ?_))))))); exact ret1 () rfl (congrArg (fun n => some (int n)) (by rw [ht])) rfl tK nK tK
  have hb3' := hb3; try simp at hb3'
  rw [if_neg hb3] at ht; refine i4 (q8 (c7 (c9 ?_))); refine r4 _ rfl rfl rfl rfl m7 ?_; refine b4 rfl (b7 ?_); exact again _ (k + 1) ⟨by omega, by omega, ht⟩ (r9 (by omega)) mC nK ⟨m0, m1, tK⟩
 have hb1' := hb1; try simp at hb1'
 have hk2 : k = a.length := by omega
 refine m4 (v6 (l9 (c7 (d1 (d4 (b4 rfl ?_)))))); refine k5 rfl j2 rfl (b4 rfl (k5 rfl j2 rfl ?_)); refine u7 rfl rfl rfl (c3 ?_)
 first | refine j9 rfl (fun hb4 => ?_) (fun hb4 => ?_) | refine d6 rfl (fun hb4 => ?_) (fun hb4 => ?_)
 ·have hb4' := hb4; try simp at hb4'
  have h4 : k < b.length := by omega
  rw [hk2, List.drop_length, kL (by omega)] at ht; refine d4 (b6 rfl (c3 (M2 ?_))); exact ret1 () rfl (congrArg (fun n => some (int n)) (by rw [ht]; rfl)) rfl tK nK tK
 have hb4' := hb4; try simp at hb4'
 have h4 : k = b.length := by omega
 rw [hk2, List.drop_length, ← hk2, h4, List.drop_length] at ht; refine i4 (c7 (d4 (b6 rfl (c3 (j6 ?_))))); exact ret1 () rfl (congrArg (fun n => some (int n)) (by rw [ht]; rfl)) rfl tK nK tK
theorem wrap64 {m : Nat} (h : m < 18446744073709551616) : IntKind.u64.wrap (m : Int) = (m : Int) := by
  simp only [IntKind.wrap, IntKind.bits, IntKind.signed]
  simp
  omega
theorem bv64 {m : Nat} (h : m < 18446744073709551616) : (BitVec.ofInt 64 (m : Int)).toNat = m := by
  simp [BitVec.toNat_ofInt]
  omega
section
variable {c : Cx} {Q : Exit → Act → World → Prop} {fr : Fr} {hp : Hp} {L : List Fact} {ops : Array Oper} {rest : List Oper}
variable {d : Tmp} {ty : TypeId} {pos : String} {af : Array Edge}
theorem r_and64 {t yt : TypeId} {x y : Operand} {a b : Nat} (hd : Nat.blt d c.n = true) (hx : ev fr x = some (.int .u64 a)) (hy : ev fr y = some (.int .u64 b)) (ha : a < 18446744073709551616) (hb : b < 18446744073709551616) (k : HL c ops Q rest ((d, .int .u64 (a &&& b : Nat)) :: fr) hp L) :
    HL c ops Q (⟨some d, .binOp .and t x y yt, ty, pos, af, none⟩ :: rest) fr hp L :=
  l1 _ hd hx hy (fun _ => rfl) (fun w => by
    show (Op.intBits .and .u64 (a : Int) (b : Int)).run c.P w = _; have h : (BitVec.ofInt 64 (a : Int) &&& BitVec.ofInt 64 (b : Int)).toNat = a &&& b := by rw [BitVec.toNat_and, bv64 ha, bv64 hb]
    have hl : a &&& b < 18446744073709551616 := Nat.lt_of_le_of_lt Nat.and_le_left ha; show Result.ok (Value.int .u64 (IntKind.u64.wrap ((BitVec.ofInt 64 (a : Int) &&& BitVec.ofInt 64 (b : Int)).toNat : Nat))) w = _
    rw [h, wrap64 hl]) k
theorem r_shr64 {t yt : TypeId} {x y : Operand} {ky : IntKind} {z : Int} {a : Nat} (n : Nat) (hd : Nat.blt d c.n = true) (hx : ev fr x = some (.int .u64 a)) (hy : ev fr y = some (.int ky z)) (hz : z = (n : Int)) (hn : n < 64) (k : HL c ops Q rest ((d, .int .u64 (a / 2 ^ n : Nat)) :: fr) hp L) :
    HL c ops Q (⟨some d, .binOp .shr t x y yt, ty, pos, af, none⟩ :: rest) fr hp L :=
  l1 _ hd hx hy (fun _ => rfl) (fun w => by
    subst hz; show (Op.shift .shr .u64 (a : Int) ky (n : Int)).run c.P w = _; have hm : min ((n : Int).toNat) (IntKind.u64.bits) = n := by show min ((n : Int).toNat) 64 = n; omega
    simp only [Op.shift]; rw [if_neg (by omega), hm, Int.fdiv_eq_ediv_of_nonneg _ (by exact_mod_cast Nat.zero_le (2 ^ n))]
    rfl) k
end
def pickK (s k : Nat) : List Int := ((List.range k).filter fun i => s.testBit i).map fun i : Nat => (i : Int)
theorem U0 (s k : Nat) : pickK s (k + 1) = if s.testBit k = true then pickK s k ++ [(k : Int)] else pickK s k := by
  unfold pickK; rw [List.range_succ, List.filter_append, List.map_append, List.filter_cons, List.filter_nil]
  by_cases e : s.testBit k = true
  · rw [if_pos e, if_pos e]; rfl
  rw [if_neg e, if_neg e]; simp
theorem az9 (s k : Nat) : (pickK s k).length ≤ k := by
  unfold pickK; rw [List.length_map]; exact Nat.le_trans (List.length_filter_le _ _) (by simp)
theorem lj4 {s k : Nat} {v : Int} (h : v ∈ pickK s k) : 0 ≤ v ∧ v < (k : Int) := by
  obtain ⟨i, hi, rfl⟩ := List.mem_map.1 h; have := (List.mem_filter.1 hi).1; rw [List.mem_range] at this
  omega
theorem iz9 {cur : Array Value} {k : Nat} {v : Value} (hk : k < cur.size) : (cur.setIfInBounds k v).toList.take (k + 1) = cur.toList.take k ++ [v] := by
  rw [Array.toList_setIfInBounds, List.take_succ_eq_append_getElem (by simpa using hk), List.take_set_of_le (Nat.le_refl _)]
  simp
theorem nP (s n : Nat) (hs : s < 18446744073709551616) (hn : n ≤ 60) : Meets prog U8 [.int .u64 (s : Int), int n] { inv := fun _ : Nat => True, val := fun g => .slice (i7 g) (pickK s n).length (pickK s n).length, LO := fun g => [Row (i7 g) (rows (pickK s n))] } := by
 refine d3 pQ rfl n2 fun w0 => ?_; refine d4 (b6 rfl (j4 (b4 rfl ?_))); refine iq0 (n := n) (bytes := 8) (z := int 0) rfl j2 n9 rfl rfl rfl rfl (by omega) (by omega) fun ga => ?_; refine b6 rfl (j4 (b6 rfl (c3 (d1 (d4 (b4 rfl ?_)))))); refine b4 rfl (c3 (i8 ?_)); refine p6 (β := Nat × Array Value) ⟨fun x => x.1 ≤ n ∧ x.2.size = n ∧ x.2.toList.take (pickK s x.1).length = rows (pickK s x.1), fun x => [(0, .int .u64 (s : Int)), (5, .slice (i7 ga) n n), (6, int (pickK s x.1).length), (11, int n), (12, int x.1)], fun x => [(ga, .cells x.2 y2 (0, 0))], fun _ => []⟩ (fun x => n - x.1) (0, (List.replicate n (int 0)).toArray) ⟨Nat.zero_le _, by simp, by simp [pickK]; rfl⟩ mC (.refl _) tK fun x hx => ?_; obtain ⟨i, cur⟩ := x; obtain ⟨hi, hcs, hct⟩ := hx; simp only at hi hcs hct; have hpl := az9 s i; refine d4 (u7 rfl rfl rfl (c3 (d1 ?_)))
 first | refine j9 rfl (fun hb1 => ?_) (fun hb1 => ?_) | refine d6 rfl (fun hb1 => ?_) (fun hb1 => ?_)
 ·have hb1' := hb1; try simp at hb1'
  have hi2 : i < n := by omega
  refine i4 (c7 (d1 (i8 (d4 (b4 rfl (b6 rfl (j4 ?_))))))); refine b4 rfl (b4 rfl ?_); refine r_shr64 i rfl rfl rfl rfl (by omega) (r_and64 (b := 1) rfl rfl rfl (Nat.lt_of_le_of_lt (Nat.div_le_self _ _) hs) (by omega) ?_); refine I2 rfl rfl rfl (c3 ?_)
  first | refine j9 rfl (fun hb2 => ?_) (fun hb2 => ?_) | refine d6 rfl (fun hb2 => ?_) (fun hb2 => ?_)
  ·have hb2' := hb2; try simp at hb2'
   have hbt : s.testBit i = true := by rw [← cx2]; exact decide_eq_true hb2
   have hlt : (pickK s i).length < cur.size := by omega
   refine d4 (b4 rfl (b4 rfl (b4 rfl ?_))); refine p7 (pickK s i).length (pickK s i).length rfl j2 k6 rfl rfl rfl (by omega) (by omega) ?_; refine u9 (u := cur[(pickK s i).length]'hlt) rfl rfl (.refl _) k6 (Array.getElem?_eq_getElem hlt) rfl ?_; refine c3 (c9 (b4 rfl ?_)); refine r4 (((pickK s i).length : Int) + 1) rfl rfl rfl rfl m7 ?_; refine b6 rfl (b7 (q8 (c7 (c9 ?_)))); refine r4 _ rfl rfl rfl rfl m7 ?_; refine b4 rfl (b7 ?_); exact again _ (i + 1, cur.setIfInBounds (pickK s i).length (int i)) ⟨by show i + 1 ≤ n; omega, by show (cur.setIfInBounds _ _).size = n; rw [Array.size_setIfInBounds]; exact hcs, by show (cur.setIfInBounds (pickK s i).length (int i)).toList.take (pickK s (i + 1)).length = rows (pickK s (i + 1)); rw [U0, if_pos hbt, List.length_append, List.length_singleton, iz9 (by omega), hct, r8]; rfl⟩ (r9 (by omega)) ⟨rfl, rfl, by show some (int (((pickK s i).length : Int) + 1)) = some (int ((pickK s (i + 1)).length : Int)); rw [U0, if_pos hbt, List.length_append]; rfl, rfl, rfl, tK⟩ (.refl _) tK
  have hb2' := hb2; try simp at hb2'
  have hbt : ¬ s.testBit i = true := by rw [← cx2, decide_eq_true_eq]; exact hb2
  refine i4 (q8 (c7 (c9 ?_))); refine r4 _ rfl rfl rfl rfl m7 ?_; refine b4 rfl (b7 ?_); exact again _ (i + 1, cur) ⟨by show i + 1 ≤ n; omega, hcs, by show cur.toList.take (pickK s (i + 1)).length = rows (pickK s (i + 1)); rw [U0, if_neg hbt]; exact hct⟩ (r9 (by omega)) ⟨rfl, rfl, by show some (int ((pickK s i).length : Int)) = some (int ((pickK s (i + 1)).length : Int)); rw [U0, if_neg hbt], rfl, rfl, tK⟩ (.refl _) tK
 have hb1' := hb1; try simp at hb1'
 obtain rfl : i = n := by omega
 refine m4 (v6 (l9 (c7 (d4 (b4 rfl ?_))))); refine iq0 (n := (pickK s i).length) (bytes := 8) (z := int 0) rfl j2 n9 rfl rfl rfl rfl (by omega) (by omega) fun gb => ?_; refine b6 rfl (j4 (b4 rfl (b4 rfl ?_))); refine hj4 (cs := rows (pickK s i)) rfl j2 k6 rfl rfl (.refl _) (by rw [S1]; show _ * 1 = min _ _; omega) (wW mC fun j u hu => ?_) (by rw [S1]; simp; exact Nat.le_of_eq (Nat.mul_one _)) (D0 _) ?_
 · rw [← hct, List.getElem?_take] at hu
   split at hu
   · rw [Nat.zero_add]; simpa using hu
   cases hu
 refine j4 (b4 rfl (b6 rfl (c3 (j6 ?_)))); refine J7 (rows (pickK s i)) (by simp) ?_; exact ret1 gb rfl rfl rfl tK nK ⟨m0, tK⟩
abbrev Cd := Int × Int
instance : El Cd where
  default := (0, 0)
  cells x := [int x.1, int x.2]
  sz := 2
  len _ := rfl
  one a u h := by simp at h; rcases h with h | h <;> subst h <;> rfl
abbrev Hv := Sl Int × Int × Int
instance : El Hv where
  default := (⟨none, 0, []⟩, 0, 0)
  cells x := [.slice x.1.a x.1.l.length x.1.c, int x.2.1, int x.2.2]
  sz := 3
  len _ := rfl
  one a u h := by simp at h; rcases h with h | h | h <;> subst h <;> rfl
abbrev Hn := List Int × Int × Int
def Hv.dat (x : Hv) : Hn := (x.1.l, x.2.1, x.2.2)
abbrev Hv.row (x : Hv) : Fact := Row x.1.a (rows x.1.l)
abbrev Hv.v (x : Hv) : Value := .agg #[.slice x.1.a x.1.l.length x.1.c, int x.2.1, int x.2.2]
def cdB (x : Cd) : Prop := (1 ≤ x.1 ∧ x.1 ≤ 20) ∧ (0 ≤ x.2 ∧ x.2 ≤ 999)
instance (x : Cd) : Decidable (cdB x) := by unfold cdB; infer_instance
def cardsE (l : List Cd) (room : Int) : Int := if 8 < l.length then 6 else if ¬ ∀ x ∈ l, cdB x then 1 else if ¬ (0 ≤ room ∧ room ≤ 60) then 1 else 0
def ordF (x y : Hn) : Int := orL [cmpI y.2.2 x.2.2, cmpI y.2.1 x.2.1, cmpIs x.1 y.1]
def ordX (x y : Hn) : Int := orL [cmpI x.1.length y.1.length, cmpIs x.1 y.1]
def ordP (x y : Hn) : Int := orL [cmpI x.2.2 y.2.2, cmpI x.1.length y.1.length, cmpIs x.1 y.1]
theorem sQ (x y : Hv) (hx : x.1.l.length ≤ 1000000) (hy : y.1.l.length ≤ 1000000) : Meets prog D7 [x.v, y.v] { LI := [x.row, y.row], val := fun _ : Unit => int (ordP x.dat y.dat) } := by
 refine d3 uV rfl n2 fun w0 => d4 (B7 rfl rfl fun gT => B7 rfl rfl fun gB => ?_); refine b6 rfl (c3 (d1 ?_)); refine G9 16 mixed (by decide) (by decide) rfl rfl ?_
 apply k9 _ rfl rfl rfl
 ·intro w1
  first | refine b2 ⟨_, 2, none⟩ rfl rfl y5 rfl ?_ | refine b2 _ rfl rfl y5 rfl ?_
  refine b7 ?_; exact i6 rfl
 apply k9 _ rfl rfl rfl
 ·intro w1
  first | refine b3 rfl b5 rfl (d5 mB rfl) ?_ | refine b3 rfl b5 rfl (j3 mB rfl) ?_ | refine b3 rfl b5 rfl (i1 mB (c5 (by omega) rfl)) ?_ | refine b3 rfl b5 rfl (i3 mB (rows_get (by omega) rfl)) ?_ | refine b3 rfl b5 rfl (j8 mB rfl) ?_
  refine b7 ?_; exact i6 rfl
 apply k9 _ rfl rfl rfl
 ·intro w1
  first | refine b2 ⟨_, 2, none⟩ rfl rfl y5 rfl ?_ | refine b2 _ rfl rfl y5 rfl ?_
  refine b7 ?_; exact i6 rfl
 apply k9 _ rfl rfl rfl
 ·intro w1
  first | refine b3 rfl b5 rfl (d5 mB rfl) ?_ | refine b3 rfl b5 rfl (j3 mB rfl) ?_ | refine b3 rfl b5 rfl (i1 mB (c5 (by omega) rfl)) ?_ | refine b3 rfl b5 rfl (i3 mB (rows_get (by omega) rfl)) ?_ | refine b3 rfl b5 rfl (j8 mB rfl) ?_
  refine b7 ?_; exact i6 rfl
 refine m6 (fun w1 => i5 I9 rfl rfl (J0 _ _) k8 tK fun _ _ => (q_z rfl)) ?_
 apply k9 _ rfl rfl rfl
 ·intro w1
  first | refine b2 ⟨_, 0, none⟩ rfl rfl r7 rfl ?_ | refine b2 _ rfl rfl r7 rfl ?_
  refine b7 ?_; exact i6 rfl
 apply k9 _ rfl rfl rfl
 ·intro w1
  first | refine b3 rfl d9 rfl (d5 mB rfl) ?_ | refine b3 rfl d9 rfl (j3 mB rfl) ?_ | refine b3 rfl d9 rfl (i1 mB (c5 (by omega) rfl)) ?_ | refine b3 rfl d9 rfl (i3 mB (rows_get (by omega) rfl)) ?_ | refine b3 rfl d9 rfl (j8 mB rfl) ?_
  refine b7 ?_; exact i6 rfl
 refine m6 (fun w1 => k5 rfl j2 rfl (q_z rfl)) ?_
 apply k9 _ rfl rfl rfl
 ·intro w1
  first | refine b2 ⟨_, 0, none⟩ rfl rfl r7 rfl ?_ | refine b2 _ rfl rfl r7 rfl ?_
  refine b7 ?_; exact i6 rfl
 apply k9 _ rfl rfl rfl
 ·intro w1
  first | refine b3 rfl d9 rfl (d5 mB rfl) ?_ | refine b3 rfl d9 rfl (j3 mB rfl) ?_ | refine b3 rfl d9 rfl (i1 mB (c5 (by omega) rfl)) ?_ | refine b3 rfl d9 rfl (i3 mB (rows_get (by omega) rfl)) ?_ | refine b3 rfl d9 rfl (j8 mB rfl) ?_
  refine b7 ?_; exact i6 rfl
 refine m6 (fun w1 => k5 rfl j2 rfl (q_z rfl)) ?_; refine m6 (fun w1 => i5 I9 rfl rfl (J0 _ _) k8 tK fun _ _ => (q_z rfl)) ?_
 apply k9 _ rfl rfl rfl
 ·intro w1
  first | refine b2 ⟨_, 0, none⟩ rfl rfl r7 rfl ?_ | refine b2 _ rfl rfl r7 rfl ?_
  refine b7 ?_; exact i6 rfl
 apply k9 _ rfl rfl rfl
 ·intro w1
  first | refine b3 rfl d9 rfl (d5 mB rfl) ?_ | refine b3 rfl d9 rfl (j3 mB rfl) ?_ | refine b3 rfl d9 rfl (i1 mB (c5 (by omega) rfl)) ?_ | refine b3 rfl d9 rfl (i3 mB (rows_get (by omega) rfl)) ?_ | refine b3 rfl d9 rfl (j8 mB rfl) ?_
  refine b7 ?_; exact i6 rfl
 apply k9 _ rfl rfl rfl
 ·intro w1
  first | refine b2 ⟨_, 0, none⟩ rfl rfl r7 rfl ?_ | refine b2 _ rfl rfl r7 rfl ?_
  refine b7 ?_; exact i6 rfl
 apply k9 _ rfl rfl rfl
 ·intro w1
  first | refine b3 rfl d9 rfl (d5 mB rfl) ?_ | refine b3 rfl d9 rfl (j3 mB rfl) ?_ | refine b3 rfl d9 rfl (i1 mB (c5 (by omega) rfl)) ?_ | refine b3 rfl d9 rfl (i3 mB (rows_get (by omega) rfl)) ?_ | refine b3 rfl d9 rfl (j8 mB rfl) ?_
  refine b7 ?_; exact i6 rfl
 refine y8 ⟨rfl, ?_⟩; refine i5 gD rfl rfl (dW x.1.l y.1.l hx) k8 mC fun _ _ => l5 _ rfl rfl (fun _ => tG ..) fun gS => v8 (rows [cmpI x.2.2 y.2.2, cmpI x.1.l.length y.1.l.length, cmpIs x.1.l y.1.l]) (List.prefix_refl _) ?_; refine i5 kJ rfl rfl (kM [cmpI x.2.2 y.2.2, cmpI x.1.l.length y.1.l.length, cmpIs x.1.l y.1.l] (by simp)) k8 mC fun _ _ => ?_; refine b6 rfl (c3 (j6 ?_)); exact ret1 () rfl (by show some _ = some (int (ordP x.dat y.dat)); rfl) rfl tK nK tK
section
variable {c : Cx} {Q : Exit → Act → World → Prop} {fr : Fr} {hp : Hp} {L : List Fact} {ops : Array Oper} {rest : List Oper}
variable {d : Tmp} {ty : TypeId} {pos : String} {af : Array Edge}
theorem r_shl1 {t yt : TypeId} {x y : Operand} {ky : IntKind} {z : Int} (n N : Nat) (hN : N = 2 ^ n) (hd : Nat.blt d c.n = true) (hx : ev fr x = some (int 1)) (hy : ev fr y = some (.int ky z)) (hz : z = (n : Int)) (hn : n < 60) (k : HL c ops Q rest ((d, int (N : Int)) :: fr) hp L) :
    HL c ops Q (⟨some d, .binOp .shl t x y yt, ty, pos, af, none⟩ :: rest) fr hp L :=
  l1 _ hd hx hy (fun _ => rfl) (fun w => by
    subst hz; subst hN; show (Op.shift .shl .i64 1 ky (n : Int)).run c.P w = _; have hl : 2 ^ n < 2 ^ 60 := Nat.pow_lt_pow_right (by omega) hn; have hm : min ((n : Int).toNat) (IntKind.i64.bits) = n := by show min ((n : Int).toNat) 64 = n; omega
    have hw : IntKind.i64.wrap ((2 ^ n : Nat) : Int) = ((2 ^ n : Nat) : Int) := by
      generalize 2 ^ n = q at hl; simp only [IntKind.wrap, IntKind.bits, IntKind.signed]
      simp
      omega
    simp only [Op.shift]; rw [if_neg (by omega), hm, Int.one_mul, show ((2 : Int) ^ n) = ((2 ^ n : Nat) : Int) by simp, hw]
    rfl) k
end
def linL (cs : List Cd) (ks : List Int) : List Int := ks.map fun v => (cs.getD v.toNat default).1
def priL (cs : List Cd) (ks : List Int) : List Int := ks.map fun v => (cs.getD v.toNat default).2
def handK (cs : List Cd) (s : Nat) : Hn := (pickK s cs.length, (linL cs (pickK s cs.length)).sum, (priL cs (pickK s cs.length)).sum)
def handsK (cs : List Cd) (room : Int) (k : Nat) : List Hn := ((List.range k).map (handK cs)).filter fun x => decide (x.2.1 ≤ room)
abbrev fnV (f : Nat) : Value := .func (.func f) #[] #[]
abbrev offA (y : Hv) (ok : Bool) (f : Nat) : Array Value := #[.slice y.1.a y.1.l.length y.1.c, int y.2.1, int y.2.2, .bool ok, fnV f]
theorem lq1 (a b c d e : Value) : ∀ (i : Nat) (u : Value), ([a, b, c] : List Value)[i]? = some u → (#[a, b, c, d, e] : Array Value)[0 + i]? = some u := by
  intro i u h
  rcases i with _ | _ | _ | i
  · exact h
  · exact h
  · exact h
  simp at h
def offS (o : Hn → Hn → Int) (s : Hn × Bool) (x : Hn) : Hn × Bool := if s.2 = false ∨ o x s.1 < 0 then (x, true) else s
structure OrdF (f : Nat) (o : Hn → Hn → Int) : Prop where
  cb : Callable prog f
  m : ∀ x y : Hv, x.1.l.length ≤ 1000000 → y.1.l.length ≤ 1000000 → Meets prog f [x.v, y.v] { LI := [x.row, y.row], val := fun _ : Unit => int (o x.dat y.dat) }
theorem jq1 : OrdF D7 ordP := ⟨sN, sQ⟩
theorem X9 {gB f : Nat} {o : Hn → Hn → Int} (hf : OrdF f o) (x y : Hv) (ok : Bool) (hx : x.1.l.length ≤ 1000000) (hy : y.1.l.length ≤ 1000000) : Meets prog H2 [.pointer (i7 gB), x.v] { hpI := [(gB, Obj.cells (offA y ok f) u3 (0, 0))], LI := [x.row, y.row], inv := fun z : Hv × Bool => (z.1.dat, z.2) = offS o (y.dat, ok) x.dat ∧ (z.1 = x ∨ z.1 = y), val := fun _ => .tuple #[], hpO := fun z => [(gB, Obj.cells (offA z.1 z.2 f) u3 (0, 0))] } := by
 refine d3 aD rfl n2 fun w0 => d4 (B7 rfl rfl fun gT => ?_); refine c3 (d1 (v7 ?_)); refine G9 15 mixed (by decide) (by decide) rfl rfl (p9 rfl (m6 (fun w1 => l7 rfl rfl (q_z rfl)) ?_))
 apply k9 _ rfl rfl rfl
 ·intro w1
  first | refine b2 ⟨_, 3, none⟩ rfl rfl n6 rfl ?_ | refine b2 _ rfl rfl n6 rfl ?_
  refine b7 ?_; exact i6 rfl
 refine m6 (fun w1 => b3 (v := .bool ok) rfl C2 rfl (d5 mC rfl) (q_z rfl)) (m6 (fun w1 => I6 rfl rfl (q_z rfl)) (p9 rfl ?_)); refine jO (t := 9) (want := false) rfl ?_ ?_
 ·intro hg1; have hg1' := hg1; try simp at hg1'
  apply k9 _ rfl rfl rfl
  ·intro w1; refine k7 hg1 (b4 rfl (b7 ?_)); exact i6 rfl
  apply k9 _ rfl rfl rfl
  ·intro w1; refine k7 hg1 (l7 rfl rfl (b7 ?_)); exact i6 rfl
  apply k9 _ rfl rfl rfl
  ·intro w1; refine k7 hg1 ?_
   first | refine b2 ⟨_, 4, none⟩ rfl rfl G7 rfl ?_ | refine b2 _ rfl rfl G7 rfl ?_
   refine b7 ?_; exact i6 rfl
  apply k9 _ rfl rfl rfl
  ·intro w1; refine k7 hg1 (b3 (v := fnV f) rfl Q1 rfl (d5 mC rfl) (b7 ?_)); exact i6 rfl
  apply k9 _ rfl rfl rfl
  ·intro w1; refine k7 hg1 (w7 (cs := #[.slice x.1.a x.1.l.length x.1.c, int x.2.1, int x.2.2]) rfl K3 D6 rfl mC rfl (b7 ?_)); exact i6 rfl
  apply k9 _ rfl rfl rfl
  ·intro w1; refine k7 hg1 (b4 rfl (b7 ?_)); exact i6 rfl
  apply k9 _ rfl rfl rfl
  ·intro w1; refine k7 hg1 (l7 rfl rfl (b7 ?_)); exact i6 rfl
  apply k9 _ rfl rfl rfl
  ·intro w1; refine k7 hg1 ?_
   first | refine b2 ⟨_, 0, none⟩ rfl rfl l8 rfl ?_ | refine b2 _ rfl rfl l8 rfl ?_
   refine b7 ?_; exact i6 rfl
  apply k9 _ rfl rfl rfl
  ·intro w1; refine k7 hg1 (y9 (cs := [.slice y.1.a y.1.l.length y.1.c, int y.2.1, int y.2.2]) rfl K3 D6 rfl rfl (kN mC (lq1 _ _ _ _ _)) (b7 ?_)); exact i6 rfl
  refine y8 ⟨rfl, ?_⟩; refine k7 hg1 (aR (vs := [x.v, y.v]) (cap := []) hf.cb rfl rfl rfl (hf.m x y hx hy) k8 ⟨mC, mC, tK⟩ fun _ _ => ?_); refine k7 hg1 (u7 rfl rfl rfl ?_); refine p_f rfl rfl (bf1 hg1) rfl (c3 ?_)
  first | refine j9 rfl (fun hb1 => ?_) (fun hb1 => ?_) | refine d6 rfl (fun hb1 => ?_) (fun hb1 => ?_)
  ·have hb1' := hb1; try simp at hb1'
   refine c9 (b4 rfl (b4 rfl ?_)); refine w7 (cs := #[.slice x.1.a x.1.l.length x.1.c, int x.2.1, int x.2.2]) rfl K3 D6 rfl mC rfl (l7 rfl rfl ?_)
   first | refine b2 ⟨_, 0, none⟩ rfl rfl l8 rfl ?_ | refine b2 _ rfl rfl l8 rfl ?_
   refine dq3 rfl rfl (.refl _) D6 (show 0 + 3 ≤ 5 by decide) (by rfl) (l7 rfl rfl ?_)
   first | refine b2 ⟨_, 3, none⟩ rfl rfl n6 rfl ?_ | refine b2 _ rfl rfl n6 rfl ?_
   refine u9 rfl rfl (.refl _) J9 rfl rfl (b7 ?_); exact ret0n (x, true) rfl rfl rfl ⟨by show (x.dat, true) = offS o (y.dat, ok) x.dat; rw [offS, if_pos (.inr hb1)], .inl rfl⟩ (.refl _) tK
  have hb1' := hb1; try simp at hb1'
  refine i4 ?_; exact ret0n (y, ok) rfl rfl rfl ⟨by show (y.dat, ok) = offS o (y.dat, ok) x.dat; rw [offS, if_neg (fun h => h.elim (fun h => by rw [show ok = true from hg1'] at h; cases h) hb1)], .inr rfl⟩ (.refl _) tK
 intro hg1; have hg1' := hg1; try simp at hg1'
 refine m6 (fun w1 => n4 hg1 (q_z rfl)) (m6 (fun w1 => n4 hg1 (q_z rfl)) (m6 (fun w1 => n4 hg1 (q_z rfl)) (m6 (fun w1 => n4 hg1 (q_z rfl)) (m6 (fun w1 => n4 hg1 (q_z rfl)) (m6 (fun w1 => n4 hg1 (q_z rfl)) (m6 (fun w1 => n4 hg1 (q_z rfl)) (m6 (fun w1 => n4 hg1 (q_z rfl)) (m6 (fun w1 => n4 hg1 (q_z rfl)) ?_)))))))); refine y8 ⟨rfl, ?_⟩; refine n4 hg1 (n4 hg1 ?_); refine p_t rfl rfl (bt2 hg1) rfl ?_; refine c3 (c_t rfl rfl (c9 (b4 rfl (b4 rfl ?_)))); refine w7 (cs := #[.slice x.1.a x.1.l.length x.1.c, int x.2.1, int x.2.2]) rfl K3 D6 rfl mC rfl (l7 rfl rfl ?_)
 first | refine b2 ⟨_, 0, none⟩ rfl rfl l8 rfl ?_ | refine b2 _ rfl rfl l8 rfl ?_
 refine dq3 rfl rfl (.refl _) D6 (show 0 + 3 ≤ 5 by decide) (by rfl) (l7 rfl rfl ?_)
 first | refine b2 ⟨_, 3, none⟩ rfl rfl n6 rfl ?_ | refine b2 _ rfl rfl n6 rfl ?_
 refine u9 rfl rfl (.refl _) J9 rfl rfl (b7 ?_); exact ret0n (x, true) rfl rfl rfl ⟨by show (x.dat, true) = offS o (y.dat, ok) x.dat; rw [offS, if_pos (.inl (show ok = false from hg1'))], .inl rfl⟩ (.refl _) tK
def noB : Hn × Bool := (([], 0, 0), false)
def bestL (o : Hn → Hn → Int) (l : List Hn) : Hn × Bool := l.foldl (offS o) noB
theorem wX (o : Hn → Hn → Int) (l : List Hn) (x : Hn) : bestL o (l ++ [x]) = offS o (bestL o l) x := by simp [bestL]
def fillE (cs : List Cd) (room : Int) : Hn := if ¬ cardsE cs room = 0 then ([], 0, cardsE cs room) else ((bestL ordF (handsK cs room (2 ^ cs.length))).1.1, (bestL ordF (handsK cs room (2 ^ cs.length))).1.2.2, 0)
def exactL (cs : List Cd) (room : Int) : Hn × Bool := bestL ordX ((handsK cs room (2 ^ cs.length)).filter fun x => decide (x.2.1 = room))
def exactE (cs : List Cd) (room : Int) : List Int × Int := if ¬ cardsE cs room = 0 then ([], cardsE cs room) else if (exactL cs room).2 = false then ([], 11) else ((exactL cs room).1.1, 0)
def ctrC : Ch := (10, 25, 5, 40, 10, 2)
def ctrA : List Ad := [(0, 1, 1), (1, 2, 2), (2, 3, 3)]
def law_cards : List Cd := [(2, 30), (3, 50), (4, 60)]
abbrev ctrP (g : Nat) : Sl Int := ⟨some ⟨g, 0, none⟩, 3, [0, 0, 3]⟩
abbrev ctrQ (g : Nat) : Sl Ad := ⟨some ⟨g, 0, none⟩, 3, ctrA⟩
def someA : List Ad := [(0, 1, 1), (2, 3, 3)]
abbrev someQ (g : Nat) : Sl Ad := ⟨some ⟨g, 0, none⟩, 2, someA⟩
def shopsC : List Cl := [([102, 111, 111, 100], -1), ([98, 114, 101, 97, 100], 0), ([99, 108, 111, 116, 104], -1), ([104, 97, 116, 115], 2)]
def shopsH (g1 g2 : Nat) : List Hd := [([98, 97, 107, 101, 114], 1, -1, ⟨none, 0, []⟩), ([98, 111, 110, 110, 101, 116, 115], -1, 3, ⟨none, 0, []⟩), ([99, 111, 110, 102, 101, 99, 116, 105, 111, 110, 101, 114], 0, -1, ⟨some ⟨g1, 0, none⟩, 1, [0]⟩), ([104, 97, 116, 116, 101, 114], 3, -1, ⟨none, 0, []⟩), ([109, 101, 114, 99, 101, 114], 2, -1, ⟨some ⟨g2, 0, none⟩, 1, [3]⟩), ([109, 105, 108, 108, 105, 110, 101, 114], -1, 1, ⟨none, 0, []⟩)]
instance : El Bool where
  default := false
  cells b := [.bool b]
  sz := 1
  len _ := rfl
  one a u h := by simp at h; subst h; rfl
def rdK (p : Int) (l : List Int) : List Bool := l.map fun v => decide (0 ≤ v ∧ v ≤ p)
theorem kz1 {p : Int} {l : List Int} {k : Nat} (hk : k < l.length) : rdK p (l.take (k + 1)) = rdK p (l.take k) ++ [decide (0 ≤ l.getD k default ∧ l.getD k default ≤ p)] := by
  unfold rdK; rw [List.take_succ_eq_append_getElem hk, q7 hk, List.map_append]; rfl
theorem bz7 (p : Int) (l : List Int) : (rdK p l).length = l.length := by simp [rdK]
def reachK (t : Tr) (p : Int) (k : Nat) : List (List Bool) := (List.range k).map fun i : Nat => rdK p (stepsE t (i : Int)).1
theorem dq1 (t : Tr) (p : Int) (k : Nat) : reachK t p (k + 1) = reachK t p k ++ [rdK p (stepsE t (k : Int)).1] := by
  unfold reachK; rw [List.range_succ, List.map_append]; rfl
abbrev N0 : Sl Bool := ⟨none, 0, []⟩
theorem mx1 {ps r : List (Sl Bool)} {x : Sl Bool} {i : Nat} (h : ps.length = i) : (ps ++ x :: r).getD i default = x := by
  subst h; simp [List.getD_eq_getElem?_getD]
theorem set_cur {ps r : List (Sl Bool)} {x y : Sl Bool} {i : Nat} (h : ps.length = i) : (ps ++ x :: r).set i y = ps ++ y :: r := by
  subst h; simp
theorem dU {A B : Option Addr} {ca cb : Nat} (cs : List Cl) (hs : List Hd) (p : Int) (hca : cs.length ≤ ca) (hcb : hs.length ≤ cb) (ha : ∀ h ∈ hs, h.2.2.2.l.length ≤ 1000000) (hn : hs.length ≤ 1000000) (hst : ∀ i : Nat, (stepsE (trOf cs hs) (i : Int)).1.length ≤ 1000000) : Meets prog bI [.agg #[.slice A cs.length ca, .slice B hs.length cb], int p] { LI := [Row A (rows cs), RowsF B hs Hd.row], inv := fun x : Nat × List (Sl Bool) => x.2.length = hs.length ∧ x.2.map (·.l) = reachK (trOf cs hs) p hs.length, val := fun x => .slice (some ⟨x.1, 0, none⟩) hs.length hs.length, LO := fun x => [Row (some ⟨x.1, 0, none⟩) (rows x.2), innerF x.2] } := by
 refine d3 uR rfl n2 fun w0 => d4 (B7 rfl rfl fun gB => ?_); refine b6 rfl (c3 (d1 (v7 (c9 ?_))))
 first | refine b2 ⟨_, 1, none⟩ rfl rfl d8 rfl ?_ | refine b2 _ rfl rfl d8 rfl ?_
 refine b3 (v := .slice B hs.length cb) rfl b8 rfl (d5 mB rfl) (k5 rfl l4 rfl (ij9 (α := Sl Bool) (n := hs.length) (bytes := 24) (z := .slice none 0 0) N0 rfl J8 n9 rfl rfl rfl rfl (by omega) (by omega) fun go => ?_)); refine b6 rfl (c3 (d1 (d4 (b4 rfl ?_)))); refine k5 rfl J8 rfl ?_; refine b4 rfl (c3 (i8 ?_)); refine dz3 (Fs := ([] : List (Sl Bool)).map fun p => Row p.a (rows p.l)) (by intro F hF; cases hF) ?_; refine p6 (β := Nat × List (Sl Bool)) ⟨fun x => x.1 ≤ hs.length ∧ x.2.length = x.1 ∧ x.2.map (·.l) = reachK (trOf cs hs) p x.1, fun x => [(1, int p), (2, .pointer (i7 gB)), (5, .slice (i7 go) hs.length hs.length), (16, int hs.length), (17, int x.1)], fun x => [(go, Obj.cells (rows (x.2 ++ List.replicate (hs.length - x.1) N0)).toArray J3 (0, 0))], fun x => [Blk gB (Obj.cells #[.slice A cs.length ca, .slice B hs.length cb] m5 (0, 0)), Row A (rows cs), RowsF B hs Hd.row, innerF x.2]⟩ (fun x => hs.length - x.1) (0, []) ⟨Nat.zero_le _, rfl, rfl⟩ mC (.refl _) mC fun x hx => ?_; obtain ⟨i, ps⟩ := x; obtain ⟨hi, hpl, hpm⟩ := hx; simp only at hi hpl hpm; have hs1 := hst i; refine d4 (u7 rfl rfl rfl (c3 (d1 ?_)))
 first | refine j9 rfl (fun hb1 => ?_) (fun hb1 => ?_) | refine d6 rfl (fun hb1 => ?_) (fun hb1 => ?_)
 ·have hb1' := hb1; try simp at hb1'
  have hi2 : i < hs.length := by omega
  obtain ⟨q, hq⟩ : ∃ q, hs.length - i = q + 1 := ⟨hs.length - i - 1, by omega⟩; refine i4 (c7 (d1 (i8 (d4 (b4 rfl (b6 rfl (j4 ?_))))))); refine w7 (cs := #[.slice A cs.length ca, .slice B hs.length cb]) rfl i9 j0 rfl mB rfl (b4 rfl (i5 uC rfl rfl (tA cs hs (i : Int) hca hcb ha) k8 mC fun x hx => ?_)); obtain ⟨xa, xc⟩ := x; refine b4 rfl (k4 rfl rfl rfl (k4 rfl rfl rfl (b6 rfl (b6 rfl (j4 (b4 rfl ?_)))))); refine k5 rfl j2 rfl ?_; refine b4 rfl (c3 (i8 ?_)); refine gN (hp' := [(go, Obj.cells (rows (ps ++ N0 :: List.replicate q N0)).toArray J3 (0, 0))]) (by show List.Perm [(go, Obj.cells (rows (ps ++ List.replicate (hs.length - i) N0)).toArray J3 (0, 0))] _; rw [hq]; exact .refl _) ?_; refine p6 (β := Nat × OutC × Hp) ⟨fun x => x.1 ≤ (stepsE (trOf cs hs) (i : Int)).1.length ∧ Grow kV 1 x.2.1.1 (rdK p ((stepsE (trOf cs hs) (i : Int)).1.take (x.1))).length x.2.1.2 (rows (rdK p ((stepsE (trOf cs hs) (i : Int)).1.take (x.1)))) x.2.2, fun x => [(1, int p), (2, .pointer (i7 gB)), (5, .slice (i7 go) hs.length hs.length), (6, int i), (16, int hs.length), (17, int i), (26, .slice xa (stepsE (trOf cs hs) (i : Int)).1.length xc), (27, int (stepsE (trOf cs hs) (i : Int)).1.length), (28, int x.1)], fun x => (go, Obj.cells (rows (ps ++ ⟨x.2.1.1, x.2.1.2, (rdK p ((stepsE (trOf cs hs) (i : Int)).1.take (x.1)))⟩ :: List.replicate q N0)).toArray J3 (0, 0)) :: x.2.2, fun _ => [Row xa (rows (stepsE (trOf cs hs) (i : Int)).1), Blk gB (Obj.cells #[.slice A cs.length ca, .slice B hs.length cb] m5 (0, 0)), Row A (rows cs), RowsF B hs Hd.row, innerF ps]⟩ (fun x => (stepsE (trOf cs hs) (i : Int)).1.length - x.1) (0, (none, 0), []) ⟨Nat.zero_le _, Grow.nil _ _⟩ mC (.refl _) mC fun x hx => ?_; obtain ⟨j, ⟨na, nc⟩, og⟩ := x; obtain ⟨hj, hG⟩ := hx; simp only at hj hG; have hlen : (rdK p ((stepsE (trOf cs hs) (i : Int)).1.take (j))).length ≤ j := by rw [bz7, List.length_take]; exact Nat.min_le_left _ _
  refine d4 (u7 rfl rfl rfl (c3 (d1 ?_)))
  first | refine j9 rfl (fun hb2 => ?_) (fun hb2 => ?_) | refine d6 rfl (fun hb2 => ?_) (fun hb2 => ?_)
  ·have hb2' := hb2; try simp at hb2'
   have hj2 : j < (stepsE (trOf cs hs) (i : Int)).1.length := by omega
   have hbs := kz1 (p := p) hj2; refine i4 (c7 (d1 (i8 (d4 ?_)))); refine p8 (α := Int) _ _ rfl j2 k6 rfl rfl rfl mB rfl (by omega) (by decide) (b3 rfl b5 rfl (i1 mB (c5 (by omega) rfl)) ?_); refine b6 rfl (c3 ?_); refine I7 (og) ([(go, Obj.cells (rows (ps ++ ⟨na, nc, (rdK p ((stepsE (trOf cs hs) (i : Int)).1.take (j)))⟩ :: List.replicate q N0)).toArray J3 (0, 0))]) (List.perm_append_comm (l₁ := [_]) (l₂ := og)) 11 [10] mixed (by decide) (by decide) (by decide) rfl rfl rfl (p9 rfl (p9 rfl (p9 rfl (p9 rfl (m6 (fun w1 => p7 i (0 + i * 1) rfl J8 P1 rfl rfl rfl (by omega) rfl (q_z rfl)) ?_))))); refine m6 (fun w1 => b3 (v := .slice na (rdK p ((stepsE (trOf cs hs) (i : Int)).1.take (j))).length nc) rfl V9 rfl (kj7 (α := Sl Bool) (k := i) (f := 0) mB (by show 0 + i * 1 = i * 1 + 0; omega) (by rw [List.length_append, hpl]; simp) (by rw [mx1 hpl]; rfl)) (q_z rfl)) ?_; refine p9 rfl (p9 rfl ?_); refine m6 (fun w1 => i5 G0 rfl rfl (G1 _ _ _) k8 tK fun _ _ => (q_z rfl)) ?_; refine N6 ⟨Nat, fun _ => True, fun g1 => .slice (i7 g1) 1 1, fun g1 => [Row (i7 g1) (rows [(decide (0 ≤ (stepsE (trOf cs hs) (i : Int)).1.getD j default ∧ (stepsE (trOf cs hs) (i : Int)).1.getD j default ≤ p))])]⟩ rfl rfl rfl ?_ ?_
   ·intro w1; refine l5 _ rfl rfl (fun _ => zD ..) fun gS => b7 (J7 (rows [(decide (0 ≤ (stepsE (trOf cs hs) (i : Int)).1.getD j default ∧ (stepsE (trOf cs hs) (i : Int)).1.getD j default ≤ p))]) (List.prefix_refl _) ?_); exact D1 gS tK rfl ⟨m0, tK⟩
   refine qU ⟨OutC × Hp, fun x => Grow kV 1 x.1.1 ((rdK p ((stepsE (trOf cs hs) (i : Int)).1.take (j))).length + 1) x.1.2 (rows ((rdK p ((stepsE (trOf cs hs) (i : Int)).1.take (j))) ++ [(decide (0 ≤ (stepsE (trOf cs hs) (i : Int)).1.getD j default ∧ (stepsE (trOf cs hs) (i : Int)).1.getD j default ≤ p))])) x.2, fun x => .slice x.1.1 ((rdK p ((stepsE (trOf cs hs) (i : Int)).1.take (j))).length + 1) x.1.2, fun _ => [], fun x => x.2⟩ rfl rfl rfl ?_ ?_
   ·intro g1 _; intro w1; refine C0 (hp' := []) ((rdK p ((stepsE (trOf cs hs) (i : Int)).1.take (j))).length + 1) (rows ((rdK p ((stepsE (trOf cs hs) (i : Int)).1.take (j))) ++ [(decide (0 ≤ (stepsE (trOf cs hs) (i : Int)).1.getD j default ∧ (stepsE (trOf cs hs) (i : Int)).1.getD j default ≤ p))])) bx4 rfl rfl rfl hG (by rw [List.append_nil]) (Src.row (news := rows [(decide (0 ≤ (stepsE (trOf cs hs) (i : Int)).1.getD j default ∧ (stepsE (trOf cs hs) (i : Int)).1.getD j default ≤ p))]) (m := 1) mB rfl (D0 _) (by decide)) rfl (r8 _ _).symm (by unfold maxLen; omega) (by omega) fun A' c' og' hG' => ?_; refine b7 ?_; exact P5 ((A', c'), og') hG' (fun _ => rfl) (List.sublist_append_left _ _) tK
   refine y8 ⟨rfl, ?_⟩; intro g1 _ y hy; obtain ⟨⟨A', c'⟩, og'⟩ := y; refine p7 i (0 + i * 1) rfl J8 P1 rfl rfl rfl (by omega) rfl ?_; refine dq2 (α := Sl Bool) (k := i) (f := 0) (hp' := og') ⟨A', c', (rdK p ((stepsE (trOf cs hs) (i : Int)).1.take (j))) ++ [(decide (0 ≤ (stepsE (trOf cs hs) (i : Int)).1.getD j default ∧ (stepsE (trOf cs hs) (i : Int)).1.getD j default ≤ p))]⟩ rfl (by show 0 + i * 1 = i * 1 + 0; omega) rfl (List.perm_append_comm (l₁ := og') (l₂ := [_])) P1 (by rw [List.length_append, hpl]; simp) (by decide) (by rw [mx1 hpl]; show [_] = [_]; rw [List.length_append]; rfl) rfl ?_; rw [set_cur hpl]; refine b7 (q8 (c7 (c9 ?_))); refine r4 _ rfl rfl rfl rfl m7 ?_; refine b4 rfl (b7 ?_); exact again _ (j + 1, (A', c'), og') ⟨by show j + 1 ≤ _; omega, by show Grow kV 1 A' (rdK p ((stepsE (trOf cs hs) (i : Int)).1.take (j + 1))).length c' (rows (rdK p ((stepsE (trOf cs hs) (i : Int)).1.take (j + 1)))) og'; rw [hbs, List.length_append]; exact hy⟩ (r9 (by omega)) mC (by show List.Sublist ((go, Obj.cells (rows (ps ++ ⟨A', c', (rdK p ((stepsE (trOf cs hs) (i : Int)).1.take (j + 1)))⟩ :: List.replicate q N0)).toArray J3 (0, 0)) :: og') _; rw [hbs]; exact .refl _) mC
  have hb2' := hb2; try simp at hb2'
  have hj2 : j = (stepsE (trOf cs hs) (i : Int)).1.length := by omega
  subst hj2; refine m4 (v6 (l9 (q8 (c7 (c9 ?_))))); refine r4 _ rfl rfl rfl rfl m7 ?_; refine b4 rfl (b7 ?_); refine bY (hp' := og ++ [(go, Obj.cells (rows (ps ++ ⟨na, nc, (rdK p ((stepsE (trOf cs hs) (i : Int)).1.take ((stepsE (trOf cs hs) (i : Int)).1.length)))⟩ :: List.replicate q N0)).toArray J3 (0, 0))]) (List.perm_append_comm (l₁ := [_]) (l₂ := og)) (cX hG ?_); refine dz1 (pD (p := ((⟨na, nc, (rdK p ((stepsE (trOf cs hs) (i : Int)).1.take ((stepsE (trOf cs hs) (i : Int)).1.length)))⟩) : Sl Bool)) (ps := ps) (f := fun p => Row p.a (rows p.l)) mB mB) ?_; exact again _ (i + 1, ps ++ [⟨na, nc, (rdK p ((stepsE (trOf cs hs) (i : Int)).1.take ((stepsE (trOf cs hs) (i : Int)).1.length)))⟩]) ⟨by show i + 1 ≤ hs.length; omega, by show (ps ++ [_]).length = i + 1; simp [hpl], by show (ps ++ [_]).map (fun x : Sl Bool => x.l) = _; rw [dq1, List.map_append, hpm]; show _ ++ [rdK p (List.take _ _)] = _; rw [List.take_length]⟩ (r9 (by omega)) mC (by show List.Sublist [(go, Obj.cells (rows ((ps ++ [⟨na, nc, (rdK p ((stepsE (trOf cs hs) (i : Int)).1.take ((stepsE (trOf cs hs) (i : Int)).1.length)))⟩]) ++ List.replicate (hs.length - (i + 1)) N0)).toArray J3 (0, 0))] _; rw [List.append_assoc, show hs.length - (i + 1) = q by omega]; exact .refl _) mC
 have hb1' := hb1; try simp at hb1'
 have hi2 : i = hs.length := by omega
 refine m4 (v6 (l9 (c7 (d4 (b4 rfl (b6 rfl (c3 (j6 ?_)))))))); refine J7 (rows ps) (by show rows ps <+: rows (ps ++ _); rw [r8]; exact List.prefix_append ..) ?_; exact ret1 (go, ps) rfl rfl rfl ⟨hpl.trans hi2, by show ps.map _ = _; rw [hpm, hi2]⟩ nK mC
theorem mx4 {l : List Int} {b : Int → Bool} {k : Nat} (hk : k < l.length) (h : (l.take k).any b = false) (h2 : b (l.getD k default) = false) : (l.take (k + 1)).any b = false := by
  rw [List.take_succ_eq_append_getElem hk, ← q7 hk, List.any_append, h]
  simpa using h2
theorem bX {A : Option Addr} {cp f : Nat} {cap : List Value} {L0 : List Fact} (l : List Int) (b : Int → Bool) (hl : l.length ≤ 1000000) (hcb : Callable prog f) (hm : ∀ x ∈ l, Meets prog f ([int x] ++ cap) { LI := L0, val := fun _ : Unit => .bool (b x) }) : Meets prog K0 [.slice A l.length cp, .func (.func f) #[] cap.toArray] { LI := Row A (rows l) :: L0, inv := fun z : Int => (0 ≤ z ↔ l.any b = true), val := fun z => int z } := by
 refine d3 dF rfl n2 fun w0 => ?_; refine d4 (b6 rfl (c3 (d1 (d4 (b4 rfl ?_))))); refine k5 rfl j2 rfl ?_; refine b4 rfl (c3 (i8 ?_)); refine p6 (β := Nat) ⟨fun k => k ≤ l.length ∧ (l.take k).any b = false, fun k => [(0, .slice A l.length cp), (1, .func (.func f) #[] cap.toArray), (7, int l.length), (8, int k)], fun _ => [], fun _ => Row A (rows l) :: L0⟩ (fun k => l.length - k) 0 ⟨Nat.zero_le _, rfl⟩ mC (.refl _) ⟨m0, (LSub.of_mem fun F hF => List.mem_cons_of_mem _ hF)⟩ fun k hk => ?_; obtain ⟨hk, ht⟩ := hk; refine d4 (u7 rfl rfl rfl (c3 (d1 ?_)))
 first | refine j9 rfl (fun hb1 => ?_) (fun hb1 => ?_) | refine d6 rfl (fun hb1 => ?_) (fun hb1 => ?_)
 ·have hb1' := hb1; try simp at hb1'
  have hk2 : k < l.length := by omega
  refine i4 (c7 (d1 (i8 (d4 (b4 rfl (b6 rfl (j4 ?_))))))); refine b4 rfl (b4 rfl (b4 rfl ?_)); refine p8 (α := Int) _ _ rfl j2 k6 rfl rfl rfl mB rfl (by omega) (by decide) (b3 rfl b5 rfl (i1 mB (c5 (by omega) rfl)) ?_); refine aR (vs := [int (l.getD k default)]) (cap := cap) hcb rfl rfl rfl (hm _ (n7 hk2)) k8 (LSub.of_mem fun F hF => List.mem_cons_of_mem _ hF) fun _ _ => ?_; refine c3 ?_
  first | refine j9 rfl (fun hb2 => ?_) (fun hb2 => ?_) | refine d6 rfl (fun hb2 => ?_) (fun hb2 => ?_)
  ·have hb2' := hb2; try simp at hb2'
   refine d4 (b4 rfl (b6 rfl (c3 (j6 (A1 (u4 (A1 ?_))))))); exact ret1 (k : Int) rfl rfl rfl ⟨fun _ => List.any_eq_true.2 ⟨_, n7 hk2, hb2⟩, fun _ => by omega⟩ nK tK
  have hb2' := hb2; try simp at hb2'
  refine i4 (q8 (c7 (c9 ?_))); refine r4 _ rfl rfl rfl rfl m7 ?_; refine b4 rfl (b7 ?_); exact again _ (k + 1) ⟨by show k + 1 ≤ l.length; omega, mx4 hk2 ht (by simpa using hb2)⟩ (r9 (by omega)) mC nK ⟨by first | exact m0 | exact List.mem_cons_self .., LSub.of_mem fun F hF => by first | exact List.mem_cons_of_mem _ hF | exact List.mem_append_right _ (List.mem_cons_of_mem _ hF)⟩
 have hb1' := hb1; try simp at hb1'
 have hk2 : k = l.length := by omega
 rw [hk2, List.take_length] at ht; refine m4 (v6 (l9 (c7 (d4 (b6 rfl (c3 (j6 ?_))))))); exact ret1 (-1) rfl rfl rfl ⟨fun h => by omega, fun h => by rw [ht] at h; cases h⟩ (.refl _) tK
theorem K4 {A : Option Addr} {cp f : Nat} {cap : List Value} {L0 : List Fact} (l : List Int) (b : Int → Bool) (hl : l.length ≤ 1000000) (hcb : Callable prog f) (hm : ∀ x ∈ l, Meets prog f ([int x] ++ cap) { LI := L0, val := fun _ : Unit => .bool (b x) }) : Meets prog H8 [.slice A l.length cp, .func (.func f) #[] cap.toArray] { LI := Row A (rows l) :: L0, val := fun _ : Unit => .bool (l.any b) } := by
 refine d3 aT rfl n2 fun w0 => ?_; refine d4 (b6 rfl (j4 (b4 rfl (b4 rfl ?_)))); refine i5 cB rfl rfl (bX l b hl hcb hm) k8 ⟨m0, (LSub.of_mem fun F hF => List.mem_cons_of_mem _ hF)⟩ fun z hz => ?_; refine cT rfl rfl rfl (b6 rfl (c3 (j6 ?_))); exact ret1 () rfl (congrArg (fun b => some (Value.bool b)) (by have hz : (0 ≤ z ↔ l.any b = true) := hz; cases e : l.any b <;> simp_all)) rfl tK nK tK
theorem sP {g1 g2 : Nat} {A : Option Addr} {c : Nat} (ps : List (Sl Bool)) (v x : Nat) (hv : v < ps.length) (hx : x < (ps.getD v default).l.length) : Meets prog bK [int x, .pointer (i7 g1), .pointer (i7 g2)] { LI := [Row (i7 g1) (rows [(⟨A, c, ps⟩ : Sl (Sl Bool))]), Row (i7 g2) (rows [(v : Int)]), Row A (rows ps), innerF ps], val := fun _ : Unit => .bool ((ps.getD v default).l.getD x default) } := by
 refine d3 uU rfl n2 fun w0 => ?_; refine d4 (b6 rfl (j4 ?_)); refine b3 (v := .slice A ps.length c) rfl vJ rfl (i1 (A := some ⟨g1, 0, none⟩) mB (c5 (l := [(⟨A, c, ps⟩ : Sl (Sl Bool))]) (i := 0) Nat.zero_lt_one rfl)) (b3 (v := int v) rfl b5 rfl (i1 (A := some ⟨g2, 0, none⟩) mB (c5 (l := [(v : Int)]) (i := 0) Nat.zero_lt_one rfl)) (p8 (α := Sl Bool) ps v rfl J8 P1 rfl rfl rfl mB rfl hv (by decide) (b3 (v := .slice (ps.getD v default).a (ps.getD v default).l.length (ps.getD v default).c) rfl V9 rfl (i1 mB (c5 hv rfl)) ?_))); refine ix1 (F := Row (ps.getD v default).a (rows (ps.getD v default).l)) (Fs := ps.map fun p => Row p.a (rows p.l)) mB (List.mem_map.2 ⟨_, n7 hv, rfl⟩) ?_; refine b4 rfl (p8 (α := Bool) (ps.getD v default).l x rfl aJ J9 rfl rfl rfl mB rfl hx (by decide) (b3 (v := .bool ((ps.getD v default).l.getD x default)) rfl C2 rfl (i1 mB (c5 hx rfl)) ?_)); refine b6 rfl (c3 (j6 ?_)); exact ret1 () rfl rfl rfl tK nK tK
theorem qT {g1 : Nat} {A : Option Addr} {c : Nat} (l : List Bool) (x : Nat) (hx : x < l.length) : Meets prog aE [int x, .pointer (i7 g1)] { LI := [Row (i7 g1) (rows [(⟨A, c, l⟩ : Sl Bool)]), Row A (rows l)], val := fun _ : Unit => .bool (l.getD x default) } := by
 refine d3 sL rfl n2 fun w0 => ?_; refine d4 (b6 rfl (j4 ?_)); refine b3 (v := .slice A l.length c) rfl V9 rfl (i1 (A := some ⟨g1, 0, none⟩) mB (c5 (l := [(⟨A, c, l⟩ : Sl Bool)]) (i := 0) Nat.zero_lt_one rfl)) (b4 rfl (p8 (α := Bool) l x rfl aJ J9 rfl rfl rfl mB rfl hx (by decide) (b3 (v := .bool (l.getD x default)) rfl C2 rfl (i1 mB (c5 hx rfl)) ?_))); refine b6 rfl (c3 (j6 ?_)); exact ret1 () rfl rfl rfl tK nK tK
theorem V8 {A B : Option Addr} {ca cb : Nat} (cs : List Cl) (hs : List Hd) (hca : cs.length ≤ ca) (hcb : hs.length ≤ cb) (ha : ∀ h ∈ hs, h.2.2.2.l.length ≤ 1000000) : Meets prog dC [.agg #[.slice A cs.length ca, .slice B hs.length cb]] { LI := [Row A (rows cs), RowsF B hs Hd.row], val := fun _ : Unit => int (checkT (trOf cs hs)) } := by
 refine d3 wH rfl n2 fun w0 => d4 (B7 rfl rfl fun gB => ?_); refine b6 rfl (j4 ?_)
 first | refine J5 rfl i9 j0 rfl mB (by rfl) ?_ | refine w7 rfl i9 j0 rfl mB (by rfl) ?_ | refine y9 rfl i9 j0 rfl rfl (w5 mB (z6 (by omega))) ?_
 refine i5 gO rfl rfl (gK cs hs hca hcb ha) k8 mC fun _ _ => ?_; refine b6 rfl (c3 (j6 ?_)); exact ret1 () rfl rfl rfl tK nK tK
theorem az6 {cs : List Cl} {hs : List Hd} (h0 : checkT (trOf cs hs) = 0) {i : Nat} (hi : i < hs.length) : (stepsE (trOf cs hs) (i : Int)).1.length = hs.length := by
  have hl := y6 cs hs; have hh : 0 ≤ (i : Int) ∧ (i : Int) ≤ ((trOf cs hs).hs.length : Int) - 1 := by omega
  rw [show stepsE (trOf cs hs) i = (stepsT (trOf cs hs) i, 0) by rw [stepsE, if_neg (not_not_intro (yR h0 hh))]]; show (stepsT (trOf cs hs) i).length = _; rw [vK, hl]
theorem dj7 (cs : List Cl) (hs : List Hd) (hn : hs.length ≤ 1000000) (i : Nat) : (stepsE (trOf cs hs) (i : Int)).1.length ≤ 1000000 := by
  unfold stepsE
  split
  · simp
  show (stepsT (trOf cs hs) i).length ≤ _; rw [vK, y6]; exact hn
def fndOK (hs : List Hd) (rs : List (List Bool)) (ws : List Int) (s : List Int) : Bool := (s.all fun k => decide (0 ≤ (hs.getD k.toNat default).2.1)) && ws.all fun w => s.any fun k => (rs.getD w.toNat default).getD k.toNat default
def fndH (pr : List Int) (s : List Int) : Hn := (s, 0, (s.map fun k => pr.getD k.toNat default).sum)
def fndL (hs : List Hd) (rs : List (List Bool)) (pr ws : List Int) (k : Nat) : List Hn := (((List.range k).map fun s => pickK s hs.length).filter (fndOK hs rs ws)).map (fndH pr)
def fndB (t : Tr) (hs : List Hd) (pr ws : List Int) (p : Int) : Hn × Bool := bestL ordP (fndL hs (reachK t p hs.length) pr ws (2 ^ hs.length))
def prB (x : Int) : Prop := 0 ≤ x ∧ x ≤ 999
instance (x : Int) : Decidable (prB x) := by unfold prB; infer_instance
def foundE (cs : List Cl) (hs : List Hd) (pr ws : List Int) (p : Int) : Hn :=
  if ¬ checkT (trOf cs hs) = 0 then ([], 0, checkT (trOf cs hs)) else if pr.length < hs.length then ([], 0, 7) else if hs.length < pr.length then ([], 0, 6)
  else if ¬ ∀ x ∈ pr, prB x then ([], 0, 1) else if ¬ ∀ w ∈ ws, 0 ≤ w ∧ w ≤ (hs.length : Int) - 1 then ([], 0, 3) else if ¬ (0 ≤ p ∧ p ≤ 6) then ([], 0, 1)
  else if (fndB (trOf cs hs) hs pr ws p).2 = false then ([], 0, 11) else ((fndB (trOf cs hs) hs pr ws p).1.1, (fndB (trOf cs hs) hs pr ws p).1.2.2, 0)
theorem qC (hs : List Hd) (rs : List (List Bool)) (pr ws : List Int) (k : Nat) : fndL hs rs pr ws (k + 1) = if fndOK hs rs ws (pickK k hs.length) = true then fndL hs rs pr ws k ++ [fndH pr (pickK k hs.length)] else fndL hs rs pr ws k := by
  unfold fndL; rw [List.range_succ, List.map_append, List.filter_append, List.map_append]
  by_cases e : fndOK hs rs ws (pickK k hs.length) = true
  · rw [if_pos e]; simp [e]
  rw [if_neg e]; simp [e]
theorem cq5 {hs : List Hd} {rs : List (List Bool)} {ws s : List Int} {j : Nat} (hj : j < s.length) (h : (hs.getD (s.getD j default).toNat default).2.1 < 0) : ¬ fndOK hs rs ws s = true := by
  intro e; unfold fndOK at e; rw [Bool.and_eq_true] at e; have := of_decide_eq_true (List.all_eq_true.1 e.1 _ (n7 hj))
  omega
theorem gj2 {hs : List Hd} {rs : List (List Bool)} {ws s : List Int} {j : Nat} (hj : j < ws.length) (h : (s.any fun k => (rs.getD (ws.getD j default).toNat default).getD k.toNat default) = false) : ¬ fndOK hs rs ws s = true := by
  intro e; unfold fndOK at e; rw [Bool.and_eq_true] at e; have := List.all_eq_true.1 e.2 _ (n7 hj); rw [h] at this
  cases this
theorem fnd_yes {hs : List Hd} {rs : List (List Bool)} {ws s : List Int} (h1 : ∀ k ∈ s, 0 ≤ (hs.getD k.toNat default).2.1) (h2 : ∀ w ∈ ws, (s.any fun k => (rs.getD w.toNat default).getD k.toNat default) = true) : fndOK hs rs ws s = true := by
  unfold fndOK; rw [Bool.and_eq_true]; exact ⟨List.all_eq_true.2 fun k hk => decide_eq_true (h1 k hk), List.all_eq_true.2 h2⟩
end Go.Proofs.YtpihanmcnmlodaaGreatDoor
end
