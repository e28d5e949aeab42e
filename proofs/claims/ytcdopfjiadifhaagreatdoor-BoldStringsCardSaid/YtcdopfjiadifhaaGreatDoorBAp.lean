/- Texts. -/

import Derived.Test.YtcdopfjiadifhaaGreatDoorBAo
import Derived.Test.YtcdopfjiadifhaaGreatDoorBAl
set_option linter.unusedVariables false
set_option linter.unusedSimpArgs false
section
namespace Go.Proofs.YtcdopfjiadifhaaGreatDoor
open Go Go.W Tryz T F
set_option maxRecDepth 20000
attribute [local irreducible] HL HC HQ HB Row Rows2 Blk Facts
def splitB (b : UInt8) : Str → List Str
  | [] => [[]]
  | x :: r => if x = b then [] :: splitB b r else match splitB b r with
    | [] => [[x]]
    | h :: t => (x :: h) :: t
theorem bN (b : UInt8) : ∀ s : Str, (splitB b s).length = s.count b + 1
  | [] => rfl
  | x :: r => by
    have ih := bN b r; rw [splitB]
    by_cases h : x = b
    · rw [if_pos h, List.length_cons, ih, h, List.count_cons_self]
    rw [if_neg h, List.count_cons_of_ne h]
    cases hs : splitB b r with
    | nil => rw [hs] at ih; cases ih
    | cons a t => rw [hs] at ih; exact ih
theorem cq8 {b : UInt8} : ∀ {p : Str} (q : Str), b ∉ p → splitB b (p ++ b :: q) = p :: splitB b q
  | [], q, _ => by simp [splitB]
  | x :: p, q, h => by
    simp only [List.mem_cons, not_or] at h; rw [List.cons_append, splitB, if_neg (fun e => h.1 e.symm), cq8 q h.2]
theorem cq7 {b : UInt8} : ∀ {p : Str}, b ∉ p → splitB b p = [p]
  | [], _ => rfl
  | x :: p, h => by
    simp only [List.mem_cons, not_or] at h; rw [splitB, if_neg (fun e => h.1 e.symm), cq7 h.2]
theorem tx3 {b : UInt8} {s : Str} (h : 0 < s.count b) : ∃ j : Nat, Lib.indexByte s b = j ∧ j < s.length ∧ splitB b s = s.take j :: splitB b (s.drop (j + 1)) ∧ (s.drop (j + 1)).count b + 1 = s.count b := by
  rcases uG b s with ⟨_, _, h3⟩ | ⟨j, h1, h2, _, h4, h5⟩
  · exact absurd (List.count_pos_iff.1 h) h3
  rw [List.getElem?_eq_getElem h2] at h4; have hd : b :: s.drop (j + 1) = s.drop j := by rw [← Option.some.inj h4]; exact (List.drop_eq_getElem_cons h2).symm
  have hs : s = s.take j ++ b :: s.drop (j + 1) := by rw [hd, List.take_append_drop]
  refine ⟨j, h1, h2, ?_, ?_⟩
  · conv => lhs; rw [hs]
    exact cq8 _ h5
  conv => rhs; rw [hs]
  rw [List.count_append, List.count_cons_self, List.count_eq_zero_of_not_mem h5]
  omega
theorem pz6 {done : List Str} {k : Nat} {x : Str} : (done ++ List.replicate (k + 1) ([] : Str)).set done.length x = (done ++ [x]) ++ List.replicate k [] := by
  rw [List.set_append_right _ _ (Nat.le_refl _), Nat.sub_self, List.replicate_succ, List.set_cons_zero, List.append_assoc]
  rfl
theorem cnt_run (s : Str) (c : UInt8) (w : World) : (callFunc 133 [str s, Value.int .u8 (c.toNat : Int)].toArray).run prog w = .ok (.value (int (s.count c : Nat))) w := by
  show (callFunc 133 #[str s, Value.int .u8 (c.toNat : Int)]).run prog w = _; rw [run_callFunc_extern func133 p9 p9 p9 (e := Extern.BytealgCount.count) p9]; have h := Lib.run_countString (P := prog) ⟨s.toArray⟩ (c.toNat : Int) w; have e : ((c.toNat : Int).toNat).toUInt8 = c := by simp
  rw [e] at h; show Result.andThen (Sem.run prog (Extern.BytealgCount.count #[.string ⟨s.toArray⟩, .int .u8 (c.toNat : Int)]) w) _ = _; rw [h]
  rfl
instance (s : ByteArray) (c : Value) : QC (Extern.BytealgCount.count #[.string s, c]) := ⟨by unfold Extern.BytealgCount.count Extern.Bytes.bytesOf Extern.Bytes.asByte; exact m8⟩
theorem xq3 (s : Str) (c : UInt8) (w : World) : ∀ e ∈ (callFunc 133 [str s, Value.int .u8 (c.toNat : Int)].toArray).events prog w #[], Go.W.Calm e :=
  iz7 func133 p9 p9 p9 (e := Extern.BytealgCount.count) p9 _ (show Quiet (Extern.BytealgCount.count #[.string ⟨s.toArray⟩, .int .u8 (c.toNat : Int)]) from QC.out) w
abbrev blkS (g : Nat) (l : List Str) : Nat × Obj := (g, Obj.cells (rows l).toArray aD (0, 0))
theorem zS (s : Str) (b : UInt8) : Meets prog iY [str s, str [b]] { val := fun _ : Unit => int (s.count b : Nat) } := by
 refine j3 bj4 rfl t8 fun w0 => ?_; refine d9 (c7 rfl (d8 (i7 (d9 (b8 rfl ?_))))); refine C7 rfl l5 rfl ?_; refine G2 rfl rfl rfl (d8 ?_); refine m6 rfl (fun hb1 => ?_) (fun hb1 => ?_)
 ·exact absurd hb1 (by simp)
 refine j6 (i8 (i7 (d9 (b8 rfl ?_)))); refine C7 rfl l5 rfl ?_; refine G2 rfl rfl rfl (d8 ?_); refine c_t rfl lx1 ?_; refine d9 (b8 rfl (b8 rfl ?_)); refine E5 0 rfl l5 rfl rfl rfl rfl (mx7 rfl rfl (cnt_run s b) (xq3 s b) ?_); refine c7 rfl (d8 (J4 ?_)); exact ret1 () rfl rfl rfl tK nK tK
theorem zR (s : Str) (b : UInt8) : Meets prog iX [str s, str [b]] { val := fun _ : Unit => int (Lib.indexByte s b) } := by
 refine j3 bj3 rfl t8 fun w0 => ?_; refine d9 (c7 rfl (k6 (b8 rfl (b8 rfl ?_)))); refine j5 gW rfl rfl (gU s b) p6 tK fun _ _ => ?_; refine c7 rfl (d8 (k5 ?_)); exact ret1 () rfl rfl rfl tK nK tK
set_option maxHeartbeats 1000000 in
theorem kz9 (s : Str) (b : UInt8) (hs : s.length ≤ 1000000) : Meets prog cD [str s, str [b], int 0, int (-1)] { inv := fun A : Nat => True, val := fun g : Nat => .slice (d6 g) (splitB b s).length (splitB b s).length, LO := fun g => [Row (d6 g) (rows (splitB b s))] } := by
 have hcl : s.count b ≤ s.length := List.count_le_length; refine j3 wG rfl t8 fun w0 => ?_; refine d9 (c7 rfl (d8 (i7 (d9 (b8 rfl (G2 rfl rfl rfl (d8 ?_))))))); refine m6 rfl (fun hb1 => ?_) (fun hb1 => ?_)
 ·exact absurd hb1 (by decide)
 refine j6 (i8 (i7 (d9 (b8 rfl (Z0 rfl rfl rfl (d8 ?_)))))); refine c_f rfl lx3 ?_; refine j6 (i8 (i7 (d9 (b8 rfl (C4 rfl rfl rfl (d8 ?_)))))); refine c_t rfl lx1 ?_; refine j0 (b8 rfl (b8 rfl ?_)); refine j5 zW rfl rfl (zS s b) (.refl _) tK fun _ _ => ?_; refine v8 _ rfl rfl rfl rfl r6 ?_; refine c7 rfl (k6 (b8 rfl (b8 rfl ?_))); refine C7 rfl l5 rfl ?_; refine v8 _ rfl rfl rfl rfl r6 ?_; refine r_min (((s.count b) : Int) + 1) rfl rfl rfl (by split <;> omega) ?_; refine c7 rfl (k6 (b8 rfl ?_)); refine kj0 (α := Str) ([] : Str) (n := (s.count b) + 1) (bytes := 16) (z := .string ⟨#[]⟩) rfl p8 p9 rfl rfl rfl (by omega) (by omega) (by omega) fun g => ?_; refine c7 rfl (k6 (b8 rfl ?_)); refine W9 ((s.count b) : Int) rfl rfl rfl (by omega) r6 ?_; refine c7 rfl (k6 (c7 rfl (d8 (i7 (j8 ?_))))); refine y8 (β := Nat × Str × List Str) ⟨fun z => z.2.2.length = z.1 ∧ splitB b s = z.2.2 ++ splitB b z.2.1 ∧ z.2.1.count b + z.1 = (s.count b) ∧ z.2.1.length ≤ s.length, fun z => [(0, str z.2.1), (1, str [b]), (2, int 0), (3, int (s.count b)), (9, .slice (d6 g) ((s.count b) + 1) ((s.count b) + 1)), (10, int z.1)], fun z => [blkS g (z.2.2 ++ List.replicate ((s.count b) + 1 - z.1) [])], fun _ => []⟩ (fun z => (s.count b) - z.1) (0, s, []) ⟨rfl, rfl, rfl, Nat.le_refl _⟩ mC (.refl _) tK fun z hz => ?_; obtain ⟨i, cur, done⟩ := z; obtain ⟨hdl, hsp, hct, hcr⟩ := hz; simp only at hdl hsp hct hcr; refine i7 (d9 (b8 rfl (b8 rfl (C4 rfl rfl rfl (d8 ?_))))); refine m6 rfl (fun hb4 => ?_) (fun hb4 => ?_)
 ·have hi : i < (s.count b) := by simp at hb4; omega
  obtain ⟨j, hj1, hj2, hj3, hj4⟩ := tx3 (b := b) (s := cur) (by omega); refine j6 (i8 (j8 (d9 (b8 rfl (b8 rfl ?_))))); have hIx := zR cur b; rw [hj1] at hIx; refine j5 zV rfl rfl (hIx) (hpR := [_]) (.refl _) tK fun _ _ => ?_; refine c7 rfl (d8 (i7 (d9 (b8 rfl (C4 rfl rfl rfl (d8 ?_)))))); refine m6 rfl (fun hb5 => ?_) (fun hb5 => ?_)
  ·exact absurd hb5 (by omega)
  refine j6 (i8 (d9 (b8 rfl (b8 rfl (b8 rfl (b8 rfl (b8 rfl ?_))))))); refine v8 (j : Int) rfl rfl rfl (by omega) r6 (jQ (s := cur) j rfl l5 rfl rfl rfl (by omega) (B9 i i rfl p8 m7 rfl rfl rfl (by omega) (by omega) ?_)); refine sK (α := Str) (l := done ++ List.replicate ((s.count b) + 1 - i) []) (k := i) (f := 0) (cur.take j) rfl (by show i = i * 1 + 0; omega) rfl (.refl _) m7 (by rw [List.length_append, List.length_replicate]; omega) (by decide) rfl rfl ?_; have hset : (done ++ List.replicate ((s.count b) + 1 - i) ([] : Str)).set i (cur.take j) = (done ++ [cur.take j]) ++ List.replicate ((s.count b) + 1 - (i + 1)) [] := by rw [show (s.count b) + 1 - i = ((s.count b) + 1 - (i + 1)) + 1 by omega, ← hdl]; exact pz6
  rw [hset]; refine k6 (b8 rfl (b8 rfl (b8 rfl ?_))); refine C7 rfl l5 rfl ?_; refine v8 ((j + 1 : Nat) : Int) rfl rfl rfl (by simp) r6 ?_; refine dR (s := cur) (j + 1) rfl l5 rfl rfl rfl (by omega) ?_; refine c7 rfl (d8 (j0 (b8 rfl ?_))); refine v8 _ rfl rfl rfl rfl r6 ?_; refine c7 rfl (j4 (w9 ?_)); exact again _ (i + 1, cur.drop (j + 1), done ++ [cur.take j]) ⟨by show (done ++ [_]).length = i + 1; rw [List.length_append, hdl]; rfl, by show splitB b s = (done ++ [_]) ++ _; rw [hsp, hj3, List.append_assoc]; rfl, by show (cur.drop (j + 1)).count b + (i + 1) = (s.count b); omega, by show (cur.drop (j + 1)).length ≤ s.length; rw [List.length_drop]; omega⟩ (C8 (by omega)) mC (.refl _) tK
 have hi : i = (s.count b) := by simp at hb4; omega
 have hno : b ∉ cur := fun hm => by have := List.count_pos_iff.2 hm; omega
 rw [cq7 hno] at hsp; refine w8 (E4 (w6 (i8 (d9 (b8 rfl (b8 rfl (b8 rfl ?_))))))); refine B9 i i rfl p8 m7 rfl rfl rfl (by omega) (by omega) ?_; refine sK (α := Str) (l := done ++ List.replicate ((s.count b) + 1 - i) []) (k := i) (f := 0) cur rfl (by show i = i * 1 + 0; omega) rfl (.refl _) m7 (by rw [List.length_append, List.length_replicate]; omega) (by decide) rfl rfl ?_; have hset : (done ++ List.replicate ((s.count b) + 1 - i) ([] : Str)).set i cur = splitB b s := by rw [show (s.count b) + 1 - i = 0 + 1 by omega, ← hdl, pz6, hsp]; simp
 rw [hset]; refine k6 (b8 rfl (b8 rfl ?_)); refine v8 ((i + 1 : Nat) : Int) rfl rfl rfl (by simp) r6 ?_; refine uB (i + 1) rfl p8 m7 rfl rfl rfl (by omega) ?_; refine c7 rfl (d8 (k5 ?_)); refine H6 (rows (splitB b s)) (List.prefix_refl _) ?_; exact ret1 g rfl (by show some (Value.slice _ (i + 1) (s.count b + 1)) = some (Value.slice _ _ _); rw [bN, hi]) rfl tK nK ⟨m0, tK⟩
theorem zQ (s : Str) (b : UInt8) (hs : s.length ≤ 1000000) : Meets prog iW [str s, str [b]] { inv := fun A : Nat => True, val := fun g : Nat => .slice (d6 g) (splitB b s).length (splitB b s).length, LO := fun g => [Row (d6 g) (rows (splitB b s))] } := by
 refine j3 bj2 rfl t8 fun w0 => ?_; refine d9 (c7 rfl (k6 (b8 rfl (b8 rfl ?_)))); refine j5 uO rfl rfl (kz9 s b hs) p6 tK fun g _ => ?_; refine c7 rfl (d8 (k5 ?_)); exact ret1 g rfl rfl rfl tK nK ⟨m0, tK⟩
def formB (w ns : List Str) : Bool := decide (w.length = ns.length) && (List.range ns.length).all fun i => decide (ns.getD i default = []) || decide (ns.getD i default = w.getD i default)
theorem sz8 {w ns : List Str} {k : Nat} (hk : k < ns.length) (h1 : ¬ ns.getD k default = []) (h2 : ¬ ns.getD k default = w.getD k default) : formB w ns = false := by
  unfold formB; rw [Bool.and_eq_false_iff]; refine .inr ?_; rw [List.all_eq_false]; exact ⟨k, List.mem_range.2 hk, by rw [decide_eq_false h1, decide_eq_false h2]; decide⟩
theorem yM {w ns : List Str} (h : formB w ns = true) : w.length = ns.length := by
  unfold formB at h; rw [Bool.and_eq_true, decide_eq_true_eq] at h; exact h.1
theorem kx3 {f : Nat → Bool} {k : Nat} (h : (List.range k).all f = true) (h1 : f k = true) : (List.range (k + 1)).all f = true := by
  rw [List.range_succ, List.all_append, h]; simp [h1]
theorem cY {A B : Option Addr} {ca cb : Nat} (w ns : List Str) (hw : w.length ≤ 1000000) (hn : ns.length ≤ 1000000) : MeetsE prog uY [.slice A w.length ca, .slice B ns.length cb] { LI := [Row A (rows w), Row B (rows ns)], inv := fun _ : Unit => formB w ns = true, val := fun _ => .tuple #[] } { inv := fun _ : Unit => formB w ns = false, val := fun _ => oddV } := by
 refine uF lj5 rfl t8 fun w0 => ?_; refine i7 (d9 (b8 rfl ?_)); refine l7 rfl p8 rfl (b8 rfl (l7 rfl p8 rfl ?_)); refine P9 rfl rfl rfl (d8 ?_); refine m6 rfl (fun hb1 => ?_) (fun hb1 => ?_)
 ·refine j0 (v9 _ rfl rfl (fun _ => I8 ..) (jR rfl ⟨_, underlying130, rfl⟩ rfl (gO rfl (fun _ => rfl) ?_)))
  repeat (first | refine K1 ?_ | refine M8 ?_)
  exact S1 () rfl rfl (by unfold formB; rw [decide_eq_false (by omega)]; rfl) (.refl _) tK
 have hlen : w.length = ns.length := by omega
 refine j6 (i8 (d9 (b8 rfl ?_))); refine l7 rfl p8 rfl ?_; refine b8 rfl (d8 (j8 ?_)); refine y8 (β := Nat) ⟨fun k => k ≤ ns.length ∧ (List.range k).all (fun i => decide (ns.getD i default = []) || decide (ns.getD i default = w.getD i default)) = true, fun k => [(0, .slice A w.length ca), (13, .slice B ns.length cb), (14, int ns.length), (15, int k)], fun _ => [], fun _ => [Row A (rows w), Row B (rows ns)]⟩ (fun k => ns.length - k) 0 ⟨Nat.zero_le _, rfl⟩ mC (.refl _) mC fun k hk => ?_; obtain ⟨hk0, hall⟩ := hk; refine d9 (C4 rfl rfl rfl (d8 (i7 ?_))); refine m6 rfl (fun hb2 => ?_) (fun hb2 => ?_)
 ·have hk1 : k < ns.length := by simp at hb2; omega
  refine j6 (i8 (i7 (j8 (d9 (b8 rfl ?_))))); refine r8 (α := Str) ns k rfl p8 m7 rfl rfl rfl mB rfl hk1 (by decide) (c8 (v := str (ns.getD k default)) rfl l3 rfl (k9 mB (j9 hk1 rfl)) ?_); refine c7 rfl (c7 rfl (k6 (b8 rfl (qT rfl rfl rfl (b8 rfl ?_))))); refine t7 rfl rfl ?_ ?_
  ·intro hg1; refine l9 hg1 (b8 rfl (l9 hg1 (b8 rfl (l9 hg1 (b8 rfl (l9 hg1 ?_)))))); refine r8 (α := Str) w k rfl p8 m7 rfl rfl rfl mB rfl (by omega) (by decide) (l9 hg1 (c8 (v := str (w.getD k default)) rfl l3 rfl (k9 mB (j9 (by omega) rfl)) ?_)); refine l9 hg1 (qT rfl rfl rfl ?_); refine p_t rfl rfl (bt1 hg1) rfl (d8 ?_); refine m6 rfl (fun hb3 => ?_) (fun hb3 => ?_)
   ·refine j0 (v9 _ rfl rfl (fun _ => I8 ..) (jR rfl ⟨_, underlying130, rfl⟩ rfl (gO rfl (fun _ => rfl) ?_)))
    repeat (first | refine K1 ?_ | refine M8 ?_)
    exact S1 () rfl rfl (sz8 hk1 (by simpa using hg1) (by simpa using hb3)) (.refl _) tK
   refine j6 (w9 (i8 (j0 ?_))); refine v8 _ rfl rfl rfl rfl r6 ?_; refine b8 rfl (j4 ?_); exact again _ (k + 1) ⟨hk1, kx3 hall (by rw [decide_eq_true (p := (ns.getD k default) = (w.getD k default)) (by simpa using hb3)]; simp)⟩ (C8 (by omega)) mC (.refl _) mC
  intro hg1; refine q7 hg1 (q7 hg1 (q7 hg1 (q7 hg1 (q7 hg1 (q7 hg1 ?_))))); refine p_f rfl rfl (bf2 hg1) rfl ?_; refine d8 (c_f rfl rfl (j6 (w9 (i8 (j0 ?_))))); refine v8 _ rfl rfl rfl rfl r6 ?_; refine b8 rfl (j4 ?_); exact again _ (k + 1) ⟨hk1, kx3 hall (by rw [decide_eq_true (p := (ns.getD k default) = []) (by simpa using hg1)]; rfl)⟩ (C8 (by omega)) mC (.refl _) mC
 have hk1 : k = ns.length := by simp at hb2; omega
 subst hk1; refine w8 (E4 (w6 (kz2 ?_))); exact ret0n () rfl rfl rfl (by show formB w ns = true; unfold formB; rw [decide_eq_true hlen, hall]; rfl) (.refl _) tK
def numsS : List Str → Option (List Int)
  | [] => some []
  | t :: r => match numS t with
    | none => none
    | some z => match numsS r with
      | none => none
      | some l => some (z :: l)
theorem sQ : ∀ {l : List Str} {t : Str}, t ∈ l → numS t = none → numsS l = none
  | [], t, h, _ => by simp at h
  | a :: l, t, h, hn => by
    rw [numsS]
    rcases List.mem_cons.1 h with rfl | h
    · rw [hn]
    cases numS a with
    | none => rfl
    | some z => rw [sQ h hn]
theorem gz1 : ∀ {l : List Str} {r : List Int} {t : Str} {z : Int}, numsS l = some r → numS t = some z → numsS (l ++ [t]) = some (r ++ [z])
  | [], r, t, z, h, hz => by
    cases h
    show numsS [t] = _; rw [numsS, hz]
    rfl
  | a :: l, r, t, z, h, hz => by
    rw [numsS] at h
    cases ha : numS a with
    | none => rw [ha] at h; cases h
    | some y =>
      rw [ha] at h
      cases hl : numsS l with
      | none => rw [hl] at h; cases h
      | some q =>
        rw [hl] at h
        cases h
        rw [List.cons_append, numsS, ha, gz1 hl hz]
        rfl
theorem sR : ∀ {l : List Str} {r : List Int}, numsS l = some r → r.length = l.length
  | [], r, h => by cases h; rfl
  | a :: l, r, h => by
    rw [numsS] at h
    cases ha : numS a with
    | none => rw [ha] at h; cases h
    | some y =>
      rw [ha] at h
      cases hl : numsS l with
      | none => rw [hl] at h; cases h
      | some q => rw [hl] at h; cases h; rw [List.length_cons, List.length_cons, sR hl]
def tariffS : Str := [116, 97, 114, 105, 102, 102]
def offS0 : Str := [111, 102, 102]
def fromS : Str := [102, 114, 111, 109]
def streetsS : Str := [115, 116, 114, 101, 101, 116, 115]
def plainS : Str := [112, 108, 97, 105, 110]
def boldS : Str := [98, 111, 108, 100]
def cardS : Str := [99, 97, 114, 100]
def soldS : Str := [115, 111, 108, 100]
def nm0 : List Str := [tariffS, [], [], [], [], offS0, [], fromS, []]
def nmP : List Str := [[], plainS]
def nmB : List Str := [[], boldS, []]
def at_ (w : List Str) (k : Nat) : Str := w.getD k default
def sixS (w : List Str) : List Str := [at_ w 1, at_ w 2, at_ w 3, at_ w 4, at_ w 6, at_ w 8]
def chS (w : List Str) : Option Ch := if formB w nm0 = false then none else match numsS (sixS w) with
  | some [a, b, c, d, e, f] => some (a, b, c, d, e, f)
  | _ => none
def stS (w : List Str) : Option (List Int) := if w.length < 2 ∨ ¬ at_ w 0 = streetsS then none else numsS (w.drop 1)
def twoS (w : List Str) (k : Int) : Option Ad := match numsS [at_ w 0, at_ w 2] with
  | some [a, b] => some (a, k, b)
  | _ => none
def advS (w : List Str) : Option Ad :=
  if w.length = 2 then (if formB w nmP = false then none else match numS (at_ w 0) with
    | some z => some (z, 1, 1)
    | none => none)
  else if w.length = 3 ∧ at_ w 1 = cardS then twoS w 3
  else if formB w nmB = false then none else twoS w 2
abbrev SaT := Ch × List Int × List Ad
def takeW (i : Nat) (w : List Str) (s : SaT) : Option SaT :=
  if i = 0 then match chS w with
    | some c => some (c, s.2.1, s.2.2)
    | none => none
  else if i = 1 then match stS w with
    | some l => some (s.1, s.2.1 ++ l, s.2.2)
    | none => none
  else match advS w with
    | some x => some (s.1, s.2.1, s.2.2 ++ [x])
    | none => none
theorem sD (b : UInt8) : ∀ (s : Str), ∀ w ∈ splitB b s, w.length ≤ s.length
  | [], w, h => by simp [splitB] at h; subst h; exact Nat.le_refl _
  | x :: r, w, h => by
    rw [splitB] at h
    by_cases hx : x = b
    · rw [if_pos hx] at h
      rcases List.mem_cons.1 h with rfl | h
      · exact Nat.zero_le _
      have := sD b r w h; rw [List.length_cons]; omega
    rw [if_neg hx] at h; have hl := bN b r
    cases hs : splitB b r with
    | nil => rw [hs] at hl; cases hl
    | cons a t =>
      rw [hs] at h
      rcases List.mem_cons.1 h with rfl | h
      · have := sD b r a (by rw [hs]; exact List.mem_cons_self); simp only [List.length_cons]; omega
      have := sD b r w (by rw [hs]; exact List.mem_cons_of_mem _ h); rw [List.length_cons]; omega
abbrev SlS := OutC × Nat
abbrev tkC (c : Ch) (o1 o2 : SlS) : Array Value := #[int c.1, int c.2.1, int c.2.2.1, int c.2.2.2.1, int c.2.2.2.2.1, int c.2.2.2.2.2, .slice o1.1.1 o1.2 o1.1.2, .slice o2.1.1 o2.2 o2.1.2]
abbrev tkO (g : Nat) (c : Ch) (o1 o2 : SlS) : Nat × Obj := (g, Obj.cells (tkC c o1 o2) r7 (0, 0))
structure Tk where
  s : SaT
  o1 : OutC
  h1 : Hp
  o2 : OutC
  h2 : Hp
structure Tk.ok (t : Tk) : Prop where
  g1 : Grow H8 1 t.o1.1 t.s.2.1.length t.o1.2 (rows t.s.2.1) t.h1
  g2 : Grow C6 3 t.o2.1 t.s.2.2.length t.o2.2 (rows t.s.2.2) t.h2
abbrev Tk.hp (g : Nat) (t : Tk) : Hp := tkO g t.s.1 (t.o1, t.s.2.1.length) (t.o2, t.s.2.2.length) :: (t.h1 ++ t.h2)
abbrev Dead := Ch × SlS × SlS
theorem nj1 {w : List Str} {t : Str} (h : t ∈ sixS w) (hn : numS t = none) : chS w = none := by
  unfold chS
  split
  · rfl
  rw [sQ h hn]
theorem wU {w : List Str} {t : Str} {k : Int} (h : t ∈ [at_ w 0, at_ w 2]) (hn : numS t = none) : twoS w k = none := by
  unfold twoS; rw [sQ h hn]
theorem jz6 {w : List Str} {k a b : Int} (h1 : numS (at_ w 0) = some a) (h2 : numS (at_ w 2) = some b) : twoS w k = some (a, k, b) := by
  unfold twoS numsS; rw [h1]; unfold numsS; rw [h2]
  rfl
theorem ch_yes {w : List Str} {y : Ch} (hf : formB w nm0 = true) (h : numS (at_ w 1) = some y.1 ∧ numS (at_ w 2) = some y.2.1 ∧ numS (at_ w 3) = some y.2.2.1 ∧ numS (at_ w 4) = some y.2.2.2.1 ∧ numS (at_ w 6) = some y.2.2.2.2.1 ∧ numS (at_ w 8) = some y.2.2.2.2.2) : chS w = some y := by
  obtain ⟨h1, h2, h3, h4, h5, h6⟩ := h; unfold chS; rw [if_neg (by rw [hf]; decide)]; have : numsS (sixS w) = some [y.1, y.2.1, y.2.2.1, y.2.2.2.1, y.2.2.2.2.1, y.2.2.2.2.2] := by simp [sixS, numsS, h1, h2, h3, h4, h5, h6]
  rw [this]
theorem lenA {α : Type} {xs : List α} {x : α} : (xs ++ [x]).length = xs.length + 1 := by simp
theorem tk0 {i : Nat} {w : List Str} {s : SaT} (h0 : i = 0) (h : chS w = none) : takeW i w s = none := by rw [takeW, if_pos h0, h]
theorem tk1 {i : Nat} {w : List Str} {s : SaT} (h1 : i = 1) (h : stS w = none) : takeW i w s = none := by rw [takeW, if_neg (by omega), if_pos h1, h]
theorem tk2 {i : Nat} {w : List Str} {s : SaT} (h0 : ¬ i = 0) (h1 : ¬ i = 1) (h : advS w = none) : takeW i w s = none := by rw [takeW, if_neg h0, if_neg h1, h]
theorem tk2y {i : Nat} {w : List Str} {s : SaT} {x : Ad} (h0 : ¬ i = 0) (h1 : ¬ i = 1) (h : advS w = some x) : takeW i w s = some (s.1, s.2.1, s.2.2 ++ [x]) := by rw [takeW, if_neg h0, if_neg h1, h]
theorem Y1 {w : List Str} (k : Nat) (h : k < w.length) : at_ w k ∈ w := A3 h
set_option maxHeartbeats 4000000 in
theorem vP (gs : Nat) (t : Tk) (ht : t.ok) (hb1 : t.s.2.1.length ≤ 100000) (hb2 : t.s.2.2.length ≤ 100000) (i : Nat) (line : Str) (hl : line.length ≤ 1000) :
  MeetsE prog uW [.pointer (d6 gs), int i, str line] { hpI := t.hp gs, inv := fun y : Tk => takeW i (splitB 32 line) t.s = some y.s ∧ y.ok, val := fun _ => .tuple #[], hpO := fun y => y.hp gs } { inv := fun _ : Dead => takeW i (splitB 32 line) t.s = none, val := fun _ => oddV, hpO := fun y => [tkO gs y.1 y.2.1 y.2.2] } := by
 obtain ⟨w, hw⟩ : ∃ w, splitB 32 line = w := ⟨_, rfl⟩; have hS := zQ line 32 (by omega); have hwl := sD 32 line; have hwn := bN 32 line; have hcl : line.count 32 ≤ line.length := List.count_le_length; rw [hw] at hS hwl hwn; rw [hw]; obtain ⟨⟨c, ss, xs⟩, o1, h1, o2, h2⟩ := t; obtain ⟨g1, g2⟩ := ht; simp only at g1 g2 hb1 hb2; refine uF lj4 rfl t8 fun w0 => ?_; refine d9 (b8 rfl ?_); refine j5 zU rfl rfl (hS) (hpR := tkO gs c (o1, ss.length) (o2, xs.length) :: (h1 ++ h2)) (.refl _) tK fun gw _ => ?_; refine c7 rfl (d8 (j8 (d9 (b8 rfl (G2 rfl rfl rfl (c7 rfl (d8 ?_))))))); refine m6 rfl (fun hb1 => ?_) (fun hb1 => ?_)
 ·have hi0 : i = 0 := by omega
  refine d9 (b8 rfl ?_); refine p7 _ rfl rfl (fun _ => nq2 ..) fun gn => E0 (rows nm0) (List.prefix_refl _) ?_; refine M3 cW rfl rfl (cY w nm0 (by omega) (by decide)) (hpR := tkO gs c (o1, ss.length) (o2, xs.length) :: (h1 ++ h2)) (.refl _) mC (fun _ hy => by (repeat (first | refine K1 ?_ | refine M8 ?_)); exact S1 ((c, (o1, ss.length), (o2, xs.length)) : Dead) rfl rfl (tk0 hi0 (by rw [chS, if_pos hy])) (.cons_cons _ nK) tK) ?_; refine fun _ hf => ?_; have h9 : w.length = 9 := yM hf; refine d8 ?_; refine sV ([]) (tkO gs c (o1, ss.length) (o2, xs.length) :: (h1 ++ h2)) (.refl _) 26 [] [4, 8, 12, 16, 20, 24] (fun ch => ch = [{ v := oddV, recovered := false }] ∧ takeW i w (c, ss, xs) = none) mixed (by decide) (by decide) (by decide) (by decide) rfl rfl (fun ch hch => by obtain ⟨rfl, hno⟩ := hch; (repeat (first | refine K1 ?_ | refine M8 ?_)); exact S1 ((c, (o1, ss.length), (o2, xs.length)) : Dead) rfl rfl hno (by first | exact .cons_cons _ nK | exact List.Sublist.trans (.cons_cons _ nK) (List.sublist_append_right _ _)) tK) ?_; refine u4 rfl (u4 rfl (k7 (fun w1 => r8 (α := Str) w 1 rfl p8 m7 rfl rfl rfl (List.mem_append_right _ m1) rfl (by omega) (by decide) (q_z rfl)) (k7 (fun w1 => c8 (v := str (at_ w 1)) rfl l3 rfl (k9 (List.mem_append_right _ m1) (j9 (by omega) rfl)) (q_z rfl)) ?_))); refine gV ⟨Int, fun z => numS (at_ w 1) = some z, fun z => int z, fun _ => []⟩ rfl rfl rfl ?_ ?_
  ·intro w1; refine M3 D1 rfl rfl (D2 (at_ w 1) (by have := hwl (at_ w 1) (Y1 _ (by omega)); omega)) (hpR := []) (.refl _) tK (fun _ hy => by refine aQ ?_; exact ⟨by simp, rfl, tk0 hi0 (nj1 (by simp [sixS]) hy)⟩) ?_; refine fun z hz => ?_; refine j4 ?_; exact V5 z hz rfl tK
  refine u4 rfl (k7 (fun w1 => r8 (α := Str) w 2 rfl p8 m7 rfl rfl rfl (List.mem_append_right _ m1) rfl (by omega) (by decide) (q_z rfl)) (k7 (fun w1 => c8 (v := str (at_ w 2)) rfl l3 rfl (k9 (List.mem_append_right _ m1) (j9 (by omega) rfl)) (q_z rfl)) ?_)); refine gV ⟨Int, fun z => numS (at_ w 2) = some z, fun z => int z, fun _ => []⟩ rfl rfl rfl ?_ ?_
  ·intro w1; refine M3 D1 rfl rfl (D2 (at_ w 2) (by have := hwl (at_ w 2) (Y1 _ (by omega)); omega)) (hpR := []) (.refl _) tK (fun _ hy => by refine aQ ?_; exact ⟨by simp, rfl, tk0 hi0 (nj1 (by simp [sixS]) hy)⟩) ?_; refine fun z hz => ?_; refine j4 ?_; exact V5 z hz rfl tK
  refine u4 rfl (k7 (fun w1 => r8 (α := Str) w 3 rfl p8 m7 rfl rfl rfl (List.mem_append_right _ m1) rfl (by omega) (by decide) (q_z rfl)) (k7 (fun w1 => c8 (v := str (at_ w 3)) rfl l3 rfl (k9 (List.mem_append_right _ m1) (j9 (by omega) rfl)) (q_z rfl)) ?_)); refine gV ⟨Int, fun z => numS (at_ w 3) = some z, fun z => int z, fun _ => []⟩ rfl rfl rfl ?_ ?_
  ·intro w1; refine M3 D1 rfl rfl (D2 (at_ w 3) (by have := hwl (at_ w 3) (Y1 _ (by omega)); omega)) (hpR := []) (.refl _) tK (fun _ hy => by refine aQ ?_; exact ⟨by simp, rfl, tk0 hi0 (nj1 (by simp [sixS]) hy)⟩) ?_; refine fun z hz => ?_; refine j4 ?_; exact V5 z hz rfl tK
  refine u4 rfl (k7 (fun w1 => r8 (α := Str) w 4 rfl p8 m7 rfl rfl rfl (List.mem_append_right _ m1) rfl (by omega) (by decide) (q_z rfl)) (k7 (fun w1 => c8 (v := str (at_ w 4)) rfl l3 rfl (k9 (List.mem_append_right _ m1) (j9 (by omega) rfl)) (q_z rfl)) ?_)); refine gV ⟨Int, fun z => numS (at_ w 4) = some z, fun z => int z, fun _ => []⟩ rfl rfl rfl ?_ ?_
  ·intro w1; refine M3 D1 rfl rfl (D2 (at_ w 4) (by have := hwl (at_ w 4) (Y1 _ (by omega)); omega)) (hpR := []) (.refl _) tK (fun _ hy => by refine aQ ?_; exact ⟨by simp, rfl, tk0 hi0 (nj1 (by simp [sixS]) hy)⟩) ?_; refine fun z hz => ?_; refine j4 ?_; exact V5 z hz rfl tK
  refine u4 rfl (k7 (fun w1 => r8 (α := Str) w 6 rfl p8 m7 rfl rfl rfl (List.mem_append_right _ m1) rfl (by omega) (by decide) (q_z rfl)) (k7 (fun w1 => c8 (v := str (at_ w 6)) rfl l3 rfl (k9 (List.mem_append_right _ m1) (j9 (by omega) rfl)) (q_z rfl)) ?_)); refine gV ⟨Int, fun z => numS (at_ w 6) = some z, fun z => int z, fun _ => []⟩ rfl rfl rfl ?_ ?_
  ·intro w1; refine M3 D1 rfl rfl (D2 (at_ w 6) (by have := hwl (at_ w 6) (Y1 _ (by omega)); omega)) (hpR := []) (.refl _) tK (fun _ hy => by refine aQ ?_; exact ⟨by simp, rfl, tk0 hi0 (nj1 (by simp [sixS]) hy)⟩) ?_; refine fun z hz => ?_; refine j4 ?_; exact V5 z hz rfl tK
  refine u4 rfl (k7 (fun w1 => r8 (α := Str) w 8 rfl p8 m7 rfl rfl rfl (List.mem_append_right _ m1) rfl (by omega) (by decide) (q_z rfl)) (k7 (fun w1 => c8 (v := str (at_ w 8)) rfl l3 rfl (k9 (List.mem_append_right _ m1) (j9 (by omega) rfl)) (q_z rfl)) ?_)); refine gV ⟨Int, fun z => numS (at_ w 8) = some z, fun z => int z, fun _ => []⟩ rfl rfl rfl ?_ ?_
  ·intro w1; refine M3 D1 rfl rfl (D2 (at_ w 8) (by have := hwl (at_ w 8) (Y1 _ (by omega)); omega)) (hpR := []) (.refl _) tK (fun _ hy => by refine aQ ?_; exact ⟨by simp, rfl, tk0 hi0 (nj1 (by simp [sixS]) hy)⟩) ?_; refine fun z hz => ?_; refine j4 ?_; exact V5 z hz rfl tK
  refine U5 ⟨Ch, fun y => numS (at_ w 1) = some y.1 ∧ numS (at_ w 2) = some y.2.1 ∧ numS (at_ w 3) = some y.2.2.1 ∧ numS (at_ w 4) = some y.2.2.2.1 ∧ numS (at_ w 6) = some y.2.2.2.2.1 ∧ numS (at_ w 8) = some y.2.2.2.2.2, fun y => chV y, fun _ => []⟩ rfl rfl rfl ?_ ?_
  ·intro z1 q1 z2 q2 z3 q3 z4 q4 z5 q5 z6 q6; intro w1; refine v9 _ rfl rfl (fun _ => K9 ..) (j4 ?_); exact I9 (z1, z2, z3, z4, z5, z6) ⟨q1, q2, q3, q4, q5, q6⟩ rfl tK
  refine E1 ⟨⟨rfl, rfl⟩, ?_⟩; intro _ _ _ _ _ _ _ _ _ _ _ _ y hy; refine r9 rfl rfl (a9 ⟨_, 0, none⟩ rfl rfl E9 rfl ?_); refine cx0 (cs := #[int y.1, int y.2.1, int y.2.2.1, int y.2.2.2.1, int y.2.2.2.2.1, int y.2.2.2.2.2]) rfl rfl (.refl _) u3 (by show 0 + 6 ≤ 8; decide) (by rfl) ?_; refine j4 (w9 (kz2 ?_)); exact ret0n (⟨(y, ss, xs), o1, h1, o2, h2⟩ : Tk) rfl rfl rfl ⟨by rw [takeW, if_pos hi0, ch_yes hf hy], ⟨g1, g2⟩⟩ (.refl _) tK
 have hb1' := hb1; try simp at hb1'
 have hi0 : ¬ i = 0 := by omega
 refine d9 (b8 rfl (G2 rfl rfl rfl (c7 rfl (d8 ?_)))); refine m6 rfl (fun hb2 => ?_) (fun hb2 => ?_)
 ·have hb2' := hb2; try simp at hb2'
  have hi1 : i = 1 := by omega
  refine kE ⟨fun _ : Unit => ¬ (w.length < 2 ∨ ¬ at_ w 0 = streetsS), fun _ => [(0, .pointer (d6 gs)), (6, .slice (d6 gw) w.length w.length)], fun _ => tkO gs c (o1, ss.length) (o2, xs.length) :: (h1 ++ h2), fun _ => [Row (d6 gw) (rows w)]⟩ ?_ ?_
  ·skip
   refine d9 (b8 rfl ?_); refine l7 rfl p8 rfl ?_; refine C4 rfl rfl rfl (b8 rfl ?_); refine t7 rfl rfl ?_ ?_
   ·intro hg1; have hg1' := hg1; try simp at hg1'
    refine l9 hg1 (b8 rfl (l9 hg1 ?_)); refine r8 (α := Str) w 0 rfl p8 m7 rfl rfl rfl mB rfl (by omega) (by decide) (l9 hg1 (c8 (v := str (at_ w 0)) rfl l3 rfl (k9 mB (j9 (by omega) rfl)) ?_)); refine l9 hg1 (qT rfl rfl rfl ?_); refine p_f rfl rfl (bf1 hg1) rfl (d8 ?_); refine m6 rfl (fun hb3 => ?_) (fun hb3 => ?_)
    ·refine j0 (v9 _ rfl rfl (fun _ => I8 ..) (jR rfl ⟨_, underlying130, rfl⟩ rfl (gO rfl (fun _ => rfl) ?_)))
     (repeat (first | refine K1 ?_ | refine M8 ?_))
     exact S1 ((c, (o1, ss.length), (o2, xs.length)) : Dead) rfl rfl (tk1 hi1 (by rw [stS, if_pos (by first | exact .inl (by omega) | (exact .inr (by assumption)) | (refine .inr ?_; simp_all))])) (.cons_cons _ nK) tK
    have hb3' := hb3; try simp at hb3'
    refine j6 ?_; exact P5 _ () (by first | (intro h9; rcases h9 with h9 | h9 <;> first | omega | exact h9 (by first | assumption | exact Classical.not_not.1 (by assumption)))) mC (.refl _) mC
   intro hg1; have hg1' := hg1; try simp at hg1'
   refine q7 hg1 (q7 hg1 (q7 hg1 (q7 hg1 ?_))); refine p_t rfl rfl (bt2 hg1) rfl ?_; refine d8 (c_t rfl rfl (j0 ?_)); refine v9 _ rfl rfl (fun _ => I8 ..) (jR rfl ⟨_, underlying130, rfl⟩ rfl (gO rfl (fun _ => rfl) ?_))
   (repeat (first | refine K1 ?_ | refine M8 ?_))
   exact S1 ((c, (o1, ss.length), (o2, xs.length)) : Dead) rfl rfl (tk1 hi1 (by rw [stS, if_pos (by first | exact .inl (by omega) | (exact .inr (by assumption)) | (refine .inr ?_; simp_all))])) (.cons_cons _ nK) tK
  intro _ hst; simp only at hst; have hw2 : 2 ≤ w.length := by omega
  refine d9 (b8 rfl ?_); refine wx6 (α := Str) (A := some ⟨gw, 0, none⟩) (p := w) (ca := w.length) 1 w.length mB (Nat.le_refl _) ?_; rw [List.take_length]; refine ax5 1 rfl p8 m7 rfl rfl rfl (by omega) ?_; have hdl : w.length - 1 = (w.drop 1).length := by rw [List.length_drop]
  rw [hdl]; have hwd : ∀ u ∈ w.drop 1, u.length ≤ 1000 := fun u hu => by have := hwl u (List.mem_of_mem_drop hu); omega
  refine l7 rfl p8 rfl ?_; refine b8 rfl (d8 (j8 ?_)); refine y8 (β := Nat × List Int × OutC × Hp) ⟨fun z => z.1 ≤ (w.drop 1).length ∧ numsS ((w.drop 1).take z.1) = some z.2.1 ∧ Grow H8 1 z.2.2.1.1 (ss ++ z.2.1).length z.2.2.1.2 (rows (ss ++ z.2.1)) z.2.2.2, fun z => [(0, .pointer (d6 gs)), (81, .slice (cutA (d6 gw) w.length 1 1) (w.drop 1).length (w.drop 1).length), (82, int (w.drop 1).length), (83, int z.1)], fun z => tkO gs c (z.2.2.1, (ss ++ z.2.1).length) (o2, xs.length) :: (z.2.2.2 ++ h2), fun _ => [Row (cutA (d6 gw) w.length 1 1) (rows (w.drop 1))]⟩ (fun z => (w.drop 1).length - z.1) (0, [], o1, h1) ⟨Nat.zero_le _, rfl, by rw [List.append_nil]; exact g1⟩ mC (by show List.Sublist (tkO gs c (o1, (ss ++ []).length) (o2, xs.length) :: (h1 ++ h2)) _; rw [List.append_nil]; exact .refl _) mC fun z hz => ?_; obtain ⟨k, r, p1, q1⟩ := z; obtain ⟨hk0, hr, gr⟩ := hz; simp only at hk0 hr gr; have hrl := sR hr; rw [List.length_take] at hrl; have hsr : (ss ++ r).length = ss.length + r.length := List.length_append; refine d9 (C4 rfl rfl rfl (d8 (i7 ?_))); refine m6 rfl (fun hb4 => ?_) (fun hb4 => ?_)
  ·have hk1 : k < (w.drop 1).length := by simp at hb4; simp; omega
   have hwk := hwd _ (A3 (l := w.drop 1) hk1); have hmk : (w.drop 1).getD k default ∈ w.drop 1 := A3 hk1; refine j6 (i8 (i7 (j8 (d9 ?_)))); refine r8 (α := Str) (w.drop 1) k rfl p8 m7 rfl rfl rfl mB rfl hk1 (by decide) (c8 (v := str ((w.drop 1).getD k default)) rfl l3 rfl (k9 mB (j9 hk1 rfl)) ?_); refine c7 rfl (d8 ?_); refine sV (q1) (tkO gs c (p1, (ss ++ r).length) (o2, xs.length) :: h2) (List.perm_append_comm (l₁ := _ :: q1) (l₂ := h2) |>.trans (List.perm_append_comm (l₁ := h2) (l₂ := _ :: q1)) |>.trans List.perm_middle.symm) 9 [8] [6] (fun ch => ch = [{ v := oddV, recovered := false }] ∧ takeW i w (c, ss, xs) = none) mixed (by decide) (by decide) (by decide) (by decide) rfl rfl (fun ch hch => by obtain ⟨rfl, hno⟩ := hch; (repeat (first | refine K1 ?_ | refine M8 ?_)); exact S1 ((c, (p1, (ss ++ r).length), (o2, xs.length)) : Dead) rfl rfl hno (by first | exact .cons_cons _ nK | exact List.Sublist.trans (.cons_cons _ nK) (List.sublist_append_right _ _)) tK) ?_; refine u4 rfl (u4 rfl (k7 (fun w1 => r9 rfl rfl (q_z rfl)) (k7 (fun w1 => a9 ⟨_, 6, none⟩ rfl rfl q9 rfl (q_z rfl)) (k7 (fun w1 => c8 (v := .slice p1.1 (ss ++ r).length p1.2) rfl k8 rfl (l4 m0 rfl) (q_z rfl)) (u4 rfl ?_))))); refine gV ⟨Int, fun z => numS ((w.drop 1).getD k default) = some z, fun z => int z, fun _ => []⟩ rfl rfl rfl ?_ ?_
   ·intro w1; refine M3 D1 rfl rfl (D2 ((w.drop 1).getD k default) (by omega)) (hpR := []) (.refl _) tK (fun _ hy => by refine aQ ?_; exact ⟨by simp, rfl, tk1 hi1 (by rw [stS, if_neg hst]; exact sQ hmk hy)⟩) ?_; refine fun z hz => ?_; refine j4 ?_; exact V5 z hz rfl tK
   refine U5 ⟨Int × Nat, fun p => numS ((w.drop 1).getD k default) = some p.1, fun p => .slice (some ⟨p.2, 0, none⟩) 1 1, fun p => [Row (some ⟨p.2, 0, none⟩) (rows [p.1])]⟩ rfl rfl rfl ?_ ?_
   ·intro z hz; intro w1; refine p7 _ rfl rfl (fun _ => R8 ..) fun gS => j4 (H6 (rows [z]) (List.prefix_refl _) ?_); exact I9 (z, gS) hz rfl ⟨m0, tK⟩
   refine kY ⟨Int × OutC × Hp, fun y => numS ((w.drop 1).getD k default) = some y.1 ∧ Grow H8 1 y.2.1.1 ((ss ++ r).length + 1) y.2.1.2 (rows ((ss ++ r) ++ [y.1])) y.2.2, fun y => .slice y.2.1.1 ((ss ++ r).length + 1) y.2.1.2, fun _ => [], fun y => y.2.2⟩ rfl rfl rfl ?_ ?_
   ·intro p hp1; obtain ⟨z, g9⟩ := p; simp only at hp1; intro w1; refine M2 ((ss ++ r).length + 1) (rows ((ss ++ r) ++ [z])) mG rfl rfl rfl gr (hp' := []) (by rw [List.append_nil]) (Src.row (news := rows [z]) (m := 1) m0 rfl (M1 _) (by decide)) rfl (C9 (ss ++ r) [z]).symm (by unfold maxLen; omega) (by omega) fun A' c' og' hG' => ?_; refine j4 ?_; exact Q3 (z, (A', c'), og') ⟨hp1, hG'⟩ (fun _ => rfl) (List.sublist_append_left _ _) tK
   refine E1 ⟨⟨rfl, rfl⟩, ?_⟩; intro _ _ _ _ y hy; obtain ⟨z, ⟨pA, pc⟩, og9⟩ := y; obtain ⟨hz, hG9⟩ := hy; simp only at hz hG9; refine r9 rfl rfl (a9 ⟨_, 6, none⟩ rfl rfl q9 rfl (z8 rfl rfl List.perm_middle tT (by rfl) (by rfl) ?_)); refine j4 (w9 (i8 (j0 ?_))); refine v8 _ rfl rfl rfl rfl r6 ?_; refine b8 rfl (j4 ?_); have hr2 : numsS ((w.drop 1).take (k + 1)) = some (r ++ [z]) := by rw [P8 _ k hk1]; exact gz1 hr hz
   exact again _ (k + 1, r ++ [z], (pA, pc), og9) ⟨hk1, hr2, by show Grow _ _ _ (ss ++ (r ++ [z])).length _ (rows (ss ++ (r ++ [z]))) _; rw [← List.append_assoc, lenA]; exact hG9⟩ (C8 (by omega)) mC (by show List.Sublist (tkO gs c ((pA, pc), (ss ++ (r ++ [z])).length) (o2, xs.length) :: (og9 ++ h2)) _; rw [← List.append_assoc, lenA]; exact .refl _) mC
  have hk1 : k = (w.drop 1).length := by simp at hb4; simp at hk0; simp; omega
  rw [hk1, List.take_length] at hr; refine w8 (E4 (w6 (w9 (kz2 ?_)))); exact ret0n (⟨(c, ss ++ r, xs), p1, q1, o2, h2⟩ : Tk) rfl rfl rfl ⟨by rw [takeW, if_neg hi0, if_pos hi1, stS, if_neg hst, hr], ⟨gr, g2⟩⟩ (.refl _) tK
 have hi1 : ¬ i = 1 := by omega
 refine d9 (b8 rfl ?_); refine l7 rfl p8 rfl ?_; refine G2 rfl rfl rfl (c7 rfl (d8 ?_)); refine m6 rfl (fun hb5 => ?_) (fun hb5 => ?_)
 ·have hw2 : w.length = 2 := by omega
  refine d9 (b8 rfl ?_); refine p7 _ rfl rfl (fun _ => cj8 ..) fun gn => E0 (rows nmP) (List.prefix_refl _) ?_; refine M3 cW rfl rfl (cY w nmP (by omega) (by decide)) (hpR := tkO gs c (o1, ss.length) (o2, xs.length) :: (h1 ++ h2)) (.refl _) mC (fun _ hy => by (repeat (first | refine K1 ?_ | refine M8 ?_)); exact S1 ((c, (o1, ss.length), (o2, xs.length)) : Dead) rfl rfl (tk2 hi0 hi1 (by rw [advS, if_pos hw2, if_pos hy])) (.cons_cons _ nK) tK) ?_; refine fun _ hf => ?_; refine d8 ?_; refine sV (h2) (tkO gs c (o1, ss.length) (o2, xs.length) :: h1) (List.perm_append_comm (l₁ := _ :: h1) (l₂ := h2)) 12 [11] [8] (fun ch => ch = [{ v := oddV, recovered := false }] ∧ takeW i w (c, ss, xs) = none) mixed (by decide) (by decide) (by decide) (by decide) rfl rfl (fun ch hch => by obtain ⟨rfl, hno⟩ := hch; (repeat (first | refine K1 ?_ | refine M8 ?_)); exact S1 ((c, (o1, ss.length), (o2, xs.length)) : Dead) rfl rfl hno (by first | exact .cons_cons _ nK | exact List.Sublist.trans (.cons_cons _ nK) (List.sublist_append_right _ _)) tK) ?_; refine u4 rfl (u4 rfl (k7 (fun w1 => r9 rfl rfl (q_z rfl)) (k7 (fun w1 => a9 ⟨_, 7, none⟩ rfl rfl m5 rfl (q_z rfl)) (k7 (fun w1 => c8 (v := .slice o2.1 xs.length o2.2) rfl k4 rfl (l4 m0 rfl) (q_z rfl)) (u4 rfl (k7 (fun w1 => r8 (α := Str) w 0 rfl p8 m7 rfl rfl rfl (List.mem_append_right _ m1) rfl (by omega) (by decide) (q_z rfl)) (k7 (fun w1 => c8 (v := str (at_ w 0)) rfl l3 rfl (k9 (List.mem_append_right _ m1) (j9 (by omega) rfl)) (q_z rfl)) ?_))))))); refine gV ⟨Int, fun z => numS (at_ w 0) = some z, fun z => int z, fun _ => []⟩ rfl rfl rfl ?_ ?_
  ·intro w1; refine M3 D1 rfl rfl (D2 (at_ w 0) (by have := hwl (at_ w 0) (Y1 _ (by omega)); omega)) (hpR := []) (.refl _) tK (fun _ hy => by refine aQ ?_; exact ⟨by simp, rfl, tk2 hi0 hi1 (by rw [advS, if_pos hw2, if_neg (by rw [hf]; decide), hy])⟩) ?_; refine fun z hz => ?_; refine j4 ?_; exact V5 z hz rfl tK
  refine U5 ⟨Int × Int, fun y => numS (at_ w 0) = some y.1 ∧ y.2 = 1, fun y => .agg #[int y.1, int 1, int y.2], fun _ => []⟩ rfl rfl rfl ?_ ?_
  ·intro z1 q1; intro w1; refine v9 _ rfl rfl (fun _ => E3 ..) (j4 ?_); exact I9 (z1, 1) ⟨q1, rfl⟩ rfl tK
  refine U5 ⟨(Int × Int) × Nat, fun q => (fun y : Int × Int => numS (at_ w 0) = some y.1 ∧ y.2 = 1) q.1, fun q => .slice (some ⟨q.2, 0, none⟩) 1 1, fun q => [Row (some ⟨q.2, 0, none⟩) (rows [((q.1.1, 1, q.1.2) : Ad)])]⟩ rfl rfl rfl ?_ ?_
  ·intro y hy; intro w1; refine p7 _ rfl rfl (fun _ => K0 ..) fun gS => j4 (H6 (rows [((y.1, 1, y.2) : Ad)]) (List.prefix_refl _) ?_); exact I9 (y, gS) hy rfl ⟨m0, tK⟩
  refine kY ⟨(Int × Int) × OutC × Hp, fun q => (fun y : Int × Int => numS (at_ w 0) = some y.1 ∧ y.2 = 1) q.1 ∧ Grow C6 3 q.2.1.1 (xs.length + 1) q.2.1.2 (rows (xs ++ [((q.1.1, 1, q.1.2) : Ad)])) q.2.2, fun q => .slice q.2.1.1 (xs.length + 1) q.2.1.2, fun _ => [], fun q => q.2.2⟩ rfl rfl rfl ?_ ?_
  ·intro q hq1; obtain ⟨y, g9⟩ := q; simp only at hq1; intro w1; refine M2 (xs.length + 1) (rows (xs ++ [((y.1, 1, y.2) : Ad)])) L8 rfl rfl rfl g2 (hp' := []) (by rw [List.append_nil]) (Src.row (news := rows [((y.1, 1, y.2) : Ad)]) (m := 1) m0 rfl (M1 _) (by decide)) rfl (C9 xs [((y.1, 1, y.2) : Ad)]).symm (by unfold maxLen; omega) (by omega) fun A' c' og' hG' => ?_; refine j4 ?_; exact Q3 (y, (A', c'), og') ⟨hq1, hG'⟩ (fun _ => rfl) (List.sublist_append_left _ _) tK
  refine E1 ⟨⟨rfl, rfl⟩, ?_⟩; intro _ _ _ _ _ _ q hq; obtain ⟨⟨z1, z2⟩, ⟨pA, pc⟩, og9⟩ := q; obtain ⟨⟨hz1, hz2⟩, hG9⟩ := hq; simp only at hz1 hz2 hG9; subst hz2; refine r9 rfl rfl (a9 ⟨_, 7, none⟩ rfl rfl m5 rfl (z8 rfl rfl List.perm_middle J9 (by rfl) (by rfl) ?_)); refine j4 (w9 ?_); refine Z3 (List.Perm.cons _ (List.perm_append_comm (l₁ := og9))) (kz2 ?_); exact ret0n (⟨(c, ss, xs ++ [(z1, 1, 1)]), o1, h1, (pA, pc), og9⟩ : Tk) rfl rfl rfl ⟨tk2y hi0 hi1 (by rw [advS, if_pos hw2, if_neg (by rw [hf]; decide), hz1]), ⟨g1, by show Grow _ _ _ (xs ++ [_]).length _ _ _; rw [lenA]; exact hG9⟩⟩ (by show List.Sublist (tkO gs c (o1, ss.length) ((pA, pc), (xs ++ [_]).length) :: (h1 ++ og9)) _; rw [lenA]; exact .refl _) tK
 have hw2 : ¬ w.length = 2 := by omega
 refine d9 (b8 rfl ?_); refine l7 rfl p8 rfl ?_; refine G2 rfl rfl rfl (b8 rfl ?_); refine t7 rfl rfl ?_ ?_
 ·intro hg2; have hw3 : w.length = 3 := by simp at hg2; omega
  refine l9 hg2 (b8 rfl (l9 hg2 ?_)); refine r8 (α := Str) w 1 rfl p8 m7 rfl rfl rfl mB rfl (by omega) (by decide) (l9 hg2 (c8 (v := str (at_ w 1)) rfl l3 rfl (k9 mB (j9 (by omega) rfl)) ?_)); refine l9 hg2 (Z0 rfl rfl rfl ?_); refine p_t rfl rfl (bt1 hg2) rfl ?_; refine c7 rfl (d8 ?_); refine m6 rfl (fun hb6 => ?_) (fun hb6 => ?_)
  ·have hcd : w.length = 3 ∧ at_ w 1 = cardS := ⟨hw3, by assumption⟩; refine sV (h2) (tkO gs c (o1, ss.length) (o2, xs.length) :: h1) (List.perm_append_comm (l₁ := _ :: h1) (l₂ := h2)) 16 [15] [8, 12] (fun ch => ch = [{ v := oddV, recovered := false }] ∧ takeW i w (c, ss, xs) = none) mixed (by decide) (by decide) (by decide) (by decide) rfl rfl (fun ch hch => by obtain ⟨rfl, hno⟩ := hch; (repeat (first | refine K1 ?_ | refine M8 ?_)); exact S1 ((c, (o1, ss.length), (o2, xs.length)) : Dead) rfl rfl hno (by first | exact .cons_cons _ nK | exact List.Sublist.trans (.cons_cons _ nK) (List.sublist_append_right _ _)) tK) ?_; refine u4 rfl (u4 rfl (k7 (fun w1 => r9 rfl rfl (q_z rfl)) (k7 (fun w1 => a9 ⟨_, 7, none⟩ rfl rfl m5 rfl (q_z rfl)) (k7 (fun w1 => c8 (v := .slice o2.1 xs.length o2.2) rfl k4 rfl (l4 m0 rfl) (q_z rfl)) (u4 rfl (k7 (fun w1 => r8 (α := Str) w 0 rfl p8 m7 rfl rfl rfl (List.mem_append_right _ m0) rfl (by omega) (by decide) (q_z rfl)) (k7 (fun w1 => c8 (v := str (at_ w 0)) rfl l3 rfl (k9 (List.mem_append_right _ m0) (j9 (by omega) rfl)) (q_z rfl)) ?_))))))); refine gV ⟨Int, fun z => numS (at_ w 0) = some z, fun z => int z, fun _ => []⟩ rfl rfl rfl ?_ ?_
   ·intro w1; refine M3 D1 rfl rfl (D2 (at_ w 0) (by have := hwl (at_ w 0) (Y1 _ (by omega)); omega)) (hpR := []) (.refl _) tK (fun _ hy => by refine aQ ?_; exact ⟨by simp, rfl, tk2 hi0 hi1 (by rw [advS, if_neg hw2, if_pos hcd]; exact wU (by simp) hy)⟩) ?_; refine fun z hz => ?_; refine j4 ?_; exact V5 z hz rfl tK
   refine u4 rfl (k7 (fun w1 => r8 (α := Str) w 2 rfl p8 m7 rfl rfl rfl (List.mem_append_right _ m0) rfl (by omega) (by decide) (q_z rfl)) (k7 (fun w1 => c8 (v := str (at_ w 2)) rfl l3 rfl (k9 (List.mem_append_right _ m0) (j9 (by omega) rfl)) (q_z rfl)) ?_)); refine gV ⟨Int, fun z => numS (at_ w 2) = some z, fun z => int z, fun _ => []⟩ rfl rfl rfl ?_ ?_
   ·intro w1; refine M3 D1 rfl rfl (D2 (at_ w 2) (by have := hwl (at_ w 2) (Y1 _ (by omega)); omega)) (hpR := []) (.refl _) tK (fun _ hy => by refine aQ ?_; exact ⟨by simp, rfl, tk2 hi0 hi1 (by rw [advS, if_neg hw2, if_pos hcd]; exact wU (by simp) hy)⟩) ?_; refine fun z hz => ?_; refine j4 ?_; exact V5 z hz rfl tK
   refine U5 ⟨Int × Int, fun y => numS (at_ w 0) = some y.1 ∧ numS (at_ w 2) = some y.2, fun y => .agg #[int y.1, int 3, int y.2], fun _ => []⟩ rfl rfl rfl ?_ ?_
   ·intro z1 q1 z2 q2; intro w1; refine v9 _ rfl rfl (fun _ => E3 ..) (j4 ?_); exact I9 (z1, z2) ⟨q1, q2⟩ rfl tK
   refine U5 ⟨(Int × Int) × Nat, fun q => (fun y : Int × Int => numS (at_ w 0) = some y.1 ∧ numS (at_ w 2) = some y.2) q.1, fun q => .slice (some ⟨q.2, 0, none⟩) 1 1, fun q => [Row (some ⟨q.2, 0, none⟩) (rows [((q.1.1, 3, q.1.2) : Ad)])]⟩ rfl rfl rfl ?_ ?_
   ·intro y hy; intro w1; refine p7 _ rfl rfl (fun _ => K0 ..) fun gS => j4 (H6 (rows [((y.1, 3, y.2) : Ad)]) (List.prefix_refl _) ?_); exact I9 (y, gS) hy rfl ⟨m0, tK⟩
   refine kY ⟨(Int × Int) × OutC × Hp, fun q => (fun y : Int × Int => numS (at_ w 0) = some y.1 ∧ numS (at_ w 2) = some y.2) q.1 ∧ Grow C6 3 q.2.1.1 (xs.length + 1) q.2.1.2 (rows (xs ++ [((q.1.1, 3, q.1.2) : Ad)])) q.2.2, fun q => .slice q.2.1.1 (xs.length + 1) q.2.1.2, fun _ => [], fun q => q.2.2⟩ rfl rfl rfl ?_ ?_
   ·intro q hq1; obtain ⟨y, g9⟩ := q; simp only at hq1; intro w1; refine M2 (xs.length + 1) (rows (xs ++ [((y.1, 3, y.2) : Ad)])) L8 rfl rfl rfl g2 (hp' := []) (by rw [List.append_nil]) (Src.row (news := rows [((y.1, 3, y.2) : Ad)]) (m := 1) m0 rfl (M1 _) (by decide)) rfl (C9 xs [((y.1, 3, y.2) : Ad)]).symm (by unfold maxLen; omega) (by omega) fun A' c' og' hG' => ?_; refine j4 ?_; exact Q3 (y, (A', c'), og') ⟨hq1, hG'⟩ (fun _ => rfl) (List.sublist_append_left _ _) tK
   refine E1 ⟨⟨rfl, rfl⟩, ?_⟩; intro _ _ _ _ _ _ _ _ q hq; obtain ⟨⟨z1, z2⟩, ⟨pA, pc⟩, og9⟩ := q; obtain ⟨⟨hz1, hz2⟩, hG9⟩ := hq; simp only at hz1 hz2 hG9; refine r9 rfl rfl (a9 ⟨_, 7, none⟩ rfl rfl m5 rfl (z8 rfl rfl List.perm_middle J9 (by rfl) (by rfl) ?_)); refine j4 (w9 ?_); refine Z3 (List.Perm.cons _ (List.perm_append_comm (l₁ := og9))) (kz2 ?_); exact ret0n (⟨(c, ss, xs ++ [(z1, 3, z2)]), o1, h1, (pA, pc), og9⟩ : Tk) rfl rfl rfl ⟨tk2y hi0 hi1 (by rw [advS, if_neg hw2, if_pos hcd]; exact jz6 hz1 hz2), ⟨g1, by show Grow _ _ _ (xs ++ [_]).length _ _ _; rw [lenA]; exact hG9⟩⟩ (by show List.Sublist (tkO gs c (o1, ss.length) ((pA, pc), (xs ++ [_]).length) :: (h1 ++ og9)) _; rw [lenA]; exact .refl _) tK
  have hcd : ¬ (w.length = 3 ∧ at_ w 1 = cardS) := fun h9 => absurd h9.2 (by assumption); refine d9 (b8 rfl ?_); refine p7 _ rfl rfl (fun _ => cj7 ..) fun gn => E0 (rows nmB) (List.prefix_refl _) ?_; refine M3 cW rfl rfl (cY w nmB (by omega) (by decide)) (hpR := tkO gs c (o1, ss.length) (o2, xs.length) :: (h1 ++ h2)) (.refl _) mC (fun _ hy => by (repeat (first | refine K1 ?_ | refine M8 ?_)); exact S1 ((c, (o1, ss.length), (o2, xs.length)) : Dead) rfl rfl (tk2 hi0 hi1 (by rw [advS, if_neg hw2, if_neg hcd, if_pos hy])) (.cons_cons _ nK) tK) ?_; refine fun _ hf => ?_; have h3 : w.length = 3 := yM hf; refine d8 ?_; refine sV (h2) (tkO gs c (o1, ss.length) (o2, xs.length) :: h1) (List.perm_append_comm (l₁ := _ :: h1) (l₂ := h2)) 16 [15] [8, 12] (fun ch => ch = [{ v := oddV, recovered := false }] ∧ takeW i w (c, ss, xs) = none) mixed (by decide) (by decide) (by decide) (by decide) rfl rfl (fun ch hch => by obtain ⟨rfl, hno⟩ := hch; (repeat (first | refine K1 ?_ | refine M8 ?_)); exact S1 ((c, (o1, ss.length), (o2, xs.length)) : Dead) rfl rfl hno (by first | exact .cons_cons _ nK | exact List.Sublist.trans (.cons_cons _ nK) (List.sublist_append_right _ _)) tK) ?_; refine u4 rfl (u4 rfl (k7 (fun w1 => r9 rfl rfl (q_z rfl)) (k7 (fun w1 => a9 ⟨_, 7, none⟩ rfl rfl m5 rfl (q_z rfl)) (k7 (fun w1 => c8 (v := .slice o2.1 xs.length o2.2) rfl k4 rfl (l4 m0 rfl) (q_z rfl)) (u4 rfl (k7 (fun w1 => r8 (α := Str) w 0 rfl p8 m7 rfl rfl rfl (List.mem_append_right _ m1) rfl (by omega) (by decide) (q_z rfl)) (k7 (fun w1 => c8 (v := str (at_ w 0)) rfl l3 rfl (k9 (List.mem_append_right _ m1) (j9 (by omega) rfl)) (q_z rfl)) ?_))))))); refine gV ⟨Int, fun z => numS (at_ w 0) = some z, fun z => int z, fun _ => []⟩ rfl rfl rfl ?_ ?_
  ·intro w1; refine M3 D1 rfl rfl (D2 (at_ w 0) (by have := hwl (at_ w 0) (Y1 _ (by omega)); omega)) (hpR := []) (.refl _) tK (fun _ hy => by refine aQ ?_; exact ⟨by simp, rfl, tk2 hi0 hi1 (by rw [advS, if_neg hw2, if_neg hcd, if_neg (by rw [hf]; decide)]; exact wU (by simp) hy)⟩) ?_; refine fun z hz => ?_; refine j4 ?_; exact V5 z hz rfl tK
  refine u4 rfl (k7 (fun w1 => r8 (α := Str) w 2 rfl p8 m7 rfl rfl rfl (List.mem_append_right _ m1) rfl (by omega) (by decide) (q_z rfl)) (k7 (fun w1 => c8 (v := str (at_ w 2)) rfl l3 rfl (k9 (List.mem_append_right _ m1) (j9 (by omega) rfl)) (q_z rfl)) ?_)); refine gV ⟨Int, fun z => numS (at_ w 2) = some z, fun z => int z, fun _ => []⟩ rfl rfl rfl ?_ ?_
  ·intro w1; refine M3 D1 rfl rfl (D2 (at_ w 2) (by have := hwl (at_ w 2) (Y1 _ (by omega)); omega)) (hpR := []) (.refl _) tK (fun _ hy => by refine aQ ?_; exact ⟨by simp, rfl, tk2 hi0 hi1 (by rw [advS, if_neg hw2, if_neg hcd, if_neg (by rw [hf]; decide)]; exact wU (by simp) hy)⟩) ?_; refine fun z hz => ?_; refine j4 ?_; exact V5 z hz rfl tK
  refine U5 ⟨Int × Int, fun y => numS (at_ w 0) = some y.1 ∧ numS (at_ w 2) = some y.2, fun y => .agg #[int y.1, int 2, int y.2], fun _ => []⟩ rfl rfl rfl ?_ ?_
  ·intro z1 q1 z2 q2; intro w1; refine v9 _ rfl rfl (fun _ => E3 ..) (j4 ?_); exact I9 (z1, z2) ⟨q1, q2⟩ rfl tK
  refine U5 ⟨(Int × Int) × Nat, fun q => (fun y : Int × Int => numS (at_ w 0) = some y.1 ∧ numS (at_ w 2) = some y.2) q.1, fun q => .slice (some ⟨q.2, 0, none⟩) 1 1, fun q => [Row (some ⟨q.2, 0, none⟩) (rows [((q.1.1, 2, q.1.2) : Ad)])]⟩ rfl rfl rfl ?_ ?_
  ·intro y hy; intro w1; refine p7 _ rfl rfl (fun _ => K0 ..) fun gS => j4 (H6 (rows [((y.1, 2, y.2) : Ad)]) (List.prefix_refl _) ?_); exact I9 (y, gS) hy rfl ⟨m0, tK⟩
  refine kY ⟨(Int × Int) × OutC × Hp, fun q => (fun y : Int × Int => numS (at_ w 0) = some y.1 ∧ numS (at_ w 2) = some y.2) q.1 ∧ Grow C6 3 q.2.1.1 (xs.length + 1) q.2.1.2 (rows (xs ++ [((q.1.1, 2, q.1.2) : Ad)])) q.2.2, fun q => .slice q.2.1.1 (xs.length + 1) q.2.1.2, fun _ => [], fun q => q.2.2⟩ rfl rfl rfl ?_ ?_
  ·intro q hq1; obtain ⟨y, g9⟩ := q; simp only at hq1; intro w1; refine M2 (xs.length + 1) (rows (xs ++ [((y.1, 2, y.2) : Ad)])) L8 rfl rfl rfl g2 (hp' := []) (by rw [List.append_nil]) (Src.row (news := rows [((y.1, 2, y.2) : Ad)]) (m := 1) m0 rfl (M1 _) (by decide)) rfl (C9 xs [((y.1, 2, y.2) : Ad)]).symm (by unfold maxLen; omega) (by omega) fun A' c' og' hG' => ?_; refine j4 ?_; exact Q3 (y, (A', c'), og') ⟨hq1, hG'⟩ (fun _ => rfl) (List.sublist_append_left _ _) tK
  refine E1 ⟨⟨rfl, rfl⟩, ?_⟩; intro _ _ _ _ _ _ _ _ q hq; obtain ⟨⟨z1, z2⟩, ⟨pA, pc⟩, og9⟩ := q; obtain ⟨⟨hz1, hz2⟩, hG9⟩ := hq; simp only at hz1 hz2 hG9; refine r9 rfl rfl (a9 ⟨_, 7, none⟩ rfl rfl m5 rfl (z8 rfl rfl List.perm_middle J9 (by rfl) (by rfl) ?_)); refine j4 (w9 ?_); refine Z3 (List.Perm.cons _ (List.perm_append_comm (l₁ := og9))) (kz2 ?_); exact ret0n (⟨(c, ss, xs ++ [(z1, 2, z2)]), o1, h1, (pA, pc), og9⟩ : Tk) rfl rfl rfl ⟨tk2y hi0 hi1 (by rw [advS, if_neg hw2, if_neg hcd, if_neg (by rw [hf]; decide)]; exact jz6 hz1 hz2), ⟨g1, by show Grow _ _ _ (xs ++ [_]).length _ _ _; rw [lenA]; exact hG9⟩⟩ (by show List.Sublist (tkO gs c (o1, ss.length) ((pA, pc), (xs ++ [_]).length) :: (h1 ++ og9)) _; rw [lenA]; exact .refl _) tK
 intro hg2; have hw3 : ¬ w.length = 3 := by simp at hg2; omega
 refine q7 hg2 (q7 hg2 (q7 hg2 (q7 hg2 ?_))); refine p_f rfl rfl (bf2 hg2) rfl ?_; refine c7 rfl (d8 (c_f rfl rfl ?_)); have hcd : ¬ (w.length = 3 ∧ at_ w 1 = cardS) := fun h9 => absurd h9.1 hw3; refine d9 (b8 rfl ?_); refine p7 _ rfl rfl (fun _ => cj7 ..) fun gn => E0 (rows nmB) (List.prefix_refl _) ?_; refine M3 cW rfl rfl (cY w nmB (by omega) (by decide)) (hpR := tkO gs c (o1, ss.length) (o2, xs.length) :: (h1 ++ h2)) (.refl _) mC (fun _ hy => by (repeat (first | refine K1 ?_ | refine M8 ?_)); exact S1 ((c, (o1, ss.length), (o2, xs.length)) : Dead) rfl rfl (tk2 hi0 hi1 (by rw [advS, if_neg hw2, if_neg hcd, if_pos hy])) (.cons_cons _ nK) tK) ?_; refine fun _ hf => ?_; have h3 : w.length = 3 := yM hf; refine d8 ?_; refine sV (h2) (tkO gs c (o1, ss.length) (o2, xs.length) :: h1) (List.perm_append_comm (l₁ := _ :: h1) (l₂ := h2)) 16 [15] [8, 12] (fun ch => ch = [{ v := oddV, recovered := false }] ∧ takeW i w (c, ss, xs) = none) mixed (by decide) (by decide) (by decide) (by decide) rfl rfl (fun ch hch => by obtain ⟨rfl, hno⟩ := hch; (repeat (first | refine K1 ?_ | refine M8 ?_)); exact S1 ((c, (o1, ss.length), (o2, xs.length)) : Dead) rfl rfl hno (by first | exact .cons_cons _ nK | exact List.Sublist.trans (.cons_cons _ nK) (List.sublist_append_right _ _)) tK) ?_; refine u4 rfl (u4 rfl (k7 (fun w1 => r9 rfl rfl (q_z rfl)) (k7 (fun w1 => a9 ⟨_, 7, none⟩ rfl rfl m5 rfl (q_z rfl)) (k7 (fun w1 => c8 (v := .slice o2.1 xs.length o2.2) rfl k4 rfl (l4 m0 rfl) (q_z rfl)) (u4 rfl (k7 (fun w1 => r8 (α := Str) w 0 rfl p8 m7 rfl rfl rfl (List.mem_append_right _ m1) rfl (by omega) (by decide) (q_z rfl)) (k7 (fun w1 => c8 (v := str (at_ w 0)) rfl l3 rfl (k9 (List.mem_append_right _ m1) (j9 (by omega) rfl)) (q_z rfl)) ?_))))))); refine gV ⟨Int, fun z => numS (at_ w 0) = some z, fun z => int z, fun _ => []⟩ rfl rfl rfl ?_ ?_
 ·intro w1; refine M3 D1 rfl rfl (D2 (at_ w 0) (by have := hwl (at_ w 0) (Y1 _ (by omega)); omega)) (hpR := []) (.refl _) tK (fun _ hy => by refine aQ ?_; exact ⟨by simp, rfl, tk2 hi0 hi1 (by rw [advS, if_neg hw2, if_neg hcd, if_neg (by rw [hf]; decide)]; exact wU (by simp) hy)⟩) ?_; refine fun z hz => ?_; refine j4 ?_; exact V5 z hz rfl tK
 refine u4 rfl (k7 (fun w1 => r8 (α := Str) w 2 rfl p8 m7 rfl rfl rfl (List.mem_append_right _ m1) rfl (by omega) (by decide) (q_z rfl)) (k7 (fun w1 => c8 (v := str (at_ w 2)) rfl l3 rfl (k9 (List.mem_append_right _ m1) (j9 (by omega) rfl)) (q_z rfl)) ?_)); refine gV ⟨Int, fun z => numS (at_ w 2) = some z, fun z => int z, fun _ => []⟩ rfl rfl rfl ?_ ?_
 ·intro w1; refine M3 D1 rfl rfl (D2 (at_ w 2) (by have := hwl (at_ w 2) (Y1 _ (by omega)); omega)) (hpR := []) (.refl _) tK (fun _ hy => by refine aQ ?_; exact ⟨by simp, rfl, tk2 hi0 hi1 (by rw [advS, if_neg hw2, if_neg hcd, if_neg (by rw [hf]; decide)]; exact wU (by simp) hy)⟩) ?_; refine fun z hz => ?_; refine j4 ?_; exact V5 z hz rfl tK
 refine U5 ⟨Int × Int, fun y => numS (at_ w 0) = some y.1 ∧ numS (at_ w 2) = some y.2, fun y => .agg #[int y.1, int 2, int y.2], fun _ => []⟩ rfl rfl rfl ?_ ?_
 ·intro z1 q1 z2 q2; intro w1; refine v9 _ rfl rfl (fun _ => E3 ..) (j4 ?_); exact I9 (z1, z2) ⟨q1, q2⟩ rfl tK
 refine U5 ⟨(Int × Int) × Nat, fun q => (fun y : Int × Int => numS (at_ w 0) = some y.1 ∧ numS (at_ w 2) = some y.2) q.1, fun q => .slice (some ⟨q.2, 0, none⟩) 1 1, fun q => [Row (some ⟨q.2, 0, none⟩) (rows [((q.1.1, 2, q.1.2) : Ad)])]⟩ rfl rfl rfl ?_ ?_
 ·intro y hy; intro w1; refine p7 _ rfl rfl (fun _ => K0 ..) fun gS => j4 (H6 (rows [((y.1, 2, y.2) : Ad)]) (List.prefix_refl _) ?_); exact I9 (y, gS) hy rfl ⟨m0, tK⟩
 refine kY ⟨(Int × Int) × OutC × Hp, fun q => (fun y : Int × Int => numS (at_ w 0) = some y.1 ∧ numS (at_ w 2) = some y.2) q.1 ∧ Grow C6 3 q.2.1.1 (xs.length + 1) q.2.1.2 (rows (xs ++ [((q.1.1, 2, q.1.2) : Ad)])) q.2.2, fun q => .slice q.2.1.1 (xs.length + 1) q.2.1.2, fun _ => [], fun q => q.2.2⟩ rfl rfl rfl ?_ ?_
 ·intro q hq1; obtain ⟨y, g9⟩ := q; simp only at hq1; intro w1; refine M2 (xs.length + 1) (rows (xs ++ [((y.1, 2, y.2) : Ad)])) L8 rfl rfl rfl g2 (hp' := []) (by rw [List.append_nil]) (Src.row (news := rows [((y.1, 2, y.2) : Ad)]) (m := 1) m0 rfl (M1 _) (by decide)) rfl (C9 xs [((y.1, 2, y.2) : Ad)]).symm (by unfold maxLen; omega) (by omega) fun A' c' og' hG' => ?_; refine j4 ?_; exact Q3 (y, (A', c'), og') ⟨hq1, hG'⟩ (fun _ => rfl) (List.sublist_append_left _ _) tK
 refine E1 ⟨⟨rfl, rfl⟩, ?_⟩; intro _ _ _ _ _ _ _ _ q hq; obtain ⟨⟨z1, z2⟩, ⟨pA, pc⟩, og9⟩ := q; obtain ⟨⟨hz1, hz2⟩, hG9⟩ := hq; simp only at hz1 hz2 hG9; refine r9 rfl rfl (a9 ⟨_, 7, none⟩ rfl rfl m5 rfl (z8 rfl rfl List.perm_middle J9 (by rfl) (by rfl) ?_)); refine j4 (w9 ?_); refine Z3 (List.Perm.cons _ (List.perm_append_comm (l₁ := og9))) (kz2 ?_); exact ret0n (⟨(c, ss, xs ++ [(z1, 2, z2)]), o1, h1, (pA, pc), og9⟩ : Tk) rfl rfl rfl ⟨tk2y hi0 hi1 (by rw [advS, if_neg hw2, if_neg hcd, if_neg (by rw [hf]; decide)]; exact jz6 hz1 hz2), ⟨g1, by show Grow _ _ _ (xs ++ [_]).length _ _ _; rw [lenA]; exact hG9⟩⟩ (by show List.Sublist (tkO gs c (o1, ss.length) ((pA, pc), (xs ++ [_]).length) :: (h1 ++ og9)) _; rw [lenA]; exact .refl _) tK
def parseF : Nat → Nat → Str → Nat → SaT → Option SaT × Nat
  | 0, i, s, p, st => (none, p)
  | n + 1, i, s, p, st => if (cutB 10 s).2.2 = false then (none, p) else
    if 1 < i ∧ (cutB 10 s).1 = soldS then (if (cutB 10 s).2.1 = [] then (some st, p) else (none, p + ((cutB 10 s).1.length + 1))) else
    match takeW i (splitB 32 (cutB 10 s).1) st with
    | none => (none, p)
    | some st' => parseF n (i + 1) (cutB 10 s).2.1 (p + ((cutB 10 s).1.length + 1)) st'
def zeroSa : SaT := ((0, 0, 0, 0, 0, 0), [], [])
def parseR (x : Str) : Option SaT × Nat := parseF (x.length + 1) 0 x 0 zeroSa
def pSa (r : Option SaT × Nat) : SaT := r.1.getD zeroSa
def pAt (r : Option SaT × Nat) : Int := match r.1 with
  | some _ => -1
  | none => r.2
theorem kx2 {i : Nat} {line : Str} {s s' : SaT} (h : takeW i (splitB 32 line) s = some s') : s'.2.1.length ≤ s.2.1.length + (line.length + 1) ∧ s'.2.2.length ≤ s.2.2.length + (line.length + 1) := by
  have hw := bN 32 line; have hc : line.count 32 ≤ line.length := List.count_le_length; unfold takeW at h
  split at h
  · split at h
    · cases h; exact ⟨by simp only; omega, by simp only; omega⟩
    cases h
  split at h
  · split at h
    · rename_i l hl
      cases h
      unfold stS at hl
      split at hl
      · cases hl
      have := sR hl; rw [List.length_drop] at this; exact ⟨by simp only [List.length_append]; omega, by simp only; omega⟩
    cases h
  split at h
  · cases h; exact ⟨by simp only; omega, by simp only [List.length_append, List.length_cons, List.length_nil]; omega⟩
  cases h
theorem tz1 {α : Type} (a b g : α) (l : List α) : ((a :: l) ++ [b, g]).Perm ([b, a, g] ++ l) := by
  have h1 : ((a :: l) ++ [b, g]).Perm ([b, g] ++ (a :: l)) := List.perm_append_comm; refine h1.trans ?_; show (b :: g :: a :: l).Perm (b :: a :: g :: l); exact (List.Perm.swap _ _ _).cons _
theorem wj1 {α : Type} (a b g : α) (l1 l2 : List α) : (a :: b :: g :: (l1 ++ l2)).Perm (l1 ++ (l2 ++ [a, b, g])) := by
  have h1 : ([a, b, g] ++ (l1 ++ l2)).Perm ((l1 ++ l2) ++ [a, b, g]) := List.perm_append_comm
  simpa using h1
section
variable {c : Cx} {fr : Fr} {hp : Hp} {L : List Fact}
theorem gN {fn : Func} {t u : Tmp} {ty tz e : TypeId} {g n : Nat} {cs : Array Value} {fz : Nat × Nat} {q : Addr} {v2 : Value} (hres : fn.results = #[.cell t ty, .cell u tz]) (hv : lk fr t = some (.pointer (d6 g))) (hv2 : lk fr u = some (.pointer (some q))) (ht : IsR c.P ty) (hz : Sz c.P ty n) (hn : cs.size = n)
    (hm : (g, Obj.cells cs e fz) ∈ hp) (hz2 : NoR c.P tz) (h2 : Cell c.b hp L q v2) (a : Act) (w : World) (hfr : ∀ t v, lk fr t = some v → a.tmps.getD t undef = v) (hw : WI c.b w hp L) : (results fn a.tmps).run c.P w = .ok (.tuple #[.agg cs, v2]) w := by
  obtain ⟨dd, ht, hr⟩ := ht; have h1 := hw.own _ hm; simp only at h1
  have hl : (loadVar ty ⟨g, 0, none⟩).run c.P w = .ok (.agg cs) w := by
    have hagg : (isAgg ty).run c.P w = .ok true w := by
      unfold isAgg; rw [Sem.run_bind, run_underlying ht w]
      cases dd <;> simp_all [TypeDesc.isRow]
    have hc := run_loadCells_list (P := c.P) w ⟨g, 0, none⟩ cs.toList (fun j u hu => by rw [bI, Nat.zero_add]; simp at hu; simp [World.cell?, h1, hu]); have hs := U4 hz w; simp only [loadVar, Sem.run_bind, hagg, Result.andThen_ok, if_true, hs, ← hn]; have e : cs.size = cs.toList.length := by simp
    rw [e, hc]
    simp
  have hload : (loadVar tz q).run c.P w = .ok v2 w := by
    obtain ⟨de, hte, hre⟩ := hz2
    have hagg : (isAgg tz).run c.P w = .ok false w := by
      unfold isAgg; rw [Sem.run_bind, run_underlying hte w]
      cases de <;> simp_all [TypeDesc.isRow]
    simp only [loadVar, Sem.run_bind, hagg, Result.andThen_ok, Bool.false_eq_true, if_false, run_load, h2 w hw]
  have h5 : a.tmps[t]?.getD undef = .pointer (d6 g) := by simpa using hfr _ _ hv
  have h6 : a.tmps[u]?.getD undef = .pointer (some q) := by simpa using hfr _ _ hv2
  unfold results; rw [hres]
  simp [h5, h6, asAddr, hl, hload]
end
theorem pY (gb gs ga : Nat) (b a : Int) (c : Ch) (o1 o2 : SlS) : MeetsR prog cV [.pointer (d6 gb), .pointer (d6 gs), .pointer (d6 ga)] (.panicking [{ v := oddV, recovered := false }]) (.panicking [{ v := oddV, recovered := true }]) { hpI := [(gb, Obj.cells #[int b] H8 (0, 0)), tkO gs c o1 o2, (ga, Obj.cells #[int a] H8 (0, 0))], val := fun _ : Unit => .tuple #[], hpO := fun _ => [(gb, Obj.cells #[int b] H8 (0, 0)), tkO gs (0, 0, 0, 0, 0, 0) ((none, 0), 0) ((none, 0), 0), (ga, Obj.cells #[int b] H8 (0, 0))] } := by
 refine cz4 (tx8 _) qG rfl t8 rfl (fun _ _ => rfl) (fun _ _ => rfl) fun w0 => ?_; refine c7 rfl (d8 ?_); refine d9 (b8 rfl ?_); refine q8 (.bool true) rfl rfl rfl (fun _ => p9) (fun _ => p9) (d8 (c_t rfl lx1 ?_)); refine i7 (d9 (b8 rfl ?_)); refine yW rfl ⟨_, underlying130, rfl⟩ rfl ?_; refine b8 rfl (m4 rfl rfl rfl (m4 rfl rfl rfl ?_)); refine B3 rfl (fun _ => kq8 _) fun go => t6 (cs := #[]) rfl rfl (.refl _) kq5 (by rfl) (by rfl) ?_; refine c7 rfl (k6 (b8 rfl (K6 rfl rfl (d8 ?_)))); refine c_f rfl lx3 ?_; refine j6 (i8 (j0 ?_)); refine v9 _ rfl rfl (fun _ => K8 ..) (c8 (v := int b) rfl b9 rfl (m3 m1 rfl) (t6 (cs := tkC (0, 0, 0, 0, 0, 0) ((none, 0), 0) ((none, 0), 0)) rfl rfl (List.perm_append_comm (l₁ := [_, _]) (l₂ := [_, _])) j7 (by rfl) (by rfl) (z8 rfl rfl (.swap _ _ _) m9 (by rfl) (by rfl) (j4 (Z3 (List.reverse_perm _).symm ?_))))); exact ret0n () rfl rfl rfl tK (.cons_cons _ (.cons _ (.refl _))) tK
theorem rx6 (gb gs ga : Nat) : MeetsR prog cV [.pointer (d6 gb), .pointer (d6 gs), .pointer (d6 ga)] .returning .returning { val := fun _ : Unit => .tuple #[] } := by
 refine cz4 vx4 qG rfl t8 rfl (fun _ _ => rfl) (fun _ _ => rfl) fun w0 => ?_; refine c7 rfl (d8 ?_); refine d9 (b8 rfl ?_); refine q8 (.bool false) rfl rfl rfl (fun _ => p9) (fun _ => p9) (d8 (c_f rfl lx3 (j6 ?_))); exact ret0n () rfl rfl rfl tK (.refl _) tK
structure PaI (x : Str) (R : Option SaT × Nat) (n i p : Nat) (t : Tk) : Prop where
  fr : parseF n i (x.drop p) p t.s = R
  fn : (x.drop p).length < n
  fp : p ≤ x.length
  fk : t.ok
  fl1 : t.s.2.1.length ≤ p
  fl2 : t.s.2.2.length ≤ p
  fi : i ≤ p
theorem sx4 {n i p : Nat} {s : Str} {st : SaT} {j : Nat} (hj : j < s.length) (hc : cutB 10 s = (s.take j, s.drop (j + 1), true)) : parseF (n + 1) i s p st = if 1 < i ∧ s.take j = soldS then (if s.drop (j + 1) = [] then (some st, p) else (none, p + (j + 1))) else
    match takeW i (splitB 32 (s.take j)) st with
    | none => (none, p)
    | some st' => parseF n (i + 1) (s.drop (j + 1)) (p + (j + 1)) st' := by
  have hl : (s.take j).length = j := by rw [List.length_take]; omega
  rw [parseF, hc, if_neg (by simp)]; simp only [hl]
set_option maxHeartbeats 4000000 in
theorem iq4 (x : Str) (hx : x.length ≤ 1000) : Meets prog rL [str x] { val := fun y : OutC × OutC => .tuple #[.agg (tkC (pSa (parseR x)).1 (y.1, (pSa (parseR x)).2.1.length) (y.2, (pSa (parseR x)).2.2.length)), int (pAt (parseR x))], LO := fun y => [Row y.1.1 (rows (pSa (parseR x)).2.1), Row y.2.1 (rows (pSa (parseR x)).2.2)] } := by
 obtain ⟨R, hR⟩ : ∃ R, parseR x = R := ⟨_, rfl⟩; rw [hR]; refine nz6 V2 rfl t8 fun w0 => d9 (B3 rfl (fun _ => G5 _) fun gs => B3 rfl (fun _ => yT _) fun ga => k6 (B3 rfl (fun _ => yT _) fun gb => z8 rfl rfl (.refl _) m9 (by rfl) (by rfl) ?_)); refine k6 (mP rfl rfl rfl ?_); refine r_defer (cap := [.pointer (d6 gb), .pointer (d6 gs), .pointer (d6 ga)]) rfl ?_; refine d8 (i7 (d9 (c7 rfl (d8 (j8 ?_))))); refine pZ (hp' := [tkO gs (0, 0, 0, 0, 0, 0) ((none, 0), 0) ((none, 0), 0), (gb, Obj.cells #[int (0 : Nat)] H8 (0, 0)), (ga, Obj.cells #[int 0] H8 (0, 0))]) ((List.perm_append_comm (l₁ := [_, _]) (l₂ := [_])).trans p6) ?_; refine y8 (β := Nat × Nat × Nat × Tk) ⟨fun z => PaI x R z.1 z.2.1 z.2.2.1 z.2.2.2, fun z => [(0, str x), (2, .pointer (d6 gs)), (3, .pointer (d6 ga)), (4, .pointer (d6 gb)), (5, int z.2.1)], fun z => z.2.2.2.hp gs ++ [(gb, Obj.cells #[int z.2.2.1] H8 (0, 0)), (ga, Obj.cells #[int 0] H8 (0, 0))], fun _ => []⟩ (fun z => z.1) (x.length + 1, 0, 0, ⟨zeroSa, (none, 0), [], (none, 0), []⟩) ⟨hR, by show x.length < x.length + 1; omega, Nat.zero_le _, ⟨Grow.nil _ _, Grow.nil _ _⟩, Nat.le_refl _, Nat.le_refl _, Nat.le_refl _⟩ mC (.refl _) tK fun z hz => ?_; obtain ⟨n, i, p, t⟩ := z; simp only at hz; obtain ⟨hr, hn, hp, hk, hl1, hl2, hip⟩ := hz; obtain ⟨n, rfl⟩ : ∃ n0, n = n0 + 1 := ⟨n - 1, by omega⟩; have hdl : (x.drop p).length = x.length - p := List.length_drop; have hcut := uG 10 (x.drop p); refine i7 (j8 (d9 (b8 rfl ?_))); refine c8 (v := int p) rfl b9 rfl (m3 (List.mem_append_right (t.hp gs) m0) rfl) (dR (s := x) p rfl l5 rfl rfl rfl hp ?_); have hIx := sB (x.drop p) 10; obtain ⟨q, hq⟩ : ∃ q, Lib.indexByte (x.drop p) 10 = q := ⟨_, rfl⟩; rw [hq] at hIx hcut; refine j5 tC rfl rfl (hIx) (hpR := t.hp gs ++ [(gb, Obj.cells #[int p] H8 (0, 0)), (ga, Obj.cells #[int 0] H8 (0, 0))]) (.refl _) tK fun _ _ => ?_; refine c7 rfl (d8 (i7 (d9 (b8 rfl (C4 rfl rfl rfl (d8 ?_)))))); refine m6 rfl (fun hb1 => ?_) (fun hb1 => ?_)
 ·have hcf : (cutB 10 (x.drop p)).2.2 = false := by
    rcases hcut with ⟨_, h2, _⟩ | ⟨j, h1, _⟩
    · rw [h2]
    omega
  refine j0 (v9 _ rfl rfl (fun _ => I8 ..) (jR rfl ⟨_, underlying130, rfl⟩ rfl (gO rfl (fun _ => rfl) ?_)))
  (repeat (first | refine K1 ?_ | refine M8 ?_))
  refine dj9 (pY gb gs ga p 0 t.s.1 (t.o1, t.s.2.1.length) (t.o2, t.s.2.2.length)) (.inr (.inr ⟨_, rfl, rfl⟩)) V2 U0 (.inr ⟨_, rfl⟩) rfl (hpR := t.h1 ++ t.h2) (tz1 _ _ _ _) tK fun _ _ => ?_; obtain rfl : R = (none, p) := by rw [← hr, parseF, if_pos hcf]
  refine B5 (α := Int) (B5 (α := Ad) ?_); exact u9 ((none, 0), (none, 0)) (fun a w ha hw => gN (cs := tkC (0, 0, 0, 0, 0, 0) ((none, 0), 0) ((none, 0), 0)) (v2 := int (p : Nat)) rfl rfl rfl l6 j7 rfl m1 b9 (m3 m2 rfl) a w ha.at_ hw) rfl tK nK ⟨m1, m0, tK⟩
 obtain ⟨j, hqj, hj, hc⟩ : ∃ j : Nat, q = j ∧ j < (x.drop p).length ∧ cutB 10 (x.drop p) = ((x.drop p).take j, (x.drop p).drop (j + 1), true) := by
   rcases hcut with ⟨h1, _⟩ | ⟨j, h1, h2, h3, _⟩
   · omega
   exact ⟨j, h1, h2, h3⟩
 subst hqj; rw [sx4 hj hc] at hr; refine j6 (i8 (d9 (b8 rfl ?_))); refine c8 (v := int p) rfl b9 rfl (m3 (List.mem_append_right (t.hp gs) m0) rfl) (c8 (v := int p) rfl b9 rfl (m3 (List.mem_append_right (t.hp gs) m0) rfl) (b8 rfl (v8 ((p + j : Nat) : Int) rfl rfl rfl (by omega) r6 (jP (s := x) p (p + j) rfl l5 rfl rfl rfl rfl rfl (by omega) (by omega) ?_)))); rw [Nat.add_sub_cancel_left]; refine c7 rfl (d8 (i7 (d9 (b8 rfl (P4 rfl rfl rfl (b8 rfl ?_)))))); refine t7 rfl rfl ?_ ?_
 ·intro hg1; have hi1 : 1 < i := by simp at hg1; omega
  refine l9 hg1 (b8 rfl (l9 hg1 (Z0 rfl rfl rfl ?_))); refine p_t rfl rfl (bt1 hg1) rfl (d8 ?_); refine m6 rfl (fun hb2 => ?_) (fun hb2 => ?_)
  ·have hsold : (x.drop p).take j = soldS := by assumption
   rw [if_pos ⟨hi1, hsold⟩] at hr; refine d9 (c8 (v := int p) rfl b9 rfl (m3 (List.mem_append_right (t.hp gs) m0) rfl) (b8 rfl (v8 ((j + 1 : Nat) : Int) rfl rfl rfl (by omega) r6 (v8 ((p + (j + 1) : Nat) : Int) rfl rfl rfl (by omega) r6 (z8 rfl rfl (List.perm_middle (l₁ := t.hp gs) (l₂ := [_])) m9 (by rfl) (by rfl) ?_))))); refine d8 (w8 (aE (mT rfl (E4 (w6 (i8 (i7 (d9 ?_)))))))); refine c8 (v := int (p + (j + 1) : Nat)) rfl b9 rfl (m3 m0 rfl) (b8 rfl (C7 rfl l5 rfl ?_)); refine C4 rfl rfl rfl (d8 ?_); refine m6 rfl (fun hb3 => ?_) (fun hb3 => ?_)
   ·have hne : ¬ (x.drop p).drop (j + 1) = [] := fun h9 => by have := congrArg List.length h9; rw [List.length_drop, List.length_nil] at this; omega
    rw [if_neg hne] at hr; refine j0 (v9 _ rfl rfl (fun _ => I8 ..) (jR rfl ⟨_, underlying130, rfl⟩ rfl (gO rfl (fun _ => rfl) ?_)))
    (repeat (first | refine K1 ?_ | refine M8 ?_))
    refine dj9 (pY gb gs ga (p + (j + 1) : Nat) 0 t.s.1 (t.o1, t.s.2.1.length) (t.o2, t.s.2.2.length)) (.inr (.inr ⟨_, rfl, rfl⟩)) V2 U0 (.inr ⟨_, rfl⟩) rfl (hpR := t.h1 ++ t.h2) ((List.perm_append_comm.cons _).cons _) tK fun _ _ => ?_; obtain rfl : R = (none, (p + (j + 1))) := hr.symm; refine B5 (α := Int) (B5 (α := Ad) ?_); exact u9 ((none, 0), (none, 0)) (fun a w ha hw => gN (cs := tkC (0, 0, 0, 0, 0, 0) ((none, 0), 0) ((none, 0), 0)) (v2 := int ((p + (j + 1)) : Nat)) rfl rfl rfl l6 j7 rfl m1 b9 (m3 m2 rfl) a w ha.at_ hw) rfl tK nK ⟨m1, m0, tK⟩
   have hnl : (x.drop p).drop (j + 1) = [] := List.drop_eq_nil_of_le (by omega); rw [if_pos hnl] at hr; refine j6 (i8 (d9 ?_)); refine B8 rfl l6 j7 rfl m1 (by rfl) (t6 (cs := tkC t.s.1 (t.o1, t.s.2.1.length) (t.o2, t.s.2.2.length)) rfl rfl (.swap _ _ _) j7 (by rfl) (by rfl) (z8 rfl rfl (List.perm_append_comm (l₁ := _ :: _ :: (t.h1 ++ t.h2)) (l₂ := [_])) m9 (by rfl) (by rfl) ?_)); refine d8 (k5 ?_); refine Z3 (hp' := t.h1 ++ (t.h2 ++ [(ga, Obj.cells #[int (-1)] H8 (0, 0)), (gs, Obj.cells (tkC t.s.1 (t.o1, t.s.2.1.length) (t.o2, t.s.2.2.length)) r7 (0, 0)), (gb, Obj.cells #[int (p + (j + 1) : Nat)] H8 (0, 0))])) (wj1 _ _ _ _ _) ?_; refine dj8 hk.g1 (dj8 hk.g2 ?_); refine dj9 (rx6 gb gs ga) (.inl ⟨rfl, rfl⟩) V2 U0 (.inl rfl) rfl (hpR := [(ga, Obj.cells #[int (-1)] H8 (0, 0)), (gs, Obj.cells (tkC t.s.1 (t.o1, t.s.2.1.length) (t.o2, t.s.2.2.length)) r7 (0, 0)), (gb, Obj.cells #[int (p + (j + 1) : Nat)] H8 (0, 0))]) (.refl _) tK fun _ _ => ?_; obtain rfl : R = (some t.s, p) := hr.symm; exact u9 (t.o1, t.o2) (fun a w ha hw => gN (cs := tkC t.s.1 (t.o1, t.s.2.1.length) (t.o2, t.s.2.2.length)) (v2 := int (-1)) rfl rfl rfl l6 j7 rfl m1 b9 (m3 m0 rfl) a w ha.at_ hw) rfl tK nK ⟨m1, m0, tK⟩
  rw [if_neg (fun h9 => absurd h9.2 (by assumption))] at hr; refine j6 (i8 (d9 (b8 rfl (b8 rfl ?_))))
  refine M3 vO rfl rfl (vP gs t hk (by omega) (by omega) i ((x.drop p).take j) (by rw [List.length_take]; omega)) (hpR := [(gb, Obj.cells #[int p] H8 (0, 0)), (ga, Obj.cells #[int 0] H8 (0, 0))]) (.refl _) tK (fun y hy => by
    (repeat (first | refine K1 ?_ | refine M8 ?_))
    refine dj9 (pY gb gs ga p 0 y.1 y.2.1 y.2.2) (.inr (.inr ⟨_, rfl, rfl⟩)) V2 U0 (.inr ⟨_, rfl⟩) rfl (hpR := []) (.swap _ _ _) tK fun _ _ => ?_; obtain rfl : R = (none, p) := by rw [← hr, hy]
    refine B5 (α := Int) (B5 (α := Ad) ?_)
    exact u9 ((none, 0), (none, 0)) (fun a w ha hw => gN (cs := tkC (0, 0, 0, 0, 0, 0) ((none, 0), 0) ((none, 0), 0)) (v2 := int (p : Nat)) rfl rfl rfl l6 j7 rfl m1 b9 (m3 m2 rfl) a w ha.at_ hw) rfl tK nK ⟨m1, m0, tK⟩) ?_
  refine fun t' ht' => ?_; obtain ⟨hy, hk'⟩ := ht'; obtain ⟨hn1, hn2⟩ := kx2 hy; rw [hy] at hr; simp only at hr; have hlj : ((x.drop p).take j).length = j := by rw [List.length_take]; omega
  refine d8 (j0 ?_); refine c8 (v := int p) rfl b9 rfl (m3 (List.mem_append_right (t'.hp gs) m0) rfl) (b8 rfl (v8 ((j + 1 : Nat) : Int) rfl rfl rfl (by omega) r6 (v8 ((p + (j + 1) : Nat) : Int) rfl rfl rfl (by omega) r6 (z8 rfl rfl (List.perm_middle (l₁ := t'.hp gs) (l₂ := [_])) m9 (by rfl) (by rfl) ?_)))); refine j4 (w9 (i8 (j0 (b8 rfl ?_)))); refine v8 ((i + 1 : Nat) : Int) rfl rfl rfl (by push_cast; rfl) r6 ?_; refine c7 rfl (j4 ?_); rw [List.drop_drop] at hr; refine Z3 (List.perm_middle (l₁ := t'.hp gs) (l₂ := [_])).symm ?_; exact again _ (n, i + 1, p + (j + 1), t') ⟨hr, by show (x.drop (p + (j + 1))).length < n; rw [List.length_drop]; omega, by show p + (j + 1) ≤ x.length; omega, hk', by show t'.s.2.1.length ≤ p + (j + 1); omega, by show t'.s.2.2.length ≤ p + (j + 1); omega, by show i + 1 ≤ p + (j + 1); omega⟩ (by show n < n + 1; omega) mC (.refl _) tK
 intro hg1; have hi1 : ¬ 1 < i := by simp at hg1; omega
 refine q7 hg1 (q7 hg1 ?_); refine p_f rfl rfl (bf2 hg1) rfl ?_; refine d8 (c_f rfl rfl ?_); rw [if_neg (fun h9 => hi1 h9.1)] at hr; refine j6 (i8 (d9 (b8 rfl (b8 rfl ?_))))
 refine M3 vO rfl rfl (vP gs t hk (by omega) (by omega) i ((x.drop p).take j) (by rw [List.length_take]; omega)) (hpR := [(gb, Obj.cells #[int p] H8 (0, 0)), (ga, Obj.cells #[int 0] H8 (0, 0))]) (.refl _) tK (fun y hy => by
   (repeat (first | refine K1 ?_ | refine M8 ?_))
   refine dj9 (pY gb gs ga p 0 y.1 y.2.1 y.2.2) (.inr (.inr ⟨_, rfl, rfl⟩)) V2 U0 (.inr ⟨_, rfl⟩) rfl (hpR := []) (.swap _ _ _) tK fun _ _ => ?_; obtain rfl : R = (none, p) := by rw [← hr, hy]
   refine B5 (α := Int) (B5 (α := Ad) ?_)
   exact u9 ((none, 0), (none, 0)) (fun a w ha hw => gN (cs := tkC (0, 0, 0, 0, 0, 0) ((none, 0), 0) ((none, 0), 0)) (v2 := int (p : Nat)) rfl rfl rfl l6 j7 rfl m1 b9 (m3 m2 rfl) a w ha.at_ hw) rfl tK nK ⟨m1, m0, tK⟩) ?_
 refine fun t' ht' => ?_; obtain ⟨hy, hk'⟩ := ht'; obtain ⟨hn1, hn2⟩ := kx2 hy; rw [hy] at hr; simp only at hr; have hlj : ((x.drop p).take j).length = j := by rw [List.length_take]; omega
 refine d8 (j0 ?_); refine c8 (v := int p) rfl b9 rfl (m3 (List.mem_append_right (t'.hp gs) m0) rfl) (b8 rfl (v8 ((j + 1 : Nat) : Int) rfl rfl rfl (by omega) r6 (v8 ((p + (j + 1) : Nat) : Int) rfl rfl rfl (by omega) r6 (z8 rfl rfl (List.perm_middle (l₁ := t'.hp gs) (l₂ := [_])) m9 (by rfl) (by rfl) ?_)))); refine j4 (w9 (i8 (j0 (b8 rfl ?_)))); refine v8 ((i + 1 : Nat) : Int) rfl rfl rfl (by push_cast; rfl) r6 ?_; refine c7 rfl (j4 ?_); rw [List.drop_drop] at hr; refine Z3 (List.perm_middle (l₁ := t'.hp gs) (l₂ := [_])).symm ?_; exact again _ (n, i + 1, p + (j + 1), t') ⟨hr, by show (x.drop (p + (j + 1))).length < n; rw [List.length_drop]; omega, by show p + (j + 1) ≤ x.length; omega, hk', by show t'.s.2.1.length ≤ p + (j + 1); omega, by show t'.s.2.2.length ≤ p + (j + 1); omega, by show i + 1 ≤ p + (j + 1); omega⟩ (by show n < n + 1; omega) mC (.refl _) tK
end Go.Proofs.YtcdopfjiadifhaaGreatDoor
end
