/- Texts. -/
import Derived.Lib.Bytealg
import Derived.Test.YtdgmfagfpbdbhaaGreatDoorAAf
import Derived.Test.YtdgmfagfpbdbhaaGreatDoorAAg
set_option linter.unusedVariables false
set_option linter.unusedSimpArgs false
section
namespace Go.Proofs.YtdgmfagfpbdbhaaGreatDoor
open Go Go.W Tryz T F
set_option maxRecDepth 20000
attribute [local irreducible] HL HC HQ HB Row Rows2 Blk Facts
def followE (t : Tr) (h : Int) : Int × Int × Int := if ¬ askE t [h] = 0 then (0, 0, askE t [h]) else if (followT t h).isSome = false then (0, 0, 9) else (((followT t h).getD (0, 0)).1, ((followT t h).getD (0, 0)).2, 0)
theorem tA {A B : Option Addr} {ca cb : Nat} (cs : List Cl) (hs : List Hd) (h : Int) (hca : cs.length ≤ ca) (hcb : hs.length ≤ cb) (ha : ∀ h ∈ hs, h.2.2.2.l.length ≤ 1000000) : Meets prog Z7 [.agg #[.slice A cs.length ca, .slice B hs.length cb], int h] { LI := [Row A (rows cs), RowsF B hs Hd.row], val := fun _ : Unit => .tuple #[int (followE (trOf cs hs) h).1, int (followE (trOf cs hs) h).2.1, int (followE (trOf cs hs) h).2.2] } := by
 refine i5 wB rfl t3 fun w0 => i3 (O9 rfl rfl fun gB => ?_); refine c8 rfl (c8 rfl (c8 rfl (c9 ?_))); refine I6 ⟨fun _ : Nat × OutC × OutC => True, fun x => [(1, int h), (2, .pointer (c5 gB)), (7, if askE (trOf cs hs) [h] = 0 then .pointer (some ⟨x.1, 0, none⟩) else .pointer none), (6, int (askE (trOf cs hs) [h]))], fun _ => [(gB, .cells #[.slice A cs.length ca, .slice B hs.length cb] r5 (0, 0))], fun x => (if askE (trOf cs hs) [h] = 0 then beginL cs hs A ca B cb x else []) ++ [Row A (rows cs), RowsF B hs Hd.row]⟩ ?_ ?_
 ·skip
  refine d4 ?_
  first | refine D1 rfl d9 c7 rfl mB (by rfl) ?_ | refine G0 rfl d9 c7 rfl mB (by rfl) ?_ | refine u0 rfl d9 c7 rfl rfl (r4 mB (u5 (by omega))) ?_
  refine b6 rfl (l9 _ rfl rfl (fun _ => G6 ..) fun gS => A8 (rows [h]) (List.prefix_refl _) ?_); refine i8 gK rfl rfl (gE cs hs [h] hca hcb ha (by simp)) n4 mC fun x _ => ?_; refine b6 rfl (j7 rfl rfl rfl (j7 rfl rfl rfl (c8 rfl (c8 rfl (b5 ?_))))); exact D0 _ x tK mC (List.Sublist.refl _) (LSub.of_mem fun F hF => (List.mem_append.1 hF).elim (fun h1 => List.mem_append_left _ h1) (fun h2 => List.mem_append_right _ (List.mem_cons_of_mem _ h2)))
 refine fun x _ => ?_
 dsimp only
 refine d7 (i3 (b6 rfl (L5 rfl rfl rfl (c9 ?_))))
 first | refine k6 rfl (fun hb1 => ?_) (fun hb1 => ?_) | refine i6 rfl (fun hb1 => ?_) (fun hb1 => ?_)
 ·have hb1' := hb1; try simp at hb1'
  refine i3 (b6 rfl (c8 rfl (c8 rfl (c8 rfl (c9 (J0 ?_)))))); exact ret3 () rfl rfl rfl rfl (by show Value.tuple #[int (followE (trOf cs hs) h).1, int (followE (trOf cs hs) h).2.1, int (followE (trOf cs hs) h).2.2] = _; rw [followE, if_pos hb1]) rfl tK nK tK
 have hb1' := hb1; try simp at hb1'
 have h0 := Classical.not_not.1 hb1; rw [if_pos h0, if_pos h0]; have hch := sC h0; have hin := hz8 h0 (List.mem_singleton.2 rfl); rw [C9] at hin; have hok := lD hch; have h6 : cs.length ≤ 6 := hok.c6; have h6h := hok.h6; rw [C9] at h6h; have hcl : ∀ i, i < cs.length → ClsOK cs i := hok.c; obtain ⟨gl, ⟨oa, oc⟩, ⟨ka, kc⟩⟩ := x; have hS := ij2 hok; show HC _ _ _ _ _ [Row (c5 gl) [.slice A cs.length ca, .slice B hs.length cb, .slice oa cs.length oc, .slice ka hs.length kc], Row oa (rows (masksN cs cs.length)), Row ka (rows (kindsN hs hs.length)), Row A (rows cs), RowsF B hs Hd.row]; refine i9 (i2 (i3 (b6 rfl (b6 rfl ?_)))); refine i8 bA rfl rfl (aS (oa := oa) (oc := oc) (ka := ka) (kc := kc) (gl := gl) cs hs h hin.1 (by omega) (by omega) hS) n4 mC fun _ _ => b6 rfl (j7 (vs := #[int ((followT (trOf cs hs) h).getD (0, 0)).1, int ((followT (trOf cs hs) h).getD (0, 0)).2, .bool (followT (trOf cs hs) h).isSome]) rfl rfl rfl (j7 (vs := #[int ((followT (trOf cs hs) h).getD (0, 0)).1, int ((followT (trOf cs hs) h).getD (0, 0)).2, .bool (followT (trOf cs hs) h).isSome]) rfl rfl rfl (j7 (vs := #[int ((followT (trOf cs hs) h).getD (0, 0)).1, int ((followT (trOf cs hs) h).getD (0, 0)).2, .bool (followT (trOf cs hs) h).isSome]) rfl rfl rfl ?_))); refine c8 rfl (c8 rfl (c8 rfl (c9 (d7 (i3 (b6 rfl (I4 rfl rfl (c9 ?_))))))))
 first | refine k6 rfl (fun hb2 => ?_) (fun hb2 => ?_) | refine i6 rfl (fun hb2 => ?_) (fun hb2 => ?_)
 ·have hb2' := hb2; try simp at hb2'
  have h2 : (followT (trOf cs hs) h).isSome = false := by simpa using hb2
  refine i3 (c8 rfl (c8 rfl (c8 rfl (c9 (J0 ?_))))); exact ret3 () rfl rfl rfl rfl (by show Value.tuple #[int (followE (trOf cs hs) h).1, int (followE (trOf cs hs) h).2.1, int (followE (trOf cs hs) h).2.2] = _; rw [followE, if_neg hb1, if_pos h2]) rfl tK nK tK
 have hb2' := hb2; try simp at hb2'
 have h2 : ¬ (followT (trOf cs hs) h).isSome = false := fun e => by rw [e] at hb2; cases hb2
 refine i9 (i2 (i3 (b6 rfl (b6 rfl (c8 rfl (c8 rfl (c8 rfl (c9 (k8 ?_))))))))); exact ret3 () rfl rfl rfl rfl (by show Value.tuple #[int (followE (trOf cs hs) h).1, int (followE (trOf cs hs) h).2.1, int (followE (trOf cs hs) h).2.2] = _; rw [followE, if_neg hb1, if_neg h2]; rfl) rfl tK nK tK
theorem G5 (m i : Nat) (hm : m < 256) (hi : i < 8) : Meets prog X5 [u8 m, int i] { val := fun _ : Unit => u8 (m ||| 2 ^ i) } := by
 refine i5 pZ rfl t3 fun w0 => ?_; refine i3 (c8 rfl (n9 (b6 rfl (b6 rfl (kq8 i rfl rfl rfl rfl hi ?_))))); refine ij4 rfl rfl rfl hm (Nat.pow_lt_pow_right (by omega) hi : 2 ^ i < 2 ^ 8) ?_; refine c8 rfl (c9 (k8 ?_)); exact ret1 () rfl rfl rfl tK nK tK
theorem cO (m i : Nat) (hm : m < 256) (hi : i < 8) : Meets prog aO [u8 m, int i] { val := fun _ : Unit => .bool (m.testBit i) } := by
 refine i5 rD rfl t3 fun w0 => ?_; refine i3 (c8 rfl (n9 (b6 rfl (b6 rfl (kq7 i rfl rfl rfl rfl hi ?_))))); refine gz9 (b := 1) rfl rfl rfl (Nat.lt_of_le_of_lt (Nat.div_le_self _ _) hm) (by decide) ?_; refine H5 rfl rfl rfl (c8 rfl (c9 (k8 ?_))); exact ret1 () rfl (congrArg (fun b => some (Value.bool b)) (by exact mj1 m i)) rfl tK nK tK
theorem W9 (s p : Str) :
    Meets prog H9 [str s, str p] { val := fun _ : Unit => .bool (decide (p.length ≤ s.length ∧ s.take p.length = p)) } := by
 refine i5 Y9 rfl t3 fun w0 => ?_; refine i3 (c8 rfl (n9 (b6 rfl ?_))); refine K0 rfl r9 rfl (b6 rfl (K0 rfl r9 rfl ?_)); refine nV rfl rfl rfl (b6 rfl ?_); refine v4 rfl rfl ?_ ?_
 ·intro hg1; have hg1' := hg1; try simp at hg1'
  have hle : p.length ≤ s.length := by simpa using hg1
  refine k9 hg1 (b6 rfl (k9 hg1 (b6 rfl (k9 hg1 ?_)))); refine K0 rfl r9 rfl (k9 hg1 (jZ p.length rfl r9 rfl rfl rfl (by omega) ?_)); refine k9 hg1 (b6 rfl (k9 hg1 (K4 rfl rfl rfl ?_))); refine p_t rfl rfl (bt1 hg1) rfl ?_; refine c8 rfl (c9 (k8 ?_)); exact ret1 () rfl (congrArg (fun b => some (Value.bool b)) (by simp [hle])) rfl tK nK tK
 intro hg1; have hg1' := hg1; try simp at hg1'
 have hle : ¬ p.length ≤ s.length := by simpa using hg1
 refine q7 hg1 (q7 hg1 (q7 hg1 (q7 hg1 (q7 hg1 (q7 hg1 ?_))))); refine p_f rfl rfl (bf2 hg1) rfl ?_; refine c8 rfl (c9 (k8 ?_)); exact ret1 () rfl (congrArg (fun b => some (Value.bool b)) (by simp [hle])) rfl tK nK tK
theorem lJ (s p : Str) :
    Meets prog U9 [str s, str p] { val := fun _ : Unit => .bool (decide (p.length ≤ s.length ∧ s.take p.length = p)) } := by
 refine i5 nL rfl t3 fun w0 => ?_; refine i3 (c8 rfl (n9 (b6 rfl (b6 rfl ?_)))); refine i8 Y2 rfl rfl (W9 s p) (.refl _) tK fun _ _ => ?_; refine c8 rfl (c9 (k8 ?_)); exact ret1 () rfl rfl rfl tK (.refl _) tK
theorem ij7 {s p : Str} : (p.length ≤ s.length ∧ s.take p.length = p) ↔ p <+: s := by
  rw [List.prefix_iff_eq_take]
  constructor
  · exact fun e => e.2.symm
  intro e; refine ⟨?_, e.symm⟩; have := congrArg List.length e; rw [List.length_take] at this
  omega
theorem lj3 {t : Tr} {b : Str} {h i : Nat} (hn : ¬ b <+: (t.hs.getD h default).1) : leadsB t b h i = false := by rw [leadsB, decide_eq_false hn, Bool.false_and]
theorem hq3 {t : Tr} {b : Str} {h i : Nat} (hn : (followT t h).isSome = false) : leadsB t b h i = false := by
  rw [leadsB]
  cases e : followT t h with
  | none => simp
  | some x => rw [e] at hn; cases hn
theorem lj4 {t : Tr} {b : Str} {h i : Nat} (hp : b <+: (t.hs.getD h default).1) (hn : (followT t h).isSome = true) : leadsB t b h i = (decide (((followT t h).getD (0, 0)).1 = (i : Int)) && isTrB t ((followT t h).getD (0, 0)).1) := by
  rw [leadsB, decide_eq_true hp, Bool.true_and]
  cases e : followT t h with
  | none => rw [e] at hn; cases hn
  | some x => rfl
theorem jz0 {t : Tr} (hok : TrOK t) {h : Nat} (hh : h < t.hs.length) (hn : (followT t h).isSome = true) : 0 ≤ ((followT t h).getD (0, 0)).1 ∧ ((followT t h).getD (0, 0)).1 < (t.hs.length : Int) := by
  cases e : followT t h with
  | none => rw [e] at hn; cases hn
  | some x => exact bz6 hok _ (h : Int) 0 x.1 x.2 (by omega) (by omega) e
theorem wS (f : Nat → Bool) (k : Nat) : (List.range (k + 1)).any f = ((List.range k).any f || f k) := by rw [List.range_succ, List.any_append]; simp
def MaySet (t : Tr) (b : Str) (k m : Nat) : Prop := m < 256 ∧ ∀ j, m.testBit j = (List.range k).any fun h => leadsB t b h j
theorem aq5 {t : Tr} {b : Str} {k m : Nat} (h : MaySet t b k m) (hn : ∀ j, leadsB t b k j = false) : MaySet t b (k + 1) m := ⟨h.1, fun j => by rw [wS, hn j, Bool.or_false]; exact h.2 j⟩
theorem lj0 {t : Tr} {b : Str} {k m e : Nat} (h : MaySet t b k m) (he : e < 8) (hn : ∀ j, leadsB t b k j = decide (e = j)) : MaySet t b (k + 1) (m ||| 2 ^ e) := ⟨Nat.or_lt_two_pow (n := 8) h.1 (Nat.pow_lt_pow_right (by omega) he), fun j => by rw [wS, hn j, Nat.testBit_or, Nat.testBit_two_pow, h.2 j]⟩
def mayK (m k : Nat) : List Int := ((List.range k).filter fun i => m.testBit i).map fun i : Nat => (i : Int)
theorem aW (m k : Nat) : mayK m (k + 1) = if m.testBit k = true then mayK m k ++ [(k : Int)] else mayK m k := by
  unfold mayK; rw [List.range_succ, List.filter_append, List.map_append]
  by_cases h : m.testBit k = true <;> simp [h]
theorem vL (m k : Nat) : (mayK m k).length ≤ k := by
  unfold mayK; rw [List.length_map]; exact Nat.le_trans (List.length_filter_le _ _) (by simp)
theorem lj1 {t : Tr} {b : Str} {m : Nat} (h : MaySet t b t.hs.length m) : mayK m t.hs.length = mayT t b := by
  unfold mayK mayT
  congr 1
  exact List.filter_congr fun i _ => h.2 i
set_option maxHeartbeats 1000000 in
theorem S8 {A B oa ka : Option Addr} {ca cb oc kc gl : Nat} (cs : List Cl) (hs : List Hd) (b : Str) (hok : TrOK (trOf cs hs)) : Meets prog bZ [.pointer (c5 gl), str b] { LI := [Row (c5 gl) [.slice A cs.length ca, .slice B hs.length cb, .slice oa cs.length oc, .slice ka hs.length kc], Row ka (rows (kindsN hs hs.length)), Row B (rows hs)], inv := fun x : OutC => (mayT (trOf cs hs) b).length ≤ x.2, val := fun x => .slice x.1 (mayT (trOf cs hs) b).length x.2, LO := fun x => [Row x.1 (rows (mayT (trOf cs hs) b))] } := by
 refine i5 sN rfl t3 fun w0 => ?_; refine i3 (c8 rfl (c9 (d7 ?_))); have h6h := hok.h6; have hln := C9 cs hs; rw [hln] at h6h; have hS := ij2 hok; refine d4 (c8 rfl (c9 (d7 (i3 (b6 rfl (l5 rfl rfl ?_))))))
 first | refine a6 ⟨_, 0, none⟩ rfl rfl p7 rfl ?_ | refine a6 _ rfl rfl p7 rfl ?_
 first | refine a6 ⟨_, 1, none⟩ rfl rfl j0 rfl ?_ | refine a6 _ rfl rfl j0 rfl ?_
 first | refine a7 rfl b4 rfl (d5 mB rfl) ?_ | refine a7 rfl b4 rfl (d3 mB rfl) ?_ | refine a7 rfl b4 rfl (b7 mB (b2 (by omega) rfl)) ?_ | refine a7 rfl b4 rfl (b8 mB (rows_get (by omega) rfl)) ?_ | refine a7 rfl b4 rfl (d6 mB rfl) ?_
 refine j9 rfl n7 rfl ?_; refine b6 rfl (c9 (j4 ?_)); refine t8 (β := Nat × Nat) ⟨fun x => x.1 ≤ hs.length ∧ MaySet (trOf cs hs) b x.1 x.2, fun x => [(0, .pointer (c5 gl)), (1, str b), (5, u8 x.2), (18, int hs.length), (17, .slice B hs.length cb), (19, int x.1)], fun _ => [], fun _ => [Row (c5 gl) [.slice A cs.length ca, .slice B hs.length cb, .slice oa cs.length oc, .slice ka hs.length kc], Row ka (rows (kindsN hs hs.length)), Row B (rows hs)]⟩ (fun x => hs.length - x.1) (0, 0) ⟨Nat.zero_le _, by decide, fun j => by simp⟩ mC nK mC fun x hx => ?_; obtain ⟨k, m⟩ := x; obtain ⟨hk, hM⟩ := hx; simp only at hk hM; refine i3 (z6 rfl rfl rfl (c9 (d7 ?_)))
 first | refine k6 rfl (fun hb1 => ?_) (fun hb1 => ?_) | refine i6 rfl (fun hb1 => ?_) (fun hb1 => ?_)
 ·have hb1' := hb1; try simp at hb1'
  have hk2 : k < hs.length := by omega
  have hgd : ((trOf cs hs).hs.getD k default).1 = (hs.getD k default).1 := by show ((hs.map Hd.p).getD k default).1 = _; rw [N4 hk2]; rfl
  refine i9 (i2 (d7 (j4 (i3 (b6 rfl ?_))))); refine q8 (α := Hd) hs k rfl n7 l4 rfl rfl rfl mB rfl hk2 (by decide) (u0 rfl w5 l4 rfl rfl (r4 mB (u5 (by omega))) (q6 rfl (fun _ => E1 _) fun gA => c8 rfl (l6 rfl rfl aJ l4 (by rfl) (by rfl) ?_))); refine c9 (bT ?_); refine P7 (rows [hs.getD k default]) ⟨[], List.append_nil _⟩ (d4 ?_)
  first | refine a6 ⟨_, 0, none⟩ rfl rfl n6 rfl ?_ | refine a6 _ rfl rfl n6 rfl ?_
  first | refine a7 rfl a9 rfl (d5 mB rfl) ?_ | refine a7 rfl a9 rfl (d3 mB rfl) ?_ | refine a7 rfl a9 rfl (b7 mB (b2 (by omega) rfl)) ?_ | refine a7 rfl a9 rfl (b8 mB (rows_get (by omega) rfl)) ?_ | refine a7 rfl a9 rfl (d6 mB rfl) ?_
  refine b6 rfl (i8 mF rfl rfl (lJ (hs.getD k default).1 b) n4 tK fun _ _ => ?_); refine I4 rfl rfl (c9 ?_)
  first | refine k6 rfl (fun hb2 => ?_) (fun hb2 => ?_) | refine i6 rfl (fun hb2 => ?_) (fun hb2 => ?_)
  ·have hb2' := hb2; try simp at hb2'
   have hp : ¬ b <+: ((trOf cs hs).hs.getD k default).1 := by rw [hgd]; exact fun e => by rw [decide_eq_true (ij7.2 e)] at hb2; cases hb2
   refine q9 (aV (r7 (i2 (d4 ?_)))); refine t7 _ rfl rfl rfl rfl p8 ?_; refine b6 rfl (b5 ?_); exact again _ (k + 1, m) ⟨by show k + 1 ≤ hs.length; omega, by exact aq5 hM fun j => lj3 hp⟩ (z8 (by omega)) mC nK mC
  have hb2' := hb2; try simp at hb2'
  have hp : b <+: ((trOf cs hs).hs.getD k default).1 := by rw [hgd]; exact Classical.byContradiction fun e => by rw [decide_eq_false (fun f => e (ij7.1 f))] at hb2; cases hb2
  refine i9 (i2 (i3 (b6 rfl (b6 rfl ?_)))); refine i8 bA rfl rfl (aS (oa := oa) (oc := oc) (ka := ka) (kc := kc) (gl := gl) cs hs (k : Int) (by omega) (by omega) (by omega) hS) n4 mC fun _ _ => b6 rfl (j7 (vs := #[int ((followT (trOf cs hs) (k : Int)).getD (0, 0)).1, int ((followT (trOf cs hs) (k : Int)).getD (0, 0)).2, .bool (followT (trOf cs hs) (k : Int)).isSome]) rfl rfl rfl (j7 (vs := #[int ((followT (trOf cs hs) (k : Int)).getD (0, 0)).1, int ((followT (trOf cs hs) (k : Int)).getD (0, 0)).2, .bool (followT (trOf cs hs) (k : Int)).isSome]) rfl rfl rfl (j7 (vs := #[int ((followT (trOf cs hs) (k : Int)).getD (0, 0)).1, int ((followT (trOf cs hs) (k : Int)).getD (0, 0)).2, .bool (followT (trOf cs hs) (k : Int)).isSome]) rfl rfl rfl ?_))); refine c8 rfl (c8 rfl (c8 rfl (n9 (b6 rfl (b6 rfl ?_))))); refine v4 rfl rfl ?_ ?_
  ·intro hg1; have hg1' := hg1; try simp at hg1'
   have hs1 : (followT (trOf cs hs) (k : Int)).isSome = true := bt1 hg1; have hat := jz0 hok (by rw [hln]; exact hk2) hs1; rw [hln] at hat; have hL := fun i => lj4 (i := i) hp hs1; refine k9 hg1 (b6 rfl (k9 hg1 (b6 rfl (k9 hg1 ?_)))); refine i8 Y7 rfl rfl (Y4 (oa := oa) (oc := oc) (ka := ka) (kc := kc) (gl := gl) (A := A) (B := B) (ca := ca) (cb := cb) cs hs ((followT (trOf cs hs) (k : Int)).getD (0, 0)).1 hat.1 hat.2 (by omega)) n4 mC fun _ _ => p_t rfl rfl (bt1 hg1) rfl (c9 ?_)
   first | refine k6 rfl (fun hb3 => ?_) (fun hb3 => ?_) | refine i6 rfl (fun hb3 => ?_) (fun hb3 => ?_)
   ·have hb3' := hb3; try simp at hb3'
    obtain ⟨en, hen⟩ := Int.eq_ofNat_of_zero_le hat.1; refine d4 (b6 rfl ?_); refine mT (v := int (en : Int)) rfl (congrArg (fun z => some (int z)) hen) ?_; refine i8 G7 rfl rfl (G5 m en hM.1 (by omega)) n4 tK fun _ _ => ?_; refine c8 rfl (b5 (v5 (i2 (d4 ?_)))); refine t7 _ rfl rfl rfl rfl p8 ?_; refine b6 rfl (b5 ?_); exact again _ (k + 1, m ||| 2 ^ en) ⟨by show k + 1 ≤ hs.length; omega, by exact lj0 hM (by omega) fun j => by rw [hL j, hb3, Bool.and_true]; exact decide_eq_decide.2 (by omega)⟩ (z8 (by omega)) mC nK mC
   have hb3' := hb3; try simp at hb3'
   refine i9 (v5 (i2 (d4 ?_))); refine t7 _ rfl rfl rfl rfl p8 ?_; refine b6 rfl (b5 ?_); exact again _ (k + 1, m) ⟨by show k + 1 ≤ hs.length; omega, by exact aq5 hM fun j => by rw [hL j, hb3, Bool.and_false]⟩ (z8 (by omega)) mC nK mC
  intro hg1; have hg1' := hg1; try simp at hg1'
  have hs1 : (followT (trOf cs hs) (k : Int)).isSome = false := bf2 hg1; refine q7 hg1 (q7 hg1 (q7 hg1 ?_)); refine p_f rfl rfl (bf2 hg1) rfl ?_; refine c9 (c_f rfl rfl (i9 (v5 (i2 (d4 ?_))))); refine t7 _ rfl rfl rfl rfl p8 ?_; refine b6 rfl (b5 ?_); exact again _ (k + 1, m) ⟨by show k + 1 ≤ hs.length; omega, by exact aq5 hM fun j => hq3 hs1⟩ (z8 (by omega)) mC nK mC
 have hb1' := hb1; try simp at hb1'
 have hk2 : k = hs.length := by omega
 subst hk2; rw [← hln] at hM; have hA := lj1 hM; rw [hln] at hA; refine q9 (C3 (r7 (i2 (i3 (c8 rfl (c9 (bT ?_))))))); refine d4 (b6 rfl (l5 rfl rfl ?_))
 first | refine a6 ⟨_, 0, none⟩ rfl rfl p7 rfl ?_ | refine a6 _ rfl rfl p7 rfl ?_
 first | refine a6 ⟨_, 1, none⟩ rfl rfl j0 rfl ?_ | refine a6 _ rfl rfl j0 rfl ?_
 first | refine a7 rfl b4 rfl (d5 mB rfl) ?_ | refine a7 rfl b4 rfl (d3 mB rfl) ?_ | refine a7 rfl b4 rfl (b7 mB (b2 (by omega) rfl)) ?_ | refine a7 rfl b4 rfl (b8 mB (rows_get (by omega) rfl)) ?_ | refine a7 rfl b4 rfl (d6 mB rfl) ?_
 refine j9 rfl n7 rfl ?_; refine b6 rfl (c9 (j4 ?_)); refine t8 (β := Nat × OutC × Hp) ⟨fun x => x.1 ≤ hs.length ∧ Grow aD 1 x.2.1.1 (mayK m x.1).length x.2.1.2 (rows (mayK m x.1)) x.2.2, fun x => [(5, u8 m), (11, .slice x.2.1.1 (mayK m x.1).length x.2.1.2), (51, int hs.length), (52, int x.1)], fun x => x.2.2, fun _ => []⟩ (fun x => hs.length - x.1) (0, (none, 0), []) ⟨Nat.zero_le _, Grow.nil _ _⟩ mC nK tK fun x hx => ?_; obtain ⟨k, ⟨na, nc⟩, og⟩ := x; obtain ⟨hk, hG⟩ := hx; simp only at hk hG; refine i3 (z6 rfl rfl rfl (c9 (d7 ?_)))
 first | refine k6 rfl (fun hb4 => ?_) (fun hb4 => ?_) | refine i6 rfl (fun hb4 => ?_) (fun hb4 => ?_)
 ·have hb4' := hb4; try simp at hb4'
  have hk2 : k < hs.length := by omega
  have hml := vL m k; refine i9 (i2 (d7 (j4 (i3 (b6 rfl (c8 rfl (n9 ?_))))))); refine b6 rfl (b6 rfl ?_); refine i8 cU rfl rfl (cO m k hM.1 (by omega)) n4 tK fun _ _ => c9 ?_
  first | refine k6 rfl (fun hb5 => ?_) (fun hb5 => ?_) | refine i6 rfl (fun hb5 => ?_) (fun hb5 => ?_)
  ·have hb5' := hb5; try simp at hb5'
   refine d4 (b6 rfl (b6 rfl ?_)); refine l9 _ rfl rfl (fun _ => G6 ..) fun gS => A8 (rows [(k : Int)]) (List.prefix_refl _) ?_; refine D9 ((mayK m k).length + 1) (rows (mayK m k ++ [(k : Int)])) cX rfl rfl rfl hG (hp' := []) (by rw [List.append_nil]; exact List.Perm.refl _) (Src.row (news := rows [(k : Int)]) (m := 1) m0 rfl (D4 _) (by decide)) rfl (v7 _ _).symm (by unfold maxLen; omega) (by omega) fun A' c' og' hG' => ?_; refine c8 rfl (b5 (v5 (i2 (d4 ?_)))); refine t7 _ rfl rfl rfl rfl p8 ?_; refine b6 rfl (b5 ?_); exact again _ (k + 1, (A', c'), og') ⟨by show k + 1 ≤ hs.length; omega, by show Grow _ _ _ (mayK m (k + 1)).length _ (rows (mayK m (k + 1))) _; rw [aW, if_pos hb5, List.length_append]; exact hG'⟩ (z8 (by omega)) ⟨rfl, by show some (Value.slice A' ((mayK m k).length + 1) c') = some (Value.slice A' (mayK m (k + 1)).length c'); rw [aW, if_pos hb5, List.length_append]; rfl, rfl, rfl, tK⟩ (List.sublist_append_left _ _) tK
  have hb5' := hb5; try simp at hb5'
  refine i9 (v5 (i2 (d4 ?_))); refine t7 _ rfl rfl rfl rfl p8 ?_; refine b6 rfl (b5 ?_); exact again _ (k + 1, (na, nc), og) ⟨by show k + 1 ≤ hs.length; omega, by show Grow _ _ _ (mayK m (k + 1)).length _ (rows (mayK m (k + 1))) _; rw [aW, if_neg (by rw [hb5]; decide)]; exact hG⟩ (z8 (by omega)) ⟨rfl, by show some (Value.slice na (mayK m k).length nc) = some (Value.slice na (mayK m (k + 1)).length nc); rw [aW, if_neg (by rw [hb5]; decide)], rfl, rfl, tK⟩ (List.Sublist.refl _) tK
 have hb4' := hb4; try simp at hb4'
 have hk2 : k = hs.length := by omega
 subst hk2; have hG2 := hG; rw [hA] at hG2; refine q9 (C3 (r7 (i2 (i3 (b6 rfl (c8 rfl (c9 (k8 ?_)))))))); refine lO hG2 ?_; exact ret1 (na, nc) rfl (by show some (Value.slice na (mayK m hs.length).length nc) = some (Value.slice na (mayT (trOf cs hs) b).length nc); rw [hA]) rfl hG2.le nK ⟨m0, tK⟩
def mayE (t : Tr) (b : Str) : List Int × Int := if ¬ checkT t = 0 then ([], checkT t) else (mayT t b, 0)
theorem zB {A B : Option Addr} {ca cb : Nat} (cs : List Cl) (hs : List Hd) (b : Str) (hca : cs.length ≤ ca) (hcb : hs.length ≤ cb) (ha : ∀ h ∈ hs, h.2.2.2.l.length ≤ 1000000) : Meets prog iJ [.agg #[.slice A cs.length ca, .slice B hs.length cb], str b] { LI := [Row A (rows cs), RowsF B hs Hd.row], inv := fun x : OutC => (mayE (trOf cs hs) b).1.length ≤ x.2, val := fun x => .tuple #[.slice x.1 (mayE (trOf cs hs) b).1.length x.2, int (mayE (trOf cs hs) b).2], LO := fun x => [Row x.1 (rows (mayE (trOf cs hs) b).1)] } := by
 refine i5 ax9 rfl t3 fun w0 => i3 (O9 rfl rfl fun gB => ?_); refine c8 rfl (c8 rfl (c9 ?_)); refine I6 ⟨fun _ : Nat × OutC × OutC => True, fun x => [(1, str b), (2, .pointer (c5 gB)), (6, if checkT (trOf cs hs) = 0 then .pointer (some ⟨x.1, 0, none⟩) else .pointer none), (7, int (checkT (trOf cs hs)))], fun _ => [(gB, .cells #[.slice A cs.length ca, .slice B hs.length cb] r5 (0, 0))], fun x => (if checkT (trOf cs hs) = 0 then beginL cs hs A ca B cb x else []) ++ [Row A (rows cs), RowsF B hs Hd.row]⟩ ?_ ?_
 ·skip
  refine d4 ?_
  first | refine D1 rfl d9 c7 rfl mB (by rfl) ?_ | refine G0 rfl d9 c7 rfl mB (by rfl) ?_ | refine u0 rfl d9 c7 rfl rfl (r4 mB (u5 (by omega))) ?_
  refine i8 L9 rfl rfl (K9 cs hs hca hcb ha) n4 mC fun x _ => ?_; refine b6 rfl (j7 rfl rfl rfl (j7 rfl rfl rfl (c8 rfl (c8 rfl (b5 ?_))))); exact D0 _ x tK mC (List.Sublist.refl _) (LSub.of_mem fun F h => h)
 refine fun x _ => ?_
 dsimp only
 refine d7 (i3 (b6 rfl (L5 rfl rfl rfl (c9 ?_))))
 first | refine k6 rfl (fun hb1 => ?_) (fun hb1 => ?_) | refine i6 rfl (fun hb1 => ?_) (fun hb1 => ?_)
 ·have hb1' := hb1; try simp at hb1'
  have hE : mayE (trOf cs hs) b = ([], checkT (trOf cs hs)) := by rw [mayE, if_pos hb1]
  refine i3 (b6 rfl (c8 rfl (c8 rfl (c9 (J0 ?_))))); refine r8 (α := Int) ?_; exact ret2 (none, 0) rfl rfl rfl (by show Value.tuple #[.slice none (mayE (trOf cs hs) b).1.length 0, int (mayE (trOf cs hs) b).2] = _; rw [hE]; rfl) rfl (by show (mayE (trOf cs hs) b).1.length ≤ 0; rw [hE]; exact Nat.le_refl _) nK (by show LSub _ [Row none (rows (mayE (trOf cs hs) b).1)]; rw [hE]; exact ⟨m0, tK⟩)
 have hb1' := hb1; try simp at hb1'
 have h0 := Classical.not_not.1 hb1; rw [if_pos h0, if_pos h0]; have hok := lD h0; have h6 : cs.length ≤ 6 := hok.c6; have h6h := hok.h6; rw [C9] at h6h; have hcl : ∀ i, i < cs.length → ClsOK cs i := hok.c; obtain ⟨gl, ⟨oa, oc⟩, ⟨ka, kc⟩⟩ := x; have hE : mayE (trOf cs hs) b = (mayT (trOf cs hs) b, 0) := by rw [mayE, if_neg hb1]
 show HC _ _ _ _ _ [Row (c5 gl) [.slice A cs.length ca, .slice B hs.length cb, .slice oa cs.length oc, .slice ka hs.length kc], Row oa (rows (masksN cs cs.length)), Row ka (rows (kindsN hs hs.length)), Row A (rows cs), RowsF B hs Hd.row]; refine V9 mB (i9 (i2 (i3 (b6 rfl (b6 rfl ?_))))); refine i8 U6 rfl rfl (S8 (A := A) (B := B) (oa := oa) (oc := oc) (ka := ka) (kc := kc) (gl := gl) (ca := ca) (cb := cb) cs hs (b) hok) n4 mC fun y hy => ?_; refine c8 rfl (c8 rfl (c9 (k8 ?_))); exact ret2 y rfl rfl rfl (by show Value.tuple #[.slice y.1 (mayE (trOf cs hs) b).1.length y.2, int (mayE (trOf cs hs) b).2] = _; rw [hE]) rfl (by show (mayE (trOf cs hs) b).1.length ≤ y.2; rw [hE]; exact hy) nK (by show LSub _ [Row y.1 (rows (mayE (trOf cs hs) b).1)]; rw [hE]; exact ⟨m0, tK⟩)
theorem next_az {s : Str} (h : s.all azB = true) {k : Nat} (hk : k < s.length) : nextP s k = k + 1 := by
  have h1 := List.all_eq_true.1 h _ (List.getElem_mem hk); simp only [azB, Bool.and_eq_true, decide_eq_true_eq] at h1; rw [nextP, if_pos hk, yM (List.getElem?_eq_getElem hk) (by omega)]
theorem word_az {s : Str} (h : wordB s = true) : s.all azB = true := by
  unfold wordB at h; simp only [Bool.and_eq_true] at h; exact h.2.2.2.2
theorem word_12 {s : Str} (h : wordB s = true) : s.length ≤ 12 := by
  unfold wordB at h; simp only [Bool.and_eq_true, decide_eq_true_eq] at h; exact h.2.1
theorem jx3 {cs : List Cl} {hs : List Hd} (hok : TrOK (trOf cs hs)) {i : Nat} (hi : i < hs.length) : wordB (hs.getD i default).1 = true := by
  have := (hok.h i (by rw [C9]; exact hi)).w; simp only [trOf, N4 hi] at this; exact this
theorem jj4 {cs : List Cl} {hs : List Hd} {h : Int} (h0 : 0 ≤ h) (hh : h < (hs.length : Int)) : shortT (trOf cs hs) h = shortN (trOf cs hs) (hs.getD h.toNat default).1 ((hs.getD h.toNat default).1.length + 1) 0 := by
  unfold shortT; simp only [trOf, N4 (show h.toNat < hs.length by omega)]
  rfl
def shortE (t : Tr) (h : Int) : Str × Int := if ¬ askE t [h] = 0 then ([], askE t [h]) else match shortT t h with | none => ([], 11) | some s => (s, 0)
theorem mM {A B oa ka : Option Addr} {ca cb oc kc gl : Nat} (cs : List Cl) (hs : List Hd) (h : Int) (h0 : 0 ≤ h) (hh : h < (hs.length : Int)) (hok : TrOK (trOf cs hs)) : Meets prog X3 [.pointer (c5 gl), int h] { LI := [Row (c5 gl) [.slice A cs.length ca, .slice B hs.length cb, .slice oa cs.length oc, .slice ka hs.length kc], Row ka (rows (kindsN hs hs.length)), Row B (rows hs)], val := fun _ : Unit => .tuple #[str ((shortT (trOf cs hs) h).getD (hs.getD h.toNat default).1), .bool (shortT (trOf cs hs) h).isSome] } := by
 refine i5 pS rfl t3 fun w0 => ?_; refine i3 (c8 rfl (c8 rfl (n9 (b6 rfl (l5 rfl rfl ?_)))))
 first | refine a6 ⟨_, 0, none⟩ rfl rfl p7 rfl ?_ | refine a6 _ rfl rfl p7 rfl ?_
 first | refine a6 ⟨_, 1, none⟩ rfl rfl j0 rfl ?_ | refine a6 _ rfl rfl j0 rfl ?_
 first | refine a7 rfl b4 rfl (d5 mB rfl) ?_ | refine a7 rfl b4 rfl (d3 mB rfl) ?_ | refine a7 rfl b4 rfl (b7 mB (b2 (by omega) rfl)) ?_ | refine a7 rfl b4 rfl (b8 mB (rows_get (by omega) rfl)) ?_ | refine a7 rfl b4 rfl (d6 mB rfl) ?_
 refine b6 rfl (q8 (α := Hd) hs h.toNat rfl n7 l4 rfl rfl (Int.toNat_of_nonneg h0).symm mB rfl (by omega) (by decide) ?_)
 first | refine a6 ⟨_, 0, none⟩ rfl rfl n6 rfl ?_ | refine a6 _ rfl rfl n6 rfl ?_
 refine a7 (v := str (hs.getD h.toNat default).1) rfl a9 rfl (b7 mB (b2 (by omega) rfl)) ?_; refine c8 rfl (c9 (bT ?_)); have hw := jx3 hok (show h.toNat < hs.length by omega); have haz := word_az hw; have h12 := word_12 hw; have hT := jj4 (cs := cs) h0 hh
 -- (hs.getD h.toNat default).1 = s at *
 refine d4 (b6 rfl ?_); refine dq7 rfl r9 rfl fun gI => ?_; refine c9 (j4 ?_); refine t8 (β := Nat) ⟨fun k => k ≤ (hs.getD h.toNat default).1.length ∧ shortT (trOf cs hs) h = shortN (trOf cs hs) (hs.getD h.toNat default).1 ((hs.getD h.toNat default).1.length + 1 - k) k, fun k => [(0, .pointer (c5 gl)), (6, str (hs.getD h.toNat default).1), (18, .pointer (c5 gI))], fun k => [(gI, iter (hs.getD h.toNat default).1 k)], fun _ => [Row (c5 gl) [.slice A cs.length ca, .slice B hs.length cb, .slice oa cs.length oc, .slice ka hs.length kc], Row ka (rows (kindsN hs hs.length)), Row B (rows hs)]⟩ (fun k => (hs.getD h.toNat default).1.length - k) 0 ⟨Nat.zero_le _, hT⟩ mC (List.Sublist.refl _) mC fun k hk => ?_; obtain ⟨hk, ht⟩ := hk; refine i3 (ij5 rfl rfl (.refl _) ?_); refine kx2 rfl rfl (c9 (d7 ?_))
 first | refine k6 rfl (fun hb1 => ?_) (fun hb1 => ?_) | refine i6 rfl (fun hb1 => ?_) (fun hb1 => ?_)
 ·have hb1' := hb1; try simp at hb1'
  rw [show (hs.getD h.toNat default).1.length + 1 - k = ((hs.getD h.toNat default).1.length - k) + 1 by omega, shortN] at ht; have hnx := next_az haz hb1; refine i9 (i2 (j4 (i3 (r_ext1 rfl rfl hb1 (c8 rfl (n9 (b6 rfl ?_))))))); refine b6 rfl (b6 rfl ?_); refine jZ k rfl r9 rfl rfl rfl (by omega) (i8 U6 rfl rfl (S8 (A := A) (B := B) (oa := oa) (oc := oc) (ka := ka) (kc := kc) (gl := gl) (ca := ca) (cb := cb) cs hs ((hs.getD h.toNat default).1.take k) hok) n4 mC fun y hy => j9 rfl v9 rfl ?_); refine H5 rfl rfl rfl (c9 ?_)
  first | refine k6 rfl (fun hb2 => ?_) (fun hb2 => ?_) | refine i6 rfl (fun hb2 => ?_) (fun hb2 => ?_)
  ·have hb2' := hb2; try simp at hb2'
   rw [if_pos (by omega)] at ht; refine i3 (b6 rfl (b6 rfl ?_)); refine jZ k rfl r9 rfl rfl rfl (by omega) ?_; refine c8 rfl (c8 rfl (c9 (k8 (D6 (D6 ?_))))); exact ret2 () rfl rfl rfl (by show Value.tuple #[str ((shortT (trOf cs hs) h).getD (hs.getD h.toNat default).1), .bool (shortT (trOf cs hs) h).isSome] = _; rw [ht]; rfl) rfl tK nK tK
  have hb2' := hb2; try simp at hb2'
  rw [if_neg (by omega)] at ht; refine i9 (v5 ?_); refine again _ (k + 1) ⟨by omega, by rw [ht, show (hs.getD h.toNat default).1.length + 1 - (k + 1) = (hs.getD h.toNat default).1.length - k by omega]⟩ (z8 (by omega)) mC ?_ mC; rw [hnx]; exact (List.Sublist.refl _)
 have hb1' := hb1; try simp at hb1'
 have hk2 : k = (hs.getD h.toNat default).1.length := by omega
 rw [hk2, show (hs.getD h.toNat default).1.length + 1 - (hs.getD h.toNat default).1.length = 0 + 1 by omega, shortN, List.take_length] at ht; refine q9 (C3 (r7 (i2 (i3 (b6 rfl (b6 rfl (b6 rfl ?_))))))); refine i8 U6 rfl rfl (S8 (A := A) (B := B) (oa := oa) (oc := oc) (ka := ka) (kc := kc) (gl := gl) (ca := ca) (cb := cb) cs hs (hs.getD h.toNat default).1 hok) n4 mC fun y hy => j9 rfl v9 rfl ?_; refine H5 rfl rfl rfl (c8 rfl (c8 rfl (c9 (k8 ?_))))
 have hv : ((shortT (trOf cs hs) h).getD (hs.getD h.toNat default).1, (shortT (trOf cs hs) h).isSome) = ((hs.getD h.toNat default).1, decide (((mayT (trOf cs hs) (hs.getD h.toNat default).1).length : Int) = 1)) := by
   rw [ht]
   by_cases h1 : (mayT (trOf cs hs) (hs.getD h.toNat default).1).length = 1
   · rw [if_pos h1, decide_eq_true (by omega)]; rfl
   rw [if_neg h1, shortN, decide_eq_false (by omega)]; rfl
 exact ret2 () rfl rfl rfl (by show Value.tuple #[str ((shortT (trOf cs hs) h).getD (hs.getD h.toNat default).1), .bool (shortT (trOf cs hs) h).isSome] = _; rw [show (shortT (trOf cs hs) h).getD (hs.getD h.toNat default).1 = (hs.getD h.toNat default).1 from congrArg Prod.fst hv, show (shortT (trOf cs hs) h).isSome = _ from congrArg Prod.snd hv]) rfl tK nK tK
theorem uV {A B : Option Addr} {ca cb : Nat} (cs : List Cl) (hs : List Hd) (h : Int) (hca : cs.length ≤ ca) (hcb : hs.length ≤ cb) (ha : ∀ h ∈ hs, h.2.2.2.l.length ≤ 1000000) : Meets prog cD [.agg #[.slice A cs.length ca, .slice B hs.length cb], int h] { LI := [Row A (rows cs), RowsF B hs Hd.row], val := fun _ : Unit => .tuple #[str (shortE (trOf cs hs) h).1, int (shortE (trOf cs hs) h).2] } := by
 refine i5 xX rfl t3 fun w0 => i3 (O9 rfl rfl fun gB => ?_); refine c8 rfl (c8 rfl (c9 ?_)); refine I6 ⟨fun _ : Nat × OutC × OutC => True, fun x => [(1, int h), (2, .pointer (c5 gB)), (6, if askE (trOf cs hs) [h] = 0 then .pointer (some ⟨x.1, 0, none⟩) else .pointer none), (7, int (askE (trOf cs hs) [h]))], fun _ => [(gB, .cells #[.slice A cs.length ca, .slice B hs.length cb] r5 (0, 0))], fun x => (if askE (trOf cs hs) [h] = 0 then beginL cs hs A ca B cb x else []) ++ [Row A (rows cs), RowsF B hs Hd.row]⟩ ?_ ?_
 ·skip
  refine d4 ?_
  first | refine D1 rfl d9 c7 rfl mB (by rfl) ?_ | refine G0 rfl d9 c7 rfl mB (by rfl) ?_ | refine u0 rfl d9 c7 rfl rfl (r4 mB (u5 (by omega))) ?_
  refine b6 rfl (l9 _ rfl rfl (fun _ => G6 ..) fun gS => A8 (rows [h]) (List.prefix_refl _) ?_); refine i8 gK rfl rfl (gE cs hs [h] hca hcb ha (by simp)) n4 mC fun x _ => ?_; refine b6 rfl (j7 rfl rfl rfl (j7 rfl rfl rfl (c8 rfl (c8 rfl (b5 ?_))))); exact D0 _ x tK mC (List.Sublist.refl _) (LSub.of_mem fun F hF => (List.mem_append.1 hF).elim (fun h1 => List.mem_append_left _ h1) (fun h2 => List.mem_append_right _ (List.mem_cons_of_mem _ h2)))
 refine fun x _ => ?_
 dsimp only
 refine d7 (i3 (b6 rfl (L5 rfl rfl rfl (c9 ?_))))
 first | refine k6 rfl (fun hb1 => ?_) (fun hb1 => ?_) | refine i6 rfl (fun hb1 => ?_) (fun hb1 => ?_)
 ·have hb1' := hb1; try simp at hb1'
  refine i3 (b6 rfl (c8 rfl (c8 rfl (c9 (J0 ?_))))); exact ret2 () rfl rfl rfl (by show Value.tuple #[str (shortE (trOf cs hs) h).1, int (shortE (trOf cs hs) h).2] = _; rw [shortE, if_pos hb1]; rfl) rfl tK nK tK
 have hb1' := hb1; try simp at hb1'
 have h0 := Classical.not_not.1 hb1; rw [if_pos h0, if_pos h0]; have hch := sC h0; have hin := hz8 h0 (List.mem_singleton.2 rfl); rw [C9] at hin; have hok := lD hch; have h6 : cs.length ≤ 6 := hok.c6; have h6h := hok.h6; rw [C9] at h6h; have hcl : ∀ i, i < cs.length → ClsOK cs i := hok.c; obtain ⟨gl, ⟨oa, oc⟩, ⟨ka, kc⟩⟩ := x; show HC _ _ _ _ _ [Row (c5 gl) [.slice A cs.length ca, .slice B hs.length cb, .slice oa cs.length oc, .slice ka hs.length kc], Row oa (rows (masksN cs cs.length)), Row ka (rows (kindsN hs hs.length)), Row A (rows cs), RowsF B hs Hd.row]; refine V9 mB (i9 (i2 (i3 (b6 rfl (b6 rfl ?_))))); refine i8 nB rfl rfl (mM (A := A) (B := B) (oa := oa) (oc := oc) (ka := ka) (kc := kc) (gl := gl) (ca := ca) (cb := cb) cs hs h hin.1 (by omega) hok) n4 mC fun _ _ => ?_; refine b6 rfl (j7 rfl rfl rfl (j7 rfl rfl rfl (c8 rfl (c8 rfl (c9 (d7 (i3 (b6 rfl (I4 rfl rfl ?_))))))))); refine c9 ?_
 first | refine k6 rfl (fun hb2 => ?_) (fun hb2 => ?_) | refine i6 rfl (fun hb2 => ?_) (fun hb2 => ?_)
 ·have hb2' := hb2; try simp at hb2'
  have h2 : shortT (trOf cs hs) h = none := by cases e : shortT (trOf cs hs) h with
   | none => rfl
   | some s => rw [e] at hb2; cases hb2
  refine i3 (c8 rfl (c8 rfl (c9 (J0 ?_)))); exact ret2 () rfl rfl rfl (by show Value.tuple #[str (shortE (trOf cs hs) h).1, int (shortE (trOf cs hs) h).2] = _; rw [shortE, if_neg hb1, h2]; rfl) rfl tK nK tK
 have hb2' := hb2; try simp at hb2'
 obtain ⟨s, hs2⟩ : ∃ s, shortT (trOf cs hs) h = some s := by cases e : shortT (trOf cs hs) h with
  | none => rw [e] at hb2; cases hb2
  | some s => exact ⟨s, rfl⟩
 refine i9 (i2 (i3 (b6 rfl (c8 rfl (c8 rfl (c9 (k8 ?_))))))); exact ret2 () rfl rfl rfl (by show Value.tuple #[str (shortE (trOf cs hs) h).1, int (shortE (trOf cs hs) h).2] = Value.tuple #[str ((shortT (trOf cs hs) h).getD (hs.getD h.toNat default).1), int 0]; rw [shortE, if_neg hb1, hs2]; rfl) rfl tK nK tK
theorem cj0 : ∀ {l l' : List Int}, l.Pairwise (· < ·) → l'.Pairwise (· < ·) → (∀ x, x ∈ l ↔ x ∈ l') → l = l'
  | [], [], _, _, _ => rfl
  | [], y :: l', _, _, h => by have := (h y).2 (by simp); simp at this
  | x :: l, [], _, _, h => by have := (h x).1 (by simp); simp at this
  | x :: l, y :: l', h1, h2, h => by
    have p1 := List.pairwise_cons.1 h1; have p2 := List.pairwise_cons.1 h2
    have e : x = y := by
      rcases List.mem_cons.1 ((h x).1 (by simp)) with e | e
      · exact e
      rcases List.mem_cons.1 ((h y).2 (by simp)) with e2 | e2
      · exact e2.symm
      have := p2.1 x e; have := p1.1 y e2; omega
    subst e
    congr 1
    refine cj0 p1.2 p2.2 fun z => ?_; have hz := h z; rw [List.mem_cons, List.mem_cons] at hz
    constructor
    · intro hm
      rcases hz.1 (.inr hm) with e | e
      · subst e; have := p1.1 z hm; omega
      exact e
    intro hm
    rcases hz.2 (.inr hm) with e | e
    · subst e; have := p2.1 z hm; omega
    exact e
theorem xH {cs : List Cl} (h6 : cs.length ≤ 6) (hc : ∀ i, i < cs.length → ClsOK cs i) {c : Int} (h : c < (cs.length : Int)) : mayK (maskOf (pathT cs c)) cs.length = pathT cs c := by
  have hp := vI cs hc c.toNat c (Nat.le_refl _) h; refine cj0 ?_ hp.1 fun x => ?_
  · unfold mayK
    refine List.pairwise_map.2 ((List.pairwise_lt_range.filter _).imp fun h => ?_)
    omega
  unfold mayK; rw [List.mem_map]
  constructor
  · rintro ⟨i, hi, rfl⟩
    rw [List.mem_filter, xI fun x hx => (hp.2 x hx).1, decide_eq_true_eq] at hi; exact hi.2
  intro hx; have h1 := hp.2 x hx; have h2 := mU h6 hc h x hx; refine ⟨x.toNat, ?_, Int.toNat_of_nonneg h1.1⟩; rw [List.mem_filter, xI fun x hx => (hp.2 x hx).1, decide_eq_true_eq, Int.toNat_of_nonneg h1.1]; exact ⟨List.mem_range.2 (by omega), hx⟩
set_option maxHeartbeats 1000000 in
theorem pE {A B oa ka : Option Addr} {ca cb oc kc gl : Nat} (cs : List Cl) (hs : List Hd) (c : Int) (h0 : 0 ≤ c) (h : c < (cs.length : Int)) (h6 : cs.length ≤ 6) (hc : ∀ i, i < cs.length → ClsOK cs i) : Meets prog aK [.pointer (c5 gl), int c] { LI := [Row (c5 gl) [.slice A cs.length ca, .slice B hs.length cb, .slice oa cs.length oc, .slice ka hs.length kc], Row oa (rows (masksN cs cs.length))], inv := fun x : OutC => (pathT cs c).length ≤ x.2, val := fun x => .slice x.1 (pathT cs c).length x.2, LO := fun x => [Row x.1 (rows (pathT cs c))] } := by
 refine i5 qZ rfl t3 fun w0 => ?_; refine i3 (c8 rfl (n9 (c8 rfl (c9 (bT ?_))))); have hA := xH h6 hc h; refine d4 (b6 rfl (l5 rfl rfl ?_))
 first | refine a6 ⟨_, 0, none⟩ rfl rfl p7 rfl ?_ | refine a6 _ rfl rfl p7 rfl ?_
 first | refine a6 ⟨_, 0, none⟩ rfl rfl j3 rfl ?_ | refine a6 _ rfl rfl j3 rfl ?_
 first | refine a7 rfl b3 rfl (d5 mB rfl) ?_ | refine a7 rfl b3 rfl (d3 mB rfl) ?_ | refine a7 rfl b3 rfl (b7 mB (b2 (by omega) rfl)) ?_ | refine a7 rfl b3 rfl (b8 mB (rows_get (by omega) rfl)) ?_ | refine a7 rfl b3 rfl (d6 mB rfl) ?_
 refine j9 rfl p9 rfl ?_; refine b6 rfl (c9 (j4 ?_)); refine t8 (β := Nat × OutC × Hp) ⟨fun x => x.1 ≤ cs.length ∧ Grow aD 1 x.2.1.1 (mayK (maskOf (pathT cs c)) x.1).length x.2.1.2 (rows (mayK (maskOf (pathT cs c)) x.1)) x.2.2, fun x => [(0, .pointer (c5 gl)), (1, int c), (5, .slice x.2.1.1 (mayK (maskOf (pathT cs c)) x.1).length x.2.1.2), (12, int cs.length), (13, int x.1)], fun x => x.2.2, fun _ => [Row (c5 gl) [.slice A cs.length ca, .slice B hs.length cb, .slice oa cs.length oc, .slice ka hs.length kc], Row oa (rows (masksN cs cs.length))]⟩ (fun x => cs.length - x.1) (0, (none, 0), []) ⟨Nat.zero_le _, Grow.nil _ _⟩ mC nK mC fun x hx => ?_; obtain ⟨k, ⟨na, nc⟩, og⟩ := x; obtain ⟨hk, hG⟩ := hx; simp only at hk hG; refine i3 (z6 rfl rfl rfl (c9 (d7 ?_)))
 first | refine k6 rfl (fun hb1 => ?_) (fun hb1 => ?_) | refine i6 rfl (fun hb1 => ?_) (fun hb1 => ?_)
 ·have hb1' := hb1; try simp at hb1'
  have hk2 : k < cs.length := by omega
  have hml := vL (maskOf (pathT cs c)) k; refine i9 (i2 (d7 (j4 (i3 (b6 rfl (c8 rfl (n9 ?_))))))); refine b6 rfl (l5 rfl rfl ?_)
  first | refine a6 ⟨_, 2, none⟩ rfl rfl B6 rfl ?_ | refine a6 _ rfl rfl B6 rfl ?_
  first | refine a7 rfl l3 rfl (d5 mB rfl) ?_ | refine a7 rfl l3 rfl (d3 mB rfl) ?_ | refine a7 rfl l3 rfl (b7 mB (b2 (by omega) rfl)) ?_ | refine a7 rfl l3 rfl (b8 mB (rows_get (by omega) rfl)) ?_ | refine a7 rfl l3 rfl (d6 mB rfl) ?_
  refine b6 rfl ?_; refine q8 (α := Nat) (masksN cs cs.length) c.toNat rfl O4 P0 rfl rfl (Int.toNat_of_nonneg h0).symm mB (P6 _ _).symm (by rw [P6]; omega) (by decide) ?_; refine a7 (v := u8 (maskOf (pathT cs c))) rfl N7 rfl (b7 mB (b2 (by rw [P6]; omega) (by rw [rV (by omega), Int.toNat_of_nonneg h0]; rfl))) ?_; refine b6 rfl (i8 bB rfl rfl (aT (maskOf (pathT cs c)) k (xJ h6 hc h) (by omega)) n4 tK fun _ _ => c9 ?_)
  first | refine k6 rfl (fun hb2 => ?_) (fun hb2 => ?_) | refine i6 rfl (fun hb2 => ?_) (fun hb2 => ?_)
  ·have hb2' := hb2; try simp at hb2'
   refine d4 (b6 rfl (b6 rfl ?_)); refine l9 _ rfl rfl (fun _ => G6 ..) fun gS => A8 (rows [(k : Int)]) (List.prefix_refl _) ?_; refine D9 ((mayK (maskOf (pathT cs c)) k).length + 1) (rows (mayK (maskOf (pathT cs c)) k ++ [(k : Int)])) cX rfl rfl rfl hG (hp' := []) (by rw [List.append_nil]; exact List.Perm.refl _) (Src.row (news := rows [(k : Int)]) (m := 1) m0 rfl (D4 _) (by decide)) rfl (v7 _ _).symm (by unfold maxLen; omega) (by omega) fun A' c' og' hG' => ?_; refine c8 rfl (b5 (v5 (i2 (d4 ?_)))); refine t7 _ rfl rfl rfl rfl p8 ?_; refine b6 rfl (b5 ?_); exact again _ (k + 1, (A', c'), og') ⟨by show k + 1 ≤ cs.length; omega, by show Grow _ _ _ (mayK (maskOf (pathT cs c)) (k + 1)).length _ (rows (mayK (maskOf (pathT cs c)) (k + 1))) _; rw [aW, if_pos hb2, List.length_append]; exact hG'⟩ (z8 (by omega)) ⟨rfl, rfl, by show some (Value.slice A' ((mayK (maskOf (pathT cs c)) k).length + 1) c') = some (Value.slice A' (mayK (maskOf (pathT cs c)) (k + 1)).length c'); rw [aW, if_pos hb2, List.length_append]; rfl, rfl, rfl, tK⟩ (List.sublist_append_left _ _) mC
  have hb2' := hb2; try simp at hb2'
  refine i9 (v5 (i2 (d4 ?_))); refine t7 _ rfl rfl rfl rfl p8 ?_; refine b6 rfl (b5 ?_); exact again _ (k + 1, (na, nc), og) ⟨by show k + 1 ≤ cs.length; omega, by show Grow _ _ _ (mayK (maskOf (pathT cs c)) (k + 1)).length _ (rows (mayK (maskOf (pathT cs c)) (k + 1))) _; rw [aW, if_neg (by rw [hb2]; decide)]; exact hG⟩ (z8 (by omega)) ⟨rfl, rfl, by show some (Value.slice na (mayK (maskOf (pathT cs c)) k).length nc) = some (Value.slice na (mayK (maskOf (pathT cs c)) (k + 1)).length nc); rw [aW, if_neg (by rw [hb2]; decide)], rfl, rfl, tK⟩ (List.Sublist.refl _) mC
 have hb1' := hb1; try simp at hb1'
 have hk2 : k = cs.length := by omega
 subst hk2; have hG2 := hG; rw [hA] at hG2; refine q9 (C3 (r7 (i2 (i3 (b6 rfl (c8 rfl (c9 (k8 ?_)))))))); refine lO hG2 ?_; exact ret1 (na, nc) rfl (by show some (Value.slice na (mayK (maskOf (pathT cs c)) cs.length).length nc) = some (Value.slice na (pathT cs c).length nc); rw [hA]) rfl hG2.le nK ⟨m0, tK⟩
def hitB (s : Str) (h : Hd) : Bool := decide (h.1 = s) && decide (¬ h.2.1 = -1)
theorem hit_no1 {s : Str} {x : Hd} (h : ¬ x.1 = s) : hitB s x = false := by unfold hitB; rw [decide_eq_false h]; rfl
theorem hit_no2 {s : Str} {x : Hd} (h : x.2.1 = -1) : hitB s x = false := by unfold hitB; simp [h]
theorem hit_yes {s : Str} {x : Hd} (h : x.1 = s) (h2 : ¬ x.2.1 = -1) : hitB s x = true := by unfold hitB; simp [h, h2]
def nameOf (cs : List Cl) (c : Int) : Str := (cs.getD c.toNat default).1
theorem aq4 (cs : List Cl) (hs : List Hd) (s : Str) : namesN (trOf cs hs) s = (hs.find? (hitB s)).map fun h => (pathT cs h.2.1).map (nameOf cs) := by
  unfold namesN; show ((hs.map Hd.p).find? _).map _ = _; rw [List.find?_map, Option.map_map]
  rfl
theorem kz8 {cs : List Cl} {hs : List Hd} {s : Str} {k : Nat} (hk : k < hs.length) (h1 : hitB s (hs.getD k default) = true) (ht : ∀ i, i < k → hitB s (hs.getD i default) = false) : namesN (trOf cs hs) s = some ((pathT cs (hs.getD k default).2.1).map (nameOf cs)) := by
  rw [aq4]
  have : hs.find? (hitB s) = some (hs.getD k default) := by
    rw [List.find?_eq_some_iff_getElem]; refine ⟨h1, k, hk, (w7 hk).symm, fun j hj => ?_⟩; have := ht j hj; rw [w7 (by omega)] at this
    simp [this]
  rw [this]
  rfl
theorem kz7 {cs : List Cl} {hs : List Hd} {s : Str} (ht : ∀ i, i < hs.length → hitB s (hs.getD i default) = false) : namesN (trOf cs hs) s = none := by
  rw [aq4]
  have : hs.find? (hitB s) = none := by
    rw [List.find?_eq_none]; intro x hx; obtain ⟨i, hi, rfl⟩ := List.getElem_of_mem hx; have := ht i hi; rw [w7 hi] at this
    simp [this]
  rw [this]
  rfl
theorem dz5 {s : Str} {hs : List Hd} {k : Nat} (ht : ∀ i, i < k → hitB s (hs.getD i default) = false) (h : hitB s (hs.getD k default) = false) : ∀ i, i < k + 1 → hitB s (hs.getD i default) = false := fun i hi => by
  rcases Nat.lt_or_ge i k with h1 | h1
  · exact ht i h1
  rw [show i = k by omega]; exact h
set_option maxHeartbeats 1000000 in
theorem bH {A B oa ka : Option Addr} {ca cb oc kc gl : Nat} (cs : List Cl) (hs : List Hd) (s : Str) (hok : TrOK (trOf cs hs)) : Meets prog X4 [.pointer (c5 gl), str s] { LI := [Row (c5 gl) [.slice A cs.length ca, .slice B hs.length cb, .slice oa cs.length oc, .slice ka hs.length kc], Row oa (rows (masksN cs cs.length)), Row A (rows cs), Row B (rows hs)], inv := fun x : OutC => ((namesN (trOf cs hs) s).getD []).length ≤ x.2, val := fun x => .tuple #[.slice x.1 ((namesN (trOf cs hs) s).getD []).length x.2, .bool (namesN (trOf cs hs) s).isSome], LO := fun x => [Row x.1 (rows ((namesN (trOf cs hs) s).getD []))] } := by
 refine i5 pV rfl t3 fun w0 => ?_; refine i3 (c8 rfl (c8 rfl (c9 (bT ?_)))); have h6 : cs.length ≤ 6 := hok.c6; have h6h := hok.h6; rw [C9] at h6h; have hcl : ∀ i, i < cs.length → ClsOK cs i := hok.c; refine d4 (b6 rfl (l5 rfl rfl ?_))
 first | refine a6 ⟨_, 0, none⟩ rfl rfl p7 rfl ?_ | refine a6 _ rfl rfl p7 rfl ?_
 first | refine a6 ⟨_, 1, none⟩ rfl rfl j0 rfl ?_ | refine a6 _ rfl rfl j0 rfl ?_
 first | refine a7 rfl b4 rfl (d5 mB rfl) ?_ | refine a7 rfl b4 rfl (d3 mB rfl) ?_ | refine a7 rfl b4 rfl (b7 mB (b2 (by omega) rfl)) ?_ | refine a7 rfl b4 rfl (b8 mB (rows_get (by omega) rfl)) ?_ | refine a7 rfl b4 rfl (d6 mB rfl) ?_
 refine j9 rfl n7 rfl ?_; refine b6 rfl (c9 (j4 ?_)); refine t8 (β := Nat) ⟨fun k => k ≤ hs.length ∧ ∀ i, i < k → hitB s (hs.getD i default) = false, fun k => [(0, .pointer (c5 gl)), (1, str s), (15, .slice B hs.length cb), (16, int hs.length), (17, int k)], fun _ => [], fun _ => [Row (c5 gl) [.slice A cs.length ca, .slice B hs.length cb, .slice oa cs.length oc, .slice ka hs.length kc], Row oa (rows (masksN cs cs.length)), Row A (rows cs), Row B (rows hs)]⟩ (fun k => hs.length - k) 0 ⟨Nat.zero_le _, fun i hi => by omega⟩ mC nK mC fun k hk => ?_; obtain ⟨hk, ht⟩ := hk; refine i3 (z6 rfl rfl rfl (c9 (d7 ?_)))
 first | refine k6 rfl (fun hb1 => ?_) (fun hb1 => ?_) | refine i6 rfl (fun hb1 => ?_) (fun hb1 => ?_)
 ·have hb1' := hb1; try simp at hb1'
  have hk2 : k < hs.length := by omega
  have hcc : -1 ≤ (hs.getD k default).2.1 ∧ (hs.getD k default).2.1 < (cs.length : Int) := by
    have := (hok.h k (by rw [C9]; exact hk2)).c; simp only [trOf, N4 hk2] at this; exact this
  refine i9 (i2 (d7 (j4 (i3 ?_)))); refine q8 (α := Hd) _ _ rfl n7 l4 rfl rfl rfl mB rfl (by omega) (by decide) (u0 rfl w5 l4 rfl rfl (r4 mB (u5 (by omega))) (q6 rfl (fun _ => E1 _) fun gA => l6 rfl rfl aJ l4 (by rfl) (by rfl) ?_)); refine c9 (bT ?_); refine P7 (rows [hs.getD k default]) ⟨[], List.append_nil _⟩ (d4 ?_)
  first | refine a6 ⟨_, 0, none⟩ rfl rfl n6 rfl ?_ | refine a6 _ rfl rfl n6 rfl ?_
  first | refine a7 rfl a9 rfl (d5 mB rfl) ?_ | refine a7 rfl a9 rfl (d3 mB rfl) ?_ | refine a7 rfl a9 rfl (b7 mB (b2 (by omega) rfl)) ?_ | refine a7 rfl a9 rfl (b8 mB (rows_get (by omega) rfl)) ?_ | refine a7 rfl a9 rfl (d6 mB rfl) ?_
  refine b6 rfl (qN rfl rfl rfl (b6 rfl ?_)); refine v4 rfl rfl ?_ ?_
  ·intro hg1; have hg1' := hg1; try simp at hg1'
   have e1 : (hs.getD k default).1 = s := by simp only [beq_iff_eq, decide_eq_false_iff_not] at hg1; exact Classical.not_not.1 hg1
   refine k9 hg1 ?_
   first | refine a6 ⟨_, 1, none⟩ rfl rfl m7 rfl ?_ | refine a6 _ rfl rfl m7 rfl ?_
   refine k9 hg1 ?_
   first | refine a7 rfl a8 rfl (d5 mB rfl) ?_ | refine a7 rfl a8 rfl (d3 mB rfl) ?_ | refine a7 rfl a8 rfl (b7 mB (b2 (by omega) rfl)) ?_ | refine a7 rfl a8 rfl (b8 mB (rows_get (by omega) rfl)) ?_ | refine a7 rfl a8 rfl (d6 mB rfl) ?_
   refine k9 hg1 (H5 rfl rfl rfl ?_); refine p_f rfl rfl (bf1 hg1) rfl (c9 ?_)
   first | refine k6 rfl (fun hb2 => ?_) (fun hb2 => ?_) | refine i6 rfl (fun hb2 => ?_) (fun hb2 => ?_)
   ·have hb2' := hb2; try simp at hb2'
    have hh : hitB s (hs.getD k default) = false := hit_no2 hb2; refine q9 (aV (r7 (i2 (d4 ?_)))); refine t7 _ rfl rfl rfl rfl p8 ?_; refine b6 rfl (b5 ?_); exact again _ (k + 1) ⟨by omega, dz5 ht hh⟩ (z8 (by omega)) mC nK mC
   have hb2' := hb2; try simp at hb2'
   have hh : hitB s (hs.getD k default) = true := hit_yes e1 hb2; have hN := kz8 (cs := cs) hk2 hh ht; refine i9 (i2 (i3 (c8 rfl (c9 (d7 (i3 (b6 rfl ?_)))))))
   first | refine a6 ⟨_, 1, none⟩ rfl rfl m7 rfl ?_ | refine a6 _ rfl rfl m7 rfl ?_
   first | refine a7 rfl a8 rfl (d5 mB rfl) ?_ | refine a7 rfl a8 rfl (d3 mB rfl) ?_ | refine a7 rfl a8 rfl (b7 mB (b2 (by omega) rfl)) ?_ | refine a7 rfl a8 rfl (b8 mB (rows_get (by omega) rfl)) ?_ | refine a7 rfl a8 rfl (d6 mB rfl) ?_
   refine i8 pT rfl rfl (pE (A := A) (B := B) (oa := oa) (oc := oc) (ka := ka) (kc := kc) (gl := gl) (ca := ca) (cb := cb) cs hs (hs.getD k default).2.1 (by omega) hcc.2 h6 hcl) n4 mC fun y hy => ?_; obtain ⟨ya, yc⟩ := y; have hps := mU h6 hcl hcc.2; have hpa := vI cs hcl (hs.getD k default).2.1.toNat _ (Nat.le_refl _) hcc.2
   have hpl : (pathT cs (hs.getD k default).2.1).length ≤ 6 := by
     have := congrArg List.length (xH h6 hcl hcc.2); have h2 := vL (maskOf (pathT cs (hs.getD k default).2.1)) cs.length
     omega
   refine j9 rfl v9 rfl ?_; refine b6 rfl (c9 (j4 ?_)); refine t8 (β := Nat × OutC × Hp) ⟨fun x => x.1 ≤ (pathT cs (hs.getD k default).2.1).length ∧ Grow H2 1 x.2.1.1 x.1 x.2.1.2 (rows (((pathT cs (hs.getD k default).2.1).take (x.1)).map (nameOf cs))) x.2.2, fun x => [(0, .pointer (c5 gl)), (8, .slice x.2.1.1 x.1 x.2.1.2), (33, .slice ya (pathT cs (hs.getD k default).2.1).length yc), (34, int (pathT cs (hs.getD k default).2.1).length), (35, int x.1)], fun x => x.2.2, fun _ => Row ya (rows (pathT cs (hs.getD k default).2.1)) :: [Row (c5 gl) [.slice A cs.length ca, .slice B hs.length cb, .slice oa cs.length oc, .slice ka hs.length kc], Row oa (rows (masksN cs cs.length)), Row A (rows cs), Row B (rows hs)]⟩ (fun x => (pathT cs (hs.getD k default).2.1).length - x.1) (0, (none, 0), []) ⟨Nat.zero_le _, Grow.nil _ _⟩ mC nK mC fun x hx => ?_; obtain ⟨j, ⟨na, nc⟩, og⟩ := x; obtain ⟨hj, hG⟩ := hx; simp only at hj hG; refine i3 (z6 rfl rfl rfl (c9 (d7 ?_)))
   first | refine k6 rfl (fun hb3 => ?_) (fun hb3 => ?_) | refine i6 rfl (fun hb3 => ?_) (fun hb3 => ?_)
   ·have hb3' := hb3; try simp at hb3'
    have hj2 : j < (pathT cs (hs.getD k default).2.1).length := by omega
    have hcj := hpa.2 _ (A9 hj2); refine i9 (i2 (d7 (j4 (i3 ?_)))); refine q8 (α := Int) (pathT cs (hs.getD k default).2.1) j rfl v9 D3 rfl rfl rfl mB rfl hj2 (by decide) (a7 (v := int ((pathT cs (hs.getD k default).2.1).getD j default)) rfl a8 rfl (b7 mB (b2 hj2 rfl)) ?_); refine c8 rfl (c9 (d4 (b6 rfl (b6 rfl (l5 rfl rfl ?_)))))
    first | refine a6 ⟨_, 0, none⟩ rfl rfl p7 rfl ?_ | refine a6 _ rfl rfl p7 rfl ?_
    first | refine a6 ⟨_, 0, none⟩ rfl rfl j3 rfl ?_ | refine a6 _ rfl rfl j3 rfl ?_
    first | refine a7 rfl b3 rfl (d5 mB rfl) ?_ | refine a7 rfl b3 rfl (d3 mB rfl) ?_ | refine a7 rfl b3 rfl (b7 mB (b2 (by omega) rfl)) ?_ | refine a7 rfl b3 rfl (b8 mB (rows_get (by omega) rfl)) ?_ | refine a7 rfl b3 rfl (d6 mB rfl) ?_
    refine b6 rfl (q8 (α := Cl) cs ((pathT cs (hs.getD k default).2.1).getD j default).toNat rfl p9 u7 rfl rfl (Int.toNat_of_nonneg hcj.1).symm mB rfl (by omega) (by decide) ?_)
    first | refine a6 ⟨_, 0, none⟩ rfl rfl y8 rfl ?_ | refine a6 _ rfl rfl y8 rfl ?_
    refine a7 (v := str (nameOf cs ((pathT cs (hs.getD k default).2.1).getD j default))) rfl a9 rfl (b7 mB (b2 (by omega) rfl)) (l9 _ rfl rfl (fun _ => uZ ..) fun gS => A8 (rows [nameOf cs ((pathT cs (hs.getD k default).2.1).getD j default)]) (List.prefix_refl _) ?_); refine D9 (j + 1) (rows ((((pathT cs (hs.getD k default).2.1).take (j)).map (nameOf cs)) ++ [nameOf cs ((pathT cs (hs.getD k default).2.1).getD j default)])) aj5 rfl rfl rfl hG (hp' := []) (by first | (rw [List.append_nil]; done) | (rw [List.append_nil]; exact List.Perm.refl _)) (Src.row (news := rows [nameOf cs ((pathT cs (hs.getD k default).2.1).getD j default)]) (m := 1) m0 rfl (D4 _) (by decide)) rfl (v7 _ _).symm (by unfold maxLen; omega) (by omega) fun A' c' og' hG' => ?_; refine c8 rfl (b5 (v5 (i2 (d4 ?_)))); refine t7 _ rfl rfl rfl rfl p8 ?_; refine b6 rfl (b5 ?_); exact again _ (j + 1, (A', c'), og') ⟨by show j + 1 ≤ (pathT cs (hs.getD k default).2.1).length; omega, by show Grow _ _ _ _ _ (rows (((pathT cs (hs.getD k default).2.1).take (j + 1)).map (nameOf cs))) _; rw [y0 _ _ hj2, List.map_append]; exact hG'⟩ (z8 (by omega)) mC (List.sublist_append_left _ _) mC
   have hb3' := hb3; try simp at hb3'
   have hj2 : j = (pathT cs (hs.getD k default).2.1).length := by omega
   subst hj2; rw [List.take_length] at hG; refine q9 (C3 (r7 (i2 (i3 (b6 rfl (c8 rfl (c8 rfl (c9 ?_)))))))); refine k8 (D6 (w8 (D6 ?_))); have hgl : ((namesN (trOf cs hs) s).getD []).length = (pathT cs (hs.getD k default).2.1).length := by rw [hN]; exact List.length_map ..
   refine lO hG ?_; exact ret2 (na, nc) rfl rfl rfl (by show Value.tuple #[.slice na ((namesN (trOf cs hs) s).getD []).length nc, .bool (namesN (trOf cs hs) s).isSome] = _; rw [hgl, hN]; rfl) rfl (by show ((namesN (trOf cs hs) s).getD []).length ≤ nc; rw [hgl]; exact hG.le) nK (by show LSub _ [Row na (rows ((namesN (trOf cs hs) s).getD []))]; rw [hN]; exact ⟨m0, tK⟩)
  intro hg1; have hg1' := hg1; try simp at hg1'
  have e1 : ¬ (hs.getD k default).1 = s := fun e => by rw [decide_eq_false (not_not_intro e)] at hg1; cases hg1
  refine q7 hg1 (q7 hg1 (q7 hg1 ?_)); refine p_t rfl rfl (bt2 hg1) rfl ?_; refine c9 (c_t rfl rfl (q9 (aV (r7 (i2 (d4 ?_)))))); refine t7 _ rfl rfl rfl rfl p8 ?_; refine b6 rfl (b5 ?_); exact again _ (k + 1) ⟨by omega, dz5 ht (hit_no1 e1)⟩ (z8 (by omega)) mC nK mC
 have hb1' := hb1; try simp at hb1'
 have hk2 : k = hs.length := by omega
 subst hk2; have hN := kz7 (cs := cs) ht; refine q9 (C3 (r7 (i2 (i3 (c8 rfl (c8 rfl (c9 (k8 ?_)))))))); refine r8 (α := Str) ?_; exact ret2 (none, 0) rfl rfl rfl (by show Value.tuple #[.slice none ((namesN (trOf cs hs) s).getD []).length 0, .bool (namesN (trOf cs hs) s).isSome] = _; rw [hN]; rfl) rfl (by show ((namesN (trOf cs hs) s).getD []).length ≤ 0; rw [hN]; exact Nat.le_refl _) nK (by show LSub _ [Row none (rows ((namesN (trOf cs hs) s).getD []))]; rw [hN]; exact ⟨m0, tK⟩)
def cmpW (a b : Str) : Int := Lib.compareBytes a b
theorem cmp_run (a b : Str) (w : World) : (callFunc 113 [str a, str b].toArray).run prog w = .ok (.value (int (cmpW a b))) w := by
  show (callFunc 113 #[str a, str b]).run prog w = _; rw [run_callFunc_extern func113 m9 m9 m9 (e := Extern.BytealgCompare.compare) m9]; unfold str; rw [Lib.run_compareString]
  rfl
theorem ix7 : ∀ (a b : Str), cmpW a b = if a < b then -1 else if a = b then 0 else 1
  | [], [] => by simp [cmpW, Lib.compareBytes]
  | [], y :: b => by simp [cmpW, Lib.compareBytes]
  | x :: a, [] => by simp [cmpW, Lib.compareBytes]
  | x :: a, y :: b => by
    have ih := ix7 a b; unfold cmpW at ih ⊢; rw [Lib.compareBytes, ih]; simp only [List.cons_lt_cons_iff, List.cons.injEq]
    by_cases h1 : x < y
    · rw [if_pos h1, if_pos (.inl h1)]
    rw [if_neg h1]
    by_cases h2 : y < x
    · have hne : ¬ x = y := fun e => by subst e; exact h1 h2
      rw [if_pos h2, if_neg (fun e => e.elim h1 (fun e => hne e.1)), if_neg (fun e => hne e.1)]
    rw [if_neg h2]
    have e : x = y := by
      apply UInt8.toNat_inj.1
      rw [UInt8.lt_iff_toNat_lt] at h1 h2
      omega
    subst e
    by_cases h3 : a < b
    · rw [if_pos h3, if_pos (.inr ⟨rfl, h3⟩)]
    have hn : ¬ (x < x ∨ x = x ∧ a < b) := fun e => e.elim h1 (fun e => h3 e.2); rw [if_neg h3, if_neg hn]
    by_cases h4 : a = b
    · rw [if_pos h4, if_pos ⟨rfl, h4⟩]
    rw [if_neg h4, if_neg (fun e => h4 e.2)]
theorem ix6 (a b : Str) : cmpW a b < 0 ↔ a < b := by
  rw [ix7]
  by_cases h : a < b
  · rw [if_pos h]; exact ⟨fun _ => h, fun _ => by decide⟩
  rw [if_neg h]; refine ⟨fun e => ?_, fun e => absurd e h⟩
  split at e <;> omega
theorem X0 (a b : Str) : Meets prog I0 [str a, str b] { val := fun _ : Unit => int (cmpW a b) } := by
 refine i5 Z0 rfl t3 fun w0 => ?_; refine i3 (c8 rfl (n9 (b6 rfl (b6 rfl ?_)))); refine rY rfl rfl (fun w => cmp_run a b w) ?_; refine c8 rfl (c9 (k8 ?_)); exact ret1 () rfl rfl rfl tK nK tK
theorem pN (a b : Str) : Meets prog Q7 [str a, str b] { val := fun _ : Unit => int (cmpW a b) } := by
 refine i5 rF rfl t3 fun w0 => ?_; refine i3 (c8 rfl (n9 (b6 rfl (b6 rfl ?_)))); refine i8 Y3 rfl rfl (X0 a b) (.refl _) tK fun _ _ => ?_; refine c8 rfl (c9 (k8 ?_)); exact ret1 () rfl rfl rfl tK nK tK
theorem lL {A B : Option Addr} {ca cb : Nat} (a b : List Str) (ha : a.length ≤ 1000000) :
    Meets prog V1 [.slice A a.length ca, .slice B b.length cb] { LI := [Row A (rows a), Row B (rows b)], val := fun _ : Unit => .bool (decide (a = b)) } := by
 refine i5 nO rfl t3 fun w0 => ?_; refine i3 (c8 rfl (c9 (d7 (i3 (b6 rfl ?_))))); refine j9 rfl j6 rfl (b6 rfl (j9 rfl j6 rfl ?_)); refine L5 rfl rfl rfl (c9 ?_)
 first | refine k6 rfl (fun hb1 => ?_) (fun hb1 => ?_) | refine i6 rfl (fun hb1 => ?_) (fun hb1 => ?_)
 ·have hb1' := hb1; try simp at hb1'
  have hb1 : ¬ a = b := fun e => by subst e; exact hb1 rfl
  refine i3 (c8 rfl (c9 (J0 ?_))); exact ret1 () rfl (by rw [decide_eq_false hb1]; rfl) rfl tK (.refl _) tK
 have hb1' := hb1; try simp at hb1'
 have hb1 : a.length = b.length := by omega
 refine i9 (i2 (d7 (i3 (b6 rfl ?_)))); refine j9 rfl j6 rfl ?_; refine b6 rfl (c9 (j4 ?_)); refine t8 (β := Nat) ⟨fun k => k ≤ a.length ∧ a.take k = b.take k, fun k => [(0, .slice A a.length ca), (1, .slice B b.length cb), (12, int a.length), (13, int k)], fun _ => [], fun _ => [Row A (rows a), Row B (rows b)]⟩ (fun k => a.length - k) 0 ⟨Nat.zero_le _, rfl⟩ mC (.refl _) ⟨m0, m1, tK⟩ fun k hk => ?_; obtain ⟨hk, ht⟩ := hk; refine i3 (z6 rfl rfl rfl (c9 (d7 ?_)))
 first | refine k6 rfl (fun hb2 => ?_) (fun hb2 => ?_) | refine i6 rfl (fun hb2 => ?_) (fun hb2 => ?_)
 ·have hb2' := hb2; try simp at hb2'
  have hb2 : k < a.length := by omega
  refine i9 (i2 (d7 (j4 (i3 (b6 rfl (c8 rfl (c9 (d7 ?_)))))))); refine A7 8 mixed (by decide) (by decide) rfl rfl (p6 rfl (p6 rfl (k7 (fun w1 => q8 (α := Str) _ _ rfl j6 j5 rfl rfl rfl mB rfl (by omega) (by decide) (q_z rfl)) (k7 (fun w1 => a7 rfl a9 rfl (b7 mB (b2 (by omega) rfl)) (q_z rfl)) (p6 rfl (p6 rfl (k7 (fun w1 => q8 (α := Str) _ _ rfl j6 j5 rfl rfl rfl mB rfl (by omega) (by decide) (q_z rfl)) (k7 (fun w1 => a7 rfl a9 rfl (b7 mB (b2 (by omega) rfl)) (q_z rfl)) ?_)))))))); refine u4 ⟨rfl, ?_⟩; refine qN rfl rfl rfl (c9 ?_)
  first | refine k6 rfl (fun hb3 => ?_) (fun hb3 => ?_) | refine i6 rfl (fun hb3 => ?_) (fun hb3 => ?_)
  ·have hb3' := hb3; try simp at hb3'
   have hb3 : ¬ a = b := kz6 (a := a) (b := b) (k := k) hb3; refine i3 (c8 rfl (c9 (k8 (D6 (w8 (D6 ?_)))))); exact ret1 () rfl (by rw [decide_eq_false hb3]; rfl) rfl tK (.refl _) tK
  have hb3' := hb3; try simp at hb3'
  have hb3 : a.getD k default = b.getD k default := Classical.not_not.1 hb3; refine i9 (v5 (i2 (d4 ?_))); refine t7 _ rfl rfl rfl rfl p8 ?_; refine b6 rfl (b5 ?_); exact again _ (k + 1) ⟨by omega, by rw [y0 a k hb2, y0 b k (by omega), ht, hb3]⟩ (by first | omega | (simp only; omega)) mC (.refl _) ⟨m0, m1, tK⟩
 have hb2' := hb2; try simp at hb2'
 have hb2 : k = a.length := by omega
 refine q9 (C3 (r7 (i2 (i3 (c8 rfl (c9 (k8 ?_))))))); exact ret1 () rfl (by rw [decide_eq_true (kG ht (by omega) (by omega))]; rfl) rfl tK (.refl _) tK
theorem vR {A B : Option Addr} {ca cb : Nat} (a b : List Cl) (ha : a.length ≤ 1000000) :
    Meets prog cG [.slice A a.length ca, .slice B b.length cb] { LI := [Row A (rows a), Row B (rows b)], val := fun _ : Unit => .bool (decide (a = b)) } := by
 refine i5 yI rfl t3 fun w0 => ?_; refine i3 (c8 rfl (c9 (d7 (i3 (b6 rfl ?_))))); refine j9 rfl R4 rfl (b6 rfl (j9 rfl R4 rfl ?_)); refine L5 rfl rfl rfl (c9 ?_)
 first | refine k6 rfl (fun hb1 => ?_) (fun hb1 => ?_) | refine i6 rfl (fun hb1 => ?_) (fun hb1 => ?_)
 ·have hb1' := hb1; try simp at hb1'
  have hb1 : ¬ a = b := fun e => by subst e; exact hb1 rfl
  refine i3 (c8 rfl (c9 (J0 ?_))); exact ret1 () rfl (by rw [decide_eq_false hb1]; rfl) rfl tK (.refl _) tK
 have hb1' := hb1; try simp at hb1'
 have hb1 : a.length = b.length := by omega
 refine i9 (i2 (d7 (i3 (c8 rfl (c9 (j4 ?_)))))); refine t8 (β := Nat) ⟨fun k => k ≤ a.length ∧ a.take k = b.take k, fun k => [(0, .slice A a.length ca), (1, .slice B b.length cb), (5, int k)], fun _ => [], fun _ => [Row A (rows a), Row B (rows b)]⟩ (fun k => a.length - k) 0 ⟨Nat.zero_le _, rfl⟩ mC (.refl _) ⟨m0, m1, tK⟩ fun k hk => ?_; obtain ⟨hk, ht⟩ := hk; refine d7 (i3 (b6 rfl (b6 rfl ?_))); refine j9 rfl R4 rfl ?_; refine z6 rfl rfl rfl (c9 ?_)
 first | refine k6 rfl (fun hb2 => ?_) (fun hb2 => ?_) | refine i6 rfl (fun hb2 => ?_) (fun hb2 => ?_)
 ·have hb2' := hb2; try simp at hb2'
  have hb2 : k < a.length := by omega
  refine i9 (i2 (d7 (j4 (d7 ?_)))); refine A7 8 mixed (by decide) (by decide) rfl rfl (p6 rfl (p6 rfl (k7 (fun w1 => q8 (α := Cl) _ _ rfl R4 bJ rfl rfl rfl mB rfl (by omega) (by decide) (q_z rfl)) (k7 (fun w1 => u0 rfl nU bJ rfl rfl (r4 mB (u5 (by omega))) (q_z rfl)) (p6 rfl (p6 rfl (k7 (fun w1 => q8 (α := Cl) _ _ rfl R4 bJ rfl rfl rfl mB rfl (by omega) (by decide) (q_z rfl)) (k7 (fun w1 => u0 rfl nU bJ rfl rfl (r4 mB (u5 (by omega))) (q_z rfl)) ?_)))))))); refine u4 ⟨rfl, ?_⟩; refine N3 _ rfl rfl rfl (fun _ => zE ..) (fun _ => zC ..) (c9 ?_)
  first | refine k6 rfl (fun hb3 => ?_) (fun hb3 => ?_) | refine i6 rfl (fun hb3 => ?_) (fun hb3 => ?_)
  ·have hb3' := hb3; try simp at hb3'
   have hb3 : ¬ a = b := kz6 (a := a) (b := b) (k := k) hb3; refine i3 (c8 rfl (c9 (k8 (D6 (w8 (D6 ?_)))))); exact ret1 () rfl (by rw [decide_eq_false hb3]; rfl) rfl tK (.refl _) tK
  have hb3' := hb3; try simp at hb3'
  have hb3 : a.getD k default = b.getD k default := Classical.not_not.1 hb3; refine i9 (v5 (i2 (d4 (b6 rfl ?_)))); refine t7 _ rfl rfl rfl rfl p8 ?_; refine c8 rfl (b5 ?_); exact again _ (k + 1) ⟨by omega, by rw [y0 a k hb2, y0 b k (by omega), ht, hb3]⟩ (by first | omega | (simp only; omega)) mC (.refl _) ⟨m0, m1, tK⟩
 have hb2' := hb2; try simp at hb2'
 have hb2 : k = a.length := by omega
 refine q9 (C3 (r7 (i2 (i3 (c8 rfl (c9 (k8 ?_))))))); exact ret1 () rfl (by rw [decide_eq_true (kG ht (by omega) (by omega))]; rfl) rfl tK (.refl _) tK
def FromInv (lo hi z : Int) : Prop := lo ≤ z ∧ (lo < hi → z ≤ hi) ∧ (hi ≤ lo → z = lo)
def sortsL : List Str := [[102, 111, 111, 100], [98, 114, 101, 97, 100], [99, 108, 111, 116, 104], [104, 97, 116, 115], [119, 111, 111, 100], [105, 114, 111, 110], [98, 101, 101, 114], [105, 110], [115, 101, 101]]
def callingsL : List Str := [[98, 97, 107, 101, 114], [98, 97, 107, 101, 114, 115], [98, 111, 110, 110, 101, 116, 115], [98, 114, 101, 119, 101, 114], [98, 114, 117, 115, 104, 101, 115], [98, 117, 116, 99, 104, 101, 114], [99, 97, 110, 100, 108, 101, 115], [99, 111, 111, 112, 101, 114], [99, 111, 111, 112, 101, 114, 115], [99, 117, 116, 108, 101, 114], [104, 97, 116, 116, 101, 114], [104, 111, 115, 105, 101, 114], [109, 101, 114, 99, 101, 114], [109, 105, 108, 108, 105, 110, 101, 114], [116, 97, 105, 108, 111, 114], [116, 97, 110, 110, 101, 114]]
theorem vQ {A : Option Addr} {c : Nat} (nums : List Int) : Meets prog jL [.slice A nums.length c] { LI := [Row A (rows nums)], val := fun g : Nat => .pointer (c5 g), hpO := fun g => [dice g A c nums (0, 11400714819323198485)] } := by
 refine i5 yH rfl t3 fun w0 => ?_; refine i3 (c8 rfl (n9 (b6 rfl ?_))); refine t5 _ rfl rfl (fun _ => iH ..) (O9 rfl rfl fun gB => ?_); refine c8 rfl (c9 (k8 ?_)); exact ret1 gB rfl rfl rfl tK (.refl _) tK
theorem iC {g : Nat} {A : Option Addr} {c : Nat} {nums : List Int} {s : Int × Int} (lo hi : Int) (hn : nums.length ≤ 9223372036854775807) (hs : DOK nums s) (hI : -1000 ≤ lo ∧ lo ≤ 1000 ∧ -1000 ≤ hi ∧ hi ≤ 1000) :
    Meets prog dQ [.pointer (c5 g), int lo, int hi] (diceCon g A c nums s (FromInv lo hi) (fun z => int z) (fun _ => [])) := by
 refine i5 uK rfl t3 fun w0 => ?_; refine i3 (c8 rfl (n9 (b6 rfl (b6 rfl (b6 rfl (b6 rfl ?_)))))); refine O7 _ rfl rfl rfl rfl p8 (i8 M0 rfl rfl (L7 (hi - lo) hn hs (by omega)) (.refl _) ⟨m0, tK⟩ fun x hx => ?_); obtain ⟨s1, z⟩ := x; obtain ⟨hs1, hz⟩ := hx; simp only [ToInv] at hz
 have hz1 : 0 ≤ z ∧ z ≤ 2000 := by
   refine ⟨hz.1, ?_⟩
   by_cases h1 : 1 ≤ hi - lo
   · have := hz.2.1 h1; omega
   have := hz.2.2 (by omega); omega
 refine t7 (lo + z) rfl rfl rfl rfl p8 ?_; refine c8 rfl (c9 (k8 ?_)); exact ret1 (s1, lo + z) rfl rfl rfl ⟨hs1, by simp only; omega, fun h => by have := hz.2.1 (by omega); simp only; omega, fun h => by have := hz.2.2 (by omega); simp only; omega⟩ (.refl _) tK
theorem nW : Meets prog nQ [] { val := fun g : Nat => .slice (c5 g) 9 9, LO := fun g => [Row (c5 g) (rows sortsL)] } := by
 refine i5 az1 rfl t3 fun w0 => ?_; refine i3 (c8 rfl (n9 ?_)); refine l9 _ rfl rfl (fun _ => cj7 ..) fun gS => ?_; refine c8 rfl (c9 (k8 ?_)); refine Y5 (rows sortsL) (List.prefix_refl _) ?_; exact ret1 gS rfl rfl rfl tK nK ⟨m0, tK⟩
theorem iV : Meets prog gP [] { val := fun g : Nat => .slice (c5 g) 16 16, LO := fun g => [Row (c5 g) (rows callingsL)] } := by
 refine i5 wG rfl t3 fun w0 => ?_; refine i3 (c8 rfl (n9 ?_)); refine l9 _ rfl rfl (fun _ => bj3 ..) fun gS => ?_; refine c8 rfl (c9 (k8 ?_)); refine Y5 (rows callingsL) (List.prefix_refl _) ?_; exact ret1 gS rfl rfl rfl tK nK ⟨m0, tK⟩
abbrev rngI (n : Nat) : List Int := (List.range n).map fun i : Nat => (i : Int)
theorem rP (n : Nat) : (rngI n).length = n := by simp
theorem dq2 (n : Nat) : rngI (n + 1) = rngI n ++ [(n : Int)] := by unfold rngI; rw [List.range_succ, List.map_append]; rfl
theorem lx1 {e : TypeId} {g n cap : Nat} {xs : List Value} {cur : Array Value} (hG : Grow e 1 (c5 g) n cap xs [(g, Obj.cells cur e (0, 0))]) (hn : 0 < n) : n ≤ cap ∧ cap ≤ maxLen ∧ cur.size = cap * 1 ∧ cur.toList.take (n * 1) = xs := by
  obtain ⟨g', cur', e1, e2, h1, h2, h3, h4, _⟩ := hG.open_ hn
  cases e1
  injection e2 with e2 _
  injection e2 with _ e2
  injection e2 with e2 _ _
  subst e2; exact ⟨h1, h2, h3, h4⟩
theorem zW {cur : Array Value} {l : List Int} {i : Nat} (h : cur.toList.take (l.length * 1) = rows l) (hi : i < l.length) : cur[0 + i * 1]? = some (int (l.getD i default)) := by
  have h1 : (rows l)[i * 1]? = some (int (l.getD i default)) := b2 hi rfl; rw [← h, List.getElem?_take, if_pos (by omega)] at h1; rw [Nat.zero_add, ← Array.getElem?_toList]; exact h1
theorem jj1 {l : List Int} {i j : Nat} (hi : i < l.length) (hj : j < l.length) : ((l.set i (l.getD j default)).set j (l.getD i default)).Perm l := by
  rw [w7 hi, w7 hj]; exact List.set_set_perm hi hj
set_option maxHeartbeats 1000000 in
theorem dY {g : Nat} {A : Option Addr} {c : Nat} {nums : List Int} {s : Int × Int} (n : Nat) (hn : nums.length ≤ 9223372036854775807) (hs : DOK nums s) (hI : n ≤ 100) :
    Meets prog cI [.pointer (c5 g), int n] (diceCon g A c nums s (fun x : List Int × OutC => x.1.Perm (rngI n) ∧ x.1.length ≤ x.2.2) (fun x => .slice x.2.1 x.1.length x.2.2) (fun x => [Row x.2.1 (rows x.1)])) := by
 refine i5 sV rfl t3 fun w0 => ?_; refine i3 (c8 rfl (n9 (c8 rfl (c9 (bT ?_))))); refine d4 (c8 rfl (c9 (j4 ?_))); refine t8 (β := Nat × OutC × Hp) ⟨fun x => x.1 ≤ n ∧ Grow aD 1 x.2.1.1 x.1 x.2.1.2 (rows (rngI x.1)) x.2.2, fun x => [(0, .pointer (c5 g)), (1, int n), (5, .slice x.2.1.1 x.1 x.2.1.2), (6, int x.1)], fun x => x.2.2 ++ [dice g A c nums s], fun _ => [Row A (rows nums)]⟩ (fun x => n - x.1) (0, (none, 0), []) ⟨Nat.zero_le _, Grow.nil _ _⟩ mC (List.Sublist.refl _) mC fun x hx => ?_; obtain ⟨k, ⟨na, nc⟩, og⟩ := x; obtain ⟨hk, hG⟩ := hx; simp only at hk hG; refine d7 (i3 (b6 rfl (b6 rfl (z6 rfl rfl rfl (c9 ?_)))))
 first | refine k6 rfl (fun hb1 => ?_) (fun hb1 => ?_) | refine i6 rfl (fun hb1 => ?_) (fun hb1 => ?_)
 ·have hb1' := hb1; try simp at hb1'
  have hk2 : k < n := by omega
  refine i9 (i2 (d7 (j4 (d4 (b6 rfl (b6 rfl ?_)))))); refine l9 _ rfl rfl (fun _ => G6 ..) fun gS => A8 (rows [(k : Int)]) (List.prefix_refl _) ?_; refine D9 (k + 1) (rows (rngI k ++ [(k : Int)])) cX rfl rfl rfl hG (.refl _) (Src.row (news := rows [(k : Int)]) (m := 1) m0 rfl (D4 _) (by decide)) rfl (v7 _ _).symm (by unfold maxLen; omega) (by omega) fun A' c' og' hG' => ?_; refine c8 rfl (b5 (v5 (i2 (d4 (b6 rfl ?_))))); refine t7 _ rfl rfl rfl rfl p8 ?_; refine c8 rfl (b5 ?_); exact again _ (k + 1, (A', c'), og') ⟨by show k + 1 ≤ n; omega, by show Grow _ _ _ _ _ (rows (rngI (k + 1))) _; rw [dq2]; exact hG'⟩ (z8 (by omega)) mC (List.Sublist.refl _) mC
 have hb1' := hb1; try simp at hb1'
 have hk2 : k = n := by omega
 subst hk2; refine q9 (C3 (r7 (i2 (d7 (i3 (b6 rfl ?_)))))); refine O7 _ rfl rfl rfl rfl p8 ?_; refine c8 rfl (c9 (j4 ?_)); refine t8 (β := (Int × Int) × List Int × Nat × Hp) ⟨fun x => DOK nums x.1 ∧ x.2.1.Perm (rngI k) ∧ x.2.2.1 ≤ k ∧ Grow aD 1 na k nc (rows x.2.1) x.2.2.2, fun x => [(0, .pointer (c5 g)), (5, .slice na k nc), (7, int ((x.2.2.1 : Int) - 1))], fun x => x.2.2.2 ++ [dice g A c nums x.1], fun _ => [Row A (rows nums)]⟩ (fun x => x.2.2.1) (s, rngI k, k, og) ⟨hs, .refl _, Nat.le_refl _, hG⟩ mC (List.Sublist.refl _) mC fun x hx => ?_; clear hG; obtain ⟨s, l, m, og⟩ := x; obtain ⟨hs, hP, hm, hG⟩ := hx; simp only at hs hP hm hG; have hll : l.length = k := by rw [hP.length_eq, rP]
 refine d7 (i3 (b6 rfl (cR rfl rfl rfl (c9 ?_))))
 first | refine k6 rfl (fun hb2 => ?_) (fun hb2 => ?_) | refine i6 rfl (fun hb2 => ?_) (fun hb2 => ?_)
 ·have hb2' := hb2; try simp at hb2'
  obtain ⟨i, rfl⟩ : ∃ i, m = i + 1 := ⟨m - 1, by omega⟩; have hi1 : (((i + 1 : Nat) : Int) - 1) = (i : Int) := by omega
  obtain ⟨gd, cur, e1, e2, hnc, hcm, hcs, hct, _⟩ := hG.open_ (by omega); subst e1; subst e2; rw [← hll] at hct; refine i9 (i2 (d7 (j4 (i3 (b6 rfl ?_))))); refine mT (v := int (i : Int)) rfl (congrArg (fun z => some (int z)) hi1) ?_; refine i8 M0 rfl rfl (L7 (i : Int) hn hs (by omega)) (.swap _ _ _) mC fun x hx => ?_; obtain ⟨s1, z⟩ := x; obtain ⟨hs1, hz⟩ := hx; simp only [ToInv] at hz; obtain ⟨j, rfl⟩ := Int.eq_ofNat_of_zero_le hz.1
  have hj : j ≤ i := by
    by_cases h1 : 1 ≤ (i : Int)
    · have := hz.2.1 h1; omega
    have := hz.2.2 (by omega); omega
  refine c8 rfl (n9 (b6 rfl ?_)); refine mT (v := int (i : Int)) rfl (congrArg (fun z => some (int z)) hi1) ?_; refine u9 i (0 + i * 1) rfl v9 D3 rfl rfl rfl (by omega) rfl (a7 (v := int (l.getD i default)) rfl a8 rfl (d5 mB (zW hct (by omega))) ?_); refine c8 rfl (n9 (b6 rfl ?_)); refine mT (v := int (i : Int)) rfl (congrArg (fun z => some (int z)) hi1) ?_; refine b6 rfl (b6 rfl ?_); refine u9 j (0 + j * 1) rfl v9 D3 rfl rfl rfl (by omega) rfl (a7 (v := int (l.getD j default)) rfl a8 rfl (d5 mB (zW hct (by omega))) (u9 i i rfl v9 D3 rfl rfl rfl (by omega) (by omega) ?_)); refine B0 rfl rfl (.swap _ _ _) D3 (by have := zW hct (show i < l.length by omega); rw [Nat.zero_add, Nat.mul_one] at this; exact this) (by rfl) ?_; have hG1 := Grow.set (e := aD) (g := gd) (l := l) (k := i) (a := l.getD j default) rfl rfl (by omega) hcm hcs hct; rw [hll] at hG1; have hc1 := (lx1 hG1 (by omega)).2.2; have hl1 : (l.set i (l.getD j default)).length = l.length := List.length_set ..; rw [← hll, ← hl1] at hc1; refine c9 (d4 (b6 rfl (b6 rfl (b6 rfl ?_)))); refine u9 j j rfl v9 D3 rfl rfl rfl (by omega) (by omega) ?_; refine B0 rfl rfl (.refl _) D3 (by have := zW hc1.2 (show j < _ by omega); rw [Nat.zero_add, Nat.mul_one] at this; exact this) (by rfl) ?_; have hG2 := Grow.set (e := aD) (g := gd) (l := l.set i (l.getD j default)) (k := j) (a := l.getD i default) rfl rfl (by omega) hcm hc1.1 hc1.2; rw [hl1, hll] at hG2; refine b5 (v5 (i2 (d4 ?_))); refine mT (v := int (i : Int)) rfl (congrArg (fun z => some (int z)) hi1) ?_; refine O7 ((i : Int) - 1) rfl rfl rfl (by omega) p8 ?_; refine c8 rfl (b5 ?_); exact again _ (s1, (l.set i (l.getD j default)).set j (l.getD i default), i, [_]) ⟨hs1, (jj1 (by omega) (by omega)).trans hP, by show i ≤ k; omega, hG2⟩ (by show i < i + 1; omega) mC (List.Sublist.refl _) mC
 have hb2' := hb2; try simp at hb2'
 refine q9 (C3 (r7 (i2 (i3 (b6 rfl (c8 rfl (c9 (k8 ?_)))))))); refine iW hG ?_; exact ret1 (s, l, (na, nc)) rfl (by show some (Value.slice na k nc) = some (Value.slice na l.length nc); rw [hll]) rfl ⟨hs, hP, by show l.length ≤ nc; rw [hll]; exact hG.le⟩ (List.Sublist.refl _) ⟨m0, tK⟩
theorem cx0 {α : Type} [Inhabited α] {l : List α} {k : Nat} {s : α} (hk : k < l.length) (h : s ∉ l.take k) (h1 : ¬ s = l.getD k default) : s ∉ l.take (k + 1) := by
  rw [y0 l k hk]; simp only [List.mem_append, List.mem_singleton, not_or]; exact ⟨h, h1⟩
def AtInv (l : List Int) (s z : Int) : Prop := (0 ≤ z ↔ s ∈ l) ∧ (s ∈ l → ∀ k : Nat, z < (k : Int) ↔ s ∈ l.take k)
theorem mj2 {l : List Int} {k : Nat} {s : Int} (hk : k < l.length) (hb : l.getD k default = s) (ht : s ∉ l.take k) : AtInv l s (k : Int) := by
  refine ⟨⟨fun _ => hb ▸ A9 hk, fun _ => by omega⟩, fun _ j => ⟨fun h => ?_, fun h => ?_⟩⟩
  · have h1 : s ∈ l.take (k + 1) := by rw [y0 l k hk, hb]; simp
    exact List.take_subset_take_left l (by omega) h1
  rcases Nat.lt_or_ge k j with h2 | h2
  · omega
  exact absurd (List.take_subset_take_left l h2 h) ht
theorem at_none {l : List Int} {s : Int} (ht : s ∉ l) : AtInv l s (-1) := ⟨⟨fun h => by omega, fun h => absurd h ht⟩, fun h => absurd h ht⟩
def partL (o : List Int) (m n : Nat) : List Int := (rngI n).filter fun v => decide (v ∈ o.take m)
theorem mV (o : List Int) (m n : Nat) : partL o m (n + 1) = if (n : Int) ∈ o.take m then partL o m n ++ [(n : Int)] else partL o m n := by
  unfold partL; rw [dq2, List.filter_append]
  by_cases h : (n : Int) ∈ o.take m <;> simp [h]
theorem jq1 (o : List Int) (m n : Nat) : (partL o m n).Pairwise (· < ·) := by
  unfold partL rngI; refine List.Pairwise.filter _ (List.pairwise_map.2 (List.pairwise_lt_range.imp fun h => ?_))
  omega
theorem kz0 {o : List Int} {m n : Nat} {v : Int} (h : v ∈ partL o m n) : 0 ≤ v ∧ v < (n : Int) := by
  unfold partL rngI at h; have h1 := (List.mem_filter.1 h).1; obtain ⟨i, hi, rfl⟩ := List.mem_map.1 h1; have := List.mem_range.1 hi
  omega
theorem hj6 (o : List Int) (m n : Nat) : (partL o m n).length ≤ n := by
  unfold partL; have := List.length_filter_le (fun v => decide (v ∈ o.take m)) (rngI n); rw [rP] at this; exact this
theorem jq0 {o : List Int} {m n : Nat} (h : o.Perm (rngI n)) : (partL o m n).length ≤ m := by
  have hn : o.Nodup := h.nodup_iff.2 (by unfold rngI List.Nodup; exact List.pairwise_map.2 (List.pairwise_lt_range.imp fun h => by omega)); unfold partL; rw [(h.symm.filter _).length_eq]; have e : o.filter (fun v => decide (v ∈ o.take m)) = (o.take m).filter (fun v => decide (v ∈ o.take m)) ++ (o.drop m).filter (fun v => decide (v ∈ o.take m)) := by rw [← List.filter_append, List.take_append_drop]
  have hd := (List.nodup_append.1 ((List.take_append_drop m o).symm ▸ hn : (o.take m ++ o.drop m).Nodup)).2.2
  have h0 : (o.drop m).filter (fun v => decide (v ∈ o.take m)) = [] := List.filter_eq_nil_iff.2 fun a ha => by
    rw [decide_eq_true_eq]; exact fun h => hd a h a ha rfl
  rw [e, h0, List.append_nil]; exact Nat.le_trans (List.length_filter_le _ _) (by rw [List.length_take]; omega)
theorem zG {A : Option Addr} {c : Nat} (l : List Int) (s : Int) (hl : l.length ≤ 1000000) : Meets prog nR [.slice A l.length c, int s] { LI := [Row A (rows l)], inv := fun z : Int => AtInv l s z, val := fun z => int z } := by
 refine i5 az2 rfl t3 fun w0 => ?_; refine i3 (c8 rfl (c9 (d7 (i3 (c8 rfl (c9 (j4 ?_))))))); refine t8 (β := Nat) ⟨fun k => k ≤ l.length ∧ s ∉ l.take k, fun k => [(0, .slice A l.length c), (1, int s), (5, int k)], fun _ => [], fun _ => [Row A (rows l)]⟩ (fun k => l.length - k) 0 ⟨Nat.zero_le _, by simp⟩ mC (.refl _) ⟨m0, tK⟩ fun k hk => ?_; obtain ⟨hk, ht⟩ := hk; refine d7 (i3 (b6 rfl (b6 rfl ?_))); refine j9 rfl v9 rfl ?_; refine z6 rfl rfl rfl (c9 ?_)
 first | refine k6 rfl (fun hb1 => ?_) (fun hb1 => ?_) | refine i6 rfl (fun hb1 => ?_) (fun hb1 => ?_)
 ·have hb1' := hb1; try simp at hb1'
  have hk2 : k < l.length := by omega
  refine i9 (i2 (d7 (j4 (i3 (b6 rfl (b6 rfl ?_)))))); refine q8 (α := Int) _ _ rfl v9 D3 rfl rfl rfl mB rfl (by omega) (by decide) (a7 rfl a8 rfl (b7 mB (b2 (by omega) rfl)) ?_); refine b6 rfl (H5 rfl rfl rfl (c9 ?_))
  first | refine k6 rfl (fun hb2 => ?_) (fun hb2 => ?_) | refine i6 rfl (fun hb2 => ?_) (fun hb2 => ?_)
  ·have hb2' := hb2; try simp at hb2'
   refine i3 (b6 rfl (c8 rfl (c9 (k8 (D6 (w8 (D6 ?_))))))); exact ret1 (k : Int) rfl rfl rfl (mj2 hk2 hb2 ht) (.refl _) tK
  have hb2' := hb2; try simp at hb2'
  refine i9 (v5 (i2 (d4 (b6 rfl ?_)))); refine t7 _ rfl rfl rfl rfl p8 ?_; refine c8 rfl (b5 ?_); exact again _ (k + 1) ⟨by omega, cx0 hk2 ht (fun e => hb2 e.symm)⟩ (z8 (by omega)) mC (.refl _) ⟨m0, tK⟩
 have hb1' := hb1; try simp at hb1'
 have hk2 : k = l.length := by omega
 subst hk2; rw [List.take_length] at ht; refine q9 (C3 (r7 (i2 (i3 (c8 rfl (c9 (k8 ?_))))))); exact ret1 (-1) rfl rfl rfl (at_none ht) (.refl _) tK
set_option maxHeartbeats 1000000 in
theorem xL {g : Nat} {A : Option Addr} {c : Nat} {nums : List Int} {s : Int × Int} (n m : Nat) (hn : nums.length ≤ 9223372036854775807) (hs : DOK nums s) (hI : n ≤ 100 ∧ m ≤ 100) :
    Meets prog kX [.pointer (c5 g), int n, int m] (diceCon g A c nums s (fun x : List Int × OutC => (x.1.Pairwise (· < ·) ∧ ∀ v ∈ x.1, 0 ≤ v ∧ v < (n : Int)) ∧ x.1.length ≤ m ∧ x.1.length ≤ x.2.2) (fun x => .slice x.2.1 x.1.length x.2.2) (fun x => [Row x.2.1 (rows x.1)])) := by
 refine i5 zL rfl t3 fun w0 => ?_; refine i3 (c8 rfl (n9 (b6 rfl (b6 rfl ?_)))); refine i8 gD rfl rfl (dY n hn hs hI.1) n4 mC fun x hx => ?_; obtain ⟨s1, o, oa, oc⟩ := x; obtain ⟨hs1, hP, hoc⟩ := hx; simp only at hP hoc; have hol : o.length = n := by rw [hP.length_eq, rP]
 refine c8 rfl (n9 (c8 rfl (c9 (d7 (i3 (c8 rfl ?_)))))); refine c9 (j4 ?_); refine t8 (β := Nat × OutC × Hp) ⟨fun x => x.1 ≤ n ∧ Grow aD 1 x.2.1.1 (partL o m x.1).length x.2.1.2 (rows (partL o m x.1)) x.2.2, fun x => [(1, int n), (2, int m), (7, .slice oa o.length oc), (8, .slice x.2.1.1 (partL o m x.1).length x.2.1.2), (9, int x.1)], fun x => x.2.2 ++ [dice g A c nums s1], fun _ => [Row oa (rows o)]⟩ (fun x => n - x.1) (0, (none, 0), []) ⟨Nat.zero_le _, Grow.nil _ _⟩ mC (List.Sublist.refl _) mC fun x hx => ?_; obtain ⟨k, ⟨na, nc⟩, og⟩ := x; obtain ⟨hk, hG⟩ := hx; simp only at hk hG; have hpl := hj6 o m k; refine d7 (i3 (b6 rfl (b6 rfl (z6 rfl rfl rfl (c9 ?_)))))
 first | refine k6 rfl (fun hb1 => ?_) (fun hb1 => ?_) | refine i6 rfl (fun hb1 => ?_) (fun hb1 => ?_)
 ·have hb1' := hb1; try simp at hb1'
  have hk2 : k < n := by omega
  have hmem : (k : Int) ∈ o := hP.mem_iff.2 (List.mem_map.2 ⟨k, List.mem_range.2 hk2, rfl⟩); refine i9 (i2 (d7 (j4 (i3 (b6 rfl (b6 rfl ?_)))))); refine i8 zM rfl rfl (zG o (k : Int) (by omega)) n4 mC fun z hz => ?_; refine c8 rfl (n9 (b6 rfl (b6 rfl (z6 rfl rfl rfl (c9 ?_)))))
  first | refine k6 rfl (fun hb2 => ?_) (fun hb2 => ?_) | refine i6 rfl (fun hb2 => ?_) (fun hb2 => ?_)
  ·have hb2' := hb2; try simp at hb2'
   have hin := (hz.2 hmem m).1 hb2; refine d4 (b6 rfl (b6 rfl ?_)); refine l9 _ rfl rfl (fun _ => G6 ..) fun gS => A8 (rows [(k : Int)]) (List.prefix_refl _) ?_; refine D9 ((partL o m k).length + 1) (rows (partL o m k ++ [(k : Int)])) cX rfl rfl rfl hG (.refl _) (Src.row (news := rows [(k : Int)]) (m := 1) m0 rfl (D4 _) (by decide)) rfl (v7 _ _).symm (by unfold maxLen; omega) (by omega) fun A' c' og' hG' => ?_; refine c8 rfl (b5 (v5 (i2 (d4 (b6 rfl ?_))))); refine t7 _ rfl rfl rfl rfl p8 ?_; refine c8 rfl (b5 ?_); exact again _ (k + 1, (A', c'), og') ⟨by show k + 1 ≤ n; omega, by show Grow _ _ _ (partL o m (k + 1)).length _ (rows (partL o m (k + 1))) _; rw [mV, if_pos hin, List.length_append]; exact hG'⟩ (z8 (by omega)) ⟨rfl, rfl, rfl, by show some (Value.slice A' ((partL o m k).length + 1) c') = some (Value.slice A' (partL o m (k + 1)).length c'); rw [mV, if_pos hin, List.length_append]; rfl, rfl, tK⟩ (List.Sublist.refl _) mC
  have hb2' := hb2; try simp at hb2'
  have hin := mt (hz.2 hmem m).2 hb2; refine i9 (v5 (i2 (d4 (b6 rfl ?_)))); refine t7 _ rfl rfl rfl rfl p8 ?_; refine c8 rfl (b5 ?_); exact again _ (k + 1, (na, nc), og) ⟨by show k + 1 ≤ n; omega, by show Grow _ _ _ (partL o m (k + 1)).length _ (rows (partL o m (k + 1))) _; rw [mV, if_neg hin]; exact hG⟩ (z8 (by omega)) ⟨rfl, rfl, rfl, by show some (Value.slice na (partL o m k).length nc) = some (Value.slice na (partL o m (k + 1)).length nc); rw [mV, if_neg hin], rfl, tK⟩ (List.Sublist.refl _) mC
 have hb1' := hb1; try simp at hb1'
 have hk2 : k = n := by omega
 subst hk2; refine q9 (C3 (r7 (i2 (i3 (b6 rfl (c8 rfl (c9 (k8 ?_)))))))); refine iW hG ?_; exact ret1 (s1, partL o m k, (na, nc)) rfl rfl rfl ⟨hs1, ⟨jq1 o m k, fun v hv => kz0 hv⟩, jq0 hP, hG.le⟩ (List.Sublist.refl _) ⟨m0, tK⟩
theorem K5 {A : Option Addr} {n cp : Nat} (s : Str) (c : Int) : Meets prog rH [str s, int c, .slice A n cp] { val := fun _ : Unit => .agg #[str s, int c, int (-1), .slice A n cp] } := by
 refine i5 bj8 rfl t3 fun w0 => i3 (q6 rfl (fun _ => E1 _) fun gA => ?_); refine n9 (b6 rfl (b6 rfl (b6 rfl ?_))); refine t5 _ rfl rfl (fun _ => mQ ..) (l6 rfl rfl aJ l4 (by rfl) (by rfl) ?_); refine c9 (k8 ?_); refine rQ () rfl rfl w5 l4 rfl m0 rfl rfl tK nK tK
theorem Z5 (s : Str) (c : Int) : Meets prog nP [str s, int c] { val := fun _ : Unit => .agg #[str s, int (-1), int c, .slice none 0 0] } := by
 refine i5 az0 rfl t3 fun w0 => i3 (q6 rfl (fun _ => E1 _) fun gA => ?_); refine n9 (b6 rfl (b6 rfl ?_)); refine t5 _ rfl rfl (fun _ => U1 ..) (l6 rfl rfl aJ l4 (by rfl) (by rfl) ?_); refine c9 (k8 ?_); refine rQ () rfl rfl w5 l4 rfl m0 rfl rfl tK nK tK
def shopsC : List Cl := [([102, 111, 111, 100], -1), ([98, 114, 101, 97, 100], 0), ([99, 108, 111, 116, 104], -1), ([104, 97, 116, 115], 2)]
def shopsH (g1 g2 : Nat) : List Hd := [([98, 97, 107, 101, 114], 1, -1, ⟨none, 0, []⟩), ([98, 111, 110, 110, 101, 116, 115], -1, 3, ⟨none, 0, []⟩), ([99, 111, 110, 102, 101, 99, 116, 105, 111, 110, 101, 114], 0, -1, ⟨some ⟨g1, 0, none⟩, 1, [0]⟩), ([104, 97, 116, 116, 101, 114], 3, -1, ⟨none, 0, []⟩), ([109, 101, 114, 99, 101, 114], 2, -1, ⟨some ⟨g2, 0, none⟩, 1, [3]⟩), ([109, 105, 108, 108, 105, 110, 101, 114], -1, 1, ⟨none, 0, []⟩)]
set_option maxHeartbeats 1000000 in
theorem I5 : Meets prog jH [] { val := fun x : Nat × Nat × Nat × Nat => .agg #[.slice (some ⟨x.1, 0, none⟩) 4 4, .slice (some ⟨x.2.1, 0, none⟩) 6 6], LO := fun x => [Row (some ⟨x.1, 0, none⟩) (rows shopsC), RowsF (some ⟨x.2.1, 0, none⟩) (shopsH x.2.2.1 x.2.2.2) Hd.row] } := by
 refine i5 yE rfl t3 fun w0 => ?_; refine i3 ?_; refine q6 rfl (fun _ => A1 _) fun gA => ?_; refine n9 ?_; refine t5 _ rfl rfl (fun _ => M3 ..) ?_; refine t5 _ rfl rfl (fun _ => vA ..) ?_; refine t5 _ rfl rfl (fun _ => M3 ..) ?_; refine t5 _ rfl rfl (fun _ => M3 ..) ?_; refine l9 _ rfl rfl (fun _ => sG ..) fun gC => ?_; refine A8 (rows shopsC) (List.prefix_refl _) ?_; refine i8 K6 rfl rfl (K5 (A := none) (n := 0) (cp := 0) [98, 97, 107, 101, 114] 1) n4 tK fun _ _ => ?_; refine i8 Z8 rfl rfl (Z5 [98, 111, 110, 110, 101, 116, 115] 3) n4 tK fun _ _ => ?_; refine l9 _ rfl rfl (fun _ => G6 ..) fun g1 => ?_; refine A8 (rows [(0 : Int)]) (List.prefix_refl _) ?_; refine i8 K6 rfl rfl (K5 (A := some ⟨g1, 0, none⟩) (n := 1) (cp := 1) [99, 111, 110, 102, 101, 99, 116, 105, 111, 110, 101, 114] 0) n4 tK fun _ _ => ?_; refine i8 K6 rfl rfl (K5 (A := none) (n := 0) (cp := 0) [104, 97, 116, 116, 101, 114] 3) n4 tK fun _ _ => ?_; refine l9 _ rfl rfl (fun _ => G6 ..) fun g2 => ?_; refine A8 (rows [(3 : Int)]) (List.prefix_refl _) ?_; refine i8 K6 rfl rfl (K5 (A := some ⟨g2, 0, none⟩) (n := 1) (cp := 1) [109, 101, 114, 99, 101, 114] 2) n4 tK fun _ _ => ?_; refine i8 Z8 rfl rfl (Z5 [109, 105, 108, 108, 105, 110, 101, 114] 1) n4 tK fun _ _ => ?_; refine l9 _ rfl rfl (fun _ => iQ ..) fun gH => ?_; refine A8 (rows (shopsH g1 g2)) (List.prefix_refl _) ?_; refine t5 _ rfl rfl (fun _ => qK ..) ?_; refine l6 rfl rfl aJ c7 (by rfl) (by rfl) ?_; refine c9 (k8 ?_); refine r8 (α := Int) ?_; refine H6 (Fs := (shopsH g1 g2).map Hd.row) (by intro F hF; left; simp only [shopsH, List.map_cons, List.map_nil, List.mem_cons, List.not_mem_nil, or_false] at hF; rcases hF with rfl | rfl | rfl | rfl | rfl | rfl <;> repeat constructor) ?_; refine R5 (A := some ⟨gH, 0, none⟩) (ps := shopsH g1 g2) (f := Hd.row) mB m0 ?_; refine rQ (gC, gH, g1, g2) rfl rfl d9 c7 rfl m0 rfl rfl tK nK ⟨mB, m0, tK⟩
def laterH (g : Nat) : List Hd := [([98, 97, 107, 101, 114], 1, -1, ⟨none, 0, []⟩), ([98, 111, 110, 110, 101, 116, 115], -1, 2, ⟨none, 0, []⟩), ([104, 97, 116, 116, 101, 114], 2, -1, ⟨none, 0, []⟩), ([105, 114, 111, 110, 109, 111, 110, 103, 101, 114], 0, -1, ⟨none, 0, []⟩), ([109, 101, 114, 99, 101, 114], 2, -1, ⟨some ⟨g, 0, none⟩, 1, [2]⟩), ([109, 105, 108, 108, 105, 110, 101, 114], -1, 1, ⟨none, 0, []⟩)]
set_option maxHeartbeats 1000000 in
theorem vP : Meets prog jI [] { val := fun x : Nat × Nat × Nat => .agg #[.slice (some ⟨x.1, 0, none⟩) 4 4, .slice (some ⟨x.2.1, 0, none⟩) 6 6], LO := fun x => [Row (some ⟨x.1, 0, none⟩) (rows shopsC), RowsF (some ⟨x.2.1, 0, none⟩) (laterH x.2.2) Hd.row] } := by
 refine i5 yF rfl t3 fun w0 => i3 (q6 rfl (fun _ => A1 _) fun g0 => n9 (i8 I7 rfl rfl (I5) n4 tK fun x _ => ?_)); obtain ⟨gC, gH0, gx, gy⟩ := x; refine q6 rfl (fun _ => A1 _) fun g3 => l6 rfl rfl aJ c7 (by rfl) (by rfl) (n9 (i8 K6 rfl rfl (K5 (A := none) (n := 0) (cp := 0) [98, 97, 107, 101, 114] 1) n4 tK fun _ _ => i8 Z8 rfl rfl (Z5 [98, 111, 110, 110, 101, 116, 115] 2) n4 tK fun _ _ => i8 K6 rfl rfl (K5 (A := none) (n := 0) (cp := 0) [104, 97, 116, 116, 101, 114] 2) n4 tK fun _ _ => i8 K6 rfl rfl (K5 (A := none) (n := 0) (cp := 0) [105, 114, 111, 110, 109, 111, 110, 103, 101, 114] 0) n4 tK fun _ _ => l9 _ rfl rfl (fun _ => G6 ..) fun g1 => A8 (rows [(2 : Int)]) (List.prefix_refl _) (i8 K6 rfl rfl (K5 (A := some ⟨g1, 0, none⟩) (n := 1) (cp := 1) [109, 101, 114, 99, 101, 114] 2) n4 tK fun _ _ => i8 Z8 rfl rfl (Z5 [109, 105, 108, 108, 105, 110, 101, 114] 1) n4 tK fun _ _ => l9 _ rfl rfl (fun _ => iQ ..) fun gH => ?_))); refine A8 (rows (laterH g1)) (List.prefix_refl _) ?_
 first | refine a6 ⟨_, 1, none⟩ rfl rfl j0 rfl ?_ | refine a6 _ rfl rfl j0 rfl ?_
 refine B0 rfl rfl aJ V5 (by rfl) (by rfl) (n9 ?_)
 first | refine D1 rfl d9 c7 rfl mB (by rfl) ?_ | refine G0 rfl d9 c7 rfl mB (by rfl) ?_ | refine u0 rfl d9 c7 rfl rfl (r4 mB (u5 (by omega))) ?_
 refine l6 rfl rfl aJ c7 (by rfl) (by rfl) ?_; refine c9 (k8 ?_); refine r8 (α := Int) ?_; refine H6 (Fs := (laterH g1).map Hd.row) (by intro F hF; left; simp only [laterH, List.map_cons, List.map_nil, List.mem_cons, List.not_mem_nil, or_false] at hF; rcases hF with rfl | rfl | rfl | rfl | rfl | rfl <;> repeat constructor) ?_; refine R5 (A := some ⟨gH, 0, none⟩) (ps := laterH g1) (f := Hd.row) mB m0 ?_; refine rQ (gC, gH, g1) rfl rfl d9 c7 rfl m0 rfl rfl tK nK ⟨mB, m0, tK⟩
abbrev lsts (ps : List (Sl Int)) : List (List Int) := ps.map (·.l)
theorem qU (ps : List (Sl Int)) : (lsts ps).length = ps.length := List.length_map ..
theorem qT {ps : List (Sl Int)} {k : Nat} (hk : k < ps.length) : (lsts ps).take (k + 1) = (lsts ps).take k ++ [(ps.getD k default).l] := by
  have h1 : k < (lsts ps).length := by simpa using hk
  rw [List.take_succ_eq_append_getElem h1, w7 hk]
  simp
theorem iq2 (ps : List (Sl Int)) {k : Nat} (hk : k < ps.length) : (lsts ps).getD k [] = (ps.getD k default).l := by
  rw [w7 hk]
  simp [List.getD_eq_getElem?_getD, hk]
theorem vS {A B : Option Addr} {ca cb : Nat} (a b : List (Sl Int)) (ha : a.length ≤ 1000000) (hla : ∀ p ∈ a, p.l.length ≤ 1000000) :
    Meets prog cH [.slice A a.length ca, .slice B b.length cb] { LI := [Rows2 A a, Rows2 B b], val := fun _ : Unit => .bool (decide (lsts a = lsts b)) } := by
 refine i5 yJ rfl t3 fun w0 => ?_; refine i3 (c8 rfl (c9 (d7 (i3 (b6 rfl ?_))))); refine j9 rfl iN rfl (b6 rfl (j9 rfl iN rfl ?_)); refine L5 rfl rfl rfl (c9 ?_)
 first | refine k6 rfl (fun hb1 => ?_) (fun hb1 => ?_) | refine i6 rfl (fun hb1 => ?_) (fun hb1 => ?_)
 ·have hb1' := hb1; try simp at hb1'
  have hb1 : ¬ lsts a = lsts b := fun e => by have := congrArg List.length e; rw [qU, qU] at this; omega
  refine i3 (c8 rfl (c9 (J0 ?_))); exact ret1 () rfl (by rw [decide_eq_false hb1]; rfl) rfl tK (.refl _) tK
 have hb1' := hb1; try simp at hb1'
 have hb1 : a.length = b.length := by omega
 refine dz6 (A := A) (ps := a) m0 (dz6 (A := B) (ps := b) m2 ?_); refine i9 (i2 (d7 (i3 (c8 rfl (c9 (j4 ?_)))))); refine t8 (β := Nat) ⟨fun k => k ≤ a.length ∧ (lsts a).take k = (lsts b).take k, fun k => [(0, .slice A a.length ca), (1, .slice B b.length cb), (5, int k)], fun _ => [], fun _ => [Row B (rows b), Row A (rows a), Rows2 A a, Rows2 B b]⟩ (fun k => a.length - k) 0 ⟨Nat.zero_le _, rfl⟩ mC (.refl _) ⟨m0, m1, m2, m3, tK⟩ fun k hk => ?_; obtain ⟨hk, ht⟩ := hk; refine d7 (i3 (b6 rfl (b6 rfl ?_))); refine j9 rfl iN rfl ?_; refine z6 rfl rfl rfl (c9 ?_)
 first | refine k6 rfl (fun hb2 => ?_) (fun hb2 => ?_) | refine i6 rfl (fun hb2 => ?_) (fun hb2 => ?_)
 ·have hb2' := hb2; try simp at hb2'
  have hk2 : k < a.length := by omega
  have hma := A9 hk2; have hmb := A9 (l := b) (k := k) (by omega); refine i9 (i2 (d7 (j4 (d7 ?_)))); refine A7 8 mixed (by decide) (by decide) rfl rfl (p6 rfl (p6 rfl (k7 (fun w1 => q8 (α := (Sl Int)) _ _ rfl iN mP rfl rfl rfl mB rfl (by omega) (by decide) (q_z rfl)) (k7 (fun w1 => a7 rfl j2 rfl (b7 mB (b2 (by omega) rfl)) (q_z rfl)) (p6 rfl (p6 rfl (k7 (fun w1 => q8 (α := (Sl Int)) _ _ rfl iN mP rfl rfl rfl mB rfl (by omega) (by decide) (q_z rfl)) (k7 (fun w1 => a7 rfl j2 rfl (b7 mB (b2 (by omega) rfl)) (q_z rfl)) ?_)))))))); refine u4 ⟨rfl, ?_⟩; refine dz3 (A := A) (ps := a) (p := a.getD k default) mB hma (dz3 (A := B) (ps := b) (p := b.getD k default) mB hmb ?_); refine i8 dO rfl rfl (dC (a.getD k default).l (b.getD k default).l (by have := hla _ hma; omega)) n4 ⟨m1, m0, tK⟩ fun _ _ => ?_; refine I4 rfl rfl (c9 ?_)
  first | refine k6 rfl (fun hb3 => ?_) (fun hb3 => ?_) | refine i6 rfl (fun hb3 => ?_) (fun hb3 => ?_)
  ·have hb3' := hb3; try simp at hb3'
   have hne : ¬ (a.getD k default).l = (b.getD k default).l := by simpa using hb3'
   have hb3 : ¬ lsts a = lsts b := fun e => hne (by rw [← iq2 a hk2, ← iq2 b (by omega), e]); refine i3 (c8 rfl (c9 (k8 (D6 (w8 (D6 ?_)))))); exact ret1 () rfl (by rw [decide_eq_false hb3]; rfl) rfl tK (.refl _) tK
  have hb3' := hb3; try simp at hb3'
  have hq : (a.getD k default).l = (b.getD k default).l := by simpa using hb3'
  refine i9 (v5 (i2 (d4 (b6 rfl ?_)))); refine t7 _ rfl rfl rfl rfl p8 ?_; refine c8 rfl (b5 ?_); exact again _ (k + 1) ⟨by omega, by rw [qT hk2, qT (by omega), ht, hq]⟩ (z8 (by omega)) mC (.refl _) mC
 have hb2' := hb2; try simp at hb2'
 have hk2 : k = a.length := by omega
 refine q9 (C3 (r7 (i2 (i3 (c8 rfl (c9 (k8 ?_))))))); exact ret1 () rfl (by rw [decide_eq_true (kG ht (by rw [qU]; omega) (by rw [qU]; omega))]; rfl) rfl tK (.refl _) tK
end Go.Proofs.YtdgmfagfpbdbhaaGreatDoor
end
