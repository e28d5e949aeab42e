/- Texts. -/
import Derived.Lib.Bytealg
import Derived.Test.YtdgmfagfpbdbhaaGreatDoorAAf
import Derived.Test.YtdgmfagfpbdbhaaGreatDoorAAg
set_option linter.unusedVariables false
set_option linter.unusedSimpArgs false
section
namespace Go.Proofs.YtdgmfagfpbdbhaaGreatDoor
open Go Go.W Tryz T F
set_option maxRecDepth 20000
attribute [local irreducible] HL HC HQ HB Row Rows2 Blk Facts
def followE (t : Tr) (h : Int) : Int × Int × Int := if ¬ askE t [h] = 0 then (0, 0, askE t [h]) else if (followT t h).isSome = false then (0, 0, 9) else (((followT t h).getD (0, 0)).1, ((followT t h).getD (0, 0)).2, 0)
theorem wH {A B : Option Addr} {ca cb : Nat} (cs : List Cl) (hs : List Hd) (h : Int) (hca : cs.length ≤ ca) (hcb : hs.length ≤ cb) (ha : ∀ h ∈ hs, h.2.2.2.l.length ≤ 1000000) : Meets prog cG [.agg #[.slice A cs.length ca, .slice B hs.length cb], int h] { LI := [Row A (rows cs), RowsF B hs Hd.row], val := fun _ : Unit => .tuple #[int (followE (trOf cs hs) h).1, int (followE (trOf cs hs) h).2.1, int (followE (trOf cs hs) h).2.2] } := by
 refine j3 zQ rfl v8 fun w0 => i4 (O3 rfl rfl fun gB => ?_); refine c5 rfl (c5 rfl (c5 rfl (c8 ?_))); refine I0 ⟨fun _ : Nat × OutC × OutC => True, fun x => [(1, int h), (2, .pointer (d9 gB)), (7, if askE (trOf cs hs) [h] = 0 then .pointer (some ⟨x.1, 0, none⟩) else .pointer none), (6, int (askE (trOf cs hs) [h]))], fun _ => [(gB, .cells #[.slice A cs.length ca, .slice B hs.length cb] p8 (0, 0))], fun x => (if askE (trOf cs hs) [h] = 0 then beginL cs hs A ca B cb x else []) ++ [Row A (rows cs), RowsF B hs Hd.row]⟩ ?_ ?_
 ·skip
  refine c9 ?_
  first | refine G3 rfl i6 c7 rfl mB (by rfl) ?_ | refine I3 rfl i6 c7 rfl mB (by rfl) ?_ | refine z8 rfl i6 c7 rfl rfl (v9 mB (B3 (by omega))) ?_
  refine b6 rfl (n7 _ rfl rfl (fun _ => J5 ..) fun gS => D2 (rows [h]) (List.prefix_refl _) ?_); refine j4 jT rfl rfl (jP cs hs [h] hca hcb ha (by simp)) t4 mC fun x _ => ?_; refine b6 rfl (l3 rfl rfl rfl (l3 rfl rfl rfl (c5 rfl (c5 rfl (b5 ?_))))); exact D5 _ x tK mC (List.Sublist.refl _) (LSub.of_mem fun F hF => (List.mem_append.1 hF).elim (fun h1 => List.mem_append_left _ h1) (fun h2 => List.mem_append_right _ (List.mem_cons_of_mem _ h2)))
 refine fun x _ => ?_
 dsimp only
 refine d6 (i4 (b6 rfl (M8 rfl rfl rfl (c8 ?_))))
 first | refine k9 rfl (fun hb1 => ?_) (fun hb1 => ?_) | refine j0 rfl (fun hb1 => ?_) (fun hb1 => ?_)
 ·have hb1' := hb1; try simp at hb1'
  refine i4 (b6 rfl (c5 rfl (c5 rfl (c5 rfl (c8 (E9 ?_)))))); exact ret3 () rfl rfl rfl rfl (by show Value.tuple #[int (followE (trOf cs hs) h).1, int (followE (trOf cs hs) h).2.1, int (followE (trOf cs hs) h).2.2] = _; rw [followE, if_pos hb1]) rfl tK nK tK
 have hb1' := hb1; try simp at hb1'
 have h0 := Classical.not_not.1 hb1; rw [if_pos h0, if_pos h0]; have hch := vF h0; have hin := kx1 h0 (List.mem_singleton.2 rfl); rw [H0] at hin; have hok := mW hch; have h6 : cs.length ≤ 6 := hok.c6; have h6h := hok.h6; rw [H0] at h6h; have hcl : ∀ i, i < cs.length → ClsOK cs i := hok.c; obtain ⟨gl, ⟨oa, oc⟩, ⟨ka, kc⟩⟩ := x; have hS := kx6 hok; show HC _ _ _ _ _ [Row (d9 gl) [.slice A cs.length ca, .slice B hs.length cb, .slice oa cs.length oc, .slice ka hs.length kc], Row oa (rows (masksN cs cs.length)), Row ka (rows (kindsN hs hs.length)), Row A (rows cs), RowsF B hs Hd.row]; refine i8 (i1 (i4 (b6 rfl (b6 rfl ?_)))); refine j4 dE rfl rfl (cY (oa := oa) (oc := oc) (ka := ka) (kc := kc) (gl := gl) cs hs h hin.1 (by omega) (by omega) hS) t4 mC fun _ _ => b6 rfl (l3 (vs := #[int ((followT (trOf cs hs) h).getD (0, 0)).1, int ((followT (trOf cs hs) h).getD (0, 0)).2, .bool (followT (trOf cs hs) h).isSome]) rfl rfl rfl (l3 (vs := #[int ((followT (trOf cs hs) h).getD (0, 0)).1, int ((followT (trOf cs hs) h).getD (0, 0)).2, .bool (followT (trOf cs hs) h).isSome]) rfl rfl rfl (l3 (vs := #[int ((followT (trOf cs hs) h).getD (0, 0)).1, int ((followT (trOf cs hs) h).getD (0, 0)).2, .bool (followT (trOf cs hs) h).isSome]) rfl rfl rfl ?_))); refine c5 rfl (c5 rfl (c5 rfl (c8 (d6 (i4 (b6 rfl (H6 rfl rfl (c8 ?_))))))))
 first | refine k9 rfl (fun hb2 => ?_) (fun hb2 => ?_) | refine j0 rfl (fun hb2 => ?_) (fun hb2 => ?_)
 ·have hb2' := hb2; try simp at hb2'
  have h2 : (followT (trOf cs hs) h).isSome = false := by simpa using hb2
  refine i4 (c5 rfl (c5 rfl (c5 rfl (c8 (E9 ?_))))); exact ret3 () rfl rfl rfl rfl (by show Value.tuple #[int (followE (trOf cs hs) h).1, int (followE (trOf cs hs) h).2.1, int (followE (trOf cs hs) h).2.2] = _; rw [followE, if_neg hb1, if_pos h2]) rfl tK nK tK
 have hb2' := hb2; try simp at hb2'
 have h2 : ¬ (followT (trOf cs hs) h).isSome = false := fun e => by rw [e] at hb2; cases hb2
 refine i8 (i1 (i4 (b6 rfl (b6 rfl (c5 rfl (c5 rfl (c5 rfl (c8 (l4 ?_))))))))); exact ret3 () rfl rfl rfl rfl (by show Value.tuple #[int (followE (trOf cs hs) h).1, int (followE (trOf cs hs) h).2.1, int (followE (trOf cs hs) h).2.2] = _; rw [followE, if_neg hb1, if_neg h2]; rfl) rfl tK nK tK
theorem K1 (m i : Nat) (hm : m < 256) (hi : i < 8) : Meets prog bG [u8 m, int i] { val := fun _ : Unit => u8 (m ||| 2 ^ i) } := by
 refine j3 sZ rfl v8 fun w0 => ?_; refine i4 (c5 rfl (t6 (b6 rfl (b6 rfl (nq4 i rfl rfl rfl rfl hi ?_))))); refine kz2 rfl rfl rfl hm (Nat.pow_lt_pow_right (by omega) hi : 2 ^ i < 2 ^ 8) ?_; refine c5 rfl (c8 (l4 ?_)); exact ret1 () rfl rfl rfl tK nK tK
theorem hZ (m i : Nat) (hm : m < 256) (hi : i < 8) : Meets prog cT [u8 m, int i] { val := fun _ : Unit => .bool (m.testBit i) } := by
 refine j3 uH rfl v8 fun w0 => ?_; refine i4 (c5 rfl (t6 (b6 rfl (b6 rfl (nq3 i rfl rfl rfl rfl hi ?_))))); refine jz9 (b := 1) rfl rfl rfl (Nat.lt_of_le_of_lt (Nat.div_le_self _ _) hm) (by decide) ?_; refine J0 rfl rfl rfl (c5 rfl (c8 (l4 ?_))); exact ret1 () rfl (congrArg (fun b => some (Value.bool b)) (by exact pz0 m i)) rfl tK nK tK
theorem bA (s p : Str) :
    Meets prog L7 [str s, str p] { val := fun _ : Unit => .bool (decide (p.length ≤ s.length ∧ s.take p.length = p)) } := by
 refine j3 bX rfl v8 fun w0 => ?_; refine i4 (c5 rfl (t6 (b6 rfl ?_))); refine G5 rfl q8 rfl (b6 rfl (G5 rfl q8 rfl ?_)); refine Z4 rfl rfl rfl (b6 rfl ?_); refine v6 rfl rfl ?_ ?_
 ·intro hg1; have hg1' := hg1; try simp at hg1'
  have hle : p.length ≤ s.length := by simpa using hg1
  refine k5 hg1 (b6 rfl (k5 hg1 (b6 rfl (k5 hg1 ?_)))); refine G5 rfl q8 rfl (k5 hg1 (Z3 p.length rfl q8 rfl rfl rfl (by omega) ?_)); refine k5 hg1 (b6 rfl (k5 hg1 (J3 rfl rfl rfl ?_))); refine p_t rfl rfl (bt1 hg1) rfl ?_; refine c5 rfl (c8 (l4 ?_)); exact ret1 () rfl (congrArg (fun b => some (Value.bool b)) (by simp [hle])) rfl tK nK tK
 intro hg1; have hg1' := hg1; try simp at hg1'
 have hle : ¬ p.length ≤ s.length := by simpa using hg1
 refine l8 hg1 (l8 hg1 (l8 hg1 (l8 hg1 (l8 hg1 (l8 hg1 ?_))))); refine p_f rfl rfl (bf2 hg1) rfl ?_; refine c5 rfl (c8 (l4 ?_)); exact ret1 () rfl (congrArg (fun b => some (Value.bool b)) (by simp [hle])) rfl tK nK tK
theorem pT (s p : Str) :
    Meets prog aG [str s, str p] { val := fun _ : Unit => .bool (decide (p.length ≤ s.length ∧ s.take p.length = p)) } := by
 refine j3 rN rfl v8 fun w0 => ?_; refine i4 (c5 rfl (t6 (b6 rfl (b6 rfl ?_)))); refine j4 bP rfl rfl (bA s p) (.refl _) tK fun _ _ => ?_; refine c5 rfl (c8 (l4 ?_)); exact ret1 () rfl rfl rfl tK (.refl _) tK
theorem kz7 {s p : Str} : (p.length ≤ s.length ∧ s.take p.length = p) ↔ p <+: s := by
  rw [List.prefix_iff_eq_take]
  constructor
  · exact fun e => e.2.symm
  intro e; refine ⟨?_, e.symm⟩; have := congrArg List.length e; rw [List.length_take] at this
  omega
theorem nz8 {t : Tr} {b : Str} {h i : Nat} (hn : ¬ b <+: (t.hs.getD h default).1) : leadsB t b h i = false := by rw [leadsB, decide_eq_false hn, Bool.false_and]
theorem kj5 {t : Tr} {b : Str} {h i : Nat} (hn : (followT t h).isSome = false) : leadsB t b h i = false := by
  rw [leadsB]
  cases e : followT t h with
  | none => simp
  | some x => rw [e] at hn; cases hn
theorem nz9 {t : Tr} {b : Str} {h i : Nat} (hp : b <+: (t.hs.getD h default).1) (hn : (followT t h).isSome = true) : leadsB t b h i = (decide (((followT t h).getD (0, 0)).1 = (i : Int)) && isTrB t ((followT t h).getD (0, 0)).1) := by
  rw [leadsB, decide_eq_true hp, Bool.true_and]
  cases e : followT t h with
  | none => rw [e] at hn; cases hn
  | some x => rfl
theorem mx1 {t : Tr} (hok : TrOK t) {h : Nat} (hh : h < t.hs.length) (hn : (followT t h).isSome = true) : 0 ≤ ((followT t h).getD (0, 0)).1 ∧ ((followT t h).getD (0, 0)).1 < (t.hs.length : Int) := by
  cases e : followT t h with
  | none => rw [e] at hn; cases hn
  | some x => exact gx4 hok _ (h : Int) 0 x.1 x.2 (by omega) (by omega) e
theorem aj6 (f : Nat → Bool) (k : Nat) : (List.range (k + 1)).any f = ((List.range k).any f || f k) := by rw [List.range_succ, List.any_append]; simp
def MaySet (t : Tr) (b : Str) (k m : Nat) : Prop := m < 256 ∧ ∀ j, m.testBit j = (List.range k).any fun h => leadsB t b h j
theorem dj2 {t : Tr} {b : Str} {k m : Nat} (h : MaySet t b k m) (hn : ∀ j, leadsB t b k j = false) : MaySet t b (k + 1) m := ⟨h.1, fun j => by rw [aj6, hn j, Bool.or_false]; exact h.2 j⟩
theorem nz3 {t : Tr} {b : Str} {k m e : Nat} (h : MaySet t b k m) (he : e < 8) (hn : ∀ j, leadsB t b k j = decide (e = j)) : MaySet t b (k + 1) (m ||| 2 ^ e) := ⟨Nat.or_lt_two_pow (n := 8) h.1 (Nat.pow_lt_pow_right (by omega) he), fun j => by rw [aj6, hn j, Nat.testBit_or, Nat.testBit_two_pow, h.2 j]⟩
def mayK (m k : Nat) : List Int := ((List.range k).filter fun i => m.testBit i).map fun i : Nat => (i : Int)
theorem dC (m k : Nat) : mayK m (k + 1) = if m.testBit k = true then mayK m k ++ [(k : Int)] else mayK m k := by
  unfold mayK; rw [List.range_succ, List.filter_append, List.map_append]
  by_cases h : m.testBit k = true <;> simp [h]
theorem yY (m k : Nat) : (mayK m k).length ≤ k := by
  unfold mayK; rw [List.length_map]; exact Nat.le_trans (List.length_filter_le _ _) (by simp)
theorem nz4 {t : Tr} {b : Str} {m : Nat} (h : MaySet t b t.hs.length m) : mayK m t.hs.length = mayT t b := by
  unfold mayK mayT
  congr 1
  exact List.filter_congr fun i _ => h.2 i
set_option maxHeartbeats 1000000 in
theorem Y9 {A B oa ka : Option Addr} {ca cb oc kc gl : Nat} (cs : List Cl) (hs : List Hd) (b : Str) (hok : TrOK (trOf cs hs)) : Meets prog gE [.pointer (d9 gl), str b] { LI := [Row (d9 gl) [.slice A cs.length ca, .slice B hs.length cb, .slice oa cs.length oc, .slice ka hs.length kc], Row ka (rows (kindsN hs hs.length)), Row B (rows hs)], inv := fun x : OutC => (mayT (trOf cs hs) b).length ≤ x.2, val := fun x => .slice x.1 (mayT (trOf cs hs) b).length x.2, LO := fun x => [Row x.1 (rows (mayT (trOf cs hs) b))] } := by
 refine j3 vQ rfl v8 fun w0 => ?_; refine i4 (c5 rfl (c8 (d6 ?_))); have h6h := hok.h6; have hln := H0 cs hs; rw [hln] at h6h; have hS := kx6 hok; refine c9 (c5 rfl (c8 (d6 (i4 (b6 rfl (r8 rfl rfl ?_))))))
 first | refine a6 ⟨_, 0, none⟩ rfl rfl u9 rfl ?_ | refine a6 _ rfl rfl u9 rfl ?_
 first | refine a6 ⟨_, 1, none⟩ rfl rfl i3 rfl ?_ | refine a6 _ rfl rfl i3 rfl ?_
 first | refine a7 rfl b2 rfl (i2 mB rfl) ?_ | refine a7 rfl b2 rfl (d8 mB rfl) ?_ | refine a7 rfl b2 rfl (b7 mB (b4 (by omega) rfl)) ?_ | refine a7 rfl b2 rfl (b8 mB (rows_get (by omega) rfl)) ?_ | refine a7 rfl b2 rfl (d7 mB rfl) ?_
 refine k6 rfl n4 rfl ?_; refine b6 rfl (c8 (j5 ?_)); refine u6 (β := Nat × Nat) ⟨fun x => x.1 ≤ hs.length ∧ MaySet (trOf cs hs) b x.1 x.2, fun x => [(0, .pointer (d9 gl)), (1, str b), (5, u8 x.2), (18, int hs.length), (17, .slice B hs.length cb), (19, int x.1)], fun _ => [], fun _ => [Row (d9 gl) [.slice A cs.length ca, .slice B hs.length cb, .slice oa cs.length oc, .slice ka hs.length kc], Row ka (rows (kindsN hs hs.length)), Row B (rows hs)]⟩ (fun x => hs.length - x.1) (0, 0) ⟨Nat.zero_le _, by decide, fun j => by simp⟩ mC nK mC fun x hx => ?_; obtain ⟨k, m⟩ := x; obtain ⟨hk, hM⟩ := hx; simp only at hk hM; refine i4 (B5 rfl rfl rfl (c8 (d6 ?_)))
 first | refine k9 rfl (fun hb1 => ?_) (fun hb1 => ?_) | refine j0 rfl (fun hb1 => ?_) (fun hb1 => ?_)
 ·have hb1' := hb1; try simp at hb1'
  have hk2 : k < hs.length := by omega
  have hgd : ((trOf cs hs).hs.getD k default).1 = (hs.getD k default).1 := by show ((hs.map Hd.p).getD k default).1 = _; rw [V4 hk2]; rfl
  refine i8 (i1 (d6 (j5 (i4 (b6 rfl ?_))))); refine m7 (α := Hd) hs k rfl n4 l7 rfl rfl rfl mB rfl hk2 (by decide) (z8 rfl C1 l7 rfl rfl (v9 mB (B3 (by omega))) (u4 rfl (fun _ => G9 _) fun gA => c5 rfl (l6 rfl rfl X2 l7 (by rfl) (by rfl) ?_))); refine c8 (Y7 ?_); refine Q1 (rows [hs.getD k default]) ⟨[], List.append_nil _⟩ (c9 ?_)
  first | refine a6 ⟨_, 0, none⟩ rfl rfl l9 rfl ?_ | refine a6 _ rfl rfl l9 rfl ?_
  first | refine a7 rfl a9 rfl (i2 mB rfl) ?_ | refine a7 rfl a9 rfl (d8 mB rfl) ?_ | refine a7 rfl a9 rfl (b7 mB (b4 (by omega) rfl)) ?_ | refine a7 rfl a9 rfl (b8 mB (rows_get (by omega) rfl)) ?_ | refine a7 rfl a9 rfl (d7 mB rfl) ?_
  refine b6 rfl (j4 qK rfl rfl (pT (hs.getD k default).1 b) t4 tK fun _ _ => ?_); refine H6 rfl rfl (c8 ?_)
  first | refine k9 rfl (fun hb2 => ?_) (fun hb2 => ?_) | refine j0 rfl (fun hb2 => ?_) (fun hb2 => ?_)
  ·have hb2' := hb2; try simp at hb2'
   have hp : ¬ b <+: ((trOf cs hs).hs.getD k default).1 := by rw [hgd]; exact fun e => by rw [decide_eq_true (kz7.2 e)] at hb2; cases hb2
   refine t7 (aO (t8 (i1 (c9 ?_)))); refine t5 _ rfl rfl rfl rfl q6 ?_; refine b6 rfl (b5 ?_); exact again _ (k + 1, m) ⟨by show k + 1 ≤ hs.length; omega, by exact dj2 hM fun j => nz8 hp⟩ (y8 (by omega)) mC nK mC
  have hb2' := hb2; try simp at hb2'
  have hp : b <+: ((trOf cs hs).hs.getD k default).1 := by rw [hgd]; exact Classical.byContradiction fun e => by rw [decide_eq_false (fun f => e (kz7.1 f))] at hb2; cases hb2
  refine i8 (i1 (i4 (b6 rfl (b6 rfl ?_)))); refine j4 dE rfl rfl (cY (oa := oa) (oc := oc) (ka := ka) (kc := kc) (gl := gl) cs hs (k : Int) (by omega) (by omega) (by omega) hS) t4 mC fun _ _ => b6 rfl (l3 (vs := #[int ((followT (trOf cs hs) (k : Int)).getD (0, 0)).1, int ((followT (trOf cs hs) (k : Int)).getD (0, 0)).2, .bool (followT (trOf cs hs) (k : Int)).isSome]) rfl rfl rfl (l3 (vs := #[int ((followT (trOf cs hs) (k : Int)).getD (0, 0)).1, int ((followT (trOf cs hs) (k : Int)).getD (0, 0)).2, .bool (followT (trOf cs hs) (k : Int)).isSome]) rfl rfl rfl (l3 (vs := #[int ((followT (trOf cs hs) (k : Int)).getD (0, 0)).1, int ((followT (trOf cs hs) (k : Int)).getD (0, 0)).2, .bool (followT (trOf cs hs) (k : Int)).isSome]) rfl rfl rfl ?_))); refine c5 rfl (c5 rfl (c5 rfl (t6 (b6 rfl (b6 rfl ?_))))); refine v6 rfl rfl ?_ ?_
  ·intro hg1; have hg1' := hg1; try simp at hg1'
   have hs1 : (followT (trOf cs hs) (k : Int)).isSome = true := bt1 hg1; have hat := mx1 hok (by rw [hln]; exact hk2) hs1; rw [hln] at hat; have hL := fun i => nz9 (i := i) hp hs1; refine k5 hg1 (b6 rfl (k5 hg1 (b6 rfl (k5 hg1 ?_)))); refine j4 bV rfl rfl (bR (oa := oa) (oc := oc) (ka := ka) (kc := kc) (gl := gl) (A := A) (B := B) (ca := ca) (cb := cb) cs hs ((followT (trOf cs hs) (k : Int)).getD (0, 0)).1 hat.1 hat.2 (by omega)) t4 mC fun _ _ => p_t rfl rfl (bt1 hg1) rfl (c8 ?_)
   first | refine k9 rfl (fun hb3 => ?_) (fun hb3 => ?_) | refine j0 rfl (fun hb3 => ?_) (fun hb3 => ?_)
   ·have hb3' := hb3; try simp at hb3'
    obtain ⟨en, hen⟩ := Int.eq_ofNat_of_zero_le hat.1; refine c9 (b6 rfl ?_); refine qX (v := int (en : Int)) rfl (congrArg (fun z => some (int z)) hen) ?_; refine j4 K2 rfl rfl (K1 m en hM.1 (by omega)) t4 tK fun _ _ => ?_; refine c5 rfl (b5 (w6 (i1 (c9 ?_)))); refine t5 _ rfl rfl rfl rfl q6 ?_; refine b6 rfl (b5 ?_); exact again _ (k + 1, m ||| 2 ^ en) ⟨by show k + 1 ≤ hs.length; omega, by exact nz3 hM (by omega) fun j => by rw [hL j, hb3, Bool.and_true]; exact decide_eq_decide.2 (by omega)⟩ (y8 (by omega)) mC nK mC
   have hb3' := hb3; try simp at hb3'
   refine i8 (w6 (i1 (c9 ?_))); refine t5 _ rfl rfl rfl rfl q6 ?_; refine b6 rfl (b5 ?_); exact again _ (k + 1, m) ⟨by show k + 1 ≤ hs.length; omega, by exact dj2 hM fun j => by rw [hL j, hb3, Bool.and_false]⟩ (y8 (by omega)) mC nK mC
  intro hg1; have hg1' := hg1; try simp at hg1'
  have hs1 : (followT (trOf cs hs) (k : Int)).isSome = false := bf2 hg1; refine l8 hg1 (l8 hg1 (l8 hg1 ?_)); refine p_f rfl rfl (bf2 hg1) rfl ?_; refine c8 (c_f rfl rfl (i8 (w6 (i1 (c9 ?_))))); refine t5 _ rfl rfl rfl rfl q6 ?_; refine b6 rfl (b5 ?_); exact again _ (k + 1, m) ⟨by show k + 1 ≤ hs.length; omega, by exact dj2 hM fun j => kj5 hs1⟩ (y8 (by omega)) mC nK mC
 have hb1' := hb1; try simp at hb1'
 have hk2 : k = hs.length := by omega
 subst hk2; rw [← hln] at hM; have hA := nz4 hM; rw [hln] at hA; refine t7 (C7 (t8 (i1 (i4 (c5 rfl (c8 (Y7 ?_))))))); refine c9 (b6 rfl (r8 rfl rfl ?_))
 first | refine a6 ⟨_, 0, none⟩ rfl rfl u9 rfl ?_ | refine a6 _ rfl rfl u9 rfl ?_
 first | refine a6 ⟨_, 1, none⟩ rfl rfl i3 rfl ?_ | refine a6 _ rfl rfl i3 rfl ?_
 first | refine a7 rfl b2 rfl (i2 mB rfl) ?_ | refine a7 rfl b2 rfl (d8 mB rfl) ?_ | refine a7 rfl b2 rfl (b7 mB (b4 (by omega) rfl)) ?_ | refine a7 rfl b2 rfl (b8 mB (rows_get (by omega) rfl)) ?_ | refine a7 rfl b2 rfl (d7 mB rfl) ?_
 refine k6 rfl n4 rfl ?_; refine b6 rfl (c8 (j5 ?_)); refine u6 (β := Nat × OutC × Hp) ⟨fun x => x.1 ≤ hs.length ∧ Grow aU 1 x.2.1.1 (mayK m x.1).length x.2.1.2 (rows (mayK m x.1)) x.2.2, fun x => [(5, u8 m), (11, .slice x.2.1.1 (mayK m x.1).length x.2.1.2), (51, int hs.length), (52, int x.1)], fun x => x.2.2, fun _ => []⟩ (fun x => hs.length - x.1) (0, (none, 0), []) ⟨Nat.zero_le _, Grow.nil _ _⟩ mC nK tK fun x hx => ?_; obtain ⟨k, ⟨na, nc⟩, og⟩ := x; obtain ⟨hk, hG⟩ := hx; simp only at hk hG; refine i4 (B5 rfl rfl rfl (c8 (d6 ?_)))
 first | refine k9 rfl (fun hb4 => ?_) (fun hb4 => ?_) | refine j0 rfl (fun hb4 => ?_) (fun hb4 => ?_)
 ·have hb4' := hb4; try simp at hb4'
  have hk2 : k < hs.length := by omega
  have hml := yY m k; refine i8 (i1 (d6 (j5 (i4 (b6 rfl (c5 rfl (t6 ?_))))))); refine b6 rfl (b6 rfl ?_); refine j4 iE rfl rfl (hZ m k hM.1 (by omega)) t4 tK fun _ _ => c8 ?_
  first | refine k9 rfl (fun hb5 => ?_) (fun hb5 => ?_) | refine j0 rfl (fun hb5 => ?_) (fun hb5 => ?_)
  ·have hb5' := hb5; try simp at hb5'
   refine c9 (b6 rfl (b6 rfl ?_)); refine n7 _ rfl rfl (fun _ => J5 ..) fun gS => D2 (rows [(k : Int)]) (List.prefix_refl _) ?_; refine E3 ((mayK m k).length + 1) (rows (mayK m k ++ [(k : Int)])) cK rfl rfl rfl hG (hp' := []) (by rw [List.append_nil]; exact List.Perm.refl _) (Src.row (news := rows [(k : Int)]) (m := 1) m0 rfl (E8 _) (by decide)) rfl (A1 _ _).symm (by unfold maxLen; omega) (by omega) fun A' c' og' hG' => ?_; refine c5 rfl (b5 (w6 (i1 (c9 ?_)))); refine t5 _ rfl rfl rfl rfl q6 ?_; refine b6 rfl (b5 ?_); exact again _ (k + 1, (A', c'), og') ⟨by show k + 1 ≤ hs.length; omega, by show Grow _ _ _ (mayK m (k + 1)).length _ (rows (mayK m (k + 1))) _; rw [dC, if_pos hb5, List.length_append]; exact hG'⟩ (y8 (by omega)) ⟨rfl, by show some (Value.slice A' ((mayK m k).length + 1) c') = some (Value.slice A' (mayK m (k + 1)).length c'); rw [dC, if_pos hb5, List.length_append]; rfl, rfl, rfl, tK⟩ (List.sublist_append_left _ _) tK
  have hb5' := hb5; try simp at hb5'
  refine i8 (w6 (i1 (c9 ?_))); refine t5 _ rfl rfl rfl rfl q6 ?_; refine b6 rfl (b5 ?_); exact again _ (k + 1, (na, nc), og) ⟨by show k + 1 ≤ hs.length; omega, by show Grow _ _ _ (mayK m (k + 1)).length _ (rows (mayK m (k + 1))) _; rw [dC, if_neg (by rw [hb5]; decide)]; exact hG⟩ (y8 (by omega)) ⟨rfl, by show some (Value.slice na (mayK m k).length nc) = some (Value.slice na (mayK m (k + 1)).length nc); rw [dC, if_neg (by rw [hb5]; decide)], rfl, rfl, tK⟩ (List.Sublist.refl _) tK
 have hb4' := hb4; try simp at hb4'
 have hk2 : k = hs.length := by omega
 subst hk2; have hG2 := hG; rw [hA] at hG2; refine t7 (C7 (t8 (i1 (i4 (b6 rfl (c5 rfl (c8 (l4 ?_)))))))); refine lC hG2 ?_; exact ret1 (na, nc) rfl (by show some (Value.slice na (mayK m hs.length).length nc) = some (Value.slice na (mayT (trOf cs hs) b).length nc); rw [hA]) rfl hG2.le nK ⟨m0, tK⟩
def mayE (t : Tr) (b : Str) : List Int × Int := if ¬ checkT t = 0 then ([], checkT t) else (mayT t b, 0)
theorem bz9 {A B : Option Addr} {ca cb : Nat} (cs : List Cl) (hs : List Hd) (b : Str) (hca : cs.length ≤ ca) (hcb : hs.length ≤ cb) (ha : ∀ h ∈ hs, h.2.2.2.l.length ≤ 1000000) : Meets prog kX [.agg #[.slice A cs.length ca, .slice B hs.length cb], str b] { LI := [Row A (rows cs), RowsF B hs Hd.row], inv := fun x : OutC => (mayE (trOf cs hs) b).1.length ≤ x.2, val := fun x => .tuple #[.slice x.1 (mayE (trOf cs hs) b).1.length x.2, int (mayE (trOf cs hs) b).2], LO := fun x => [Row x.1 (rows (mayE (trOf cs hs) b).1)] } := by
 refine j3 dq6 rfl v8 fun w0 => i4 (O3 rfl rfl fun gB => ?_); refine c5 rfl (c5 rfl (c8 ?_)); refine I0 ⟨fun _ : Nat × OutC × OutC => True, fun x => [(1, str b), (2, .pointer (d9 gB)), (6, if checkT (trOf cs hs) = 0 then .pointer (some ⟨x.1, 0, none⟩) else .pointer none), (7, int (checkT (trOf cs hs)))], fun _ => [(gB, .cells #[.slice A cs.length ca, .slice B hs.length cb] p8 (0, 0))], fun x => (if checkT (trOf cs hs) = 0 then beginL cs hs A ca B cb x else []) ++ [Row A (rows cs), RowsF B hs Hd.row]⟩ ?_ ?_
 ·skip
  refine c9 ?_
  first | refine G3 rfl i6 c7 rfl mB (by rfl) ?_ | refine I3 rfl i6 c7 rfl mB (by rfl) ?_ | refine z8 rfl i6 c7 rfl rfl (v9 mB (B3 (by omega))) ?_
  refine j4 M3 rfl rfl (L9 cs hs hca hcb ha) t4 mC fun x _ => ?_; refine b6 rfl (l3 rfl rfl rfl (l3 rfl rfl rfl (c5 rfl (c5 rfl (b5 ?_))))); exact D5 _ x tK mC (List.Sublist.refl _) (LSub.of_mem fun F h => h)
 refine fun x _ => ?_
 dsimp only
 refine d6 (i4 (b6 rfl (M8 rfl rfl rfl (c8 ?_))))
 first | refine k9 rfl (fun hb1 => ?_) (fun hb1 => ?_) | refine j0 rfl (fun hb1 => ?_) (fun hb1 => ?_)
 ·have hb1' := hb1; try simp at hb1'
  have hE : mayE (trOf cs hs) b = ([], checkT (trOf cs hs)) := by rw [mayE, if_pos hb1]
  refine i4 (b6 rfl (c5 rfl (c5 rfl (c8 (E9 ?_))))); refine n5 (α := Int) ?_; exact ret2 (none, 0) rfl rfl rfl (by show Value.tuple #[.slice none (mayE (trOf cs hs) b).1.length 0, int (mayE (trOf cs hs) b).2] = _; rw [hE]; rfl) rfl (by show (mayE (trOf cs hs) b).1.length ≤ 0; rw [hE]; exact Nat.le_refl _) nK (by show LSub _ [Row none (rows (mayE (trOf cs hs) b).1)]; rw [hE]; exact ⟨m0, tK⟩)
 have hb1' := hb1; try simp at hb1'
 have h0 := Classical.not_not.1 hb1; rw [if_pos h0, if_pos h0]; have hok := mW h0; have h6 : cs.length ≤ 6 := hok.c6; have h6h := hok.h6; rw [H0] at h6h; have hcl : ∀ i, i < cs.length → ClsOK cs i := hok.c; obtain ⟨gl, ⟨oa, oc⟩, ⟨ka, kc⟩⟩ := x; have hE : mayE (trOf cs hs) b = (mayT (trOf cs hs) b, 0) := by rw [mayE, if_neg hb1]
 show HC _ _ _ _ _ [Row (d9 gl) [.slice A cs.length ca, .slice B hs.length cb, .slice oa cs.length oc, .slice ka hs.length kc], Row oa (rows (masksN cs cs.length)), Row ka (rows (kindsN hs hs.length)), Row A (rows cs), RowsF B hs Hd.row]; refine S7 mB (i8 (i1 (i4 (b6 rfl (b6 rfl ?_))))); refine j4 aB rfl rfl (Y9 (A := A) (B := B) (oa := oa) (oc := oc) (ka := ka) (kc := kc) (gl := gl) (ca := ca) (cb := cb) cs hs (b) hok) t4 mC fun y hy => ?_; refine c5 rfl (c5 rfl (c8 (l4 ?_))); exact ret2 y rfl rfl rfl (by show Value.tuple #[.slice y.1 (mayE (trOf cs hs) b).1.length y.2, int (mayE (trOf cs hs) b).2] = _; rw [hE]) rfl (by show (mayE (trOf cs hs) b).1.length ≤ y.2; rw [hE]; exact hy) nK (by show LSub _ [Row y.1 (rows (mayE (trOf cs hs) b).1)]; rw [hE]; exact ⟨m0, tK⟩)
theorem next_az {s : Str} (h : s.all azB = true) {k : Nat} (hk : k < s.length) : nextP s k = k + 1 := by
  have h1 := List.all_eq_true.1 h _ (List.getElem_mem hk); simp only [azB, Bool.and_eq_true, decide_eq_true_eq] at h1; rw [nextP, if_pos hk, bx1 (List.getElem?_eq_getElem hk) (by omega)]
theorem word_az {s : Str} (h : wordB s = true) : s.all azB = true := by
  unfold wordB at h; simp only [Bool.and_eq_true] at h; exact h.2.2.2.2
theorem gx9 {s : Str} (h : wordB s = true) : s.length ≤ 12 := by
  unfold wordB at h; simp only [Bool.and_eq_true, decide_eq_true_eq] at h; exact h.2.1
theorem gx3 {cs : List Cl} {hs : List Hd} (hok : TrOK (trOf cs hs)) {i : Nat} (hi : i < hs.length) : wordB (hs.getD i default).1 = true := by
  have := (hok.h i (by rw [H0]; exact hi)).w; simp only [trOf, V4 hi] at this; exact this
theorem lz5 {cs : List Cl} {hs : List Hd} {h : Int} (h0 : 0 ≤ h) (hh : h < (hs.length : Int)) : shortT (trOf cs hs) h = shortN (trOf cs hs) (hs.getD h.toNat default).1 ((hs.getD h.toNat default).1.length + 1) 0 := by
  unfold shortT; simp only [trOf, V4 (show h.toNat < hs.length by omega)]
  rfl
def shortE (t : Tr) (h : Int) : Str × Int := if ¬ askE t [h] = 0 then ([], askE t [h]) else match shortT t h with | none => ([], 11) | some s => (s, 0)
theorem qQ {A B oa ka : Option Addr} {ca cb oc kc gl : Nat} (cs : List Cl) (hs : List Hd) (h : Int) (h0 : 0 ≤ h) (hh : h < (hs.length : Int)) (hok : TrOK (trOf cs hs)) : Meets prog bE [.pointer (d9 gl), int h] { LI := [Row (d9 gl) [.slice A cs.length ca, .slice B hs.length cb, .slice oa cs.length oc, .slice ka hs.length kc], Row ka (rows (kindsN hs hs.length)), Row B (rows hs)], val := fun _ : Unit => .tuple #[str ((shortT (trOf cs hs) h).getD (hs.getD h.toNat default).1), .bool (shortT (trOf cs hs) h).isSome] } := by
 refine j3 sS rfl v8 fun w0 => ?_; refine i4 (c5 rfl (c5 rfl (t6 (b6 rfl (r8 rfl rfl ?_)))))
 first | refine a6 ⟨_, 0, none⟩ rfl rfl u9 rfl ?_ | refine a6 _ rfl rfl u9 rfl ?_
 first | refine a6 ⟨_, 1, none⟩ rfl rfl i3 rfl ?_ | refine a6 _ rfl rfl i3 rfl ?_
 first | refine a7 rfl b2 rfl (i2 mB rfl) ?_ | refine a7 rfl b2 rfl (d8 mB rfl) ?_ | refine a7 rfl b2 rfl (b7 mB (b4 (by omega) rfl)) ?_ | refine a7 rfl b2 rfl (b8 mB (rows_get (by omega) rfl)) ?_ | refine a7 rfl b2 rfl (d7 mB rfl) ?_
 refine b6 rfl (m7 (α := Hd) hs h.toNat rfl n4 l7 rfl rfl (Int.toNat_of_nonneg h0).symm mB rfl (by omega) (by decide) ?_)
 first | refine a6 ⟨_, 0, none⟩ rfl rfl l9 rfl ?_ | refine a6 _ rfl rfl l9 rfl ?_
 refine a7 (v := str (hs.getD h.toNat default).1) rfl a9 rfl (b7 mB (b4 (by omega) rfl)) ?_; refine c5 rfl (c8 (Y7 ?_)); have hw := gx3 hok (show h.toNat < hs.length by omega); have haz := word_az hw; have h12 := gx9 hw; have hT := lz5 (cs := cs) h0 hh
 -- (hs.getD h.toNat default).1 = s at *
 refine c9 (b6 rfl ?_); refine ix7 rfl q8 rfl fun gI => ?_; refine c8 (j5 ?_); refine u6 (β := Nat) ⟨fun k => k ≤ (hs.getD h.toNat default).1.length ∧ shortT (trOf cs hs) h = shortN (trOf cs hs) (hs.getD h.toNat default).1 ((hs.getD h.toNat default).1.length + 1 - k) k, fun k => [(0, .pointer (d9 gl)), (6, str (hs.getD h.toNat default).1), (18, .pointer (d9 gI))], fun k => [(gI, iter (hs.getD h.toNat default).1 k)], fun _ => [Row (d9 gl) [.slice A cs.length ca, .slice B hs.length cb, .slice oa cs.length oc, .slice ka hs.length kc], Row ka (rows (kindsN hs hs.length)), Row B (rows hs)]⟩ (fun k => (hs.getD h.toNat default).1.length - k) 0 ⟨Nat.zero_le _, hT⟩ mC (List.Sublist.refl _) mC fun k hk => ?_; obtain ⟨hk, ht⟩ := hk; refine i4 (kz3 rfl rfl (.refl _) ?_); refine nq9 rfl rfl (c8 (d6 ?_))
 first | refine k9 rfl (fun hb1 => ?_) (fun hb1 => ?_) | refine j0 rfl (fun hb1 => ?_) (fun hb1 => ?_)
 ·have hb1' := hb1; try simp at hb1'
  rw [show (hs.getD h.toNat default).1.length + 1 - k = ((hs.getD h.toNat default).1.length - k) + 1 by omega, shortN] at ht; have hnx := next_az haz hb1; refine i8 (i1 (j5 (i4 (r_ext1 rfl rfl hb1 (c5 rfl (t6 (b6 rfl ?_))))))); refine b6 rfl (b6 rfl ?_); refine Z3 k rfl q8 rfl rfl rfl (by omega) (j4 aB rfl rfl (Y9 (A := A) (B := B) (oa := oa) (oc := oc) (ka := ka) (kc := kc) (gl := gl) (ca := ca) (cb := cb) cs hs ((hs.getD h.toNat default).1.take k) hok) t4 mC fun y hy => k6 rfl A8 rfl ?_); refine J0 rfl rfl rfl (c8 ?_)
  first | refine k9 rfl (fun hb2 => ?_) (fun hb2 => ?_) | refine j0 rfl (fun hb2 => ?_) (fun hb2 => ?_)
  ·have hb2' := hb2; try simp at hb2'
   rw [if_pos (by omega)] at ht; refine i4 (b6 rfl (b6 rfl ?_)); refine Z3 k rfl q8 rfl rfl rfl (by omega) ?_; refine c5 rfl (c5 rfl (c8 (l4 (B7 (B7 ?_))))); exact ret2 () rfl rfl rfl (by show Value.tuple #[str ((shortT (trOf cs hs) h).getD (hs.getD h.toNat default).1), .bool (shortT (trOf cs hs) h).isSome] = _; rw [ht]; rfl) rfl tK nK tK
  have hb2' := hb2; try simp at hb2'
  rw [if_neg (by omega)] at ht; refine i8 (w6 ?_); refine again _ (k + 1) ⟨by omega, by rw [ht, show (hs.getD h.toNat default).1.length + 1 - (k + 1) = (hs.getD h.toNat default).1.length - k by omega]⟩ (y8 (by omega)) mC ?_ mC; rw [hnx]; exact (List.Sublist.refl _)
 have hb1' := hb1; try simp at hb1'
 have hk2 : k = (hs.getD h.toNat default).1.length := by omega
 rw [hk2, show (hs.getD h.toNat default).1.length + 1 - (hs.getD h.toNat default).1.length = 0 + 1 by omega, shortN, List.take_length] at ht; refine t7 (C7 (t8 (i1 (i4 (b6 rfl (b6 rfl (b6 rfl ?_))))))); refine j4 aB rfl rfl (Y9 (A := A) (B := B) (oa := oa) (oc := oc) (ka := ka) (kc := kc) (gl := gl) (ca := ca) (cb := cb) cs hs (hs.getD h.toNat default).1 hok) t4 mC fun y hy => k6 rfl A8 rfl ?_; refine J0 rfl rfl rfl (c5 rfl (c5 rfl (c8 (l4 ?_))))
 have hv : ((shortT (trOf cs hs) h).getD (hs.getD h.toNat default).1, (shortT (trOf cs hs) h).isSome) = ((hs.getD h.toNat default).1, decide (((mayT (trOf cs hs) (hs.getD h.toNat default).1).length : Int) = 1)) := by
   rw [ht]
   by_cases h1 : (mayT (trOf cs hs) (hs.getD h.toNat default).1).length = 1
   · rw [if_pos h1, decide_eq_true (by omega)]; rfl
   rw [if_neg h1, shortN, decide_eq_false (by omega)]; rfl
 exact ret2 () rfl rfl rfl (by show Value.tuple #[str ((shortT (trOf cs hs) h).getD (hs.getD h.toNat default).1), .bool (shortT (trOf cs hs) h).isSome] = _; rw [show (shortT (trOf cs hs) h).getD (hs.getD h.toNat default).1 = (hs.getD h.toNat default).1 from congrArg Prod.fst hv, show (shortT (trOf cs hs) h).isSome = _ from congrArg Prod.snd hv]) rfl tK nK tK
theorem yJ {A B : Option Addr} {ca cb : Nat} (cs : List Cl) (hs : List Hd) (h : Int) (hca : cs.length ≤ ca) (hcb : hs.length ≤ cb) (ha : ∀ h ∈ hs, h.2.2.2.l.length ≤ 1000000) : Meets prog gJ [.agg #[.slice A cs.length ca, .slice B hs.length cb], int h] { LI := [Row A (rows cs), RowsF B hs Hd.row], val := fun _ : Unit => .tuple #[str (shortE (trOf cs hs) h).1, int (shortE (trOf cs hs) h).2] } := by
 refine j3 az9 rfl v8 fun w0 => i4 (O3 rfl rfl fun gB => ?_); refine c5 rfl (c5 rfl (c8 ?_)); refine I0 ⟨fun _ : Nat × OutC × OutC => True, fun x => [(1, int h), (2, .pointer (d9 gB)), (6, if askE (trOf cs hs) [h] = 0 then .pointer (some ⟨x.1, 0, none⟩) else .pointer none), (7, int (askE (trOf cs hs) [h]))], fun _ => [(gB, .cells #[.slice A cs.length ca, .slice B hs.length cb] p8 (0, 0))], fun x => (if askE (trOf cs hs) [h] = 0 then beginL cs hs A ca B cb x else []) ++ [Row A (rows cs), RowsF B hs Hd.row]⟩ ?_ ?_
 ·skip
  refine c9 ?_
  first | refine G3 rfl i6 c7 rfl mB (by rfl) ?_ | refine I3 rfl i6 c7 rfl mB (by rfl) ?_ | refine z8 rfl i6 c7 rfl rfl (v9 mB (B3 (by omega))) ?_
  refine b6 rfl (n7 _ rfl rfl (fun _ => J5 ..) fun gS => D2 (rows [h]) (List.prefix_refl _) ?_); refine j4 jT rfl rfl (jP cs hs [h] hca hcb ha (by simp)) t4 mC fun x _ => ?_; refine b6 rfl (l3 rfl rfl rfl (l3 rfl rfl rfl (c5 rfl (c5 rfl (b5 ?_))))); exact D5 _ x tK mC (List.Sublist.refl _) (LSub.of_mem fun F hF => (List.mem_append.1 hF).elim (fun h1 => List.mem_append_left _ h1) (fun h2 => List.mem_append_right _ (List.mem_cons_of_mem _ h2)))
 refine fun x _ => ?_
 dsimp only
 refine d6 (i4 (b6 rfl (M8 rfl rfl rfl (c8 ?_))))
 first | refine k9 rfl (fun hb1 => ?_) (fun hb1 => ?_) | refine j0 rfl (fun hb1 => ?_) (fun hb1 => ?_)
 ·have hb1' := hb1; try simp at hb1'
  refine i4 (b6 rfl (c5 rfl (c5 rfl (c8 (E9 ?_))))); exact ret2 () rfl rfl rfl (by show Value.tuple #[str (shortE (trOf cs hs) h).1, int (shortE (trOf cs hs) h).2] = _; rw [shortE, if_pos hb1]; rfl) rfl tK nK tK
 have hb1' := hb1; try simp at hb1'
 have h0 := Classical.not_not.1 hb1; rw [if_pos h0, if_pos h0]; have hch := vF h0; have hin := kx1 h0 (List.mem_singleton.2 rfl); rw [H0] at hin; have hok := mW hch; have h6 : cs.length ≤ 6 := hok.c6; have h6h := hok.h6; rw [H0] at h6h; have hcl : ∀ i, i < cs.length → ClsOK cs i := hok.c; obtain ⟨gl, ⟨oa, oc⟩, ⟨ka, kc⟩⟩ := x; show HC _ _ _ _ _ [Row (d9 gl) [.slice A cs.length ca, .slice B hs.length cb, .slice oa cs.length oc, .slice ka hs.length kc], Row oa (rows (masksN cs cs.length)), Row ka (rows (kindsN hs hs.length)), Row A (rows cs), RowsF B hs Hd.row]; refine S7 mB (i8 (i1 (i4 (b6 rfl (b6 rfl ?_))))); refine j4 rF rfl rfl (qQ (A := A) (B := B) (oa := oa) (oc := oc) (ka := ka) (kc := kc) (gl := gl) (ca := ca) (cb := cb) cs hs h hin.1 (by omega) hok) t4 mC fun _ _ => ?_; refine b6 rfl (l3 rfl rfl rfl (l3 rfl rfl rfl (c5 rfl (c5 rfl (c8 (d6 (i4 (b6 rfl (H6 rfl rfl ?_))))))))); refine c8 ?_
 first | refine k9 rfl (fun hb2 => ?_) (fun hb2 => ?_) | refine j0 rfl (fun hb2 => ?_) (fun hb2 => ?_)
 ·have hb2' := hb2; try simp at hb2'
  have h2 : shortT (trOf cs hs) h = none := by cases e : shortT (trOf cs hs) h with
   | none => rfl
   | some s => rw [e] at hb2; cases hb2
  refine i4 (c5 rfl (c5 rfl (c8 (E9 ?_)))); exact ret2 () rfl rfl rfl (by show Value.tuple #[str (shortE (trOf cs hs) h).1, int (shortE (trOf cs hs) h).2] = _; rw [shortE, if_neg hb1, h2]; rfl) rfl tK nK tK
 have hb2' := hb2; try simp at hb2'
 obtain ⟨s, hs2⟩ : ∃ s, shortT (trOf cs hs) h = some s := by cases e : shortT (trOf cs hs) h with
  | none => rw [e] at hb2; cases hb2
  | some s => exact ⟨s, rfl⟩
 refine i8 (i1 (i4 (b6 rfl (c5 rfl (c5 rfl (c8 (l4 ?_))))))); exact ret2 () rfl rfl rfl (by show Value.tuple #[str (shortE (trOf cs hs) h).1, int (shortE (trOf cs hs) h).2] = Value.tuple #[str ((shortT (trOf cs hs) h).getD (hs.getD h.toNat default).1), int 0]; rw [shortE, if_neg hb1, hs2]; rfl) rfl tK nK tK
theorem gx7 : ∀ {l l' : List Int}, l.Pairwise (· < ·) → l'.Pairwise (· < ·) → (∀ x, x ∈ l ↔ x ∈ l') → l = l'
  | [], [], _, _, _ => rfl
  | [], y :: l', _, _, h => by have := (h y).2 (by simp); simp at this
  | x :: l, [], _, _, h => by have := (h x).1 (by simp); simp at this
  | x :: l, y :: l', h1, h2, h => by
    have p1 := List.pairwise_cons.1 h1; have p2 := List.pairwise_cons.1 h2
    have e : x = y := by
      rcases List.mem_cons.1 ((h x).1 (by simp)) with e | e
      · exact e
      rcases List.mem_cons.1 ((h y).2 (by simp)) with e2 | e2
      · exact e2.symm
      have := p2.1 x e; have := p1.1 y e2; omega
    subst e
    congr 1
    refine gx7 p1.2 p2.2 fun z => ?_; have hz := h z; rw [List.mem_cons, List.mem_cons] at hz
    constructor
    · intro hm
      rcases hz.1 (.inr hm) with e | e
      · subst e; have := p1.1 z hm; omega
      exact e
    intro hm
    rcases hz.2 (.inr hm) with e | e
    · subst e; have := p2.1 z hm; omega
    exact e
theorem ax5 {cs : List Cl} (h6 : cs.length ≤ 6) (hc : ∀ i, i < cs.length → ClsOK cs i) {c : Int} (h : c < (cs.length : Int)) : mayK (maskOf (pathT cs c)) cs.length = pathT cs c := by
  have hp := yV cs hc c.toNat c (Nat.le_refl _) h; refine gx7 ?_ hp.1 fun x => ?_
  · unfold mayK
    refine List.pairwise_map.2 ((List.pairwise_lt_range.filter _).imp fun h => ?_)
    omega
  unfold mayK; rw [List.mem_map]
  constructor
  · rintro ⟨i, hi, rfl⟩
    rw [List.mem_filter, ax6 fun x hx => (hp.2 x hx).1, decide_eq_true_eq] at hi; exact hi.2
  intro hx; have h1 := hp.2 x hx; have h2 := qY h6 hc h x hx; refine ⟨x.toNat, ?_, Int.toNat_of_nonneg h1.1⟩; rw [List.mem_filter, ax6 fun x hx => (hp.2 x hx).1, decide_eq_true_eq, Int.toNat_of_nonneg h1.1]; exact ⟨List.mem_range.2 (by omega), hx⟩
set_option maxHeartbeats 1000000 in
theorem sE {A B oa ka : Option Addr} {ca cb oc kc gl : Nat} (cs : List Cl) (hs : List Hd) (c : Int) (h0 : 0 ≤ c) (h : c < (cs.length : Int)) (h6 : cs.length ≤ 6) (hc : ∀ i, i < cs.length → ClsOK cs i) : Meets prog cP [.pointer (d9 gl), int c] { LI := [Row (d9 gl) [.slice A cs.length ca, .slice B hs.length cb, .slice oa cs.length oc, .slice ka hs.length kc], Row oa (rows (masksN cs cs.length))], inv := fun x : OutC => (pathT cs c).length ≤ x.2, val := fun x => .slice x.1 (pathT cs c).length x.2, LO := fun x => [Row x.1 (rows (pathT cs c))] } := by
 refine j3 uD rfl v8 fun w0 => ?_; refine i4 (c5 rfl (t6 (c5 rfl (c8 (Y7 ?_))))); have hA := ax5 h6 hc h; refine c9 (b6 rfl (r8 rfl rfl ?_))
 first | refine a6 ⟨_, 0, none⟩ rfl rfl u9 rfl ?_ | refine a6 _ rfl rfl u9 rfl ?_
 first | refine a6 ⟨_, 0, none⟩ rfl rfl i9 rfl ?_ | refine a6 _ rfl rfl i9 rfl ?_
 first | refine a7 rfl b3 rfl (i2 mB rfl) ?_ | refine a7 rfl b3 rfl (d8 mB rfl) ?_ | refine a7 rfl b3 rfl (b7 mB (b4 (by omega) rfl)) ?_ | refine a7 rfl b3 rfl (b8 mB (rows_get (by omega) rfl)) ?_ | refine a7 rfl b3 rfl (d7 mB rfl) ?_
 refine k6 rfl n6 rfl ?_; refine b6 rfl (c8 (j5 ?_)); refine u6 (β := Nat × OutC × Hp) ⟨fun x => x.1 ≤ cs.length ∧ Grow aU 1 x.2.1.1 (mayK (maskOf (pathT cs c)) x.1).length x.2.1.2 (rows (mayK (maskOf (pathT cs c)) x.1)) x.2.2, fun x => [(0, .pointer (d9 gl)), (1, int c), (5, .slice x.2.1.1 (mayK (maskOf (pathT cs c)) x.1).length x.2.1.2), (12, int cs.length), (13, int x.1)], fun x => x.2.2, fun _ => [Row (d9 gl) [.slice A cs.length ca, .slice B hs.length cb, .slice oa cs.length oc, .slice ka hs.length kc], Row oa (rows (masksN cs cs.length))]⟩ (fun x => cs.length - x.1) (0, (none, 0), []) ⟨Nat.zero_le _, Grow.nil _ _⟩ mC nK mC fun x hx => ?_; obtain ⟨k, ⟨na, nc⟩, og⟩ := x; obtain ⟨hk, hG⟩ := hx; simp only at hk hG; refine i4 (B5 rfl rfl rfl (c8 (d6 ?_)))
 first | refine k9 rfl (fun hb1 => ?_) (fun hb1 => ?_) | refine j0 rfl (fun hb1 => ?_) (fun hb1 => ?_)
 ·have hb1' := hb1; try simp at hb1'
  have hk2 : k < cs.length := by omega
  have hml := yY (maskOf (pathT cs c)) k; refine i8 (i1 (d6 (j5 (i4 (b6 rfl (c5 rfl (t6 ?_))))))); refine b6 rfl (r8 rfl rfl ?_)
  first | refine a6 ⟨_, 2, none⟩ rfl rfl E5 rfl ?_ | refine a6 _ rfl rfl E5 rfl ?_
  first | refine a7 rfl r6 rfl (i2 mB rfl) ?_ | refine a7 rfl r6 rfl (d8 mB rfl) ?_ | refine a7 rfl r6 rfl (b7 mB (b4 (by omega) rfl)) ?_ | refine a7 rfl r6 rfl (b8 mB (rows_get (by omega) rfl)) ?_ | refine a7 rfl r6 rfl (d7 mB rfl) ?_
  refine b6 rfl ?_; refine m7 (α := Nat) (masksN cs cs.length) c.toNat rfl S9 U5 rfl rfl (Int.toNat_of_nonneg h0).symm mB (V3 _ _).symm (by rw [V3]; omega) (by decide) ?_; refine a7 (v := u8 (maskOf (pathT cs c))) rfl S1 rfl (b7 mB (b4 (by rw [V3]; omega) (by rw [vA (by omega), Int.toNat_of_nonneg h0]; rfl))) ?_; refine b6 rfl (j4 dF rfl rfl (cZ (maskOf (pathT cs c)) k (ax7 h6 hc h) (by omega)) t4 tK fun _ _ => c8 ?_)
  first | refine k9 rfl (fun hb2 => ?_) (fun hb2 => ?_) | refine j0 rfl (fun hb2 => ?_) (fun hb2 => ?_)
  ·have hb2' := hb2; try simp at hb2'
   refine c9 (b6 rfl (b6 rfl ?_)); refine n7 _ rfl rfl (fun _ => J5 ..) fun gS => D2 (rows [(k : Int)]) (List.prefix_refl _) ?_; refine E3 ((mayK (maskOf (pathT cs c)) k).length + 1) (rows (mayK (maskOf (pathT cs c)) k ++ [(k : Int)])) cK rfl rfl rfl hG (hp' := []) (by rw [List.append_nil]; exact List.Perm.refl _) (Src.row (news := rows [(k : Int)]) (m := 1) m0 rfl (E8 _) (by decide)) rfl (A1 _ _).symm (by unfold maxLen; omega) (by omega) fun A' c' og' hG' => ?_; refine c5 rfl (b5 (w6 (i1 (c9 ?_)))); refine t5 _ rfl rfl rfl rfl q6 ?_; refine b6 rfl (b5 ?_); exact again _ (k + 1, (A', c'), og') ⟨by show k + 1 ≤ cs.length; omega, by show Grow _ _ _ (mayK (maskOf (pathT cs c)) (k + 1)).length _ (rows (mayK (maskOf (pathT cs c)) (k + 1))) _; rw [dC, if_pos hb2, List.length_append]; exact hG'⟩ (y8 (by omega)) ⟨rfl, rfl, by show some (Value.slice A' ((mayK (maskOf (pathT cs c)) k).length + 1) c') = some (Value.slice A' (mayK (maskOf (pathT cs c)) (k + 1)).length c'); rw [dC, if_pos hb2, List.length_append]; rfl, rfl, rfl, tK⟩ (List.sublist_append_left _ _) mC
  have hb2' := hb2; try simp at hb2'
  refine i8 (w6 (i1 (c9 ?_))); refine t5 _ rfl rfl rfl rfl q6 ?_; refine b6 rfl (b5 ?_); exact again _ (k + 1, (na, nc), og) ⟨by show k + 1 ≤ cs.length; omega, by show Grow _ _ _ (mayK (maskOf (pathT cs c)) (k + 1)).length _ (rows (mayK (maskOf (pathT cs c)) (k + 1))) _; rw [dC, if_neg (by rw [hb2]; decide)]; exact hG⟩ (y8 (by omega)) ⟨rfl, rfl, by show some (Value.slice na (mayK (maskOf (pathT cs c)) k).length nc) = some (Value.slice na (mayK (maskOf (pathT cs c)) (k + 1)).length nc); rw [dC, if_neg (by rw [hb2]; decide)], rfl, rfl, tK⟩ (List.Sublist.refl _) mC
 have hb1' := hb1; try simp at hb1'
 have hk2 : k = cs.length := by omega
 subst hk2; have hG2 := hG; rw [hA] at hG2; refine t7 (C7 (t8 (i1 (i4 (b6 rfl (c5 rfl (c8 (l4 ?_)))))))); refine lC hG2 ?_; exact ret1 (na, nc) rfl (by show some (Value.slice na (mayK (maskOf (pathT cs c)) cs.length).length nc) = some (Value.slice na (pathT cs c).length nc); rw [hA]) rfl hG2.le nK ⟨m0, tK⟩
def hitB (s : Str) (h : Hd) : Bool := decide (h.1 = s) && decide (¬ h.2.1 = -1)
theorem hit_no1 {s : Str} {x : Hd} (h : ¬ x.1 = s) : hitB s x = false := by unfold hitB; rw [decide_eq_false h]; rfl
theorem hit_no2 {s : Str} {x : Hd} (h : x.2.1 = -1) : hitB s x = false := by unfold hitB; simp [h]
theorem hit_yes {s : Str} {x : Hd} (h : x.1 = s) (h2 : ¬ x.2.1 = -1) : hitB s x = true := by unfold hitB; simp [h, h2]
def nameOf (cs : List Cl) (c : Int) : Str := (cs.getD c.toNat default).1
theorem dj1 (cs : List Cl) (hs : List Hd) (s : Str) : namesN (trOf cs hs) s = (hs.find? (hitB s)).map fun h => (pathT cs h.2.1).map (nameOf cs) := by
  unfold namesN; show ((hs.map Hd.p).find? _).map _ = _; rw [List.find?_map, Option.map_map]
  rfl
theorem nz1 {cs : List Cl} {hs : List Hd} {s : Str} {k : Nat} (hk : k < hs.length) (h1 : hitB s (hs.getD k default) = true) (ht : ∀ i, i < k → hitB s (hs.getD i default) = false) : namesN (trOf cs hs) s = some ((pathT cs (hs.getD k default).2.1).map (nameOf cs)) := by
  rw [dj1]
  have : hs.find? (hitB s) = some (hs.getD k default) := by
    rw [List.find?_eq_some_iff_getElem]; refine ⟨h1, k, hk, (B8 hk).symm, fun j hj => ?_⟩; have := ht j hj; rw [B8 (by omega)] at this
    simp [this]
  rw [this]
  rfl
theorem nz0 {cs : List Cl} {hs : List Hd} {s : Str} (ht : ∀ i, i < hs.length → hitB s (hs.getD i default) = false) : namesN (trOf cs hs) s = none := by
  rw [dj1]
  have : hs.find? (hitB s) = none := by
    rw [List.find?_eq_none]; intro x hx; obtain ⟨i, hi, rfl⟩ := List.getElem_of_mem hx; have := ht i hi; rw [B8 hi] at this
    simp [this]
  rw [this]
  rfl
theorem jj2 {s : Str} {hs : List Hd} {k : Nat} (ht : ∀ i, i < k → hitB s (hs.getD i default) = false) (h : hitB s (hs.getD k default) = false) : ∀ i, i < k + 1 → hitB s (hs.getD i default) = false := fun i hi => by
  rcases Nat.lt_or_ge i k with h1 | h1
  · exact ht i h1
  rw [show i = k by omega]; exact h
set_option maxHeartbeats 1000000 in
theorem dK {A B oa ka : Option Addr} {ca cb oc kc gl : Nat} (cs : List Cl) (hs : List Hd) (s : Str) (hok : TrOK (trOf cs hs)) : Meets prog bF [.pointer (d9 gl), str s] { LI := [Row (d9 gl) [.slice A cs.length ca, .slice B hs.length cb, .slice oa cs.length oc, .slice ka hs.length kc], Row oa (rows (masksN cs cs.length)), Row A (rows cs), Row B (rows hs)], inv := fun x : OutC => ((namesN (trOf cs hs) s).getD []).length ≤ x.2, val := fun x => .tuple #[.slice x.1 ((namesN (trOf cs hs) s).getD []).length x.2, .bool (namesN (trOf cs hs) s).isSome], LO := fun x => [Row x.1 (rows ((namesN (trOf cs hs) s).getD []))] } := by
 refine j3 sV rfl v8 fun w0 => ?_; refine i4 (c5 rfl (c5 rfl (c8 (Y7 ?_)))); have h6 : cs.length ≤ 6 := hok.c6; have h6h := hok.h6; rw [H0] at h6h; have hcl : ∀ i, i < cs.length → ClsOK cs i := hok.c; refine c9 (b6 rfl (r8 rfl rfl ?_))
 first | refine a6 ⟨_, 0, none⟩ rfl rfl u9 rfl ?_ | refine a6 _ rfl rfl u9 rfl ?_
 first | refine a6 ⟨_, 1, none⟩ rfl rfl i3 rfl ?_ | refine a6 _ rfl rfl i3 rfl ?_
 first | refine a7 rfl b2 rfl (i2 mB rfl) ?_ | refine a7 rfl b2 rfl (d8 mB rfl) ?_ | refine a7 rfl b2 rfl (b7 mB (b4 (by omega) rfl)) ?_ | refine a7 rfl b2 rfl (b8 mB (rows_get (by omega) rfl)) ?_ | refine a7 rfl b2 rfl (d7 mB rfl) ?_
 refine k6 rfl n4 rfl ?_; refine b6 rfl (c8 (j5 ?_)); refine u6 (β := Nat) ⟨fun k => k ≤ hs.length ∧ ∀ i, i < k → hitB s (hs.getD i default) = false, fun k => [(0, .pointer (d9 gl)), (1, str s), (15, .slice B hs.length cb), (16, int hs.length), (17, int k)], fun _ => [], fun _ => [Row (d9 gl) [.slice A cs.length ca, .slice B hs.length cb, .slice oa cs.length oc, .slice ka hs.length kc], Row oa (rows (masksN cs cs.length)), Row A (rows cs), Row B (rows hs)]⟩ (fun k => hs.length - k) 0 ⟨Nat.zero_le _, fun i hi => by omega⟩ mC nK mC fun k hk => ?_; obtain ⟨hk, ht⟩ := hk; refine i4 (B5 rfl rfl rfl (c8 (d6 ?_)))
 first | refine k9 rfl (fun hb1 => ?_) (fun hb1 => ?_) | refine j0 rfl (fun hb1 => ?_) (fun hb1 => ?_)
 ·have hb1' := hb1; try simp at hb1'
  have hk2 : k < hs.length := by omega
  have hcc : -1 ≤ (hs.getD k default).2.1 ∧ (hs.getD k default).2.1 < (cs.length : Int) := by
    have := (hok.h k (by rw [H0]; exact hk2)).c; simp only [trOf, V4 hk2] at this; exact this
  refine i8 (i1 (d6 (j5 (i4 ?_)))); refine m7 (α := Hd) _ _ rfl n4 l7 rfl rfl rfl mB rfl (by omega) (by decide) (z8 rfl C1 l7 rfl rfl (v9 mB (B3 (by omega))) (u4 rfl (fun _ => G9 _) fun gA => l6 rfl rfl X2 l7 (by rfl) (by rfl) ?_)); refine c8 (Y7 ?_); refine Q1 (rows [hs.getD k default]) ⟨[], List.append_nil _⟩ (c9 ?_)
  first | refine a6 ⟨_, 0, none⟩ rfl rfl l9 rfl ?_ | refine a6 _ rfl rfl l9 rfl ?_
  first | refine a7 rfl a9 rfl (i2 mB rfl) ?_ | refine a7 rfl a9 rfl (d8 mB rfl) ?_ | refine a7 rfl a9 rfl (b7 mB (b4 (by omega) rfl)) ?_ | refine a7 rfl a9 rfl (b8 mB (rows_get (by omega) rfl)) ?_ | refine a7 rfl a9 rfl (d7 mB rfl) ?_
  refine b6 rfl (iK rfl rfl rfl (b6 rfl ?_)); refine v6 rfl rfl ?_ ?_
  ·intro hg1; have hg1' := hg1; try simp at hg1'
   have e1 : (hs.getD k default).1 = s := by simp only [beq_iff_eq, decide_eq_false_iff_not] at hg1; exact Classical.not_not.1 hg1
   refine k5 hg1 ?_
   first | refine a6 ⟨_, 1, none⟩ rfl rfl p7 rfl ?_ | refine a6 _ rfl rfl p7 rfl ?_
   refine k5 hg1 ?_
   first | refine a7 rfl a8 rfl (i2 mB rfl) ?_ | refine a7 rfl a8 rfl (d8 mB rfl) ?_ | refine a7 rfl a8 rfl (b7 mB (b4 (by omega) rfl)) ?_ | refine a7 rfl a8 rfl (b8 mB (rows_get (by omega) rfl)) ?_ | refine a7 rfl a8 rfl (d7 mB rfl) ?_
   refine k5 hg1 (J0 rfl rfl rfl ?_); refine p_f rfl rfl (bf1 hg1) rfl (c8 ?_)
   first | refine k9 rfl (fun hb2 => ?_) (fun hb2 => ?_) | refine j0 rfl (fun hb2 => ?_) (fun hb2 => ?_)
   ·have hb2' := hb2; try simp at hb2'
    have hh : hitB s (hs.getD k default) = false := hit_no2 hb2; refine t7 (aO (t8 (i1 (c9 ?_)))); refine t5 _ rfl rfl rfl rfl q6 ?_; refine b6 rfl (b5 ?_); exact again _ (k + 1) ⟨by omega, jj2 ht hh⟩ (y8 (by omega)) mC nK mC
   have hb2' := hb2; try simp at hb2'
   have hh : hitB s (hs.getD k default) = true := hit_yes e1 hb2; have hN := nz1 (cs := cs) hk2 hh ht; refine i8 (i1 (i4 (c5 rfl (c8 (d6 (i4 (b6 rfl ?_)))))))
   first | refine a6 ⟨_, 1, none⟩ rfl rfl p7 rfl ?_ | refine a6 _ rfl rfl p7 rfl ?_
   first | refine a7 rfl a8 rfl (i2 mB rfl) ?_ | refine a7 rfl a8 rfl (d8 mB rfl) ?_ | refine a7 rfl a8 rfl (b7 mB (b4 (by omega) rfl)) ?_ | refine a7 rfl a8 rfl (b8 mB (rows_get (by omega) rfl)) ?_ | refine a7 rfl a8 rfl (d7 mB rfl) ?_
   refine j4 sT rfl rfl (sE (A := A) (B := B) (oa := oa) (oc := oc) (ka := ka) (kc := kc) (gl := gl) (ca := ca) (cb := cb) cs hs (hs.getD k default).2.1 (by omega) hcc.2 h6 hcl) t4 mC fun y hy => ?_; obtain ⟨ya, yc⟩ := y; have hps := qY h6 hcl hcc.2; have hpa := yV cs hcl (hs.getD k default).2.1.toNat _ (Nat.le_refl _) hcc.2
   have hpl : (pathT cs (hs.getD k default).2.1).length ≤ 6 := by
     have := congrArg List.length (ax5 h6 hcl hcc.2); have h2 := yY (maskOf (pathT cs (hs.getD k default).2.1)) cs.length
     omega
   refine k6 rfl A8 rfl ?_; refine b6 rfl (c8 (j5 ?_)); refine u6 (β := Nat × OutC × Hp) ⟨fun x => x.1 ≤ (pathT cs (hs.getD k default).2.1).length ∧ Grow H2 1 x.2.1.1 x.1 x.2.1.2 (rows (((pathT cs (hs.getD k default).2.1).take (x.1)).map (nameOf cs))) x.2.2, fun x => [(0, .pointer (d9 gl)), (8, .slice x.2.1.1 x.1 x.2.1.2), (33, .slice ya (pathT cs (hs.getD k default).2.1).length yc), (34, int (pathT cs (hs.getD k default).2.1).length), (35, int x.1)], fun x => x.2.2, fun _ => Row ya (rows (pathT cs (hs.getD k default).2.1)) :: [Row (d9 gl) [.slice A cs.length ca, .slice B hs.length cb, .slice oa cs.length oc, .slice ka hs.length kc], Row oa (rows (masksN cs cs.length)), Row A (rows cs), Row B (rows hs)]⟩ (fun x => (pathT cs (hs.getD k default).2.1).length - x.1) (0, (none, 0), []) ⟨Nat.zero_le _, Grow.nil _ _⟩ mC nK mC fun x hx => ?_; obtain ⟨j, ⟨na, nc⟩, og⟩ := x; obtain ⟨hj, hG⟩ := hx; simp only at hj hG; refine i4 (B5 rfl rfl rfl (c8 (d6 ?_)))
   first | refine k9 rfl (fun hb3 => ?_) (fun hb3 => ?_) | refine j0 rfl (fun hb3 => ?_) (fun hb3 => ?_)
   ·have hb3' := hb3; try simp at hb3'
    have hj2 : j < (pathT cs (hs.getD k default).2.1).length := by omega
    have hcj := hpa.2 _ (w8 hj2); refine i8 (i1 (d6 (j5 (i4 ?_)))); refine m7 (α := Int) (pathT cs (hs.getD k default).2.1) j rfl A8 E1 rfl rfl rfl mB rfl hj2 (by decide) (a7 (v := int ((pathT cs (hs.getD k default).2.1).getD j default)) rfl a8 rfl (b7 mB (b4 hj2 rfl)) ?_); refine c5 rfl (c8 (c9 (b6 rfl (b6 rfl (r8 rfl rfl ?_)))))
    first | refine a6 ⟨_, 0, none⟩ rfl rfl u9 rfl ?_ | refine a6 _ rfl rfl u9 rfl ?_
    first | refine a6 ⟨_, 0, none⟩ rfl rfl i9 rfl ?_ | refine a6 _ rfl rfl i9 rfl ?_
    first | refine a7 rfl b3 rfl (i2 mB rfl) ?_ | refine a7 rfl b3 rfl (d8 mB rfl) ?_ | refine a7 rfl b3 rfl (b7 mB (b4 (by omega) rfl)) ?_ | refine a7 rfl b3 rfl (b8 mB (rows_get (by omega) rfl)) ?_ | refine a7 rfl b3 rfl (d7 mB rfl) ?_
    refine b6 rfl (m7 (α := Cl) cs ((pathT cs (hs.getD k default).2.1).getD j default).toNat rfl n6 u7 rfl rfl (Int.toNat_of_nonneg hcj.1).symm mB rfl (by omega) (by decide) ?_)
    first | refine a6 ⟨_, 0, none⟩ rfl rfl t9 rfl ?_ | refine a6 _ rfl rfl t9 rfl ?_
    refine a7 (v := str (nameOf cs ((pathT cs (hs.getD k default).2.1).getD j default))) rfl a9 rfl (b7 mB (b4 (by omega) rfl)) (n7 _ rfl rfl (fun _ => W1 ..) fun gS => D2 (rows [nameOf cs ((pathT cs (hs.getD k default).2.1).getD j default)]) (List.prefix_refl _) ?_); refine E3 (j + 1) (rows ((((pathT cs (hs.getD k default).2.1).take (j)).map (nameOf cs)) ++ [nameOf cs ((pathT cs (hs.getD k default).2.1).getD j default)])) iH rfl rfl rfl hG (hp' := []) (by first | (rw [List.append_nil]; done) | (rw [List.append_nil]; exact List.Perm.refl _)) (Src.row (news := rows [nameOf cs ((pathT cs (hs.getD k default).2.1).getD j default)]) (m := 1) m0 rfl (E8 _) (by decide)) rfl (A1 _ _).symm (by unfold maxLen; omega) (by omega) fun A' c' og' hG' => ?_; refine c5 rfl (b5 (w6 (i1 (c9 ?_)))); refine t5 _ rfl rfl rfl rfl q6 ?_; refine b6 rfl (b5 ?_); exact again _ (j + 1, (A', c'), og') ⟨by show j + 1 ≤ (pathT cs (hs.getD k default).2.1).length; omega, by show Grow _ _ _ _ _ (rows (((pathT cs (hs.getD k default).2.1).take (j + 1)).map (nameOf cs))) _; rw [D6 _ _ hj2, List.map_append]; exact hG'⟩ (y8 (by omega)) mC (List.sublist_append_left _ _) mC
   have hb3' := hb3; try simp at hb3'
   have hj2 : j = (pathT cs (hs.getD k default).2.1).length := by omega
   subst hj2; rw [List.take_length] at hG; refine t7 (C7 (t8 (i1 (i4 (b6 rfl (c5 rfl (c5 rfl (c8 ?_)))))))); refine l4 (B7 (u5 (B7 ?_))); have hgl : ((namesN (trOf cs hs) s).getD []).length = (pathT cs (hs.getD k default).2.1).length := by rw [hN]; exact List.length_map ..
   refine lC hG ?_; exact ret2 (na, nc) rfl rfl rfl (by show Value.tuple #[.slice na ((namesN (trOf cs hs) s).getD []).length nc, .bool (namesN (trOf cs hs) s).isSome] = _; rw [hgl, hN]; rfl) rfl (by show ((namesN (trOf cs hs) s).getD []).length ≤ nc; rw [hgl]; exact hG.le) nK (by show LSub _ [Row na (rows ((namesN (trOf cs hs) s).getD []))]; rw [hN]; exact ⟨m0, tK⟩)
  intro hg1; have hg1' := hg1; try simp at hg1'
  have e1 : ¬ (hs.getD k default).1 = s := fun e => by rw [decide_eq_false (not_not_intro e)] at hg1; cases hg1
  refine l8 hg1 (l8 hg1 (l8 hg1 ?_)); refine p_t rfl rfl (bt2 hg1) rfl ?_; refine c8 (c_t rfl rfl (t7 (aO (t8 (i1 (c9 ?_)))))); refine t5 _ rfl rfl rfl rfl q6 ?_; refine b6 rfl (b5 ?_); exact again _ (k + 1) ⟨by omega, jj2 ht (hit_no1 e1)⟩ (y8 (by omega)) mC nK mC
 have hb1' := hb1; try simp at hb1'
 have hk2 : k = hs.length := by omega
 subst hk2; have hN := nz0 (cs := cs) ht; refine t7 (C7 (t8 (i1 (i4 (c5 rfl (c5 rfl (c8 (l4 ?_)))))))); refine n5 (α := Str) ?_; exact ret2 (none, 0) rfl rfl rfl (by show Value.tuple #[.slice none ((namesN (trOf cs hs) s).getD []).length 0, .bool (namesN (trOf cs hs) s).isSome] = _; rw [hN]; rfl) rfl (by show ((namesN (trOf cs hs) s).getD []).length ≤ 0; rw [hN]; exact Nat.le_refl _) nK (by show LSub _ [Row none (rows ((namesN (trOf cs hs) s).getD []))]; rw [hN]; exact ⟨m0, tK⟩)
def cmpW (a b : Str) : Int := Lib.compareBytes a b
theorem cmp_run (a b : Str) (w : World) : (callFunc 113 [str a, str b].toArray).run prog w = .ok (.value (int (cmpW a b))) w := by
  show (callFunc 113 #[str a, str b]).run prog w = _; rw [run_callFunc_extern func113 w7 w7 w7 (e := Extern.BytealgCompare.compare) w7]; unfold str; rw [Lib.run_compareString]
  rfl
theorem lq9 : ∀ (a b : Str), cmpW a b = if a < b then -1 else if a = b then 0 else 1
  | [], [] => by simp [cmpW, Lib.compareBytes]
  | [], y :: b => by simp [cmpW, Lib.compareBytes]
  | x :: a, [] => by simp [cmpW, Lib.compareBytes]
  | x :: a, y :: b => by
    have ih := lq9 a b; unfold cmpW at ih ⊢; rw [Lib.compareBytes, ih]; simp only [List.cons_lt_cons_iff, List.cons.injEq]
    by_cases h1 : x < y
    · rw [if_pos h1, if_pos (.inl h1)]
    rw [if_neg h1]
    by_cases h2 : y < x
    · have hne : ¬ x = y := fun e => by subst e; exact h1 h2
      rw [if_pos h2, if_neg (fun e => e.elim h1 (fun e => hne e.1)), if_neg (fun e => hne e.1)]
    rw [if_neg h2]
    have e : x = y := by
      apply UInt8.toNat_inj.1
      rw [UInt8.lt_iff_toNat_lt] at h1 h2
      omega
    subst e
    by_cases h3 : a < b
    · rw [if_pos h3, if_pos (.inr ⟨rfl, h3⟩)]
    have hn : ¬ (x < x ∨ x = x ∧ a < b) := fun e => e.elim h1 (fun e => h3 e.2); rw [if_neg h3, if_neg hn]
    by_cases h4 : a = b
    · rw [if_pos h4, if_pos ⟨rfl, h4⟩]
    rw [if_neg h4, if_neg (fun e => h4 e.2)]
theorem lq8 (a b : Str) : cmpW a b < 0 ↔ a < b := by
  rw [lq9]
  by_cases h : a < b
  · rw [if_pos h]; exact ⟨fun _ => h, fun _ => by decide⟩
  rw [if_neg h]; refine ⟨fun e => ?_, fun e => absurd e h⟩
  split at e <;> omega
theorem bB (a b : Str) : Meets prog L8 [str a, str b] { val := fun _ : Unit => int (cmpW a b) } := by
 refine j3 bY rfl v8 fun w0 => ?_; refine i4 (c5 rfl (t6 (b6 rfl (b6 rfl ?_)))); refine vD rfl rfl (fun w => cmp_run a b w) ?_; refine c5 rfl (c8 (l4 ?_)); exact ret1 () rfl rfl rfl tK nK tK
theorem sN (a b : Str) : Meets prog W7 [str a, str b] { val := fun _ : Unit => int (cmpW a b) } := by
 refine j3 uJ rfl v8 fun w0 => ?_; refine i4 (c5 rfl (t6 (b6 rfl (b6 rfl ?_)))); refine j4 bQ rfl rfl (bB a b) (.refl _) tK fun _ _ => ?_; refine c5 rfl (c8 (l4 ?_)); exact ret1 () rfl rfl rfl tK nK tK
theorem pW {A B : Option Addr} {ca cb : Nat} (a b : List Str) (ha : a.length ≤ 1000000) :
    Meets prog aJ [.slice A a.length ca, .slice B b.length cb] { LI := [Row A (rows a), Row B (rows b)], val := fun _ : Unit => .bool (decide (a = b)) } := by
 refine j3 rQ rfl v8 fun w0 => ?_; refine i4 (c5 rfl (c8 (d6 (i4 (b6 rfl ?_))))); refine k6 rfl j9 rfl (b6 rfl (k6 rfl j9 rfl ?_)); refine M8 rfl rfl rfl (c8 ?_)
 first | refine k9 rfl (fun hb1 => ?_) (fun hb1 => ?_) | refine j0 rfl (fun hb1 => ?_) (fun hb1 => ?_)
 ·have hb1' := hb1; try simp at hb1'
  have hb1 : ¬ a = b := fun e => by subst e; exact hb1 rfl
  refine i4 (c5 rfl (c8 (E9 ?_))); exact ret1 () rfl (by rw [decide_eq_false hb1]; rfl) rfl tK (.refl _) tK
 have hb1' := hb1; try simp at hb1'
 have hb1 : a.length = b.length := by omega
 refine i8 (i1 (d6 (i4 (b6 rfl ?_)))); refine k6 rfl j9 rfl ?_; refine b6 rfl (c8 (j5 ?_)); refine u6 (β := Nat) ⟨fun k => k ≤ a.length ∧ a.take k = b.take k, fun k => [(0, .slice A a.length ca), (1, .slice B b.length cb), (12, int a.length), (13, int k)], fun _ => [], fun _ => [Row A (rows a), Row B (rows b)]⟩ (fun k => a.length - k) 0 ⟨Nat.zero_le _, rfl⟩ mC (.refl _) ⟨m0, m1, tK⟩ fun k hk => ?_; obtain ⟨hk, ht⟩ := hk; refine i4 (B5 rfl rfl rfl (c8 (d6 ?_)))
 first | refine k9 rfl (fun hb2 => ?_) (fun hb2 => ?_) | refine j0 rfl (fun hb2 => ?_) (fun hb2 => ?_)
 ·have hb2' := hb2; try simp at hb2'
  have hb2 : k < a.length := by omega
  refine i8 (i1 (d6 (j5 (i4 (b6 rfl (c5 rfl (c8 (d6 ?_)))))))); refine C0 8 mixed (by decide) (by decide) rfl rfl (r7 rfl (r7 rfl (k8 (fun w1 => m7 (α := Str) _ _ rfl j9 j6 rfl rfl rfl mB rfl (by omega) (by decide) (q_z rfl)) (k8 (fun w1 => a7 rfl a9 rfl (b7 mB (b4 (by omega) rfl)) (q_z rfl)) (r7 rfl (r7 rfl (k8 (fun w1 => m7 (α := Str) _ _ rfl j9 j6 rfl rfl rfl mB rfl (by omega) (by decide) (q_z rfl)) (k8 (fun w1 => a7 rfl a9 rfl (b7 mB (b4 (by omega) rfl)) (q_z rfl)) ?_)))))))); refine v7 ⟨rfl, ?_⟩; refine iK rfl rfl rfl (c8 ?_)
  first | refine k9 rfl (fun hb3 => ?_) (fun hb3 => ?_) | refine j0 rfl (fun hb3 => ?_) (fun hb3 => ?_)
  ·have hb3' := hb3; try simp at hb3'
   have hb3 : ¬ a = b := nx9 (a := a) (b := b) (k := k) hb3; refine i4 (c5 rfl (c8 (l4 (B7 (u5 (B7 ?_)))))); exact ret1 () rfl (by rw [decide_eq_false hb3]; rfl) rfl tK (.refl _) tK
  have hb3' := hb3; try simp at hb3'
  have hb3 : a.getD k default = b.getD k default := Classical.not_not.1 hb3; refine i8 (w6 (i1 (c9 ?_))); refine t5 _ rfl rfl rfl rfl q6 ?_; refine b6 rfl (b5 ?_); exact again _ (k + 1) ⟨by omega, by rw [D6 a k hb2, D6 b k (by omega), ht, hb3]⟩ (by first | omega | (simp only; omega)) mC (.refl _) ⟨m0, m1, tK⟩
 have hb2' := hb2; try simp at hb2'
 have hb2 : k = a.length := by omega
 refine t7 (C7 (t8 (i1 (i4 (c5 rfl (c8 (l4 ?_))))))); exact ret1 () rfl (by rw [decide_eq_true (nP ht (by omega) (by omega))]; rfl) rfl tK (.refl _) tK
theorem zG {A B : Option Addr} {ca cb : Nat} (a b : List Cl) (ha : a.length ≤ 1000000) :
    Meets prog gO [.slice A a.length ca, .slice B b.length cb] { LI := [Row A (rows a), Row B (rows b)], val := fun _ : Unit => .bool (decide (a = b)) } := by
 refine j3 bq6 rfl v8 fun w0 => ?_; refine i4 (c5 rfl (c8 (d6 (i4 (b6 rfl ?_))))); refine k6 rfl X0 rfl (b6 rfl (k6 rfl X0 rfl ?_)); refine M8 rfl rfl rfl (c8 ?_)
 first | refine k9 rfl (fun hb1 => ?_) (fun hb1 => ?_) | refine j0 rfl (fun hb1 => ?_) (fun hb1 => ?_)
 ·have hb1' := hb1; try simp at hb1'
  have hb1 : ¬ a = b := fun e => by subst e; exact hb1 rfl
  refine i4 (c5 rfl (c8 (E9 ?_))); exact ret1 () rfl (by rw [decide_eq_false hb1]; rfl) rfl tK (.refl _) tK
 have hb1' := hb1; try simp at hb1'
 have hb1 : a.length = b.length := by omega
 refine i8 (i1 (d6 (i4 (c5 rfl (c8 (j5 ?_)))))); refine u6 (β := Nat) ⟨fun k => k ≤ a.length ∧ a.take k = b.take k, fun k => [(0, .slice A a.length ca), (1, .slice B b.length cb), (5, int k)], fun _ => [], fun _ => [Row A (rows a), Row B (rows b)]⟩ (fun k => a.length - k) 0 ⟨Nat.zero_le _, rfl⟩ mC (.refl _) ⟨m0, m1, tK⟩ fun k hk => ?_; obtain ⟨hk, ht⟩ := hk; refine d6 (i4 (b6 rfl (b6 rfl ?_))); refine k6 rfl X0 rfl ?_; refine B5 rfl rfl rfl (c8 ?_)
 first | refine k9 rfl (fun hb2 => ?_) (fun hb2 => ?_) | refine j0 rfl (fun hb2 => ?_) (fun hb2 => ?_)
 ·have hb2' := hb2; try simp at hb2'
  have hb2 : k < a.length := by omega
  refine i8 (i1 (d6 (j5 (d6 ?_)))); refine C0 8 mixed (by decide) (by decide) rfl rfl (r7 rfl (r7 rfl (k8 (fun w1 => m7 (α := Cl) _ _ rfl X0 dN rfl rfl rfl mB rfl (by omega) (by decide) (q_z rfl)) (k8 (fun w1 => z8 rfl rX dN rfl rfl (v9 mB (B3 (by omega))) (q_z rfl)) (r7 rfl (r7 rfl (k8 (fun w1 => m7 (α := Cl) _ _ rfl X0 dN rfl rfl rfl mB rfl (by omega) (by decide) (q_z rfl)) (k8 (fun w1 => z8 rfl rX dN rfl rfl (v9 mB (B3 (by omega))) (q_z rfl)) ?_)))))))); refine v7 ⟨rfl, ?_⟩; refine R7 _ rfl rfl rfl (fun _ => cj2 ..) (fun _ => cj0 ..) (c8 ?_)
  first | refine k9 rfl (fun hb3 => ?_) (fun hb3 => ?_) | refine j0 rfl (fun hb3 => ?_) (fun hb3 => ?_)
  ·have hb3' := hb3; try simp at hb3'
   have hb3 : ¬ a = b := nx9 (a := a) (b := b) (k := k) hb3; refine i4 (c5 rfl (c8 (l4 (B7 (u5 (B7 ?_)))))); exact ret1 () rfl (by rw [decide_eq_false hb3]; rfl) rfl tK (.refl _) tK
  have hb3' := hb3; try simp at hb3'
  have hb3 : a.getD k default = b.getD k default := Classical.not_not.1 hb3; refine i8 (w6 (i1 (c9 (b6 rfl ?_)))); refine t5 _ rfl rfl rfl rfl q6 ?_; refine c5 rfl (b5 ?_); exact again _ (k + 1) ⟨by omega, by rw [D6 a k hb2, D6 b k (by omega), ht, hb3]⟩ (by first | omega | (simp only; omega)) mC (.refl _) ⟨m0, m1, tK⟩
 have hb2' := hb2; try simp at hb2'
 have hb2 : k = a.length := by omega
 refine t7 (C7 (t8 (i1 (i4 (c5 rfl (c8 (l4 ?_))))))); exact ret1 () rfl (by rw [decide_eq_true (nP ht (by omega) (by omega))]; rfl) rfl tK (.refl _) tK
def FromInv (lo hi z : Int) : Prop := lo ≤ z ∧ (lo < hi → z ≤ hi) ∧ (hi ≤ lo → z = lo)
def sortsL : List Str := [[102, 111, 111, 100], [98, 114, 101, 97, 100], [99, 108, 111, 116, 104], [104, 97, 116, 115], [119, 111, 111, 100], [105, 114, 111, 110], [98, 101, 101, 114], [105, 110], [115, 101, 101]]
def callingsL : List Str := [[98, 97, 107, 101, 114], [98, 97, 107, 101, 114, 115], [98, 111, 110, 110, 101, 116, 115], [98, 114, 101, 119, 101, 114], [98, 114, 117, 115, 104, 101, 115], [98, 117, 116, 99, 104, 101, 114], [99, 97, 110, 100, 108, 101, 115], [99, 111, 111, 112, 101, 114], [99, 111, 111, 112, 101, 114, 115], [99, 117, 116, 108, 101, 114], [104, 97, 116, 116, 101, 114], [104, 111, 115, 105, 101, 114], [109, 101, 114, 99, 101, 114], [109, 105, 108, 108, 105, 110, 101, 114], [116, 97, 105, 108, 111, 114], [116, 97, 110, 110, 101, 114]]
theorem zF {A : Option Addr} {c : Nat} (nums : List Int) : Meets prog mM [.slice A nums.length c] { LI := [Row A (rows nums)], val := fun g : Nat => .pointer (d9 g), hpO := fun g => [dice g A c nums (0, 11400714819323198485)] } := by
 refine j3 bq5 rfl v8 fun w0 => ?_; refine i4 (c5 rfl (t6 (b6 rfl ?_))); refine u0 _ rfl rfl (fun _ => kU ..) (O3 rfl rfl fun gB => ?_); refine c5 rfl (c8 (l4 ?_)); exact ret1 gB rfl rfl rfl tK (.refl _) tK
theorem kJ {g : Nat} {A : Option Addr} {c : Nat} {nums : List Int} {s : Int × Int} (lo hi : Int) (hn : nums.length ≤ 9223372036854775807) (hs : DOK nums s) (hI : -1000 ≤ lo ∧ lo ≤ 1000 ∧ -1000 ≤ hi ∧ hi ≤ 1000) :
    Meets prog jC [.pointer (d9 g), int lo, int hi] (diceCon g A c nums s (FromInv lo hi) (fun z => int z) (fun _ => [])) := by
 refine j3 xS rfl v8 fun w0 => ?_; refine i4 (c5 rfl (t6 (b6 rfl (b6 rfl (b6 rfl (b6 rfl ?_)))))); refine P9 _ rfl rfl rfl rfl q6 (j4 P5 rfl rfl (P3 (hi - lo) hn hs (by omega)) (.refl _) ⟨m0, tK⟩ fun x hx => ?_); obtain ⟨s1, z⟩ := x; obtain ⟨hs1, hz⟩ := hx; simp only [ToInv] at hz
 have hz1 : 0 ≤ z ∧ z ≤ 2000 := by
   refine ⟨hz.1, ?_⟩
   by_cases h1 : 1 ≤ hi - lo
   · have := hz.2.1 h1; omega
   have := hz.2.2 (by omega); omega
 refine t5 (lo + z) rfl rfl rfl rfl q6 ?_; refine c5 rfl (c8 (l4 ?_)); exact ret1 (s1, lo + z) rfl rfl rfl ⟨hs1, by simp only; omega, fun h => by have := hz.2.1 (by omega); simp only; omega, fun h => by have := hz.2.2 (by omega); simp only; omega⟩ (.refl _) tK
theorem rY : Meets prog rT [] { val := fun g : Nat => .slice (d9 g) 9 9, LO := fun g => [Row (d9 g) (rows sortsL)] } := by
 refine j3 dq8 rfl v8 fun w0 => ?_; refine i4 (c5 rfl (t6 ?_)); refine n7 _ rfl rfl (fun _ => gz3 ..) fun gS => ?_; refine c5 rfl (c8 (l4 ?_)); refine R8 (rows sortsL) (List.prefix_refl _) ?_; exact ret1 gS rfl rfl rfl tK nK ⟨m0, tK⟩
theorem lL : Meets prog jX [] { val := fun g : Nat => .slice (d9 g) 16 16, LO := fun g => [Row (d9 g) (rows callingsL)] } := by
 refine j3 zV rfl v8 fun w0 => ?_; refine i4 (c5 rfl (t6 ?_)); refine n7 _ rfl rfl (fun _ => dz1 ..) fun gS => ?_; refine c5 rfl (c8 (l4 ?_)); refine R8 (rows callingsL) (List.prefix_refl _) ?_; exact ret1 gS rfl rfl rfl tK nK ⟨m0, tK⟩
abbrev rngI (n : Nat) : List Int := (List.range n).map fun i : Nat => (i : Int)
theorem uU (n : Nat) : (rngI n).length = n := by simp
theorem ix2 (n : Nat) : rngI (n + 1) = rngI n ++ [(n : Int)] := by unfold rngI; rw [List.range_succ, List.map_append]; rfl
theorem pq6 {e : TypeId} {g n cap : Nat} {xs : List Value} {cur : Array Value} (hG : Grow e 1 (d9 g) n cap xs [(g, Obj.cells cur e (0, 0))]) (hn : 0 < n) : n ≤ cap ∧ cap ≤ maxLen ∧ cur.size = cap * 1 ∧ cur.toList.take (n * 1) = xs := by
  obtain ⟨g', cur', e1, e2, h1, h2, h3, h4, _⟩ := hG.open_ hn
  cases e1
  injection e2 with e2 _
  injection e2 with _ e2
  injection e2 with e2 _ _
  subst e2; exact ⟨h1, h2, h3, h4⟩
theorem cx4 {cur : Array Value} {l : List Int} {i : Nat} (h : cur.toList.take (l.length * 1) = rows l) (hi : i < l.length) : cur[0 + i * 1]? = some (int (l.getD i default)) := by
  have h1 : (rows l)[i * 1]? = some (int (l.getD i default)) := b4 hi rfl; rw [← h, List.getElem?_take, if_pos (by omega)] at h1; rw [Nat.zero_add, ← Array.getElem?_toList]; exact h1
theorem lz2 {l : List Int} {i j : Nat} (hi : i < l.length) (hj : j < l.length) : ((l.set i (l.getD j default)).set j (l.getD i default)).Perm l := by
  rw [B8 hi, B8 hj]; exact List.set_set_perm hi hj
set_option maxHeartbeats 1000000 in
theorem jM {g : Nat} {A : Option Addr} {c : Nat} {nums : List Int} {s : Int × Int} (n : Nat) (hn : nums.length ≤ 9223372036854775807) (hs : DOK nums s) (hI : n ≤ 100) :
    Meets prog gQ [.pointer (d9 g), int n] (diceCon g A c nums s (fun x : List Int × OutC => x.1.Perm (rngI n) ∧ x.1.length ≤ x.2.2) (fun x => .slice x.2.1 x.1.length x.2.2) (fun x => [Row x.2.1 (rows x.1)])) := by
 refine j3 vY rfl v8 fun w0 => ?_; refine i4 (c5 rfl (t6 (c5 rfl (c8 (Y7 ?_))))); refine c9 (c5 rfl (c8 (j5 ?_))); refine u6 (β := Nat × OutC × Hp) ⟨fun x => x.1 ≤ n ∧ Grow aU 1 x.2.1.1 x.1 x.2.1.2 (rows (rngI x.1)) x.2.2, fun x => [(0, .pointer (d9 g)), (1, int n), (5, .slice x.2.1.1 x.1 x.2.1.2), (6, int x.1)], fun x => x.2.2 ++ [dice g A c nums s], fun _ => [Row A (rows nums)]⟩ (fun x => n - x.1) (0, (none, 0), []) ⟨Nat.zero_le _, Grow.nil _ _⟩ mC (List.Sublist.refl _) mC fun x hx => ?_; obtain ⟨k, ⟨na, nc⟩, og⟩ := x; obtain ⟨hk, hG⟩ := hx; simp only at hk hG; refine d6 (i4 (b6 rfl (b6 rfl (B5 rfl rfl rfl (c8 ?_)))))
 first | refine k9 rfl (fun hb1 => ?_) (fun hb1 => ?_) | refine j0 rfl (fun hb1 => ?_) (fun hb1 => ?_)
 ·have hb1' := hb1; try simp at hb1'
  have hk2 : k < n := by omega
  refine i8 (i1 (d6 (j5 (c9 (b6 rfl (b6 rfl ?_)))))); refine n7 _ rfl rfl (fun _ => J5 ..) fun gS => D2 (rows [(k : Int)]) (List.prefix_refl _) ?_; refine E3 (k + 1) (rows (rngI k ++ [(k : Int)])) cK rfl rfl rfl hG (.refl _) (Src.row (news := rows [(k : Int)]) (m := 1) m0 rfl (E8 _) (by decide)) rfl (A1 _ _).symm (by unfold maxLen; omega) (by omega) fun A' c' og' hG' => ?_; refine c5 rfl (b5 (w6 (i1 (c9 (b6 rfl ?_))))); refine t5 _ rfl rfl rfl rfl q6 ?_; refine c5 rfl (b5 ?_); exact again _ (k + 1, (A', c'), og') ⟨by show k + 1 ≤ n; omega, by show Grow _ _ _ _ _ (rows (rngI (k + 1))) _; rw [ix2]; exact hG'⟩ (y8 (by omega)) mC (List.Sublist.refl _) mC
 have hb1' := hb1; try simp at hb1'
 have hk2 : k = n := by omega
 subst hk2; refine t7 (C7 (t8 (i1 (d6 (i4 (b6 rfl ?_)))))); refine P9 _ rfl rfl rfl rfl q6 ?_; refine c5 rfl (c8 (j5 ?_)); refine u6 (β := (Int × Int) × List Int × Nat × Hp) ⟨fun x => DOK nums x.1 ∧ x.2.1.Perm (rngI k) ∧ x.2.2.1 ≤ k ∧ Grow aU 1 na k nc (rows x.2.1) x.2.2.2, fun x => [(0, .pointer (d9 g)), (5, .slice na k nc), (7, int ((x.2.2.1 : Int) - 1))], fun x => x.2.2.2 ++ [dice g A c nums x.1], fun _ => [Row A (rows nums)]⟩ (fun x => x.2.2.1) (s, rngI k, k, og) ⟨hs, .refl _, Nat.le_refl _, hG⟩ mC (List.Sublist.refl _) mC fun x hx => ?_; clear hG; obtain ⟨s, l, m, og⟩ := x; obtain ⟨hs, hP, hm, hG⟩ := hx; simp only at hs hP hm hG; have hll : l.length = k := by rw [hP.length_eq, uU]
 refine d6 (i4 (b6 rfl (Q0 rfl rfl rfl (c8 ?_))))
 first | refine k9 rfl (fun hb2 => ?_) (fun hb2 => ?_) | refine j0 rfl (fun hb2 => ?_) (fun hb2 => ?_)
 ·have hb2' := hb2; try simp at hb2'
  obtain ⟨i, rfl⟩ : ∃ i, m = i + 1 := ⟨m - 1, by omega⟩; have hi1 : (((i + 1 : Nat) : Int) - 1) = (i : Int) := by omega
  obtain ⟨gd, cur, e1, e2, hnc, hcm, hcs, hct, _⟩ := hG.open_ (by omega); subst e1; subst e2; rw [← hll] at hct; refine i8 (i1 (d6 (j5 (i4 (b6 rfl ?_))))); refine qX (v := int (i : Int)) rfl (congrArg (fun z => some (int z)) hi1) ?_; refine j4 P5 rfl rfl (P3 (i : Int) hn hs (by omega)) (.swap _ _ _) mC fun x hx => ?_; obtain ⟨s1, z⟩ := x; obtain ⟨hs1, hz⟩ := hx; simp only [ToInv] at hz; obtain ⟨j, rfl⟩ := Int.eq_ofNat_of_zero_le hz.1
  have hj : j ≤ i := by
    by_cases h1 : 1 ≤ (i : Int)
    · have := hz.2.1 h1; omega
    have := hz.2.2 (by omega); omega
  refine c5 rfl (t6 (b6 rfl ?_)); refine qX (v := int (i : Int)) rfl (congrArg (fun z => some (int z)) hi1) ?_; refine B4 i (0 + i * 1) rfl A8 E1 rfl rfl rfl (by omega) rfl (a7 (v := int (l.getD i default)) rfl a8 rfl (i2 mB (cx4 hct (by omega))) ?_); refine c5 rfl (t6 (b6 rfl ?_)); refine qX (v := int (i : Int)) rfl (congrArg (fun z => some (int z)) hi1) ?_; refine b6 rfl (b6 rfl ?_); refine B4 j (0 + j * 1) rfl A8 E1 rfl rfl rfl (by omega) rfl (a7 (v := int (l.getD j default)) rfl a8 rfl (i2 mB (cx4 hct (by omega))) (B4 i i rfl A8 E1 rfl rfl rfl (by omega) (by omega) ?_)); refine C8 rfl rfl (.swap _ _ _) E1 (by have := cx4 hct (show i < l.length by omega); rw [Nat.zero_add, Nat.mul_one] at this; exact this) (by rfl) ?_; have hG1 := Grow.set (e := aU) (g := gd) (l := l) (k := i) (a := l.getD j default) rfl rfl (by omega) hcm hcs hct; rw [hll] at hG1; have hc1 := (pq6 hG1 (by omega)).2.2; have hl1 : (l.set i (l.getD j default)).length = l.length := List.length_set ..; rw [← hll, ← hl1] at hc1; refine c8 (c9 (b6 rfl (b6 rfl (b6 rfl ?_)))); refine B4 j j rfl A8 E1 rfl rfl rfl (by omega) (by omega) ?_; refine C8 rfl rfl (.refl _) E1 (by have := cx4 hc1.2 (show j < _ by omega); rw [Nat.zero_add, Nat.mul_one] at this; exact this) (by rfl) ?_; have hG2 := Grow.set (e := aU) (g := gd) (l := l.set i (l.getD j default)) (k := j) (a := l.getD i default) rfl rfl (by omega) hcm hc1.1 hc1.2; rw [hl1, hll] at hG2; refine b5 (w6 (i1 (c9 ?_))); refine qX (v := int (i : Int)) rfl (congrArg (fun z => some (int z)) hi1) ?_; refine P9 ((i : Int) - 1) rfl rfl rfl (by omega) q6 ?_; refine c5 rfl (b5 ?_); exact again _ (s1, (l.set i (l.getD j default)).set j (l.getD i default), i, [_]) ⟨hs1, (lz2 (by omega) (by omega)).trans hP, by show i ≤ k; omega, hG2⟩ (by show i < i + 1; omega) mC (List.Sublist.refl _) mC
 have hb2' := hb2; try simp at hb2'
 refine t7 (C7 (t8 (i1 (i4 (b6 rfl (c5 rfl (c8 (l4 ?_)))))))); refine lM hG ?_; exact ret1 (s, l, (na, nc)) rfl (by show some (Value.slice na k nc) = some (Value.slice na l.length nc); rw [hll]) rfl ⟨hs, hP, by show l.length ≤ nc; rw [hll]; exact hG.le⟩ (List.Sublist.refl _) ⟨m0, tK⟩
theorem hq7 {α : Type} [Inhabited α] {l : List α} {k : Nat} {s : α} (hk : k < l.length) (h : s ∉ l.take k) (h1 : ¬ s = l.getD k default) : s ∉ l.take (k + 1) := by
  rw [D6 l k hk]; simp only [List.mem_append, List.mem_singleton, not_or]; exact ⟨h, h1⟩
def AtInv (l : List Int) (s z : Int) : Prop := (0 ≤ z ↔ s ∈ l) ∧ (s ∈ l → ∀ k : Nat, z < (k : Int) ↔ s ∈ l.take k)
theorem pz3 {l : List Int} {k : Nat} {s : Int} (hk : k < l.length) (hb : l.getD k default = s) (ht : s ∉ l.take k) : AtInv l s (k : Int) := by
  refine ⟨⟨fun _ => hb ▸ w8 hk, fun _ => by omega⟩, fun _ j => ⟨fun h => ?_, fun h => ?_⟩⟩
  · have h1 : s ∈ l.take (k + 1) := by rw [D6 l k hk, hb]; simp
    exact List.take_subset_take_left l (by omega) h1
  rcases Nat.lt_or_ge k j with h2 | h2
  · omega
  exact absurd (List.take_subset_take_left l h2 h) ht
theorem at_none {l : List Int} {s : Int} (ht : s ∉ l) : AtInv l s (-1) := ⟨⟨fun h => by omega, fun h => absurd h ht⟩, fun h => absurd h ht⟩
def partL (o : List Int) (m n : Nat) : List Int := (rngI n).filter fun v => decide (v ∈ o.take m)
theorem qZ (o : List Int) (m n : Nat) : partL o m (n + 1) = if (n : Int) ∈ o.take m then partL o m n ++ [(n : Int)] else partL o m n := by
  unfold partL; rw [ix2, List.filter_append]
  by_cases h : (n : Int) ∈ o.take m <;> simp [h]
theorem mj3 (o : List Int) (m n : Nat) : (partL o m n).Pairwise (· < ·) := by
  unfold partL rngI; refine List.Pairwise.filter _ (List.pairwise_map.2 (List.pairwise_lt_range.imp fun h => ?_))
  omega
theorem nx5 {o : List Int} {m n : Nat} {v : Int} (h : v ∈ partL o m n) : 0 ≤ v ∧ v < (n : Int) := by
  unfold partL rngI at h; have h1 := (List.mem_filter.1 h).1; obtain ⟨i, hi, rfl⟩ := List.mem_map.1 h1; have := List.mem_range.1 hi
  omega
theorem kj0 (o : List Int) (m n : Nat) : (partL o m n).length ≤ n := by
  unfold partL; have := List.length_filter_le (fun v => decide (v ∈ o.take m)) (rngI n); rw [uU] at this; exact this
theorem mj2 {o : List Int} {m n : Nat} (h : o.Perm (rngI n)) : (partL o m n).length ≤ m := by
  have hn : o.Nodup := h.nodup_iff.2 (by unfold rngI List.Nodup; exact List.pairwise_map.2 (List.pairwise_lt_range.imp fun h => by omega)); unfold partL; rw [(h.symm.filter _).length_eq]; have e : o.filter (fun v => decide (v ∈ o.take m)) = (o.take m).filter (fun v => decide (v ∈ o.take m)) ++ (o.drop m).filter (fun v => decide (v ∈ o.take m)) := by rw [← List.filter_append, List.take_append_drop]
  have hd := (List.nodup_append.1 ((List.take_append_drop m o).symm ▸ hn : (o.take m ++ o.drop m).Nodup)).2.2
  have h0 : (o.drop m).filter (fun v => decide (v ∈ o.take m)) = [] := List.filter_eq_nil_iff.2 fun a ha => by
    rw [decide_eq_true_eq]; exact fun h => hd a h a ha rfl
  rw [e, h0, List.append_nil]; exact Nat.le_trans (List.length_filter_le _ _) (by rw [List.length_take]; omega)
theorem cj5 {A : Option Addr} {c : Nat} (l : List Int) (s : Int) (hl : l.length ≤ 1000000) : Meets prog rU [.slice A l.length c, int s] { LI := [Row A (rows l)], inv := fun z : Int => AtInv l s z, val := fun z => int z } := by
 refine j3 dq9 rfl v8 fun w0 => ?_; refine i4 (c5 rfl (c8 (d6 (i4 (c5 rfl (c8 (j5 ?_))))))); refine u6 (β := Nat) ⟨fun k => k ≤ l.length ∧ s ∉ l.take k, fun k => [(0, .slice A l.length c), (1, int s), (5, int k)], fun _ => [], fun _ => [Row A (rows l)]⟩ (fun k => l.length - k) 0 ⟨Nat.zero_le _, by simp⟩ mC (.refl _) ⟨m0, tK⟩ fun k hk => ?_; obtain ⟨hk, ht⟩ := hk; refine d6 (i4 (b6 rfl (b6 rfl ?_))); refine k6 rfl A8 rfl ?_; refine B5 rfl rfl rfl (c8 ?_)
 first | refine k9 rfl (fun hb1 => ?_) (fun hb1 => ?_) | refine j0 rfl (fun hb1 => ?_) (fun hb1 => ?_)
 ·have hb1' := hb1; try simp at hb1'
  have hk2 : k < l.length := by omega
  refine i8 (i1 (d6 (j5 (i4 (b6 rfl (b6 rfl ?_)))))); refine m7 (α := Int) _ _ rfl A8 E1 rfl rfl rfl mB rfl (by omega) (by decide) (a7 rfl a8 rfl (b7 mB (b4 (by omega) rfl)) ?_); refine b6 rfl (J0 rfl rfl rfl (c8 ?_))
  first | refine k9 rfl (fun hb2 => ?_) (fun hb2 => ?_) | refine j0 rfl (fun hb2 => ?_) (fun hb2 => ?_)
  ·have hb2' := hb2; try simp at hb2'
   refine i4 (b6 rfl (c5 rfl (c8 (l4 (B7 (u5 (B7 ?_))))))); exact ret1 (k : Int) rfl rfl rfl (pz3 hk2 hb2 ht) (.refl _) tK
  have hb2' := hb2; try simp at hb2'
  refine i8 (w6 (i1 (c9 (b6 rfl ?_)))); refine t5 _ rfl rfl rfl rfl q6 ?_; refine c5 rfl (b5 ?_); exact again _ (k + 1) ⟨by omega, hq7 hk2 ht (fun e => hb2 e.symm)⟩ (y8 (by omega)) mC (.refl _) ⟨m0, tK⟩
 have hb1' := hb1; try simp at hb1'
 have hk2 : k = l.length := by omega
 subst hk2; rw [List.take_length] at ht; refine t7 (C7 (t8 (i1 (i4 (c5 rfl (c8 (l4 ?_))))))); exact ret1 (-1) rfl rfl rfl (at_none ht) (.refl _) tK
set_option maxHeartbeats 1000000 in
theorem ax9 {g : Nat} {A : Option Addr} {c : Nat} {nums : List Int} {s : Int × Int} (n m : Nat) (hn : nums.length ≤ 9223372036854775807) (hs : DOK nums s) (hI : n ≤ 100 ∧ m ≤ 100) :
    Meets prog pK [.pointer (d9 g), int n, int m] (diceCon g A c nums s (fun x : List Int × OutC => (x.1.Pairwise (· < ·) ∧ ∀ v ∈ x.1, 0 ≤ v ∧ v < (n : Int)) ∧ x.1.length ≤ m ∧ x.1.length ≤ x.2.2) (fun x => .slice x.2.1 x.1.length x.2.2) (fun x => [Row x.2.1 (rows x.1)])) := by
 refine j3 cq3 rfl v8 fun w0 => ?_; refine i4 (c5 rfl (t6 (b6 rfl (b6 rfl ?_)))); refine j4 jO rfl rfl (jM n hn hs hI.1) t4 mC fun x hx => ?_; obtain ⟨s1, o, oa, oc⟩ := x; obtain ⟨hs1, hP, hoc⟩ := hx; simp only at hP hoc; have hol : o.length = n := by rw [hP.length_eq, uU]
 refine c5 rfl (t6 (c5 rfl (c8 (d6 (i4 (c5 rfl ?_)))))); refine c8 (j5 ?_); refine u6 (β := Nat × OutC × Hp) ⟨fun x => x.1 ≤ n ∧ Grow aU 1 x.2.1.1 (partL o m x.1).length x.2.1.2 (rows (partL o m x.1)) x.2.2, fun x => [(1, int n), (2, int m), (7, .slice oa o.length oc), (8, .slice x.2.1.1 (partL o m x.1).length x.2.1.2), (9, int x.1)], fun x => x.2.2 ++ [dice g A c nums s1], fun _ => [Row oa (rows o)]⟩ (fun x => n - x.1) (0, (none, 0), []) ⟨Nat.zero_le _, Grow.nil _ _⟩ mC (List.Sublist.refl _) mC fun x hx => ?_; obtain ⟨k, ⟨na, nc⟩, og⟩ := x; obtain ⟨hk, hG⟩ := hx; simp only at hk hG; have hpl := kj0 o m k; refine d6 (i4 (b6 rfl (b6 rfl (B5 rfl rfl rfl (c8 ?_)))))
 first | refine k9 rfl (fun hb1 => ?_) (fun hb1 => ?_) | refine j0 rfl (fun hb1 => ?_) (fun hb1 => ?_)
 ·have hb1' := hb1; try simp at hb1'
  have hk2 : k < n := by omega
  have hmem : (k : Int) ∈ o := hP.mem_iff.2 (List.mem_map.2 ⟨k, List.mem_range.2 hk2, rfl⟩); refine i8 (i1 (d6 (j5 (i4 (b6 rfl (b6 rfl ?_)))))); refine j4 cq4 rfl rfl (cj5 o (k : Int) (by omega)) t4 mC fun z hz => ?_; refine c5 rfl (t6 (b6 rfl (b6 rfl (B5 rfl rfl rfl (c8 ?_)))))
  first | refine k9 rfl (fun hb2 => ?_) (fun hb2 => ?_) | refine j0 rfl (fun hb2 => ?_) (fun hb2 => ?_)
  ·have hb2' := hb2; try simp at hb2'
   have hin := (hz.2 hmem m).1 hb2; refine c9 (b6 rfl (b6 rfl ?_)); refine n7 _ rfl rfl (fun _ => J5 ..) fun gS => D2 (rows [(k : Int)]) (List.prefix_refl _) ?_; refine E3 ((partL o m k).length + 1) (rows (partL o m k ++ [(k : Int)])) cK rfl rfl rfl hG (.refl _) (Src.row (news := rows [(k : Int)]) (m := 1) m0 rfl (E8 _) (by decide)) rfl (A1 _ _).symm (by unfold maxLen; omega) (by omega) fun A' c' og' hG' => ?_; refine c5 rfl (b5 (w6 (i1 (c9 (b6 rfl ?_))))); refine t5 _ rfl rfl rfl rfl q6 ?_; refine c5 rfl (b5 ?_); exact again _ (k + 1, (A', c'), og') ⟨by show k + 1 ≤ n; omega, by show Grow _ _ _ (partL o m (k + 1)).length _ (rows (partL o m (k + 1))) _; rw [qZ, if_pos hin, List.length_append]; exact hG'⟩ (y8 (by omega)) ⟨rfl, rfl, rfl, by show some (Value.slice A' ((partL o m k).length + 1) c') = some (Value.slice A' (partL o m (k + 1)).length c'); rw [qZ, if_pos hin, List.length_append]; rfl, rfl, tK⟩ (List.Sublist.refl _) mC
  have hb2' := hb2; try simp at hb2'
  have hin := mt (hz.2 hmem m).2 hb2; refine i8 (w6 (i1 (c9 (b6 rfl ?_)))); refine t5 _ rfl rfl rfl rfl q6 ?_; refine c5 rfl (b5 ?_); exact again _ (k + 1, (na, nc), og) ⟨by show k + 1 ≤ n; omega, by show Grow _ _ _ (partL o m (k + 1)).length _ (rows (partL o m (k + 1))) _; rw [qZ, if_neg hin]; exact hG⟩ (y8 (by omega)) ⟨rfl, rfl, rfl, by show some (Value.slice na (partL o m k).length nc) = some (Value.slice na (partL o m (k + 1)).length nc); rw [qZ, if_neg hin], rfl, tK⟩ (List.Sublist.refl _) mC
 have hb1' := hb1; try simp at hb1'
 have hk2 : k = n := by omega
 subst hk2; refine t7 (C7 (t8 (i1 (i4 (b6 rfl (c5 rfl (c8 (l4 ?_)))))))); refine lM hG ?_; exact ret1 (s1, partL o m k, (na, nc)) rfl rfl rfl ⟨hs1, ⟨mj3 o m k, fun v hv => nx5 hv⟩, mj2 hP, hG.le⟩ (List.Sublist.refl _) ⟨m0, tK⟩
theorem O4 {A : Option Addr} {n cp : Nat} (s : Str) (c : Int) : Meets prog uM [str s, int c, .slice A n cp] { val := fun _ : Unit => .agg #[str s, int c, int (-1), .slice A n cp] } := by
 refine j3 dz7 rfl v8 fun w0 => i4 (u4 rfl (fun _ => G9 _) fun gA => ?_); refine t6 (b6 rfl (b6 rfl (b6 rfl ?_))); refine u0 _ rfl rfl (fun _ => dR ..) (l6 rfl rfl X2 l7 (by rfl) (by rfl) ?_); refine c8 (l4 ?_); refine uV () rfl rfl C1 l7 rfl m0 rfl rfl tK nK tK
theorem cE (s : Str) (c : Int) : Meets prog rS [str s, int c] { val := fun _ : Unit => .agg #[str s, int (-1), int c, .slice none 0 0] } := by
 refine j3 dq7 rfl v8 fun w0 => i4 (u4 rfl (fun _ => G9 _) fun gA => ?_); refine t6 (b6 rfl (b6 rfl ?_)); refine u0 _ rfl rfl (fun _ => Z2 ..) (l6 rfl rfl X2 l7 (by rfl) (by rfl) ?_); refine c8 (l4 ?_); refine uV () rfl rfl C1 l7 rfl m0 rfl rfl tK nK tK
def shopsC : List Cl := [([102, 111, 111, 100], -1), ([98, 114, 101, 97, 100], 0), ([99, 108, 111, 116, 104], -1), ([104, 97, 116, 115], 2)]
def shopsH (g1 g2 : Nat) : List Hd := [([98, 97, 107, 101, 114], 1, -1, ⟨none, 0, []⟩), ([98, 111, 110, 110, 101, 116, 115], -1, 3, ⟨none, 0, []⟩), ([99, 111, 110, 102, 101, 99, 116, 105, 111, 110, 101, 114], 0, -1, ⟨some ⟨g1, 0, none⟩, 1, [0]⟩), ([104, 97, 116, 116, 101, 114], 3, -1, ⟨none, 0, []⟩), ([109, 101, 114, 99, 101, 114], 2, -1, ⟨some ⟨g2, 0, none⟩, 1, [3]⟩), ([109, 105, 108, 108, 105, 110, 101, 114], -1, 1, ⟨none, 0, []⟩)]
set_option maxHeartbeats 1000000 in
theorem M2 : Meets prog mG [] { val := fun x : Nat × Nat × Nat × Nat => .agg #[.slice (some ⟨x.1, 0, none⟩) 4 4, .slice (some ⟨x.2.1, 0, none⟩) 6 6], LO := fun x => [Row (some ⟨x.1, 0, none⟩) (rows shopsC), RowsF (some ⟨x.2.1, 0, none⟩) (shopsH x.2.2.1 x.2.2.2) Hd.row] } := by
 refine j3 bq1 rfl v8 fun w0 => ?_; refine i4 ?_; refine u4 rfl (fun _ => D4 _) fun gA => ?_; refine t6 ?_; refine u0 _ rfl rfl (fun _ => M5 ..) ?_; refine u0 _ rfl rfl (fun _ => yO ..) ?_; refine u0 _ rfl rfl (fun _ => M5 ..) ?_; refine u0 _ rfl rfl (fun _ => M5 ..) ?_; refine n7 _ rfl rfl (fun _ => vJ ..) fun gC => ?_; refine D2 (rows shopsC) (List.prefix_refl _) ?_; refine j4 O5 rfl rfl (O4 (A := none) (n := 0) (cp := 0) [98, 97, 107, 101, 114] 1) t4 tK fun _ _ => ?_; refine j4 cI rfl rfl (cE [98, 111, 110, 110, 101, 116, 115] 3) t4 tK fun _ _ => ?_; refine n7 _ rfl rfl (fun _ => J5 ..) fun g1 => ?_; refine D2 (rows [(0 : Int)]) (List.prefix_refl _) ?_; refine j4 O5 rfl rfl (O4 (A := some ⟨g1, 0, none⟩) (n := 1) (cp := 1) [99, 111, 110, 102, 101, 99, 116, 105, 111, 110, 101, 114] 0) t4 tK fun _ _ => ?_; refine j4 O5 rfl rfl (O4 (A := none) (n := 0) (cp := 0) [104, 97, 116, 116, 101, 114] 3) t4 tK fun _ _ => ?_; refine n7 _ rfl rfl (fun _ => J5 ..) fun g2 => ?_; refine D2 (rows [(3 : Int)]) (List.prefix_refl _) ?_; refine j4 O5 rfl rfl (O4 (A := some ⟨g2, 0, none⟩) (n := 1) (cp := 1) [109, 101, 114, 99, 101, 114] 2) t4 tK fun _ _ => ?_; refine j4 cI rfl rfl (cE [109, 105, 108, 108, 105, 110, 101, 114] 1) t4 tK fun _ _ => ?_; refine n7 _ rfl rfl (fun _ => lG ..) fun gH => ?_; refine D2 (rows (shopsH g1 g2)) (List.prefix_refl _) ?_; refine u0 _ rfl rfl (fun _ => tQ ..) ?_; refine l6 rfl rfl X2 c7 (by rfl) (by rfl) ?_; refine c8 (l4 ?_); refine n5 (α := Int) ?_; refine G1 (Fs := (shopsH g1 g2).map Hd.row) (by intro F hF; left; simp only [shopsH, List.map_cons, List.map_nil, List.mem_cons, List.not_mem_nil, or_false] at hF; rcases hF with rfl | rfl | rfl | rfl | rfl | rfl <;> repeat constructor) ?_; refine J7 (A := some ⟨gH, 0, none⟩) (ps := shopsH g1 g2) (f := Hd.row) mB m0 ?_; refine uV (gC, gH, g1, g2) rfl rfl i6 c7 rfl m0 rfl rfl tK nK ⟨mB, m0, tK⟩
def laterH (g : Nat) : List Hd := [([98, 97, 107, 101, 114], 1, -1, ⟨none, 0, []⟩), ([98, 111, 110, 110, 101, 116, 115], -1, 2, ⟨none, 0, []⟩), ([104, 97, 116, 116, 101, 114], 2, -1, ⟨none, 0, []⟩), ([105, 114, 111, 110, 109, 111, 110, 103, 101, 114], 0, -1, ⟨none, 0, []⟩), ([109, 101, 114, 99, 101, 114], 2, -1, ⟨some ⟨g, 0, none⟩, 1, [2]⟩), ([109, 105, 108, 108, 105, 110, 101, 114], -1, 1, ⟨none, 0, []⟩)]
set_option maxHeartbeats 1000000 in
theorem zD : Meets prog mH [] { val := fun x : Nat × Nat × Nat => .agg #[.slice (some ⟨x.1, 0, none⟩) 4 4, .slice (some ⟨x.2.1, 0, none⟩) 6 6], LO := fun x => [Row (some ⟨x.1, 0, none⟩) (rows shopsC), RowsF (some ⟨x.2.1, 0, none⟩) (laterH x.2.2) Hd.row] } := by
 refine j3 bq2 rfl v8 fun w0 => i4 (u4 rfl (fun _ => D4 _) fun g0 => t6 (j4 M4 rfl rfl (M2) t4 tK fun x _ => ?_)); obtain ⟨gC, gH0, gx, gy⟩ := x; refine u4 rfl (fun _ => D4 _) fun g3 => l6 rfl rfl X2 c7 (by rfl) (by rfl) (t6 (j4 O5 rfl rfl (O4 (A := none) (n := 0) (cp := 0) [98, 97, 107, 101, 114] 1) t4 tK fun _ _ => j4 cI rfl rfl (cE [98, 111, 110, 110, 101, 116, 115] 2) t4 tK fun _ _ => j4 O5 rfl rfl (O4 (A := none) (n := 0) (cp := 0) [104, 97, 116, 116, 101, 114] 2) t4 tK fun _ _ => j4 O5 rfl rfl (O4 (A := none) (n := 0) (cp := 0) [105, 114, 111, 110, 109, 111, 110, 103, 101, 114] 0) t4 tK fun _ _ => n7 _ rfl rfl (fun _ => J5 ..) fun g1 => D2 (rows [(2 : Int)]) (List.prefix_refl _) (j4 O5 rfl rfl (O4 (A := some ⟨g1, 0, none⟩) (n := 1) (cp := 1) [109, 101, 114, 99, 101, 114] 2) t4 tK fun _ _ => j4 cI rfl rfl (cE [109, 105, 108, 108, 105, 110, 101, 114] 1) t4 tK fun _ _ => n7 _ rfl rfl (fun _ => lG ..) fun gH => ?_))); refine D2 (rows (laterH g1)) (List.prefix_refl _) ?_
 first | refine a6 ⟨_, 1, none⟩ rfl rfl i3 rfl ?_ | refine a6 _ rfl rfl i3 rfl ?_
 refine C8 rfl rfl X2 V0 (by rfl) (by rfl) (t6 ?_)
 first | refine G3 rfl i6 c7 rfl mB (by rfl) ?_ | refine I3 rfl i6 c7 rfl mB (by rfl) ?_ | refine z8 rfl i6 c7 rfl rfl (v9 mB (B3 (by omega))) ?_
 refine l6 rfl rfl X2 c7 (by rfl) (by rfl) ?_; refine c8 (l4 ?_); refine n5 (α := Int) ?_; refine G1 (Fs := (laterH g1).map Hd.row) (by intro F hF; left; simp only [laterH, List.map_cons, List.map_nil, List.mem_cons, List.not_mem_nil, or_false] at hF; rcases hF with rfl | rfl | rfl | rfl | rfl | rfl <;> repeat constructor) ?_; refine J7 (A := some ⟨gH, 0, none⟩) (ps := laterH g1) (f := Hd.row) mB m0 ?_; refine uV (gC, gH, g1) rfl rfl i6 c7 rfl m0 rfl rfl tK nK ⟨mB, m0, tK⟩
abbrev lsts (ps : List (Sl Int)) : List (List Int) := ps.map (·.l)
theorem tY (ps : List (Sl Int)) : (lsts ps).length = ps.length := List.length_map ..
theorem tX {ps : List (Sl Int)} {k : Nat} (hk : k < ps.length) : (lsts ps).take (k + 1) = (lsts ps).take k ++ [(ps.getD k default).l] := by
  have h1 : k < (lsts ps).length := by simpa using hk
  rw [List.take_succ_eq_append_getElem h1, B8 hk]
  simp
theorem lj2 (ps : List (Sl Int)) {k : Nat} (hk : k < ps.length) : (lsts ps).getD k [] = (ps.getD k default).l := by
  rw [B8 hk]
  simp [List.getD_eq_getElem?_getD, hk]
theorem zH {A B : Option Addr} {ca cb : Nat} (a b : List (Sl Int)) (ha : a.length ≤ 1000000) (hla : ∀ p ∈ a, p.l.length ≤ 1000000) :
    Meets prog gP [.slice A a.length ca, .slice B b.length cb] { LI := [Rows2 A a, Rows2 B b], val := fun _ : Unit => .bool (decide (lsts a = lsts b)) } := by
 refine j3 bq7 rfl v8 fun w0 => ?_; refine i4 (c5 rfl (c8 (d6 (i4 (b6 rfl ?_))))); refine k6 rfl lD rfl (b6 rfl (k6 rfl lD rfl ?_)); refine M8 rfl rfl rfl (c8 ?_)
 first | refine k9 rfl (fun hb1 => ?_) (fun hb1 => ?_) | refine j0 rfl (fun hb1 => ?_) (fun hb1 => ?_)
 ·have hb1' := hb1; try simp at hb1'
  have hb1 : ¬ lsts a = lsts b := fun e => by have := congrArg List.length e; rw [tY, tY] at this; omega
  refine i4 (c5 rfl (c8 (E9 ?_))); exact ret1 () rfl (by rw [decide_eq_false hb1]; rfl) rfl tK (.refl _) tK
 have hb1' := hb1; try simp at hb1'
 have hb1 : a.length = b.length := by omega
 refine jj3 (A := A) (ps := a) m0 (jj3 (A := B) (ps := b) m2 ?_); refine i8 (i1 (d6 (i4 (c5 rfl (c8 (j5 ?_)))))); refine u6 (β := Nat) ⟨fun k => k ≤ a.length ∧ (lsts a).take k = (lsts b).take k, fun k => [(0, .slice A a.length ca), (1, .slice B b.length cb), (5, int k)], fun _ => [], fun _ => [Row B (rows b), Row A (rows a), Rows2 A a, Rows2 B b]⟩ (fun k => a.length - k) 0 ⟨Nat.zero_le _, rfl⟩ mC (.refl _) ⟨m0, m1, m2, m3, tK⟩ fun k hk => ?_; obtain ⟨hk, ht⟩ := hk; refine d6 (i4 (b6 rfl (b6 rfl ?_))); refine k6 rfl lD rfl ?_; refine B5 rfl rfl rfl (c8 ?_)
 first | refine k9 rfl (fun hb2 => ?_) (fun hb2 => ?_) | refine j0 rfl (fun hb2 => ?_) (fun hb2 => ?_)
 ·have hb2' := hb2; try simp at hb2'
  have hk2 : k < a.length := by omega
  have hma := w8 hk2; have hmb := w8 (l := b) (k := k) (by omega); refine i8 (i1 (d6 (j5 (d6 ?_)))); refine C0 8 mixed (by decide) (by decide) rfl rfl (r7 rfl (r7 rfl (k8 (fun w1 => m7 (α := (Sl Int)) _ _ rfl lD qT rfl rfl rfl mB rfl (by omega) (by decide) (q_z rfl)) (k8 (fun w1 => a7 rfl k4 rfl (b7 mB (b4 (by omega) rfl)) (q_z rfl)) (r7 rfl (r7 rfl (k8 (fun w1 => m7 (α := (Sl Int)) _ _ rfl lD qT rfl rfl rfl mB rfl (by omega) (by decide) (q_z rfl)) (k8 (fun w1 => a7 rfl k4 rfl (b7 mB (b4 (by omega) rfl)) (q_z rfl)) ?_)))))))); refine v7 ⟨rfl, ?_⟩; refine jj0 (A := A) (ps := a) (p := a.getD k default) mB hma (jj0 (A := B) (ps := b) (p := b.getD k default) mB hmb ?_); refine j4 jA rfl rfl (iN (a.getD k default).l (b.getD k default).l (by have := hla _ hma; omega)) t4 ⟨m1, m0, tK⟩ fun _ _ => ?_; refine H6 rfl rfl (c8 ?_)
  first | refine k9 rfl (fun hb3 => ?_) (fun hb3 => ?_) | refine j0 rfl (fun hb3 => ?_) (fun hb3 => ?_)
  ·have hb3' := hb3; try simp at hb3'
   have hne : ¬ (a.getD k default).l = (b.getD k default).l := by simpa using hb3'
   have hb3 : ¬ lsts a = lsts b := fun e => hne (by rw [← lj2 a hk2, ← lj2 b (by omega), e]); refine i4 (c5 rfl (c8 (l4 (B7 (u5 (B7 ?_)))))); exact ret1 () rfl (by rw [decide_eq_false hb3]; rfl) rfl tK (.refl _) tK
  have hb3' := hb3; try simp at hb3'
  have hq : (a.getD k default).l = (b.getD k default).l := by simpa using hb3'
  refine i8 (w6 (i1 (c9 (b6 rfl ?_)))); refine t5 _ rfl rfl rfl rfl q6 ?_; refine c5 rfl (b5 ?_); exact again _ (k + 1) ⟨by omega, by rw [tX hk2, tX (by omega), ht, hq]⟩ (y8 (by omega)) mC (.refl _) mC
 have hb2' := hb2; try simp at hb2'
 have hk2 : k = a.length := by omega
 refine t7 (C7 (t8 (i1 (i4 (c5 rfl (c8 (l4 ?_))))))); exact ret1 () rfl (by rw [decide_eq_true (nP ht (by rw [tY]; omega) (by rw [tY]; omega))]; rfl) rfl tK (.refl _) tK
end Go.Proofs.YtdgmfagfpbdbhaaGreatDoor
end
