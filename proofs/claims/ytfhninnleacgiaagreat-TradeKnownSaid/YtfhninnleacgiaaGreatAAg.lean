/- Texts of this claim, one behind another. -/
import Derived.Lib.Bytealg
import Derived.Test.YtfhninnleacgiaaGreatAAd
import Derived.Test.YtfhninnleacgiaaGreatAAf
set_option linter.unusedVariables false
set_option linter.unusedSimpArgs false
section
namespace Go.Proofs.YtfhninnleacgiaaGreat
open Go Go.W
set_option maxRecDepth 20000
attribute [local irreducible] HL HC HQ HB Row Rows2 Blk Facts
def DOK (nums : List Int) (s : Int × Int) : Prop := 0 ≤ s.1 ∧ s.1 ≤ nums.length ∧ 0 ≤ s.2 ∧ s.2 < 18446744073709551616
def ToInv (n z : Int) : Prop := 0 ≤ z ∧ (1 ≤ n → z ≤ n) ∧ (n < 1 → z = 0)
def lineWords : List Str := [[97], [98], [99], [97, 110, 32, 49], [98, 101, 110], [99, 121, 100, 32, 49, 50]]
def PageOK (l : List Str) : Prop := ∀ s ∈ l, s ∈ lineWords
end Go.Proofs.YtfhninnleacgiaaGreat
end
section
namespace Go.Proofs.YtfhninnleacgiaaGreat
open Go Go.W
set_option maxRecDepth 20000
attribute [local irreducible] HL HC HQ HB Row Rows2 Blk Facts
def followE (t : Tr) (h : Int) : Int × Int × Int := if ¬ askE t [h] = 0 then (0, 0, askE t [h]) else if (followT t h).isSome = false then (0, 0, 9) else (((followT t h).getD (0, 0)).1, ((followT t h).getD (0, 0)).2, 0)
theorem P3 {A B : Option Addr} {ca cb : Nat} (cs : List Cl) (hs : List Hd) (h : Int) (hca : cs.length ≤ ca) (hcb : hs.length ≤ cb) (ha : ∀ h ∈ hs, h.2.2.2.l.length ≤ 1000000) : Meets Tryz.prog F.M7 [.agg #[.slice A cs.length ca, .slice B hs.length cb], int h] { LI := [Row A (rows cs), RowsF B hs Hd.row], val := fun _ : Unit => .tuple #[int (followE (trOf cs hs) h).1, int (followE (trOf cs hs) h).2.1, int (followE (trOf cs hs) h).2.2] } := by
 refine i7 F.uM rfl p7 fun w0 => ?_; refine i4 ?_; refine E5 rfl rfl fun gB => ?_; refine b7 rfl (b7 rfl (b7 rfl (d9 ?_))); refine B8 ⟨fun _ : Nat × OutC × OutC => True, fun x => [(1, int h), (2, .pointer (b8 gB)), (7, if askE (trOf cs hs) [h] = 0 then .pointer (some ⟨x.1, 0, none⟩) else .pointer none), (6, int (askE (trOf cs hs) [h]))], fun _ => [(gB, .cells #[.slice A cs.length ca, .slice B hs.length cb] T.i2 (0, 0))], fun x => (if askE (trOf cs hs) [h] = 0 then beginL cs hs A ca B cb x else []) ++ [Row A (rows cs), RowsF B hs Hd.row]⟩ ?_ ?_
 ·skip
  refine b9 ?_
  first | refine u6 rfl T.d6 T.d4 rfl mB (by rfl) ?_ | refine t9 rfl T.d6 T.d4 rfl mB (by rfl) ?_ | refine q6 rfl T.d6 T.d4 rfl rfl (m7 mB (n7 (by omega))) ?_
  refine a8 rfl ?_; refine j4 _ rfl rfl (fun _ => T.v0 ..) fun gS => ?_; refine n0 (rows [h]) (List.prefix_refl _) ?_; refine d5 F.K0 rfl rfl (E7 cs hs [h] hca hcb ha (by simp)) j5 mC fun x _ => ?_; refine a8 rfl (i6 rfl rfl rfl (i6 rfl rfl rfl (b7 rfl (b7 rfl (b3 ?_))))); exact w4 _ x trivial mC (List.Sublist.refl _) (LSub.of_mem fun F hF => (List.mem_append.1 hF).elim (fun h1 => List.mem_append_left _ h1) (fun h2 => List.mem_append_right _ (List.mem_cons_of_mem _ h2)))
 refine fun x _ => ?_
 dsimp only
 refine i1 (i4 (a8 rfl (t3 rfl rfl rfl (d9 ?_))))
 first | refine k8 rfl (fun hb1 => ?_) (fun hb1 => ?_) | refine i5 rfl (fun hb1 => ?_) (fun hb1 => ?_)
 ·have hb1' := hb1; try simp at hb1'
  refine i4 (a8 rfl (b7 rfl (b7 rfl (b7 rfl (d9 (P8 ?_)))))); exact ret3 () rfl rfl rfl rfl (by show Value.tuple #[int (followE (trOf cs hs) h).1, int (followE (trOf cs hs) h).2.1, int (followE (trOf cs hs) h).2.2] = _; rw [followE, if_pos hb1]) rfl trivial nil_sb trivial
 have hb1' := hb1; try simp at hb1'
 have h0 := Classical.not_not.1 hb1; rw [if_pos h0, if_pos h0]; have hch := Q6 h0; have hin := pK h0 (List.mem_singleton.2 rfl); rw [t0] at hin; have hok := Y3 hch; have h6 : cs.length ≤ 6 := hok.c6; have h6h := hok.h6; rw [t0] at h6h; have hcl : ∀ i, i < cs.length → ClsOK cs i := hok.c; obtain ⟨gl, ⟨oa, oc⟩, ⟨ka, kc⟩⟩ := x; have hS := qH hok; show HC _ _ _ _ _ [Row (b8 gl) [.slice A cs.length ca, .slice B hs.length cb, .slice oa cs.length oc, .slice ka hs.length kc], Row oa (rows (masksN cs cs.length)), Row ka (rows (kindsN hs hs.length)), Row A (rows cs), RowsF B hs Hd.row]; refine j3 (g6 (i4 (a8 rfl (a8 rfl ?_)))); refine d5 F.Y1 rfl rfl (Q0 (oa := oa) (oc := oc) (ka := ka) (kc := kc) (gl := gl) cs hs h hin.1 (by omega) (by omega) hS) j5 mC fun _ _ => ?_; refine a8 rfl (i6 (vs := #[int ((followT (trOf cs hs) h).getD (0, 0)).1, int ((followT (trOf cs hs) h).getD (0, 0)).2, .bool (followT (trOf cs hs) h).isSome]) rfl rfl rfl (i6 (vs := #[int ((followT (trOf cs hs) h).getD (0, 0)).1, int ((followT (trOf cs hs) h).getD (0, 0)).2, .bool (followT (trOf cs hs) h).isSome]) rfl rfl rfl (i6 (vs := #[int ((followT (trOf cs hs) h).getD (0, 0)).1, int ((followT (trOf cs hs) h).getD (0, 0)).2, .bool (followT (trOf cs hs) h).isSome]) rfl rfl rfl ?_))); refine b7 rfl (b7 rfl (b7 rfl (d9 (i1 (i4 (a8 rfl (B3 rfl rfl (d9 ?_))))))))
 first | refine k8 rfl (fun hb2 => ?_) (fun hb2 => ?_) | refine i5 rfl (fun hb2 => ?_) (fun hb2 => ?_)
 ·have hb2' := hb2; try simp at hb2'
  have h2 : (followT (trOf cs hs) h).isSome = false := by simpa using hb2
  refine i4 (b7 rfl (b7 rfl (b7 rfl (d9 (P8 ?_))))); exact ret3 () rfl rfl rfl rfl (by show Value.tuple #[int (followE (trOf cs hs) h).1, int (followE (trOf cs hs) h).2.1, int (followE (trOf cs hs) h).2.2] = _; rw [followE, if_neg hb1, if_pos h2]) rfl trivial nil_sb trivial
 have hb2' := hb2; try simp at hb2'
 have h2 : ¬ (followT (trOf cs hs) h).isSome = false := fun e => by rw [e] at hb2; cases hb2
 refine j3 (g6 (i4 (a8 rfl (a8 rfl (b7 rfl (b7 rfl (b7 rfl (d9 (k5 ?_))))))))); exact ret3 () rfl rfl rfl rfl (by show Value.tuple #[int (followE (trOf cs hs) h).1, int (followE (trOf cs hs) h).2.1, int (followE (trOf cs hs) h).2.2] = _; rw [followE, if_neg hb1, if_neg h2]; rfl) rfl trivial nil_sb trivial
theorem t8 (m i : Nat) (hm : m < 256) (hi : i < 8) : Meets Tryz.prog F.W0 [u8 m, int i] { val := fun _ : Unit => u8 (m ||| 2 ^ i) } := by
 refine i7 F.nF rfl p7 fun w0 => ?_; refine i4 (b7 rfl (j8 (a8 rfl (a8 rfl (hq4 i rfl rfl rfl rfl hi ?_))))); refine cq3 rfl rfl rfl hm (Nat.pow_lt_pow_right (by omega) hi : 2 ^ i < 2 ^ 8) ?_; refine b7 rfl (d9 (k5 ?_)); exact ret1 () rfl rfl rfl trivial nil_sb trivial
theorem A5 (m i : Nat) (hm : m < 256) (hi : i < 8) : Meets Tryz.prog F.Z4 [u8 m, int i] { val := fun _ : Unit => .bool (m.testBit i) } := by
 refine i7 F.pX rfl p7 fun w0 => ?_; refine i4 (b7 rfl (j8 (a8 rfl (a8 rfl (hq3 i rfl rfl rfl rfl hi ?_))))); refine bq6 (b := 1) rfl rfl rfl (Nat.lt_of_le_of_lt (Nat.div_le_self _ _) hm) (by decide) ?_; refine G0 rfl rfl rfl (b7 rfl (d9 (k5 ?_))); exact ret1 () rfl (congrArg (fun b => some (Value.bool b)) (by exact jq3 m i)) rfl trivial nil_sb trivial
theorem N8 (s p : Str) :
    Meets Tryz.prog F.D7 [str s, str p] { val := fun _ : Unit => .bool (decide (p.length ≤ s.length ∧ s.take p.length = p)) } := by
 refine i7 F.U1 rfl p7 fun w0 => ?_; refine i4 (b7 rfl (j8 (a8 rfl ?_))); refine aU rfl T.I9 rfl (a8 rfl (aU rfl T.I9 rfl ?_)); refine bM rfl rfl rfl (a8 rfl ?_); refine m6 rfl rfl ?_ ?_
 ·intro hg1; have hg1' := hg1; try simp at hg1'
  have hle : p.length ≤ s.length := by simpa using hg1
  refine i3 rfl rfl hg1 (a8 rfl (i3 rfl rfl hg1 (a8 rfl (i3 rfl rfl hg1 ?_)))); refine aU rfl T.I9 rfl (i3 rfl rfl hg1 (kP p.length rfl T.I9 rfl rfl rfl (by omega) ?_)); refine i3 rfl rfl hg1 (a8 rfl (i3 rfl rfl hg1 (kQ rfl rfl rfl ?_))); refine p_t rfl rfl (bt1 hg1) rfl ?_; refine b7 rfl (d9 (k5 ?_)); exact ret1 () rfl (congrArg (fun b => some (Value.bool b)) (by simp [hle])) rfl trivial nil_sb trivial
 intro hg1; have hg1' := hg1; try simp at hg1'
 have hle : ¬ p.length ≤ s.length := by simpa using hg1
 refine q7 rfl rfl rfl rfl rfl hg1 (q7 rfl rfl rfl rfl rfl hg1 (q7 rfl rfl rfl rfl rfl hg1 (q7 rfl rfl rfl rfl rfl hg1 (q7 rfl rfl rfl rfl rfl hg1 (q7 rfl rfl rfl rfl rfl hg1 ?_))))); refine p_f rfl rfl (bf2 hg1) rfl ?_; refine b7 rfl (d9 (k5 ?_)); exact ret1 () rfl (congrArg (fun b => some (Value.bool b)) (by simp [hle])) rfl trivial nil_sb trivial
theorem dX (s p : Str) :
    Meets Tryz.prog F.S4 [str s, str p] { val := fun _ : Unit => .bool (decide (p.length ≤ s.length ∧ s.take p.length = p)) } := by
 refine i7 F.mE rfl p7 fun w0 => ?_; refine i4 (b7 rfl (j8 (a8 rfl (a8 rfl ?_)))); refine d5 F.Q8 rfl rfl (N8 s p) (.refl _) trivial fun _ _ => ?_; refine b7 rfl (d9 (k5 ?_)); exact ret1 () rfl rfl rfl trivial (.refl _) trivial
theorem cq6 {s p : Str} : (p.length ≤ s.length ∧ s.take p.length = p) ↔ p <+: s := by
  rw [List.prefix_iff_eq_take]
  constructor
  · exact fun e => e.2.symm
  intro e; refine ⟨?_, e.symm⟩; have := congrArg List.length e; rw [List.length_take] at this
  omega
theorem ij9 {t : Tr} {b : Str} {h i : Nat} (hn : ¬ b <+: (t.hs.getD h default).1) : leadsB t b h i = false := by rw [leadsB, decide_eq_false hn, Bool.false_and]
theorem bx0 {t : Tr} {b : Str} {h i : Nat} (hn : (followT t h).isSome = false) : leadsB t b h i = false := by
  rw [leadsB]
  cases e : followT t h with
  | none => simp
  | some x => rw [e] at hn; cases hn
theorem iq0 {t : Tr} {b : Str} {h i : Nat} (hp : b <+: (t.hs.getD h default).1) (hn : (followT t h).isSome = true) : leadsB t b h i = (decide (((followT t h).getD (0, 0)).1 = (i : Int)) && isTrB t ((followT t h).getD (0, 0)).1) := by
  rw [leadsB, decide_eq_true hp, Bool.true_and]
  cases e : followT t h with
  | none => rw [e] at hn; cases hn
  | some x => rfl
theorem gj9 {t : Tr} (hok : TrOK t) {h : Nat} (hh : h < t.hs.length) (hn : (followT t h).isSome = true) : 0 ≤ ((followT t h).getD (0, 0)).1 ∧ ((followT t h).getD (0, 0)).1 < (t.hs.length : Int) := by
  cases e : followT t h with
  | none => rw [e] at hn; cases hn
  | some x => exact xT hok _ (h : Int) 0 x.1 x.2 (by omega) (by omega) e
theorem rJ (f : Nat → Bool) (k : Nat) : (List.range (k + 1)).any f = ((List.range k).any f || f k) := by rw [List.range_succ, List.any_append]; simp
def MaySet (t : Tr) (b : Str) (k m : Nat) : Prop := m < 256 ∧ ∀ j, m.testBit j = (List.range k).any fun h => leadsB t b h j
theorem uY {t : Tr} {b : Str} {k m : Nat} (h : MaySet t b k m) (hn : ∀ j, leadsB t b k j = false) : MaySet t b (k + 1) m := ⟨h.1, fun j => by rw [rJ, hn j, Bool.or_false]; exact h.2 j⟩
theorem ij6 {t : Tr} {b : Str} {k m e : Nat} (h : MaySet t b k m) (he : e < 8) (hn : ∀ j, leadsB t b k j = decide (e = j)) : MaySet t b (k + 1) (m ||| 2 ^ e) := ⟨Nat.or_lt_two_pow (n := 8) h.1 (Nat.pow_lt_pow_right (by omega) he), fun j => by rw [rJ, hn j, Nat.testBit_or, Nat.testBit_two_pow, h.2 j]⟩
def mayK (m k : Nat) : List Int := ((List.range k).filter fun i => m.testBit i).map fun i : Nat => (i : Int)
theorem Q3 (m k : Nat) : mayK m (k + 1) = if m.testBit k = true then mayK m k ++ [(k : Int)] else mayK m k := by
  unfold mayK; rw [List.range_succ, List.filter_append, List.map_append]
  by_cases h : m.testBit k = true <;> simp [h]
theorem qQ (m k : Nat) : (mayK m k).length ≤ k := by
  unfold mayK; rw [List.length_map]; exact Nat.le_trans (List.length_filter_le _ _) (by simp)
theorem ij7 {t : Tr} {b : Str} {m : Nat} (h : MaySet t b t.hs.length m) : mayK m t.hs.length = mayT t b := by
  unfold mayK mayT
  congr 1
  exact List.filter_congr fun i _ => h.2 i
set_option maxHeartbeats 1000000 in
theorem H9 {A B oa ka : Option Addr} {ca cb oc kc gl : Nat} (cs : List Cl) (hs : List Hd) (b : Str) (hok : TrOK (trOf cs hs)) : Meets Tryz.prog F.bC [.pointer (b8 gl), str b] { LI := [Row (b8 gl) [.slice A cs.length ca, .slice B hs.length cb, .slice oa cs.length oc, .slice ka hs.length kc], Row ka (rows (kindsN hs hs.length)), Row B (rows hs)], inv := fun x : OutC => (mayT (trOf cs hs) b).length ≤ x.2, val := fun x => .slice x.1 (mayT (trOf cs hs) b).length x.2, LO := fun x => [Row x.1 (rows (mayT (trOf cs hs) b))] } := by
 refine i7 F.rN rfl p7 fun w0 => ?_; refine i4 (b7 rfl (d9 (i1 ?_))); have h6h := hok.h6; have hln := t0 cs hs; rw [hln] at h6h; have hS := qH hok; refine b9 (b7 rfl (d9 (i1 (i4 (a8 rfl (l9 rfl rfl ?_))))))
 first | refine a7 ⟨_, 0, none⟩ rfl rfl T.l7 rfl ?_ | refine a7 _ rfl rfl T.l7 rfl ?_
 first | refine a7 ⟨_, 1, none⟩ rfl rfl T.j0 rfl ?_ | refine a7 _ rfl rfl T.j0 rfl ?_
 first | refine a6 rfl T.a9 rfl (h9 mB rfl) ?_ | refine a6 rfl T.a9 rfl (d8 mB rfl) ?_ | refine a6 rfl T.a9 rfl (d3 mB (b4 (by omega) rfl)) ?_ | refine a6 rfl T.a9 rfl (d1 mB (rows_get (by omega) rfl)) ?_ | refine a6 rfl T.a9 rfl (d7 mB rfl) ?_
 refine k4 rfl T.m9 rfl ?_; refine a8 rfl (d9 (i9 ?_)); refine p6 (β := Nat × Nat) ⟨fun x => x.1 ≤ hs.length ∧ MaySet (trOf cs hs) b x.1 x.2, fun x => [(0, .pointer (b8 gl)), (1, str b), (5, u8 x.2), (18, int hs.length), (17, .slice B hs.length cb), (19, int x.1)], fun _ => [], fun _ => [Row (b8 gl) [.slice A cs.length ca, .slice B hs.length cb, .slice oa cs.length oc, .slice ka hs.length kc], Row ka (rows (kindsN hs hs.length)), Row B (rows hs)]⟩ (fun x => hs.length - x.1) (0, 0) ⟨Nat.zero_le _, by decide, fun j => by simp⟩ mC nil_sb mC fun x hx => ?_; obtain ⟨k, m⟩ := x; obtain ⟨hk, hM⟩ := hx; simp only at hk hM; refine i4 (t7 rfl rfl rfl (d9 (i1 ?_)))
 first | refine k8 rfl (fun hb1 => ?_) (fun hb1 => ?_) | refine i5 rfl (fun hb1 => ?_) (fun hb1 => ?_)
 ·have hb1' := hb1; try simp at hb1'
  have hk2 : k < hs.length := by omega
  have hgd : ((trOf cs hs).hs.getD k default).1 = (hs.getD k default).1 := by show ((hs.map Hd.p).getD k default).1 = _; rw [G8 hk2]; rfl
  refine j3 (g6 (i1 (i9 (i4 (a8 rfl ?_))))); refine r9 (α := Hd) hs k rfl T.m9 T.l8 rfl rfl rfl mB rfl hk2 (by decide) (q6 rfl T.z7 T.l8 rfl rfl (m7 mB (n7 (by omega))) ?_); refine r7 rfl (fun _ => T.D1 _) fun gA => ?_; refine b7 rfl ?_; refine r4 rfl rfl (by first | exact .refl _ | exact perm2 _ _ _ | exact perm3 _ _ _ _ | exact perm4 _ _ _ _ _) T.l8 (by rfl) (by rfl) ?_; refine d9 (bY ?_); refine C4 (rows [hs.getD k default]) ⟨[], List.append_nil _⟩ ?_; refine b9 ?_
  first | refine a7 ⟨_, 0, none⟩ rfl rfl T.n8 rfl ?_ | refine a7 _ rfl rfl T.n8 rfl ?_
  first | refine a6 rfl T.j2 rfl (h9 mB rfl) ?_ | refine a6 rfl T.j2 rfl (d8 mB rfl) ?_ | refine a6 rfl T.j2 rfl (d3 mB (b4 (by omega) rfl)) ?_ | refine a6 rfl T.j2 rfl (d1 mB (rows_get (by omega) rfl)) ?_ | refine a6 rfl T.j2 rfl (d7 mB rfl) ?_
  refine a8 rfl ?_; refine d5 F.kG rfl rfl (dX (hs.getD k default).1 b) j5 trivial fun _ _ => ?_; refine B3 rfl rfl (d9 ?_)
  first | refine k8 rfl (fun hb2 => ?_) (fun hb2 => ?_) | refine i5 rfl (fun hb2 => ?_) (fun hb2 => ?_)
  ·have hb2' := hb2; try simp at hb2'
   have hp : ¬ b <+: ((trOf cs hs).hs.getD k default).1 := by rw [hgd]; exact fun e => by rw [decide_eq_true (cq6.2 e)] at hb2; cases hb2
   refine n2 (H5 (n1 (g6 (b9 ?_)))); refine q9 _ rfl rfl rfl rfl n5 ?_; refine a8 rfl (b3 ?_); exact again _ (k + 1, m) ⟨by show k + 1 ≤ hs.length; omega, by exact uY hM fun j => ij9 hp⟩ (r6 (by omega)) mC nil_sb mC
  have hb2' := hb2; try simp at hb2'
  have hp : b <+: ((trOf cs hs).hs.getD k default).1 := by rw [hgd]; exact Classical.byContradiction fun e => by rw [decide_eq_false (fun f => e (cq6.1 f))] at hb2; cases hb2
  refine j3 (g6 (i4 (a8 rfl (a8 rfl ?_)))); refine d5 F.Y1 rfl rfl (Q0 (oa := oa) (oc := oc) (ka := ka) (kc := kc) (gl := gl) cs hs (k : Int) (by omega) (by omega) (by omega) hS) j5 mC fun _ _ => ?_; refine a8 rfl (i6 (vs := #[int ((followT (trOf cs hs) (k : Int)).getD (0, 0)).1, int ((followT (trOf cs hs) (k : Int)).getD (0, 0)).2, .bool (followT (trOf cs hs) (k : Int)).isSome]) rfl rfl rfl (i6 (vs := #[int ((followT (trOf cs hs) (k : Int)).getD (0, 0)).1, int ((followT (trOf cs hs) (k : Int)).getD (0, 0)).2, .bool (followT (trOf cs hs) (k : Int)).isSome]) rfl rfl rfl (i6 (vs := #[int ((followT (trOf cs hs) (k : Int)).getD (0, 0)).1, int ((followT (trOf cs hs) (k : Int)).getD (0, 0)).2, .bool (followT (trOf cs hs) (k : Int)).isSome]) rfl rfl rfl ?_))); refine b7 rfl (b7 rfl (b7 rfl (j8 (a8 rfl (a8 rfl ?_))))); refine m6 rfl rfl ?_ ?_
  ·intro hg1; have hg1' := hg1; try simp at hg1'
   have hs1 : (followT (trOf cs hs) (k : Int)).isSome = true := bt1 hg1; have hat := gj9 hok (by rw [hln]; exact hk2) hs1; rw [hln] at hat; have hL := fun i => iq0 (i := i) hp hs1; refine i3 rfl rfl hg1 (a8 rfl (i3 rfl rfl hg1 (a8 rfl (i3 rfl rfl hg1 ?_)))); refine d5 F.H1 rfl rfl (E0 (oa := oa) (oc := oc) (ka := ka) (kc := kc) (gl := gl) (A := A) (B := B) (ca := ca) (cb := cb) cs hs ((followT (trOf cs hs) (k : Int)).getD (0, 0)).1 hat.1 hat.2 (by omega)) j5 mC fun _ _ => ?_; refine p_t rfl rfl (bt1 hg1) rfl ?_; refine d9 ?_
   first | refine k8 rfl (fun hb3 => ?_) (fun hb3 => ?_) | refine i5 rfl (fun hb3 => ?_) (fun hb3 => ?_)
   ·have hb3' := hb3; try simp at hb3'
    obtain ⟨en, hen⟩ := Int.eq_ofNat_of_zero_le hat.1; refine b9 (a8 rfl ?_); refine yR (v := int (en : Int)) rfl (congrArg (fun z => some (int z)) hen) ?_; refine d5 F.w6 rfl rfl (t8 m en hM.1 (by omega)) j5 trivial fun _ _ => ?_; refine b7 rfl (b3 (n9 (g6 (b9 ?_)))); refine q9 _ rfl rfl rfl rfl n5 ?_; refine a8 rfl (b3 ?_); exact again _ (k + 1, m ||| 2 ^ en) ⟨by show k + 1 ≤ hs.length; omega, by exact ij6 hM (by omega) fun j => by rw [hL j, hb3, Bool.and_true]; exact decide_eq_decide.2 (by omega)⟩ (r6 (by omega)) mC nil_sb mC
   have hb3' := hb3; try simp at hb3'
   refine j3 (n9 (g6 (b9 ?_))); refine q9 _ rfl rfl rfl rfl n5 ?_; refine a8 rfl (b3 ?_); exact again _ (k + 1, m) ⟨by show k + 1 ≤ hs.length; omega, by exact uY hM fun j => by rw [hL j, hb3, Bool.and_false]⟩ (r6 (by omega)) mC nil_sb mC
  intro hg1; have hg1' := hg1; try simp at hg1'
  have hs1 : (followT (trOf cs hs) (k : Int)).isSome = false := bf2 hg1; refine q7 rfl rfl rfl rfl rfl hg1 (q7 rfl rfl rfl rfl rfl hg1 (q7 rfl rfl rfl rfl rfl hg1 ?_)); refine p_f rfl rfl (bf2 hg1) rfl ?_; refine d9 (c_f rfl rfl (j3 (n9 (g6 (b9 ?_))))); refine q9 _ rfl rfl rfl rfl n5 ?_; refine a8 rfl (b3 ?_); exact again _ (k + 1, m) ⟨by show k + 1 ≤ hs.length; omega, by exact uY hM fun j => bx0 hs1⟩ (r6 (by omega)) mC nil_sb mC
 have hb1' := hb1; try simp at hb1'
 have hk2 : k = hs.length := by omega
 subst hk2; rw [← hln] at hM; have hA := ij7 hM; rw [hln] at hA; refine n2 (t4 (n1 (g6 (i4 (b7 rfl (d9 (bY ?_))))))); refine b9 (a8 rfl (l9 rfl rfl ?_))
 first | refine a7 ⟨_, 0, none⟩ rfl rfl T.l7 rfl ?_ | refine a7 _ rfl rfl T.l7 rfl ?_
 first | refine a7 ⟨_, 1, none⟩ rfl rfl T.j0 rfl ?_ | refine a7 _ rfl rfl T.j0 rfl ?_
 first | refine a6 rfl T.a9 rfl (h9 mB rfl) ?_ | refine a6 rfl T.a9 rfl (d8 mB rfl) ?_ | refine a6 rfl T.a9 rfl (d3 mB (b4 (by omega) rfl)) ?_ | refine a6 rfl T.a9 rfl (d1 mB (rows_get (by omega) rfl)) ?_ | refine a6 rfl T.a9 rfl (d7 mB rfl) ?_
 refine k4 rfl T.m9 rfl ?_; refine a8 rfl (d9 (i9 ?_)); refine p6 (β := Nat × OutC × Hp) ⟨fun x => x.1 ≤ hs.length ∧ Grow T.int 1 x.2.1.1 (mayK m x.1).length x.2.1.2 (rows (mayK m x.1)) x.2.2, fun x => [(5, u8 m), (11, .slice x.2.1.1 (mayK m x.1).length x.2.1.2), (51, int hs.length), (52, int x.1)], fun x => x.2.2, fun _ => []⟩ (fun x => hs.length - x.1) (0, (none, 0), []) ⟨Nat.zero_le _, Grow.nil _ _⟩ mC nil_sb trivial fun x hx => ?_; obtain ⟨k, ⟨na, nc⟩, og⟩ := x; obtain ⟨hk, hG⟩ := hx; simp only at hk hG; refine i4 (t7 rfl rfl rfl (d9 (i1 ?_)))
 first | refine k8 rfl (fun hb4 => ?_) (fun hb4 => ?_) | refine i5 rfl (fun hb4 => ?_) (fun hb4 => ?_)
 ·have hb4' := hb4; try simp at hb4'
  have hk2 : k < hs.length := by omega
  have hml := qQ m k; refine j3 (g6 (i1 (i9 (i4 (a8 rfl (b7 rfl (j8 ?_))))))); refine a8 rfl (a8 rfl ?_); refine d5 F.C2 rfl rfl (A5 m k hM.1 (by omega)) j5 trivial fun _ _ => ?_; refine d9 ?_
  first | refine k8 rfl (fun hb5 => ?_) (fun hb5 => ?_) | refine i5 rfl (fun hb5 => ?_) (fun hb5 => ?_)
  ·have hb5' := hb5; try simp at hb5'
   refine b9 (a8 rfl (a8 rfl ?_)); refine j4 _ rfl rfl (fun _ => T.v0 ..) fun gS => ?_; refine n0 (rows [(k : Int)]) (List.prefix_refl _) ?_; refine B6 ((mayK m k).length + 1) (rows (mayK m k ++ [(k : Int)])) T.iO rfl rfl rfl hG (hp' := []) (by rw [List.append_nil]; exact List.Perm.refl _) (Src.row (news := rows [(k : Int)]) (m := 1) m0 rfl (A9 _) (by decide)) rfl (s9 _ _).symm (by unfold maxLen; omega) (by omega) fun A' c' og' hG' => ?_; refine b7 rfl (b3 (n9 (g6 (b9 ?_)))); refine q9 _ rfl rfl rfl rfl n5 ?_; refine a8 rfl (b3 ?_); exact again _ (k + 1, (A', c'), og') ⟨by show k + 1 ≤ hs.length; omega, by show Grow _ _ _ (mayK m (k + 1)).length _ (rows (mayK m (k + 1))) _; rw [Q3, if_pos hb5, List.length_append]; exact hG'⟩ (r6 (by omega)) ⟨rfl, by show some (Value.slice A' ((mayK m k).length + 1) c') = some (Value.slice A' (mayK m (k + 1)).length c'); rw [Q3, if_pos hb5, List.length_append]; rfl, rfl, rfl, trivial⟩ (List.sublist_append_left _ _) trivial
  have hb5' := hb5; try simp at hb5'
  refine j3 (n9 (g6 (b9 ?_))); refine q9 _ rfl rfl rfl rfl n5 ?_; refine a8 rfl (b3 ?_); exact again _ (k + 1, (na, nc), og) ⟨by show k + 1 ≤ hs.length; omega, by show Grow _ _ _ (mayK m (k + 1)).length _ (rows (mayK m (k + 1))) _; rw [Q3, if_neg (by rw [hb5]; decide)]; exact hG⟩ (r6 (by omega)) ⟨rfl, by show some (Value.slice na (mayK m k).length nc) = some (Value.slice na (mayK m (k + 1)).length nc); rw [Q3, if_neg (by rw [hb5]; decide)], rfl, rfl, trivial⟩ (List.Sublist.refl _) trivial
 have hb4' := hb4; try simp at hb4'
 have hk2 : k = hs.length := by omega
 subst hk2; have hG2 := hG; rw [hA] at hG2; refine n2 (t4 (n1 (g6 (i4 (a8 rfl (b7 rfl (d9 (k5 ?_)))))))); refine Q4 hG2 ?_; exact ret1 (na, nc) rfl (by show some (Value.slice na (mayK m hs.length).length nc) = some (Value.slice na (mayT (trOf cs hs) b).length nc); rw [hA]) rfl hG2.le nil_sb ⟨m0, trivial⟩
def mayE (t : Tr) (b : Str) : List Int × Int := if ¬ checkT t = 0 then ([], checkT t) else (mayT t b, 0)
theorem iV {A B : Option Addr} {ca cb : Nat} (cs : List Cl) (hs : List Hd) (b : Str) (hca : cs.length ≤ ca) (hcb : hs.length ≤ cb) (ha : ∀ h ∈ hs, h.2.2.2.l.length ≤ 1000000) : Meets Tryz.prog F.dS [.agg #[.slice A cs.length ca, .slice B hs.length cb], str b] { LI := [Row A (rows cs), RowsF B hs Hd.row], inv := fun x : OutC => (mayE (trOf cs hs) b).1.length ≤ x.2, val := fun x => .tuple #[.slice x.1 (mayE (trOf cs hs) b).1.length x.2, int (mayE (trOf cs hs) b).2], LO := fun x => [Row x.1 (rows (mayE (trOf cs hs) b).1)] } := by
 refine i7 F.zU rfl p7 fun w0 => ?_; refine i4 ?_; refine E5 rfl rfl fun gB => ?_; refine b7 rfl (b7 rfl (d9 ?_)); refine B8 ⟨fun _ : Nat × OutC × OutC => True, fun x => [(1, str b), (2, .pointer (b8 gB)), (6, if checkT (trOf cs hs) = 0 then .pointer (some ⟨x.1, 0, none⟩) else .pointer none), (7, int (checkT (trOf cs hs)))], fun _ => [(gB, .cells #[.slice A cs.length ca, .slice B hs.length cb] T.i2 (0, 0))], fun x => (if checkT (trOf cs hs) = 0 then beginL cs hs A ca B cb x else []) ++ [Row A (rows cs), RowsF B hs Hd.row]⟩ ?_ ?_
 ·skip
  refine b9 ?_
  first | refine u6 rfl T.d6 T.d4 rfl mB (by rfl) ?_ | refine t9 rfl T.d6 T.d4 rfl mB (by rfl) ?_ | refine q6 rfl T.d6 T.d4 rfl rfl (m7 mB (n7 (by omega))) ?_
  refine d5 F.C6 rfl rfl (A7 cs hs hca hcb ha) j5 mC fun x _ => ?_; refine a8 rfl (i6 rfl rfl rfl (i6 rfl rfl rfl (b7 rfl (b7 rfl (b3 ?_))))); exact w4 _ x trivial mC (List.Sublist.refl _) (LSub.of_mem fun F h => h)
 refine fun x _ => ?_
 dsimp only
 refine i1 (i4 (a8 rfl (t3 rfl rfl rfl (d9 ?_))))
 first | refine k8 rfl (fun hb1 => ?_) (fun hb1 => ?_) | refine i5 rfl (fun hb1 => ?_) (fun hb1 => ?_)
 ·have hb1' := hb1; try simp at hb1'
  have hE : mayE (trOf cs hs) b = ([], checkT (trOf cs hs)) := by rw [mayE, if_pos hb1]
  refine i4 (a8 rfl (b7 rfl (b7 rfl (d9 (P8 ?_))))); refine A4 (α := Int) ?_; exact ret2 (none, 0) rfl rfl rfl (by show Value.tuple #[.slice none (mayE (trOf cs hs) b).1.length 0, int (mayE (trOf cs hs) b).2] = _; rw [hE]; rfl) rfl (by show (mayE (trOf cs hs) b).1.length ≤ 0; rw [hE]; exact Nat.le_refl _) nil_sb (by show LSub _ [Row none (rows (mayE (trOf cs hs) b).1)]; rw [hE]; exact ⟨m0, trivial⟩)
 have hb1' := hb1; try simp at hb1'
 have h0 := Classical.not_not.1 hb1; rw [if_pos h0, if_pos h0]; have hok := Y3 h0; have h6 : cs.length ≤ 6 := hok.c6; have h6h := hok.h6; rw [t0] at h6h; have hcl : ∀ i, i < cs.length → ClsOK cs i := hok.c; obtain ⟨gl, ⟨oa, oc⟩, ⟨ka, kc⟩⟩ := x; have hE : mayE (trOf cs hs) b = (mayT (trOf cs hs) b, 0) := by rw [mayE, if_neg hb1]
 show HC _ _ _ _ _ [Row (b8 gl) [.slice A cs.length ca, .slice B hs.length cb, .slice oa cs.length oc, .slice ka hs.length kc], Row oa (rows (masksN cs cs.length)), Row ka (rows (kindsN hs hs.length)), Row A (rows cs), RowsF B hs Hd.row]; refine J4 mB (j3 (g6 (i4 (a8 rfl (a8 rfl ?_))))); refine d5 F.L3 rfl rfl (H9 (A := A) (B := B) (oa := oa) (oc := oc) (ka := ka) (kc := kc) (gl := gl) (ca := ca) (cb := cb) cs hs (b) hok) j5 mC fun y hy => ?_; refine b7 rfl (b7 rfl (d9 (k5 ?_))); exact ret2 y rfl rfl rfl (by show Value.tuple #[.slice y.1 (mayE (trOf cs hs) b).1.length y.2, int (mayE (trOf cs hs) b).2] = _; rw [hE]) rfl (by show (mayE (trOf cs hs) b).1.length ≤ y.2; rw [hE]; exact hy) nil_sb (by show LSub _ [Row y.1 (rows (mayE (trOf cs hs) b).1)]; rw [hE]; exact ⟨m0, trivial⟩)
theorem next_az {s : Str} (h : s.all azB = true) {k : Nat} (hk : k < s.length) : nextP s k = k + 1 := by
  have h1 := List.all_eq_true.1 h _ (List.getElem_mem hk); simp only [azB, Bool.and_eq_true, decide_eq_true_eq] at h1; rw [nextP, if_pos hk, sE (List.getElem?_eq_getElem hk) (by omega)]
theorem word_az {s : Str} (h : wordB s = true) : s.all azB = true := by
  unfold wordB at h; simp only [Bool.and_eq_true] at h; exact h.2.2.2.2
theorem word_12 {s : Str} (h : wordB s = true) : s.length ≤ 12 := by
  unfold wordB at h; simp only [Bool.and_eq_true, decide_eq_true_eq] at h; exact h.2.1
theorem gj1 {cs : List Cl} {hs : List Hd} (hok : TrOK (trOf cs hs)) {i : Nat} (hi : i < hs.length) : wordB (hs.getD i default).1 = true := by
  have := (hok.h i (by rw [t0]; exact hi)).w; simp only [trOf, G8 hi] at this; exact this
theorem dq4 {cs : List Cl} {hs : List Hd} {h : Int} (h0 : 0 ≤ h) (hh : h < (hs.length : Int)) : shortT (trOf cs hs) h = shortN (trOf cs hs) (hs.getD h.toNat default).1 ((hs.getD h.toNat default).1.length + 1) 0 := by
  unfold shortT; simp only [trOf, G8 (show h.toNat < hs.length by omega)]
  rfl
def shortE (t : Tr) (h : Int) : Str × Int := if ¬ askE t [h] = 0 then ([], askE t [h]) else match shortT t h with | none => ([], 11) | some s => (s, 0)
theorem gY {A B oa ka : Option Addr} {ca cb oc kc gl : Nat} (cs : List Cl) (hs : List Hd) (h : Int) (h0 : 0 ≤ h) (hh : h < (hs.length : Int)) (hok : TrOK (trOf cs hs)) : Meets Tryz.prog F.V7 [.pointer (b8 gl), int h] { LI := [Row (b8 gl) [.slice A cs.length ca, .slice B hs.length cb, .slice oa cs.length oc, .slice ka hs.length kc], Row ka (rows (kindsN hs hs.length)), Row B (rows hs)], val := fun _ : Unit => .tuple #[str ((shortT (trOf cs hs) h).getD (hs.getD h.toNat default).1), .bool (shortT (trOf cs hs) h).isSome] } := by
 refine i7 F.mW rfl p7 fun w0 => ?_; refine i4 (b7 rfl (b7 rfl (j8 (a8 rfl (l9 rfl rfl ?_)))))
 first | refine a7 ⟨_, 0, none⟩ rfl rfl T.l7 rfl ?_ | refine a7 _ rfl rfl T.l7 rfl ?_
 first | refine a7 ⟨_, 1, none⟩ rfl rfl T.j0 rfl ?_ | refine a7 _ rfl rfl T.j0 rfl ?_
 first | refine a6 rfl T.a9 rfl (h9 mB rfl) ?_ | refine a6 rfl T.a9 rfl (d8 mB rfl) ?_ | refine a6 rfl T.a9 rfl (d3 mB (b4 (by omega) rfl)) ?_ | refine a6 rfl T.a9 rfl (d1 mB (rows_get (by omega) rfl)) ?_ | refine a6 rfl T.a9 rfl (d7 mB rfl) ?_
 refine a8 rfl (r9 (α := Hd) hs h.toNat rfl T.m9 T.l8 rfl rfl (Int.toNat_of_nonneg h0).symm mB rfl (by omega) (by decide) ?_)
 first | refine a7 ⟨_, 0, none⟩ rfl rfl T.n8 rfl ?_ | refine a7 _ rfl rfl T.n8 rfl ?_
 refine a6 (v := str (hs.getD h.toNat default).1) rfl T.j2 rfl (d3 mB (b4 (by omega) rfl)) ?_; refine b7 rfl (d9 (bY ?_)); have hw := gj1 hok (show h.toNat < hs.length by omega); have haz := word_az hw; have h12 := word_12 hw; have hT := dq4 (cs := cs) h0 hh
 -- (hs.getD h.toNat default).1 = s at *
 refine b9 (a8 rfl ?_); refine aj2 rfl T.I9 rfl fun gI => ?_; refine d9 (i9 ?_); refine p6 (β := Nat) ⟨fun k => k ≤ (hs.getD h.toNat default).1.length ∧ shortT (trOf cs hs) h = shortN (trOf cs hs) (hs.getD h.toNat default).1 ((hs.getD h.toNat default).1.length + 1 - k) k, fun k => [(0, .pointer (b8 gl)), (6, str (hs.getD h.toNat default).1), (18, .pointer (b8 gI))], fun k => [(gI, iter (hs.getD h.toNat default).1 k)], fun _ => [Row (b8 gl) [.slice A cs.length ca, .slice B hs.length cb, .slice oa cs.length oc, .slice ka hs.length kc], Row ka (rows (kindsN hs hs.length)), Row B (rows hs)]⟩ (fun k => (hs.getD h.toNat default).1.length - k) 0 ⟨Nat.zero_le _, hT⟩ mC (List.Sublist.refl _) mC fun k hk => ?_; obtain ⟨hk, ht⟩ := hk; refine i4 ?_; refine cq4 rfl rfl (.refl _) ?_; refine hq9 rfl rfl (d9 (i1 ?_))
 first | refine k8 rfl (fun hb1 => ?_) (fun hb1 => ?_) | refine i5 rfl (fun hb1 => ?_) (fun hb1 => ?_)
 ·have hb1' := hb1; try simp at hb1'
  rw [show (hs.getD h.toNat default).1.length + 1 - k = ((hs.getD h.toNat default).1.length - k) + 1 by omega, shortN] at ht; have hnx := next_az haz hb1; refine j3 (g6 (i9 (i4 (r_ext1 rfl rfl hb1 (b7 rfl (j8 (a8 rfl ?_))))))); refine a8 rfl (a8 rfl ?_); refine kP k rfl T.I9 rfl rfl rfl (by omega) ?_; refine d5 F.L3 rfl rfl (H9 (A := A) (B := B) (oa := oa) (oc := oc) (ka := ka) (kc := kc) (gl := gl) (ca := ca) (cb := cb) cs hs ((hs.getD h.toNat default).1.take k) hok) j5 mC fun y hy => ?_; refine k4 rfl T.s5 rfl ?_; refine G0 rfl rfl rfl (d9 ?_)
  first | refine k8 rfl (fun hb2 => ?_) (fun hb2 => ?_) | refine i5 rfl (fun hb2 => ?_) (fun hb2 => ?_)
  ·have hb2' := hb2; try simp at hb2'
   rw [if_pos (by omega)] at ht; refine i4 (a8 rfl (a8 rfl ?_)); refine kP k rfl T.I9 rfl rfl rfl (by omega) ?_; refine b7 rfl (b7 rfl (d9 (k5 (B7 (B7 ?_))))); exact ret2 () rfl rfl rfl (by show Value.tuple #[str ((shortT (trOf cs hs) h).getD (hs.getD h.toNat default).1), .bool (shortT (trOf cs hs) h).isSome] = _; rw [ht]; rfl) rfl trivial nil_sb trivial
  have hb2' := hb2; try simp at hb2'
  rw [if_neg (by omega)] at ht; refine j3 (n9 ?_); refine again _ (k + 1) ⟨by omega, by rw [ht, show (hs.getD h.toNat default).1.length + 1 - (k + 1) = (hs.getD h.toNat default).1.length - k by omega]⟩ (r6 (by omega)) mC ?_ mC; rw [hnx]; exact (List.Sublist.refl _)
 have hb1' := hb1; try simp at hb1'
 have hk2 : k = (hs.getD h.toNat default).1.length := by omega
 rw [hk2, show (hs.getD h.toNat default).1.length + 1 - (hs.getD h.toNat default).1.length = 0 + 1 by omega, shortN, List.take_length] at ht; refine n2 (t4 (n1 (g6 (i4 (a8 rfl (a8 rfl (a8 rfl ?_))))))); refine d5 F.L3 rfl rfl (H9 (A := A) (B := B) (oa := oa) (oc := oc) (ka := ka) (kc := kc) (gl := gl) (ca := ca) (cb := cb) cs hs (hs.getD h.toNat default).1 hok) j5 mC fun y hy => ?_; refine k4 rfl T.s5 rfl ?_; refine G0 rfl rfl rfl (b7 rfl (b7 rfl (d9 (k5 ?_))))
 have hv : ((shortT (trOf cs hs) h).getD (hs.getD h.toNat default).1, (shortT (trOf cs hs) h).isSome) = ((hs.getD h.toNat default).1, decide (((mayT (trOf cs hs) (hs.getD h.toNat default).1).length : Int) = 1)) := by
   rw [ht]
   by_cases h1 : (mayT (trOf cs hs) (hs.getD h.toNat default).1).length = 1
   · rw [if_pos h1, decide_eq_true (by omega)]; rfl
   rw [if_neg h1, shortN, decide_eq_false (by omega)]; rfl
 exact ret2 () rfl rfl rfl (by show Value.tuple #[str ((shortT (trOf cs hs) h).getD (hs.getD h.toNat default).1), .bool (shortT (trOf cs hs) h).isSome] = _; rw [show (shortT (trOf cs hs) h).getD (hs.getD h.toNat default).1 = (hs.getD h.toNat default).1 from congrArg Prod.fst hv, show (shortT (trOf cs hs) h).isSome = _ from congrArg Prod.snd hv]) rfl trivial nil_sb trivial
theorem R9 {A B : Option Addr} {ca cb : Nat} (cs : List Cl) (hs : List Hd) (h : Int) (hca : cs.length ≤ ca) (hcb : hs.length ≤ cb) (ha : ∀ h ∈ hs, h.2.2.2.l.length ≤ 1000000) : Meets Tryz.prog F.Q1 [.agg #[.slice A cs.length ca, .slice B hs.length cb], int h] { LI := [Row A (rows cs), RowsF B hs Hd.row], val := fun _ : Unit => .tuple #[str (shortE (trOf cs hs) h).1, int (shortE (trOf cs hs) h).2] } := by
 refine i7 F.wH rfl p7 fun w0 => ?_; refine i4 ?_; refine E5 rfl rfl fun gB => ?_; refine b7 rfl (b7 rfl (d9 ?_)); refine B8 ⟨fun _ : Nat × OutC × OutC => True, fun x => [(1, int h), (2, .pointer (b8 gB)), (6, if askE (trOf cs hs) [h] = 0 then .pointer (some ⟨x.1, 0, none⟩) else .pointer none), (7, int (askE (trOf cs hs) [h]))], fun _ => [(gB, .cells #[.slice A cs.length ca, .slice B hs.length cb] T.i2 (0, 0))], fun x => (if askE (trOf cs hs) [h] = 0 then beginL cs hs A ca B cb x else []) ++ [Row A (rows cs), RowsF B hs Hd.row]⟩ ?_ ?_
 ·skip
  refine b9 ?_
  first | refine u6 rfl T.d6 T.d4 rfl mB (by rfl) ?_ | refine t9 rfl T.d6 T.d4 rfl mB (by rfl) ?_ | refine q6 rfl T.d6 T.d4 rfl rfl (m7 mB (n7 (by omega))) ?_
  refine a8 rfl ?_; refine j4 _ rfl rfl (fun _ => T.v0 ..) fun gS => ?_; refine n0 (rows [h]) (List.prefix_refl _) ?_; refine d5 F.K0 rfl rfl (E7 cs hs [h] hca hcb ha (by simp)) j5 mC fun x _ => ?_; refine a8 rfl (i6 rfl rfl rfl (i6 rfl rfl rfl (b7 rfl (b7 rfl (b3 ?_))))); exact w4 _ x trivial mC (List.Sublist.refl _) (LSub.of_mem fun F hF => (List.mem_append.1 hF).elim (fun h1 => List.mem_append_left _ h1) (fun h2 => List.mem_append_right _ (List.mem_cons_of_mem _ h2)))
 refine fun x _ => ?_
 dsimp only
 refine i1 (i4 (a8 rfl (t3 rfl rfl rfl (d9 ?_))))
 first | refine k8 rfl (fun hb1 => ?_) (fun hb1 => ?_) | refine i5 rfl (fun hb1 => ?_) (fun hb1 => ?_)
 ·have hb1' := hb1; try simp at hb1'
  refine i4 (a8 rfl (b7 rfl (b7 rfl (d9 (P8 ?_))))); exact ret2 () rfl rfl rfl (by show Value.tuple #[str (shortE (trOf cs hs) h).1, int (shortE (trOf cs hs) h).2] = _; rw [shortE, if_pos hb1]; rfl) rfl trivial nil_sb trivial
 have hb1' := hb1; try simp at hb1'
 have h0 := Classical.not_not.1 hb1; rw [if_pos h0, if_pos h0]; have hch := Q6 h0; have hin := pK h0 (List.mem_singleton.2 rfl); rw [t0] at hin; have hok := Y3 hch; have h6 : cs.length ≤ 6 := hok.c6; have h6h := hok.h6; rw [t0] at h6h; have hcl : ∀ i, i < cs.length → ClsOK cs i := hok.c; obtain ⟨gl, ⟨oa, oc⟩, ⟨ka, kc⟩⟩ := x; show HC _ _ _ _ _ [Row (b8 gl) [.slice A cs.length ca, .slice B hs.length cb, .slice oa cs.length oc, .slice ka hs.length kc], Row oa (rows (masksN cs cs.length)), Row ka (rows (kindsN hs hs.length)), Row A (rows cs), RowsF B hs Hd.row]; refine J4 mB (j3 (g6 (i4 (a8 rfl (a8 rfl ?_))))); refine d5 F.lU rfl rfl (gY (A := A) (B := B) (oa := oa) (oc := oc) (ka := ka) (kc := kc) (gl := gl) (ca := ca) (cb := cb) cs hs h hin.1 (by omega) hok) j5 mC fun _ _ => ?_; refine a8 rfl (i6 rfl rfl rfl (i6 rfl rfl rfl (b7 rfl (b7 rfl (d9 (i1 (i4 (a8 rfl (B3 rfl rfl ?_))))))))); refine d9 ?_
 first | refine k8 rfl (fun hb2 => ?_) (fun hb2 => ?_) | refine i5 rfl (fun hb2 => ?_) (fun hb2 => ?_)
 ·have hb2' := hb2; try simp at hb2'
  have h2 : shortT (trOf cs hs) h = none := by cases e : shortT (trOf cs hs) h with
   | none => rfl
   | some s => rw [e] at hb2; cases hb2
  refine i4 (b7 rfl (b7 rfl (d9 (P8 ?_)))); exact ret2 () rfl rfl rfl (by show Value.tuple #[str (shortE (trOf cs hs) h).1, int (shortE (trOf cs hs) h).2] = _; rw [shortE, if_neg hb1, h2]; rfl) rfl trivial nil_sb trivial
 have hb2' := hb2; try simp at hb2'
 obtain ⟨s, hs2⟩ : ∃ s, shortT (trOf cs hs) h = some s := by cases e : shortT (trOf cs hs) h with
  | none => rw [e] at hb2; cases hb2
  | some s => exact ⟨s, rfl⟩
 refine j3 (g6 (i4 (a8 rfl (b7 rfl (b7 rfl (d9 (k5 ?_))))))); exact ret2 () rfl rfl rfl (by show Value.tuple #[str (shortE (trOf cs hs) h).1, int (shortE (trOf cs hs) h).2] = Value.tuple #[str ((shortT (trOf cs hs) h).getD (hs.getD h.toNat default).1), int 0]; rw [shortE, if_neg hb1, hs2]; rfl) rfl trivial nil_sb trivial
theorem xZ : ∀ {l l' : List Int}, l.Pairwise (· < ·) → l'.Pairwise (· < ·) → (∀ x, x ∈ l ↔ x ∈ l') → l = l'
  | [], [], _, _, _ => rfl
  | [], y :: l', _, _, h => by have := (h y).2 (by simp); simp at this
  | x :: l, [], _, _, h => by have := (h x).1 (by simp); simp at this
  | x :: l, y :: l', h1, h2, h => by
    have p1 := List.pairwise_cons.1 h1; have p2 := List.pairwise_cons.1 h2
    have e : x = y := by
      rcases List.mem_cons.1 ((h x).1 (by simp)) with e | e
      · exact e
      rcases List.mem_cons.1 ((h y).2 (by simp)) with e2 | e2
      · exact e2.symm
      have := p2.1 x e; have := p1.1 y e2; omega
    subst e
    congr 1
    refine xZ p1.2 p2.2 fun z => ?_; have hz := h z; rw [List.mem_cons, List.mem_cons] at hz
    constructor
    · intro hm
      rcases hz.1 (.inr hm) with e | e
      · subst e; have := p1.1 z hm; omega
      exact e
    intro hm
    rcases hz.2 (.inr hm) with e | e
    · subst e; have := p2.1 z hm; omega
    exact e
theorem rV {cs : List Cl} (h6 : cs.length ≤ 6) (hc : ∀ i, i < cs.length → ClsOK cs i) {c : Int} (h : c < (cs.length : Int)) : mayK (maskOf (pathT cs c)) cs.length = pathT cs c := by
  have hp := kR cs hc c.toNat c (Nat.le_refl _) h; refine xZ ?_ hp.1 fun x => ?_
  · unfold mayK
    refine List.pairwise_map.2 ((List.pairwise_lt_range.filter _).imp fun h => ?_)
    omega
  unfold mayK; rw [List.mem_map]
  constructor
  · rintro ⟨i, hi, rfl⟩
    rw [List.mem_filter, lN fun x hx => (hp.2 x hx).1, decide_eq_true_eq] at hi; exact hi.2
  intro hx; have h1 := hp.2 x hx; have h2 := iK h6 hc h x hx; refine ⟨x.toNat, ?_, Int.toNat_of_nonneg h1.1⟩; rw [List.mem_filter, lN fun x hx => (hp.2 x hx).1, decide_eq_true_eq, Int.toNat_of_nonneg h1.1]; exact ⟨List.mem_range.2 (by omega), hx⟩
set_option maxHeartbeats 1000000 in
theorem U9 {A B oa ka : Option Addr} {ca cb oc kc gl : Nat} (cs : List Cl) (hs : List Hd) (c : Int) (h0 : 0 ≤ c) (h : c < (cs.length : Int)) (h6 : cs.length ≤ 6) (hc : ∀ i, i < cs.length → ClsOK cs i) : Meets Tryz.prog F.Y8 [.pointer (b8 gl), int c] { LI := [Row (b8 gl) [.slice A cs.length ca, .slice B hs.length cb, .slice oa cs.length oc, .slice ka hs.length kc], Row oa (rows (masksN cs cs.length))], inv := fun x : OutC => (pathT cs c).length ≤ x.2, val := fun x => .slice x.1 (pathT cs c).length x.2, LO := fun x => [Row x.1 (rows (pathT cs c))] } := by
 refine i7 F.pR rfl p7 fun w0 => ?_; refine i4 (b7 rfl (j8 (b7 rfl (d9 (bY ?_))))); have hA := rV h6 hc h; refine b9 (a8 rfl (l9 rfl rfl ?_))
 first | refine a7 ⟨_, 0, none⟩ rfl rfl T.l7 rfl ?_ | refine a7 _ rfl rfl T.l7 rfl ?_
 first | refine a7 ⟨_, 0, none⟩ rfl rfl T.k0 rfl ?_ | refine a7 _ rfl rfl T.k0 rfl ?_
 first | refine a6 rfl T.b5 rfl (h9 mB rfl) ?_ | refine a6 rfl T.b5 rfl (d8 mB rfl) ?_ | refine a6 rfl T.b5 rfl (d3 mB (b4 (by omega) rfl)) ?_ | refine a6 rfl T.b5 rfl (d1 mB (rows_get (by omega) rfl)) ?_ | refine a6 rfl T.b5 rfl (d7 mB rfl) ?_
 refine k4 rfl T.p8 rfl ?_; refine a8 rfl (d9 (i9 ?_)); refine p6 (β := Nat × OutC × Hp) ⟨fun x => x.1 ≤ cs.length ∧ Grow T.int 1 x.2.1.1 (mayK (maskOf (pathT cs c)) x.1).length x.2.1.2 (rows (mayK (maskOf (pathT cs c)) x.1)) x.2.2, fun x => [(0, .pointer (b8 gl)), (1, int c), (5, .slice x.2.1.1 (mayK (maskOf (pathT cs c)) x.1).length x.2.1.2), (12, int cs.length), (13, int x.1)], fun x => x.2.2, fun _ => [Row (b8 gl) [.slice A cs.length ca, .slice B hs.length cb, .slice oa cs.length oc, .slice ka hs.length kc], Row oa (rows (masksN cs cs.length))]⟩ (fun x => cs.length - x.1) (0, (none, 0), []) ⟨Nat.zero_le _, Grow.nil _ _⟩ mC nil_sb mC fun x hx => ?_; obtain ⟨k, ⟨na, nc⟩, og⟩ := x; obtain ⟨hk, hG⟩ := hx; simp only at hk hG; refine i4 (t7 rfl rfl rfl (d9 (i1 ?_)))
 first | refine k8 rfl (fun hb1 => ?_) (fun hb1 => ?_) | refine i5 rfl (fun hb1 => ?_) (fun hb1 => ?_)
 ·have hb1' := hb1; try simp at hb1'
  have hk2 : k < cs.length := by omega
  have hml := qQ (maskOf (pathT cs c)) k; refine j3 (g6 (i1 (i9 (i4 (a8 rfl (b7 rfl (j8 ?_))))))); refine a8 rfl (l9 rfl rfl ?_)
  first | refine a7 ⟨_, 2, none⟩ rfl rfl T.u7 rfl ?_ | refine a7 _ rfl rfl T.u7 rfl ?_
  first | refine a6 rfl T.k7 rfl (h9 mB rfl) ?_ | refine a6 rfl T.k7 rfl (d8 mB rfl) ?_ | refine a6 rfl T.k7 rfl (d3 mB (b4 (by omega) rfl)) ?_ | refine a6 rfl T.k7 rfl (d1 mB (rows_get (by omega) rfl)) ?_ | refine a6 rfl T.k7 rfl (d7 mB rfl) ?_
  refine a8 rfl ?_; refine r9 (α := Nat) (masksN cs cs.length) c.toNat rfl T.H8 T.J2 rfl rfl (Int.toNat_of_nonneg h0).symm mB (E6 _ _).symm (by rw [E6]; omega) (by decide) ?_; refine a6 (v := u8 (maskOf (pathT cs c))) rfl T.G9 rfl (d3 mB (b4 (by rw [E6]; omega) (by rw [gP (by omega), Int.toNat_of_nonneg h0]; rfl))) ?_; refine a8 rfl ?_; refine d5 F.L7 rfl rfl (J1 (maskOf (pathT cs c)) k (lO h6 hc h) (by omega)) j5 trivial fun _ _ => ?_; refine d9 ?_
  first | refine k8 rfl (fun hb2 => ?_) (fun hb2 => ?_) | refine i5 rfl (fun hb2 => ?_) (fun hb2 => ?_)
  ·have hb2' := hb2; try simp at hb2'
   refine b9 (a8 rfl (a8 rfl ?_)); refine j4 _ rfl rfl (fun _ => T.v0 ..) fun gS => ?_; refine n0 (rows [(k : Int)]) (List.prefix_refl _) ?_; refine B6 ((mayK (maskOf (pathT cs c)) k).length + 1) (rows (mayK (maskOf (pathT cs c)) k ++ [(k : Int)])) T.iO rfl rfl rfl hG (hp' := []) (by rw [List.append_nil]; exact List.Perm.refl _) (Src.row (news := rows [(k : Int)]) (m := 1) m0 rfl (A9 _) (by decide)) rfl (s9 _ _).symm (by unfold maxLen; omega) (by omega) fun A' c' og' hG' => ?_; refine b7 rfl (b3 (n9 (g6 (b9 ?_)))); refine q9 _ rfl rfl rfl rfl n5 ?_; refine a8 rfl (b3 ?_); exact again _ (k + 1, (A', c'), og') ⟨by show k + 1 ≤ cs.length; omega, by show Grow _ _ _ (mayK (maskOf (pathT cs c)) (k + 1)).length _ (rows (mayK (maskOf (pathT cs c)) (k + 1))) _; rw [Q3, if_pos hb2, List.length_append]; exact hG'⟩ (r6 (by omega)) ⟨rfl, rfl, by show some (Value.slice A' ((mayK (maskOf (pathT cs c)) k).length + 1) c') = some (Value.slice A' (mayK (maskOf (pathT cs c)) (k + 1)).length c'); rw [Q3, if_pos hb2, List.length_append]; rfl, rfl, rfl, trivial⟩ (List.sublist_append_left _ _) mC
  have hb2' := hb2; try simp at hb2'
  refine j3 (n9 (g6 (b9 ?_))); refine q9 _ rfl rfl rfl rfl n5 ?_; refine a8 rfl (b3 ?_); exact again _ (k + 1, (na, nc), og) ⟨by show k + 1 ≤ cs.length; omega, by show Grow _ _ _ (mayK (maskOf (pathT cs c)) (k + 1)).length _ (rows (mayK (maskOf (pathT cs c)) (k + 1))) _; rw [Q3, if_neg (by rw [hb2]; decide)]; exact hG⟩ (r6 (by omega)) ⟨rfl, rfl, by show some (Value.slice na (mayK (maskOf (pathT cs c)) k).length nc) = some (Value.slice na (mayK (maskOf (pathT cs c)) (k + 1)).length nc); rw [Q3, if_neg (by rw [hb2]; decide)], rfl, rfl, trivial⟩ (List.Sublist.refl _) mC
 have hb1' := hb1; try simp at hb1'
 have hk2 : k = cs.length := by omega
 subst hk2; have hG2 := hG; rw [hA] at hG2; refine n2 (t4 (n1 (g6 (i4 (a8 rfl (b7 rfl (d9 (k5 ?_)))))))); refine Q4 hG2 ?_; exact ret1 (na, nc) rfl (by show some (Value.slice na (mayK (maskOf (pathT cs c)) cs.length).length nc) = some (Value.slice na (pathT cs c).length nc); rw [hA]) rfl hG2.le nil_sb ⟨m0, trivial⟩
def hitB (s : Str) (h : Hd) : Bool := decide (h.1 = s) && decide (¬ h.2.1 = -1)
theorem hit_no1 {s : Str} {x : Hd} (h : ¬ x.1 = s) : hitB s x = false := by unfold hitB; rw [decide_eq_false h]; rfl
theorem hit_no2 {s : Str} {x : Hd} (h : x.2.1 = -1) : hitB s x = false := by unfold hitB; simp [h]
theorem hit_yes {s : Str} {x : Hd} (h : x.1 = s) (h2 : ¬ x.2.1 = -1) : hitB s x = true := by unfold hitB; simp [h, h2]
def nameOf (cs : List Cl) (c : Int) : Str := (cs.getD c.toNat default).1
theorem uX (cs : List Cl) (hs : List Hd) (s : Str) : namesN (trOf cs hs) s = (hs.find? (hitB s)).map fun h => (pathT cs h.2.1).map (nameOf cs) := by
  unfold namesN; show ((hs.map Hd.p).find? _).map _ = _; rw [List.find?_map, Option.map_map]
  rfl
theorem ij4 {cs : List Cl} {hs : List Hd} {s : Str} {k : Nat} (hk : k < hs.length) (h1 : hitB s (hs.getD k default) = true) (ht : ∀ i, i < k → hitB s (hs.getD i default) = false) : namesN (trOf cs hs) s = some ((pathT cs (hs.getD k default).2.1).map (nameOf cs)) := by
  rw [uX]
  have : hs.find? (hitB s) = some (hs.getD k default) := by
    rw [List.find?_eq_some_iff_getElem]; refine ⟨h1, k, hk, (u9 hk).symm, fun j hj => ?_⟩; have := ht j hj; rw [u9 (by omega)] at this
    simp [this]
  rw [this]
  rfl
theorem ij3 {cs : List Cl} {hs : List Hd} {s : Str} (ht : ∀ i, i < hs.length → hitB s (hs.getD i default) = false) : namesN (trOf cs hs) s = none := by
  rw [uX]
  have : hs.find? (hitB s) = none := by
    rw [List.find?_eq_none]; intro x hx; obtain ⟨i, hi, rfl⟩ := List.getElem_of_mem hx; have := ht i hi; rw [u9 hi] at this
    simp [this]
  rw [this]
  rfl
theorem ax1 {s : Str} {hs : List Hd} {k : Nat} (ht : ∀ i, i < k → hitB s (hs.getD i default) = false) (h : hitB s (hs.getD k default) = false) : ∀ i, i < k + 1 → hitB s (hs.getD i default) = false := fun i hi => by
  rcases Nat.lt_or_ge i k with h1 | h1
  · exact ht i h1
  rw [show i = k by omega]; exact h
set_option maxHeartbeats 1000000 in
theorem R6 {A B oa ka : Option Addr} {ca cb oc kc gl : Nat} (cs : List Cl) (hs : List Hd) (s : Str) (hok : TrOK (trOf cs hs)) : Meets Tryz.prog F.V8 [.pointer (b8 gl), str s] { LI := [Row (b8 gl) [.slice A cs.length ca, .slice B hs.length cb, .slice oa cs.length oc, .slice ka hs.length kc], Row oa (rows (masksN cs cs.length)), Row A (rows cs), Row B (rows hs)], inv := fun x : OutC => ((namesN (trOf cs hs) s).getD []).length ≤ x.2, val := fun x => .tuple #[.slice x.1 ((namesN (trOf cs hs) s).getD []).length x.2, .bool (namesN (trOf cs hs) s).isSome], LO := fun x => [Row x.1 (rows ((namesN (trOf cs hs) s).getD []))] } := by
 refine i7 F.mY rfl p7 fun w0 => ?_; refine i4 (b7 rfl (b7 rfl (d9 (bY ?_)))); have h6 : cs.length ≤ 6 := hok.c6; have h6h := hok.h6; rw [t0] at h6h; have hcl : ∀ i, i < cs.length → ClsOK cs i := hok.c; refine b9 (a8 rfl (l9 rfl rfl ?_))
 first | refine a7 ⟨_, 0, none⟩ rfl rfl T.l7 rfl ?_ | refine a7 _ rfl rfl T.l7 rfl ?_
 first | refine a7 ⟨_, 1, none⟩ rfl rfl T.j0 rfl ?_ | refine a7 _ rfl rfl T.j0 rfl ?_
 first | refine a6 rfl T.a9 rfl (h9 mB rfl) ?_ | refine a6 rfl T.a9 rfl (d8 mB rfl) ?_ | refine a6 rfl T.a9 rfl (d3 mB (b4 (by omega) rfl)) ?_ | refine a6 rfl T.a9 rfl (d1 mB (rows_get (by omega) rfl)) ?_ | refine a6 rfl T.a9 rfl (d7 mB rfl) ?_
 refine k4 rfl T.m9 rfl ?_; refine a8 rfl (d9 (i9 ?_)); refine p6 (β := Nat) ⟨fun k => k ≤ hs.length ∧ ∀ i, i < k → hitB s (hs.getD i default) = false, fun k => [(0, .pointer (b8 gl)), (1, str s), (15, .slice B hs.length cb), (16, int hs.length), (17, int k)], fun _ => [], fun _ => [Row (b8 gl) [.slice A cs.length ca, .slice B hs.length cb, .slice oa cs.length oc, .slice ka hs.length kc], Row oa (rows (masksN cs cs.length)), Row A (rows cs), Row B (rows hs)]⟩ (fun k => hs.length - k) 0 ⟨Nat.zero_le _, fun i hi => by omega⟩ mC nil_sb mC fun k hk => ?_; obtain ⟨hk, ht⟩ := hk; refine i4 (t7 rfl rfl rfl (d9 (i1 ?_)))
 first | refine k8 rfl (fun hb1 => ?_) (fun hb1 => ?_) | refine i5 rfl (fun hb1 => ?_) (fun hb1 => ?_)
 ·have hb1' := hb1; try simp at hb1'
  have hk2 : k < hs.length := by omega
  have hcc : -1 ≤ (hs.getD k default).2.1 ∧ (hs.getD k default).2.1 < (cs.length : Int) := by
    have := (hok.h k (by rw [t0]; exact hk2)).c; simp only [trOf, G8 hk2] at this; exact this
  refine j3 (g6 (i1 (i9 (i4 ?_)))); refine r9 (α := Hd) _ _ rfl T.m9 T.l8 rfl rfl rfl mB rfl (by omega) (by decide) (q6 rfl T.z7 T.l8 rfl rfl (m7 mB (n7 (by omega))) ?_); refine r7 rfl (fun _ => T.D1 _) fun gA => ?_; refine r4 rfl rfl (by first | exact .refl _ | exact perm2 _ _ _ | exact perm3 _ _ _ _ | exact perm4 _ _ _ _ _) T.l8 (by rfl) (by rfl) ?_; refine d9 (bY ?_); refine C4 (rows [hs.getD k default]) ⟨[], List.append_nil _⟩ ?_; refine b9 ?_
  first | refine a7 ⟨_, 0, none⟩ rfl rfl T.n8 rfl ?_ | refine a7 _ rfl rfl T.n8 rfl ?_
  first | refine a6 rfl T.j2 rfl (h9 mB rfl) ?_ | refine a6 rfl T.j2 rfl (d8 mB rfl) ?_ | refine a6 rfl T.j2 rfl (d3 mB (b4 (by omega) rfl)) ?_ | refine a6 rfl T.j2 rfl (d1 mB (rows_get (by omega) rfl)) ?_ | refine a6 rfl T.j2 rfl (d7 mB rfl) ?_
  refine a8 rfl (rS rfl rfl rfl (a8 rfl ?_)); refine m6 rfl rfl ?_ ?_
  ·intro hg1; have hg1' := hg1; try simp at hg1'
   have e1 : (hs.getD k default).1 = s := by simp only [beq_iff_eq, decide_eq_false_iff_not] at hg1; exact Classical.not_not.1 hg1
   refine i3 rfl rfl hg1 ?_
   first | refine a7 ⟨_, 1, none⟩ rfl rfl T.p9 rfl ?_ | refine a7 _ rfl rfl T.p9 rfl ?_
   refine i3 rfl rfl hg1 ?_
   first | refine a6 rfl T.b2 rfl (h9 mB rfl) ?_ | refine a6 rfl T.b2 rfl (d8 mB rfl) ?_ | refine a6 rfl T.b2 rfl (d3 mB (b4 (by omega) rfl)) ?_ | refine a6 rfl T.b2 rfl (d1 mB (rows_get (by omega) rfl)) ?_ | refine a6 rfl T.b2 rfl (d7 mB rfl) ?_
   refine i3 rfl rfl hg1 (G0 rfl rfl rfl ?_); refine p_f rfl rfl (bf1 hg1) rfl ?_; refine d9 ?_
   first | refine k8 rfl (fun hb2 => ?_) (fun hb2 => ?_) | refine i5 rfl (fun hb2 => ?_) (fun hb2 => ?_)
   ·have hb2' := hb2; try simp at hb2'
    have hh : hitB s (hs.getD k default) = false := hit_no2 hb2; refine n2 (H5 (n1 (g6 (b9 ?_)))); refine q9 _ rfl rfl rfl rfl n5 ?_; refine a8 rfl (b3 ?_); exact again _ (k + 1) ⟨by omega, ax1 ht hh⟩ (r6 (by omega)) mC nil_sb mC
   have hb2' := hb2; try simp at hb2'
   have hh : hitB s (hs.getD k default) = true := hit_yes e1 hb2; have hN := ij4 (cs := cs) hk2 hh ht; refine j3 (g6 (i4 (b7 rfl (d9 (i1 (i4 (a8 rfl ?_)))))))
   first | refine a7 ⟨_, 1, none⟩ rfl rfl T.p9 rfl ?_ | refine a7 _ rfl rfl T.p9 rfl ?_
   first | refine a6 rfl T.b2 rfl (h9 mB rfl) ?_ | refine a6 rfl T.b2 rfl (d8 mB rfl) ?_ | refine a6 rfl T.b2 rfl (d3 mB (b4 (by omega) rfl)) ?_ | refine a6 rfl T.b2 rfl (d1 mB (rows_get (by omega) rfl)) ?_ | refine a6 rfl T.b2 rfl (d7 mB rfl) ?_
   refine d5 F.bB rfl rfl (U9 (A := A) (B := B) (oa := oa) (oc := oc) (ka := ka) (kc := kc) (gl := gl) (ca := ca) (cb := cb) cs hs (hs.getD k default).2.1 (by omega) hcc.2 h6 hcl) j5 mC fun y hy => ?_; obtain ⟨ya, yc⟩ := y; have hps := iK h6 hcl hcc.2; have hpa := kR cs hcl (hs.getD k default).2.1.toNat _ (Nat.le_refl _) hcc.2
   have hpl : (pathT cs (hs.getD k default).2.1).length ≤ 6 := by
     have := congrArg List.length (rV h6 hcl hcc.2); have h2 := qQ (maskOf (pathT cs (hs.getD k default).2.1)) cs.length
     omega
   refine k4 rfl T.s5 rfl ?_; refine a8 rfl (d9 (i9 ?_)); refine p6 (β := Nat × OutC × Hp) ⟨fun x => x.1 ≤ (pathT cs (hs.getD k default).2.1).length ∧ Grow T.string 1 x.2.1.1 x.1 x.2.1.2 (rows (((pathT cs (hs.getD k default).2.1).take (x.1)).map (nameOf cs))) x.2.2, fun x => [(0, .pointer (b8 gl)), (8, .slice x.2.1.1 x.1 x.2.1.2), (33, .slice ya (pathT cs (hs.getD k default).2.1).length yc), (34, int (pathT cs (hs.getD k default).2.1).length), (35, int x.1)], fun x => x.2.2, fun _ => Row ya (rows (pathT cs (hs.getD k default).2.1)) :: [Row (b8 gl) [.slice A cs.length ca, .slice B hs.length cb, .slice oa cs.length oc, .slice ka hs.length kc], Row oa (rows (masksN cs cs.length)), Row A (rows cs), Row B (rows hs)]⟩ (fun x => (pathT cs (hs.getD k default).2.1).length - x.1) (0, (none, 0), []) ⟨Nat.zero_le _, Grow.nil _ _⟩ mC nil_sb mC fun x hx => ?_; obtain ⟨j, ⟨na, nc⟩, og⟩ := x; obtain ⟨hj, hG⟩ := hx; simp only at hj hG; refine i4 (t7 rfl rfl rfl (d9 (i1 ?_)))
   first | refine k8 rfl (fun hb3 => ?_) (fun hb3 => ?_) | refine i5 rfl (fun hb3 => ?_) (fun hb3 => ?_)
   ·have hb3' := hb3; try simp at hb3'
    have hj2 : j < (pathT cs (hs.getD k default).2.1).length := by omega
    have hcj := hpa.2 _ (s6 hj2); refine j3 (g6 (i1 (i9 (i4 ?_)))); refine r9 (α := Int) (pathT cs (hs.getD k default).2.1) j rfl T.s5 T.v6 rfl rfl rfl mB rfl hj2 (by decide) (a6 (v := int ((pathT cs (hs.getD k default).2.1).getD j default)) rfl T.b2 rfl (d3 mB (b4 hj2 rfl)) ?_); refine b7 rfl (d9 (b9 (a8 rfl (a8 rfl (l9 rfl rfl ?_)))))
    first | refine a7 ⟨_, 0, none⟩ rfl rfl T.l7 rfl ?_ | refine a7 _ rfl rfl T.l7 rfl ?_
    first | refine a7 ⟨_, 0, none⟩ rfl rfl T.k0 rfl ?_ | refine a7 _ rfl rfl T.k0 rfl ?_
    first | refine a6 rfl T.b5 rfl (h9 mB rfl) ?_ | refine a6 rfl T.b5 rfl (d8 mB rfl) ?_ | refine a6 rfl T.b5 rfl (d3 mB (b4 (by omega) rfl)) ?_ | refine a6 rfl T.b5 rfl (d1 mB (rows_get (by omega) rfl)) ?_ | refine a6 rfl T.b5 rfl (d7 mB rfl) ?_
    refine a8 rfl (r9 (α := Cl) cs ((pathT cs (hs.getD k default).2.1).getD j default).toNat rfl T.p8 T.t5 rfl rfl (Int.toNat_of_nonneg hcj.1).symm mB rfl (by omega) (by decide) ?_)
    first | refine a7 ⟨_, 0, none⟩ rfl rfl T.v8 rfl ?_ | refine a7 _ rfl rfl T.v8 rfl ?_
    refine a6 (v := str (nameOf cs ((pathT cs (hs.getD k default).2.1).getD j default))) rfl T.j2 rfl (d3 mB (b4 (by omega) rfl)) ?_; refine j4 _ rfl rfl (fun _ => T.xW ..) fun gS => ?_; refine n0 (rows [nameOf cs ((pathT cs (hs.getD k default).2.1).getD j default)]) (List.prefix_refl _) ?_; refine B6 (j + 1) (rows ((((pathT cs (hs.getD k default).2.1).take (j)).map (nameOf cs)) ++ [nameOf cs ((pathT cs (hs.getD k default).2.1).getD j default)])) T.cz5 rfl rfl rfl hG (hp' := []) (by first | (rw [List.append_nil]; done) | (rw [List.append_nil]; exact List.Perm.refl _)) (Src.row (news := rows [nameOf cs ((pathT cs (hs.getD k default).2.1).getD j default)]) (m := 1) m0 rfl (A9 _) (by decide)) rfl (s9 _ _).symm (by unfold maxLen; omega) (by omega) fun A' c' og' hG' => ?_; refine b7 rfl (b3 (n9 (g6 (b9 ?_)))); refine q9 _ rfl rfl rfl rfl n5 ?_; refine a8 rfl (b3 ?_); exact again _ (j + 1, (A', c'), og') ⟨by show j + 1 ≤ (pathT cs (hs.getD k default).2.1).length; omega, by show Grow _ _ _ _ _ (rows (((pathT cs (hs.getD k default).2.1).take (j + 1)).map (nameOf cs))) _; rw [s4 _ _ hj2, List.map_append]; exact hG'⟩ (r6 (by omega)) mC (List.sublist_append_left _ _) mC
   have hb3' := hb3; try simp at hb3'
   have hj2 : j = (pathT cs (hs.getD k default).2.1).length := by omega
   subst hj2; rw [List.take_length] at hG; refine n2 (t4 (n1 (g6 (i4 (a8 rfl (b7 rfl (b7 rfl (d9 ?_)))))))); refine k5 (B7 (z8 (B7 ?_))); have hgl : ((namesN (trOf cs hs) s).getD []).length = (pathT cs (hs.getD k default).2.1).length := by rw [hN]; exact List.length_map ..
   refine Q4 hG ?_; exact ret2 (na, nc) rfl rfl rfl (by show Value.tuple #[.slice na ((namesN (trOf cs hs) s).getD []).length nc, .bool (namesN (trOf cs hs) s).isSome] = _; rw [hgl, hN]; rfl) rfl (by show ((namesN (trOf cs hs) s).getD []).length ≤ nc; rw [hgl]; exact hG.le) nil_sb (by show LSub _ [Row na (rows ((namesN (trOf cs hs) s).getD []))]; rw [hN]; exact ⟨m0, trivial⟩)
  intro hg1; have hg1' := hg1; try simp at hg1'
  have e1 : ¬ (hs.getD k default).1 = s := fun e => by rw [decide_eq_false (not_not_intro e)] at hg1; cases hg1
  refine q7 rfl rfl rfl rfl rfl hg1 (q7 rfl rfl rfl rfl rfl hg1 (q7 rfl rfl rfl rfl rfl hg1 ?_)); refine p_t rfl rfl (bt2 hg1) rfl ?_; refine d9 (c_t rfl rfl (n2 (H5 (n1 (g6 (b9 ?_)))))); refine q9 _ rfl rfl rfl rfl n5 ?_; refine a8 rfl (b3 ?_); exact again _ (k + 1) ⟨by omega, ax1 ht (hit_no1 e1)⟩ (r6 (by omega)) mC nil_sb mC
 have hb1' := hb1; try simp at hb1'
 have hk2 : k = hs.length := by omega
 subst hk2; have hN := ij3 (cs := cs) ht; refine n2 (t4 (n1 (g6 (i4 (b7 rfl (b7 rfl (d9 (k5 ?_)))))))); refine A4 (α := Str) ?_; exact ret2 (none, 0) rfl rfl rfl (by show Value.tuple #[.slice none ((namesN (trOf cs hs) s).getD []).length 0, .bool (namesN (trOf cs hs) s).isSome] = _; rw [hN]; rfl) rfl (by show ((namesN (trOf cs hs) s).getD []).length ≤ 0; rw [hN]; exact Nat.le_refl _) nil_sb (by show LSub _ [Row none (rows ((namesN (trOf cs hs) s).getD []))]; rw [hN]; exact ⟨m0, trivial⟩)
def cmpW (a b : Str) : Int := Lib.compareBytes a b
theorem cmp_run (a b : Str) (w : World) : (callFunc 97 [str a, str b].toArray).run Tryz.prog w = .ok (.value (int (cmpW a b))) w := by
  show (callFunc 97 #[str a, str b]).run Tryz.prog w = _; rw [run_callFunc_extern Tryz.func97 (by kernel_rfl) (by kernel_rfl) (by kernel_rfl) (e := Extern.BytealgCompare.compare) (by kernel_rfl)]; unfold str; rw [Lib.run_compareString]
  rfl
theorem dj0 : ∀ (a b : Str), cmpW a b = if a < b then -1 else if a = b then 0 else 1
  | [], [] => by simp [cmpW, Lib.compareBytes]
  | [], y :: b => by simp [cmpW, Lib.compareBytes]
  | x :: a, [] => by simp [cmpW, Lib.compareBytes]
  | x :: a, y :: b => by
    have ih := dj0 a b; unfold cmpW at ih ⊢; rw [Lib.compareBytes, ih]; simp only [List.cons_lt_cons_iff, List.cons.injEq]
    by_cases h1 : x < y
    · rw [if_pos h1, if_pos (.inl h1)]
    rw [if_neg h1]
    by_cases h2 : y < x
    · have hne : ¬ x = y := fun e => by subst e; exact h1 h2
      rw [if_pos h2, if_neg (fun e => e.elim h1 (fun e => hne e.1)), if_neg (fun e => hne e.1)]
    rw [if_neg h2]
    have e : x = y := by
      apply UInt8.toNat_inj.1
      rw [UInt8.lt_iff_toNat_lt] at h1 h2
      omega
    subst e
    by_cases h3 : a < b
    · rw [if_pos h3, if_pos (.inr ⟨rfl, h3⟩)]
    have hn : ¬ (x < x ∨ x = x ∧ a < b) := fun e => e.elim h1 (fun e => h3 e.2); rw [if_neg h3, if_neg hn]
    by_cases h4 : a = b
    · rw [if_pos h4, if_pos ⟨rfl, h4⟩]
    rw [if_neg h4, if_neg (fun e => h4 e.2)]
theorem cz9 (a b : Str) : cmpW a b < 0 ↔ a < b := by
  rw [dj0]
  by_cases h : a < b
  · rw [if_pos h]; exact ⟨fun _ => h, fun _ => by decide⟩
  rw [if_neg h]; refine ⟨fun e => ?_, fun e => absurd e h⟩
  split at e <;> omega
theorem N9 (a b : Str) : Meets Tryz.prog F.D8 [str a, str b] { val := fun _ : Unit => int (cmpW a b) } := by
 refine i7 F.U2 rfl p7 fun w0 => ?_; refine i4 (b7 rfl (j8 (a8 rfl (a8 rfl ?_)))); refine xR rfl rfl (fun w => cmp_run a b w) ?_; refine b7 rfl (d9 (k5 ?_)); exact ret1 () rfl rfl rfl trivial nil_sb trivial
theorem jK (a b : Str) : Meets Tryz.prog F.O6 [str a, str b] { val := fun _ : Unit => int (cmpW a b) } := by
 refine i7 F.qD rfl p7 fun w0 => ?_; refine i4 (b7 rfl (j8 (a8 rfl (a8 rfl ?_)))); refine d5 F.Q9 rfl rfl (N9 a b) (.refl _) trivial fun _ _ => ?_; refine b7 rfl (d9 (k5 ?_)); exact ret1 () rfl rfl rfl trivial nil_sb trivial
theorem gF {A B : Option Addr} {ca cb : Nat} (a b : List Str) (ha : a.length ≤ 1000000) :
    Meets Tryz.prog F.S7 [.slice A a.length ca, .slice B b.length cb] { LI := [Row A (rows a), Row B (rows b)], val := fun _ : Unit => .bool (decide (a = b)) } := by
 refine i7 F.mJ rfl p7 fun w0 => ?_; refine i4 (b7 rfl (d9 (i1 (i4 (a8 rfl ?_))))); refine k4 rfl T.D2 rfl (a8 rfl (k4 rfl T.D2 rfl ?_)); refine t3 rfl rfl rfl (d9 ?_)
 first | refine k8 rfl (fun hb1 => ?_) (fun hb1 => ?_) | refine i5 rfl (fun hb1 => ?_) (fun hb1 => ?_)
 ·have hb1' := hb1; try simp at hb1'
  have hb1 : ¬ a = b := fun e => by subst e; exact hb1 rfl
  refine i4 (b7 rfl (d9 (P8 ?_))); exact ret1 () rfl (by rw [decide_eq_false hb1]; rfl) rfl trivial (.refl _) trivial
 have hb1' := hb1; try simp at hb1'
 have hb1 : a.length = b.length := by omega
 refine j3 (g6 (i1 (i4 (a8 rfl ?_)))); refine k4 rfl T.D2 rfl ?_; refine a8 rfl (d9 (i9 ?_)); refine p6 (β := Nat) ⟨fun k => k ≤ a.length ∧ a.take k = b.take k, fun k => [(0, .slice A a.length ca), (1, .slice B b.length cb), (12, int a.length), (13, int k)], fun _ => [], fun _ => [Row A (rows a), Row B (rows b)]⟩ (fun k => a.length - k) 0 ⟨Nat.zero_le _, rfl⟩ mC (.refl _) ⟨m0, m1, trivial⟩ fun k hk => ?_; obtain ⟨hk, ht⟩ := hk; refine i4 (t7 rfl rfl rfl (d9 (i1 ?_)))
 first | refine k8 rfl (fun hb2 => ?_) (fun hb2 => ?_) | refine i5 rfl (fun hb2 => ?_) (fun hb2 => ?_)
 ·have hb2' := hb2; try simp at hb2'
  have hb2 : k < a.length := by omega
  refine j3 (g6 (i1 (i9 (i4 (a8 rfl (b7 rfl (d9 (i1 ?_)))))))); refine C8 8 mixed (by decide) (by decide) rfl rfl (l3 (fun w1 => a8 rfl (q_z rfl)) (l3 (fun w1 => a8 rfl (q_z rfl)) (l3 (fun w1 => r9 (α := Str) _ _ rfl T.D2 T.z6 rfl rfl rfl mB rfl (by omega) (by decide) (q_z rfl)) (l3 (fun w1 => a6 rfl T.j2 rfl (d3 mB (b4 (by omega) rfl)) (q_z rfl)) (l3 (fun w1 => a8 rfl (q_z rfl)) (l3 (fun w1 => a8 rfl (q_z rfl)) (l3 (fun w1 => r9 (α := Str) _ _ rfl T.D2 T.z6 rfl rfl rfl mB rfl (by omega) (by decide) (q_z rfl)) ?_))))))); refine l3 (fun w1 => a6 rfl T.j2 rfl (d3 mB (b4 (by omega) rfl)) (q_z rfl)) ?_; refine w5 ⟨rfl, ?_⟩; refine rS rfl rfl rfl (d9 ?_)
  first | refine k8 rfl (fun hb3 => ?_) (fun hb3 => ?_) | refine i5 rfl (fun hb3 => ?_) (fun hb3 => ?_)
  ·have hb3' := hb3; try simp at hb3'
   have hb3 : ¬ a = b := ij2 (a := a) (b := b) (k := k) hb3; refine i4 (b7 rfl (d9 (k5 (B7 (z8 (B7 ?_)))))); exact ret1 () rfl (by rw [decide_eq_false hb3]; rfl) rfl trivial (.refl _) trivial
  have hb3' := hb3; try simp at hb3'
  have hb3 : a.getD k default = b.getD k default := Classical.not_not.1 hb3; refine j3 (n9 (g6 (b9 ?_))); refine q9 _ rfl rfl rfl rfl n5 ?_; refine a8 rfl (b3 ?_); exact again _ (k + 1) ⟨by omega, by rw [s4 a k hb2, s4 b k (by omega), ht, hb3]⟩ (by first | omega | (simp only; omega)) mC (.refl _) ⟨m0, m1, trivial⟩
 have hb2' := hb2; try simp at hb2'
 have hb2 : k = a.length := by omega
 refine n2 (t4 (n1 (g6 (i4 (b7 rfl (d9 (k5 ?_))))))); exact ret1 () rfl (by rw [decide_eq_true (cJ ht (by omega) (by omega))]; rfl) rfl trivial (.refl _) trivial
theorem qY {A B : Option Addr} {ca cb : Nat} (a b : List Cl) (ha : a.length ≤ 1000000) :
    Meets Tryz.prog F.cG [.slice A a.length ca, .slice B b.length cb] { LI := [Row A (rows a), Row B (rows b)], val := fun _ : Unit => .bool (decide (a = b)) } := by
 refine i7 F.wP rfl p7 fun w0 => ?_; refine i4 (b7 rfl (d9 (i1 (i4 (a8 rfl ?_))))); refine k4 rfl T.R2 rfl (a8 rfl (k4 rfl T.R2 rfl ?_)); refine t3 rfl rfl rfl (d9 ?_)
 first | refine k8 rfl (fun hb1 => ?_) (fun hb1 => ?_) | refine i5 rfl (fun hb1 => ?_) (fun hb1 => ?_)
 ·have hb1' := hb1; try simp at hb1'
  have hb1 : ¬ a = b := fun e => by subst e; exact hb1 rfl
  refine i4 (b7 rfl (d9 (P8 ?_))); exact ret1 () rfl (by rw [decide_eq_false hb1]; rfl) rfl trivial (.refl _) trivial
 have hb1' := hb1; try simp at hb1'
 have hb1 : a.length = b.length := by omega
 refine j3 (g6 (i1 (i4 (b7 rfl (d9 (i9 ?_)))))); refine p6 (β := Nat) ⟨fun k => k ≤ a.length ∧ a.take k = b.take k, fun k => [(0, .slice A a.length ca), (1, .slice B b.length cb), (5, int k)], fun _ => [], fun _ => [Row A (rows a), Row B (rows b)]⟩ (fun k => a.length - k) 0 ⟨Nat.zero_le _, rfl⟩ mC (.refl _) ⟨m0, m1, trivial⟩ fun k hk => ?_; obtain ⟨hk, ht⟩ := hk; refine i1 (i4 (a8 rfl (a8 rfl ?_))); refine k4 rfl T.R2 rfl ?_; refine t7 rfl rfl rfl (d9 ?_)
 first | refine k8 rfl (fun hb2 => ?_) (fun hb2 => ?_) | refine i5 rfl (fun hb2 => ?_) (fun hb2 => ?_)
 ·have hb2' := hb2; try simp at hb2'
  have hb2 : k < a.length := by omega
  refine j3 (g6 (i1 (i9 (i1 ?_)))); refine C8 8 mixed (by decide) (by decide) rfl rfl (l3 (fun w1 => a8 rfl (q_z rfl)) (l3 (fun w1 => a8 rfl (q_z rfl)) (l3 (fun w1 => r9 (α := Cl) _ _ rfl T.R2 T.cE rfl rfl rfl mB rfl (by omega) (by decide) (q_z rfl)) (l3 (fun w1 => q6 rfl T.qI T.cE rfl rfl (m7 mB (n7 (by omega))) (q_z rfl)) (l3 (fun w1 => a8 rfl (q_z rfl)) (l3 (fun w1 => a8 rfl (q_z rfl)) (l3 (fun w1 => r9 (α := Cl) _ _ rfl T.R2 T.cE rfl rfl rfl mB rfl (by omega) (by decide) (q_z rfl)) ?_))))))); refine l3 (fun w1 => q6 rfl T.qI T.cE rfl rfl (m7 mB (n7 (by omega))) (q_z rfl)) ?_; refine w5 ⟨rfl, ?_⟩; refine n3 _ rfl rfl rfl (fun _ => T.zK ..) (fun _ => T.yZ ..) ?_; refine d9 ?_
  first | refine k8 rfl (fun hb3 => ?_) (fun hb3 => ?_) | refine i5 rfl (fun hb3 => ?_) (fun hb3 => ?_)
  ·have hb3' := hb3; try simp at hb3'
   have hb3 : ¬ a = b := ij2 (a := a) (b := b) (k := k) hb3; refine i4 (b7 rfl (d9 (k5 (B7 (z8 (B7 ?_)))))); exact ret1 () rfl (by rw [decide_eq_false hb3]; rfl) rfl trivial (.refl _) trivial
  have hb3' := hb3; try simp at hb3'
  have hb3 : a.getD k default = b.getD k default := Classical.not_not.1 hb3; refine j3 (n9 (g6 (b9 (a8 rfl ?_)))); refine q9 _ rfl rfl rfl rfl n5 ?_; refine b7 rfl (b3 ?_); exact again _ (k + 1) ⟨by omega, by rw [s4 a k hb2, s4 b k (by omega), ht, hb3]⟩ (by first | omega | (simp only; omega)) mC (.refl _) ⟨m0, m1, trivial⟩
 have hb2' := hb2; try simp at hb2'
 have hb2 : k = a.length := by omega
 refine n2 (t4 (n1 (g6 (i4 (b7 rfl (d9 (k5 ?_))))))); exact ret1 () rfl (by rw [decide_eq_true (cJ ht (by omega) (by omega))]; rfl) rfl trivial (.refl _) trivial
def FromInv (lo hi z : Int) : Prop := lo ≤ z ∧ (lo < hi → z ≤ hi) ∧ (hi ≤ lo → z = lo)
def sortsL : List Str := [[102, 111, 111, 100], [98, 114, 101, 97, 100], [99, 108, 111, 116, 104], [104, 97, 116, 115], [119, 111, 111, 100], [105, 114, 111, 110], [98, 101, 101, 114], [105, 110], [115, 101, 101]]
def callingsL : List Str := [[98, 97, 107, 101, 114], [98, 97, 107, 101, 114, 115], [98, 111, 110, 110, 101, 116, 115], [98, 114, 101, 119, 101, 114], [98, 114, 117, 115, 104, 101, 115], [98, 117, 116, 99, 104, 101, 114], [99, 97, 110, 100, 108, 101, 115], [99, 111, 111, 112, 101, 114], [99, 111, 111, 112, 101, 114, 115], [99, 117, 116, 108, 101, 114], [104, 97, 116, 116, 101, 114], [104, 111, 115, 105, 101, 114], [109, 101, 114, 99, 101, 114], [109, 105, 108, 108, 105, 110, 101, 114], [116, 97, 105, 108, 111, 114], [116, 97, 110, 110, 101, 114]]
abbrev rngI (n : Nat) : List Int := (List.range n).map fun i : Nat => (i : Int)
def AtInv (l : List Int) (s z : Int) : Prop := (0 ≤ z ↔ s ∈ l) ∧ (s ∈ l → ∀ k : Nat, z < (k : Int) ↔ s ∈ l.take k)
theorem jq4 {l : List Int} {k : Nat} {s : Int} (hk : k < l.length) (hb : l.getD k default = s) (ht : s ∉ l.take k) : AtInv l s (k : Int) := by
  refine ⟨⟨fun _ => hb ▸ s6 hk, fun _ => by omega⟩, fun _ j => ⟨fun h => ?_, fun h => ?_⟩⟩
  · have h1 : s ∈ l.take (k + 1) := by rw [s4 l k hk, hb]; simp
    exact List.take_subset_take_left l (by omega) h1
  rcases Nat.lt_or_ge k j with h2 | h2
  · omega
  exact absurd (List.take_subset_take_left l h2 h) ht
theorem at_none {l : List Int} {s : Int} (ht : s ∉ l) : AtInv l s (-1) := ⟨⟨fun h => by omega, fun h => absurd h ht⟩, fun h => absurd h ht⟩
def partL (o : List Int) (m n : Nat) : List Int := (rngI n).filter fun v => decide (v ∈ o.take m)
theorem s1 {A : Option Addr} {n cp : Nat} (s : Str) (c : Int) : Meets Tryz.prog F.vD [str s, int c, .slice A n cp] { val := fun _ : Unit => .agg #[str s, int c, int (-1), .slice A n cp] } := by
 refine i7 F.bx1 rfl p7 fun w0 => ?_; refine i4 ?_; refine r7 rfl (fun _ => T.D1 _) fun gA => ?_; refine j8 (a8 rfl (a8 rfl (a8 rfl ?_))); refine w7 _ rfl rfl (fun _ => T.mO ..) ?_; refine r4 rfl rfl (by first | exact .refl _ | exact perm2 _ _ _ | exact perm3 _ _ _ _ | exact perm4 _ _ _ _ _) T.l8 (by rfl) (by rfl) ?_; refine d9 (k5 ?_); refine cF () rfl rfl T.z7 T.l8 rfl m0 rfl rfl trivial nil_sb trivial
theorem D0 (s : Str) (c : Int) : Meets Tryz.prog F.rY [str s, int c] { val := fun _ : Unit => .agg #[str s, int (-1), int c, .slice none 0 0] } := by
 refine i7 F.aq7 rfl p7 fun w0 => ?_; refine i4 ?_; refine r7 rfl (fun _ => T.D1 _) fun gA => ?_; refine j8 (a8 rfl (a8 rfl ?_)); refine w7 _ rfl rfl (fun _ => T.cK ..) ?_; refine r4 rfl rfl (by first | exact .refl _ | exact perm2 _ _ _ | exact perm3 _ _ _ _ | exact perm4 _ _ _ _ _) T.l8 (by rfl) (by rfl) ?_; refine d9 (k5 ?_); refine cF () rfl rfl T.z7 T.l8 rfl m0 rfl rfl trivial nil_sb trivial
def shopsC : List Cl := [([102, 111, 111, 100], -1), ([98, 114, 101, 97, 100], 0), ([99, 108, 111, 116, 104], -1), ([104, 97, 116, 115], 2)]
def shopsH (g1 g2 : Nat) : List Hd := [([98, 97, 107, 101, 114], 1, -1, ⟨none, 0, []⟩), ([98, 111, 110, 110, 101, 116, 115], -1, 3, ⟨none, 0, []⟩), ([99, 111, 110, 102, 101, 99, 116, 105, 111, 110, 101, 114], 0, -1, ⟨some ⟨g1, 0, none⟩, 1, [0]⟩), ([104, 97, 116, 116, 101, 114], 3, -1, ⟨none, 0, []⟩), ([109, 101, 114, 99, 101, 114], 2, -1, ⟨some ⟨g2, 0, none⟩, 1, [3]⟩), ([109, 105, 108, 108, 105, 110, 101, 114], -1, 1, ⟨none, 0, []⟩)]
set_option maxHeartbeats 1000000 in
theorem k9 : Meets Tryz.prog F.Y5 [] { val := fun x : Nat × Nat × Nat × Nat => .agg #[.slice (some ⟨x.1, 0, none⟩) 4 4, .slice (some ⟨x.2.1, 0, none⟩) 6 6], LO := fun x => [Row (some ⟨x.1, 0, none⟩) (rows shopsC), RowsF (some ⟨x.2.1, 0, none⟩) (shopsH x.2.2.1 x.2.2.2) Hd.row] } := by
 refine i7 F.dF rfl p7 fun w0 => ?_; refine i4 ?_; refine r7 rfl (fun _ => T.v9 _) fun gA => ?_; refine j8 ?_; refine w7 _ rfl rfl (fun _ => T.B4 ..) ?_; refine w7 _ rfl rfl (fun _ => T.bU ..) ?_; refine w7 _ rfl rfl (fun _ => T.B4 ..) ?_; refine w7 _ rfl rfl (fun _ => T.B4 ..) ?_; refine j4 _ rfl rfl (fun _ => T.X2 ..) fun gC => ?_; refine n0 (rows shopsC) (List.prefix_refl _) ?_; refine d5 F.u4 rfl rfl (s1 (A := none) (n := 0) (cp := 0) [98, 97, 107, 101, 114] 1) j5 trivial fun _ _ => ?_; refine d5 F.I3 rfl rfl (D0 [98, 111, 110, 110, 101, 116, 115] 3) j5 trivial fun _ _ => ?_; refine j4 _ rfl rfl (fun _ => T.v0 ..) fun g1 => ?_; refine n0 (rows [(0 : Int)]) (List.prefix_refl _) ?_; refine d5 F.u4 rfl rfl (s1 (A := some ⟨g1, 0, none⟩) (n := 1) (cp := 1) [99, 111, 110, 102, 101, 99, 116, 105, 111, 110, 101, 114] 0) j5 trivial fun _ _ => ?_; refine d5 F.u4 rfl rfl (s1 (A := none) (n := 0) (cp := 0) [104, 97, 116, 116, 101, 114] 3) j5 trivial fun _ _ => ?_; refine j4 _ rfl rfl (fun _ => T.v0 ..) fun g2 => ?_; refine n0 (rows [(3 : Int)]) (List.prefix_refl _) ?_; refine d5 F.u4 rfl rfl (s1 (A := some ⟨g2, 0, none⟩) (n := 1) (cp := 1) [109, 101, 114, 99, 101, 114] 2) j5 trivial fun _ _ => ?_; refine d5 F.I3 rfl rfl (D0 [109, 105, 108, 108, 105, 110, 101, 114] 1) j5 trivial fun _ _ => ?_; refine j4 _ rfl rfl (fun _ => T.O7 ..) fun gH => ?_; refine n0 (rows (shopsH g1 g2)) (List.prefix_refl _) ?_; refine w7 _ rfl rfl (fun _ => T.U6 ..) ?_; refine r4 rfl rfl (by first | exact .refl _ | exact perm2 _ _ _ | exact perm3 _ _ _ _ | exact perm4 _ _ _ _ _) T.d4 (by rfl) (by rfl) ?_; refine d9 (k5 ?_); refine A4 (α := Int) ?_; refine O3 (Fs := (shopsH g1 g2).map Hd.row) (by intro F hF; left; simp only [shopsH, List.map_cons, List.map_nil, List.mem_cons, List.not_mem_nil, or_false] at hF; rcases hF with rfl | rfl | rfl | rfl | rfl | rfl <;> repeat constructor) ?_; refine rB (A := some ⟨gH, 0, none⟩) (ps := shopsH g1 g2) (f := Hd.row) mB m0 ?_; refine cF (gC, gH, g1, g2) rfl rfl T.d6 T.d4 rfl m0 rfl rfl trivial nil_sb ⟨mB, m0, trivial⟩
def laterH (g : Nat) : List Hd := [([98, 97, 107, 101, 114], 1, -1, ⟨none, 0, []⟩), ([98, 111, 110, 110, 101, 116, 115], -1, 2, ⟨none, 0, []⟩), ([104, 97, 116, 116, 101, 114], 2, -1, ⟨none, 0, []⟩), ([105, 114, 111, 110, 109, 111, 110, 103, 101, 114], 0, -1, ⟨none, 0, []⟩), ([109, 101, 114, 99, 101, 114], 2, -1, ⟨some ⟨g, 0, none⟩, 1, [2]⟩), ([109, 105, 108, 108, 105, 110, 101, 114], -1, 1, ⟨none, 0, []⟩)]
set_option maxHeartbeats 1000000 in
theorem qW : Meets Tryz.prog F.kT [] { val := fun x : Nat × Nat × Nat => .agg #[.slice (some ⟨x.1, 0, none⟩) 4 4, .slice (some ⟨x.2.1, 0, none⟩) 6 6], LO := fun x => [Row (some ⟨x.1, 0, none⟩) (rows shopsC), RowsF (some ⟨x.2.1, 0, none⟩) (laterH x.2.2) Hd.row] } := by
 refine i7 F.wO rfl p7 fun w0 => ?_; refine i4 ?_; refine r7 rfl (fun _ => T.v9 _) fun g0 => ?_; refine j8 ?_; refine d5 F.l4 rfl rfl (k9) j5 trivial fun x _ => ?_; obtain ⟨gC, gH0, gx, gy⟩ := x; refine r7 rfl (fun _ => T.v9 _) fun g3 => ?_; refine r4 rfl rfl (by first | exact .refl _ | exact perm2 _ _ _ | exact perm3 _ _ _ _ | exact perm4 _ _ _ _ _) T.d4 (by rfl) (by rfl) ?_; refine j8 ?_; refine d5 F.u4 rfl rfl (s1 (A := none) (n := 0) (cp := 0) [98, 97, 107, 101, 114] 1) j5 trivial fun _ _ => ?_; refine d5 F.I3 rfl rfl (D0 [98, 111, 110, 110, 101, 116, 115] 2) j5 trivial fun _ _ => ?_; refine d5 F.u4 rfl rfl (s1 (A := none) (n := 0) (cp := 0) [104, 97, 116, 116, 101, 114] 2) j5 trivial fun _ _ => ?_; refine d5 F.u4 rfl rfl (s1 (A := none) (n := 0) (cp := 0) [105, 114, 111, 110, 109, 111, 110, 103, 101, 114] 0) j5 trivial fun _ _ => ?_; refine j4 _ rfl rfl (fun _ => T.v0 ..) fun g1 => ?_; refine n0 (rows [(2 : Int)]) (List.prefix_refl _) ?_; refine d5 F.u4 rfl rfl (s1 (A := some ⟨g1, 0, none⟩) (n := 1) (cp := 1) [109, 101, 114, 99, 101, 114] 2) j5 trivial fun _ _ => ?_; refine d5 F.I3 rfl rfl (D0 [109, 105, 108, 108, 105, 110, 101, 114] 1) j5 trivial fun _ _ => ?_; refine j4 _ rfl rfl (fun _ => T.O7 ..) fun gH => ?_; refine n0 (rows (laterH g1)) (List.prefix_refl _) ?_
 first | refine a7 ⟨_, 1, none⟩ rfl rfl T.j0 rfl ?_ | refine a7 _ rfl rfl T.j0 rfl ?_
 refine z9 rfl rfl (by first | exact .refl _ | exact perm2 _ _ _ | exact perm3 _ _ _ _ | exact perm4 _ _ _ _ _) T.cW (by rfl) (by rfl) ?_; refine j8 ?_
 first | refine u6 rfl T.d6 T.d4 rfl mB (by rfl) ?_ | refine t9 rfl T.d6 T.d4 rfl mB (by rfl) ?_ | refine q6 rfl T.d6 T.d4 rfl rfl (m7 mB (n7 (by omega))) ?_
 refine r4 rfl rfl (by first | exact .refl _ | exact perm2 _ _ _ | exact perm3 _ _ _ _ | exact perm4 _ _ _ _ _) T.d4 (by rfl) (by rfl) ?_; refine d9 (k5 ?_); refine A4 (α := Int) ?_; refine O3 (Fs := (laterH g1).map Hd.row) (by intro F hF; left; simp only [laterH, List.map_cons, List.map_nil, List.mem_cons, List.not_mem_nil, or_false] at hF; rcases hF with rfl | rfl | rfl | rfl | rfl | rfl <;> repeat constructor) ?_; refine rB (A := some ⟨gH, 0, none⟩) (ps := laterH g1) (f := Hd.row) mB m0 ?_; refine cF (gC, gH, g1) rfl rfl T.d6 T.d4 rfl m0 rfl rfl trivial nil_sb ⟨mB, m0, trivial⟩
abbrev lsts (ps : List (Sl Int)) : List (List Int) := ps.map (·.l)
theorem bO (ps : List (Sl Int)) : (lsts ps).length = ps.length := List.length_map ..
theorem kS {ps : List (Sl Int)} {k : Nat} (hk : k < ps.length) : (lsts ps).take (k + 1) = (lsts ps).take k ++ [(ps.getD k default).l] := by
  have h1 : k < (lsts ps).length := by simpa using hk
  rw [List.take_succ_eq_append_getElem h1, u9 hk]
  simp
theorem cx2 (ps : List (Sl Int)) {k : Nat} (hk : k < ps.length) : (lsts ps).getD k [] = (ps.getD k default).l := by
  rw [u9 hk]
  simp [List.getD_eq_getElem?_getD, hk]
theorem cH {A B : Option Addr} {ca cb : Nat} (a b : List (Sl Int)) (ha : a.length ≤ 1000000) (hla : ∀ p ∈ a, p.l.length ≤ 1000000) :
    Meets Tryz.prog F.Y6 [.slice A a.length ca, .slice B b.length cb] { LI := [Rows2 A a, Rows2 B b], val := fun _ : Unit => .bool (decide (lsts a = lsts b)) } := by
 refine i7 F.wQ rfl p7 fun w0 => ?_; refine i4 (b7 rfl (d9 (i1 (i4 (a8 rfl ?_))))); refine k4 rfl T.bZ rfl (a8 rfl (k4 rfl T.bZ rfl ?_)); refine t3 rfl rfl rfl (d9 ?_)
 first | refine k8 rfl (fun hb1 => ?_) (fun hb1 => ?_) | refine i5 rfl (fun hb1 => ?_) (fun hb1 => ?_)
 ·have hb1' := hb1; try simp at hb1'
  have hb1 : ¬ lsts a = lsts b := fun e => by have := congrArg List.length e; rw [bO, bO] at this; omega
  refine i4 (b7 rfl (d9 (P8 ?_))); exact ret1 () rfl (by rw [decide_eq_false hb1]; rfl) rfl trivial (.refl _) trivial
 have hb1' := hb1; try simp at hb1'
 have hb1 : a.length = b.length := by omega
 refine ax2 (A := A) (ps := a) m0 (ax2 (A := B) (ps := b) m2 ?_); refine j3 (g6 (i1 (i4 (b7 rfl (d9 (i9 ?_)))))); refine p6 (β := Nat) ⟨fun k => k ≤ a.length ∧ (lsts a).take k = (lsts b).take k, fun k => [(0, .slice A a.length ca), (1, .slice B b.length cb), (5, int k)], fun _ => [], fun _ => [Row B (rows b), Row A (rows a), Rows2 A a, Rows2 B b]⟩ (fun k => a.length - k) 0 ⟨Nat.zero_le _, rfl⟩ mC (.refl _) ⟨m0, m1, m2, m3, trivial⟩ fun k hk => ?_; obtain ⟨hk, ht⟩ := hk; refine i1 (i4 (a8 rfl (a8 rfl ?_))); refine k4 rfl T.bZ rfl ?_; refine t7 rfl rfl rfl (d9 ?_)
 first | refine k8 rfl (fun hb2 => ?_) (fun hb2 => ?_) | refine i5 rfl (fun hb2 => ?_) (fun hb2 => ?_)
 ·have hb2' := hb2; try simp at hb2'
  have hk2 : k < a.length := by omega
  have hma := s6 hk2; have hmb := s6 (l := b) (k := k) (by omega); refine j3 (g6 (i1 (i9 (i1 ?_)))); refine C8 8 mixed (by decide) (by decide) rfl rfl (l3 (fun w1 => a8 rfl (q_z rfl)) (l3 (fun w1 => a8 rfl (q_z rfl)) (l3 (fun w1 => r9 (α := (Sl Int)) _ _ rfl T.bZ T.qC rfl rfl rfl mB rfl (by omega) (by decide) (q_z rfl)) (l3 (fun w1 => a6 rfl T.k6 rfl (d3 mB (b4 (by omega) rfl)) (q_z rfl)) (l3 (fun w1 => a8 rfl (q_z rfl)) (l3 (fun w1 => a8 rfl (q_z rfl)) (l3 (fun w1 => r9 (α := (Sl Int)) _ _ rfl T.bZ T.qC rfl rfl rfl mB rfl (by omega) (by decide) (q_z rfl)) ?_))))))); refine l3 (fun w1 => a6 rfl T.k6 rfl (d3 mB (b4 (by omega) rfl)) (q_z rfl)) ?_; refine w5 ⟨rfl, ?_⟩; refine ax0 (A := A) (ps := a) (p := a.getD k default) mB hma (ax0 (A := B) (ps := b) (p := b.getD k default) mB hmb ?_); refine d5 F.B9 rfl rfl (N2 (a.getD k default).l (b.getD k default).l (by have := hla _ hma; omega)) j5 ⟨m1, m0, trivial⟩ fun _ _ => ?_; refine B3 rfl rfl (d9 ?_)
  first | refine k8 rfl (fun hb3 => ?_) (fun hb3 => ?_) | refine i5 rfl (fun hb3 => ?_) (fun hb3 => ?_)
  ·have hb3' := hb3; try simp at hb3'
   have hne : ¬ (a.getD k default).l = (b.getD k default).l := by simpa using hb3'
   have hb3 : ¬ lsts a = lsts b := fun e => hne (by rw [← cx2 a hk2, ← cx2 b (by omega), e]); refine i4 (b7 rfl (d9 (k5 (B7 (z8 (B7 ?_)))))); exact ret1 () rfl (by rw [decide_eq_false hb3]; rfl) rfl trivial (.refl _) trivial
  have hb3' := hb3; try simp at hb3'
  have hq : (a.getD k default).l = (b.getD k default).l := by simpa using hb3'
  refine j3 (n9 (g6 (b9 (a8 rfl ?_)))); refine q9 _ rfl rfl rfl rfl n5 ?_; refine b7 rfl (b3 ?_); exact again _ (k + 1) ⟨by omega, by rw [kS hk2, kS (by omega), ht, hq]⟩ (r6 (by omega)) mC (.refl _) mC
 have hb2' := hb2; try simp at hb2'
 have hk2 : k = a.length := by omega
 refine n2 (t4 (n1 (g6 (i4 (b7 rfl (d9 (k5 ?_))))))); exact ret1 () rfl (by rw [decide_eq_true (cJ ht (by rw [bO]; omega) (by rw [bO]; omega))]; rfl) rfl trivial (.refl _) trivial
end Go.Proofs.YtfhninnleacgiaaGreat
end
