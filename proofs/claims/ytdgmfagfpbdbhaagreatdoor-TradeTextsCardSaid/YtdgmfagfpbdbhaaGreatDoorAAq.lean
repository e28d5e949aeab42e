/- Texts. -/

import Derived.Test.YtdgmfagfpbdbhaaGreatDoorAAl
set_option linter.unusedVariables false
set_option linter.unusedSimpArgs false
section
namespace Go.Proofs.YtdgmfagfpbdbhaaGreatDoor
open Go Go.W Tryz T F
set_option maxRecDepth 20000
attribute [local irreducible] HL HC HQ HB Row Rows2 Blk Facts
abbrev Td := Sl Cl × Sl Hd
instance : El Td where
  default := (⟨none, 0, []⟩, ⟨none, 0, []⟩)
  cells m := [.slice m.1.a m.1.l.length m.1.c, .slice m.2.a m.2.l.length m.2.c]
  sz := 2
  len _ := rfl
  one a u h := by simp at h; rcases h with h | h <;> subst h <;> rfl
abbrev Td.row (d : Td) : Fact := Facts [Row d.1.a (rows d.1.l), RowsF d.2.a d.2.l Hd.row]
structure TdOK (d : Td) : Prop where
  a : d.1.l.length ≤ d.1.c
  b : d.2.l.length ≤ d.2.c
  c : d.1.l.length ≤ 20
  h : d.2.l.length ≤ 20
  ha : ∀ h ∈ d.2.l, h.2.2.2.l.length ≤ 1000000
  wc : ∀ x ∈ d.1.l, x.1.length ≤ 1000
  wh : ∀ h ∈ d.2.l, h.1.length ≤ 1000
theorem wc_ok {cs : List Cl} {hs : List Hd} (hok : TrOK (trOf cs hs)) : ∀ x ∈ cs, x.1.length ≤ 1000 := by
  intro x hx; obtain ⟨i, hi, rfl⟩ := List.getElem_of_mem hx; have h1 := gx9 (hok.c i hi).w; rw [show (trOf cs hs).cs.getD i default = cs[i] from B8 hi] at h1
  omega
theorem wh_ok {cs : List Cl} {hs : List Hd} (hok : TrOK (trOf cs hs)) : ∀ h ∈ hs, h.1.length ≤ 1000 := by
  intro x hx; obtain ⟨i, hi, rfl⟩ := List.getElem_of_mem hx; have h1 := gx9 (gx3 hok hi); rw [B8 hi] at h1
  omega
set_option maxHeartbeats 1000000 in
theorem wS {A B A2 B2 : Option Addr} {ca cb ca2 cb2 : Nat} (cs : List Cl) (hs hs2 : List Hd) (hp : hs2.map Hd.p = hs.map Hd.p) (hc : cs.length ≤ 1000) (hh : hs.length ≤ 1000) (ha : ∀ h ∈ hs, h.2.2.2.l.length ≤ 1000000) : Meets prog jZ [.agg #[.slice A cs.length ca, .slice B hs.length cb], .agg #[.slice A2 cs.length ca2, .slice B2 hs2.length cb2]] { LI := [Row A (rows cs), RowsF B hs Hd.row, Row A2 (rows cs), RowsF B2 hs2 Hd.row], val := fun _ : Unit => .bool true } := by
 refine j3 zZ rfl v8 fun w0 => i4 (O3 rfl rfl fun gB => O3 rfl rfl fun gC => ?_); refine c5 rfl (c8 (Y7 ?_)); have hl := p_len hp; refine C3 (C3 (c9 ?_))
 first | refine a6 ⟨_, 0, none⟩ rfl rfl i9 rfl ?_ | refine a6 _ rfl rfl i9 rfl ?_
 first | refine a7 rfl b3 rfl (i2 mB rfl) ?_ | refine a7 rfl b3 rfl (d8 mB rfl) ?_ | refine a7 rfl b3 rfl (b7 mB (b4 (by omega) rfl)) ?_ | refine a7 rfl b3 rfl (b8 mB (rows_get (by omega) rfl)) ?_ | refine a7 rfl b3 rfl (d7 mB rfl) ?_
 refine k6 rfl n6 rfl ?_
 first | refine a6 ⟨_, 0, none⟩ rfl rfl i9 rfl ?_ | refine a6 _ rfl rfl i9 rfl ?_
 first | refine a7 rfl b3 rfl (i2 mB rfl) ?_ | refine a7 rfl b3 rfl (d8 mB rfl) ?_ | refine a7 rfl b3 rfl (b7 mB (b4 (by omega) rfl)) ?_ | refine a7 rfl b3 rfl (b8 mB (rows_get (by omega) rfl)) ?_ | refine a7 rfl b3 rfl (d7 mB rfl) ?_
 refine k6 rfl n6 rfl ?_; refine M8 rfl rfl rfl (b6 rfl ?_); refine v6 rfl rfl ?_ ?_
 ·intro hg1; have hg1' := hg1; try simp at hg1'
  refine k5 hg1 ?_
  first | refine a6 ⟨_, 1, none⟩ rfl rfl i3 rfl ?_ | refine a6 _ rfl rfl i3 rfl ?_
  refine k5 hg1 ?_
  first | refine a7 rfl b2 rfl (i2 mB rfl) ?_ | refine a7 rfl b2 rfl (d8 mB rfl) ?_ | refine a7 rfl b2 rfl (b7 mB (b4 (by omega) rfl)) ?_ | refine a7 rfl b2 rfl (b8 mB (rows_get (by omega) rfl)) ?_ | refine a7 rfl b2 rfl (d7 mB rfl) ?_
  refine k5 hg1 (k6 rfl n4 rfl (k5 hg1 ?_))
  first | refine a6 ⟨_, 1, none⟩ rfl rfl i3 rfl ?_ | refine a6 _ rfl rfl i3 rfl ?_
  refine k5 hg1 ?_
  first | refine a7 rfl b2 rfl (i2 mB rfl) ?_ | refine a7 rfl b2 rfl (d8 mB rfl) ?_ | refine a7 rfl b2 rfl (b7 mB (b4 (by omega) rfl)) ?_ | refine a7 rfl b2 rfl (b8 mB (rows_get (by omega) rfl)) ?_ | refine a7 rfl b2 rfl (d7 mB rfl) ?_
  refine k5 hg1 (k6 rfl n4 rfl ?_); refine k5 hg1 (M8 rfl rfl rfl ?_); refine p_f rfl rfl (bf1 hg1) rfl (c8 ?_)
  first | refine k9 rfl (fun hb1 => ?_) (fun hb1 => ?_) | refine j0 rfl (fun hb1 => ?_) (fun hb1 => ?_)
  ·exact absurd (by omega) hb1
  have hb1' := hb1; try simp at hb1'
  refine i8 (i1 (d6 (i4 (c5 rfl (c8 (j5 ?_)))))); refine u6 (β := Nat) ⟨fun k => k ≤ cs.length, fun k => [(2, .pointer (d9 gB)), (3, .pointer (d9 gC)), (5, int k)], fun _ => [], fun _ => [Blk gC (.cells #[.slice A2 cs.length ca2, .slice B2 hs2.length cb2] p8 (0, 0)), Blk gB (.cells #[.slice A cs.length ca, .slice B hs.length cb] p8 (0, 0)), Row A (rows cs), RowsF B hs Hd.row, Row A2 (rows cs), RowsF B2 hs2 Hd.row]⟩ (fun k => cs.length - k) 0 (Nat.zero_le _) mC nK mC fun k hk => ?_; simp only at hk; refine d6 (i4 (b6 rfl ?_))
  first | refine a6 ⟨_, 0, none⟩ rfl rfl i9 rfl ?_ | refine a6 _ rfl rfl i9 rfl ?_
  first | refine a7 rfl b3 rfl (i2 mB rfl) ?_ | refine a7 rfl b3 rfl (d8 mB rfl) ?_ | refine a7 rfl b3 rfl (b7 mB (b4 (by omega) rfl)) ?_ | refine a7 rfl b3 rfl (b8 mB (rows_get (by omega) rfl)) ?_ | refine a7 rfl b3 rfl (d7 mB rfl) ?_
  refine k6 rfl n6 rfl ?_; refine B5 rfl rfl rfl (c8 ?_)
  first | refine k9 rfl (fun hb2 => ?_) (fun hb2 => ?_) | refine j0 rfl (fun hb2 => ?_) (fun hb2 => ?_)
  ·have hb2' := hb2; try simp at hb2'
   have hk2 : k < cs.length := by omega
   refine i8 (i1 (d6 (j5 (d6 ?_)))); refine C0 10 mixed (by decide) (by decide) rfl rfl ?_
   apply k7 _ rfl rfl rfl
   ·intro w1
    first | refine a6 ⟨_, 0, none⟩ rfl rfl i9 rfl ?_ | refine a6 _ rfl rfl i9 rfl ?_
    refine b5 ?_; exact i5 rfl
   apply k7 _ rfl rfl rfl
   ·intro w1
    first | refine a7 rfl b3 rfl (d8 mB rfl) ?_ | refine a7 rfl b3 rfl (i2 mB rfl) ?_ | refine a7 rfl b3 rfl (b7 mB (b4 (by omega) rfl)) ?_ | refine a7 rfl b3 rfl (b8 mB (rows_get (by omega) rfl)) ?_ | refine a7 rfl b3 rfl (d7 mB rfl) ?_
    refine b5 ?_; exact i5 rfl
   refine r7 rfl (k8 (fun w1 => m7 (α := Cl) cs k rfl n6 u7 rfl rfl rfl mB rfl hk2 (by decide) (q_z rfl)) (k8 (fun w1 => z8 rfl L0 u7 rfl rfl (v9 mB (B3 (by omega))) (q_z rfl)) ?_))
   apply k7 _ rfl rfl rfl
   ·intro w1
    first | refine a6 ⟨_, 0, none⟩ rfl rfl i9 rfl ?_ | refine a6 _ rfl rfl i9 rfl ?_
    refine b5 ?_; exact i5 rfl
   apply k7 _ rfl rfl rfl
   ·intro w1
    first | refine a7 rfl b3 rfl (d8 mB rfl) ?_ | refine a7 rfl b3 rfl (i2 mB rfl) ?_ | refine a7 rfl b3 rfl (b7 mB (b4 (by omega) rfl)) ?_ | refine a7 rfl b3 rfl (b8 mB (rows_get (by omega) rfl)) ?_ | refine a7 rfl b3 rfl (d7 mB rfl) ?_
    refine b5 ?_; exact i5 rfl
   refine r7 rfl (k8 (fun w1 => m7 (α := Cl) cs k rfl n6 u7 rfl rfl rfl mB rfl hk2 (by decide) (q_z rfl)) (k8 (fun w1 => z8 rfl L0 u7 rfl rfl (v9 mB (B3 (by omega))) (q_z rfl)) ?_)); refine v7 ⟨rfl, ?_⟩; refine R7 _ rfl rfl rfl (fun _ => aq6 ..) (fun _ => aq2 ..) (c8 ?_)
   first | refine k9 rfl (fun hb3 => ?_) (fun hb3 => ?_) | refine j0 rfl (fun hb3 => ?_) (fun hb3 => ?_)
   ·exact absurd rfl hb3
   have hb3' := hb3; try simp at hb3'
   refine i8 (w6 (i1 (c9 (b6 rfl ?_)))); refine t5 _ rfl rfl rfl rfl q6 ?_; refine c5 rfl (b5 ?_); exact again _ (k + 1) (by show k + 1 ≤ cs.length; omega) (y8 (by omega)) mC nK mC
  have hb2' := hb2; try simp at hb2'
  refine t7 (C7 (t8 (i1 (d6 (i4 (c5 rfl (c8 (j5 ?_)))))))); refine S7 (ps := hs) (A := B) (f := Hd.row) mB (S7 (ps := hs2) (A := B2) (f := Hd.row) mB ?_); refine u6 (β := Nat) ⟨fun k => k ≤ hs.length, fun k => [(2, .pointer (d9 gB)), (3, .pointer (d9 gC)), (6, int k)], fun _ => [], fun _ => [Row B2 (rows hs2), Row B (rows hs), Blk gC (.cells #[.slice A2 cs.length ca2, .slice B2 hs2.length cb2] p8 (0, 0)), Blk gB (.cells #[.slice A cs.length ca, .slice B hs.length cb] p8 (0, 0)), Row A (rows cs), RowsF B hs Hd.row, Row A2 (rows cs), RowsF B2 hs2 Hd.row]⟩ (fun k => hs.length - k) 0 (Nat.zero_le _) mC nK mC fun k hk => ?_; simp only at hk; refine d6 (i4 (b6 rfl ?_))
  first | refine a6 ⟨_, 1, none⟩ rfl rfl i3 rfl ?_ | refine a6 _ rfl rfl i3 rfl ?_
  first | refine a7 rfl b2 rfl (i2 mB rfl) ?_ | refine a7 rfl b2 rfl (d8 mB rfl) ?_ | refine a7 rfl b2 rfl (b7 mB (b4 (by omega) rfl)) ?_ | refine a7 rfl b2 rfl (b8 mB (rows_get (by omega) rfl)) ?_ | refine a7 rfl b2 rfl (d7 mB rfl) ?_
  refine k6 rfl n4 rfl ?_; refine B5 rfl rfl rfl (c8 ?_)
  first | refine k9 rfl (fun hb4 => ?_) (fun hb4 => ?_) | refine j0 rfl (fun hb4 => ?_) (fun hb4 => ?_)
  ·have hb4' := hb4; try simp at hb4'
   have hk2 : k < hs.length := by omega
   have hk3 : k < hs2.length := by omega
   have he := p_at hp hk3; have e1 : (hs.getD k default).1 = (hs2.getD k default).1 := (congrArg (fun q : PH => q.1) he).symm; have e2 : (hs.getD k default).2.1 = (hs2.getD k default).2.1 := (congrArg (fun q : PH => q.2.1) he).symm; have e3 : (hs.getD k default).2.2.1 = (hs2.getD k default).2.2.1 := (congrArg (fun q : PH => q.2.2.1) he).symm; have e4 : (hs.getD k default).2.2.2.l = (hs2.getD k default).2.2.2.l := (congrArg (fun q : PH => q.2.2.2) he).symm; have hal := ha _ (w8 hk2); refine i8 (i1 (d6 (j5 (d6 ?_)))); refine H3 ([]) ([]) t4 13 [12, 10] mixed (by decide) (by decide) (by decide) rfl rfl rfl ?_
   apply k7 _ rfl rfl rfl
   ·intro w1
    first | refine a6 ⟨_, 1, none⟩ rfl rfl i3 rfl ?_ | refine a6 _ rfl rfl i3 rfl ?_
    refine b5 ?_; exact i5 rfl
   apply k7 _ rfl rfl rfl
   ·intro w1
    first | refine a7 rfl b2 rfl (d8 mB rfl) ?_ | refine a7 rfl b2 rfl (i2 mB rfl) ?_ | refine a7 rfl b2 rfl (b7 mB (b4 (by omega) rfl)) ?_ | refine a7 rfl b2 rfl (b8 mB (rows_get (by omega) rfl)) ?_ | refine a7 rfl b2 rfl (d7 mB rfl) ?_
    refine b5 ?_; exact i5 rfl
   refine r7 rfl (k8 (fun w1 => m7 (α := Hd) hs k rfl n4 l7 rfl rfl rfl mB rfl hk2 (by decide) (q_z rfl)) (k8 (fun w1 => z8 rfl C1 l7 rfl rfl (v9 mB (B3 (by omega))) (q_z rfl)) ?_))
   apply k7 _ rfl rfl rfl
   ·intro w1
    first | refine a6 ⟨_, 1, none⟩ rfl rfl i3 rfl ?_ | refine a6 _ rfl rfl i3 rfl ?_
    refine b5 ?_; exact i5 rfl
   apply k7 _ rfl rfl rfl
   ·intro w1
    first | refine a7 rfl b2 rfl (d8 mB rfl) ?_ | refine a7 rfl b2 rfl (i2 mB rfl) ?_ | refine a7 rfl b2 rfl (b7 mB (b4 (by omega) rfl)) ?_ | refine a7 rfl b2 rfl (b8 mB (rows_get (by omega) rfl)) ?_ | refine a7 rfl b2 rfl (d7 mB rfl) ?_
    refine b5 ?_; exact i5 rfl
   refine r7 rfl (k8 (fun w1 => m7 (α := Hd) hs2 k rfl n4 l7 rfl rfl rfl mB rfl hk3 (by decide) (q_z rfl)) (k8 (fun w1 => z8 rfl C1 l7 rfl rfl (v9 mB (B3 (by omega))) (q_z rfl)) ?_)); refine nE ⟨Nat, fun _ => True, fun g => .pointer (d9 g), fun _ => [], fun g => [(g, Obj.cells #[str [], int 0, int 0, .slice none 0 0] G0 (0, 0))]⟩ rfl rfl rfl ?_ ?_
   ·intro w1; refine u4 rfl (fun _ => G9 _) fun gA => b5 ?_; exact H4 gA tK (fun _ => rfl) (List.Sublist.refl _) tK
   refine jj4 ⟨Nat, fun _ => True, fun g => .pointer (d9 g), fun _ => [], fun g => [(g, Obj.cells #[str [], int 0, int 0, .slice none 0 0] G0 (0, 0))]⟩ rfl rfl rfl ?_ ?_
   ·intro w1; refine u4 rfl (fun _ => G9 _) fun gA => b5 ?_; exact H4 gA tK (fun _ => rfl) (List.Sublist.refl _) tK
   refine hb_stL ⟨Nat, fun _ => True, fun _ => undef, fun _ => [], fun g => [(g, Obj.cells #[str (hs.getD k default).1, int (hs.getD k default).2.1, int (hs.getD k default).2.2.1, .slice (hs.getD k default).2.2.2.a (hs.getD k default).2.2.2.l.length (hs.getD k default).2.2.2.c] G0 (0, 0))]⟩ [(7, 0)] rfl rfl rfl ?_ ?_
   ·intro ρ; intro x7 hx7 hr7 _; intro w1; refine l6 (cs := #[str (hs.getD k default).1, int (hs.getD k default).2.1, int (hs.getD k default).2.2.1, .slice (hs.getD k default).2.2.2.a (hs.getD k default).2.2.2.l.length (hs.getD k default).2.2.2.c]) rfl rfl (.refl _) l7 (by rfl) (by rfl) (b5 ?_); exact ql_done x7 tK (fun h => by cases h) (fun p hp => by simp at hp; subst hp; exact hr7 rfl) (List.Sublist.refl _) tK
   refine v7 ⟨rfl, ?_⟩; intro x7 _ x8 _ y7 _ hl7; obtain rfl : x7 = y7 := ptr_inj (hl7 (7, 0) (by simp) rfl _ rfl); refine dX (hp' := [(x8, Obj.cells #[str [], int 0, int 0, .slice none 0 0] G0 (0, 0)), (x7, Obj.cells #[str (hs.getD k default).1, int (hs.getD k default).2.1, int (hs.getD k default).2.2.1, .slice (hs.getD k default).2.2.2.a (hs.getD k default).2.2.2.l.length (hs.getD k default).2.2.2.c] G0 (0, 0))]) (show List.Perm (([(x7, Obj.cells #[str (hs.getD k default).1, int (hs.getD k default).2.1, int (hs.getD k default).2.2.1, .slice (hs.getD k default).2.2.2.a (hs.getD k default).2.2.2.l.length (hs.getD k default).2.2.2.c] G0 (0, 0))] ++ ([(x8, Obj.cells #[str [], int 0, int 0, .slice none 0 0] G0 (0, 0))] ++ [])) ++ []) ([(x8, Obj.cells #[str [], int 0, int 0, .slice none 0 0] G0 (0, 0)), (x7, Obj.cells #[str (hs.getD k default).1, int (hs.getD k default).2.1, int (hs.getD k default).2.2.1, .slice (hs.getD k default).2.2.2.a (hs.getD k default).2.2.2.l.length (hs.getD k default).2.2.2.c] G0 (0, 0))]) from (B1 fun p => by simp only [List.countP_append, List.countP_cons, List.countP_nil]; omega)) ?_; refine l6 rfl rfl X2 l7 (by rfl) (by rfl) ?_; refine c8 (d6 ?_); refine Q1 (rows [(hs2.getD k default)]) ⟨[], List.append_nil _⟩ (Q1 (rows [(hs.getD k default)]) ⟨[], List.append_nil _⟩ (iO (p := (hs.getD k default)) (f := Hd.row) (ps := hs) mB (w8 hk2) (iO (p := (hs2.getD k default)) (f := Hd.row) (ps := hs2) mB (w8 hk3) (c9 ?_))))
   first | refine a6 ⟨_, 0, none⟩ rfl rfl l9 rfl ?_ | refine a6 _ rfl rfl l9 rfl ?_
   first | refine a7 rfl a9 rfl (i2 mB rfl) ?_ | refine a7 rfl a9 rfl (d8 mB rfl) ?_ | refine a7 rfl a9 rfl (b7 mB (b4 (by omega) rfl)) ?_ | refine a7 rfl a9 rfl (b8 mB (rows_get (by omega) rfl)) ?_ | refine a7 rfl a9 rfl (d7 mB rfl) ?_
   first | refine a6 ⟨_, 0, none⟩ rfl rfl l9 rfl ?_ | refine a6 _ rfl rfl l9 rfl ?_
   first | refine a7 rfl a9 rfl (i2 mB rfl) ?_ | refine a7 rfl a9 rfl (d8 mB rfl) ?_ | refine a7 rfl a9 rfl (b7 mB (b4 (by omega) rfl)) ?_ | refine a7 rfl a9 rfl (b8 mB (rows_get (by omega) rfl)) ?_ | refine a7 rfl a9 rfl (d7 mB rfl) ?_
   refine iK rfl rfl rfl (b6 rfl ?_); refine v6 rfl rfl ?_ ?_
   ·intro hg2; have hg2' := hg2; try simp at hg2'
    refine k5 hg2 ?_
    first | refine a6 ⟨_, 1, none⟩ rfl rfl p7 rfl ?_ | refine a6 _ rfl rfl p7 rfl ?_
    refine k5 hg2 ?_
    first | refine a7 rfl a8 rfl (i2 mB rfl) ?_ | refine a7 rfl a8 rfl (d8 mB rfl) ?_ | refine a7 rfl a8 rfl (b7 mB (b4 (by omega) rfl)) ?_ | refine a7 rfl a8 rfl (b8 mB (rows_get (by omega) rfl)) ?_ | refine a7 rfl a8 rfl (d7 mB rfl) ?_
    refine k5 hg2 ?_
    first | refine a6 ⟨_, 1, none⟩ rfl rfl p7 rfl ?_ | refine a6 _ rfl rfl p7 rfl ?_
    refine k5 hg2 ?_
    first | refine a7 rfl a8 rfl (i2 mB rfl) ?_ | refine a7 rfl a8 rfl (d8 mB rfl) ?_ | refine a7 rfl a8 rfl (b7 mB (b4 (by omega) rfl)) ?_ | refine a7 rfl a8 rfl (b8 mB (rows_get (by omega) rfl)) ?_ | refine a7 rfl a8 rfl (d7 mB rfl) ?_
    refine k5 hg2 (M8 rfl rfl rfl ?_); refine p_f rfl rfl (bf1 hg2) rfl (b6 rfl ?_); refine v6 rfl rfl ?_ ?_
    ·intro hg3; have hg3' := hg3; try simp at hg3'
     refine k5 hg3 ?_
     first | refine a6 ⟨_, 2, none⟩ rfl rfl p6 rfl ?_ | refine a6 _ rfl rfl p6 rfl ?_
     refine k5 hg3 ?_
     first | refine a7 rfl a8 rfl (i2 mB rfl) ?_ | refine a7 rfl a8 rfl (d8 mB rfl) ?_ | refine a7 rfl a8 rfl (b7 mB (b4 (by omega) rfl)) ?_ | refine a7 rfl a8 rfl (b8 mB (rows_get (by omega) rfl)) ?_ | refine a7 rfl a8 rfl (d7 mB rfl) ?_
     refine k5 hg3 ?_
     first | refine a6 ⟨_, 2, none⟩ rfl rfl p6 rfl ?_ | refine a6 _ rfl rfl p6 rfl ?_
     refine k5 hg3 ?_
     first | refine a7 rfl a8 rfl (i2 mB rfl) ?_ | refine a7 rfl a8 rfl (d8 mB rfl) ?_ | refine a7 rfl a8 rfl (b7 mB (b4 (by omega) rfl)) ?_ | refine a7 rfl a8 rfl (b8 mB (rows_get (by omega) rfl)) ?_ | refine a7 rfl a8 rfl (d7 mB rfl) ?_
     refine k5 hg3 (M8 rfl rfl rfl ?_); refine p_f rfl rfl (bf1 hg3) rfl (b6 rfl ?_); refine v6 rfl rfl ?_ ?_
     ·intro hg4; have hg4' := hg4; try simp at hg4'
      refine k5 hg4 ?_
      first | refine a6 ⟨_, 3, none⟩ rfl rfl l5 rfl ?_ | refine a6 _ rfl rfl l5 rfl ?_
      refine k5 hg4 ?_
      first | refine a7 rfl k4 rfl (i2 mB rfl) ?_ | refine a7 rfl k4 rfl (d8 mB rfl) ?_ | refine a7 rfl k4 rfl (b7 mB (b4 (by omega) rfl)) ?_ | refine a7 rfl k4 rfl (b8 mB (rows_get (by omega) rfl)) ?_ | refine a7 rfl k4 rfl (d7 mB rfl) ?_
      refine k5 hg4 ?_
      first | refine a6 ⟨_, 3, none⟩ rfl rfl l5 rfl ?_ | refine a6 _ rfl rfl l5 rfl ?_
      refine k5 hg4 ?_
      first | refine a7 rfl k4 rfl (i2 mB rfl) ?_ | refine a7 rfl k4 rfl (d8 mB rfl) ?_ | refine a7 rfl k4 rfl (b7 mB (b4 (by omega) rfl)) ?_ | refine a7 rfl k4 rfl (b8 mB (rows_get (by omega) rfl)) ?_ | refine a7 rfl k4 rfl (d7 mB rfl) ?_
      refine k5 hg4 (j4 jA rfl rfl (iN (hs.getD k default).2.2.2.l (hs2.getD k default).2.2.2.l (by omega)) t4 mC fun _ _ => ?_); refine k5 hg4 (H6 rfl rfl ?_); refine p_f rfl rfl (bf1 hg4) rfl (c8 ?_)
      first | refine k9 rfl (fun hb5 => ?_) (fun hb5 => ?_) | refine j0 rfl (fun hb5 => ?_) (fun hb5 => ?_)
      ·exfalso; first | exact hb5 e4 | (rw [e4] at hb5; simp at hb5)
      have hb5' := hb5; try simp at hb5'
      refine i8 (w6 (i1 (c9 (b6 rfl ?_)))); refine t5 _ rfl rfl rfl rfl q6 ?_; refine c5 rfl (b5 ?_); exact again _ (k + 1) (by show k + 1 ≤ hs.length; omega) (y8 (by omega)) mC nK mC
     intro hg4; have hg4' := hg4; try simp at hg4'
     exfalso; rw [e3] at hg4; simp at hg4
    intro hg3; have hg3' := hg3; try simp at hg3'
    exfalso; rw [e2] at hg3; simp at hg3
   intro hg2; have hg2' := hg2; try simp at hg2'
   exfalso; rw [e1] at hg2; simp at hg2
  have hb4' := hb4; try simp at hb4'
  refine t7 (C7 (t8 (i1 (i4 (c5 rfl (c8 (l4 ?_))))))); exact ret1 () rfl rfl rfl tK nK tK
 intro hg1; have hg1' := hg1; try simp at hg1'
theorem zC {A B : Option Addr} {ca cb : Nat} (cs : List Cl) (hs : List Hd) (hc : cs.length ≤ 9223372036854775807) (hh : hs.length ≤ 9223372036854775807) : Meets prog mF [.agg #[.slice A cs.length ca, .slice B hs.length cb]] { LI := [Row A (rows cs), RowsF B hs Hd.row], inv := fun b : Bool => b = true → cs.length ≤ 20 ∧ hs.length ≤ 20 ∧ (∀ h ∈ hs, h.2.2.2.l.length ≤ 1000000) ∧ (∀ x ∈ cs, x.1.length ≤ 1000) ∧ ∀ h ∈ hs, h.1.length ≤ 1000, val := fun b => .bool b } := by
 refine j3 bq0 rfl v8 fun w0 => i4 (O3 rfl rfl fun gB => ?_); refine c5 rfl (c8 (Y7 (C3 (c9 ?_))))
 first | refine a6 ⟨_, 0, none⟩ rfl rfl i9 rfl ?_ | refine a6 _ rfl rfl i9 rfl ?_
 first | refine a7 rfl b3 rfl (i2 mB rfl) ?_ | refine a7 rfl b3 rfl (d8 mB rfl) ?_ | refine a7 rfl b3 rfl (b7 mB (b4 (by omega) rfl)) ?_ | refine a7 rfl b3 rfl (b8 mB (rows_get (by omega) rfl)) ?_ | refine a7 rfl b3 rfl (d7 mB rfl) ?_
 refine k6 rfl n6 rfl ?_; refine Q0 rfl rfl rfl (b6 rfl ?_); refine v6 rfl rfl ?_ ?_
 ·intro hg1; have hg1' := hg1; try simp at hg1'
  have g5 : ¬ (20 : Int) < cs.length := of_decide_eq_false (eq_of_beq hg1); refine k5 hg1 ?_
  first | refine a6 ⟨_, 1, none⟩ rfl rfl i3 rfl ?_ | refine a6 _ rfl rfl i3 rfl ?_
  refine k5 hg1 ?_
  first | refine a7 rfl b2 rfl (i2 mB rfl) ?_ | refine a7 rfl b2 rfl (d8 mB rfl) ?_ | refine a7 rfl b2 rfl (b7 mB (b4 (by omega) rfl)) ?_ | refine a7 rfl b2 rfl (b8 mB (rows_get (by omega) rfl)) ?_ | refine a7 rfl b2 rfl (d7 mB rfl) ?_
  refine k5 hg1 (k6 rfl n4 rfl ?_); refine k5 hg1 (Q0 rfl rfl rfl ?_); refine p_f rfl rfl (bf1 hg1) rfl (c8 ?_)
  first | refine k9 rfl (fun hb1 => ?_) (fun hb1 => ?_) | refine j0 rfl (fun hb1 => ?_) (fun hb1 => ?_)
  ·have hb1' := hb1; try simp at hb1'
   refine i4 (c5 rfl (c8 (E9 ?_))); exact ret1 false rfl rfl rfl (fun h => by cases h) nK tK
  have hb1' := hb1; try simp at hb1'
  have hc20 : cs.length ≤ 20 := by omega
  have hh20 : hs.length ≤ 20 := by omega
  refine i8 (i1 (d6 (i4 (c5 rfl (c8 (j5 ?_)))))); refine u6 (β := Nat) ⟨fun k => k ≤ cs.length ∧ ∀ j, j < k → (cs.getD j default).1.length ≤ 40, fun k => [(1, .pointer (d9 gB)), (3, int k)], fun _ => [], fun _ => [Blk gB (.cells #[.slice A cs.length ca, .slice B hs.length cb] p8 (0, 0)), Row A (rows cs), RowsF B hs Hd.row]⟩ (fun k => cs.length - k) 0 ⟨Nat.zero_le _, fun j hj => by omega⟩ mC nK mC fun k hk => ?_; obtain ⟨hk, hjc⟩ := hk; refine d6 (i4 (b6 rfl ?_))
  first | refine a6 ⟨_, 0, none⟩ rfl rfl i9 rfl ?_ | refine a6 _ rfl rfl i9 rfl ?_
  first | refine a7 rfl b3 rfl (i2 mB rfl) ?_ | refine a7 rfl b3 rfl (d8 mB rfl) ?_ | refine a7 rfl b3 rfl (b7 mB (b4 (by omega) rfl)) ?_ | refine a7 rfl b3 rfl (b8 mB (rows_get (by omega) rfl)) ?_ | refine a7 rfl b3 rfl (d7 mB rfl) ?_
  refine k6 rfl n6 rfl ?_; refine B5 rfl rfl rfl (c8 ?_)
  first | refine k9 rfl (fun hb2 => ?_) (fun hb2 => ?_) | refine j0 rfl (fun hb2 => ?_) (fun hb2 => ?_)
  ·have hb2' := hb2; try simp at hb2'
   have hk2 : k < cs.length := by omega
   refine i8 (i1 (d6 (j5 (i4 ?_))))
   first | refine a6 ⟨_, 0, none⟩ rfl rfl i9 rfl ?_ | refine a6 _ rfl rfl i9 rfl ?_
   first | refine a7 rfl b3 rfl (i2 mB rfl) ?_ | refine a7 rfl b3 rfl (d8 mB rfl) ?_ | refine a7 rfl b3 rfl (b7 mB (b4 (by omega) rfl)) ?_ | refine a7 rfl b3 rfl (b8 mB (rows_get (by omega) rfl)) ?_ | refine a7 rfl b3 rfl (d7 mB rfl) ?_
   refine b6 rfl (m7 (α := Cl) cs k rfl n6 u7 rfl rfl rfl mB rfl hk2 (by decide) ?_)
   first | refine a6 ⟨_, 0, none⟩ rfl rfl t9 rfl ?_ | refine a6 _ rfl rfl t9 rfl ?_
   refine a7 (v := str (cs.getD k default).1) rfl a9 rfl (b8 mB (rows_get hk2 rfl)) (G5 rfl q8 rfl ?_); refine Q0 rfl rfl rfl (c8 ?_)
   first | refine k9 rfl (fun hb3 => ?_) (fun hb3 => ?_) | refine j0 rfl (fun hb3 => ?_) (fun hb3 => ?_)
   ·have hb3' := hb3; try simp at hb3'
    refine i4 (c5 rfl (c8 (l4 (B7 (u5 (B7 ?_)))))); exact ret1 false rfl rfl rfl (fun h => by cases h) nK tK
   have hb3' := hb3; try simp at hb3'
   refine i8 (w6 (i1 (c9 (b6 rfl ?_)))); refine t5 _ rfl rfl rfl rfl q6 ?_; refine c5 rfl (b5 ?_); exact again _ (k + 1) ⟨by show k + 1 ≤ cs.length; omega, fun j hjk => by rcases Nat.lt_or_ge j k with h1 | h1; exact hjc j h1; rw [show j = k by omega]; omega⟩ (y8 (by omega)) mC nK mC
  have hb2' := hb2; try simp at hb2'
  obtain rfl : k = cs.length := by omega
  refine t7 (C7 (t8 (i1 (d6 (i4 (c5 rfl (c8 (j5 ?_)))))))); refine S7 (ps := hs) (A := B) (f := Hd.row) mB ?_; refine u6 (β := Nat) ⟨fun k => k ≤ hs.length ∧ ∀ j, j < k → (hs.getD j default).2.2.2.l.length ≤ 20 ∧ (hs.getD j default).1.length ≤ 40, fun k => [(1, .pointer (d9 gB)), (4, int k)], fun _ => [], fun _ => Row B (rows hs) :: [Blk gB (.cells #[.slice A cs.length ca, .slice B hs.length cb] p8 (0, 0)), Row A (rows cs), RowsF B hs Hd.row]⟩ (fun k => hs.length - k) 0 ⟨Nat.zero_le _, fun j hj => by omega⟩ mC nK mC fun k hk => ?_; obtain ⟨hk, hj⟩ := hk; refine d6 (i4 (b6 rfl ?_))
  first | refine a6 ⟨_, 1, none⟩ rfl rfl i3 rfl ?_ | refine a6 _ rfl rfl i3 rfl ?_
  first | refine a7 rfl b2 rfl (i2 mB rfl) ?_ | refine a7 rfl b2 rfl (d8 mB rfl) ?_ | refine a7 rfl b2 rfl (b7 mB (b4 (by omega) rfl)) ?_ | refine a7 rfl b2 rfl (b8 mB (rows_get (by omega) rfl)) ?_ | refine a7 rfl b2 rfl (d7 mB rfl) ?_
  refine k6 rfl n4 rfl ?_; refine B5 rfl rfl rfl (c8 ?_)
  first | refine k9 rfl (fun hb4 => ?_) (fun hb4 => ?_) | refine j0 rfl (fun hb4 => ?_) (fun hb4 => ?_)
  ·have hb4' := hb4; try simp at hb4'
   have hk2 : k < hs.length := by omega
   refine i8 (i1 (d6 (j5 (i4 ?_))))
   first | refine a6 ⟨_, 1, none⟩ rfl rfl i3 rfl ?_ | refine a6 _ rfl rfl i3 rfl ?_
   first | refine a7 rfl b2 rfl (i2 mB rfl) ?_ | refine a7 rfl b2 rfl (d8 mB rfl) ?_ | refine a7 rfl b2 rfl (b7 mB (b4 (by omega) rfl)) ?_ | refine a7 rfl b2 rfl (b8 mB (rows_get (by omega) rfl)) ?_ | refine a7 rfl b2 rfl (d7 mB rfl) ?_
   refine b6 rfl (m7 (α := Hd) hs k rfl n4 l7 rfl rfl rfl mB rfl hk2 (by decide) ?_)
   first | refine a6 ⟨_, 0, none⟩ rfl rfl l9 rfl ?_ | refine a6 _ rfl rfl l9 rfl ?_
   refine a7 (v := str (hs.getD k default).1) rfl a9 rfl (b8 mB (rows_get hk2 rfl)) (G5 rfl q8 rfl ?_); refine Q0 rfl rfl rfl (b6 rfl ?_); refine v6 rfl rfl ?_ ?_
   ·intro hg2; have hg2' := hg2; try simp at hg2'
    have g9 : ¬ (40 : Int) < (hs.getD k default).1.length := of_decide_eq_false (eq_of_beq hg2); refine k5 hg2 ?_
    first | refine a6 ⟨_, 1, none⟩ rfl rfl i3 rfl ?_ | refine a6 _ rfl rfl i3 rfl ?_
    refine k5 hg2 ?_
    first | refine a7 rfl b2 rfl (i2 mB rfl) ?_ | refine a7 rfl b2 rfl (d8 mB rfl) ?_ | refine a7 rfl b2 rfl (b7 mB (b4 (by omega) rfl)) ?_ | refine a7 rfl b2 rfl (b8 mB (rows_get (by omega) rfl)) ?_ | refine a7 rfl b2 rfl (d7 mB rfl) ?_
    refine k5 hg2 (b6 rfl (k5 hg2 ?_)); refine m7 (α := Hd) hs k rfl n4 l7 rfl rfl rfl mB rfl hk2 (by decide) (k5 hg2 ?_)
    first | refine a6 ⟨_, 3, none⟩ rfl rfl l5 rfl ?_ | refine a6 _ rfl rfl l5 rfl ?_
    refine k5 hg2 (a7 (v := .slice (hs.getD k default).2.2.2.a (hs.getD k default).2.2.2.l.length (hs.getD k default).2.2.2.c) rfl k4 rfl (b8 mB (rows_get hk2 rfl)) (k5 hg2 (k6 rfl A8 rfl ?_))); refine k5 hg2 (Q0 rfl rfl rfl ?_); refine p_f rfl rfl (bf1 hg2) rfl (c8 ?_)
    first | refine k9 rfl (fun hb5 => ?_) (fun hb5 => ?_) | refine j0 rfl (fun hb5 => ?_) (fun hb5 => ?_)
    ·have hb5' := hb5; try simp at hb5'
     refine i4 (c5 rfl (c8 (l4 (B7 (u5 (B7 ?_)))))); exact ret1 false rfl rfl rfl (fun h => by cases h) nK tK
    have hb5' := hb5; try simp at hb5'
    refine i8 (w6 (i1 (c9 (b6 rfl ?_)))); refine t5 _ rfl rfl rfl rfl q6 ?_; refine c5 rfl (b5 ?_); exact again _ (k + 1) ⟨by show k + 1 ≤ hs.length; omega, fun j hjk => by rcases Nat.lt_or_ge j k with h1 | h1; exact hj j h1; rw [show j = k by omega]; omega⟩ (y8 (by omega)) mC nK mC
   intro hg2; have hg2' := hg2; try simp at hg2'
   refine l8 hg2 (l8 hg2 (l8 hg2 (l8 hg2 (l8 hg2 (l8 hg2 (l8 hg2 (l8 hg2 ?_))))))); refine p_t rfl rfl (bt2 hg2) rfl ?_; refine c8 (c_t rfl rfl (i4 (c5 rfl (c8 (l4 (B7 (u5 ?_))))))); refine B7 ?_; exact ret1 false rfl rfl rfl (fun h => by cases h) nK tK
  have hb4' := hb4; try simp at hb4'
  obtain rfl : k = hs.length := by omega
  refine t7 (C7 (t8 (i1 (i4 (c5 rfl (c8 (l4 ?_))))))); exact ret1 true rfl rfl rfl (fun _ => ⟨hc20, hh20, fun h hm => by obtain ⟨j, hjl, rfl⟩ := List.getElem_of_mem hm; have h1 := hj j hjl; rw [B8 hjl] at h1; omega, fun x hm => by obtain ⟨j, hjl, rfl⟩ := List.getElem_of_mem hm; have h1 := hjc j hjl; rw [B8 hjl] at h1; omega, fun h hm => by obtain ⟨j, hjl, rfl⟩ := List.getElem_of_mem hm; have h1 := hj j hjl; rw [B8 hjl] at h1; omega⟩) nK tK
 intro hg1; have hg1' := hg1; try simp at hg1'
 refine l8 hg1 (l8 hg1 (l8 hg1 (l8 hg1 ?_))); refine p_t rfl rfl (bt2 hg1) rfl ?_; refine c8 (c_t rfl rfl (i4 (c5 rfl (c8 (E9 ?_))))); exact ret1 false rfl rfl rfl (fun h => by cases h) nK tK
end Go.Proofs.YtdgmfagfpbdbhaaGreatDoor
end
