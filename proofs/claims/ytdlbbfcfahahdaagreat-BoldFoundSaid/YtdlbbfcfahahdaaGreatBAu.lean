/- Texts of this claim, one behind another. -/
import Derived.ProofKit
import Derived.OpenShut
import Derived.ShutString
import Derived.ChangeOld
import Derived.Below
import Derived.SliceStrings
import Derived.ChangeSlices
import Derived.Deep.Slices
import Derived.Deep.Strs
import Derived.Conc.LeavingOf
import Derived.Test.YtdlbbfcfahahdaaGreatBAt
import Derived.Test.YtdlbbfcfahahdaaGreatBAq
import Derived.Test.YtdlbbfcfahahdaaGreatBAf
import Derived.Test.YtdlbbfcfahahdaaGreatBAa
set_option linter.unusedVariables false
set_option linter.unusedSimpArgs false
section
namespace Go.Proofs.YtdlbbfcfahahdaaGreat
open Go Go.W
set_option maxRecDepth 20000
attribute [local irreducible] HL HC HQ HB Row Rows2 Blk Facts
theorem dj1 {α : Type} [Inhabited α] {p : α → Prop} {l : List α} (h : ∀ j, j < l.length → p (l.getD j default)) : ∀ x ∈ l, p x := fun x hx => by
  obtain ⟨j, hj, rfl⟩ := List.getElem_of_mem hx; have := h j hj
  rwa [t5 hj] at this
theorem xW {A B : Option Addr} {ca cb : Nat} (cs : List Cl) (hs : List Hd) (hc : cs.length ≤ 9223372036854775807) (hh : hs.length ≤ 9223372036854775807) : Meets Tryz.prog F.sU [.agg #[.slice A cs.length ca, .slice B hs.length cb]] { LI := [Row A (rows cs), RowsF B hs Hd.row], inv := fun b : Bool => b = false → cs.length ≤ 20 ∧ hs.length ≤ 20 ∧ (∀ h ∈ hs, h.2.2.2.l.length ≤ 1000000) ∧ (∀ x ∈ cs, x.1.length ≤ 1000) ∧ ∀ h ∈ hs, h.1.length ≤ 1000, val := fun b => .bool b } := by
 refine i9 F.ix0 rfl t4 fun w0 => ?_; refine i5 ?_; refine C0 rfl rfl fun gB => ?_; refine b8 rfl (d6 (dV (Q8 (d9 (b8 rfl (d6 (i8 ?_))))))); refine Q7 (ps := hs) (A := B) (f := Hd.row) mB ?_; refine p9 (β := Nat) ⟨fun k => k ≤ hs.length ∧ ∀ j, j < k → (hs.getD j default).2.2.2.l.length ≤ 20 ∧ (hs.getD j default).1.length ≤ 40, fun k => [(1, .pointer (b4 gB)), (3, int k)], fun _ => [], fun _ => Row B (rows hs) :: [Blk gB (.cells #[.slice A cs.length ca, .slice B hs.length cb] T.k7 (0, 0)), Row A (rows cs), RowsF B hs Hd.row]⟩ (fun k => hs.length - k) 0 ⟨Nat.zero_le _, fun j hj => by omega⟩ mC nil_sb mC fun k hk => ?_; obtain ⟨hk, hj⟩ := hk; refine d7 (i5 (a9 rfl ?_)); refine a8 ⟨_, 1, none⟩ rfl rfl T.j4 rfl (c9 rfl T.j6 rfl (j9 mB rfl) (j3 rfl T.k9 rfl ?_)); refine u4 rfl rfl rfl (d6 ?_); refine m3 rfl (fun hb1 => ?_) (fun hb1 => ?_)
 ·have hb1' := hb1; try simp at hb1'
  have hk2 : k < hs.length := by omega
  refine i6 (d8 (d7 (i8 (i5 ?_)))); refine a8 ⟨_, 1, none⟩ rfl rfl T.j4 rfl (c9 rfl T.j6 rfl (j9 mB rfl) (a9 rfl (m7 (α := Hd) hs k rfl T.k9 T.u0 rfl rfl rfl mB rfl hk2 (by decide) (a8 _ rfl rfl T.u9 rfl (c9 (v := .slice (hs.getD k default).2.2.2.a (hs.getD k default).2.2.2.l.length (hs.getD k default).2.2.2.c) rfl T.m8 rfl (I6 mB (rows_get hk2 rfl)) (j3 rfl T.l4 rfl ?_)))))); refine H5 rfl rfl rfl (a9 rfl ?_); refine t7 rfl rfl ?_ ?_
  ·intro hg1; have hg1' := hg1; try simp at hg1'
   have g9 : ¬ (20 : Int) < (hs.getD k default).2.2.2.l.length := of_decide_eq_false (eq_of_beq hg1); refine i3 rfl rfl hg1 (a8 ⟨_, 1, none⟩ rfl rfl T.j4 rfl (i3 rfl rfl hg1 (c9 rfl T.j6 rfl (j9 mB rfl) ?_))); refine i3 rfl rfl hg1 (a9 rfl (i3 rfl rfl hg1 ?_)); refine m7 (α := Hd) hs k rfl T.k9 T.u0 rfl rfl rfl mB rfl hk2 (by decide) ?_; refine i3 rfl rfl hg1 (a8 _ rfl rfl T.D7 rfl (i3 rfl rfl hg1 ?_)); refine c9 (v := str (hs.getD k default).1) rfl T.z6 rfl (I6 mB (rows_get hk2 rfl)) (i3 rfl rfl hg1 (X6 rfl T.R8 rfl ?_)); refine i3 rfl rfl hg1 (H5 rfl rfl rfl ?_); refine p_f rfl rfl (bf1 hg1) rfl ?_; refine d6 ?_; refine m3 rfl (fun hb2 => ?_) (fun hb2 => ?_)
   ·have hb2' := hb2; try simp at hb2'
    refine i5 (b8 rfl (d6 (j5 (w8 (r6 (w8 ?_)))))); exact ret1 true rfl rfl rfl (fun h => by cases h) nil_sb trivial
   have hb2' := hb2; try simp at hb2'
   refine i6 (t6 (d8 (d9 (a9 rfl ?_)))); refine r7 _ rfl rfl rfl rfl m6 ?_; refine b8 rfl (c8 ?_); exact again _ (k + 1) ⟨by show k + 1 ≤ hs.length; omega, fun j hjk => by rcases Nat.lt_or_ge j k with h1 | h1; exact hj j h1; rw [show j = k by omega]; omega⟩ (u2 (by omega)) mC nil_sb mC
  intro hg1; have hg1' := hg1; try simp at hg1'
  refine k4 rfl rfl rfl rfl rfl hg1 (k4 rfl rfl rfl rfl rfl hg1 (k4 rfl rfl rfl rfl rfl hg1 (k4 rfl rfl rfl rfl rfl hg1 (k4 rfl rfl rfl rfl rfl hg1 (k4 rfl rfl rfl rfl rfl hg1 (k4 rfl rfl rfl rfl rfl hg1 (k4 rfl rfl rfl rfl rfl hg1 ?_))))))); refine p_t rfl rfl (bt2 hg1) rfl ?_; refine d6 (c_t rfl rfl (i5 (b8 rfl (d6 (j5 (w8 (r6 ?_))))))); refine w8 ?_; exact ret1 true rfl rfl rfl (fun h => by cases h) nil_sb trivial
 have hb1' := hb1; try simp at hb1'
 obtain rfl : k = hs.length := by omega
 refine p8 (v8 (p7 (d8 (d7 (i5 (b8 rfl (d6 (i8 ?_)))))))); refine p9 (β := Nat) ⟨fun k => k ≤ cs.length ∧ ∀ j, j < k → (cs.getD j default).1.length ≤ 40, fun k => [(1, .pointer (b4 gB)), (4, int k)], fun _ => [], fun _ => [Blk gB (.cells #[.slice A cs.length ca, .slice B hs.length cb] T.k7 (0, 0)), Row A (rows cs), RowsF B hs Hd.row]⟩ (fun k => cs.length - k) 0 ⟨Nat.zero_le _, fun j hj => by omega⟩ mC nil_sb mC fun k hk => ?_; obtain ⟨hk, hjc⟩ := hk; refine d7 (i5 (a9 rfl ?_)); refine a8 ⟨_, 0, none⟩ rfl rfl T.q8 rfl (c9 rfl T.q9 rfl (j9 mB rfl) (j3 rfl T.t9 rfl ?_)); refine u4 rfl rfl rfl (d6 ?_); refine m3 rfl (fun hb3 => ?_) (fun hb3 => ?_)
 ·have hb3' := hb3; try simp at hb3'
  have hk2 : k < cs.length := by omega
  refine i6 (d8 (d7 (i8 (i5 ?_)))); refine a8 ⟨_, 0, none⟩ rfl rfl T.q8 rfl (c9 rfl T.q9 rfl (j9 mB rfl) (a9 rfl (m7 (α := Cl) cs k rfl T.t9 T.A7 rfl rfl rfl mB rfl hk2 (by decide) (a8 _ rfl rfl T.K5 rfl (c9 (v := str (cs.getD k default).1) rfl T.z6 rfl (I6 mB (rows_get hk2 rfl)) (X6 rfl T.R8 rfl ?_)))))); refine H5 rfl rfl rfl (d6 ?_); refine m3 rfl (fun hb4 => ?_) (fun hb4 => ?_)
  ·have hb4' := hb4; try simp at hb4'
   refine i5 (b8 rfl (d6 (j5 (w8 (r6 (w8 ?_)))))); exact ret1 true rfl rfl rfl (fun h => by cases h) nil_sb trivial
  have hb4' := hb4; try simp at hb4'
  refine i6 (t6 (d8 (d9 (a9 rfl ?_)))); refine r7 _ rfl rfl rfl rfl m6 ?_; refine b8 rfl (c8 ?_); exact again _ (k + 1) ⟨by show k + 1 ≤ cs.length; omega, fun j hjk => by rcases Nat.lt_or_ge j k with h1 | h1; exact hjc j h1; rw [show j = k by omega]; omega⟩ (u2 (by omega)) mC nil_sb mC
 have hb3' := hb3; try simp at hb3'
 obtain rfl : k = cs.length := by omega
 refine p8 (v8 (p7 (d8 (i5 ?_)))); refine a8 ⟨_, 0, none⟩ rfl rfl T.q8 rfl (c9 rfl T.q9 rfl (j9 mB rfl) (j3 rfl T.t9 rfl ?_)); refine H5 rfl rfl rfl (a9 rfl ?_); refine t7 rfl rfl ?_ ?_
 ·intro hg2; have hg2' := hg2; try simp at hg2'
  have g5 : ¬ (20 : Int) < cs.length := of_decide_eq_false (eq_of_beq hg2); refine i3 rfl rfl hg2 (a8 ⟨_, 1, none⟩ rfl rfl T.j4 rfl (i3 rfl rfl hg2 (c9 rfl T.j6 rfl (j9 mB rfl) (i3 rfl rfl hg2 (j3 rfl T.k9 rfl ?_))))); refine i3 rfl rfl hg2 (H5 rfl rfl rfl ?_); refine p_f rfl rfl (bf1 hg2) rfl ?_; refine b8 rfl (d6 (j5 ?_)); exact ret1 (decide ((20 : Int) < hs.length)) rfl rfl rfl (fun h => ⟨by omega, by have := of_decide_eq_false h; omega, dj1 (p := fun x : Hd => x.2.2.2.l.length ≤ 1000000) fun j h1 => by have := (hj j h1).1; omega, dj1 (p := fun x : Cl => x.1.length ≤ 1000) fun j h1 => by have := hjc j h1; omega, dj1 (p := fun x : Hd => x.1.length ≤ 1000) fun j h1 => by have := (hj j h1).2; omega⟩) nil_sb trivial
 intro hg2; have hg2' := hg2; try simp at hg2'
 refine k4 rfl rfl rfl rfl rfl hg2 (k4 rfl rfl rfl rfl rfl hg2 (k4 rfl rfl rfl rfl rfl hg2 (k4 rfl rfl rfl rfl rfl hg2 ?_))); refine p_t rfl rfl (bt2 hg2) rfl ?_; refine b8 rfl (d6 (j5 ?_)); exact ret1 true rfl rfl rfl (fun h => by cases h) nil_sb trivial
theorem lz0 {cs : List Cl} {hs : List Hd} {pr ws : List Int} {p : Int} : (foundE cs hs pr ws p).1.length ≤ 1000000 := by
  unfold foundE
  split
  · exact Nat.zero_le _
  rename_i h0
  split
  · exact Nat.zero_le _
  split
  · exact Nat.zero_le _
  split
  · exact Nat.zero_le _
  split
  · exact Nat.zero_le _
  split
  · exact Nat.zero_le _
  split
  · exact Nat.zero_le _
  rename_i h9
  have h6 := (mT (Classical.not_not.1 h0)).h6; rw [E4] at h6
  rcases nj1 (t := trOf cs hs) (hs := hs) (pr := pr) (ws := ws) (p := p) with ⟨h1, _⟩ | ⟨_, h2⟩
  · exact absurd h1 h9
  obtain ⟨c, h3, _, h4⟩ := h2.1; rw [h4]; have h5 := h3.length_le; rw [uF] at h5; show c.length ≤ 1000000
  omega
theorem pj3 {cs : List Cl} {hs : List Hd} {ks : List Int} {p : Int} (h : hs.length ≤ 20) : (missE cs hs ks p).1.length ≤ 1000000 := by
  have h1 := xU (reachK (trOf cs hs) p hs.length) ks hs.length; unfold missE
  split
  · exact Nat.zero_le _
  split
  · exact Nat.zero_le _
  split
  · exact Nat.zero_le _
  show (missK (reachK (trOf cs hs) p hs.length) ks hs.length).length ≤ 1000000
  omega
theorem lx9 {cs : List Cl} {hs hs2 : List Hd} {pr ws : List Int} {p : Int} (hp : hs2.map Hd.p = hs.map Hd.p) : foundE cs hs2 pr ws p = foundE cs hs pr ws p := by
  have hl := bz4 hp; have ht : trOf cs hs2 = trOf cs hs := mq2 hp
  have hok : ∀ rs s, (∀ k ∈ s, 0 ≤ k ∧ k < (hs.length : Int)) → fndOK hs2 rs ws s = fndOK hs rs ws s := fun rs s hs9 => by
    unfold fndOK
    congr 1
    rw [Bool.eq_iff_iff, List.all_eq_true, List.all_eq_true]; refine forall_congr' fun k => forall_congr' fun hk => ?_; have h1 := hs9 k hk; have h2 : (hs2.getD k.toNat default).2.1 = (hs.getD k.toNat default).2.1 := congrArg (fun q : PH => q.2.1) (p_at hp (k := k.toNat) (by omega)); rw [h2]
  have hL : ∀ rs k, fndL hs2 rs pr ws k = fndL hs rs pr ws k := fun rs k => by
    unfold fndL; rw [hl]
    congr 1
    refine List.filter_congr fun s h9 => ?_; obtain ⟨m, _, rfl⟩ := List.mem_map.1 h9; exact hok rs _ fun v hv => bz2 hv
  have hB : fndB (trOf cs hs2) hs2 pr ws p = fndB (trOf cs hs) hs pr ws p := by
    unfold fndB; rw [hL, hl, ht]
  unfold foundE; rw [hB, hl, ht]
theorem bx9 {hs hs2 : List Hd} (hp : hs2.map Hd.p = hs.map Hd.p) : ∀ ks : List Int, placeE hs2 ks = placeE hs ks
  | [] => rfl
  | v :: r => by
    have hl := bz4 hp; rw [placeE, placeE, bx9 hp r, hl]
    by_cases h : 0 ≤ v ∧ v ≤ (hs.length : Int) - 1
    · have h2 : (hs2.getD v.toNat default).2.1 = (hs.getD v.toNat default).2.1 := congrArg (fun q : PH => q.2.1) (p_at hp (k := v.toNat) (by omega))
      rw [h2]
    rw [if_pos h, if_pos h]
theorem pj2 {cs : List Cl} {hs hs2 : List Hd} {ks : List Int} {p : Int} (hp : hs2.map Hd.p = hs.map Hd.p) : missE cs hs2 ks p = missE cs hs ks p := by
  have hl := bz4 hp; have ht : trOf cs hs2 = trOf cs hs := mq2 hp; unfold missE; rw [bx9 hp, hl, ht]
set_option maxHeartbeats 2000000 in
theorem lV {A0 B0 PA WA HA N : Option Addr} {ca0 cb0 pc wc hc nc : Nat} (cs0 : List Cl) (hs0 : List Hd) (pr0 ws0 hd0 : List Int) (st : Int) (nums : List Int) (hca0 : cs0.length ≤ ca0 ∧ ca0 ≤ 9223372036854775807) (hcb0 : hs0.length ≤ cb0 ∧ cb0 ≤ 9223372036854775807) (hz1 : pr0.length ≤ 9223372036854775807) (hz2 : ws0.length ≤ 9223372036854775807) (hz3 : hd0.length ≤ 9223372036854775807) (hn : nums.length ≤ 9223372036854775807) : Meets Tryz.prog F.lB [.agg #[.slice A0 cs0.length ca0, .slice B0 hs0.length cb0], .slice PA pr0.length pc, .slice WA ws0.length wc, .slice HA hd0.length hc, int st, .slice N nums.length nc] { LI := [Row A0 (rows cs0), RowsF B0 hs0 Hd.row, Row PA (rows pr0), Row WA (rows ws0), Row HA (rows hd0), Row N (rows nums)], val := fun _ : Unit => .bool true } := by
 refine i9 F.vP rfl t4 fun w0 => ?_; refine i5 ?_; refine C0 rfl rfl fun gB => ?_; refine b8 rfl (d6 (dV (Q8 (d9 ?_)))); refine E0 rfl T.m4 T.k8 rfl mB (by rfl) ?_; refine j0 F.dx4 rfl rfl (xW cs0 hs0 (by omega) (by omega)) l7 mC fun bs hbs => ?_; refine a9 rfl ?_; refine t7 rfl rfl ?_ ?_
 ·intro hg1; have hg1' := hg1; try simp at hg1'
  have hbf : bs = false := by simpa using hg1
  obtain ⟨hc20, hh20, hha, hwc, hwh⟩ := hbs hbf; refine i3 rfl rfl hg1 (a9 rfl (i3 rfl rfl hg1 ?_)); refine j3 rfl T.l4 rfl ?_; refine i3 rfl rfl hg1 (H5 rfl rfl rfl ?_); refine p_f rfl rfl (bf1 hg1) rfl (a9 rfl ?_); refine t7 rfl rfl ?_ ?_
  ·intro hg2; have hg2' := hg2; try simp at hg2'
   have g8 : ¬ (20 : Int) < pr0.length := of_decide_eq_false (eq_of_beq hg2); refine i3 rfl rfl hg2 (a9 rfl (i3 rfl rfl hg2 ?_)); refine j3 rfl T.l4 rfl ?_; refine i3 rfl rfl hg2 (H5 rfl rfl rfl ?_); refine p_f rfl rfl (bf1 hg2) rfl (a9 rfl ?_); refine t7 rfl rfl ?_ ?_
   ·intro hg3; have hg3' := hg3; try simp at hg3'
    have g13 : ¬ (20 : Int) < ws0.length := of_decide_eq_false (eq_of_beq hg3); refine i3 rfl rfl hg3 (a9 rfl (i3 rfl rfl hg3 ?_)); refine j3 rfl T.l4 rfl ?_; refine i3 rfl rfl hg3 (H5 rfl rfl rfl ?_); refine p_f rfl rfl (bf1 hg3) rfl ?_; refine d6 ?_; refine m3 rfl (fun hb1 => ?_) (fun hb1 => ?_)
    ·have hb1' := hb1; try simp at hb1'
     refine i5 ?_; refine j0 F.O1 rfl rfl (K3) l7 trivial fun _ _ => ?_; refine b8 rfl (d6 (G0 ?_)); exact ret1 () rfl rfl rfl trivial nil_sb trivial
    have hb1' := hb1; try simp at hb1'
    have hp20 : pr0.length ≤ 20 := by omega
    have hw20 : ws0.length ≤ 20 := by omega
    have hd20 : hd0.length ≤ 20 := by omega
    have hTD : TdOK ((⟨A0, ca0, cs0⟩, ⟨B0, cb0, hs0⟩) : Td) := ⟨hca0.1, hcb0.1, hc20, hh20, hha, hwc, hwh⟩; refine i6 (d8 (i5 (a9 rfl ?_))); refine j0 F.cj5 rfl rfl (vS nums) l7 mC fun g _ => ?_; refine b8 rfl (j8 (a9 rfl ?_)); refine j0 F.aj6 rfl rfl (sX 3 6 hn (dok0 nums) (by decide) (by decide)) l7 mC fun x hx => ?_; obtain ⟨sd, cs, hs, ⟨CA, ca⟩, ⟨HB, cb⟩⟩ := x; obtain ⟨hsd, hT⟩ := hx; have hca : cs.length ≤ ca := hT.ca; have hcb : hs.length ≤ cb := hT.cb; have ha : ∀ h ∈ hs, h.2.2.2.l.length ≤ 1000000 := hT.ha; have hT0 : checkT (trOf cs hs) = 0 := hT.ok; have hok : TrOK (trOf cs hs) := mT hT0; clear hT; have h6 : cs.length ≤ 6 := hok.c6; have h6h := hok.h6; have hln := E4 cs hs; rw [hln] at h6h; have hcl : ∀ i, i < cs.length → ClsOK cs i := hok.c; refine B6 rfl (fun _ => T.O7 _) fun gT => ?_; refine B9 (cs := #[.slice CA cs.length ca, .slice HB hs.length cb]) rfl rfl (.refl _) T.k8 (by rfl) (by rfl) ?_; refine d6 (d7 (Q8 ?_)); have hMD : TdOK ((⟨CA, ca, cs⟩, ⟨HB, cb, hs⟩) : Td) := ⟨hca, hcb, by show cs.length ≤ 20; omega, by show hs.length ≤ 20; omega, ha, wc_ok hok, wh_ok hok⟩; refine d9 ?_; refine a8 ⟨_, 1, none⟩ rfl rfl T.j4 rfl (c9 (v := .slice HB hs.length cb) rfl T.j6 rfl (j9 mB rfl) (j3 rfl T.k9 rfl ?_)); refine b8 rfl (d6 (d7 ?_)); refine I8 ([dice g N nc nums sd]) ([]) (.refl _) 31 [24, 19, 13, 7] mixed (by decide) (by decide) (by decide) rfl rfl rfl (i4 (fun w1 => E0 rfl T.m4 T.k8 rfl mB (by rfl) (q_z rfl)) (i4 (fun w1 => E0 rfl T.m4 T.k8 rfl mB (by rfl) (q_z rfl)) (i4 (fun w1 => E0 rfl T.m4 T.k8 rfl mB (by rfl) (q_z rfl)) ?_))); refine E2 ⟨Nat, fun _ => True, fun g => .slice (b4 g) 3 3, fun g => [Row (b4 g) (rows ([((⟨A0, ca0, cs0⟩, ⟨B0, cb0, hs0⟩) : Td), ((⟨CA, ca, cs⟩, ⟨HB, cb, hs⟩) : Td), ((⟨CA, ca, cs⟩, ⟨HB, cb, hs⟩) : Td)] : List Td))]⟩ rfl rfl rfl ?_ ?_
    ·intro w1; refine l6 _ rfl rfl (fun _ => T.wN ..) fun gL => ?_; refine c8 ?_; refine C3 (rows ([((⟨A0, ca0, cs0⟩, ⟨B0, cb0, hs0⟩) : Td), ((⟨CA, ca, cs⟩, ⟨HB, cb, hs⟩) : Td), ((⟨CA, ca, cs⟩, ⟨HB, cb, hs⟩) : Td)] : List Td)) (List.prefix_refl _) ?_; exact w3 gL trivial rfl ⟨m0, trivial⟩
    refine i4 (fun w1 => a9 rfl (q_z rfl)) (i4 (fun w1 => a9 rfl (q_z rfl)) (i4 (fun w1 => a9 rfl (q_z rfl)) ?_)); refine cI ⟨(Int × Int) × List Int × OutC, fun x => DOK nums x.1 ∧ x.2.1.length ≤ 20, fun x => .slice x.2.2.1 x.2.1.length x.2.2.2, fun x => [Row x.2.2.1 (rows x.2.1)], fun x => [dice g N nc nums x.1]⟩ rfl rfl rfl ?_ ?_
    ·intro w1; refine j0 F.aj7 rfl rfl (sY hs.length hn hsd (by omega)) l7 mC fun xs2 hs2 => ?_; obtain ⟨s2, y⟩ := xs2; obtain ⟨hs2, hy⟩ := hs2; simp only at hs2; obtain ⟨ls2, as2, cs2⟩ := y; obtain ⟨hls2, _, _⟩ := hy; simp only at hls2; refine c8 ?_; exact H6 (s2, ls2, as2, cs2) ⟨hs2, by show ls2.length ≤ 20; omega⟩ (fun _ => rfl) (List.Sublist.refl _) mC
    refine i4 (fun w1 => a9 rfl (q_z rfl)) ?_; refine E2 ⟨Nat × List (Sl Int), fun x => x.2.length = 3 ∧ ∀ p ∈ x.2, p.l.length ≤ 20, fun x => .slice (some ⟨x.1, 0, none⟩) 3 3, fun x => [Row (some ⟨x.1, 0, none⟩) (rows x.2), Rows2 (some ⟨x.1, 0, none⟩) x.2]⟩ rfl rfl rfl ?_ ?_
    ·intro y7 hy7; intro w1; refine l6 _ rfl rfl (fun _ => T.tM ..) fun gP => ?_; refine c8 ?_; refine C3 (rows ([⟨PA, pc, pr0⟩, ⟨y7.2.2.1, y7.2.2.2, y7.2.1⟩, ⟨PA, pc, pr0⟩] : List (Sl Int))) (List.prefix_refl _) ?_; refine vZ (A := some ⟨gP, 0, none⟩) (ps := ([⟨PA, pc, pr0⟩, ⟨y7.2.2.1, y7.2.2.2, y7.2.1⟩, ⟨PA, pc, pr0⟩] : List (Sl Int))) mB (by intro p hp; simp only [List.mem_cons, List.not_mem_nil, or_false] at hp; rcases hp with rfl | rfl | rfl; exact mB; exact mB; exact mB) ?_; exact w3 (gP, ([⟨PA, pc, pr0⟩, ⟨y7.2.2.1, y7.2.2.2, y7.2.1⟩, ⟨PA, pc, pr0⟩] : List (Sl Int))) ⟨rfl, (by intro p hp; simp only [List.mem_cons, List.not_mem_nil, or_false] at hp; rcases hp with rfl | rfl | rfl; omega; exact hy7.2; omega)⟩ rfl mC
    refine i4 (fun w1 => a9 rfl (q_z rfl)) (i4 (fun w1 => a9 rfl (q_z rfl)) (i4 (fun w1 => a9 rfl (q_z rfl)) ?_)); refine cI ⟨(Int × Int) × List Int × OutC, fun x => DOK nums x.1 ∧ x.2.1.length ≤ 20, fun x => .slice x.2.2.1 x.2.1.length x.2.2.2, fun x => [Row x.2.2.1 (rows x.2.1)], fun x => [dice g N nc nums x.1]⟩ rfl rfl rfl ?_ ?_
    ·intro y7 hy7; intro w1; refine j0 F.nW rfl rfl (cY hs.length 3 hn hy7.1 (by omega) (by decide)) l7 mC fun xs3 hs3 => ?_; obtain ⟨s3, y⟩ := xs3; obtain ⟨hs3, hy⟩ := hs3; simp only at hs3; obtain ⟨ls3, as3, cs3⟩ := y; obtain ⟨hls3, _, _⟩ := hy; simp only at hls3; refine c8 ?_; exact H6 (s3, ls3, as3, cs3) ⟨hs3, by show ls3.length ≤ 20; omega⟩ (fun _ => rfl) (List.Sublist.refl _) mC
    refine i4 (fun w1 => a9 rfl (q_z rfl)) ?_; refine E2 ⟨Nat × List (Sl Int), fun x => x.2.length = 3 ∧ ∀ p ∈ x.2, p.l.length ≤ 20, fun x => .slice (some ⟨x.1, 0, none⟩) 3 3, fun x => [Row (some ⟨x.1, 0, none⟩) (rows x.2), Rows2 (some ⟨x.1, 0, none⟩) x.2]⟩ rfl rfl rfl ?_ ?_
    ·intro y13 hy13; intro w1; refine l6 _ rfl rfl (fun _ => T.tM ..) fun gW => ?_; refine c8 ?_; refine C3 (rows ([⟨WA, wc, ws0⟩, ⟨y13.2.2.1, y13.2.2.2, y13.2.1⟩, ⟨WA, wc, ws0⟩] : List (Sl Int))) (List.prefix_refl _) ?_; refine vZ (A := some ⟨gW, 0, none⟩) (ps := ([⟨WA, wc, ws0⟩, ⟨y13.2.2.1, y13.2.2.2, y13.2.1⟩, ⟨WA, wc, ws0⟩] : List (Sl Int))) mB (by intro p hp; simp only [List.mem_cons, List.not_mem_nil, or_false] at hp; rcases hp with rfl | rfl | rfl; exact mB; exact mB; exact mB) ?_; exact w3 (gW, ([⟨WA, wc, ws0⟩, ⟨y13.2.2.1, y13.2.2.2, y13.2.1⟩, ⟨WA, wc, ws0⟩] : List (Sl Int))) ⟨rfl, (by intro p hp; simp only [List.mem_cons, List.not_mem_nil, or_false] at hp; rcases hp with rfl | rfl | rfl; omega; exact hy13.2; omega)⟩ rfl mC
    refine i4 (fun w1 => a9 rfl (q_z rfl)) (i4 (fun w1 => a9 rfl (q_z rfl)) (i4 (fun w1 => a9 rfl (q_z rfl)) ?_)); refine cI ⟨(Int × Int) × List Int × OutC, fun x => DOK nums x.1 ∧ x.2.1.length ≤ 20, fun x => .slice x.2.2.1 x.2.1.length x.2.2.2, fun x => [Row x.2.2.1 (rows x.2.1)], fun x => [dice g N nc nums x.1]⟩ rfl rfl rfl ?_ ?_
    ·intro y13 hy13; intro w1; refine j0 F.nW rfl rfl (cY hs.length 2 hn hy13.1 (by omega) (by decide)) l7 mC fun xs4 hs4 => ?_; obtain ⟨s4, y⟩ := xs4; obtain ⟨hs4, hy⟩ := hs4; simp only at hs4; obtain ⟨ls4, as4, cs4⟩ := y; obtain ⟨hls4, _, _⟩ := hy; simp only at hls4; refine c8 ?_; exact H6 (s4, ls4, as4, cs4) ⟨hs4, by show ls4.length ≤ 20; omega⟩ (fun _ => rfl) (List.Sublist.refl _) mC
    refine i4 (fun w1 => a9 rfl (q_z rfl)) ?_; refine E2 ⟨Nat × List (Sl Int), fun x => x.2.length = 3 ∧ ∀ p ∈ x.2, p.l.length ≤ 20, fun x => .slice (some ⟨x.1, 0, none⟩) 3 3, fun x => [Row (some ⟨x.1, 0, none⟩) (rows x.2), Rows2 (some ⟨x.1, 0, none⟩) x.2]⟩ rfl rfl rfl ?_ ?_
    ·intro y19 hy19; intro w1; refine l6 _ rfl rfl (fun _ => T.tM ..) fun gH => ?_; refine c8 ?_; refine C3 (rows ([⟨HA, hc, hd0⟩, ⟨y19.2.2.1, y19.2.2.2, y19.2.1⟩, ⟨HA, hc, hd0⟩] : List (Sl Int))) (List.prefix_refl _) ?_; refine vZ (A := some ⟨gH, 0, none⟩) (ps := ([⟨HA, hc, hd0⟩, ⟨y19.2.2.1, y19.2.2.2, y19.2.1⟩, ⟨HA, hc, hd0⟩] : List (Sl Int))) mB (by intro p hp; simp only [List.mem_cons, List.not_mem_nil, or_false] at hp; rcases hp with rfl | rfl | rfl; exact mB; exact mB; exact mB) ?_; exact w3 (gH, ([⟨HA, hc, hd0⟩, ⟨y19.2.2.1, y19.2.2.2, y19.2.1⟩, ⟨HA, hc, hd0⟩] : List (Sl Int))) ⟨rfl, (by intro p hp; simp only [List.mem_cons, List.not_mem_nil, or_false] at hp; rcases hp with rfl | rfl | rfl; omega; exact hy19.2; omega)⟩ rfl mC
    refine i4 (fun w1 => a9 rfl (q_z rfl)) (i4 (fun w1 => a9 rfl (q_z rfl)) ?_); refine cI ⟨(Int × Int) × Int, fun x => DOK nums x.1, fun x => int x.2, fun _ => [], fun x => [dice g N nc nums x.1]⟩ rfl rfl rfl ?_ ?_
    ·intro y19 hy19; intro w1; refine j0 F.D2 rfl rfl (A5 (3) hn hy19.1 (by omega)) l7 mC fun xs5 hs5 => ?_; obtain ⟨s5, z⟩ := xs5; obtain ⟨hs5, hz⟩ := hs5; simp only at hs5; have hz : 0 ≤ z ∧ z ≤ 3 := gq3 hz (by omega); refine c8 ?_; exact H6 (s5, z) hs5 (fun _ => rfl) (List.Sublist.refl _) trivial
    refine i4 (fun w1 => a9 rfl (q_z rfl)) ?_; refine E2 ⟨Nat × List Int, fun x => x.2.length = 3, fun x => .slice (some ⟨x.1, 0, none⟩) 3 3, fun x => [Row (some ⟨x.1, 0, none⟩) (rows x.2)]⟩ rfl rfl rfl ?_ ?_
    ·intro y24 hy24; intro w1; refine l6 _ rfl rfl (fun _ => T.bK ..) fun gK => ?_; refine c8 ?_; refine C3 (rows ([st, y24.2, st] : List Int)) (List.prefix_refl _) ?_; exact w3 (gK, [st, y24.2, st]) rfl rfl ⟨m0, trivial⟩
    refine E2 ⟨Nat, fun _ => True, fun g => .slice (b4 g) 3 3, fun g => [Row (b4 g) (rows ([((⟨A0, ca0, cs0⟩, ⟨B0, cb0, hs0⟩) : Td), ((⟨CA, ca, cs⟩, ⟨HB, cb, hs⟩) : Td), ((⟨CA, ca, cs⟩, ⟨HB, cb, hs⟩) : Td)] : List Td))]⟩ rfl rfl rfl ?_ ?_
    ·intro x hx; intro w1; refine b8 rfl (c8 ?_); exact w3 x hx rfl mC
    refine E2 ⟨Nat × List (Sl Int), fun x => x.2.length = 3 ∧ ∀ p ∈ x.2, p.l.length ≤ 20, fun x => .slice (some ⟨x.1, 0, none⟩) 3 3, fun x => [Row (some ⟨x.1, 0, none⟩) (rows x.2), Rows2 (some ⟨x.1, 0, none⟩) x.2]⟩ rfl rfl rfl ?_ ?_
    ·intro x hx; intro w1; refine b8 rfl (c8 ?_); exact w3 x hx rfl mC
    refine E2 ⟨Nat × List (Sl Int), fun x => x.2.length = 3 ∧ ∀ p ∈ x.2, p.l.length ≤ 20, fun x => .slice (some ⟨x.1, 0, none⟩) 3 3, fun x => [Row (some ⟨x.1, 0, none⟩) (rows x.2), Rows2 (some ⟨x.1, 0, none⟩) x.2]⟩ rfl rfl rfl ?_ ?_
    ·intro x hx; intro w1; refine b8 rfl (c8 ?_); exact w3 x hx rfl mC
    refine E2 ⟨Nat × List (Sl Int), fun x => x.2.length = 3 ∧ ∀ p ∈ x.2, p.l.length ≤ 20, fun x => .slice (some ⟨x.1, 0, none⟩) 3 3, fun x => [Row (some ⟨x.1, 0, none⟩) (rows x.2), Rows2 (some ⟨x.1, 0, none⟩) x.2]⟩ rfl rfl rfl ?_ ?_
    ·intro x hx; intro w1; refine b8 rfl (c8 ?_); exact w3 x hx rfl mC
    refine v9 ⟨rfl, ?_⟩; intro _ _ _ _ _ _ _ _ _ _ _ _ _ _ _ _ xk hkl3 gL _ xp hxp xw hxw xh hxh; obtain ⟨gK, kl⟩ := xk; obtain ⟨gP, pl⟩ := xp; obtain ⟨gW, wl⟩ := xw; obtain ⟨gH, hl⟩ := xh; obtain ⟨hpl3, hpl20⟩ := hxp; obtain ⟨hwl3, hwl20⟩ := hxw; obtain ⟨hhl3, hhl20⟩ := hxh; simp only at hkl3 hpl3 hwl3 hhl3 hpl20 hwl20 hhl20; refine b8 rfl (d6 (dV ?_)); refine cH (Fs := [Row ((⟨A0, ca0, cs0⟩, ⟨B0, cb0, hs0⟩) : Td).1.a (rows ((⟨A0, ca0, cs0⟩, ⟨B0, cb0, hs0⟩) : Td).1.l), RowsF ((⟨A0, ca0, cs0⟩, ⟨B0, cb0, hs0⟩) : Td).2.a ((⟨A0, ca0, cs0⟩, ⟨B0, cb0, hs0⟩) : Td).2.l Hd.row]) (by intro F hF; simp only [List.mem_cons, List.not_mem_nil, or_false] at hF; rcases hF with rfl | rfl; exact .inl mB; exact .inl mB) ?_; refine cH (Fs := [Row ((⟨CA, ca, cs⟩, ⟨HB, cb, hs⟩) : Td).1.a (rows ((⟨CA, ca, cs⟩, ⟨HB, cb, hs⟩) : Td).1.l), RowsF ((⟨CA, ca, cs⟩, ⟨HB, cb, hs⟩) : Td).2.a ((⟨CA, ca, cs⟩, ⟨HB, cb, hs⟩) : Td).2.l Hd.row]) (by intro F hF; simp only [List.mem_cons, List.not_mem_nil, or_false] at hF; rcases hF with rfl | rfl; exact .inl mB; exact .inl mB) ?_; refine cH (Fs := ([((⟨A0, ca0, cs0⟩, ⟨B0, cb0, hs0⟩) : Td), ((⟨CA, ca, cs⟩, ⟨HB, cb, hs⟩) : Td), ((⟨CA, ca, cs⟩, ⟨HB, cb, hs⟩) : Td)] : List Td).map Td.row) (by intro F hF; simp only [List.map_cons, List.map_nil, List.mem_cons, List.not_mem_nil, or_false] at hF; rcases hF with rfl | rfl | rfl <;> exact .inl mB) ?_; refine kj7 (A := some ⟨gL, 0, none⟩) (ps := ([((⟨A0, ca0, cs0⟩, ⟨B0, cb0, hs0⟩) : Td), ((⟨CA, ca, cs⟩, ⟨HB, cb, hs⟩) : Td), ((⟨CA, ca, cs⟩, ⟨HB, cb, hs⟩) : Td)] : List Td)) (f := Td.row) mB mB ?_; obtain ⟨dl, hdl⟩ : ∃ dl : List Td, dl = ([((⟨A0, ca0, cs0⟩, ⟨B0, cb0, hs0⟩) : Td), ((⟨CA, ca, cs⟩, ⟨HB, cb, hs⟩) : Td), ((⟨CA, ca, cs⟩, ⟨HB, cb, hs⟩) : Td)] : List Td) := ⟨_, rfl⟩; rw [← hdl]; have hdl3 : dl.length = 3 := by rw [hdl]; rfl
    have hdal : ∀ d ∈ dl, TdOK d := by rw [hdl]; intro d hd; simp only [List.mem_cons, List.not_mem_nil, or_false] at hd; rcases hd with rfl | rfl | rfl; exact hTD; exact hMD; exact hMD
    refine d9 (b8 rfl (d6 (i8 ?_))); refine p9 (β := Nat) ⟨fun i => i ≤ 3, fun i => [(16, .slice (b4 gL) 3 3), (17, .slice (b4 gP) 3 3), (18, .slice (b4 gW) 3 3), (19, .slice (b4 gH) 3 3), (20, .slice (b4 gK) 3 3), (21, int i)], fun _ => [], fun _ => [Row (b4 gL) (rows dl), RowsF (b4 gL) dl Td.row, Row (b4 gP) (rows pl), Rows2 (b4 gP) pl, Row (b4 gW) (rows wl), Rows2 (b4 gW) wl, Row (b4 gH) (rows hl), Rows2 (b4 gH) hl, Row (b4 gK) (rows kl)]⟩ (fun i => 3 - i) 0 (Nat.zero_le _) mC nil_sb mC fun i hi => ?_; simp only at hi; refine d7 (i5 (a9 rfl (a9 rfl ?_))); refine j3 rfl T.P6 rfl ?_; refine u4 rfl rfl rfl (d6 ?_); refine m3 rfl (fun hb2 => ?_) (fun hb2 => ?_)
    ·have hb2' := hb2; try simp at hb2'
     have hi2 : i < 3 := by omega
     obtain ⟨d, hdd⟩ : ∃ d, d = dl.getD i default := ⟨_, rfl⟩; have hdm : d ∈ dl := by rw [hdd]; exact n0 (by omega)
     have hdo := hdal d hdm; have hd20 := hdo.c; have hdh20 := hdo.h; have hdha := hdo.ha; refine iO (p := d) (f := Td.row) (ps := dl) mB hdm ?_; refine mz9 (F := Row d.1.a (rows d.1.l)) (Fs := [Row d.1.a (rows d.1.l), RowsF d.2.a d.2.l Hd.row]) mB (by simp) ?_; refine mz9 (F := RowsF d.2.a d.2.l Hd.row) (Fs := [Row d.1.a (rows d.1.l), RowsF d.2.a d.2.l Hd.row]) mB (by simp) ?_; obtain ⟨x1, hx1⟩ : ∃ x, x = pl.getD i default := ⟨_, rfl⟩; obtain ⟨x2, hx2⟩ : ∃ x, x = wl.getD i default := ⟨_, rfl⟩; obtain ⟨x3, hx3⟩ : ∃ x, x = hl.getD i default := ⟨_, rfl⟩; obtain ⟨kk, hkk⟩ : ∃ x, x = kl.getD i default := ⟨_, rfl⟩; have hm1 : x1 ∈ pl := by rw [hx1]; exact n0 (by omega)
     have hm2 : x2 ∈ wl := by rw [hx2]; exact n0 (by omega)
     have hm3 : x3 ∈ hl := by rw [hx3]; exact n0 (by omega)
     have hb1 := hpl20 x1 hm1; have hb2 := hwl20 x2 hm2; have hb3 := hhl20 x3 hm3; refine wD (A := some ⟨gP, 0, none⟩) (ps := pl) (p := x1) mB hm1 (wD (A := some ⟨gW, 0, none⟩) (ps := wl) (p := x2) mB hm2 (wD (A := some ⟨gH, 0, none⟩) (ps := hl) (p := x3) mB hm3 ?_)); refine i6 (d8 (d7 (i8 (d7 ?_)))); refine I8 ([]) ([]) (.refl _) 21 [20] mixed (by decide) (by decide) (by decide) rfl rfl rfl (i4 (fun w1 => a9 rfl (q_z rfl)) (i4 (fun w1 => a9 rfl (q_z rfl)) (i4 (fun w1 => m7 (α := Td) dl i rfl T.P6 T.k8 rfl rfl rfl mB hdl3.symm (by omega) (by decide) (q_z rfl)) ?_))); refine i4 (fun w1 => D9 (cs := El.cells d) rfl T.m4 T.k8 rfl rfl (B4 mB (by rw [hdd]; exact D1 (by omega))) (q_z rfl)) ?_; refine E2 ⟨Td, fun x => x.1.l = d.1.l ∧ x.2.l.map Hd.p = d.2.l.map Hd.p ∧ x.1.l.length ≤ x.1.c ∧ x.2.l.length ≤ x.2.c, fun x => .agg #[.slice x.1.a x.1.l.length x.1.c, .slice x.2.a x.2.l.length x.2.c], fun x => [Row x.1.a (rows x.1.l), RowsF x.2.a x.2.l Hd.row]⟩ rfl rfl rfl ?_ ?_
     ·intro w1; refine j0 F.yB rfl rfl (vT (A := d.1.a) (B := d.2.a) (ca := d.1.c) (cb := d.2.c) d.1.l d.2.l (by omega) (by omega) hdo.a hdo.b hdha) (hpR := []) l7 mC fun x hD => ?_; obtain ⟨⟨⟨a3, c3⟩, o3⟩, hs2, ⟨⟨a7, c7⟩, o7⟩⟩ := x; have hp2 : hs2.map Hd.p = d.2.l.map Hd.p := hD.p; have hDa : GrowE T.Y7 2 a3 d.1.l.length c3 (rows d.1.l) o3 := hD.a; have hDb : GrowE T.C5 4 a7 hs2.length c7 (rows hs2) o7 := hD.b; have hc3 := hDa.le; have hc7 := hDb.le; clear hD; refine ix9 (show List.Perm ((o7 ++ o3) ++ []) (o3 ++ (o7 ++ [])) from (E1 fun p => by simp only [List.countP_append, List.countP_cons, List.countP_nil]; omega)) ?_; refine gz0 hDa (gz0 hDb ?_); refine rx4 (A := a7) (ps := hs2) (f := Hd.row) mB mB ?_; refine c8 ?_; exact w3 ((⟨a3, c3, d.1.l⟩, ⟨a7, c7, hs2⟩) : Td) ⟨rfl, hp2, hc3, hc7⟩ rfl mC
     refine i4 (fun w1 => a9 rfl (q_z rfl)) (i4 (fun w1 => a9 rfl (q_z rfl)) (i4 (fun w1 => m7 (α := Sl Int) pl i rfl T.L4 T.K8 rfl rfl rfl mB hpl3.symm (by omega) (by decide) (q_z rfl)) ?_)); refine i4 (fun w1 => c9 (v := .slice x1.a x1.l.length x1.c) rfl T.m8 rfl (l8 mB (by rw [hx1]; exact k6 (by omega) rfl)) (q_z rfl)) ?_; refine E2 ⟨OutC, fun z => x1.l.length ≤ z.2, fun z => .slice z.1 x1.l.length z.2, fun z => [Row z.1 (rows x1.l)]⟩ rfl rfl rfl ?_ ?_
     ·intro w1; refine j0 F.V8 rfl rfl (P3 (A := x1.a) (c := x1.c) x1.l (by omega)) (hpR := []) l7 mC fun z hz => ?_; refine c8 ?_; exact w3 z hz rfl ⟨m0, trivial⟩
     refine i4 (fun w1 => a9 rfl (q_z rfl)) (i4 (fun w1 => a9 rfl (q_z rfl)) (i4 (fun w1 => m7 (α := Sl Int) wl i rfl T.L4 T.K8 rfl rfl rfl mB hwl3.symm (by omega) (by decide) (q_z rfl)) ?_)); refine i4 (fun w1 => c9 (v := .slice x2.a x2.l.length x2.c) rfl T.m8 rfl (l8 mB (by rw [hx2]; exact k6 (by omega) rfl)) (q_z rfl)) ?_; refine E2 ⟨OutC, fun z => x2.l.length ≤ z.2, fun z => .slice z.1 x2.l.length z.2, fun z => [Row z.1 (rows x2.l)]⟩ rfl rfl rfl ?_ ?_
     ·intro w1; refine j0 F.V8 rfl rfl (P3 (A := x2.a) (c := x2.c) x2.l (by omega)) (hpR := []) l7 mC fun z hz => ?_; refine c8 ?_; exact w3 z hz rfl ⟨m0, trivial⟩
     refine i4 (fun w1 => a9 rfl (q_z rfl)) (i4 (fun w1 => a9 rfl (q_z rfl)) (i4 (fun w1 => m7 (α := Sl Int) hl i rfl T.L4 T.K8 rfl rfl rfl mB hhl3.symm (by omega) (by decide) (q_z rfl)) ?_)); refine i4 (fun w1 => c9 (v := .slice x3.a x3.l.length x3.c) rfl T.m8 rfl (l8 mB (by rw [hx3]; exact k6 (by omega) rfl)) (q_z rfl)) ?_; refine E2 ⟨OutC, fun z => x3.l.length ≤ z.2, fun z => .slice z.1 x3.l.length z.2, fun z => [Row z.1 (rows x3.l)]⟩ rfl rfl rfl ?_ ?_
     ·intro w1; refine j0 F.V8 rfl rfl (P3 (A := x3.a) (c := x3.c) x3.l (by omega)) (hpR := []) l7 mC fun z hz => ?_; refine c8 ?_; exact w3 z hz rfl ⟨m0, trivial⟩
     refine cI ⟨Nat, fun _ => True, fun g => .pointer (b4 g), fun _ => [], fun g => [(g, Obj.cells #[.slice none 0 0, .slice none 0 0] T.k7 (0, 0))]⟩ rfl rfl rfl ?_ ?_
     ·intro w1; refine B6 rfl (fun _ => T.O7 _) fun gX => ?_; refine c8 ?_; exact H6 gX trivial (fun _ => rfl) (List.Sublist.refl _) trivial
     refine v9 ⟨rfl, ?_⟩; intro D hD p2 hp2 w2 hw2 h2 hh2 gO _; obtain ⟨⟨a3, c3, cs2⟩, ⟨a7, c7, hs2⟩⟩ := D; obtain ⟨hDc, hDp, hc3, hc7⟩ := hD; simp only at hDc hDp hc3 hc7; subst hDc; obtain ⟨pa, pc2⟩ := p2; obtain ⟨wa, wc2⟩ := w2; obtain ⟨ha9, hc9⟩ := h2; refine B9 (cs := #[.slice a3 d.1.l.length c3, .slice a7 hs2.length c7]) rfl rfl (.refl _) T.k8 (by rfl) (by rfl) ?_; refine b8 rfl (b8 rfl (b8 rfl (d6 (d7 (Q8 ?_))))); have hl2 := bz4 hDp; have ha2 := ha_same hDp hdha; have hF := jA (PA := pa) (WA := wa) (pc := pc2) (wc := wc2) (A := a3) (B := a7) (ca := c3) (cb := c7) d.1.l hs2 x1.l x2.l kk hc3 hc7 ha2 (by omega) (by omega); have hM := xB (S := ha9) (sc := hc9) (A := a3) (B := a7) (ca := c3) (cb := c7) d.1.l hs2 x3.l kk hc3 hc7 ha2 (by omega); rw [lx9 hDp] at hF; rw [pj2 hDp] at hM; have hfl := lz0 (cs := d.1.l) (hs := d.2.l) (pr := x1.l) (ws := x2.l) (p := kk); have hml := pj3 (cs := d.1.l) (ks := x3.l) (p := kk) hdh20; refine A6 14 mixed (by decide) (by decide) rfl rfl (i4 (fun w1 => E0 rfl T.m4 T.k8 rfl mB (by rfl) (q_z rfl)) (i4 (fun w1 => a9 rfl (q_z rfl)) (i4 (fun w1 => a9 rfl (q_z rfl)) (i4 (fun w1 => a9 rfl (q_z rfl)) (i4 (fun w1 => a9 rfl (q_z rfl)) (i4 (fun w1 => m7 (α := Int) kl i rfl T.l4 T.q7 rfl rfl rfl mB hkl3.symm (by omega) (by decide) (q_z rfl)) ?_)))))); refine i4 (fun w1 => c9 (v := int kk) rfl T.i7 rfl (l8 mB (by rw [hkk]; exact k6 (by omega) rfl)) (q_z rfl)) ?_; refine E2 ⟨OutC, fun _ => True, fun y => .tuple #[.slice y.1 (foundE d.1.l d.2.l x1.l x2.l kk).1.length y.2, int (foundE d.1.l d.2.l x1.l x2.l kk).2.1, int (foundE d.1.l d.2.l x1.l x2.l kk).2.2], fun y => [Row y.1 (rows (foundE d.1.l d.2.l x1.l x2.l kk).1)]⟩ rfl rfl rfl ?_ ?_
     ·intro w1; refine j0 F.rL rfl rfl (hF) l7 mC fun y _ => ?_; refine c8 ?_; exact w3 y trivial rfl ⟨m0, trivial⟩
     refine E2 ⟨OutC, fun _ => True, fun y => .tuple #[.slice y.1 (foundE d.1.l d.2.l x1.l x2.l kk).1.length y.2, int (foundE d.1.l d.2.l x1.l x2.l kk).2.1, int (foundE d.1.l d.2.l x1.l x2.l kk).2.2], fun y => [Row y.1 (rows (foundE d.1.l d.2.l x1.l x2.l kk).1)]⟩ rfl rfl rfl ?_ ?_
     ·intro y hy; intro w1; refine a9 rfl (c8 ?_); exact w3 y hy rfl ⟨m0, trivial⟩
     refine E2 ⟨OutC, fun _ => True, fun y => .slice y.1 (foundE d.1.l d.2.l x1.l x2.l kk).1.length y.2, fun y => [Row y.1 (rows (foundE d.1.l d.2.l x1.l x2.l kk).1)]⟩ rfl rfl rfl ?_ ?_
     ·intro y hy; intro w1; refine u5 rfl rfl rfl (c8 ?_); exact w3 y hy rfl ⟨m0, trivial⟩
     apply q6 _ rfl rfl rfl
     ·intro y hy; intro w1; refine u5 rfl rfl rfl (c8 ?_); exact j7 rfl
     apply q6 _ rfl rfl rfl
     ·intro y hy; intro w1; refine u5 rfl rfl rfl (c8 ?_); exact j7 rfl
     refine E2 ⟨OutC, fun _ => True, fun y => .slice y.1 (foundE d.1.l d.2.l x1.l x2.l kk).1.length y.2, fun y => [Row y.1 (rows (foundE d.1.l d.2.l x1.l x2.l kk).1)]⟩ rfl rfl rfl ?_ ?_
     ·intro y hy; intro w1; refine b8 rfl (c8 ?_); exact w3 y hy rfl ⟨m0, trivial⟩
     refine i4 (fun w1 => b8 rfl (q_z rfl)) ?_; refine v9 ⟨rfl, ?_⟩; intro _ _ _ _ _ _ q1 _; refine b8 rfl (d6 (d7 ?_)); refine A6 23 mixed (by decide) (by decide) rfl rfl (i4 (fun w1 => a9 rfl (q_z rfl)) (i4 (fun w1 => a9 rfl (q_z rfl)) (i4 (fun w1 => m7 (α := Td) dl i rfl T.P6 T.k8 rfl rfl rfl mB hdl3.symm (by omega) (by decide) (q_z rfl)) ?_))); refine i4 (fun w1 => D9 (cs := El.cells d) rfl T.m4 T.k8 rfl rfl (B4 mB (by rw [hdd]; exact D1 (by omega))) (q_z rfl)) ?_; refine i4 (fun w1 => a9 rfl (q_z rfl)) (i4 (fun w1 => a9 rfl (q_z rfl)) (i4 (fun w1 => m7 (α := Sl Int) pl i rfl T.L4 T.K8 rfl rfl rfl mB hpl3.symm (by omega) (by decide) (q_z rfl)) ?_)); refine i4 (fun w1 => c9 (v := .slice x1.a x1.l.length x1.c) rfl T.m8 rfl (l8 mB (by rw [hx1]; exact k6 (by omega) rfl)) (q_z rfl)) ?_; refine i4 (fun w1 => a9 rfl (q_z rfl)) (i4 (fun w1 => a9 rfl (q_z rfl)) (i4 (fun w1 => m7 (α := Sl Int) wl i rfl T.L4 T.K8 rfl rfl rfl mB hwl3.symm (by omega) (by decide) (q_z rfl)) ?_)); refine i4 (fun w1 => c9 (v := .slice x2.a x2.l.length x2.c) rfl T.m8 rfl (l8 mB (by rw [hx2]; exact k6 (by omega) rfl)) (q_z rfl)) ?_; refine i4 (fun w1 => a9 rfl (q_z rfl)) (i4 (fun w1 => a9 rfl (q_z rfl)) (i4 (fun w1 => m7 (α := Int) kl i rfl T.l4 T.q7 rfl rfl rfl mB hkl3.symm (by omega) (by decide) (q_z rfl)) ?_)); refine i4 (fun w1 => c9 (v := int kk) rfl T.i7 rfl (l8 mB (by rw [hkk]; exact k6 (by omega) rfl)) (q_z rfl)) ?_; refine E2 ⟨OutC, fun _ => True, fun y => .tuple #[.slice y.1 (foundE d.1.l d.2.l x1.l x2.l kk).1.length y.2, int (foundE d.1.l d.2.l x1.l x2.l kk).2.1, int (foundE d.1.l d.2.l x1.l x2.l kk).2.2], fun y => [Row y.1 (rows (foundE d.1.l d.2.l x1.l x2.l kk).1)]⟩ rfl rfl rfl ?_ ?_
     ·intro w1; refine j0 F.bx1 rfl rfl (uR (A := d.1.a) (B := d.2.a) (ca := d.1.c) (cb := d.2.c) d.1.l d.2.l x1.l x2.l kk (by omega) (by omega) hdo.wc hdo.wh hdha (by omega) (by omega)) l7 mC fun y _ => ?_; refine c8 ?_; exact w3 y trivial rfl ⟨m0, trivial⟩
     refine E2 ⟨OutC, fun _ => True, fun y => .tuple #[.slice y.1 (foundE d.1.l d.2.l x1.l x2.l kk).1.length y.2, int (foundE d.1.l d.2.l x1.l x2.l kk).2.1, int (foundE d.1.l d.2.l x1.l x2.l kk).2.2], fun y => [Row y.1 (rows (foundE d.1.l d.2.l x1.l x2.l kk).1)]⟩ rfl rfl rfl ?_ ?_
     ·intro y hy; intro w1; refine a9 rfl (c8 ?_); exact w3 y hy rfl ⟨m0, trivial⟩
     refine E2 ⟨OutC, fun _ => True, fun y => .slice y.1 (foundE d.1.l d.2.l x1.l x2.l kk).1.length y.2, fun y => [Row y.1 (rows (foundE d.1.l d.2.l x1.l x2.l kk).1)]⟩ rfl rfl rfl ?_ ?_
     ·intro y hy; intro w1; refine u5 rfl rfl rfl (c8 ?_); exact w3 y hy rfl ⟨m0, trivial⟩
     apply q6 _ rfl rfl rfl
     ·intro y hy; intro w1; refine u5 rfl rfl rfl (c8 ?_); exact j7 rfl
     apply q6 _ rfl rfl rfl
     ·intro y hy; intro w1; refine u5 rfl rfl rfl (c8 ?_); exact j7 rfl
     refine E2 ⟨OutC, fun _ => True, fun y => .slice y.1 (foundE d.1.l d.2.l x1.l x2.l kk).1.length y.2, fun y => [Row y.1 (rows (foundE d.1.l d.2.l x1.l x2.l kk).1)]⟩ rfl rfl rfl ?_ ?_
     ·intro y hy; intro w1; refine b8 rfl (c8 ?_); exact w3 y hy rfl ⟨m0, trivial⟩
     refine i4 (fun w1 => b8 rfl (q_z rfl)) ?_; refine v9 ⟨rfl, ?_⟩; intro _ _ _ _ _ _ q2 _; refine b8 rfl (d6 (d7 ?_)); refine A6 11 mixed (by decide) (by decide) rfl rfl (i4 (fun w1 => E0 rfl T.m4 T.k8 rfl mB (by rfl) (q_z rfl)) (i4 (fun w1 => a9 rfl (q_z rfl)) (i4 (fun w1 => a9 rfl (q_z rfl)) (i4 (fun w1 => a9 rfl (q_z rfl)) (i4 (fun w1 => m7 (α := Int) kl i rfl T.l4 T.q7 rfl rfl rfl mB hkl3.symm (by omega) (by decide) (q_z rfl)) ?_))))); refine i4 (fun w1 => c9 (v := int kk) rfl T.i7 rfl (l8 mB (by rw [hkk]; exact k6 (by omega) rfl)) (q_z rfl)) ?_; refine E2 ⟨OutC, fun y => (missE d.1.l d.2.l x3.l kk).1.length ≤ y.2, fun y => .tuple #[.slice y.1 (missE d.1.l d.2.l x3.l kk).1.length y.2, int (missE d.1.l d.2.l x3.l kk).2], fun y => [Row y.1 (rows (missE d.1.l d.2.l x3.l kk).1)]⟩ rfl rfl rfl ?_ ?_
     ·intro w1; refine j0 F.cz5 rfl rfl (hM) l7 mC fun y hy => ?_; refine c8 ?_; exact w3 y hy rfl ⟨m0, trivial⟩
     refine E2 ⟨OutC, fun y => (missE d.1.l d.2.l x3.l kk).1.length ≤ y.2, fun y => .tuple #[.slice y.1 (missE d.1.l d.2.l x3.l kk).1.length y.2, int (missE d.1.l d.2.l x3.l kk).2], fun y => [Row y.1 (rows (missE d.1.l d.2.l x3.l kk).1)]⟩ rfl rfl rfl ?_ ?_
     ·intro y hy; intro w1; refine a9 rfl (c8 ?_); exact w3 y hy rfl ⟨m0, trivial⟩
     refine E2 ⟨OutC, fun y => (missE d.1.l d.2.l x3.l kk).1.length ≤ y.2, fun y => .slice y.1 (missE d.1.l d.2.l x3.l kk).1.length y.2, fun y => [Row y.1 (rows (missE d.1.l d.2.l x3.l kk).1)]⟩ rfl rfl rfl ?_ ?_
     ·intro y hy; intro w1; refine u5 rfl rfl rfl (c8 ?_); exact w3 y hy rfl ⟨m0, trivial⟩
     apply q6 _ rfl rfl rfl
     ·intro y hy; intro w1; refine u5 rfl rfl rfl (c8 ?_); exact j7 rfl
     refine E2 ⟨OutC, fun y => (missE d.1.l d.2.l x3.l kk).1.length ≤ y.2, fun y => .slice y.1 (missE d.1.l d.2.l x3.l kk).1.length y.2, fun y => [Row y.1 (rows (missE d.1.l d.2.l x3.l kk).1)]⟩ rfl rfl rfl ?_ ?_
     ·intro y hy; intro w1; refine b8 rfl (c8 ?_); exact w3 y hy rfl ⟨m0, trivial⟩
     refine v9 ⟨rfl, ?_⟩; intro _ _ _ _ _ _ q3 hq3; refine b8 rfl (d6 (d7 ?_)); refine A6 17 mixed (by decide) (by decide) rfl rfl (i4 (fun w1 => a9 rfl (q_z rfl)) (i4 (fun w1 => a9 rfl (q_z rfl)) (i4 (fun w1 => m7 (α := Td) dl i rfl T.P6 T.k8 rfl rfl rfl mB hdl3.symm (by omega) (by decide) (q_z rfl)) ?_))); refine i4 (fun w1 => D9 (cs := El.cells d) rfl T.m4 T.k8 rfl rfl (B4 mB (by rw [hdd]; exact D1 (by omega))) (q_z rfl)) ?_; refine i4 (fun w1 => a9 rfl (q_z rfl)) (i4 (fun w1 => a9 rfl (q_z rfl)) (i4 (fun w1 => m7 (α := Sl Int) hl i rfl T.L4 T.K8 rfl rfl rfl mB hhl3.symm (by omega) (by decide) (q_z rfl)) ?_)); refine i4 (fun w1 => c9 (v := .slice x3.a x3.l.length x3.c) rfl T.m8 rfl (l8 mB (by rw [hx3]; exact k6 (by omega) rfl)) (q_z rfl)) ?_; refine i4 (fun w1 => a9 rfl (q_z rfl)) (i4 (fun w1 => a9 rfl (q_z rfl)) (i4 (fun w1 => m7 (α := Int) kl i rfl T.l4 T.q7 rfl rfl rfl mB hkl3.symm (by omega) (by decide) (q_z rfl)) ?_)); refine i4 (fun w1 => c9 (v := int kk) rfl T.i7 rfl (l8 mB (by rw [hkk]; exact k6 (by omega) rfl)) (q_z rfl)) ?_; refine E2 ⟨OutC, fun y => (missE d.1.l d.2.l x3.l kk).1.length ≤ y.2, fun y => .tuple #[.slice y.1 (missE d.1.l d.2.l x3.l kk).1.length y.2, int (missE d.1.l d.2.l x3.l kk).2], fun y => [Row y.1 (rows (missE d.1.l d.2.l x3.l kk).1)]⟩ rfl rfl rfl ?_ ?_
     ·intro w1; refine j0 F.aj1 rfl rfl (rY (A := d.1.a) (B := d.2.a) (ca := d.1.c) (cb := d.2.c) d.1.l d.2.l x3.l kk (by omega) (by omega) hdo.wc hdo.wh hdha (by omega)) l7 mC fun y hy => ?_; refine c8 ?_; exact w3 y hy rfl ⟨m0, trivial⟩
     refine E2 ⟨OutC, fun y => (missE d.1.l d.2.l x3.l kk).1.length ≤ y.2, fun y => .tuple #[.slice y.1 (missE d.1.l d.2.l x3.l kk).1.length y.2, int (missE d.1.l d.2.l x3.l kk).2], fun y => [Row y.1 (rows (missE d.1.l d.2.l x3.l kk).1)]⟩ rfl rfl rfl ?_ ?_
     ·intro y hy; intro w1; refine a9 rfl (c8 ?_); exact w3 y hy rfl ⟨m0, trivial⟩
     refine E2 ⟨OutC, fun y => (missE d.1.l d.2.l x3.l kk).1.length ≤ y.2, fun y => .slice y.1 (missE d.1.l d.2.l x3.l kk).1.length y.2, fun y => [Row y.1 (rows (missE d.1.l d.2.l x3.l kk).1)]⟩ rfl rfl rfl ?_ ?_
     ·intro y hy; intro w1; refine u5 rfl rfl rfl (c8 ?_); exact w3 y hy rfl ⟨m0, trivial⟩
     apply q6 _ rfl rfl rfl
     ·intro y hy; intro w1; refine u5 rfl rfl rfl (c8 ?_); exact j7 rfl
     refine E2 ⟨OutC, fun y => (missE d.1.l d.2.l x3.l kk).1.length ≤ y.2, fun y => .slice y.1 (missE d.1.l d.2.l x3.l kk).1.length y.2, fun y => [Row y.1 (rows (missE d.1.l d.2.l x3.l kk).1)]⟩ rfl rfl rfl ?_ ?_
     ·intro y hy; intro w1; refine b8 rfl (c8 ?_); exact w3 y hy rfl ⟨m0, trivial⟩
     refine v9 ⟨rfl, ?_⟩; intro _ _ _ _ _ _ q4 hq4; refine b8 rfl (d6 (d7 ?_)); refine A6 58 mixed (by decide) (by decide) rfl rfl (i4 (fun w1 => a9 rfl (q_z rfl)) (i4 (fun w1 => a9 rfl (q_z rfl)) (i4 (fun w1 => H2 rfl rfl rfl (q_z rfl)) (i4 (fun w1 => a9 rfl (q_z rfl)) ?_)))); refine I0 (t := 176) (want := false) rfl ?_ ?_
     ·intro hg4; have hg4' := hg4; try simp at hg4'
      apply q6 _ rfl rfl rfl
      ·intro w1; refine i3 rfl rfl hg4 (a9 rfl (c8 ?_)); exact j7 rfl
      apply q6 _ rfl rfl rfl
      ·intro w1; refine i3 rfl rfl hg4 (a9 rfl (c8 ?_)); exact j7 rfl
      apply q6 _ rfl rfl rfl
      ·intro w1; refine i3 rfl rfl hg4 (H2 rfl rfl rfl (c8 ?_)); exact j7 rfl
      refine i4 (fun w1 => p_f rfl rfl (bf1 hg4) rfl (q_z rfl)) (i4 (fun w1 => a9 rfl (q_z rfl)) ?_); refine I0 (t := 181) (want := false) rfl ?_ ?_
      ·intro hg5; have hg5' := hg5; try simp at hg5'
       apply q6 _ rfl rfl rfl
       ·intro w1; refine i3 rfl rfl hg5 (a9 rfl (c8 ?_)); exact j7 rfl
       apply q6 _ rfl rfl rfl
       ·intro w1; refine i3 rfl rfl hg5 (a9 rfl (c8 ?_)); exact j7 rfl
       apply q6 _ rfl rfl rfl
       ·intro w1; refine i3 rfl rfl hg5 (H2 rfl rfl rfl (c8 ?_)); exact j7 rfl
       refine i4 (fun w1 => p_f rfl rfl (bf1 hg5) rfl (q_z rfl)) (i4 (fun w1 => a9 rfl (q_z rfl)) ?_); refine I0 (t := 186) (want := false) rfl ?_ ?_
       ·intro hg6; have hg6' := hg6; try simp at hg6'
        apply q6 _ rfl rfl rfl
        ·intro w1; refine i3 rfl rfl hg6 (a9 rfl (c8 ?_)); exact j7 rfl
        apply q6 _ rfl rfl rfl
        ·intro w1; refine i3 rfl rfl hg6 (a9 rfl (c8 ?_)); exact j7 rfl
        apply q6 _ rfl rfl rfl
        ·intro w1; refine i3 rfl rfl hg6 ?_; refine j0 F.H8 rfl rfl (G6 (foundE d.1.l d.2.l x1.l x2.l kk).1 (foundE d.1.l d.2.l x1.l x2.l kk).1 (by omega)) l7 mC fun _ _ => ?_; refine c8 ?_; exact j7 rfl
        apply q6 _ rfl rfl rfl
        ·intro w1; refine i3 rfl rfl hg6 (E9 rfl rfl (c8 ?_)); exact j7 rfl
        refine i4 (fun w1 => p_f rfl rfl (bf1 hg6) rfl (q_z rfl)) (i4 (fun w1 => a9 rfl (q_z rfl)) ?_); refine I0 (t := 192) (want := false) rfl ?_ ?_
        ·intro hg7; have hg7' := hg7; try simp at hg7'
         apply q6 _ rfl rfl rfl
         ·intro w1; refine i3 rfl rfl hg7 (a9 rfl (c8 ?_)); exact j7 rfl
         apply q6 _ rfl rfl rfl
         ·intro w1; refine i3 rfl rfl hg7 (a9 rfl (c8 ?_)); exact j7 rfl
         apply q6 _ rfl rfl rfl
         ·intro w1; refine i3 rfl rfl hg7 ?_; refine j0 F.H8 rfl rfl (G6 (missE d.1.l d.2.l x3.l kk).1 (missE d.1.l d.2.l x3.l kk).1 (by omega)) l7 mC fun _ _ => ?_; refine c8 ?_; exact j7 rfl
         apply q6 _ rfl rfl rfl
         ·intro w1; refine i3 rfl rfl hg7 (E9 rfl rfl (c8 ?_)); exact j7 rfl
         refine i4 (fun w1 => p_f rfl rfl (bf1 hg7) rfl (q_z rfl)) (i4 (fun w1 => a9 rfl (q_z rfl)) ?_); refine I0 (t := 198) (want := false) rfl ?_ ?_
         ·intro hg8; have hg8' := hg8; try simp at hg8'
          apply q6 _ rfl rfl rfl
          ·intro w1; refine i3 rfl rfl hg8 (E0 rfl T.m4 T.k8 rfl mB (by rfl) ?_); refine c8 ?_; exact j7 rfl
          apply q6 _ rfl rfl rfl
          ·intro w1; refine i3 rfl rfl hg8 (a9 rfl (c8 ?_)); exact j7 rfl
          apply q6 _ rfl rfl rfl
          ·intro w1; refine i3 rfl rfl hg8 (a9 rfl (c8 ?_)); exact j7 rfl
          apply q6 _ rfl rfl rfl
          ·intro w1; refine i3 rfl rfl hg8 (m7 (α := Td) dl i rfl T.P6 T.k8 rfl rfl rfl mB hdl3.symm (by omega) (by decide) ?_); refine c8 ?_; exact j7 rfl
          apply q6 _ rfl rfl rfl
          ·intro w1; refine i3 rfl rfl hg8 ?_; refine D9 (cs := El.cells d) rfl T.m4 T.k8 rfl rfl (B4 mB (by rw [hdd]; exact D1 (by omega))) ?_; refine c8 ?_; exact j7 rfl
          apply q6 _ rfl rfl rfl
          ·intro w1; refine i3 rfl rfl hg8 ?_; refine j0 F.aj9 rfl rfl (sZ (A := a3) (B := a7) (A2 := d.1.a) (B2 := d.2.a) (ca := c3) (cb := c7) (ca2 := d.1.c) (cb2 := d.2.c) d.1.l hs2 d.2.l hDp.symm (by omega) (by omega) ha2) l7 mC fun _ _ => ?_; refine c8 ?_; exact j7 rfl
          apply q6 _ rfl rfl rfl
          ·intro w1; refine i3 rfl rfl hg8 (E9 rfl rfl (c8 ?_)); exact j7 rfl
          refine i4 (fun w1 => p_f rfl rfl (bf1 hg8) rfl (q_z rfl)) (i4 (fun w1 => a9 rfl (q_z rfl)) ?_); refine I0 (t := 207) (want := false) rfl ?_ ?_
          ·intro hg9; have hg9' := hg9; try simp at hg9'
           apply q6 _ rfl rfl rfl
           ·intro w1; refine i3 rfl rfl hg9 (a9 rfl (c8 ?_)); exact j7 rfl
           apply q6 _ rfl rfl rfl
           ·intro w1; refine i3 rfl rfl hg9 (a9 rfl (c8 ?_)); exact j7 rfl
           apply q6 _ rfl rfl rfl
           ·intro w1; refine i3 rfl rfl hg9 (a9 rfl (c8 ?_)); exact j7 rfl
           apply q6 _ rfl rfl rfl
           ·intro w1; refine i3 rfl rfl hg9 (m7 (α := Sl Int) pl i rfl T.L4 T.K8 rfl rfl rfl mB hpl3.symm (by omega) (by decide) ?_); refine c8 ?_; exact j7 rfl
           apply q6 _ rfl rfl rfl
           ·intro w1; refine i3 rfl rfl hg9 ?_; refine c9 (v := .slice x1.a x1.l.length x1.c) rfl T.m8 rfl (l8 mB (by rw [hx1]; exact k6 (by omega) rfl)) ?_; refine c8 ?_; exact j7 rfl
           apply q6 _ rfl rfl rfl
           ·intro w1; refine i3 rfl rfl hg9 ?_; refine j0 F.H8 rfl rfl (G6 x1.l x1.l (by omega)) l7 mC fun _ _ => ?_; refine c8 ?_; exact j7 rfl
           apply q6 _ rfl rfl rfl
           ·intro w1; refine i3 rfl rfl hg9 (E9 rfl rfl (c8 ?_)); exact j7 rfl
           refine i4 (fun w1 => p_f rfl rfl (bf1 hg9) rfl (q_z rfl)) (i4 (fun w1 => a9 rfl (q_z rfl)) ?_); refine I0 (t := 216) (want := false) rfl ?_ ?_
           ·intro hg10; have hg10' := hg10; try simp at hg10'
            apply q6 _ rfl rfl rfl
            ·intro w1; refine i3 rfl rfl hg10 (a9 rfl (c8 ?_)); exact j7 rfl
            apply q6 _ rfl rfl rfl
            ·intro w1; refine i3 rfl rfl hg10 (a9 rfl (c8 ?_)); exact j7 rfl
            apply q6 _ rfl rfl rfl
            ·intro w1; refine i3 rfl rfl hg10 (a9 rfl (c8 ?_)); exact j7 rfl
            apply q6 _ rfl rfl rfl
            ·intro w1; refine i3 rfl rfl hg10 (m7 (α := Sl Int) wl i rfl T.L4 T.K8 rfl rfl rfl mB hwl3.symm (by omega) (by decide) ?_); refine c8 ?_; exact j7 rfl
            apply q6 _ rfl rfl rfl
            ·intro w1; refine i3 rfl rfl hg10 ?_; refine c9 (v := .slice x2.a x2.l.length x2.c) rfl T.m8 rfl (l8 mB (by rw [hx2]; exact k6 (by omega) rfl)) ?_; refine c8 ?_; exact j7 rfl
            apply q6 _ rfl rfl rfl
            ·intro w1; refine i3 rfl rfl hg10 ?_; refine j0 F.H8 rfl rfl (G6 x2.l x2.l (by omega)) l7 mC fun _ _ => ?_; refine c8 ?_; exact j7 rfl
            apply q6 _ rfl rfl rfl
            ·intro w1; refine i3 rfl rfl hg10 (E9 rfl rfl (c8 ?_)); exact j7 rfl
            refine i4 (fun w1 => p_f rfl rfl (bf1 hg10) rfl (q_z rfl)) (i4 (fun w1 => a9 rfl (q_z rfl)) ?_); refine I0 (t := 225) (want := false) rfl ?_ ?_
            ·intro hg11; have hg11' := hg11; try simp at hg11'
             apply q6 _ rfl rfl rfl
             ·intro w1; refine i3 rfl rfl hg11 (a9 rfl (c8 ?_)); exact j7 rfl
             apply q6 _ rfl rfl rfl
             ·intro w1; refine i3 rfl rfl hg11 (a9 rfl (c8 ?_)); exact j7 rfl
             apply q6 _ rfl rfl rfl
             ·intro w1; refine i3 rfl rfl hg11 (a9 rfl (c8 ?_)); exact j7 rfl
             apply q6 _ rfl rfl rfl
             ·intro w1; refine i3 rfl rfl hg11 (m7 (α := Sl Int) hl i rfl T.L4 T.K8 rfl rfl rfl mB hhl3.symm (by omega) (by decide) ?_); refine c8 ?_; exact j7 rfl
             apply q6 _ rfl rfl rfl
             ·intro w1; refine i3 rfl rfl hg11 ?_; refine c9 (v := .slice x3.a x3.l.length x3.c) rfl T.m8 rfl (l8 mB (by rw [hx3]; exact k6 (by omega) rfl)) ?_; refine c8 ?_; exact j7 rfl
             refine v9 ⟨rfl, ?_⟩; refine i3 rfl rfl hg11 ?_; refine j0 F.H8 rfl rfl (G6 x3.l x3.l (by omega)) l7 mC fun _ _ => ?_; refine i3 rfl rfl hg11 (E9 rfl rfl ?_); refine p_f rfl rfl (bf1 hg11) rfl ?_; refine d6 ?_; refine w6 rfl (fun hb3 => ?_) (fun hb3 => ?_)
             ·have hb3' := hb3; try simp at hb3'
             have hb3' := hb3; try simp at hb3'
             refine i6 (t6 (d8 (d9 (a9 rfl ?_)))); refine r7 _ rfl rfl rfl rfl m6 ?_; refine b8 rfl (c8 ?_); exact again _ (i + 1) (by show i + 1 ≤ 3; omega) (u2 (by omega)) mC nil_sb mC
            intro hg11; have hg11' := hg11; try simp at hg11'
           intro hg10; have hg10' := hg10; try simp at hg10'
          intro hg9; have hg9' := hg9; try simp at hg9'
         intro hg8; have hg8' := hg8; try simp at hg8'
        intro hg7; have hg7' := hg7; try simp at hg7'
       intro hg6; have hg6' := hg6; try simp at hg6'
      intro hg5; have hg5' := hg5; try simp at hg5'
     intro hg4; have hg4' := hg4; try simp at hg4'
    have hb2' := hb2; try simp at hb2'
    refine p8 (v8 (p7 (d8 (i5 ?_)))); refine j0 F.O1 rfl rfl (K3) l7 trivial fun _ _ => ?_; refine b8 rfl (d6 (j5 ?_)); exact ret1 () rfl rfl rfl trivial nil_sb trivial
   intro hg3; have hg3' := hg3; try simp at hg3'
   refine k4 rfl rfl rfl rfl rfl hg3 (k4 rfl rfl rfl rfl rfl hg3 (k4 rfl rfl rfl rfl rfl hg3 ?_)); refine p_t rfl rfl (bt2 hg3) rfl ?_; refine d6 (c_t rfl rfl (i5 ?_)); refine j0 F.O1 rfl rfl (K3) l7 trivial fun _ _ => ?_; refine b8 rfl (d6 (G0 ?_)); exact ret1 () rfl rfl rfl trivial nil_sb trivial
  intro hg2; have hg2' := hg2; try simp at hg2'
  refine k4 rfl rfl rfl rfl rfl hg2 (k4 rfl rfl rfl rfl rfl hg2 (k4 rfl rfl rfl rfl rfl hg2 ?_)); refine p_t rfl rfl (bt2 hg2) rfl ?_; refine a9 rfl (k4 rfl rfl rfl rfl rfl rfl (k4 rfl rfl rfl rfl rfl rfl (k4 rfl rfl rfl rfl rfl rfl (p_t rfl rfl rfl rfl (d6 (c_t rfl rfl (i5 ?_))))))); refine j0 F.O1 rfl rfl (K3) l7 trivial fun _ _ => ?_; refine b8 rfl (d6 (G0 ?_)); exact ret1 () rfl rfl rfl trivial nil_sb trivial
 intro hg1; have hg1' := hg1; try simp at hg1'
 refine k4 rfl rfl rfl rfl rfl hg1 (k4 rfl rfl rfl rfl rfl hg1 (k4 rfl rfl rfl rfl rfl hg1 ?_)); refine p_t rfl rfl (bt2 hg1) rfl ?_; refine a9 rfl (k4 rfl rfl rfl rfl rfl rfl (k4 rfl rfl rfl rfl rfl rfl (k4 rfl rfl rfl rfl rfl rfl (p_t rfl rfl rfl rfl (a9 rfl (k4 rfl rfl rfl rfl rfl rfl (k4 rfl rfl rfl rfl rfl rfl (k4 rfl rfl rfl rfl rfl rfl (p_t rfl rfl rfl rfl (d6 ?_)))))))))); refine c_t rfl rfl (i5 ?_); refine j0 F.O1 rfl rfl (K3) l7 trivial fun _ _ => ?_; refine b8 rfl (d6 (G0 ?_)); exact ret1 () rfl rfl rfl trivial nil_sb trivial
end Go.Proofs.YtdlbbfcfahahdaaGreat
end
section
namespace Go.W
open Go Go.RowKit Go.ChangeShapes Go.WideShapes
section
variable {H : Type} {enc : TypeId × Value → H} {P : Program} {w : World} {base : Nat} {spare : Nat → Bool} {held : Bool}
theorem row_of {α : Type} [El α] (h1 : El.sz α = 1) {a : Addr} {l : List α} (h : ∀ j (hj : j < l.length), ∃ v, El.cells l[j] = [v] ∧ w.cell? (a.add j) = some v) : (Row (some a) (rows l)).P w := by
  intro j u hu; refine ⟨a, rfl, ?_⟩
  have hj : j < l.length := by
    have := (List.getElem?_eq_some_iff.1 hu).1; rw [H9, h1, Nat.mul_one] at this; exact this
  obtain ⟨v, hv, hc⟩ := h j hj; have h2 := rows_get (l := l) (i := j) (j := 0) (v := v) hj (by simp [List.getD_eq_getElem?_getD, hj, hv]); rw [h1] at h2; simp only [Nat.mul_one, Nat.add_zero] at h2; rw [hu] at h2
  cases h2
  exact hc
theorem vX {t e : TypeId} {A : Option Addr} {n c fuel : Nat} {x : DataW H × List MemPlace} (ht : P.underlying t = some (.slice e)) (he : P.underlying e = some (.int .i64)) (hc : P.cellsOf e = 1)
    (h : DataW.trod enc P w base spare held fuel t [.slice A n c] = some x) : ∃ l : List Int, n = l.length ∧ l.length ≤ c ∧ c ≤ maxLen ∧ (Row A (rows l)).P w ∧ ∀ z ∈ l, I64 z := by
  rcases open_ints ht he hc h with ⟨hcs, _⟩ | ⟨a, len, cap, zs, hcs, _, hl, hm, hlen, _, hcell, hwf⟩
  · simp at hcs
    obtain ⟨rfl, rfl, rfl⟩ := hcs; exact ⟨[], rfl, Nat.le_refl _, by unfold maxLen; omega, Row.nil _ _, by intro z hz; simp at hz⟩
  simp at hcs
  obtain ⟨rfl, rfl, rfl⟩ := hcs; have hle : n ≤ zs.length := by rw [hlen]; split <;> omega
  have hlen2 : (zs.take n).length = n := by rw [List.length_take]; omega
  refine ⟨zs.take n, hlen2.symm, by rw [hlen2]; exact hl, hm, row_of rfl fun j hj => ?_, fun z hz => ?_⟩
  · rw [hlen2] at hj
    refine ⟨int zs[j], by simp [El.cells], ?_⟩; rw [hcell j (by omega)]
    simp [List.getD_eq_getElem?_getD, show j < zs.length by omega]
  have := hwf z (List.mem_of_mem_take hz)
  simp [Lit.wf, IntKind.min, IntKind.max, IntKind.signed, IntKind.bits] at this
  exact ⟨by omega, by omega⟩
theorem pj7 {f : Nat} {args : List Value} {LI : List Fact} (h : Meets P f args ({ LI := LI, val := fun _ : Unit => .bool true } : Con Unit)) (hL : ∀ F ∈ LI, F.P w) : CallsB P f args.toArray w fun v w' => v = .bool true ∧ Below w.heap.size w w' := by
  refine (h w ⟨Ext.refl _ _, by simp, by simp, by simp, hL, by simp, fun F hF k hk => .inr (.inr ⟨F, hF, hk⟩)⟩).mono fun v w' hp => ?_; obtain ⟨_, rfl, _, hwi⟩ := hp; exact ⟨rfl, hwi.ext.below⟩
end
end Go.W
end
section
namespace Go.W
open Go Go.RowKit Go.ChangeShapes Go.WideShapes Go.Deep
section
variable {H : Type} {enc : TypeId × Value → H} {P : Program} {w : World} {base : Nat} {spare : Nat → Bool} {held : Bool}
theorem mx2 {α : Type} [El α] (h0 : 0 < El.sz α) {a : Addr} {l : List α} (h : ∀ j, j < l.length → ∀ i v, (El.cells (l.getD j default))[i]? = some v → w.cell? (a.add (j * El.sz α + i)) = some v) : (Row (some a) (rows l)).P w := by
  intro k u hu; refine ⟨a, rfl, ?_⟩; have hk := (List.getElem?_eq_some_iff.1 hu).1; rw [H9] at hk; have hj : k / El.sz α < l.length := Nat.div_lt_of_lt_mul (by rw [Nat.mul_comm]; exact hk); have hd : k / El.sz α * El.sz α + k % El.sz α = k := by rw [Nat.mul_comm]; exact Nat.div_add_mod _ _
  have h2 := rows_get' l (k / El.sz α) (k % El.sz α) hj (Nat.mod_lt _ h0); rw [hd, hu] at h2; have := h _ hj _ _ h2.symm
  rwa [hd] at this
end
end Go.W
end
section
namespace Go.Proofs.YtdlbbfcfahahdaaGreat
open Go Go.W Go.RowKit Go.ChangeShapes Go.WideShapes Go.Deep
set_option maxRecDepth 20000
attribute [local irreducible] HL HC HQ HB Row Rows2 Blk Facts
section
variable {H : Type} {enc : TypeId × Value → H} {P : Program} {w : World} {base : Nat} {spare : Nat → Bool} {held : Bool}
theorem lx4 {t e : TypeId} {f0 f1 : Field} {v : Value} {fuel : Nat} {x : DataW H × List MemPlace} (ht : P.underlying t = some (.slice e)) (he : P.underlying e = some (.struct #[f0, f1])) (ce : P.cellsOf e = 2)
    (o0 : f0.offset = 0) (o1 : f1.offset = 1) (c0 : P.cellsOf f0.type = 1) (c1 : P.cellsOf f1.type = 1) (t0 : P.underlying f0.type = some .string) (t1 : P.underlying f1.type = some (.int .i64))
    (h : DataW.trod enc P w base spare held fuel t [v] = some x) : ∃ A c, ∃ l : List Cl, v = .slice A l.length c ∧ l.length ≤ c ∧ c ≤ maxLen ∧ (Row A (rows l)).P w := by
  rcases open_slice ht h with ⟨hcs, _⟩ | ⟨a, len, cap, m, n', D, Pl, hcs, _, hl, hm, hmm, _, hx⟩
  · simp at hcs
    subst hcs; exact ⟨none, 0, [], rfl, Nat.le_refl _, by unfold maxLen; omega, Row.nil _ _⟩
  simp at hcs
  subst hcs; have hlm : len ≤ m := by rw [hmm]; split <;> omega
  have each : ∀ i, i < len → ∃ q : Cl, ∀ k v, (El.cells q)[k]? = some v → w.cell? (a.add (i * 2 + k)) = some v := by
    intro i hi; obtain ⟨cs', h1, h2⟩ := hx i (by omega); rw [ce] at h1; obtain ⟨_, hlen, hcell⟩ := World.cells?_some h1; obtain ⟨y0, y1, k, _, _, g0, g1⟩ := trod_struct2 he h2
    match cs', hlen with
    | [v0, v1], _ =>
      simp [o0, o1, c0, c1] at g0 g1
      obtain ⟨s, e0, _, _⟩ := DataW.trod_string t0 g0; obtain ⟨z1, e1, _, _⟩ := DataW.trod_int t1 g1
      simp at e0 e1
      subst e0 e1; refine ⟨(s.data.toList, z1), fun k v hv => ?_⟩; have hk : k < 2 := (List.getElem?_eq_some_iff.1 hv).1; have hc := hcell k hk; rw [add_add] at hc; rw [hc, ← hv]; show _ = [str s.data.toList, int z1][k]?
      simp [str]
  obtain ⟨q, hq⟩ := choose_lt each; refine ⟨some a, cap, (List.range len).map q, by simp, by simpa using hl, hm, mx2 (by decide) fun j hj i v hv => ?_⟩
  simp at hj
  refine hq j hj i v ?_; rw [← hv]
  simp [List.getD_eq_getElem?_getD, hj]
theorem nx1 {e : TypeId} {f0 f1 f2 f3 : Field} {cs : List Value} {fuel : Nat} {x : DataW H × List MemPlace} {ei : TypeId} (he : P.underlying e = some (.struct #[f0, f1, f2, f3])) (ce : P.cellsOf e = 4)
    (o0 : f0.offset = 0) (o1 : f1.offset = 1) (o2 : f2.offset = 2) (o3 : f3.offset = 3) (c0 : P.cellsOf f0.type = 1) (c1 : P.cellsOf f1.type = 1) (c2 : P.cellsOf f2.type = 1) (c3 : P.cellsOf f3.type = 1)
    (t0 : P.underlying f0.type = some .string) (t1 : P.underlying f1.type = some (.int .i64)) (t2 : P.underlying f2.type = some (.int .i64)) (t3 : P.underlying f3.type = some (.slice ei)) (ti : P.underlying ei = some (.int .i64)) (ci : P.cellsOf ei = 1)
    (h : DataW.trod enc P w base spare held fuel e cs = some x) : ∃ q : Hd, cs = El.cells q ∧ (Hd.row q).P w := by
  obtain ⟨xs, n, _, rfl, hl, hlen, hf⟩ := DataW.trod_struct he h; rw [ce] at hl
  match xs, hlen, cs, hl with
  | [y0, y1, y2, y3], _, [v0, v1, v2, v3], _ =>
    have g0 := hf 0 f0 rfl; have g1 := hf 1 f1 rfl; have g2 := hf 2 f2 rfl; have g3 := hf 3 f3 rfl
    simp [o0, o1, o2, o3, c0, c1, c2, c3] at g0 g1 g2 g3
    obtain ⟨s, e0, _, _⟩ := DataW.trod_string t0 g0; obtain ⟨z1, e1, _, _⟩ := DataW.trod_int t1 g1; obtain ⟨z2, e2, _, _⟩ := DataW.trod_int t2 g2
    simp at e0 e1 e2
    subst e0 e1 e2
    obtain ⟨A, n3, c3', hv⟩ : ∃ A n3 c3', v3 = .slice A n3 c3' := by
      rcases open_slice t3 g3 with ⟨hcs, _⟩ | ⟨a, len, cap, m, n', D, Pl, hcs, _⟩
      · simp at hcs; exact ⟨_, _, _, hcs⟩
      simp at hcs; exact ⟨_, _, _, hcs⟩
    rw [hv] at g3; obtain ⟨l, rfl, _, _, hr, _⟩ := vX t3 ti ci g3; exact ⟨(s.data.toList, z1, z2, ⟨A, c3', l⟩), by rw [hv]; rfl, hr⟩
theorem rx2 {t e : TypeId} {f0 f1 f2 f3 : Field} {v : Value} {fuel : Nat} {x : DataW H × List MemPlace} {ei : TypeId} (ht : P.underlying t = some (.slice e)) (he : P.underlying e = some (.struct #[f0, f1, f2, f3])) (ce : P.cellsOf e = 4)
    (o0 : f0.offset = 0) (o1 : f1.offset = 1) (o2 : f2.offset = 2) (o3 : f3.offset = 3) (c0 : P.cellsOf f0.type = 1) (c1 : P.cellsOf f1.type = 1) (c2 : P.cellsOf f2.type = 1) (c3 : P.cellsOf f3.type = 1)
    (t0 : P.underlying f0.type = some .string) (t1 : P.underlying f1.type = some (.int .i64)) (t2 : P.underlying f2.type = some (.int .i64)) (t3 : P.underlying f3.type = some (.slice ei)) (ti : P.underlying ei = some (.int .i64)) (ci : P.cellsOf ei = 1)
    (h : DataW.trod enc P w base spare held fuel t [v] = some x) : ∃ A c, ∃ l : List Hd, v = .slice A l.length c ∧ l.length ≤ c ∧ c ≤ maxLen ∧ (RowsF A l Hd.row).P w := by
  rcases open_slice ht h with ⟨hcs, _⟩ | ⟨a, len, cap, m, n', D, Pl, hcs, _, hl, hm, hmm, _, hx⟩
  · simp at hcs
    subst hcs; exact ⟨none, 0, [], rfl, Nat.le_refl _, by unfold maxLen; omega, Row.nil _ _, by simp⟩
  simp at hcs
  subst hcs; have hlm : len ≤ m := by rw [hmm]; split <;> omega
  have each : ∀ i, i < len → ∃ q : Hd, (∀ k v, (El.cells q)[k]? = some v → w.cell? (a.add (i * 4 + k)) = some v) ∧ (Hd.row q).P w := by
    intro i hi; obtain ⟨cs', h1, h2⟩ := hx i (by omega); rw [ce] at h1; obtain ⟨_, hlen, hcell⟩ := World.cells?_some h1; obtain ⟨q, rfl, hr⟩ := nx1 he ce o0 o1 o2 o3 c0 c1 c2 c3 t0 t1 t2 t3 ti ci h2; refine ⟨q, fun k v hv => ?_, hr⟩; have hk : k < 4 := (List.getElem?_eq_some_iff.1 hv).1; have hc := hcell k hk; rw [add_add] at hc; rw [hc, ← hv]
  obtain ⟨q, hq⟩ := choose_lt each; refine ⟨some a, cap, (List.range len).map q, by simp, by simpa using hl, hm, mx2 (by decide) fun j hj i v hv => ?_, fun p hp => ?_⟩
  · simp at hj
    refine (hq j hj).1 i v ?_; rw [← hv]
    simp [List.getD_eq_getElem?_getD, hj]
  obtain ⟨j, hj, rfl⟩ := List.mem_map.1 hp; exact (hq j (List.mem_range.1 hj)).2
end
theorem pq1 {H : Type} {enc : TypeId × Value → H} {w : World} {base : Nat} {spare : Nat → Bool} {held : Bool} {cs : Array Value} (h : ∃ fuel x, DataW.trod enc Tryz.prog w base spare held fuel T.k7 cs.toList = some x) :
    ∃ A c B k, ∃ cs0 : List Cl, ∃ hs0 : List Hd, cs = #[.slice A cs0.length c, .slice B hs0.length k] ∧ (cs0.length ≤ c ∧ c ≤ 9223372036854775807) ∧ (hs0.length ≤ k ∧ k ≤ 9223372036854775807) ∧ (Row A (rows cs0)).P w ∧ (RowsF B hs0 Hd.row).P w := by
  obtain ⟨fuel, x, h⟩ := h; obtain ⟨y0, y1, n, _, hl, g0, g1⟩ := trod_struct2 Tryz.underlying48 h; have hl2 : cs.toList.length = 2 := hl.trans (by kernel_rfl)
  obtain ⟨v0, v1, hv⟩ : ∃ v0 v1, cs.toList = [v0, v1] := by
    match hc : cs.toList, hl2 with
    | [v0, v1], _ => exact ⟨v0, v1, rfl⟩
  rw [hv] at g0 g1
  have g0' : DataW.trod enc Tryz.prog w base spare held n T.V0 [v0] = some y0 := by
    have e : Tryz.prog.cellsOf T.V0 = 1 := by kernel_rfl
    have := g0; simp only [List.drop_zero] at this; exact this
  have g1' : DataW.trod enc Tryz.prog w base spare held n T.cR [v1] = some y1 := g1; obtain ⟨A, c, l, rfl, h1, h2, h3⟩ := lx4 Tryz.underlying45 Tryz.underlying101 (by kernel_rfl) rfl rfl (by kernel_rfl) (by kernel_rfl) Tryz.underlying9 Tryz.underlying3 g0'; obtain ⟨B, k, m, rfl, h4, h5, h6⟩ := rx2 Tryz.underlying46 Tryz.underlying99 (by kernel_rfl) rfl rfl rfl rfl (by kernel_rfl) (by kernel_rfl) (by kernel_rfl) (by kernel_rfl) Tryz.underlying9 Tryz.underlying3 Tryz.underlying3 Tryz.underlying24 Tryz.underlying3 (by kernel_rfl) g1'; exact ⟨A, c, B, k, l, m, by rw [← Array.toArray_toList (xs := cs), hv], ⟨h1, h2⟩, ⟨h4, h5⟩, h3, h6⟩
end Go.Proofs.YtdlbbfcfahahdaaGreat
end
section
namespace Go.W
open Go Go.Conc
theorem Lv.at {P : Program} {fr : Frame} {w : World} {v : Value} (h : Lv P fr w v) (d : Nat) : Lv P fr (w.at d) v :=
  ⟨h.1, h.2.1, h.2.2.1, h.2.2.2.elim fun fn x => ⟨fn, x.1, fun d' => x.2 d'⟩⟩
theorem run_of {P : Program} {f : FuncId} {fn : Func} {t : Tmp} {args : Array Value} {W : World} {R : Value → World → Prop} (hf : P.funcs[f]? = some fn) (hres : fn.results = #[.tmp t]) (hin : P.inits.idxOf? f = none)
    (h : CallsB P f args W R) (hat : ∀ v w d, R v w → R v (w.at d)) :
    ∃ M last o w' t', runNT P (M + 1) (solo (G (Frame.enter P f args .normal) []) W) #[] = (.ended o w', t') ∧ runN P M (solo (G (Frame.enter P f args .normal) []) W) = .next last ∧ step P last = .ended o w' ∧ Conc.Good P R last o w' t' := by
  have hco := h [] (fun g w => ∃ v fr, g = G fr [] ∧ fr.fn = f ∧ Lv P fr w v ∧ R v w) (fun fr v w' hfr hR hl => co_done fun d => ⟨v, fr, rfl, hfr, hl.at d, hat _ _ _ hR⟩); obtain ⟨N, gs, g, w, sl, t0, q, B, r, h0, hL, hP, v, fr, rfl, hfr, hl, hR⟩ := hco W.drawn #[G (Frame.enter P f args .normal) []] none #[] (fun _ => 0) 0 rfl (leavers_one P _) past_nil
  have hG : Goes P true AtRel (fun _ _ es => ∀ e ∈ es, EvL noS B e) (AtEnd P noS B R) 0 (G fr []) w := by
    rintro w₁ ⟨d, rfl⟩; refine ⟨rfl, v, #[], ?_, by simp, hat _ _ _ hR⟩; obtain ⟨hm, hd, hn, fn', hf', hr⟩ := hl.at d; rw [hfr, hf] at hf'; obtain rfl := Option.some.inj hf'; have hf2 : P.funcs[fr.fn]? = some fn := by rw [hfr]; exact hf
    have hin2 : P.inits.idxOf? fr.fn = none := by rw [hfr]; exact hin
    have he : (results fn fr.tmps).events P (w.at d) #[] = #[] := events_results_tmp hres _ _; have hr0 : (results fn fr.tmps).run P (w.at d) = .ok v (w.at d) := hr d
    simp [G, stepG, unwind, doReturn, hn, hd, hm, hf2, hr0, he, hin2, GStep.after, seen]
  obtain ⟨M, last, o, w', t', e1, e2, e3, e4⟩ := beside_ends (P := P) (Post := R) (sl := sl) (fun _ _ _ h => h) h0 hL hP hG; have hrun : runNT P N (solo (G (Frame.enter P f args .normal) []) W) #[] = (.next (crowd gs w sl), t0) := r; refine ⟨N + M, last, o, w', t', ?_, ?_, e3, e4⟩
  · rw [Nat.add_assoc, gx2 hrun]; exact e1
  rw [runN_add, ← runNT_fst P _ _ #[], hrun]; exact e2
end Go.W
end
