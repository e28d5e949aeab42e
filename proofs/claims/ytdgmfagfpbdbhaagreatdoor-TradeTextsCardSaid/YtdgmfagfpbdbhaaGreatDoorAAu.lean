/- Texts. -/
import Derived.ProofKit
import Derived.OpenShut
import Derived.ShutString
import Derived.ChangeOld
import Derived.Below
import Derived.SliceStrings
import Derived.ChangeSlices
import Derived.Deep.Slices
import Derived.Deep.Strs
import Derived.Test.YtdgmfagfpbdbhaaGreatDoorAAt
import Derived.Test.YtdgmfagfpbdbhaaGreatDoorAAq
import Derived.Test.YtdgmfagfpbdbhaaGreatDoorAAe
set_option linter.unusedVariables false
set_option linter.unusedSimpArgs false
section
namespace Go.Proofs.YtdgmfagfpbdbhaaGreatDoor
open Go Go.W Tryz T F
set_option maxRecDepth 20000
attribute [local irreducible] HL HC HQ HB Row Rows2 Blk Facts
def wrX (cs : List Cl) (hs : List Hd) : Str := if checkT (trOf cs hs) = 0 then wrT cs hs else []
theorem wrX_len (cs : List Cl) (hs : List Hd) : (wrX cs hs).length ≤ 1000 := by
  unfold wrX
  by_cases h : checkT (trOf cs hs) = 0
  · rw [if_pos h]; have := wr_len (mW h); omega
  rw [if_neg h]; exact Nat.zero_le _
theorem lj6 {l : List Str} {j : Nat} (h : l.length ≤ j) : l.getD j default = [] := by rw [List.getD_eq_getElem?_getD, List.getElem?_eq_none h]; rfl
theorem gd_snoc {ts : List Str} {w : Str} (h : ∀ j, 1 ≤ j → (ts.getD j default).length ≤ 1000) (hw : w.length ≤ 1000) : ∀ j, 1 ≤ j → ((ts ++ [w]).getD j default).length ≤ 1000 := fun j hj => by
  by_cases h1 : j < ts.length
  · have h2 := h j hj
    rw [List.getD_eq_getElem?_getD] at h2 ⊢; rw [List.getElem?_append_left h1]; exact h2
  by_cases h2 : j = ts.length
  · subst h2
    rw [List.getD_eq_getElem?_getD, List.getElem?_append_right (Nat.le_refl _), Nat.sub_self]; exact hw
  rw [lj6 (by rw [List.length_append]; simp; omega)]; exact Nat.zero_le _
set_option maxHeartbeats 2000000 in
theorem rA {A0 B0 N : Option Addr} {ca0 cb0 nc : Nat} (cs0 : List Cl) (hs0 : List Hd) (x : Str) (nums : List Int) (at_ how : Int) (by_ : UInt8) (hca0 : cs0.length ≤ ca0 ∧ ca0 ≤ 9223372036854775807) (hcb0 : hs0.length ≤ cb0 ∧ cb0 ≤ 9223372036854775807) (hn : nums.length ≤ 9223372036854775807) : Meets prog kM [.agg #[.slice A0 cs0.length ca0, .slice B0 hs0.length cb0], str x, .slice N nums.length nc, int at_, int how, .int .u8 by_.toNat] { LI := [Row A0 (rows cs0), RowsF B0 hs0 Hd.row, Row N (rows nums), ERRT], val := fun _ : Unit => .bool true } := by
 refine j3 tI rfl v8 fun w0 => i4 (O3 rfl rfl fun gB => ?_); refine c5 rfl (c8 ?_); refine I0 ⟨fun _ : Unit => cs0.length ≤ 20 ∧ hs0.length ≤ 20 ∧ (∀ h ∈ hs0, h.2.2.2.l.length ≤ 1000000) ∧ (∀ x ∈ cs0, x.1.length ≤ 1000) ∧ ∀ h ∈ hs0, h.1.length ≤ 1000, fun _ => [(6, .pointer (d9 gB)), (1, str x), (2, .slice N nums.length nc), (3, int at_), (4, int how), (5, .int .u8 by_.toNat)], fun _ => [], fun _ => [Blk gB (.cells #[.slice A0 cs0.length ca0, .slice B0 hs0.length cb0] p8 (0, 0)), Row A0 (rows cs0), RowsF B0 hs0 Hd.row, Row N (rows nums), ERRT]⟩ ?_ ?_
 ·skip
  refine d6 (C3 (c9 ?_)); refine I3 rfl i6 c7 rfl mB (by rfl) (j4 zT rfl rfl (zC cs0 hs0 (by omega) (by omega)) t4 mC fun bs hbs => ?_); refine H6 rfl rfl (b6 rfl ?_); refine v6 rfl rfl ?_ ?_
  ·intro hg1; have hg1' := hg1; try simp at hg1'
   have hbt : bs = true := by simpa using hg1
   have hbd := hbs hbt; refine k5 hg1 (b6 rfl (k5 hg1 ?_)); refine G5 rfl q8 rfl ?_; refine k5 hg1 (Q0 rfl rfl rfl (k5 hg1 (b6 rfl ?_))); refine v6 rfl rfl ?_ ?_
   ·intro hg2; have hg2' := hg2; try simp at hg2'
    refine k5 hg2 (b6 rfl (k5 hg2 ?_)); refine G5 rfl q8 rfl ?_; refine k5 hg2 (cz9 rfl rfl rfl (k5 hg1 ?_)); refine p_t rfl rfl (bt1 hg2) rfl (p_f rfl rfl (bf1 hg1) rfl (c8 ?_)); refine k9 rfl (fun hb1 => ?_) (fun hb1 => ?_)
    ·have hb1' := hb1; try simp at hb1'
     refine i4 (j4 bM rfl rfl (aX) t4 tK fun _ _ => ?_); refine c5 rfl (c8 (E9 ?_)); exact ret1 () rfl rfl rfl tK nK tK
    have hb1' := hb1; try simp at hb1'
    refine i8 ?_; exact D5 _ () hbd mC (.refl _) mC
   intro hg2; have hg2' := hg2; try simp at hg2'
   refine l8 hg2 (l8 hg2 (l8 hg2 (k5 hg1 ?_))); refine p_f rfl rfl (bf2 hg2) rfl (p_f rfl rfl (bf1 hg1) rfl ?_); refine c8 (c_f rfl rfl (i8 ?_)); exact D5 _ () hbd mC (.refl _) mC
  intro hg1; have hg1' := hg1; try simp at hg1'
  refine l8 hg1 (l8 hg1 (l8 hg1 (l8 hg1 (K6 rfl rfl rfl rfl rfl rfl (K6 rfl rfl rfl rfl rfl rfl (K6 rfl rfl rfl rfl rfl rfl (l8 hg1 ?_))))))); refine p_t rfl rfl (bt2 hg1) rfl ?_; refine c8 (c_t rfl rfl (i4 ?_)); refine j4 bM rfl rfl (aX) t4 tK fun _ _ => ?_; refine c5 rfl (c8 (E9 ?_)); exact ret1 () rfl rfl rfl tK nK tK
 intro _ hbd; obtain ⟨hc20, hh20, hha, hwc, hwh⟩ := hbd; have hd0 : TdOK ((⟨A0, ca0, cs0⟩, ⟨B0, cb0, hs0⟩) : Td) := ⟨hca0.1, hcb0.1, hc20, hh20, hha, hwc, hwh⟩; refine d6 (H3 ([]) ([]) (.refl _) 8 [3, 2] mixed (by decide) (by decide) (by decide) rfl rfl rfl (k8 (fun w1 => I3 rfl i6 c7 rfl mB (by rfl) (q_z rfl)) (r7 rfl ?_))); refine nE ⟨Nat, fun _ => True, fun g => .pointer (d9 g), fun _ => [], fun g => [dice g N nc nums (0, 11400714819323198485)]⟩ rfl rfl rfl ?_ ?_
 ·intro w1; refine j4 zY rfl rfl (zF nums) t4 mC fun g _ => b5 ?_; exact H4 g tK (fun _ => rfl) (.refl _) tK
 refine nE ⟨Nat × (Int × Int) × Td, fun y => TdOK y.2.2, fun y => .agg (El.cells y.2.2).toArray, fun y => [Row y.2.2.1.a (rows y.2.2.1.l), RowsF y.2.2.2.a y.2.2.2.l Hd.row], fun y => [dice y.1 N nc nums y.2.1]⟩ rfl rfl rfl ?_ ?_
 ·intro g _; intro w1; refine j4 xN rfl rfl (wR 6 6 hn (dok0 nums) (by decide) (by decide)) t4 mC fun y hy => ?_; obtain ⟨sd, cs, hs, ⟨CA, ca⟩, ⟨HB, cb⟩⟩ := y; obtain ⟨hsd, hT⟩ := hy; have hT0 : checkT (trOf cs hs) = 0 := hT.ok; have hok := mW hT0; have h6 : cs.length ≤ 6 := hT.c2; have h6h : hs.length ≤ 6 := hT.h2; refine b5 ?_; exact H4 (g, sd, ((⟨CA, ca, cs⟩, ⟨HB, cb, hs⟩) : Td)) ⟨hT.ca, hT.cb, by show cs.length ≤ 20; omega, by show hs.length ≤ 20; omega, hT.ha, wc_ok hok, wh_ok hok⟩ (fun _ => rfl) (.refl _) mC
 refine V9 ⟨Nat × Td, fun y => TdOK y.2, fun y => .slice (some ⟨y.1, 0, none⟩) 2 2, fun y => [Row (some ⟨y.1, 0, none⟩) (rows ([((⟨A0, ca0, cs0⟩, ⟨B0, cb0, hs0⟩) : Td), y.2] : List Td)), Row y.2.1.a (rows y.2.1.l), RowsF y.2.2.a y.2.2.l Hd.row]⟩ rfl rfl rfl ?_ ?_
 ·intro x3 h3; intro w1; refine n7 _ rfl rfl (fun _ => tP ..) fun gL => b5 (R8 (rows ([((⟨A0, ca0, cs0⟩, ⟨B0, cb0, hs0⟩) : Td), x3.2.2] : List Td)) (List.prefix_refl _) ?_); exact K5 (gL, x3.2.2) h3 rfl ⟨m0, mB, mB, tK⟩
 refine r7 rfl ?_; refine jj4 ⟨Nat, fun _ => True, fun g => .slice (d9 g) 1 1, fun _ => [], fun g => [(g, Obj.cells #[str x] H2 (0, 0))]⟩ rfl rfl rfl ?_ ?_
 ·intro w1; refine n7 _ rfl rfl (fun _ => W1 ..) fun gT => b5 ?_; exact H4 gT tK (fun _ => rfl) (.refl _) tK
 refine V9 ⟨Nat × Td, fun y => TdOK y.2, fun y => .slice (some ⟨y.1, 0, none⟩) 2 2, fun y => [Row (some ⟨y.1, 0, none⟩) (rows ([((⟨A0, ca0, cs0⟩, ⟨B0, cb0, hs0⟩) : Td), y.2] : List Td)), Row y.2.1.a (rows y.2.1.l), RowsF y.2.2.a y.2.2.l Hd.row]⟩ rfl rfl rfl ?_ ?_
 ·intro y4 h4; intro w1; refine c5 rfl (b5 ?_); exact K5 y4 h4 rfl mC
 refine v7 ⟨rfl, ?_⟩; intro _ _ _ _ _ _ gT _ y4 hd1; obtain ⟨gL, d1⟩ := y4; simp only at hd1; refine c5 rfl (c8 (Y7 ?_)); refine dY (Fs := [Row ((⟨A0, ca0, cs0⟩, ⟨B0, cb0, hs0⟩) : Td).1.a (rows ((⟨A0, ca0, cs0⟩, ⟨B0, cb0, hs0⟩) : Td).1.l), RowsF ((⟨A0, ca0, cs0⟩, ⟨B0, cb0, hs0⟩) : Td).2.a ((⟨A0, ca0, cs0⟩, ⟨B0, cb0, hs0⟩) : Td).2.l Hd.row]) (by intro F hF; simp only [List.mem_cons, List.not_mem_nil, or_false] at hF; rcases hF with rfl | rfl; exact .inl mB; exact .inl mB) ?_; refine dY (Fs := [Row d1.1.a (rows d1.1.l), RowsF d1.2.a d1.2.l Hd.row]) (by intro F hF; simp only [List.mem_cons, List.not_mem_nil, or_false] at hF; rcases hF with rfl | rfl; exact .inl mB; exact .inl mB) ?_; refine dY (Fs := ([((⟨A0, ca0, cs0⟩, ⟨B0, cb0, hs0⟩) : Td), d1] : List Td).map Td.row) (by intro F hF; simp only [List.map_cons, List.map_nil, List.mem_cons, List.not_mem_nil, or_false] at hF; rcases hF with rfl | rfl; exact .inl mB; exact .inl mB) ?_; refine hc_dup (F := Row (d9 gL) (rows ([((⟨A0, ca0, cs0⟩, ⟨B0, cb0, hs0⟩) : Td), d1] : List Td))) mB (dq0 (A := (d9 gL)) (ps := ([((⟨A0, ca0, cs0⟩, ⟨B0, cb0, hs0⟩) : Td), d1] : List Td)) (f := Td.row) mB mB ?_); obtain ⟨dl, hdl⟩ : ∃ dl : List Td, dl = ([((⟨A0, ca0, cs0⟩, ⟨B0, cb0, hs0⟩) : Td), d1] : List Td) := ⟨_, rfl⟩; rw [← hdl]; have hdl4 : dl.length = 2 := by rw [hdl]; rfl
 have hdal : ∀ d ∈ dl, TdOK d := by rw [hdl]; intro d hd; simp only [List.mem_cons, List.not_mem_nil, or_false] at hd; rcases hd with rfl | rfl; exact hd0; exact hd1
 refine c9 (c5 rfl (c8 (j5 ?_))); refine u6 (β := Nat × List Str × OutC × Hp) ⟨fun z => z.1 ≤ 2 ∧ z.2.1.length = 1 + z.1 ∧ (∀ j, 1 ≤ j → (z.2.1.getD j default).length ≤ 1000) ∧ Grow H2 1 z.2.2.1.1 z.2.1.length z.2.2.1.2 (rows z.2.1) z.2.2.2, fun z => [(3, int at_), (4, int how), (5, .int .u8 by_.toNat), (13, .slice (d9 gL) 2 2), (14, .slice z.2.2.1.1 z.2.1.length z.2.2.1.2), (15, int z.1)], fun z => z.2.2.2, fun _ => [Row (d9 gL) (rows dl), RowsF (d9 gL) dl Td.row, ERRT]⟩ (fun z => 2 - z.1) (0, [x], (some ⟨gT, 0, none⟩, 1), [(gT, Obj.cells #[str x] H2 (0, 0))]) ⟨Nat.zero_le _, rfl, fun j hj => by rw [lj6 (by simpa using hj)]; exact Nat.zero_le _, Grow.new (cs := #[str x]) (n := 1) rfl (by decide)⟩ mC (.cons_cons _ nK) mC fun z hz => ?_; obtain ⟨i, ts, ⟨oA, oc⟩, og⟩ := z; obtain ⟨hi2, htl, htb, hG⟩ := hz; simp only at hi2 htl htb hG; refine d6 (i4 (b6 rfl (b6 rfl ?_))); refine k6 rfl dL rfl ?_; refine B5 rfl rfl rfl (c8 ?_); refine k9 rfl (fun hb2 => ?_) (fun hb2 => ?_)
 ·have hb2' := hb2; try simp at hb2'
  have hi : i < 2 := by omega
  obtain ⟨d, hdd⟩ : ∃ d, d = dl.getD i default := ⟨_, rfl⟩; have hdm : d ∈ dl := by rw [hdd]; exact w8 (by omega)
  have hdo := hdal d hdm; have hd20 := hdo.c; have hdh20 := hdo.h; have hdha := hdo.ha; refine iO (p := d) (f := Td.row) (ps := dl) mB hdm ?_; refine cx6 (F := Row d.1.a (rows d.1.l)) (Fs := [Row d.1.a (rows d.1.l), RowsF d.2.a d.2.l Hd.row]) mB (by simp) ?_; refine cx6 (F := RowsF d.2.a d.2.l Hd.row) (Fs := [Row d.1.a (rows d.1.l), RowsF d.2.a d.2.l Hd.row]) mB (by simp) ?_; have hTW := bz8 (A := d.1.a) (B := d.2.a) (ca := d.1.c) (cb := d.2.c) d.1.l d.2.l hdo.a hdo.b hdha; have hRW := yT (A := d.1.a) (B := d.2.a) (ca := d.1.c) (cb := d.2.c) d.1.l d.2.l (by omega) (by omega) hdo.wc hdo.wh hdha; have htx := wrX_len d.1.l d.2.l; refine i8 (i1 (d6 (j5 (i4 (b6 rfl (b6 rfl ?_)))))); refine m7 (α := Td) dl i rfl dL c7 rfl rfl rfl mB hdl4.symm (by omega) (by decide) ?_; refine z8 (cs := El.cells d) rfl i6 c7 rfl rfl (v9 mB (by rw [hdd]; exact B3 (by omega))) ?_; refine j4 zN rfl rfl (hTW) (hpR := og) (.refl _) mC fun _ _ => ?_; refine b6 rfl (l3 rfl rfl rfl (l3 rfl rfl rfl (c5 rfl (c5 rfl (t6 (b6 rfl (b6 rfl ?_))))))); refine m7 (α := Td) dl i rfl dL c7 rfl rfl rfl mB hdl4.symm (by omega) (by decide) ?_; refine z8 (cs := El.cells d) rfl i6 c7 rfl rfl (v9 mB (by rw [hdd]; exact B3 (by omega))) ?_; refine j4 zS rfl rfl (hRW) (hpR := og) (.refl _) mC fun _ _ => ?_; refine b6 rfl (l3 rfl rfl rfl (l3 rfl rfl rfl (c5 rfl (c5 rfl (c8 (d6 (i4 (b6 rfl (b6 rfl ?_))))))))); refine iK rfl rfl rfl (b6 rfl ?_); refine v6 rfl rfl ?_ ?_
  ·intro hg3; have hg3' := hg3; try simp at hg3'
   refine k5 hg3 (b6 rfl (k5 hg3 (b6 rfl (k5 hg3 (M8 rfl rfl rfl ?_))))); refine p_f rfl rfl (bf1 hg3) rfl (c8 ?_); refine k9 rfl (fun hb3 => ?_) (fun hb3 => ?_)
   ·exact absurd hb3 (by simp)
   have hb3' := hb3; try simp at hb3'
   refine i8 (i1 (c9 (b6 rfl (b6 rfl ?_)))); refine n7 _ rfl rfl (fun _ => W1 ..) fun gS => ?_; refine E3 (ts.length + 1) (rows (ts ++ [(wrX d.1.l d.2.l)])) iH rfl rfl rfl hG (List.perm_append_comm (l₁ := [_])) (Src.own (cs := #[str (wrX d.1.l d.2.l)]) (m := 1) (List.mem_append_right _ m0) rfl rfl) rfl (A1 ts [(wrX d.1.l d.2.l)]).symm (by unfold maxLen; omega) (by omega) fun A' c' og' hG' => ?_; refine c5 rfl (b5 (w6 (i1 (c9 (b6 rfl ?_))))); refine t5 _ rfl rfl rfl rfl q6 ?_; refine c5 rfl (b5 ?_); exact again _ (i + 1, ts ++ [(wrX d.1.l d.2.l)], (A', c'), og') ⟨by show i + 1 ≤ 2; omega, by show (ts ++ [_]).length = 1 + (i + 1); rw [List.length_append]; simp; omega, gd_snoc htb htx, by show Grow _ _ _ (ts ++ [_]).length _ _ _; rw [List.length_append]; exact hG'⟩ (y8 (by omega)) ⟨rfl, rfl, rfl, rfl, by rw [List.length_append]; rfl, rfl, tK⟩ (List.sublist_append_left _ _) mC
  intro hg3; have hg3' := hg3; try simp at hg3'
 have hb2' := hb2; try simp at hb2'
 have hi : i = 2 := by omega
 subst hi; refine t7 (C7 (t8 (i1 (d6 ?_))))
 obtain ⟨gT2, cur, rfl, rfl, hg1, hg2, hg3, hg4⟩ : ∃ g cur, oA = some ⟨g, 0, none⟩ ∧ og = [(g, Obj.cells cur H2 (0, 0))] ∧ ts.length ≤ oc ∧ oc ≤ maxLen ∧ cur.size = oc * 1 ∧ cur.toList.take (ts.length * 1) = rows ts := by
   rcases hG.2 with ⟨_, h, _⟩ | h
   · omega
   obtain ⟨g, cur, h1, h2, h3, h4, h5, h6⟩ := h; exact ⟨g, cur, h1, h2, h3, h4, h5, h6⟩
 have hs3 := htb 2 (by omega); refine c9 (b6 rfl (b6 rfl ?_)); refine B4 2 2 rfl j9 j6 rfl rfl rfl (by simp only; omega) rfl ?_; refine a7 (v := str (ts.getD 2 default)) rfl a9 rfl (i2 m0 (own_f (α := Str) (k := 2) (f := 0) hg4 (by omega) rfl rfl)) ?_; refine b6 rfl (b6 rfl (b6 rfl ?_)); refine j4 zX rfl rfl (zE (ts.getD 2 default) at_ how by_ (by omega)) (hpR := [_]) (.refl _) tK fun sm hsm => ?_; simp only at hsm; refine n7 _ rfl rfl (fun _ => W1 ..) fun gS => ?_; refine E3 (ts.length + 1) (rows (ts ++ [sm])) iH rfl rfl rfl hG (List.perm_append_comm (l₁ := [_]) (l₂ := [_])) (Src.own (cs := #[str sm]) (m := 1) (List.mem_append_right [_] m0) rfl rfl) rfl (A1 ts [sm]).symm (by unfold maxLen; omega) (by omega) fun A' c' og' hG' => ?_; refine c5 rfl (c8 (Y7 ?_)); refine Z7 hG' ?_; have htl2 : (ts ++ [sm]).length = ts.length + 1 := by rw [List.length_append]; rfl
 rw [← htl2] at hG'; have ht6 : (ts ++ [sm]).length = 4 := by omega
 refine c9 (c5 rfl (c8 (j5 ?_))); refine u6 (β := Nat) ⟨fun i => i ≤ 4, fun i => [(14, .slice A' (ts ++ [sm]).length c'), (20, int i)], fun _ => [], fun _ => [Row A' (rows (ts ++ [sm])), ERRT]⟩ (fun i => 4 - i) 0 (Nat.zero_le _) ⟨by rw [htl2]; rfl, rfl, tK⟩ nK mC fun i hi => ?_; generalize ts ++ [sm] = ts2 at *; simp only at hi; refine d6 (i4 (b6 rfl (b6 rfl ?_))); refine k6 rfl j9 rfl ?_; refine B5 rfl rfl rfl (c8 ?_); refine k9 rfl (fun hb4 => ?_) (fun hb4 => ?_)
 ·have hb4' := hb4; try simp at hb4'
  have hi4 : i < ts2.length := by omega
  have hRd := aj8 (ts2.getD i default); have hRf := ax2 (ts2.getD i default); obtain ⟨r2, hr2⟩ : ∃ r, readT (ts2.getD i default) = r := ⟨_, rfl⟩; rw [hr2] at hRd hRf; refine i8 (i1 (d6 (j5 (i4 (b6 rfl (b6 rfl ?_)))))); refine m7 (α := Str) ts2 i rfl j9 j6 rfl rfl rfl mB rfl (by omega) (by decide) (a7 (v := str (ts2.getD i default)) rfl a9 rfl (b7 mB (b4 (by omega) rfl)) (j4 bj0 rfl rfl (hRd) t4 mC fun y2 hy2 => ?_)); refine b6 rfl (l3 rfl rfl rfl (l3 rfl rfl rfl (l3 rfl rfl rfl ?_))); refine u4 rfl (fun _ => D4 _) fun gX => l6 (cs := #[.slice y2.2.1.1 y2.1.length y2.2.1.2, .slice y2.2.2.2.1 y2.2.2.1.length y2.2.2.2.2]) rfl rfl (.refl _) c7 (by rfl) (by rfl) ?_; refine c5 rfl (c5 rfl (c8 (d6 (C3 (c9 (b6 rfl (b6 rfl ?_))))))); refine m7 (α := Str) ts2 i rfl j9 j6 rfl rfl rfl mB rfl (by omega) (by decide) (a7 (v := str (ts2.getD i default)) rfl a9 rfl (b7 mB (b4 (by omega) rfl)) (j4 bj8 rfl rfl (hRf) t4 tK fun y3 hy3 => ?_)); obtain ⟨yc, ⟨yA, yC⟩, yh, ⟨yB, yD⟩⟩ := y3; have e3 : y2.1 = yc := hy2.e1.trans hy3.e1.symm; subst e3; have ep : yh.map Hd.p = y2.2.2.1.map Hd.p := hy3.e2.trans hy2.e2.symm; have hn1 := hy2.n1; have hn2 := hy2.n2; refine b6 rfl (l3 rfl rfl rfl (l3 rfl rfl rfl (l3 rfl rfl rfl ?_))); refine u4 rfl (fun _ => D4 _) fun gY => l6 (cs := #[.slice yA y2.1.length yC, .slice yB yh.length yD]) rfl rfl (.refl _) c7 (by rfl) (by rfl) ?_; refine c5 rfl (c5 rfl (c8 (d6 (C3 (c9 (b6 rfl (b6 rfl (M8 rfl rfl rfl (b6 rfl ?_))))))))); refine v6 rfl rfl ?_ ?_
  ·intro hg4; have hg4' := hg4; try simp at hg4'
   refine k5 hg4 (b6 rfl (k5 hg4 (b6 rfl (k5 hg4 (M8 rfl rfl rfl ?_))))); refine p_f rfl rfl (bf1 hg4) rfl (b6 rfl ?_); refine v6 rfl rfl ?_ ?_
   ·intro hg5; have hg5' := hg5; try simp at hg5'
    refine k5 hg5 (I3 rfl i6 c7 rfl mB (by rfl) (k5 hg5 (I3 rfl i6 c7 rfl mB (by rfl) (k5 hg5 ?_)))); refine j4 xP rfl rfl (wS (A := y2.2.1.1) (B := y2.2.2.2.1) (A2 := yA) (B2 := yB) (ca := y2.2.1.2) (cb := y2.2.2.2.2) (ca2 := yC) (cb2 := yD) y2.1 y2.2.2.1 yh ep (by omega) (by omega) (fun h q => Nat.le_trans (hy2.na h q) (by decide))) t4 mC fun _ _ => ?_; refine k5 hg5 (H6 rfl rfl ?_); refine p_f rfl rfl (bf1 hg5) rfl (c8 ?_); refine j0 rfl (fun hb5 => ?_) (fun hb5 => ?_)
    ·exact absurd hb5 (by decide)
    have hb5' := hb5; try simp at hb5'
    refine i8 (w6 (i1 (c9 (b6 rfl ?_)))); refine t5 _ rfl rfl rfl rfl q6 ?_; refine c5 rfl (b5 ?_); exact again _ (i + 1) (by show i + 1 ≤ 4; omega) (y8 (by omega)) mC nK mC
   intro hg5; have hg5' := hg5; try simp at hg5'
  intro hg4; have hg4' := hg4; try simp at hg4'
 have hb4' := hb4; try simp at hb4'
 refine t7 (C7 (t8 (i1 (i4 ?_)))); refine j4 bM rfl rfl (aX) t4 tK fun _ _ => ?_; refine c5 rfl (c8 (l4 ?_)); exact ret1 () rfl rfl rfl tK nK tK
end Go.Proofs.YtdgmfagfpbdbhaaGreatDoor
end
section
namespace Go.W
open Go Go.RowKit Go.ChangeShapes Go.WideShapes
section
variable {H : Type} {enc : TypeId × Value → H} {P : Program} {w : World} {base : Nat} {spare : Nat → Bool} {held : Bool}
theorem row_of {α : Type} [El α] (h1 : El.sz α = 1) {a : Addr} {l : List α} (h : ∀ j (hj : j < l.length), ∃ v, El.cells l[j] = [v] ∧ w.cell? (a.add j) = some v) : (Row (some a) (rows l)).P w := by
  intro j u hu; refine ⟨a, rfl, ?_⟩
  have hj : j < l.length := by
    have := (List.getElem?_eq_some_iff.1 hu).1; rw [R6, h1, Nat.mul_one] at this; exact this
  obtain ⟨v, hv, hc⟩ := h j hj; have h2 := rows_get (l := l) (i := j) (j := 0) (v := v) hj (by simp [List.getD_eq_getElem?_getD, hj, hv]); rw [h1] at h2; simp only [Nat.mul_one, Nat.add_zero] at h2; rw [hu] at h2
  cases h2
  exact hc
theorem lj4 {t e : TypeId} {A : Option Addr} {n c fuel : Nat} {x : DataW H × List MemPlace} (ht : P.underlying t = some (.slice e)) (he : P.underlying e = some (.int .i64)) (hc : P.cellsOf e = 1)
    (h : DataW.trod enc P w base spare held fuel t [.slice A n c] = some x) : ∃ l : List Int, n = l.length ∧ l.length ≤ c ∧ c ≤ maxLen ∧ (Row A (rows l)).P w ∧ ∀ z ∈ l, I64 z := by
  rcases open_ints ht he hc h with ⟨hcs, _⟩ | ⟨a, len, cap, zs, hcs, _, hl, hm, hlen, _, hcell, hwf⟩
  · simp at hcs
    obtain ⟨rfl, rfl, rfl⟩ := hcs; exact ⟨[], rfl, Nat.le_refl _, by unfold maxLen; omega, Row.nil _ _, by intro z hz; simp at hz⟩
  simp at hcs
  obtain ⟨rfl, rfl, rfl⟩ := hcs; have hle : n ≤ zs.length := by rw [hlen]; split <;> omega
  have hlen2 : (zs.take n).length = n := by rw [List.length_take]; omega
  refine ⟨zs.take n, hlen2.symm, by rw [hlen2]; exact hl, hm, row_of rfl fun j hj => ?_, fun z hz => ?_⟩
  · rw [hlen2] at hj
    refine ⟨int zs[j], by simp [El.cells], ?_⟩; rw [hcell j (by omega)]
    simp [List.getD_eq_getElem?_getD, show j < zs.length by omega]
  have := hwf z (List.mem_of_mem_take hz)
  simp [Lit.wf, IntKind.min, IntKind.max, IntKind.signed, IntKind.bits] at this
  exact ⟨by omega, by omega⟩
theorem mq1 {f : Nat} {args : List Value} {LI : List Fact} (h : Meets P f args ({ LI := LI, val := fun _ : Unit => .bool true } : Con Unit)) (hL : ∀ F ∈ LI, F.P w) : Calls P f args.toArray w fun e w' => e = .returned (.bool true) ∧ Below w.heap.size w w' := by
  refine (h w ⟨Ext.refl _ _, by simp, by simp, by simp, hL, by simp, fun F hF k hk => .inr (.inr ⟨F, hF, hk⟩)⟩).mono fun e w' hp => ?_; obtain ⟨_, rfl, _, hwi⟩ := hp; exact ⟨rfl, hwi.ext.below⟩
end
end Go.W
end
section
namespace Go.W
open Go Go.RowKit Go.ChangeShapes Go.WideShapes Go.Deep
section
variable {H : Type} {enc : TypeId × Value → H} {P : Program} {w : World} {base : Nat} {spare : Nat → Bool} {held : Bool}
theorem kx7 {α : Type} [El α] (h0 : 0 < El.sz α) {a : Addr} {l : List α} (h : ∀ j, j < l.length → ∀ i v, (El.cells (l.getD j default))[i]? = some v → w.cell? (a.add (j * El.sz α + i)) = some v) : (Row (some a) (rows l)).P w := by
  intro k u hu; refine ⟨a, rfl, ?_⟩; have hk := (List.getElem?_eq_some_iff.1 hu).1; rw [R6] at hk; have hj : k / El.sz α < l.length := Nat.div_lt_of_lt_mul (by rw [Nat.mul_comm]; exact hk); have hd : k / El.sz α * El.sz α + k % El.sz α = k := by rw [Nat.mul_comm]; exact Nat.div_add_mod _ _
  have h2 := rows_get' l (k / El.sz α) (k % El.sz α) hj (Nat.mod_lt _ h0); rw [hd, hu] at h2; have := h _ hj _ _ h2.symm
  rwa [hd] at this
end
end Go.W
end
section
namespace Go.Proofs.YtdgmfagfpbdbhaaGreatDoor
open Go Go.W Go.RowKit Go.ChangeShapes Go.WideShapes Go.Deep
set_option maxRecDepth 20000
attribute [local irreducible] HL HC HQ HB Row Rows2 Blk Facts
section
variable {H : Type} {enc : TypeId × Value → H} {P : Program} {w : World} {base : Nat} {spare : Nat → Bool} {held : Bool}
theorem kj7 {t e : TypeId} {f0 f1 : Field} {v : Value} {fuel : Nat} {x : DataW H × List MemPlace} (ht : P.underlying t = some (.slice e)) (he : P.underlying e = some (.struct #[f0, f1])) (ce : P.cellsOf e = 2)
    (o0 : f0.offset = 0) (o1 : f1.offset = 1) (c0 : P.cellsOf f0.type = 1) (c1 : P.cellsOf f1.type = 1) (t0 : P.underlying f0.type = some .string) (t1 : P.underlying f1.type = some (.int .i64))
    (h : DataW.trod enc P w base spare held fuel t [v] = some x) : ∃ A c, ∃ l : List Cl, v = .slice A l.length c ∧ l.length ≤ c ∧ c ≤ maxLen ∧ (Row A (rows l)).P w := by
  rcases open_slice ht h with ⟨hcs, _⟩ | ⟨a, len, cap, m, n', D, Pl, hcs, _, hl, hm, hmm, _, hx⟩
  · simp at hcs
    subst hcs; exact ⟨none, 0, [], rfl, Nat.le_refl _, by unfold maxLen; omega, Row.nil _ _⟩
  simp at hcs
  subst hcs; have hlm : len ≤ m := by rw [hmm]; split <;> omega
  have each : ∀ i, i < len → ∃ q : Cl, ∀ k v, (El.cells q)[k]? = some v → w.cell? (a.add (i * 2 + k)) = some v := by
    intro i hi; obtain ⟨cs', h1, h2⟩ := hx i (by omega); rw [ce] at h1; obtain ⟨_, hlen, hcell⟩ := World.cells?_some h1; obtain ⟨y0, y1, k, _, _, g0, g1⟩ := trod_struct2 he h2
    match cs', hlen with
    | [v0, v1], _ =>
      simp [o0, o1, c0, c1] at g0 g1
      obtain ⟨s, e0, _, _⟩ := DataW.trod_string t0 g0; obtain ⟨z1, e1, _, _⟩ := DataW.trod_int t1 g1
      simp at e0 e1
      subst e0 e1; refine ⟨(s.data.toList, z1), fun k v hv => ?_⟩; have hk : k < 2 := (List.getElem?_eq_some_iff.1 hv).1; have hc := hcell k hk; rw [add_add] at hc; rw [hc, ← hv]; show _ = [str s.data.toList, int z1][k]?
      simp [str]
  obtain ⟨q, hq⟩ := choose_lt each; refine ⟨some a, cap, (List.range len).map q, by simp, by simpa using hl, hm, kx7 (by decide) fun j hj i v hv => ?_⟩
  simp at hj
  refine hq j hj i v ?_; rw [← hv]
  simp [List.getD_eq_getElem?_getD, hj]
theorem lx9 {e : TypeId} {f0 f1 f2 f3 : Field} {cs : List Value} {fuel : Nat} {x : DataW H × List MemPlace} {ei : TypeId} (he : P.underlying e = some (.struct #[f0, f1, f2, f3])) (ce : P.cellsOf e = 4)
    (o0 : f0.offset = 0) (o1 : f1.offset = 1) (o2 : f2.offset = 2) (o3 : f3.offset = 3) (c0 : P.cellsOf f0.type = 1) (c1 : P.cellsOf f1.type = 1) (c2 : P.cellsOf f2.type = 1) (c3 : P.cellsOf f3.type = 1)
    (t0 : P.underlying f0.type = some .string) (t1 : P.underlying f1.type = some (.int .i64)) (t2 : P.underlying f2.type = some (.int .i64)) (t3 : P.underlying f3.type = some (.slice ei)) (ti : P.underlying ei = some (.int .i64)) (ci : P.cellsOf ei = 1)
    (h : DataW.trod enc P w base spare held fuel e cs = some x) : ∃ q : Hd, cs = El.cells q ∧ (Hd.row q).P w := by
  obtain ⟨xs, n, _, rfl, hl, hlen, hf⟩ := DataW.trod_struct he h; rw [ce] at hl
  match xs, hlen, cs, hl with
  | [y0, y1, y2, y3], _, [v0, v1, v2, v3], _ =>
    have g0 := hf 0 f0 rfl; have g1 := hf 1 f1 rfl; have g2 := hf 2 f2 rfl; have g3 := hf 3 f3 rfl
    simp [o0, o1, o2, o3, c0, c1, c2, c3] at g0 g1 g2 g3
    obtain ⟨s, e0, _, _⟩ := DataW.trod_string t0 g0; obtain ⟨z1, e1, _, _⟩ := DataW.trod_int t1 g1; obtain ⟨z2, e2, _, _⟩ := DataW.trod_int t2 g2
    simp at e0 e1 e2
    subst e0 e1 e2
    obtain ⟨A, n3, c3', hv⟩ : ∃ A n3 c3', v3 = .slice A n3 c3' := by
      rcases open_slice t3 g3 with ⟨hcs, _⟩ | ⟨a, len, cap, m, n', D, Pl, hcs, _⟩
      · simp at hcs; exact ⟨_, _, _, hcs⟩
      simp at hcs; exact ⟨_, _, _, hcs⟩
    rw [hv] at g3; obtain ⟨l, rfl, _, _, hr, _⟩ := lj4 t3 ti ci g3; exact ⟨(s.data.toList, z1, z2, ⟨A, c3', l⟩), by rw [hv]; rfl, hr⟩
theorem pj5 {t e : TypeId} {f0 f1 f2 f3 : Field} {v : Value} {fuel : Nat} {x : DataW H × List MemPlace} {ei : TypeId} (ht : P.underlying t = some (.slice e)) (he : P.underlying e = some (.struct #[f0, f1, f2, f3])) (ce : P.cellsOf e = 4)
    (o0 : f0.offset = 0) (o1 : f1.offset = 1) (o2 : f2.offset = 2) (o3 : f3.offset = 3) (c0 : P.cellsOf f0.type = 1) (c1 : P.cellsOf f1.type = 1) (c2 : P.cellsOf f2.type = 1) (c3 : P.cellsOf f3.type = 1)
    (t0 : P.underlying f0.type = some .string) (t1 : P.underlying f1.type = some (.int .i64)) (t2 : P.underlying f2.type = some (.int .i64)) (t3 : P.underlying f3.type = some (.slice ei)) (ti : P.underlying ei = some (.int .i64)) (ci : P.cellsOf ei = 1)
    (h : DataW.trod enc P w base spare held fuel t [v] = some x) : ∃ A c, ∃ l : List Hd, v = .slice A l.length c ∧ l.length ≤ c ∧ c ≤ maxLen ∧ (RowsF A l Hd.row).P w := by
  rcases open_slice ht h with ⟨hcs, _⟩ | ⟨a, len, cap, m, n', D, Pl, hcs, _, hl, hm, hmm, _, hx⟩
  · simp at hcs
    subst hcs; exact ⟨none, 0, [], rfl, Nat.le_refl _, by unfold maxLen; omega, Row.nil _ _, by simp⟩
  simp at hcs
  subst hcs; have hlm : len ≤ m := by rw [hmm]; split <;> omega
  have each : ∀ i, i < len → ∃ q : Hd, (∀ k v, (El.cells q)[k]? = some v → w.cell? (a.add (i * 4 + k)) = some v) ∧ (Hd.row q).P w := by
    intro i hi; obtain ⟨cs', h1, h2⟩ := hx i (by omega); rw [ce] at h1; obtain ⟨_, hlen, hcell⟩ := World.cells?_some h1; obtain ⟨q, rfl, hr⟩ := lx9 he ce o0 o1 o2 o3 c0 c1 c2 c3 t0 t1 t2 t3 ti ci h2; refine ⟨q, fun k v hv => ?_, hr⟩; have hk : k < 4 := (List.getElem?_eq_some_iff.1 hv).1; have hc := hcell k hk; rw [add_add] at hc; rw [hc, ← hv]
  obtain ⟨q, hq⟩ := choose_lt each; refine ⟨some a, cap, (List.range len).map q, by simp, by simpa using hl, hm, kx7 (by decide) fun j hj i v hv => ?_, fun p hp => ?_⟩
  · simp at hj
    refine (hq j hj).1 i v ?_; rw [← hv]
    simp [List.getD_eq_getElem?_getD, hj]
  obtain ⟨j, hj, rfl⟩ := List.mem_map.1 hp; exact (hq j (List.mem_range.1 hj)).2
end
theorem mq4 {H : Type} {enc : TypeId × Value → H} {w : World} {base : Nat} {spare : Nat → Bool} {held : Bool} {cs : Array Value} (h : ∃ fuel x, DataW.trod enc Tryz.prog w base spare held fuel T.p8 cs.toList = some x) :
    ∃ A c B k, ∃ cs0 : List Cl, ∃ hs0 : List Hd, cs = #[.slice A cs0.length c, .slice B hs0.length k] ∧ (cs0.length ≤ c ∧ c ≤ 9223372036854775807) ∧ (hs0.length ≤ k ∧ k ≤ 9223372036854775807) ∧ (Row A (rows cs0)).P w ∧ (RowsF B hs0 Hd.row).P w := by
  obtain ⟨fuel, x, h⟩ := h; obtain ⟨y0, y1, n, _, hl, g0, g1⟩ := trod_struct2 Tryz.underlying25 h; have hl2 : cs.toList.length = 2 := hl.trans w7
  obtain ⟨v0, v1, hv⟩ : ∃ v0 v1, cs.toList = [v0, v1] := by
    match hc : cs.toList, hl2 with
    | [v0, v1], _ => exact ⟨v0, v1, rfl⟩
  rw [hv] at g0 g1
  have g0' : DataW.trod enc Tryz.prog w base spare held n T.V2 [v0] = some y0 := by
    have e : Tryz.prog.cellsOf T.V2 = 1 := w7
    have := g0; simp only [List.drop_zero] at this; exact this
  have g1' : DataW.trod enc Tryz.prog w base spare held n T.bT [v1] = some y1 := g1; obtain ⟨A, c, l, rfl, h1, h2, h3⟩ := kj7 Tryz.underlying22 Tryz.underlying44 w7 rfl rfl w7 w7 Tryz.underlying9 Tryz.underlying3 g0'; obtain ⟨B, k, m, rfl, h4, h5, h6⟩ := pj5 Tryz.underlying23 Tryz.underlying46 w7 rfl rfl rfl rfl w7 w7 w7 w7 Tryz.underlying9 Tryz.underlying3 Tryz.underlying3 Tryz.underlying26 Tryz.underlying3 w7 g1'; exact ⟨A, c, B, k, l, m, by rw [← Array.toArray_toList (xs := cs), hv], ⟨h1, h2⟩, ⟨h4, h5⟩, h3, h6⟩
end Go.Proofs.YtdgmfagfpbdbhaaGreatDoor
end
