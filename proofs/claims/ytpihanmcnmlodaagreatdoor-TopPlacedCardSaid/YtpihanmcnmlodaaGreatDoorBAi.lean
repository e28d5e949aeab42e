/- Texts. -/
import Derived.Conc.LoneCalls
import Derived.Laws.CopyRow
import Derived.Laws.Tables
import Derived.Test.YtpihanmcnmlodaaGreatDoorBAh
set_option linter.unusedVariables false
set_option linter.unusedSimpArgs false
section
namespace Go.Proofs.YtpihanmcnmlodaaGreatDoor
open Go Go.W Tryz T F
set_option maxRecDepth 20000
attribute [local irreducible] HL HC HQ HB Row Rows2 Blk Facts
abbrev trB (g : Nat) (A : Option Addr) (n c : Nat) (B : Option Addr) (m k : Nat) : Nat × Obj := (g, .cells #[.slice A n c, .slice B m k] m5 (0, 0))
abbrev hdB (g : Nat) (w : Str) (cl se : Int) (A : Option Addr) (n c : Nat) : Nat × Obj := (g, .cells #[str w, int cl, int se, .slice A n c] aN (0, 0))
abbrev TRes := List Cl × List Hd × OutC × OutC
structure TOf (m1 m2 : Nat) (x : TRes) : Prop where
  ok : checkT (trOf x.1 x.2.1) = 0
  c1 : 1 ≤ x.1.length
  c2 : x.1.length ≤ m1
  h2 : x.2.1.length ≤ m2
  ca : x.1.length ≤ x.2.2.1.2
  cb : x.2.1.length ≤ x.2.2.2.2
  ha : ∀ h ∈ x.2.1, h.2.2.2.l.length ≤ 1000000
theorem hs_ha {words : List Int} {nc n : Nat} {hs : List Hd} (hn : n ≤ 6) (h : HsMade words nc n hs) : ∀ x ∈ hs, x.2.2.2.l.length ≤ 1000000 := by
  intro x hx; obtain ⟨i, hi, rfl⟩ := List.getElem_of_mem hx; have ha := (h i hi).2.1; rw [q7 hi] at ha; have hg := cx4 (l := hs[i].2.2.2.l) fun k hk => ⟨(mF (ha k hk)).1, (mF (ha k hk)).2.2.2⟩
  by_cases h0 : hs[i].2.2.2.l.length = 0
  · omega
  have h1 := hg (hs[i].2.2.2.l.length - 1) (by omega); have h2 := (mF (ha (hs[i].2.2.2.l.length - 1) (by omega))).2.1
  omega
set_option maxHeartbeats 2000000 in
theorem rO {g : Nat} {A : Option Addr} {c : Nat} {nums : List Int} {s : Int × Int} (m1 m2 : Nat) (hn : nums.length ≤ 9223372036854775807) (hs : DOK nums s) (h1 : 2 ≤ m1 ∧ m1 ≤ 6) (h2 : m2 ≤ 6) :
    Meets prog bE [.pointer (i7 g), int m1, int m2] (diceCon g A c nums s (TOf m1 m2) (fun x => .agg #[.slice x.2.2.1.1 x.1.length x.2.2.1.2, .slice x.2.2.2.1 x.2.1.length x.2.2.2.2]) (fun x => [Row x.2.2.1.1 (rows x.1), RowsF x.2.2.2.1 x.2.1 Hd.row])) := by
 refine d3 uL rfl n2 fun w0 => d4 (B2 rfl (fun _ => P3 _) fun g6 => j4 (B2 rfl (fun _ => P3 _) fun g7 => ?_)); refine c3 (d1 ?_); refine gN (List.perm_append_comm (l₁ := [trB g7 none 0 0 none 0 0, trB g6 none 0 0 none 0 0]) (l₂ := [dice g A c nums s])) ?_; refine c9 (b4 rfl ?_); refine i5 mR rfl rfl (mM) k8 tK fun gs _ => k5 rfl O9 rfl (i5 aV rfl rfl (aP 9 hn hs (by decide)) k8 mC fun x hx => ?_); obtain ⟨s1, no⟩ := x; obtain ⟨hs1, hno⟩ := hx; simp only at hs1; obtain ⟨names, nA, nC⟩ := no; obtain ⟨hP, hnc⟩ := hno; simp only at hP hnc; have hnl : names.length = 9 := by rw [hP.length_eq, pW]
 refine b6 rfl (c3 (d1 (d4 (b4 rfl (b4 rfl ?_))))); refine i5 R5 rfl rfl (Q3 1 (m1 : Int) hn hs1 (by omega)) k8 mC fun x hx => ?_; obtain ⟨s2, z⟩ := x; obtain ⟨hs2, hz⟩ := hx; simp only at hs2; simp only [FromInv] at hz; have hz2 : 1 ≤ z ∧ z ≤ m1 := ⟨hz.1, by by_cases h1 : (1 : Int) < m1; exact hz.2.1 h1; have := hz.2.2 (by omega); omega⟩; obtain ⟨zn, rfl⟩ := Int.eq_ofNat_of_zero_le (show 0 ≤ z by omega); refine b6 rfl (c3 (i8 ?_)); refine p6 (β := Nat × List Cl × OutC × Hp × (Int × Int)) ⟨fun x => x.2.1.length + x.1 = zn ∧ ClsMade names x.2.1 ∧ Grow kW 2 x.2.2.1.1 x.2.1.length x.2.2.1.2 (rows x.2.1) x.2.2.2.1 ∧ DOK nums x.2.2.2.2, fun x => [(0, .pointer (i7 g)), (2, int m2), (6, .pointer (i7 g6)), (7, .pointer (i7 g7)), (8, .slice nA names.length nC), (9, int x.1)], fun x => dice g A c nums x.2.2.2.2 :: trB g7 x.2.2.1.1 x.2.1.length x.2.2.1.2 none 0 0 :: trB g6 none 0 0 none 0 0 :: x.2.2.2.1, fun _ => [Row nA (rows names), Row A (rows nums)]⟩ (fun x => x.1) (zn, [], (none, 0), [], s2) ⟨Nat.zero_add _, fun i hi => by simp at hi, Grow.nil _ _, hs2⟩ mC (List.Sublist.refl _) mC fun x hx => ?_; clear hs hs1 hs2 hz; obtain ⟨r, cs, ⟨cA, cC⟩, og, s⟩ := x; obtain ⟨hr, hC, hG, hs⟩ := hx; simp only at hr hC hG hs; refine d1 (d4 (b4 rfl (K5 rfl rfl rfl (c3 ?_))))
 first | refine j9 rfl (fun hb1 => ?_) (fun hb1 => ?_) | refine d6 rfl (fun hb1 => ?_) (fun hb1 => ?_)
 ·have hb1' := hb1; try simp at hb1'
  obtain ⟨r, rfl⟩ : ∃ q, r = q + 1 := ⟨r - 1, by omega⟩; have hcl : cs.length < 6 := by omega
  have hrg := gz4 hP (show cs.length < 9 by omega); obtain ⟨nm, hnm⟩ := Int.eq_ofNat_of_zero_le hrg.1; have hnm9 : nm < 9 := by omega
  have hsn : sortsL.getD nm default = sortN names cs.length := by unfold sortN; rw [hnm, Int.toNat_natCast]
  refine i4 (c7 (d1 (i8 ?_))); refine I7 (dice g A c nums s :: og) ([trB g7 cA cs.length cC none 0 0, trB g6 none 0 0 none 0 0]) (C6 fun p => by simp only [List.countP_append, List.countP_cons, List.countP_nil]; omega) 19 [16] mixed (by decide) (by decide) (by decide) rfl rfl rfl ?_
  apply k9 _ rfl rfl rfl
  ·intro w1
   first | refine b2 ⟨_, 0, none⟩ rfl rfl m3 rfl ?_ | refine b2 _ rfl rfl m3 rfl ?_
   refine b7 ?_; exact i6 rfl
  apply k9 _ rfl rfl rfl
  ·intro w1
   first | refine b3 rfl i2 rfl (d5 mB rfl) ?_ | refine b3 rfl i2 rfl (j3 mB rfl) ?_ | refine b3 rfl i2 rfl (i1 mB (c5 (by omega) rfl)) ?_ | refine b3 rfl i2 rfl (i3 mB (rows_get (by omega) rfl)) ?_ | refine b3 rfl i2 rfl (j8 mB rfl) ?_
   refine b7 ?_; exact i6 rfl
  refine N6 ⟨Nat, fun _ => True, fun g => .slice (i7 g) 9 9, fun g => [Row (i7 g) (rows sortsL)]⟩ rfl rfl rfl ?_ ?_
  ·intro w1; refine i5 mR rfl rfl (mM) k8 tK fun gs2 _ => b7 ?_; exact D1 gs2 tK rfl ⟨m0, tK⟩
  refine p9 rfl ?_
  apply k9 _ rfl rfl rfl
  ·intro w1
   first | refine b2 ⟨_, 0, none⟩ rfl rfl m3 rfl ?_ | refine b2 _ rfl rfl m3 rfl ?_
   refine b7 ?_; exact i6 rfl
  apply k9 _ rfl rfl rfl
  ·intro w1
   first | refine b3 rfl i2 rfl (d5 mB rfl) ?_ | refine b3 rfl i2 rfl (j3 mB rfl) ?_ | refine b3 rfl i2 rfl (i1 mB (c5 (by omega) rfl)) ?_ | refine b3 rfl i2 rfl (i3 mB (rows_get (by omega) rfl)) ?_ | refine b3 rfl i2 rfl (j8 mB rfl) ?_
   refine b7 ?_; exact i6 rfl
  refine m6 (fun w1 => k5 rfl u1 rfl (q_z rfl)) (m6 (fun w1 => p8 (α := Int) names cs.length rfl j2 k6 rfl rfl rfl mB rfl (by omega) (by decide) (q_z rfl)) (m6 (fun w1 => b3 (v := int (names.getD cs.length default)) rfl b5 rfl (i1 mB (c5 (by omega) rfl)) (q_z rfl)) ?_)); refine N6 ⟨Nat, fun _ => True, fun g => .pointer (some ((adr (i7 g)).add (nm * 1))), fun g => [Row (i7 g) (rows sortsL)]⟩ rfl rfl rfl ?_ ?_
  ·intro g2 _; intro w1; refine p8 (α := Str) sortsL nm rfl O9 kU rfl rfl hnm mB rfl hnm9 (by decide) (b7 ?_); exact D1 g2 tK rfl mC
  apply k9 _ rfl rfl rfl
  ·intro g9 _; intro w1; refine b3 (v := str (sortN names cs.length)) rfl j7 rfl (i1 mB (by rw [← hsn]; exact c5 (show nm < 9 from hnm9) rfl)) ?_; refine b7 ?_; exact i6 rfl
  refine p9 rfl ?_
  apply k9 _ rfl rfl rfl
  ·intro w1
   first | refine b2 ⟨_, 0, none⟩ rfl rfl m3 rfl ?_ | refine b2 _ rfl rfl m3 rfl ?_
   refine b7 ?_; exact i6 rfl
  apply k9 _ rfl rfl rfl
  ·intro w1
   first | refine b3 rfl i2 rfl (d5 mB rfl) ?_ | refine b3 rfl i2 rfl (j3 mB rfl) ?_ | refine b3 rfl i2 rfl (i1 mB (c5 (by omega) rfl)) ?_ | refine b3 rfl i2 rfl (i3 mB (rows_get (by omega) rfl)) ?_ | refine b3 rfl i2 rfl (j8 mB rfl) ?_
   refine b7 ?_; exact i6 rfl
  refine m6 (fun w1 => k5 rfl u1 rfl (q_z rfl)) (m6 (fun w1 => H3 ((cs.length : Int) - 1) rfl rfl rfl rfl m7 (q_z rfl)) ?_); refine qU ⟨(Int × Int) × Int, fun x => DOK nums x.1 ∧ FromInv (-1) ((cs.length : Int) - 1) x.2, fun x => int x.2, fun _ => [], fun x => dice g A c nums x.1 :: og⟩ rfl rfl rfl ?_ ?_
  ·intro w1; refine i5 R5 rfl rfl (Q3 (-1) ((cs.length : Int) - 1) hn hs (by omega)) k8 mC fun x hx => ?_; obtain ⟨s3, u⟩ := x; obtain ⟨hs3, hu⟩ := hx; simp only at hs3; refine b7 ?_; exact P5 (s3, u) ⟨hs3, hu⟩ (fun _ => rfl) (List.Sublist.refl _) tK
  refine N6 ⟨Int, fun u => FromInv (-1) ((cs.length : Int) - 1) u, fun u => .agg #[str (sortN names cs.length), int u], fun _ => []⟩ rfl rfl rfl ?_ ?_
  ·intro x hx; intro w1; refine H6 _ rfl rfl (fun _ => bQ ..) (b7 ?_); exact D1 x.2 hx.2 rfl tK
  refine N6 ⟨Nat × Int, fun x => FromInv (-1) ((cs.length : Int) - 1) x.2, fun x => .slice (some ⟨x.1, 0, none⟩) 1 1, fun x => [Row (some ⟨x.1, 0, none⟩) (rows [(((sortN names cs.length), x.2) : Cl)])]⟩ rfl rfl rfl ?_ ?_
  ·intro u hu; intro w1; refine l5 _ rfl rfl (fun _ => bP ..) fun gS => b7 (J7 (rows [(((sortN names cs.length), u) : Cl)]) (List.prefix_refl _) ?_); exact D1 (gS, u) hu rfl ⟨m0, tK⟩
  refine y8 ⟨rfl, ?_⟩; intro g2 _ g9 _ x16 h16 u17 h17 x18 h18; obtain ⟨s4, z16⟩ := x16; obtain ⟨hs4, _⟩ := h16; obtain ⟨g18, u⟩ := x18; simp only at hs4; simp only [FromInv] at h18
  have hu5 : -1 ≤ u ∧ u < (cs.length : Int) := by
    refine ⟨h18.1, ?_⟩
    by_cases h1 : (-1 : Int) < (cs.length : Int) - 1
    · have := h18.2.1 h1; omega
    have := h18.2.2 (by omega); omega
  refine C0 (hp' := [dice g A c nums s4, trB g7 cA cs.length cC none 0 0, trB g6 none 0 0 none 0 0]) (cs.length + 1) (rows (cs ++ [(((sortN names cs.length), u) : Cl)])) tD rfl rfl rfl hG (show List.Perm (dice g A c nums s4 :: og ++ [trB g7 cA cs.length cC none 0 0, trB g6 none 0 0 none 0 0]) (og ++ [dice g A c nums s4, trB g7 cA cs.length cC none 0 0, trB g6 none 0 0 none 0 0]) from (C6 fun p => by simp only [List.countP_append, List.countP_cons, List.countP_nil]; omega)) (Src.row (news := rows [(((sortN names cs.length), u) : Cl)]) (m := 1) mB rfl (D0 _) (by decide)) rfl (r8 _ _).symm (by unfold maxLen; omega) (by omega) fun A4 c4 og4 hG4 => ?_
  first | refine b2 ⟨_, 0, none⟩ rfl rfl m3 rfl ?_ | refine b2 _ rfl rfl m3 rfl ?_
  refine u9 (hp' := og4 ++ [dice g A c nums s4, trB g6 none 0 0 none 0 0]) rfl rfl (show List.Perm (og4 ++ [dice g A c nums s4, trB g7 cA cs.length cC none 0 0, trB g6 none 0 0 none 0 0]) (trB g7 cA cs.length cC none 0 0 :: (og4 ++ [dice g A c nums s4, trB g6 none 0 0 none 0 0])) from (C6 fun p => by simp only [List.countP_append, List.countP_cons, List.countP_nil]; omega)) tB (by rfl) (by rfl) ?_; refine b7 (q8 (c7 (c9 (b4 rfl ?_)))); refine H3 (r : Int) rfl rfl rfl (by omega) m7 ?_; refine b6 rfl (b7 ?_); have hl1 : (cs ++ [(((sortN names cs.length), u) : Cl)]).length = cs.length + 1 := by simp
  refine bY (show List.Perm (trB g7 A4 (cs.length + 1) c4 none 0 0 :: (og4 ++ [dice g A c nums s4, trB g6 none 0 0 none 0 0])) (dice g A c nums s4 :: trB g7 A4 (cs.length + 1) c4 none 0 0 :: trB g6 none 0 0 none 0 0 :: og4) from (C6 fun p => by simp only [List.countP_append, List.countP_cons, List.countP_nil]; omega)) ?_; exact again _ (r, cs ++ [(((sortN names cs.length), u) : Cl)], (A4, c4), og4, s4) ⟨by show (cs ++ [_]).length + r = zn; rw [hl1]; omega, hC.snoc hu5.1 hu5.2, by show Grow _ _ _ (cs ++ [_]).length _ _ _; rw [hl1]; exact hG4, hs4⟩ (by show r < r + 1; omega) mC (by show List.Sublist (_ :: trB g7 A4 (cs ++ [_]).length c4 none 0 0 :: _) _; rw [hl1]; exact List.Sublist.refl _) mC
 have hb1' := hb1; try simp at hb1'
 have hr0 : r = 0 := by omega
 subst hr0; refine m4 (v6 (l9 (c7 (d1 ?_)))); refine lz5 (og ++ [dice g A c nums s, trB g7 cA cs.length cC none 0 0, trB g6 none 0 0 none 0 0]) (by intro p; simp only [List.countP_append, List.countP_cons, List.countP_nil]; omega) ?_; have hCle := hG.le; have hC1 := hC; refine pE hG ?_; clear hG; refine c9 (b4 rfl ?_); refine i5 dL rfl rfl (cV) k8 tK fun gk _ => k5 rfl O9 rfl ?_; refine b4 rfl (b4 rfl ?_); refine i5 w9 rfl rfl (w8 (m2 : Int) hn hs (by omega)) k8 mC fun x hx => ?_; obtain ⟨s5, z5⟩ := x; obtain ⟨hs5, hz5⟩ := hx; simp only at hs5; simp only [ToInv] at hz5; obtain ⟨zm, rfl⟩ := Int.eq_ofNat_of_zero_le hz5.1; have hzm : zm ≤ m2 := by by_cases h1 : (1 : Int) ≤ m2; have := hz5.2.1 h1; omega; have := hz5.2.2 (by omega); omega
 refine i5 wP rfl rfl (vV 16 zm hn hs5 ⟨by decide, by omega⟩) k8 mC fun x hx => ?_; obtain ⟨s6, wo⟩ := x; obtain ⟨hs6, hwo⟩ := hx; simp only at hs6; obtain ⟨words, wA, wC⟩ := wo; obtain ⟨⟨hwp, hwi⟩, hwl, hwc⟩ := hwo; simp only at hwp hwi hwl hwc; refine b6 rfl (j4 (b4 rfl ?_)); refine k5 rfl j2 rfl ?_; refine b6 rfl (c3 (d1 (d4 (b6 rfl (c3 (i8 ?_)))))); have hcs1 : 1 ≤ cs.length := by omega
 have hcs6 : cs.length ≤ 6 := by omega
 have hwl6 : words.length ≤ 6 := by omega
 refine dz3 (Fs := ([] : List Hd).map Hd.row) (by intro F hF; simp at hF) ?_; refine p6 (β := Nat × List Hd × OutC × Hp × (Int × Int)) ⟨fun x => x.1 ≤ words.length ∧ x.2.1.length = x.1 ∧ HsMade words cs.length words.length x.2.1 ∧ Grow aN 4 x.2.2.1.1 x.2.1.length x.2.2.1.2 (rows x.2.1) x.2.2.2.1 ∧ DOK nums x.2.2.2.2, fun x => [(0, .pointer (i7 g)), (6, .pointer (i7 g6)), (7, .pointer (i7 g7)), (10, .slice wA words.length wC), (11, int words.length), (12, int x.1)], fun x => dice g A c nums x.2.2.2.2 :: trB g7 cA cs.length cC x.2.2.1.1 x.2.1.length x.2.2.1.2 :: trB g6 none 0 0 none 0 0 :: x.2.2.2.1, fun x => [Row wA (rows words), Row cA (rows cs), Row A (rows nums), innersF x.2.1 Hd.row]⟩ (fun x => words.length - x.1) (0, [], (none, 0), [], s6) ⟨Nat.zero_le _, rfl, fun i hi => by simp at hi, Grow.nil _ _, hs6⟩ mC (List.Sublist.refl _) mC fun x hx => ?_; clear hs hs5 hs6 hz5; obtain ⟨i, hs, ⟨hA, hC⟩, og, s⟩ := x; obtain ⟨hi, hhl, hH, hG, hD⟩ := hx; simp only at hi hhl hH hG hD; refine d1 (d4 (b4 rfl (b4 rfl (u7 rfl rfl rfl (c3 ?_)))))
 first | refine j9 rfl (fun hb2 => ?_) (fun hb2 => ?_) | refine d6 rfl (fun hb2 => ?_) (fun hb2 => ?_)
 ·have hb2' := hb2; try simp at hb2'
  have hi2 : i < words.length := by omega
  have hwi2 := hwi _ (n7 hi2); obtain ⟨wm, hwm⟩ := Int.eq_ofNat_of_zero_le hwi2.1; have hwm16 : wm < 16 := by omega
  have hcn : callingsL.getD wm default = callN words i := by unfold callN; rw [hwm, Int.toNat_natCast]
  refine i4 (c7 (d1 (i8 (d1 ?_)))); refine I7 ([dice g A c nums s]) (trB g7 cA cs.length cC hA hs.length hC :: trB g6 none 0 0 none 0 0 :: og) k8 15 [12] mixed (by decide) (by decide) (by decide) rfl rfl rfl ?_; refine N6 ⟨Nat, fun _ => True, fun g => .slice (i7 g) 16 16, fun g => [Row (i7 g) (rows callingsL)]⟩ rfl rfl rfl ?_ ?_
  ·intro w1; refine i5 dL rfl rfl (cV) k8 tK fun gk2 _ => b7 ?_; exact D1 gk2 tK rfl ⟨m0, tK⟩
  refine p9 rfl (p9 rfl (m6 (fun w1 => p8 (α := Int) words i rfl j2 k6 rfl rfl rfl (List.mem_append_right _ mB) rfl hi2 (by decide) (q_z rfl)) (m6 (fun w1 => b3 (v := int (words.getD i default)) rfl b5 rfl (i1 (List.mem_append_right _ mB) (c5 hi2 rfl)) (q_z rfl)) ?_))); refine N6 ⟨Nat, fun _ => True, fun g => .pointer (some ((adr (i7 g)).add (wm * 1))), fun g => [Row (i7 g) (rows callingsL)]⟩ rfl rfl rfl ?_ ?_
  ·intro g0 _; intro w1; refine p8 (α := Str) callingsL wm rfl O9 kU rfl rfl hwm mB rfl hwm16 (by decide) (b7 ?_); exact D1 g0 tK rfl mC
  apply k9 _ rfl rfl rfl
  ·intro g5 _; intro w1; refine b3 (v := str (callN words i)) rfl j7 rfl (i1 mB (by rw [← hcn]; exact c5 (show wm < 16 from hwm16) rfl)) ?_; refine b7 ?_; exact i6 rfl
  refine p9 rfl ?_
  apply k9 _ rfl rfl rfl
  ·intro w1
   first | refine b2 ⟨_, 0, none⟩ rfl rfl m3 rfl ?_ | refine b2 _ rfl rfl m3 rfl ?_
   refine b7 ?_; exact i6 rfl
  apply k9 _ rfl rfl rfl
  ·intro w1
   first | refine b3 rfl i2 rfl (d5 mB rfl) ?_ | refine b3 rfl i2 rfl (j3 mB rfl) ?_ | refine b3 rfl i2 rfl (i1 mB (c5 (by omega) rfl)) ?_ | refine b3 rfl i2 rfl (i3 mB (rows_get (by omega) rfl)) ?_ | refine b3 rfl i2 rfl (j8 mB rfl) ?_
   refine b7 ?_; exact i6 rfl
  refine m6 (fun w1 => k5 rfl u1 rfl (q_z rfl)) (m6 (fun w1 => H3 ((cs.length : Int) - 1) rfl rfl rfl rfl m7 (q_z rfl)) ?_); refine qU ⟨(Int × Int) × Int, fun x => DOK nums x.1 ∧ ToInv ((cs.length : Int) - 1) x.2, fun x => int x.2, fun _ => [], fun x => [dice g A c nums x.1]⟩ rfl rfl rfl ?_ ?_
  ·intro w1; refine i5 w9 rfl rfl (w8 ((cs.length : Int) - 1) hn hD (by omega)) k8 mC fun x hx => ?_; obtain ⟨s7, z7⟩ := x; obtain ⟨hs7, hz7⟩ := hx; simp only at hs7; refine b7 ?_; exact P5 (s7, z7) ⟨hs7, hz7⟩ (fun _ => rfl) (List.sublist_append_left _ _) tK
  refine N6 ⟨Int, fun z => ToInv ((cs.length : Int) - 1) z, fun z => .agg #[str (callN words i), int z, int (-1), .slice none 0 0], fun _ => []⟩ rfl rfl rfl ?_ ?_
  ·intro x hx; intro w1; refine H6 _ rfl rfl (fun _ => aM ..) (b7 ?_); exact D1 x.2 hx.2 rfl tK
  refine hb_ad ⟨Nat, fun _ => True, fun g => .pointer (i7 g), fun _ => [], fun g => [hdB g [] 0 0 none 0 0]⟩ rfl rfl rfl ?_ ?_
  ·intro w1; refine B2 rfl (fun _ => W1 _) fun g13 => b7 ?_; exact P5 g13 tK (fun _ => rfl) (List.Sublist.refl _) tK
  refine y8 ⟨rfl, ?_⟩; intro _ _ _ _ x12 h12; refine fun (z : Int) hz => ?_; intro g13 _; obtain ⟨s8, _⟩ := x12; have hs8 : DOK nums s8 := h12.1; clear h12; simp only [ToInv] at hz
  have hz2 : 0 ≤ z ∧ z < (cs.length : Int) := by
    refine ⟨hz.1, ?_⟩
    by_cases h1 : 1 ≤ (cs.length : Int) - 1
    · have := hz.2.1 h1; omega
    have := hz.2.2 (by omega); omega
  refine E0 (cs := #[str (callN words i), int z, int (-1), .slice none 0 0]) rfl rfl (.refl _) m8 (by rfl) (by rfl) ?_; refine c3 (d1 ?_); refine M6 ⟨fun x : (Int × Int) × Bool => DOK nums x.1 ∧ (x.2 = true → 1 < words.length), fun x => [(0, .pointer (i7 g)), (6, .pointer (i7 g6)), (7, .pointer (i7 g7)), (10, .slice wA words.length wC), (11, int words.length), (12, int i), (13, .pointer (i7 g13)), (80, .bool x.2)], fun x => dice g A c nums x.1 :: hdB g13 (callN words i) z (-1) none 0 0 :: trB g7 cA cs.length cC hA hs.length hC :: trB g6 none 0 0 none 0 0 :: og, fun _ => [Row wA (rows words), Row cA (rows cs), Row A (rows nums), innersF hs Hd.row]⟩ ?_ ?_
  ·skip
   refine c9 (b4 rfl (K5 rfl rfl rfl (b4 rfl ?_))); refine q6 rfl rfl ?_ ?_
   ·intro hg1; have hg1' := hg1; try simp at hg1'
    refine k7 hg1 (b4 rfl (k7 hg1 ?_)); refine i5 R4 rfl rfl (Q2 3 hn hs8 (by omega)) (List.Perm.swap _ _ _) mC fun x hx => ?_; obtain ⟨s9, b9⟩ := x; obtain ⟨hs9, hb9⟩ := hx; simp only at hs9; refine p_t rfl rfl (bt1 hg1) rfl (b7 ?_); exact E3 _ (s9, b9) ⟨hs9, fun _ => by simp at hg1; omega⟩ mC (List.Sublist.refl _) mC
   intro hg1; have hg1' := hg1; try simp at hg1'
   refine n4 hg1 (n4 hg1 ?_); refine p_f rfl rfl (bf2 hg1) rfl (b7 (bY (List.Perm.swap _ _ _) ?_)); exact E3 _ (s8, false) ⟨hs8, fun h => by cases h⟩ mC (List.Sublist.refl _) mC
  intro x hx; obtain ⟨s9, b9⟩ := x; obtain ⟨hs9, hb9⟩ := hx; simp only at hs9 hb9
  first | refine j9 rfl (fun hb3 => ?_) (fun hb3 => ?_) | refine d6 rfl (fun hb3 => ?_) (fun hb3 => ?_)
  ·have hb3' := hb3; try simp at hb3'
   have h1w : 1 < words.length := hb9 hb3; refine d1 (I7 ([dice g A c nums s9, hdB g13 (callN words i) z (-1) none 0 0]) (trB g7 cA cs.length cC hA hs.length hC :: trB g6 none 0 0 none 0 0 :: og) k8 11 [10, 5] mixed (by decide) (by decide) (by decide) rfl rfl rfl (p9 rfl (m6 (fun w1 => r4 _ rfl rfl rfl rfl m7 (q_z rfl)) (p9 rfl (p9 rfl (m6 (fun w1 => H3 ((words.length : Int) - 2) rfl rfl rfl rfl m7 (q_z rfl)) ?_)))))); refine qU ⟨(Int × Int) × Int, fun x => DOK nums x.1 ∧ ToInv ((words.length : Int) - 2) x.2, fun x => int x.2, fun _ => [], fun x => [dice g A c nums x.1, hdB g13 (callN words i) z (-1) none 0 0]⟩ rfl rfl rfl ?_ ?_
   ·intro w1; refine i5 w9 rfl rfl (w8 ((words.length : Int) - 2) hn hs9 (by omega)) k8 mC fun x hx => ?_; obtain ⟨s10, v10⟩ := x; obtain ⟨hs10, hv10⟩ := hx; simp only at hs10; refine b7 ?_; exact P5 (s10, v10) ⟨hs10, hv10⟩ (fun _ => rfl) (List.Sublist.refl _) tK
   refine N6 ⟨Int, fun v => ToInv ((words.length : Int) - 2) v, fun v => int ((i : Int) + 1 + v), fun _ => []⟩ rfl rfl rfl ?_ ?_
   ·intro x hx; intro w1; refine r4 ((i : Int) + 1 + x.2) rfl rfl rfl rfl (by have h1 := hx.2; simp only [ToInv] at h1; have h2 : x.2 ≤ 6 := (by by_cases h3 : 1 ≤ (words.length : Int) - 2; have := h1.2.1 h3; omega; have := h1.2.2 (by omega); omega); unfold I64; omega) ?_; refine b7 ?_; exact D1 x.2 hx.2 rfl tK
   refine p9 rfl ?_; refine N6 ⟨Int, fun v => ToInv ((words.length : Int) - 2) v, fun v => int (((i : Int) + 1 + v).tmod words.length), fun _ => []⟩ rfl rfl rfl ?_ ?_
   ·intro v hv; intro w1; refine r_rem rfl rfl rfl (by omega) (b7 ?_); exact D1 v hv rfl tK
   apply k9 _ rfl rfl rfl
   ·intro w1
    first | refine b2 ⟨_, 1, none⟩ rfl rfl l6 rfl ?_ | refine b2 _ rfl rfl l6 rfl ?_
    refine b7 ?_; exact i6 rfl
   refine hb_st ⟨Int × Int, fun s => DOK nums s, fun _ => undef, fun _ => [], fun s => [hdB g13 (callN words i) (-1) (-1) none 0 0, dice g A c nums s]⟩ rfl rfl ?_ ?_
   ·intro x hx; intro w1; refine u9 rfl rfl (.swap _ _ _) k6 (by rfl) (by rfl) (b7 ?_); exact P5 x.1 hx.1 (fun h => by cases h) (List.Sublist.refl _) tK
   refine y8 ⟨rfl, ?_⟩; intro _ _ _ _; refine fun (v : Int) hv => ?_; intro s11 hs11; have hs11 : DOK nums s11 := hs11; simp only [ToInv] at hv
   have hv2 : 0 ≤ v ∧ v ≤ (words.length : Int) - 2 := by
     refine ⟨hv.1, ?_⟩
     by_cases h1 : 1 ≤ (words.length : Int) - 2
     · exact hv.2.1 h1
     have := hv.2.2 (by omega); omega
   have hps := past hi2 hv2.1 hv2.2
   first | refine b2 ⟨_, 2, none⟩ rfl rfl r6 rfl ?_ | refine b2 _ rfl rfl r6 rfl ?_
   refine u9 rfl rfl (.refl _) k6 (by rfl) (by rfl) (j4 ?_)
   first | refine b2 ⟨_, 1, none⟩ rfl rfl d8 rfl ?_ | refine b2 _ rfl rfl d8 rfl ?_
   first | refine b3 rfl b8 rfl (j3 mB rfl) ?_ | refine b3 rfl b8 rfl (d5 mB rfl) ?_ | refine b3 rfl b8 rfl (i1 mB (c5 (by omega) rfl)) ?_ | refine b3 rfl b8 rfl (i3 mB (rows_get (by omega) rfl)) ?_ | refine b3 rfl b8 rfl (j8 mB rfl) ?_
   first | refine J5 rfl A9 m8 rfl mB (by rfl) ?_ | refine w7 rfl A9 m8 rfl mB (by rfl) ?_ | refine y9 rfl A9 m8 rfl rfl (w5 mB (z6 (by omega))) ?_
   refine l5 _ rfl rfl (fun _ => cO ..) fun gS => v8 (rows [(((callN words i), -1, (((i : Int) + 1 + v).tmod words.length), ⟨none, 0, []⟩) : Hd)]) (List.prefix_refl _) (bj7 (α := Int) ?_); refine C0 (hp' := [hdB g13 (callN words i) (-1) (((i : Int) + 1 + v).tmod words.length) none 0 0, dice g A c nums s11, trB g7 cA cs.length cC hA hs.length hC, trB g6 none 0 0 none 0 0]) (hs.length + 1) (rows (hs ++ [(((callN words i), -1, (((i : Int) + 1 + v).tmod words.length), ⟨none, 0, []⟩) : Hd)])) iZ rfl rfl rfl hG (show List.Perm (hdB g13 (callN words i) (-1) (((i : Int) + 1 + v).tmod words.length) none 0 0 :: dice g A c nums s11 :: trB g7 cA cs.length cC hA hs.length hC :: trB g6 none 0 0 none 0 0 :: og) (og ++ [hdB g13 (callN words i) (-1) (((i : Int) + 1 + v).tmod words.length) none 0 0, dice g A c nums s11, trB g7 cA cs.length cC hA hs.length hC, trB g6 none 0 0 none 0 0]) from (C6 fun p => by simp only [List.countP_append, List.countP_cons, List.countP_nil]; omega)) (Src.row (news := rows [(((callN words i), -1, (((i : Int) + 1 + v).tmod words.length), ⟨none, 0, []⟩) : Hd)]) (m := 1) mB rfl (D0 _) (by decide)) rfl (r8 _ _).symm (by unfold maxLen; omega) (by omega) fun A' c' og' hG' => ?_
   first | refine b2 ⟨_, 1, none⟩ rfl rfl d8 rfl ?_ | refine b2 _ rfl rfl d8 rfl ?_
   refine u9 (hp' := og' ++ [hdB g13 (callN words i) (-1) (((i : Int) + 1 + v).tmod words.length) none 0 0, dice g A c nums s11, trB g6 none 0 0 none 0 0]) rfl rfl (show List.Perm (og' ++ [hdB g13 (callN words i) (-1) (((i : Int) + 1 + v).tmod words.length) none 0 0, dice g A c nums s11, trB g7 cA cs.length cC hA hs.length hC, trB g6 none 0 0 none 0 0]) (trB g7 cA cs.length cC hA hs.length hC :: (og' ++ [hdB g13 (callN words i) (-1) (((i : Int) + 1 + v).tmod words.length) none 0 0, dice g A c nums s11, trB g6 none 0 0 none 0 0])) from (C6 fun p => by simp only [List.countP_append, List.countP_cons, List.countP_nil]; omega)) iY (by rfl) (by rfl) ?_; refine dz2 (pD (ps := hs) (f := Hd.row) (p := (((callN words i), -1, (((i : Int) + 1 + v).tmod words.length), ⟨none, 0, []⟩) : Hd)) mC mC) ?_; refine c3 (m4 (w4 (l9 (c7 (c9 (b4 rfl ?_)))))); refine r4 _ rfl rfl rfl rfl m7 ?_; refine b6 rfl (b7 ?_); have hl1 : (hs ++ [(((callN words i), -1, (((i : Int) + 1 + v).tmod words.length), ⟨none, 0, []⟩) : Hd)]).length = hs.length + 1 := by simp
   refine bY (show List.Perm (trB g7 cA cs.length cC A' (hs.length + 1) c' :: (og' ++ [hdB g13 (callN words i) (-1) (((i : Int) + 1 + v).tmod words.length) none 0 0, dice g A c nums s11, trB g6 none 0 0 none 0 0])) (hdB g13 (callN words i) (-1) (((i : Int) + 1 + v).tmod words.length) none 0 0 :: dice g A c nums s11 :: trB g7 cA cs.length cC A' (hs.length + 1) c' :: trB g6 none 0 0 none 0 0 :: og') from (C6 fun p => by simp only [List.countP_append, List.countP_cons, List.countP_nil]; omega)) ?_; exact again _ (i + 1, hs ++ [(((callN words i), -1, (((i : Int) + 1 + v).tmod words.length), ⟨none, 0, []⟩) : Hd)], (A', c'), og', s11) ⟨by show i + 1 ≤ words.length; omega, by show (hs ++ [_]).length = i + 1; rw [hl1]; omega, hH.snoc (by rw [hhl]) (by rw [hhl]; exact ⟨fun k hk => by simp at hk, .inl ⟨hps.1, hps.2.1, hps.2.2, rfl, rfl⟩⟩), by show Grow _ _ _ (hs ++ [_]).length _ _ _; rw [hl1]; exact hG', by assumption⟩ (r9 (by omega)) mC (by show List.Sublist (_ :: trB g7 _ _ _ _ (hs ++ [_]).length _ :: _) _; rw [hl1]; exact List.sublist_cons_self _ _) mC
  have hb3' := hb3; try simp at hb3'
  refine i4 (c7 (d1 (d4 (b6 rfl (c3 (i8 ?_)))))); refine p6 (β := Nat × List Int × OutC × Hp × (Int × Int)) ⟨fun x => x.1 ≤ words.length ∧ AscB i x.1 x.2.1 ∧ Grow y2 1 x.2.2.1.1 x.2.1.length x.2.2.1.2 (rows x.2.1) x.2.2.2.1 ∧ DOK nums x.2.2.2.2, fun x => [(0, .pointer (i7 g)), (6, .pointer (i7 g6)), (7, .pointer (i7 g7)), (10, .slice wA words.length wC), (11, int words.length), (12, int i), (13, .pointer (i7 g13)), (14, int x.1)], fun x => dice g A c nums x.2.2.2.2 :: hdB g13 (callN words i) z (-1) x.2.2.1.1 x.2.1.length x.2.2.1.2 :: trB g7 cA cs.length cC hA hs.length hC :: trB g6 none 0 0 none 0 0 :: (x.2.2.2.1 ++ og), fun _ => [Row wA (rows words), Row cA (rows cs), Row A (rows nums), innersF hs Hd.row]⟩ (fun x => words.length - x.1) (0, [], (none, 0), [], s9) ⟨Nat.zero_le _, ⟨List.Pairwise.nil, fun x hx => by cases hx⟩, Grow.nil _ _, hs9⟩ mC (List.Sublist.refl _) mC fun x hx => ?_; clear hs9; obtain ⟨k, al, ⟨aA, aC⟩, og3, s9⟩ := x; obtain ⟨hk, hB, hG3, hs9⟩ := hx; simp only at hk hB hG3 hs9; refine d1 (d4 (b4 rfl (b4 rfl (u7 rfl rfl rfl (c3 ?_)))))
  first | refine j9 rfl (fun hb4 => ?_) (fun hb4 => ?_) | refine d6 rfl (fun hb4 => ?_) (fun hb4 => ?_)
  ·have hb4' := hb4; try simp at hb4'
   have hk2 : k < words.length := by omega
   have hal := hB.len; refine i4 (c7 (d1 (i8 ?_))); refine M6 ⟨fun x : (Int × Int) × Bool => DOK nums x.1 ∧ (x.2 = true → ¬ k = i), fun x => [(0, .pointer (i7 g)), (6, .pointer (i7 g6)), (7, .pointer (i7 g7)), (10, .slice wA words.length wC), (11, int words.length), (12, int i), (13, .pointer (i7 g13)), (14, int k), (109, .bool x.2)], fun x => dice g A c nums x.1 :: hdB g13 (callN words i) z (-1) aA al.length aC :: trB g7 cA cs.length cC hA hs.length hC :: trB g6 none 0 0 none 0 0 :: (og3 ++ og), fun _ => [Row wA (rows words), Row cA (rows cs), Row A (rows nums), innersF hs Hd.row]⟩ ?_ ?_
   ·skip
    refine c9 (b4 rfl (b4 rfl (B9 rfl rfl rfl (b4 rfl ?_)))); refine q6 rfl rfl ?_ ?_
    ·intro hg2; have hg2' := hg2; try simp at hg2'
     refine k7 hg2 (b4 rfl (k7 hg2 ?_)); refine i5 R4 rfl rfl (Q2 4 hn hs9 (by omega)) k8 mC fun x hx => ?_; obtain ⟨s12, b12⟩ := x; obtain ⟨hs12, hb12⟩ := hx; simp only at hs12; refine p_t rfl rfl (bt1 hg2) rfl (b7 ?_); exact E3 _ (s12, b12) ⟨hs12, fun _ => by simp at hg2; omega⟩ mC (List.Sublist.refl _) mC
    intro hg2; have hg2' := hg2; try simp at hg2'
    refine n4 hg2 (n4 hg2 ?_); refine p_f rfl rfl (bf2 hg2) rfl (b7 ?_); exact E3 _ (s9, false) ⟨hs9, fun h => by cases h⟩ mC (List.Sublist.refl _) mC
   intro x hx; obtain ⟨s13, b13⟩ := x; obtain ⟨hs13, hb13⟩ := hx; simp only at hs13 hb13
   first | refine j9 rfl (fun hb5 => ?_) (fun hb5 => ?_) | refine d6 rfl (fun hb5 => ?_) (fun hb5 => ?_)
   ·have hb5' := hb5; try simp at hb5'
    refine c9 ?_
    first | refine b2 ⟨_, 3, none⟩ rfl rfl n8 rfl ?_ | refine b2 _ rfl rfl n8 rfl ?_
    first | refine b3 rfl d9 rfl (j3 mB rfl) ?_ | refine b3 rfl d9 rfl (d5 mB rfl) ?_ | refine b3 rfl d9 rfl (i1 mB (c5 (by omega) rfl)) ?_ | refine b3 rfl d9 rfl (i3 mB (rows_get (by omega) rfl)) ?_ | refine b3 rfl d9 rfl (j8 mB rfl) ?_
    refine b4 rfl (l5 _ rfl rfl (fun _ => w6 ..) fun gS => v8 (rows [(k : Int)]) (List.prefix_refl _) ?_); refine C0 (hp' := dice g A c nums s13 :: hdB g13 (callN words i) z (-1) aA al.length aC :: trB g7 cA cs.length cC hA hs.length hC :: trB g6 none 0 0 none 0 0 :: og) (al.length + 1) (rows (al ++ [(k : Int)])) I5 rfl rfl rfl hG3 (show List.Perm (dice g A c nums s13 :: hdB g13 (callN words i) z (-1) aA al.length aC :: trB g7 cA cs.length cC hA hs.length hC :: trB g6 none 0 0 none 0 0 :: (og3 ++ og)) (og3 ++ (dice g A c nums s13 :: hdB g13 (callN words i) z (-1) aA al.length aC :: trB g7 cA cs.length cC hA hs.length hC :: trB g6 none 0 0 none 0 0 :: og)) from (C6 fun p => by simp only [List.countP_append, List.countP_cons, List.countP_nil]; omega)) (Src.row (news := rows [(k : Int)]) (m := 1) m0 rfl (D0 _) (by decide)) rfl (r8 _ _).symm (by unfold maxLen; omega) (by omega) fun A' c' og' hG' => ?_
    first | refine b2 ⟨_, 3, none⟩ rfl rfl n8 rfl ?_ | refine b2 _ rfl rfl n8 rfl ?_
    refine u9 (hp' := og' ++ (dice g A c nums s13 :: trB g7 cA cs.length cC hA hs.length hC :: trB g6 none 0 0 none 0 0 :: og)) rfl rfl (show List.Perm (og' ++ (dice g A c nums s13 :: hdB g13 (callN words i) z (-1) aA al.length aC :: trB g7 cA cs.length cC hA hs.length hC :: trB g6 none 0 0 none 0 0 :: og)) (hdB g13 (callN words i) z (-1) aA al.length aC :: (og' ++ (dice g A c nums s13 :: trB g7 cA cs.length cC hA hs.length hC :: trB g6 none 0 0 none 0 0 :: og))) from (C6 fun p => by simp only [List.countP_append, List.countP_cons, List.countP_nil]; omega)) gx8 (by rfl) (by rfl) ?_; refine b7 (q8 (c7 (c9 (b4 rfl ?_)))); refine r4 _ rfl rfl rfl rfl m7 ?_; refine b6 rfl (b7 ?_); have hl1 : (al ++ [(k : Int)]).length = al.length + 1 := by simp
    refine bY (show List.Perm (hdB g13 (callN words i) z (-1) A' (al.length + 1) c' :: (og' ++ (dice g A c nums s13 :: trB g7 cA cs.length cC hA hs.length hC :: trB g6 none 0 0 none 0 0 :: og))) (dice g A c nums s13 :: hdB g13 (callN words i) z (-1) A' (al.length + 1) c' :: trB g7 cA cs.length cC hA hs.length hC :: trB g6 none 0 0 none 0 0 :: (og' ++ og)) from (C6 fun p => by simp only [List.countP_append, List.countP_cons, List.countP_nil]; omega)) ?_; exact again _ (k + 1, al ++ [(k : Int)], (A', c'), og', s13) ⟨by show k + 1 ≤ words.length; omega, hB.snoc (hb13 hb5), by show Grow _ _ _ (al ++ [_]).length _ _ _; rw [hl1]; exact hG', hs13⟩ (r9 (by omega)) mC (by show List.Sublist (_ :: hdB g13 _ _ _ _ (al ++ [_]).length _ :: _) _; rw [hl1]; exact List.Sublist.refl _) mC
   have hb5' := hb5; try simp at hb5'
   refine i4 (q8 (c7 (c9 (b4 rfl ?_)))); refine r4 _ rfl rfl rfl rfl m7 ?_; refine b6 rfl (b7 ?_); exact again _ (k + 1, al, (aA, aC), og3, s13) ⟨by show k + 1 ≤ words.length; omega, hB.step, hG3, hs13⟩ (r9 (by omega)) mC (List.Sublist.refl _) mC
  have hb4' := hb4; try simp at hb4'
  have hk2 : k = words.length := by omega
  subst hk2; have hal := hB.len; refine m4 (v6 (l9 (c7 ?_))); refine M6 ⟨fun x : (Int × Int) × Int => DOK nums x.1 ∧ ((0 ≤ x.2 ∧ x.2 < (cs.length : Int)) ∨ (x.2 = -1 ∧ al ≠ [])), fun x => [(0, .pointer (i7 g)), (6, .pointer (i7 g6)), (7, .pointer (i7 g7)), (10, .slice wA words.length wC), (11, int words.length), (12, int i), (13, .pointer (i7 g13))], fun x => dice g A c nums x.1 :: hdB g13 (callN words i) x.2 (-1) aA al.length aC :: trB g7 cA cs.length cC hA hs.length hC :: trB g6 none 0 0 none 0 0 :: (og3 ++ og), fun _ => [Row wA (rows words), Row cA (rows cs), Row A (rows nums), innersF hs Hd.row]⟩ ?_ ?_
  ·skip
   refine M6 ⟨fun x : (Int × Int) × Bool => DOK nums x.1 ∧ (x.2 = true → al ≠ []), fun x => [(0, .pointer (i7 g)), (6, .pointer (i7 g6)), (7, .pointer (i7 g7)), (10, .slice wA words.length wC), (11, int words.length), (12, int i), (13, .pointer (i7 g13)), (123, .bool x.2)], fun x => dice g A c nums x.1 :: hdB g13 (callN words i) z (-1) aA al.length aC :: trB g7 cA cs.length cC hA hs.length hC :: trB g6 none 0 0 none 0 0 :: (og3 ++ og), fun _ => [Row wA (rows words), Row cA (rows cs), Row A (rows nums), innersF hs Hd.row]⟩ ?_ ?_
   ·skip
    refine c9 ?_
    first | refine b2 ⟨_, 3, none⟩ rfl rfl n8 rfl ?_ | refine b2 _ rfl rfl n8 rfl ?_
    first | refine b3 rfl d9 rfl (j3 mB rfl) ?_ | refine b3 rfl d9 rfl (d5 mB rfl) ?_ | refine b3 rfl d9 rfl (i1 mB (c5 (by omega) rfl)) ?_ | refine b3 rfl d9 rfl (i3 mB (rows_get (by omega) rfl)) ?_ | refine b3 rfl d9 rfl (j8 mB rfl) ?_
    refine k5 rfl j2 rfl ?_; refine K5 rfl rfl rfl (b4 rfl ?_); refine q6 rfl rfl ?_ ?_
    ·intro hg3; have hg3' := hg3; try simp at hg3'
     refine k7 hg3 (b4 rfl (k7 hg3 ?_)); refine i5 R4 rfl rfl (Q2 4 hn hs9 (by omega)) k8 mC fun x hx => ?_; obtain ⟨s14, b14⟩ := x; obtain ⟨hs14, hb14⟩ := hx; simp only at hs14; refine p_t rfl rfl (bt1 hg3) rfl (b7 ?_); exact E3 _ (s14, b14) ⟨hs14, fun _ e => by subst e; simp at hg3⟩ mC (List.Sublist.refl _) mC
    intro hg3; have hg3' := hg3; try simp at hg3'
    refine n4 hg3 (n4 hg3 ?_); refine p_f rfl rfl (bf2 hg3) rfl (b7 ?_); exact E3 _ (s9, false) ⟨hs9, fun h => by cases h⟩ mC (List.Sublist.refl _) mC
   intro x hx; obtain ⟨s15, b15⟩ := x; obtain ⟨hs15, hb15⟩ := hx; simp only at hs15 hb15
   first | refine j9 rfl (fun hb6 => ?_) (fun hb6 => ?_) | refine d6 rfl (fun hb6 => ?_) (fun hb6 => ?_)
   ·have hb6' := hb6; try simp at hb6'
    refine c9 ?_
    first | refine b2 ⟨_, 1, none⟩ rfl rfl l6 rfl ?_ | refine b2 _ rfl rfl l6 rfl ?_
    refine u9 rfl rfl (.swap _ _ _) k6 (by rfl) (by rfl) (b7 (bY (List.Perm.swap _ _ _) ?_)); exact E3 _ (s15, -1) ⟨hs15, .inr ⟨rfl, hb15 hb6⟩⟩ mC (List.Sublist.refl _) mC
   have hb6' := hb6; try simp at hb6'
   refine i4 ?_; exact E3 _ (s15, z) ⟨hs15, .inl hz2⟩ mC (List.Sublist.refl _) mC
  intro x hx; obtain ⟨s16, cl⟩ := x; obtain ⟨hs16, hcl⟩ := hx; simp only at hs16 hcl; refine gN (show List.Perm (dice g A c nums s16 :: hdB g13 (callN words i) cl (-1) aA al.length aC :: trB g7 cA cs.length cC hA hs.length hC :: trB g6 none 0 0 none 0 0 :: (og3 ++ og)) (og3 ++ (hdB g13 (callN words i) cl (-1) aA al.length aC :: dice g A c nums s16 :: trB g7 cA cs.length cC hA hs.length hC :: trB g6 none 0 0 none 0 0 :: og)) from (C6 fun p => by simp only [List.countP_append, List.countP_cons, List.countP_nil]; omega)) ?_; refine pE hG3 (c9 ?_)
  first | refine b2 ⟨_, 1, none⟩ rfl rfl d8 rfl ?_ | refine b2 _ rfl rfl d8 rfl ?_
  first | refine b3 rfl b8 rfl (j3 mB rfl) ?_ | refine b3 rfl b8 rfl (d5 mB rfl) ?_ | refine b3 rfl b8 rfl (i1 mB (c5 (by omega) rfl)) ?_ | refine b3 rfl b8 rfl (i3 mB (rows_get (by omega) rfl)) ?_ | refine b3 rfl b8 rfl (j8 mB rfl) ?_
  first | refine J5 rfl A9 m8 rfl mB (by rfl) ?_ | refine w7 rfl A9 m8 rfl mB (by rfl) ?_ | refine y9 rfl A9 m8 rfl rfl (w5 mB (z6 (by omega))) ?_
  refine l5 _ rfl rfl (fun _ => cO ..) fun gS => v8 (rows [(((callN words i), cl, -1, ⟨aA, aC, al⟩) : Hd)]) (List.prefix_refl _) ?_; refine C0 (hp' := [hdB g13 (callN words i) cl (-1) aA al.length aC, dice g A c nums s16, trB g7 cA cs.length cC hA hs.length hC, trB g6 none 0 0 none 0 0]) (hs.length + 1) (rows (hs ++ [(((callN words i), cl, -1, ⟨aA, aC, al⟩) : Hd)])) iZ rfl rfl rfl hG (show List.Perm (hdB g13 (callN words i) cl (-1) aA al.length aC :: dice g A c nums s16 :: trB g7 cA cs.length cC hA hs.length hC :: trB g6 none 0 0 none 0 0 :: og) (og ++ [hdB g13 (callN words i) cl (-1) aA al.length aC, dice g A c nums s16, trB g7 cA cs.length cC hA hs.length hC, trB g6 none 0 0 none 0 0]) from (C6 fun p => by simp only [List.countP_append, List.countP_cons, List.countP_nil]; omega)) (Src.row (news := rows [(((callN words i), cl, -1, ⟨aA, aC, al⟩) : Hd)]) (m := 1) m0 rfl (D0 _) (by decide)) rfl (r8 _ _).symm (by unfold maxLen; omega) (by omega) fun A' c' og' hG' => ?_
  first | refine b2 ⟨_, 1, none⟩ rfl rfl d8 rfl ?_ | refine b2 _ rfl rfl d8 rfl ?_
  refine u9 (hp' := og' ++ [hdB g13 (callN words i) cl (-1) aA al.length aC, dice g A c nums s16, trB g6 none 0 0 none 0 0]) rfl rfl (show List.Perm (og' ++ [hdB g13 (callN words i) cl (-1) aA al.length aC, dice g A c nums s16, trB g7 cA cs.length cC hA hs.length hC, trB g6 none 0 0 none 0 0]) (trB g7 cA cs.length cC hA hs.length hC :: (og' ++ [hdB g13 (callN words i) cl (-1) aA al.length aC, dice g A c nums s16, trB g6 none 0 0 none 0 0])) from (C6 fun p => by simp only [List.countP_append, List.countP_cons, List.countP_nil]; omega)) iY (by rfl) (by rfl) ?_; refine dz2 (pD (ps := hs) (f := Hd.row) (p := (((callN words i), cl, -1, ⟨aA, aC, al⟩) : Hd)) mC mC) ?_; refine b7 (q8 (c7 (c9 (b4 rfl ?_)))); refine r4 _ rfl rfl rfl rfl m7 ?_; refine b6 rfl (b7 ?_); have hl1 : (hs ++ [(((callN words i), cl, -1, ⟨aA, aC, al⟩) : Hd)]).length = hs.length + 1 := by simp
  refine bY (show List.Perm (trB g7 cA cs.length cC A' (hs.length + 1) c' :: (og' ++ [hdB g13 (callN words i) cl (-1) aA al.length aC, dice g A c nums s16, trB g6 none 0 0 none 0 0])) (hdB g13 (callN words i) cl (-1) aA al.length aC :: dice g A c nums s16 :: trB g7 cA cs.length cC A' (hs.length + 1) c' :: trB g6 none 0 0 none 0 0 :: og') from (C6 fun p => by simp only [List.countP_append, List.countP_cons, List.countP_nil]; omega)) ?_; exact again _ (i + 1, hs ++ [(((callN words i), cl, -1, ⟨aA, aC, al⟩) : Hd)], (A', c'), og', s16) ⟨by show i + 1 ≤ words.length; omega, by show (hs ++ [_]).length = i + 1; rw [hl1]; omega, hH.snoc (by rw [hhl]) (by rw [hhl]; exact ⟨hB.err, hcl.elim (fun h => .inr (.inl ⟨rfl, h.1, h.2⟩)) (fun h => .inr (.inr ⟨rfl, h.1, h.2⟩))⟩), by show Grow _ _ _ (hs ++ [_]).length _ _ _; rw [hl1]; exact hG', by assumption⟩ (r9 (by omega)) mC (by show List.Sublist (_ :: trB g7 _ _ _ _ (hs ++ [_]).length _ :: _) _; rw [hl1]; exact List.sublist_cons_self _ _) mC
 have hb2' := hb2; try simp at hb2'
 have hi2 : i = words.length := by omega
 subst hi2; refine m4 (v6 (l9 (c7 (d1 ?_)))); refine gN (show List.Perm (dice g A c nums s :: trB g7 cA cs.length cC hA hs.length hC :: trB g6 none 0 0 none 0 0 :: og) (og ++ [trB g7 cA cs.length cC hA hs.length hC, trB g6 none 0 0 none 0 0, dice g A c nums s]) from (C6 fun p => by simp only [List.countP_append, List.countP_cons, List.countP_nil]; omega)) ?_; have hHle := hG.le; refine pE hG (lz3 (A := hA) (ps := hs) (f := Hd.row) mB mB (c9 ?_))
 first | refine J5 rfl i9 j0 rfl mB (by rfl) ?_ | refine w7 rfl i9 j0 rfl mB (by rfl) ?_ | refine y9 rfl i9 j0 rfl rfl (w5 mB (z6 (by omega))) ?_
 refine E0 (cs := #[.slice cA cs.length cC, .slice hA hs.length hC]) rfl rfl (.swap _ _ _) j0 (by rfl) (by rfl) ?_; refine c3 (j6 ?_); refine ij7 (s, cs, hs, (cA, cC), (hA, hC)) rfl rfl i9 j0 rfl m0 rfl rfl ⟨hD, ⟨made_ok hP hC1 hcs6 hwp hwi hhl hwl6 hH, hcs1, by show cs.length ≤ m1; omega, by show hs.length ≤ m2; omega, hCle, hHle, hs_ha hwl6 hH⟩⟩ (List.Sublist.cons _ (List.Sublist.cons _ (List.Sublist.refl _))) mC
theorem dok0 (nums : List Int) : DOK nums (0, 11400714819323198485) := ⟨by decide, by show (0 : Int) ≤ nums.length; omega, by decide, by decide⟩
theorem yR {t : Tr} {h : Int} (h0 : checkT t = 0) (h1 : 0 ≤ h ∧ h ≤ (t.hs.length : Int) - 1) : askE t [h] = 0 := by
  unfold askE; rw [if_neg (by rw [Classical.not_not]; exact h0)]
  simp [h1]
theorem kj0 {t : Tr} {h : Int} (h0 : checkT t = 0) (h1 : 0 ≤ h ∧ h ≤ (t.hs.length : Int) - 1) (h2 : followT t h = none) : followE t h = (0, 0, 9) := by
  unfold followE; rw [if_neg (by rw [Classical.not_not]; exact yR h0 h1), if_pos (by rw [h2]; rfl)]
theorem kj1 {t : Tr} {h e m : Int} (h0 : checkT t = 0) (h1 : 0 ≤ h ∧ h ≤ (t.hs.length : Int) - 1) (h2 : followT t h = some (e, m)) : followE t h = (e, m, 0) := by
  unfold followE; rw [if_neg (by rw [Classical.not_not]; exact yR h0 h1), if_neg (by rw [h2]; simp), h2]
  rfl
theorem mayE_ok {t : Tr} (h : checkT t = 0) (b : Str) : mayE t b = (mayT t b, 0) := by
  unfold mayE; rw [if_neg (by rw [Classical.not_not]; exact h)]
theorem may_is {A B : Option Addr} {ca cb : Nat} (cs : List Cl) (hs : List Hd) (s : Str) (hca : cs.length ≤ ca) (hcb : hs.length ≤ cb) (ha : ∀ h ∈ hs, h.2.2.2.l.length ≤ 1000000) (h0 : checkT (trOf cs hs) = 0) : Meets prog bZ [.agg #[.slice A cs.length ca, .slice B hs.length cb], str s] { LI := [Row A (rows cs), RowsF B hs Hd.row], inv := fun x : OutC => (mayT (trOf cs hs) s).length ≤ x.2, val := fun x => .tuple #[.slice x.1 (mayT (trOf cs hs) s).length x.2, int 0], LO := fun x => [Row x.1 (rows (mayT (trOf cs hs) s))] } := by
  have h := xJ (A := A) (B := B) (ca := ca) (cb := cb) cs hs s hca hcb ha; rw [mayE_ok h0] at h; exact h
end Go.Proofs.YtpihanmcnmlodaaGreatDoor
end
section
namespace Go.W
open Go Go.RowKit Go.Conc
def wpk (P : Program) (x : Code) (Q : Exit → Act → World → Prop) (a : Act) (w : World) : Prop :=
  ∀ (b : Frame) (k : List Item) (cs : List Frame), b.kind = .normal → ∃ e a' w', Q e a' w' ∧ Arrives P (lone (b.at a (.code x :: k)) cs w) b k cs e a' w'
section
variable {P : Program} {Q : Exit → Act → World → Prop} {a : Act} {w : World}
theorem bq9 {x : Code} (h : x.wp P Q a w) : wpk P x Q a w := fun b k cs _ => h b k cs
theorem kq9 {x : Code} {Q' : Exit → Act → World → Prop} (h : wpk P x Q a w) (hq : ∀ e a w, Q e a w → Q' e a w) : wpk P x Q' a w :=
  fun b k cs hb => let ⟨e, a', w', q, r⟩ := h b k cs hb; ⟨e, a', w', hq _ _ _ q, r⟩
theorem wpk_seq {x y : Code} (h : wpk P x (Exit.then (wpk P y Q) Q) a w) : wpk P (.seq x y) Q a w := by
  intro b k cs hb; obtain ⟨e, a₁, w₁, hq, harr⟩ := h b (.code y :: k) cs hb
  cases e with
  | normal =>
    obtain ⟨e₂, a₂, w₂, hq₂, harr₂⟩ := hq b k cs hb; exact ⟨e₂, a₂, w₂, hq₂, .of_steps (.head step_seq harr) harr₂⟩
  | exit id => exact ⟨_, a₁, w₁, hq, .of_steps (.one step_seq) (.pass (x := .code y) rfl (fun _ _ => .inl (by simp)) harr)⟩
  | goto l => exact ⟨_, a₁, w₁, hq, .of_steps (.one step_seq) (.pass (x := .code y) rfl (fun _ _ => .inl (by simp)) harr)⟩
  | ret => exact ⟨_, a₁, w₁, hq, .of_steps (.one step_seq) (.pass (x := .code y) rfl (fun _ _ => .inl (by simp)) harr)⟩
  | panic ch => exact ⟨_, a₁, w₁, hq, .of_steps (.one step_seq) (.pass (x := .code y) rfl (fun _ _ => .inl (by simp)) harr)⟩
  | outgrown => exact ⟨_, a₁, w₁, hq, .of_steps (.one step_seq) (.pass (x := .code y) rfl (fun _ _ => .inl (by simp)) harr)⟩
theorem cz3 {c : Operand} {x y : Code} {t : Bool} (hc : a.eval c = .bool t) (h : wpk P (if t then x else y) Q a w) : wpk P (.cond c x y) Q a w :=
  fun b k cs hb => let ⟨e, a', w', q, r⟩ := h b k cs hb; ⟨e, a', w', q, .of_steps (.one (step_cond hc)) r⟩
theorem yT {c : Operand} {x y : Code} {t : Bool} (hc : a.eval c = .bool t) (ht : t = true → wpk P x Q a w) (hf : t = false → wpk P y Q a w) : wpk P (.cond c x y) Q a w := by
  cases t
  · exact cz3 hc (hf rfl)
  exact cz3 hc (ht rfl)
theorem ix9 {id : Nat} {c : Code} (h : wpk P c (Exit.inBlock id Q) a w) : wpk P (.block id c) Q a w := by
  intro b k cs hb; obtain ⟨e, a₁, w₁, hq, harr⟩ := h b (.inBlock id :: k) cs hb
  cases e with
  | normal => exact ⟨.normal, a₁, w₁, hq, .head step_block (Steps.trans harr (.one step_inBlock))⟩
  | exit id' =>
    by_cases hid : id' = id
    · simp only [Exit.inBlock, hid, if_true] at hq
      exact ⟨.normal, a₁, w₁, hq, .head step_block (harr k (by simp [exitTo, hid]))⟩
    simp only [Exit.inBlock, hid, if_false] at hq; refine ⟨.exit id', a₁, w₁, hq, fun k' hk => .head step_block (harr k' ?_)⟩; have : (id == id') = false := by simp; exact fun h => hid h.symm
    simp [exitTo, this, hk]
  | goto l => exact ⟨_, a₁, w₁, hq, fun k' hk => .head step_block (harr k' (by simp [gotoIn, hk]))⟩
  | ret => exact ⟨_, a₁, w₁, hq, .of_steps (.one step_block) harr⟩
  | panic ch => exact ⟨_, a₁, w₁, hq, .of_steps (.one step_block) harr⟩
  | outgrown => exact ⟨_, a₁, w₁, hq, .of_steps (b := b) (k := k) (cs := cs) (e := .outgrown) (.one step_block) harr⟩
theorem kx0 {c : Code} (I : Nat → Act → World → Prop) (m : Nat) (h₀ : I m a w)
    (round : ∀ m a w, I m a w → wpk P c (Exit.then (fun a' w' => ∃ m', m' < m ∧ I m' a' w') Q) a w) : wpk P (.loop c) Q a w := by
  intro b k cs hb
  have key : ∀ n a w, I n a w → ∃ e a' w', Q e a' w' ∧ Arrives P (lone (b.at a (.code c :: .inLoop c :: k)) cs w) b k cs e a' w' := by
    intro n
    induction n using Nat.strongRecOn with
    | _ n ih =>
      intro a w hI; obtain ⟨e, a₁, w₁, hq, harr⟩ := round n a w hI b (.inLoop c :: k) cs hb
      cases e with
      | normal =>
        obtain ⟨m', hlt, hI₁⟩ := hq; obtain ⟨e₂, a₂, w₂, hq₂, harr₂⟩ := ih m' hlt a₁ w₁ hI₁; exact ⟨e₂, a₂, w₂, hq₂, .of_steps (Steps.trans harr (.one step_inLoop)) harr₂⟩
      | exit id => exact ⟨_, a₁, w₁, hq, .pass (x := .inLoop c) rfl (fun _ _ => .inl (by simp)) harr⟩
      | goto l => exact ⟨_, a₁, w₁, hq, .pass (x := .inLoop c) rfl (fun _ _ => .inl (by simp)) harr⟩
      | ret => exact ⟨_, a₁, w₁, hq, .pass (x := .inLoop c) rfl (fun _ _ => .inl (by simp)) harr⟩
      | panic ch => exact ⟨_, a₁, w₁, hq, .pass (x := .inLoop c) rfl (fun _ _ => .inl (by simp)) harr⟩
      | outgrown => exact ⟨_, a₁, w₁, hq, .pass (x := .inLoop c) rfl (fun _ _ => .inl (by simp)) harr⟩
  obtain ⟨e, a', w', hq, harr⟩ := key m a w h₀; exact ⟨e, a', w', hq, .of_steps (.one step_loop) harr⟩
theorem cx0 {f : FuncId} {fn : Func} {c : Code} {args : Array Value} {R : Ending → World → Prop} (hf : P.funcs[f]? = some fn) (hb : fn.body = some c)
    (h : wpk P c (bodyPost P fn R) { tmps := args ++ Array.replicate (fn.ntmps - args.size) undef, defers := [] } w) : Calls P f args w R := by
  intro cs
  let b : Frame := { (default : Frame) with fn := f, kind := .normal }
  have henter : Frame.enter P f args .normal = b.at { tmps := args ++ Array.replicate (fn.ntmps - args.size) undef, defers := [] } [.code c] := by
    simp [Frame.enter, Frame.at, hf, hb, b]
  obtain ⟨e, a', w', hq, harr⟩ := h b [] cs rfl; rw [← henter] at harr
  cases e with
  | normal =>
    obtain ⟨hd, v, hr, hR⟩ := hq; exact ⟨.returned v, w', _, hR, Steps.trans harr (.one step_end), rfl, rfl, hd, rfl, fn, hf, hr⟩
  | ret =>
    obtain ⟨hd, v, hr, hR⟩ := hq; obtain ⟨todo, hs⟩ := harr; exact ⟨.returned v, w', _, hR, hs, rfl, rfl, hd, rfl, fn, hf, hr⟩
  | panic chain =>
    obtain ⟨hd, hR⟩ := hq; obtain ⟨todo, hs⟩ := harr; exact ⟨.panicked chain, w', _, hR, hs, rfl, rfl, hd, fn, hf⟩
  | exit id => exact hq.elim
  | goto l => exact hq.elim
  | outgrown => exact ⟨.outgrown, w', b, hq, harr.resolve_left (by simp [b]), rfl, tK⟩
/-! Regions that communicate. -/
def OpSteps (P : Program) (o : Oper) (a : Act) (w : World) (v : Value) (w' : World) : Prop :=
  ∀ (b : Frame) (k : List Item) (cs : List Frame) (ops : Array Oper) (i : Nat) (rest : List Nat), b.kind = .normal → ops[i]? = some o → o.guard = none →
    step P (lone (b.at a (.inRegion ops (i :: rest) :: k)) cs w) = .next (lone (b.at (a.put o.dst v) (.inRegion ops rest :: k)) cs w')
def opsK (P : Program) (ops : Array Oper) (Q : Exit → Act → World → Prop) : List Nat → Act → World → Prop
  | [], a, w => Q .normal a w
  | i :: rest, a, w => ∃ o v w', ops[i]? = some o ∧ o.guard = none ∧ OpSteps P o a w v w' ∧ opsK P ops Q rest (a.put o.dst v) w'
theorem iq3 {ops : Array Oper} : ∀ {l : List Nat} {a : Act} {w : World}, opsK P ops Q l a w → ∀ (b : Frame) (k : List Item) (cs : List Frame), b.kind = .normal →
      ∃ e a' w', Q e a' w' ∧ Arrives P (lone (b.at a (.inRegion ops l :: k)) cs w) b k cs e a' w'
  | [], a, w, h, b, k, cs, hb => ⟨.normal, a, w, h, .one step_region_end⟩
  | i :: rest, a, w, ⟨o, v, w', ho, hg, hs, h⟩, b, k, cs, hb => by
    obtain ⟨e, a', w'', hq, harr⟩ := iq3 h b k cs hb; exact ⟨e, a', w'', hq, .of_steps (.one (hs b k cs ops i rest hb ho hg)) harr⟩
theorem gx1 {id : Nat} {ops : Array Oper} (h : opsK P ops Q (List.range ops.size) a w) : wpk P (.region id ops false) Q a w :=
  fun b k cs hb => let ⟨e, a', w', q, r⟩ := iq3 h b k cs hb; ⟨e, a', w', q, .of_steps (.one step_region) r⟩
theorem dx4 {o : Oper} {v : Value} {w' : World} (h : (execOp a.eval o).run P w = .ok (.value v) w') : OpSteps P o a w v w' := by
  intro b k cs ops i rest hb ho hg; have hw : Region.wanted o (yielded ops a.tmps) = true := by simp [Region.wanted, hg]
  have hg' := stepG_op (P := P) (b := b) (k := k) (cs := cs) (w := w) (rest := rest) ho hw; have hfin : (b.at a (.inRegion ops (i :: rest) :: k)).finish v = b.at (a.put o.dst v) (.inRegion ops rest :: k) := by rw [Frame.finish_at, ho]; rfl
  refine step_lone_go ?_; rw [hg', ← hfin]; simp [stepG.apply, h]
theorem cj0 {o : Oper} {c cap s r : Nat} {buf : Array Value} {tm : Bool} {v z' : Value} (h : (execOp a.eval o).run P w = .ok (.comm #[scase c v z'] true .send) w) (hc : w.heap[c]? = some (.chan cap buf false s r tm)) (hroom : buf.size < cap) :
    OpSteps P o a w undef (w.setChan c cap (buf.push v) false (s + 1) r tm) := by
  intro b k cs ops i rest hb ho hg; have hw : Region.wanted o (yielded ops a.tmps) = true := by simp [Region.wanted, hg]
  have hfin : (b.at a (.inRegion ops (i :: rest) :: k)).finish undef = b.at (a.put o.dst undef) (.inRegion ops rest :: k) := by rw [Frame.finish_at, ho]; rfl
  have hs := stepG_comm (P := P) (main := true) (b := b) (a := a) (k := k) (cs := cs) (w := w) (rest := rest) ho hw (by rw [hb]; decide) h; have := step_lone_send_room (P := P) hs hc hroom; rw [hfin] at this; exact this
theorem cj1 {o : Oper} {c cap s r : Nat} {buf : Array Value} {tm closed : Bool} {z : Value} (h : (execOp a.eval o).run P w = .ok (.comm #[rcase c z] true (.recv false)) w) (hc : w.heap[c]? = some (.chan cap buf closed s r tm)) (hsome : 0 < buf.size) :
    OpSteps P o a w (buf.getD 0 undef) (w.setChan c cap (buf.extract 1 buf.size) closed s (r + 1) tm) := by
  intro b k cs ops i rest hb ho hg; have hw : Region.wanted o (yielded ops a.tmps) = true := by simp [Region.wanted, hg]
  have hfin : (b.at a (.inRegion ops (i :: rest) :: k)).finish (buf.getD 0 undef) = b.at (a.put o.dst (buf.getD 0 undef)) (.inRegion ops rest :: k) := by rw [Frame.finish_at, ho]; rfl
  have hs := stepG_comm (P := P) (main := true) (b := b) (a := a) (k := k) (cs := cs) (w := w) (rest := rest) ho hw (by rw [hb]; decide) h; have := step_lone_recv_buf (P := P) false hs hc hsome; simp only [got] at this; rw [if_neg (by decide), hfin] at this; exact this
end
/-! The rules. -/
def kw (c : Cx) (x : Code) (Q : Exit → Act → World → Prop) : Act → World → Prop := wpk c.P x Q
def KC (c : Cx) (x : Code) (Q : Exit → Act → World → Prop) (fr : Fr) (hp : Hp) (L : List Fact) : Prop := ∀ a w, Ok c a fr → WI c.b w hp L → kw c x Q a w
def KL (c : Cx) (ops : Array Oper) (Q : Exit → Act → World → Prop) (l : List Nat) (fr : Fr) (hp : Hp) (L : List Fact) : Prop := ∀ a w, Ok c a fr → WI c.b w hp L → opsK c.P ops Q l a w
section
variable {c : Cx} {Q : Exit → Act → World → Prop} {fr : Fr} {hp : Hp} {L : List Fact} {ops : Array Oper}
theorem K6 {x y : Code} (h : KC c x (Exit.then (kw c y Q) Q) fr hp L) : KC c (.seq x y) Q fr hp L := fun a w ha hw => wpk_seq (h a w ha hw)
theorem G2 {y : Code} (h : KC c y Q fr hp L) : HQ c (Exit.then (kw c y Q) Q) .normal fr hp L := fun a w ha hw => h a w ha hw
theorem D3 {P : Program} {n : Nat} {b : Bx} {D : List Deferred} {id : Nat} {l : List Oper} (h : HL ⟨P, n, b, D, none⟩ l.toArray Q l fr hp L) : KC ⟨P, n, b, D, none⟩ (.region id l.toArray false) Q fr hp L :=
  fun a w ha hw => bq9 (wpIn_wide.1 (c9 (id := id) h a w ha hw))
theorem cj6 (h : HQ c Q .normal fr hp L) : KC c .skip Q fr hp L := fun a w ha hw => bq9 (wp_skip (h a w ha hw))
theorem iq9 {id : Nat} (h : HQ c Q (.exit id) fr hp L) : KC c (.exit id) Q fr hp L := fun a w ha hw => bq9 (wp_exit (h a w ha hw))
theorem kc_ret (h : HQ c Q .ret fr hp L) : KC c .ret Q fr hp L := fun a w ha hw => bq9 (wp_ret (h a w ha hw))
theorem tY {id : Nat} {x : Code} (h : KC c x (Exit.inBlock id Q) fr hp L) : KC c (.block id x) Q fr hp L := fun a w ha hw => ix9 (h a w ha hw)
theorem yM {x : Operand} {b : Bool} {thn els : Code} (hx : ev fr x = some (.bool b)) (ht : b = true → KC c thn Q fr hp L) (hf : b = false → KC c els Q fr hp L) : KC c (.cond x thn els) Q fr hp L :=
  fun a w ha hw => yT (ha.ev hx) (fun e => ht e a w ha hw) (fun e => hf e a w ha hw)
theorem lx4 {x : Operand} {p : Prop} [Decidable p] {thn els : Code} (hx : ev fr x = some (.bool (decide p))) (ht : p → KC c thn Q fr hp L) (hf : ¬ p → KC c els Q fr hp L) : KC c (.cond x thn els) Q fr hp L :=
  yM hx (fun e => ht (of_decide_eq_true e)) (fun e => hf (of_decide_eq_false e))
theorem iq8 {β : Type} (s : Sta β) (μ : β → Nat) {body : Code} (z0 : β) (hz0 : s.inv z0) (h1 : FrSub fr (s.fr z0)) (h2 : (s.hp z0).Sublist hp) (h3 : LSub L (s.L z0))
    (round : ∀ z, s.inv z → KC c body (Exit.then (AgainQ s μ (μ z) c) Q) (s.fr z) (s.hp z) (s.L z)) : KC c (.loop body) Q fr hp L :=
  fun a w ha hw => kx0 (fun m a w => ∃ y, μ y = m ∧ s.inv y ∧ Ok c a (s.fr y) ∧ WI c.b w (s.hp y) (s.L y)) (μ z0) ⟨z0, rfl, hz0, ha.sub h1, hw.weak h2 h3.mem⟩
    fun m a w ⟨y, hm, hy, hok, hwi⟩ => kq9 (round y hy a w hok hwi) fun e a w hq => by
      cases e <;> first | exact hq | (obtain ⟨z, hz, hlt, hok', hwi'⟩ := hq; exact ⟨μ z, by rw [← hm]; exact hlt, z, rfl, hz, hok', hwi'⟩)
theorem cj5 {β : Type} {P : Program} {f : Nat} {args : List Value} {k : Con β} {fn : Func} {code : Code} (hf : P.funcs[f]? = some fn) (hb : fn.body = some code) (hn : args.length ≤ fn.ntmps)
    (h : ∀ w, KC ⟨P, fn.ntmps, k.entry w, [], none⟩ code (bodyPost P fn (k.post w)) (argFr 0 args) k.hpI k.LI) : Meets P f args k := by
  intro w hw; refine cx0 hf hb (h w _ w ⟨rfl, by simp; omega, fun t v hv => ?_⟩ hw); obtain ⟨_, h2⟩ := tQ args 0 t v hv; simp only [Nat.sub_zero] at h2
  have hlt : t < args.length := by
    rcases Nat.lt_or_ge t args.length with h' | h'
    · exact h'
    rw [List.getElem?_eq_none h'] at h2; cases h2
  rw [List.getElem?_eq_getElem hlt] at h2
  injection h2 with h2
  simp [Array.getElem?_append, hlt, h2]
theorem cj7 {id : Nat} {l : List Oper} (h : KL c l.toArray Q (List.range l.length) fr hp L) : KC c (.region id l.toArray false) Q fr hp L :=
  fun a w ha hw => gx1 (by simpa using h a w ha hw)
theorem hq7 (h : HQ c Q .normal fr hp L) : KL c ops Q [] fr hp L := fun a w ha hw => h a w ha hw
variable {i : Nat} {rest : List Nat} {d : Tmp} {ty : TypeId} {pos : String} {af : Array Edge}
theorem lx3 {o : Oper} (v : Value) (hi : ops[i]? = some o) (ho : o.dst = some d) (hg : o.guard = none) (hd : Nat.blt d c.n = true)
    (hr : ∀ a w, Ok c a fr → WI c.b w hp L → (execOp a.eval o).run c.P w = .ok (.value v) w) (k : KL c ops Q rest ((d, v) :: fr) hp L) : KL c ops Q (i :: rest) fr hp L := by
  intro a w ha hw; refine ⟨o, v, w, hi, hg, dx4 (hr a w ha hw), ?_⟩; rw [ho]; exact k _ _ (ha.put (by simpa using hd) v) hw
theorem tU {x : Operand} {v : Value} (hi : ops[i]? = some ⟨some d, .move x, ty, pos, af, none⟩) (hd : Nat.blt d c.n = true) (hx : ev fr x = some v) (k : KL c ops Q rest ((d, v) :: fr) hp L) : KL c ops Q (i :: rest) fr hp L :=
  lx3 v hi rfl rfl hd (fun a w ha _ => by show Result.ok (Next.value (a.eval x)) w = _; rw [ha.ev hx]) k
theorem jq8 {x : Operand} {v : Value} (hi : ops[i]? = some ⟨some d, .assign x, ty, pos, af, none⟩) (hd : Nat.blt d c.n = true) (hx : ev fr x = some v) (k : KL c ops Q rest ((d, v) :: fr) hp L) : KL c ops Q (i :: rest) fr hp L :=
  lx3 v hi rfl rfl hd (fun a w ha _ => by show Result.ok (Next.value (a.eval x)) w = _; rw [ha.ev hx]) k
abbrev chanO (cap : Nat) (buf : List Value) (s r : Nat) : Obj := .chan cap buf.toArray false s r false
theorem ij0 {b : Bx} {w : World} {g cap s r s' r' : Nat} {buf buf' : Array Value} {o : Obj} (h : WI b w ((g, o) :: hp) L) : WI b (w.setChan g cap buf' false s' r' false) ((g, .chan cap buf' false s' r' false) :: hp) L := by
  have hg := h.own (g, o) (by simp); have hlt : g < w.heap.size := J4 hg; refine h.write ⟨rfl, rfl, rfl, by simp [World.setChan], fun k hk hn => ?_, Nat.le_refl _⟩ (heap_setChan w g cap buf' false s' r' false hlt); simp only [World.setChan]; rw [Array.getElem?_setIfInBounds_ne (fun e => hn (by rw [e]; simp))]
theorem iq7 {x y : Operand} {v : Value} {g cap s r : Nat} {buf : List Value} {hp' : Hp} (hi : ops[i]? = some ⟨none, .send x y, ty, pos, af, none⟩) (hx : ev fr x = some (.chan (some g))) (hy : ev fr y = some v) (hpp : hp.Perm ((g, chanO cap buf s r) :: hp')) (hroom : buf.length < cap)
    (k : KL c ops Q rest fr ((g, chanO cap (buf ++ [v]) (s + 1) r) :: hp') L) : KL c ops Q (i :: rest) fr hp L := by
  intro a w ha hw; have hw' := hw.perm hpp; have hg := hw'.own (g, chanO cap buf s r) (by simp); refine ⟨_, undef, _, hi, rfl, cj0 (c := g) (v := v) (z' := .tuple #[]) (by simp [execOp, scase, ha.ev hx, ha.ev hy]) hg (by simpa using hroom), ?_⟩; show opsK c.P ops Q rest a _; refine k a _ ha ?_; have h2 := ij0 (cap := cap) (s' := s + 1) (r' := r) (buf' := buf.toArray.push v) (s := s) (r := r) (buf := buf.toArray) hw'; have e : (buf ++ [v]).toArray = buf.toArray.push v := by simp
  show WI c.b _ ((g, .chan cap (buf ++ [v]).toArray false (s + 1) r false) :: hp') L; rw [e]; exact h2
theorem kl_recv {t e : TypeId} {dir : ChanDir} {x : Operand} {v z : Value} {g cap s r : Nat} {buf : List Value} {hp' : Hp} (hi : ops[i]? = some ⟨some d, .recv t x false, ty, pos, af, none⟩) (hd : Nat.blt d c.n = true) (ht : c.P.underlying t = some (.chan dir e)) (hz : ∀ w, (zeroValue e).run c.P w = .ok z w)
    (hx : ev fr x = some (.chan (some g))) (hpp : hp.Perm ((g, chanO cap (v :: buf) s r) :: hp'))
    (k : KL c ops Q rest ((d, v) :: fr) ((g, chanO cap buf s (r + 1)) :: hp') L) : KL c ops Q (i :: rest) fr hp L := by
  intro a w ha hw; have hw' := hw.perm hpp; have hg := hw'.own (g, chanO cap (v :: buf) s r) (by simp); refine ⟨_, v, _, hi, rfl, cj1 (c := g) (z := z) (cap := cap) (buf := (v :: buf).toArray) (closed := false) (s := s) (r := r) (tm := false) ?_ hg (by simp), ?_⟩
  · simp [execOp, Sem.run_bind, run_underlying ht, hz, rcase, ha.ev hx]
  refine k _ _ (ha.put (by simpa using hd) v) ?_; have h2 := ij0 (cap := cap) (s' := s) (r' := r + 1) (buf' := (v :: buf).toArray.extract 1 (v :: buf).toArray.size) (s := s) (r := r) (buf := (v :: buf).toArray) hw'; have e : (v :: buf).toArray.extract 1 (v :: buf).toArray.size = buf.toArray := by simp
  rw [e] at h2
  simpa using h2
end
section
variable {c : Cx} {Q : Exit → Act → World → Prop} {fr : Fr} {hp : Hp} {L : List Fact} {ops : Array Oper} {rest : List Oper}
variable {d : Tmp} {ty : TypeId} {pos : String} {af : Array Edge}
theorem hj1 {t e : TypeId} {dir : ChanDir} {x : Operand} {n : Nat} {z : TypeInfo} (hd : Nat.blt d c.n = true) (ht : c.P.underlying t = some (.chan dir e)) (hi : c.P.info? e = some z) (hx : ev fr x = some (int (n : Int))) (h63 : (n : Int) ≤ 9223372036854775807) (hb : (z.bytes : Int) * n ≤ 281474976710544)
    (k : ∀ g, HL c ops Q rest ((d, .chan (some g)) :: fr) ((g, chanO n [] 0 0) :: hp) L) : HL c ops Q (⟨some d, .makeChan t x, ty, pos, af, none⟩ :: rest) fr hp L :=
  vZ rfl rfl hd fun a w ha hw => by
    refine ⟨.chan (some w.heap.size), _, _, L, ?_, hw.alloc _, k w.heap.size⟩; simp only [execOp, Sem.run_bind, Sem.run_pure, Result.andThen_ok, ha.ev hx, run_makeChan ht hi .i64 n h63 hb]
theorem hj4 {dT sT e : TypeId} {x y : Operand} {g off dLen dCap sLen sCap : Nat} {ad : Addr} {cur : Array Value} {cs : List Value} {hp' : Hp} (hd : Nat.blt d c.n = true) (ht : c.P.underlying dT = some (.slice e)) (hz : Sz c.P e 1)
    (hx : ev fr x = some (.slice (some ⟨g, off, none⟩) dLen dCap)) (hy : ev fr y = some (.slice (some ad) sLen sCap)) (hpp : hp.Perm ((g, .cells cur e (0, 0)) :: hp')) (hn : cs.length = Nat.min sLen dLen) (hs : Cells c.b ((g, .cells cur e (0, 0)) :: hp') L ad cs)
    (hfit : off + cs.length ≤ cur.size) (h1 : ∀ v ∈ cs, v.oneCell' = true)
    (k : HL c ops Q rest ((d, int cs.length) :: fr) ((g, .cells (cur.toList.take off ++ cs ++ cur.toList.drop (off + cs.length)).toArray e (0, 0)) :: hp') L) :
    HL c ops Q (⟨some d, .call ⟨.builtin .copy, #[x, y], #[dT, sT]⟩, ty, pos, af, none⟩ :: rest) fr hp L :=
  vZ rfl rfl hd fun a w ha hw => by
    have hw' := hw.perm hpp; have hg := hw'.own (g, .cells cur e (0, 0)) (by simp); simp only at hg; have hrun := run_copy_row (P := c.P) w dT sT ty e g off dLen dCap ad sLen sCap cur e cs ht hz hg hn (hs w hw') hfit h1; refine ⟨int cs.length, w.setRow g (cur.toList.take off ++ cs ++ cur.toList.drop (off + cs.length)).toArray, _, L, ?_, hw'.write (o' := .cells (cur.toList.take off ++ cs ++ cur.toList.drop (off + cs.length)).toArray e (0, 0)) ⟨rfl, rfl, rfl, by simp [World.setRow], fun k hk hn => setRow_other w g k _ (fun e => hn (by rw [e]; simp)), Nat.le_refl _⟩ (setRow_heap w g cur _ e (0, 0) hg), k⟩; simp only [execOp, resolve, invoke, builtin, Sem.run_bind, Sem.run_pure, Result.andThen_ok, List.map_toArray, List.map_cons, List.map_nil, ha.ev hx, ha.ev hy, hrun]
    rfl
theorem r_makeN {t e : TypeId} {x y : Operand} {n sz bytes : Nat} {m m' : Int} (el : ElT c.P t e sz bytes) (hd : Nat.blt d c.n = true) (hx : ev fr x = some (int m')) (hy : ev fr y = some (int m)) (hm' : m' = (n : Int)) (hm : m = (n : Int)) (hb : bytes * n ≤ 140737488355328) (hn : n ≤ 140737488355328)
    (k : ∀ g (cur : Array Value), cur.size = n * sz → HL c ops Q rest ((d, .slice (i7 g) n n) :: fr) ((g, .cells cur e (0, 0)) :: hp) L) : HL c ops Q (⟨some d, .makeSlice t x y, ty, pos, af, none⟩ :: rest) fr hp L := by
  obtain ⟨i, z, hi, hz, hsz, hby, hzs⟩ := el.i; refine rT (.cells (madeCells z.cells (n * i.size)) e (0, 0)) (fun g => .slice (i7 g) n n) rfl rfl hd (fun a w ha _ => ?_) (fun g => k g _ ?_)
  · subst hm
    subst hm'
    have hb' : (i.bytes : Int) * (n : Int) ≤ 281474976710656 := by
      have h : ((i.bytes * n : Nat) : Int) ≤ 281474976710656 := by rw [hby]; omega
      rwa [Int.natCast_mul] at h
    have hr := run_make (P := c.P) w t e i z el.u hi hz .i64 .i64 (n : Int) n (by omega) (by omega) hb' (by omega); simp only [Int.toNat_natCast] at hr; simp only [execOp, ha.ev hx, ha.ev hy, Sem.run_bind, hr, Result.andThen_ok, Sem.run_pure]
  rw [← hsz]
  simp [madeCells]
end
/-! ### Slices that grow from nothing, whose cells are written -/
section
def GrowE (e : TypeId) (sz : Nat) (A : Option Addr) (n cap : Nat) (xs : List Value) (og : Hp) : Prop := Grow e sz A n cap xs og ∨ (n = 0 ∧ cap = 0 ∧ xs = [] ∧ og = [])
theorem GrowE.grow {e : TypeId} {sz n cap : Nat} {A : Option Addr} {xs : List Value} {og : Hp} (h : GrowE e sz A n cap xs og) (hn : 0 < n) : Grow e sz A n cap xs og := by
  rcases h with h | ⟨h, _⟩
  · exact h
  omega
theorem GrowE.le {e : TypeId} {sz n cap : Nat} {A : Option Addr} {xs : List Value} {og : Hp} (h : GrowE e sz A n cap xs og) : n ≤ cap := by
  rcases h with h | ⟨h, h2, _⟩
  · exact h.le
  omega
variable {c : Cx} {Q : Exit → Act → World → Prop} {fr : Fr} {hp : Hp} {L : List Fact} {ops : Array Oper} {rest : List Oper}
variable {d : Tmp} {ty : TypeId} {pos : String} {af : Array Edge}
/-! ### Cells of rows that are written -/
theorem az5 {α : Type} [El α] {v : Value} {a : α} {f : Nat} (hf : f < El.sz α) : ∀ {l : List α} {k : Nat}, k < l.length → El.cells a = (El.cells (l.getD k default)).set f v → (rows l).set (k * El.sz α + f) v = rows (l.set k a)
  | [], k, hk, _ => by simp at hk
  | b :: l, 0, _, hc => by
    show (El.cells b ++ rows l).set _ v = El.cells a ++ rows l; rw [Nat.zero_mul, Nat.zero_add, List.set_append_left _ _ (by rw [El.len]; exact hf), hc]
    rfl
  | b :: l, k + 1, hk, hc => by
    have ih := az5 hf (l := l) (k := k) (by simpa using hk) (by simpa using hc); show (El.cells b ++ rows l).set _ v = El.cells b ++ rows (l.set k a); rw [List.set_append_right _ _ (by rw [El.len, Nat.add_mul]; omega), El.len, ← ih]
    congr 2
    rw [Nat.add_mul]; omega
end
section
variable {c : Cx} {Q : Exit → Act → World → Prop} {fr : Fr} {hp : Hp} {L : List Fact} {ops : Array Oper} {rest : List Oper} {ty : TypeId} {pos : String} {af : Array Edge}
theorem dq3 {t : TypeId} {x y : Operand} {g o : Nat} {old cs : Array Value} {e : TypeId} {hp' : Hp} (hx : ev fr x = some (.pointer (some ⟨g, o, none⟩))) (hy : ev fr y = some (.agg cs)) (hpp : hp.Perm ((g, .cells old e (0, 0)) :: hp'))
    (hz : Sz c.P t cs.size) (ho : o + cs.size ≤ old.size) (h1 : cs.toList.all (·.oneCell') = true)
    (k : HL c ops Q rest fr ((g, .cells (old.toList.take o ++ cs.toList ++ old.toList.drop (o + cs.size)).toArray e (0, 0)) :: hp') L) : HL c ops Q (⟨none, .store t x y, ty, pos, af, none⟩ :: rest) fr hp L :=
  cj8 rfl rfl fun a w ha hw => by
    have hw' := hw.perm hpp; have hg := hw'.own (g, .cells old e (0, 0)) (by simp); simp only at hg; have hst := run_storeCells_at (P := c.P) g o e cs.toList 0 old w hg (by simpa using ho) (fun v hv => List.all_eq_true.1 h1 v hv); simp only [Nat.add_zero, Array.length_toList] at hst
    have hrun : (storeVar t ⟨g, o, none⟩ (.agg cs)).run c.P w = .ok () (w.setRow g (old.toList.take o ++ cs.toList ++ old.toList.drop (o + cs.size)).toArray) := by
      unfold Sz at hz
      cases hq : c.P.info? t with
      | none => simp [hq] at hz
      | some i =>
        have hs : cs.size = i.size := by simp [hq] at hz; omega
        simp [storeVar, sizeOf, typeInfo, hq, Value.cells, hs, hst]
    refine ⟨w.setRow g (old.toList.take o ++ cs.toList ++ old.toList.drop (o + cs.size)).toArray, _, L, ?_, hw'.write (aq0 _) (setRow_heap w g old _ e (0, 0) hg), k⟩; simp only [execOp, ha.ev hx, ha.ev hy, Instr.storeAt, Instr.sureAddr, Sem.run_bind, Sem.run_pure, Result.andThen_ok, hrun]
end
end Go.W
end
