/- Texts of this claim, one behind another. -/
import Derived.ProofKit
import Derived.OpenShut
import Derived.ShutString
import Derived.ChangeOld
import Derived.Below
import Derived.SliceStrings
import Derived.ChangeSlices
import Derived.Deep.Slices
import Derived.Conc.LeavingOf
import Derived.Test.YtmpfpfbcejfijaaGreatDoorAAq
import Derived.Test.YtmpfpfbcejfijaaGreatDoorAAf
import Derived.Test.YtmpfpfbcejfijaaGreatDoorAAa
set_option linter.unusedVariables false
set_option linter.unusedSimpArgs false
section
namespace Go.Proofs.YtmpfpfbcejfijaaGreatDoor
open Go Go.W
set_option maxRecDepth 20000
attribute [local irreducible] HL HC HQ HB Row Rows2 Blk Facts
def placeE (hs : List Hd) : List Int → Int
  | [] => 0
  | v :: r => if ¬ (0 ≤ v ∧ v ≤ (hs.length : Int) - 1) then 3 else if (hs.getD v.toNat default).2.1 < 0 then 8 else placeE hs r
theorem dx0 (hs : List Hd) {l : List Int} {k : Nat} (hk : k < l.length) : placeE hs (l.drop k) = if ¬ (0 ≤ l.getD k default ∧ l.getD k default ≤ (hs.length : Int) - 1) then 3 else if (hs.getD (l.getD k default).toNat default).2.1 < 0 then 8 else placeE hs (l.drop (k + 1)) := by
  rw [hJ hk, placeE]
theorem dq9 {hs : List Hd} : ∀ {l : List Int}, placeE hs l = 0 → ∀ v ∈ l, 0 ≤ v ∧ v < (hs.length : Int)
  | [], _, v, hv => by cases hv
  | x :: r, h, v, hv => by
    rw [placeE] at h
    split at h
    · cases h
    split at h
    · cases h
    rcases List.mem_cons.1 hv with rfl | hv
    · omega
    exact dq9 h v hv
def missB (rs : List (List Bool)) (ks : List Int) (i : Nat) : Bool := ks.any fun v => (rs.getD i default).getD v.toNat default
def missK (rs : List (List Bool)) (ks : List Int) (k : Nat) : List Int := ((List.range k).filter fun i => !missB rs ks i).map fun i : Nat => (i : Int)
theorem xT (rs : List (List Bool)) (ks : List Int) (k : Nat) : missK rs ks (k + 1) = if missB rs ks k = true then missK rs ks k else missK rs ks k ++ [(k : Int)] := by
  unfold missK; rw [List.range_succ, List.filter_append, List.map_append]
  by_cases e : missB rs ks k = true
  · rw [if_pos e]; simp [e]
  rw [if_neg e]; simp [e]
theorem jq4 (rs : List (List Bool)) (ks : List Int) (k : Nat) : (missK rs ks k).length ≤ k := by
  unfold missK; rw [List.length_map]; exact Nat.le_trans (List.length_filter_le _ _) (by simp)
def missE (cs : List Cl) (hs : List Hd) (ks : List Int) (p : Int) : List Int × Int :=
  if ¬ checkT (trOf cs hs) = 0 then ([], checkT (trOf cs hs)) else if ¬ placeE hs ks = 0 then ([], placeE hs ks) else if ¬ (0 ≤ p ∧ p ≤ 6) then ([], 1) else (missK (reachK (trOf cs hs) p hs.length) ks hs.length, 0)
set_option maxHeartbeats 1000000 in
theorem dB {A B S : Option Addr} {ca cb sc : Nat} (cs : List Cl) (hs : List Hd) (ks : List Int) (p : Int) (hca : cs.length ≤ ca) (hcb : hs.length ≤ cb) (ha : ∀ h ∈ hs, h.2.2.2.l.length ≤ 1000000) (hkl : ks.length ≤ 1000000) : Meets Tryz.prog F.Z7 [.agg #[.slice A cs.length ca, .slice B hs.length cb], .slice S ks.length sc, int p] { LI := [Row A (rows cs), RowsF B hs Hd.row, Row S (rows ks)], inv := fun x : OutC => (missE cs hs ks p).1.length ≤ x.2, val := fun x => .tuple #[.slice x.1 (missE cs hs ks p).1.length x.2, int (missE cs hs ks p).2], LO := fun x => [Row x.1 (rows (missE cs hs ks p).1)] } := by
 refine j8 F.aj2 rfl t4 fun w0 => ?_; refine j3 ?_; refine C4 rfl rfl fun gT => ?_; refine b9 rfl (b9 rfl (d9 (j6 (j3 (az5 ?_))))); refine t7 (cs := #[.slice A cs.length ca, .slice B hs.length cb]) rfl T.t1 T.t5 rfl mB rfl ?_; refine i9 F.lE rfl rfl (cQ cs hs hca hcb ha) l5 mC fun _ _ => ?_; refine b9 rfl (k9 (b8 rfl (C1 rfl rfl rfl (d9 ?_))))
 first | refine m7 rfl (fun hb1 => ?_) (fun hb1 => ?_) | refine k4 rfl (fun hb1 => ?_) (fun hb1 => ?_)
 ·have hb1' := hb1; try simp at hb1'
  refine j3 (b8 rfl (b9 rfl (b9 rfl (d9 (J1 ?_))))); refine A8 (α := Int) ?_; have hE : (missE cs hs ks p) = ([], checkT (trOf cs hs)) := by rw [missE, if_pos hb1]
  exact ret2 (none, 0) rfl rfl rfl (by show Value.tuple #[.slice none (missE cs hs ks p).1.length 0, int (missE cs hs ks p).2] = _; rw [hE]; rfl) rfl (by show (missE cs hs ks p).1.length ≤ 0; rw [hE]; exact Nat.le_refl _) nil_sb (by show LSub _ [Row none (rows (missE cs hs ks p).1)]; rw [hE]; exact ⟨m0, trivial⟩)
 have hb1' := hb1; try simp at hb1'
 have h0 : checkT (trOf cs hs) = 0 := Classical.not_not.1 hb1; have hok := dj3 h0; have hn6 := hok.h6; rw [N4] at hn6; refine k7 (j9 (j6 (j3 (b8 rfl ?_)))); refine l9 rfl T.q9 rfl ?_; refine b8 rfl (d9 (l4 ?_)); refine v8 (β := Nat) ⟨fun k => k ≤ ks.length ∧ placeE hs ks = placeE hs (ks.drop k), fun k => [(1, .slice S ks.length sc), (2, int p), (3, .pointer (b4 gT)), (19, .slice S ks.length sc), (20, int ks.length), (21, int k)], fun _ => [], fun _ => [Blk gT (Obj.cells #[.slice A cs.length ca, .slice B hs.length cb] T.z4 (0, 0)), Row A (rows cs), RowsF B hs Hd.row, Row S (rows ks)]⟩ (fun k => ks.length - k) 0 ⟨Nat.zero_le _, rfl⟩ mC nil_sb mC fun k hk => ?_; obtain ⟨hk, hpe⟩ := hk; refine j3 (A7 rfl rfl rfl (d9 (j6 ?_)))
 first | refine m7 rfl (fun hb2 => ?_) (fun hb2 => ?_) | refine k4 rfl (fun hb2 => ?_) (fun hb2 => ?_)
 ·have hb2' := hb2; try simp at hb2'
  have hk2 : k < ks.length := by omega
  rw [dx0 hs hk2] at hpe; refine k7 (j9 (j6 (l4 (j3 ?_)))); refine w3 (α := Int) ks k rfl T.q9 T.v0 rfl rfl rfl mB rfl (hk2) (by decide) (a8 (v := int ((ks.getD k default))) rfl T.a9 rfl (d8 mB (d4 (hk2) rfl)) ?_); refine b9 rfl (d9 (j6 (j3 (b8 rfl ?_))))
  first | refine a7 ⟨_, 1, none⟩ rfl rfl T.p6 rfl ?_ | refine a7 _ rfl rfl T.p6 rfl ?_
  refine a8 (v := .slice B hs.length cb) rfl T.m3 rfl (i8 mB rfl) (l9 rfl T.w8 rfl (U6 _ rfl rfl rfl rfl s9 ?_)); refine i9 F.s8 rfl rfl (p7 _ _ _) l5 trivial fun _ _ => ?_; refine D5 rfl rfl (d9 ?_)
  first | refine m7 rfl (fun hb3 => ?_) (fun hb3 => ?_) | refine k4 rfl (fun hb3 => ?_) (fun hb3 => ?_)
  ·have hb3' := hb3; try simp at hb3'
   rw [if_pos (nbt hb3)] at hpe; refine j3 (b9 rfl (b9 rfl (d9 (J1 (C2 (w6 (Y6 ?_))))))); refine w6 ?_; refine A8 (α := Int) ?_; have hE : (missE cs hs ks p) = ([], 3) := by rw [missE, if_neg (Classical.not_not.2 h0), if_pos (by rw [hpe]; decide), hpe]
   exact ret2 (none, 0) rfl rfl rfl (by show Value.tuple #[.slice none (missE cs hs ks p).1.length 0, int (missE cs hs ks p).2] = _; rw [hE]; rfl) rfl (by show (missE cs hs ks p).1.length ≤ 0; rw [hE]; exact Nat.le_refl _) nil_sb (by show LSub _ [Row none (rows (missE cs hs ks p).1)]; rw [hE]; exact ⟨m0, trivial⟩)
  have hb3' := hb3; try simp at hb3'
  have hkv := nbf hb3; rw [if_neg (Classical.not_not.2 hkv)] at hpe; obtain ⟨m, hme⟩ := Int.eq_ofNat_of_zero_le hkv.1; have hm2 : m < hs.length := by omega
  rw [hme, Int.toNat_natCast] at hpe; refine k7 (j9 (j3 ?_))
  first | refine a7 ⟨_, 1, none⟩ rfl rfl T.p6 rfl ?_ | refine a7 _ rfl rfl T.p6 rfl ?_
  refine a8 (v := .slice B hs.length cb) rfl T.m3 rfl (i8 mB rfl) (b8 rfl (az4 (A := B) (ps := hs) (f := Hd.row) mB (w3 (α := Hd) hs m rfl T.w8 T.E8 rfl rfl hme mB rfl hm2 (by decide) ?_)))
  first | refine a7 ⟨_, 1, none⟩ rfl rfl T.z8 rfl ?_ | refine a7 _ rfl rfl T.z8 rfl ?_
  refine a8 (v := int (hs.getD m default).2.1) rfl T.a9 rfl (d7 mB (rows_get hm2 rfl)) ?_; refine A7 rfl rfl rfl (d9 ?_)
  first | refine m7 rfl (fun hb4 => ?_) (fun hb4 => ?_) | refine k4 rfl (fun hb4 => ?_) (fun hb4 => ?_)
  ·have hb4' := hb4; try simp at hb4'
   rw [if_pos hb4] at hpe; refine j3 (b9 rfl (b9 rfl (d9 (l7 (C2 (w6 (C2 ?_))))))); refine A8 (α := Int) ?_; have hE : (missE cs hs ks p) = ([], 8) := by rw [missE, if_neg (Classical.not_not.2 h0), if_pos (by rw [hpe]; decide), hpe]
   exact ret2 (none, 0) rfl rfl rfl (by show Value.tuple #[.slice none (missE cs hs ks p).1.length 0, int (missE cs hs ks p).2] = _; rw [hE]; rfl) rfl (by show (missE cs hs ks p).1.length ≤ 0; rw [hE]; exact Nat.le_refl _) nil_sb (by show LSub _ [Row none (rows (missE cs hs ks p).1)]; rw [hE]; exact ⟨m0, trivial⟩)
  have hb4' := hb4; try simp at hb4'
  rw [if_neg hb4] at hpe; refine k7 (z2 (j9 (k8 ?_))); refine y2 _ rfl rfl rfl rfl s9 ?_; refine b8 rfl (d6 ?_); exact again _ (k + 1) ⟨by show k + 1 ≤ ks.length; omega, hpe⟩ (A5 (by omega)) mC (.refl _) mC
 have hb2' := hb2; try simp at hb2'
 obtain rfl : k = ks.length := by omega
 rw [List.drop_length, placeE] at hpe; refine v5 (C3 (u9 (j9 (j6 (j3 (b8 rfl ?_)))))); refine i9 F.s8 rfl rfl (p7 _ _ _) l5 trivial fun _ _ => ?_; refine D5 rfl rfl (d9 ?_)
 first | refine m7 rfl (fun hb5 => ?_) (fun hb5 => ?_) | refine k4 rfl (fun hb5 => ?_) (fun hb5 => ?_)
 ·have hb5' := hb5; try simp at hb5'
  refine j3 (b9 rfl (b9 rfl (d9 (J1 ?_)))); refine A8 (α := Int) ?_; have hE : (missE cs hs ks p) = ([], 1) := by rw [missE, if_neg (Classical.not_not.2 h0), if_neg (Classical.not_not.2 hpe), if_pos (nbt hb5)]
  exact ret2 (none, 0) rfl rfl rfl (by show Value.tuple #[.slice none (missE cs hs ks p).1.length 0, int (missE cs hs ks p).2] = _; rw [hE]; rfl) rfl (by show (missE cs hs ks p).1.length ≤ 0; rw [hE]; exact Nat.le_refl _) nil_sb (by show LSub _ [Row none (rows (missE cs hs ks p).1)]; rw [hE]; exact ⟨m0, trivial⟩)
 have hb5' := hb5; try simp at hb5'
 have h5 := nbf hb5; have hkin := dq9 hpe; refine k7 (j9 (j3 (b9 rfl (d9 (j6 (j3 ?_)))))); refine t7 (cs := #[.slice A cs.length ca, .slice B hs.length cb]) rfl T.t1 T.t5 rfl mB rfl (b8 rfl ?_); refine i9 F.jY rfl rfl (bZ cs hs p hca hcb ha (by omega) (dj7 cs hs (by omega))) l5 mC fun x hx => ?_; obtain ⟨go, ps⟩ := x; obtain ⟨hpn2, hpm⟩ := hx; simp only at hpn2 hpm; refine l9 rfl T.R7 rfl ?_; refine b8 rfl (d9 (l4 ?_)); refine v8 (β := Nat × OutC × Hp) ⟨fun x => x.1 ≤ hs.length ∧ Grow T.int 1 x.2.1.1 (missK (reachK (trOf cs hs) p hs.length) ks x.1).length x.2.1.2 (rows (missK (reachK (trOf cs hs) p hs.length) ks x.1)) x.2.2, fun x => [(1, .slice S ks.length sc), (2, int p), (3, .pointer (b4 gT)), (11, .slice x.2.1.1 (missK (reachK (trOf cs hs) p hs.length) ks x.1).length x.2.1.2), (45, .slice (b4 go) hs.length hs.length), (46, int hs.length), (47, int x.1)], fun x => x.2.2, fun _ => [Row (b4 go) (rows ps), innerF ps, Blk gT (Obj.cells #[.slice A cs.length ca, .slice B hs.length cb] T.z4 (0, 0)), Row A (rows cs), RowsF B hs Hd.row, Row S (rows ks)]⟩ (fun x => hs.length - x.1) (0, (none, 0), []) ⟨Nat.zero_le _, Grow.nil _ _⟩ mC nil_sb mC fun x hx => ?_; obtain ⟨k, ⟨na, nc⟩, og⟩ := x; obtain ⟨hk, hG⟩ := hx; simp only at hk hG; have hml := jq4 (reachK (trOf cs hs) p hs.length) ks k; refine j3 (A7 rfl rfl rfl (d9 (j6 ?_)))
 first | refine m7 rfl (fun hb6 => ?_) (fun hb6 => ?_) | refine k4 rfl (fun hb6 => ?_) (fun hb6 => ?_)
 ·have hb6' := hb6; try simp at hb6'
  have hk2 : k < hs.length := by omega
  have hk3 : k < ps.length := by omega
  have hpk : (ps.getD k default).l = (reachK (trOf cs hs) p hs.length).getD k default := by rw [← hpm, w4 (l := ps.map (·.l)) (k := k) (by rw [List.length_map]; omega), w4 (l := ps) (k := k) (by omega), List.getElem_map]
  have hpkl : (ps.getD k default).l.length = hs.length := by rw [hpk, w4 (by unfold reachK; simp; omega)]; unfold reachK; simp only [List.getElem_map, List.getElem_range]; rw [bz5, ax2 h0 hk2]
  refine k7 (j9 (j6 (l4 (j3 (b8 rfl ?_))))); refine w3 (α := Sl Bool) ps k rfl T.R7 T.aZ rfl rfl rfl mB (hpn2.symm) (hk3) (by decide) (a8 (v := .slice (ps.getD k default).a (ps.getD k default).l.length (ps.getD k default).c) rfl T.cU rfl (d8 mB (d4 hk3 rfl)) ?_); refine wV (F := Row (ps.getD k default).a (rows (ps.getD k default).l)) (Fs := ps.map fun p => Row p.a (rows p.l)) mB (List.mem_map.2 ⟨_, u0 hk3, rfl⟩) ?_; refine z1 rfl (fun _ => T.kx5 _) fun g13 => ?_; refine b9 rfl (D7 rfl rfl (.refl _) T.aZ rfl rfl (t8 (rows [((ps.getD k default) : Sl Bool)]) (List.prefix_refl _) ?_)); refine k9 (b8 rfl (bS rfl rfl rfl ?_))
  refine i9 F.N6 rfl rfl (L4 (A := S) (cap := [.pointer (b4 g13)]) (L0 := [Row (b4 g13) (rows [((ps.getD k default) : Sl Bool)]), Row (ps.getD k default).a (rows (ps.getD k default).l)]) ks (fun x => (ps.getD k default).l.getD x.toNat default) hkl F.uM (fun x hx => by
    have hxv := hkin x hx; obtain ⟨v, rfl⟩ := Int.eq_ofNat_of_zero_le hxv.1; rw [Int.toNat_natCast]
    exact nR (ps.getD k default).l v (by omega))) l5 mC fun _ _ => ?_
  have hany : (ks.any fun x => (ps.getD k default).l.getD x.toNat default) = missB (reachK (trOf cs hs) p hs.length) ks k := by unfold missB; rw [hpk]
  rw [hany]; refine D5 rfl rfl (d9 ?_)
  first | refine m7 rfl (fun hb7 => ?_) (fun hb7 => ?_) | refine k4 rfl (fun hb7 => ?_) (fun hb7 => ?_)
  ·have hb7' := hb7; try simp at hb7'
   have hmb : ¬ missB (reachK (trOf cs hs) p hs.length) ks k = true := by simpa using hb7
   have hms : (missK (reachK (trOf cs hs) p hs.length) ks (k + 1)) = (missK (reachK (trOf cs hs) p hs.length) ks k) ++ [(k : Int)] := by rw [xT, if_neg hmb]
   refine k8 (b8 rfl (b8 rfl ?_)); refine m6 _ rfl rfl (fun _ => T.N1 ..) fun gS => ?_; refine t8 (rows [(k : Int)]) (List.prefix_refl _) ?_; refine Z1 (hp' := []) ((missK (reachK (trOf cs hs) p hs.length) ks k).length + 1) (rows ((missK (reachK (trOf cs hs) p hs.length) ks k) ++ [(k : Int)])) T.cq2 rfl rfl rfl hG (show List.Perm og (og ++ []) from by rw [List.append_nil]) (Src.row (news := rows [(k : Int)]) (m := 1) mB rfl (Q8 _) (by decide)) rfl (E9 _ _).symm (by unfold maxLen; omega) (by omega) fun A' c' og' hG' => ?_; refine b9 rfl (d6 (z2 (j9 (k8 ?_)))); refine y2 _ rfl rfl rfl rfl s9 ?_; refine b8 rfl (d6 ?_); have hms2 : (missK (reachK (trOf cs hs) p hs.length) ks (k + 1)).length = (missK (reachK (trOf cs hs) p hs.length) ks k).length + 1 := by rw [hms, List.length_append]; rfl
   refine mX (hp' := og') (show List.Perm (og' ++ []) og' from by rw [List.append_nil]) ?_; exact again _ (k + 1, (A', c'), og') ⟨by show k + 1 ≤ hs.length; omega, by show Grow _ _ _ (missK (reachK (trOf cs hs) p hs.length) ks (k + 1)).length _ (rows (missK (reachK (trOf cs hs) p hs.length) ks (k + 1))) _; rw [hms2, hms]; exact hG'⟩ (A5 (by omega)) ⟨rfl, rfl, rfl, congrArg (fun n => some (Value.slice A' n c')) hms2.symm, rfl, rfl, rfl, trivial⟩ (.refl _) mC
  have hb7' := hb7; try simp at hb7'
  have hmb : missB (reachK (trOf cs hs) p hs.length) ks k = true := by simpa using hb7
  have hms : (missK (reachK (trOf cs hs) p hs.length) ks (k + 1)) = (missK (reachK (trOf cs hs) p hs.length) ks k) := by rw [xT, if_pos hmb]
  refine k7 (z2 (j9 (k8 ?_))); refine y2 _ rfl rfl rfl rfl s9 ?_; refine b8 rfl (d6 ?_); exact again _ (k + 1, (na, nc), og) ⟨by show k + 1 ≤ hs.length; omega, by show Grow _ _ _ (missK (reachK (trOf cs hs) p hs.length) ks (k + 1)).length _ (rows (missK (reachK (trOf cs hs) p hs.length) ks (k + 1))) _; rw [hms]; exact hG⟩ (A5 (by omega)) ⟨rfl, rfl, rfl, congrArg (fun l : List Int => some (Value.slice na l.length nc)) hms.symm, rfl, rfl, rfl, trivial⟩ (.refl _) mC
 have hb6' := hb6; try simp at hb6'
 obtain rfl : k = hs.length := by omega
 refine v5 (C3 (u9 (j9 (j3 (b8 rfl (b9 rfl (b9 rfl (d9 ?_)))))))); refine l7 ?_; have hE : (missE cs hs ks p) = ((missK (reachK (trOf cs hs) p hs.length) ks hs.length), 0) := by rw [missE, if_neg (Classical.not_not.2 h0), if_neg (Classical.not_not.2 hpe), if_neg (Classical.not_not.2 h5)]
 refine az3 hG ?_; exact ret2 (na, nc) rfl rfl rfl (by show Value.tuple #[.slice na (missE cs hs ks p).1.length nc, int (missE cs hs ks p).2] = _; rw [hE]) rfl (by show (missE cs hs ks p).1.length ≤ nc; rw [hE]; exact hG.le) nil_sb (by show LSub _ [Row na (rows (missE cs hs ks p).1)]; rw [hE]; exact mC)
end Go.Proofs.YtmpfpfbcejfijaaGreatDoor
end
section
namespace Go.Proofs.YtmpfpfbcejfijaaGreatDoor
open Go Go.W
set_option maxRecDepth 20000
attribute [local irreducible] HL HC HQ HB Row Rows2 Blk Facts
def wrS : Str := [116, 97, 114, 105, 102, 102, 32, 49, 48, 32, 50, 53, 32, 53, 32, 52, 48, 32, 111, 102, 102, 32, 49, 48, 32, 102, 114, 111, 109, 32, 50, 10, 115, 116, 114, 101, 101, 116, 115, 32, 48, 32, 48, 32, 51, 10, 48, 32, 112, 108, 97, 105, 110, 10, 49, 32, 98, 111, 108, 100, 32, 50, 10, 50, 32, 99, 97, 114, 100, 32, 51, 10, 115, 111, 108, 100, 10]
def rooms : List Int := [4, 5, 0]
abbrev answ (a b : Nat) : List (Sl Int) := [⟨some ⟨a, 0, none⟩, 1, [2]⟩, ⟨some ⟨b, 0, none⟩, 2, [0, 1]⟩, ⟨none, 0, []⟩]
def prc : List Int := [10, 30, 120]
theorem lx9 : wrE ctrC [0, 0, 3] ctrA = wrS := by kernel_rfl
theorem lz4 : chkS ctrC [0, 0, 3] ctrA = 0 := by kernel_rfl
theorem kn_chk1 : chkS (10, 25, 5, 40, 51, 2) [0, 0, 3] ctrA = 1 := by kernel_rfl
theorem kn_chk2 : chkS ctrC [10, 0, 3] ctrA = 1 := by kernel_rfl
theorem kn_chk3 : chkS ctrC [0, 0, 3] [(0, 1, 2), (1, 2, 2), (2, 3, 3)] = 1 := by kernel_rfl
theorem lz2 (k : Nat) (h : k < 3) : priceE ctrC [0, 0, 3] ctrA k = (prc.getD k default, 0) := by
  rcases (show k = 0 ∨ k = 1 ∨ k = 2 by omega) with rfl | rfl | rfl <;> kernel_rfl
theorem jx0 : priceE ctrC [0, 0, 3] ctrA 3 = (0, 3) := by kernel_rfl
theorem lz1 : savedE ctrC [0, 0, 3] ctrA = ([1, 3, 0], 0) := by kernel_rfl
theorem hj7 : streetsE ctrC [0, 0, 3] ctrA = ([0], 0) := by kernel_rfl
theorem lz5 : billsE ctrC [0, 0, 3] someA = ([10, 0, 120], 0) := by kernel_rfl
theorem kn_owes : owesE ctrC [0, 0, 3] ctrA [(0, 9), (2, 100)] = ([0, 27, 20], 0) := by kernel_rfl
theorem lz0 : worthE ctrC [0, 0, 3] ctrA (2, 1, 1) = (10, 0) := by kernel_rfl
theorem jx6 : cheapE ctrC [0, 0, 3] ctrA 1 3 = ((1, 2, 3), 59, 0) := by kernel_rfl
theorem jx5 : cheapE ctrC [0, 0, 3] ctrA 1 1 = ((1, 1, 1), 36, 0) := by kernel_rfl
theorem kn_fill : fillE G3 1 = ([], 0, 0) := by kernel_rfl
theorem lz3 (a b k : Nat) (h : k < 3) : exactE G3 (rooms.getD k default) = (((answ a b).getD k default).l, 0) := by
  rcases (show k = 0 ∨ k = 1 ∨ k = 2 by omega) with rfl | rfl | rfl <;> kernel_rfl
theorem jx4 : exactE G3 1 = ([], 11) := by kernel_rfl
theorem jq9 : sheetsE 0 12 4 = (0, 0, 0) := by kernel_rfl
theorem jx3 (g1 g2 : Nat) : foundE shopsC (shopsH g1 g2) [5, 9, 4, 7, 6, 9] [1, 2] 0 = ([], 0, 11) := by kernel_rfl
theorem jx2 (g1 g2 : Nat) : foundE shopsC (shopsH g1 g2) [5, 9, 4, 7, 6, 9] [] 1 = ([], 0, 0) := by kernel_rfl
theorem jx1 (g1 g2 : Nat) : missE shopsC (shopsH g1 g2) [2, 3] 1 = ([0, 5], 0) := by kernel_rfl
theorem hj8 (g1 g2 : Nat) : missE shopsC (shopsH g1 g2) [1] 1 = ([], 8) := by kernel_rfl
theorem bj0 {A B : Option Addr} {ca cb : Nat} (l : List Int) (hl : l.length ≤ 9223372036854775806) : Meets Tryz.prog F.X1 [.slice A l.length ca, .slice B l.length cb] { LI := [Row A (rows l), Row B (rows l)], val := fun _ : Unit => .bool true } := by
  have h := X0 (A := A) (B := B) (ca := ca) (cb := cb) l l hl; rw [decide_eq_true rfl] at h; exact h
theorem ex_chk (x : Nat × Nat) : Meets Tryz.prog F.S5 [saV ctrC (ctrP x.1) (ctrQ x.2)] { LI := saL (ctrP x.1) (ctrQ x.2), val := fun _ : Unit => int 0 } := by
  have h := A4 ctrC (ctrP x.1) (ctrQ x.2) (show 3 ≤ 1000000 by decide) (show 3 ≤ 1000000 by decide); rw [show chkS ctrC (ctrP x.1).l (ctrQ x.2).l = 0 from lz4] at h; exact h
theorem ex_chk1 (x : Nat × Nat) : Meets Tryz.prog F.S5 [saV (10, 25, 5, 40, 51, 2) (ctrP x.1) (ctrQ x.2)] { LI := saL (ctrP x.1) (ctrQ x.2), val := fun _ : Unit => int 1 } := by
  have h := A4 (10, 25, 5, 40, 51, 2) (ctrP x.1) (ctrQ x.2) (show 3 ≤ 1000000 by decide) (show 3 ≤ 1000000 by decide); rw [show chkS (10, 25, 5, 40, 51, 2) (ctrP x.1).l (ctrQ x.2).l = 1 from kn_chk1] at h; exact h
theorem ex_chk2 (x : Nat × Nat) : Meets Tryz.prog F.S5 [saV ctrC ⟨some ⟨x.1, 0, none⟩, 3, [10, 0, 3]⟩ (ctrQ x.2)] { LI := saL ⟨some ⟨x.1, 0, none⟩, 3, [10, 0, 3]⟩ (ctrQ x.2), val := fun _ : Unit => int 1 } := by
  have h := A4 ctrC ⟨some ⟨x.1, 0, none⟩, 3, [10, 0, 3]⟩ (ctrQ x.2) (show 3 ≤ 1000000 by decide) (show 3 ≤ 1000000 by decide); rw [show chkS ctrC (⟨some ⟨x.1, 0, none⟩, 3, [10, 0, 3]⟩ : Sl Int).l (ctrQ x.2).l = 1 from kn_chk2] at h; exact h
theorem ex_chk3 (x : Nat × Nat) : Meets Tryz.prog F.S5 [saV ctrC (ctrP x.1) ⟨some ⟨x.2, 0, none⟩, 3, [(0, 1, 2), (1, 2, 2), (2, 3, 3)]⟩] { LI := saL (ctrP x.1) ⟨some ⟨x.2, 0, none⟩, 3, [(0, 1, 2), (1, 2, 2), (2, 3, 3)]⟩, val := fun _ : Unit => int 1 } := by
  have h := A4 ctrC (ctrP x.1) ⟨some ⟨x.2, 0, none⟩, 3, [(0, 1, 2), (1, 2, 2), (2, 3, 3)]⟩ (show 3 ≤ 1000000 by decide) (show 3 ≤ 1000000 by decide); rw [show chkS ctrC (ctrP x.1).l (⟨some ⟨x.2, 0, none⟩, 3, [(0, 1, 2), (1, 2, 2), (2, 3, 3)]⟩ : Sl Ad).l = 1 from kn_chk3] at h; exact h
theorem mq7 (x : Nat × Nat) (k : Nat) (hk : k < 3) : Meets Tryz.prog F.cG [saV ctrC (ctrP x.1) (ctrQ x.2), int k] { LI := saL (ctrP x.1) (ctrQ x.2), val := fun _ : Unit => .tuple #[int (prc.getD k default), int 0] } := by
  have h := iF ctrC (ctrP x.1) (ctrQ x.2) k (show 3 ≤ 1000000 by decide) (show 3 ≤ 1000000 by decide); rw [show priceE ctrC (ctrP x.1).l (ctrQ x.2).l k = (prc.getD k default, 0) from lz2 k hk] at h; exact h
theorem kj1 (x : Nat × Nat) : Meets Tryz.prog F.cG [saV ctrC (ctrP x.1) (ctrQ x.2), int 3] { LI := saL (ctrP x.1) (ctrQ x.2), val := fun _ : Unit => .tuple #[int 0, int 3] } := by
  have h := iF ctrC (ctrP x.1) (ctrQ x.2) 3 (show 3 ≤ 1000000 by decide) (show 3 ≤ 1000000 by decide); rw [show priceE ctrC (ctrP x.1).l (ctrQ x.2).l 3 = (0, 3) from jx0] at h; exact h
theorem mq6 (x : Nat × Nat) : Meets Tryz.prog F.jK [saV ctrC (ctrP x.1) (ctrQ x.2)] { LI := saL (ctrP x.1) (ctrQ x.2), inv := fun y : OutC => 3 ≤ y.2, val := fun y => .tuple #[.slice y.1 3 y.2, int 0], LO := fun y => [Row y.1 (rows ([1, 3, 0] : List Int))] } := by
  have h := uL ctrC (ctrP x.1) (ctrQ x.2) (show 3 ≤ 1000000 by decide) (show 3 ≤ 1000000 by decide); rw [show savedE ctrC (ctrP x.1).l (ctrQ x.2).l = ([1, 3, 0], 0) from lz1] at h; exact h
theorem hx3 (x : Nat × Nat) : Meets Tryz.prog F.aU [saV ctrC (ctrP x.1) (ctrQ x.2)] { LI := saL (ctrP x.1) (ctrQ x.2), inv := fun y : OutC => 1 ≤ y.2, val := fun y => .tuple #[.slice y.1 1 y.2, int 0], LO := fun y => [Row y.1 (rows ([0] : List Int))] } := by
  have h := rD ctrC (ctrP x.1) (ctrQ x.2) (show 3 ≤ 1000000 by decide) (show 3 ≤ 1000000 by decide); rw [show streetsE ctrC (ctrP x.1).l (ctrQ x.2).l = ([0], 0) from hj7] at h; exact h
theorem ex_some (x : Nat × Nat) : Meets Tryz.prog F.cI [saV ctrC (ctrP x.1) (someQ x.2)] { LI := saL (ctrP x.1) (someQ x.2), inv := fun y : OutC => 3 ≤ y.2, val := fun y => .tuple #[.slice y.1 3 y.2, int 0], LO := fun y => [Row y.1 (rows ([10, 0, 120] : List Int))] } := by
  have h := iJ ctrC (ctrP x.1) (someQ x.2) (show 3 ≤ 1000000 by decide) (show 2 ≤ 1000000 by decide); rw [show billsE ctrC (ctrP x.1).l (someQ x.2).l = ([10, 0, 120], 0) from lz5] at h; exact h
theorem ex_owes (x : Nat × Nat) (g : Nat) : Meets Tryz.prog F.nF [saV ctrC (ctrP x.1) (ctrQ x.2), .slice (b4 g) 2 2] { LI := Row (b4 g) (rows ([(0, 9), (2, 100)] : List Cd)) :: saL (ctrP x.1) (ctrQ x.2), inv := fun y : OutC => 3 ≤ y.2, val := fun y => .tuple #[.slice y.1 3 y.2, int 0], LO := fun y => [Row y.1 (rows ([0, 27, 20] : List Int))] } := by
  have h := wE (R := some ⟨g, 0, none⟩) (rc := 2) ctrC (ctrP x.1) (ctrQ x.2) [(0, 9), (2, 100)] (show 3 ≤ 1000000 by decide) (show 3 ≤ 1000000 by decide) (show 2 ≤ 1000000 by decide); rw [show owesE ctrC (ctrP x.1).l (ctrQ x.2).l [(0, 9), (2, 100)] = ([0, 27, 20], 0) from kn_owes] at h; exact h
theorem jz9 (x : Nat × Nat) : Meets Tryz.prog F.cF [saV ctrC (ctrP x.1) (ctrQ x.2), adV (2, 1, 1)] { LI := saL (ctrP x.1) (ctrQ x.2), val := fun _ : Unit => .tuple #[int 10, int 0] } := by
  have h := iE ctrC (ctrP x.1) (ctrQ x.2) (2, 1, 1) (show 3 ≤ 1000000 by decide) (show 3 ≤ 1000000 by decide) (Nat.le_refl 3); rw [show worthE ctrC (ctrP x.1).l (ctrQ x.2).l (2, 1, 1) = (10, 0) from lz0] at h; exact h
theorem kj7 (x : Nat × Nat) : Meets Tryz.prog F.R3 [saV ctrC (ctrP x.1) (ctrQ x.2), int 1, int 3] { LI := saL (ctrP x.1) (ctrQ x.2), val := fun _ : Unit => .tuple #[adV (1, 2, 3), int 59, int 0] } := by
  have h := aQ ctrC (ctrP x.1) (ctrQ x.2) 1 3 (show 3 ≤ 1000000 by decide) (show 3 ≤ 1000000 by decide) (Nat.le_refl 3); rw [show cheapE ctrC (ctrP x.1).l (ctrQ x.2).l 1 3 = ((1, 2, 3), 59, 0) from jx6] at h; exact h
theorem kj6 (x : Nat × Nat) : Meets Tryz.prog F.R3 [saV ctrC (ctrP x.1) (ctrQ x.2), int 1, int 1] { LI := saL (ctrP x.1) (ctrQ x.2), val := fun _ : Unit => .tuple #[adV (1, 1, 1), int 36, int 0] } := by
  have h := aQ ctrC (ctrP x.1) (ctrQ x.2) 1 1 (show 3 ≤ 1000000 by decide) (show 3 ≤ 1000000 by decide) (Nat.le_refl 3); rw [show cheapE ctrC (ctrP x.1).l (ctrQ x.2).l 1 1 = ((1, 1, 1), 36, 0) from jx5] at h; exact h
theorem mx0 (g : Nat) : Meets Tryz.prog F.iG [.slice (b4 g) 3 3, int 1] { LI := [Row (b4 g) (rows G3)], val := fun y : OutC => .tuple #[.slice y.1 0 y.2, int 0, int 0], LO := fun y => [Row y.1 (rows ([] : List Int))] } := by
  have h := kB (A := some ⟨g, 0, none⟩) (ca := 3) G3 1 (by decide); rw [kn_fill] at h; exact h
theorem mx1 (g a b k : Nat) (hk : k < 3) : Meets Tryz.prog F.cH [.slice (b4 g) 3 3, int (rooms.getD k default)] { LI := [Row (b4 g) (rows G3)], val := fun y : OutC => .tuple #[.slice y.1 ((answ a b).getD k default).l.length y.2, int 0], LO := fun y => [Row y.1 (rows ((answ a b).getD k default).l)] } := by
  have h := iH (A := some ⟨g, 0, none⟩) (ca := 3) G3 (rooms.getD k default) (by decide); rw [lz3 a b k hk] at h; exact h
theorem kj5 (g : Nat) : Meets Tryz.prog F.cH [.slice (b4 g) 3 3, int 1] { LI := [Row (b4 g) (rows G3)], val := fun y : OutC => .tuple #[.slice y.1 0 y.2, int 11], LO := fun y => [Row y.1 (rows ([] : List Int))] } := by
  have h := iH (A := some ⟨g, 0, none⟩) (ca := 3) G3 1 (by decide); rw [jx4] at h; exact h
theorem hx4 : Meets Tryz.prog F.Z6 [int 0, int 12, int 4] { val := fun _ : Unit => .tuple #[int 0, int 0, int 0] } := by
  have h := dA 0 12 4; rw [jq9] at h; exact h
theorem kj4 (x : Nat × Nat × Nat × Nat) (g h : Nat) : Meets Tryz.prog F.X9 [.agg #[.slice (some ⟨x.1, 0, none⟩) 4 4, .slice (some ⟨x.2.1, 0, none⟩) 6 6], .slice (b4 g) 6 6, .slice (b4 h) 2 2, int 0] { LI := [Row (some ⟨x.1, 0, none⟩) (rows shopsC), RowsF (some ⟨x.2.1, 0, none⟩) (shopsH x.2.2.1 x.2.2.2) Hd.row, Row (b4 g) (rows ([5, 9, 4, 7, 6, 9] : List Int)), Row (b4 h) (rows ([1, 2] : List Int))], val := fun y : OutC => .tuple #[.slice y.1 0 y.2, int 0, int 11], LO := fun y => [Row y.1 (rows ([] : List Int))] } := by
  have h := X8 (A := some ⟨x.1, 0, none⟩) (B := some ⟨x.2.1, 0, none⟩) (PA := some ⟨g, 0, none⟩) (WA := some ⟨h, 0, none⟩) (ca := 4) (cb := 6) (pc := 6) (wc := 2) shopsC (shopsH x.2.2.1 x.2.2.2) [5, 9, 4, 7, 6, 9] [1, 2] 0 (by decide) (Nat.le_refl 6) (by intro h hh; simp only [shopsH, List.mem_cons, List.not_mem_nil, or_false] at hh; rcases hh with rfl | rfl | rfl | rfl | rfl | rfl <;> first | decide | exact (show 1 ≤ 1000000 by decide)) (by decide) (by decide); rw [jx3] at h; exact h
theorem kj3 (x : Nat × Nat × Nat × Nat) (g : Nat) : Meets Tryz.prog F.X9 [.agg #[.slice (some ⟨x.1, 0, none⟩) 4 4, .slice (some ⟨x.2.1, 0, none⟩) 6 6], .slice (b4 g) 6 6, .slice none 0 0, int 1] { LI := [Row (some ⟨x.1, 0, none⟩) (rows shopsC), RowsF (some ⟨x.2.1, 0, none⟩) (shopsH x.2.2.1 x.2.2.2) Hd.row, Row (b4 g) (rows ([5, 9, 4, 7, 6, 9] : List Int)), Row none (rows ([] : List Int))], val := fun y : OutC => .tuple #[.slice y.1 0 y.2, int 0, int 0], LO := fun y => [Row y.1 (rows ([] : List Int))] } := by
  have h := X8 (A := some ⟨x.1, 0, none⟩) (B := some ⟨x.2.1, 0, none⟩) (PA := some ⟨g, 0, none⟩) (WA := none) (ca := 4) (cb := 6) (pc := 6) (wc := 0) shopsC (shopsH x.2.2.1 x.2.2.2) [5, 9, 4, 7, 6, 9] [] 1 (by decide) (Nat.le_refl 6) (by intro h hh; simp only [shopsH, List.mem_cons, List.not_mem_nil, or_false] at hh; rcases hh with rfl | rfl | rfl | rfl | rfl | rfl <;> first | decide | exact (show 1 ≤ 1000000 by decide)) (by decide) (by decide); rw [jx2] at h; exact h
theorem kj2 (x : Nat × Nat × Nat × Nat) (g : Nat) : Meets Tryz.prog F.Z7 [.agg #[.slice (some ⟨x.1, 0, none⟩) 4 4, .slice (some ⟨x.2.1, 0, none⟩) 6 6], .slice (b4 g) 2 2, int 1] { LI := [Row (some ⟨x.1, 0, none⟩) (rows shopsC), RowsF (some ⟨x.2.1, 0, none⟩) (shopsH x.2.2.1 x.2.2.2) Hd.row, Row (b4 g) (rows ([2, 3] : List Int))], inv := fun y : OutC => 2 ≤ y.2, val := fun y => .tuple #[.slice y.1 2 y.2, int 0], LO := fun y => [Row y.1 (rows ([0, 5] : List Int))] } := by
  have h := dB (A := some ⟨x.1, 0, none⟩) (B := some ⟨x.2.1, 0, none⟩) (S := some ⟨g, 0, none⟩) (ca := 4) (cb := 6) (sc := 2) shopsC (shopsH x.2.2.1 x.2.2.2) [2, 3] 1 (by decide) (Nat.le_refl 6) (by intro h hh; simp only [shopsH, List.mem_cons, List.not_mem_nil, or_false] at hh; rcases hh with rfl | rfl | rfl | rfl | rfl | rfl <;> first | decide | exact (show 1 ≤ 1000000 by decide)) (by decide); rw [jx1] at h; exact h
theorem hx5 (x : Nat × Nat × Nat × Nat) (g : Nat) : Meets Tryz.prog F.Z7 [.agg #[.slice (some ⟨x.1, 0, none⟩) 4 4, .slice (some ⟨x.2.1, 0, none⟩) 6 6], .slice (b4 g) 1 1, int 1] { LI := [Row (some ⟨x.1, 0, none⟩) (rows shopsC), RowsF (some ⟨x.2.1, 0, none⟩) (shopsH x.2.2.1 x.2.2.2) Hd.row, Row (b4 g) (rows ([1] : List Int))], inv := fun y : OutC => 0 ≤ y.2, val := fun y => .tuple #[.slice y.1 0 y.2, int 8], LO := fun y => [Row y.1 (rows ([] : List Int))] } := by
  have h := dB (A := some ⟨x.1, 0, none⟩) (B := some ⟨x.2.1, 0, none⟩) (S := some ⟨g, 0, none⟩) (ca := 4) (cb := 6) (sc := 1) shopsC (shopsH x.2.2.1 x.2.2.2) [1] 1 (by decide) (Nat.le_refl 6) (by intro h hh; simp only [shopsH, List.mem_cons, List.not_mem_nil, or_false] at hh; rcases hh with rfl | rfl | rfl | rfl | rfl | rfl <;> first | decide | exact (show 1 ≤ 1000000 by decide)) (by decide); rw [hj8] at h; exact h
theorem mq4 (x : Nat × Nat) : Meets Tryz.prog F.jJ [saV ctrC (ctrP x.1) (ctrQ x.2)] { LI := saL (ctrP x.1) (ctrQ x.2), val := fun _ : Unit => .tuple #[str wrS, int 0] } := by
  have h := uK ctrC (ctrP x.1) (ctrQ x.2) (show 3 ≤ 1000000 by decide) (show 3 ≤ 1000000 by decide) lz4 (by decide) (by decide) (by decide) (by decide) (by decide) (by decide) (show ∀ s ∈ ([0, 0, 3] : List Int), 0 ≤ s ∧ s < 100 by decide) (show ∀ x ∈ ctrA, (0 ≤ x.1 ∧ x.1 < 100) ∧ (0 ≤ x.2.2 ∧ x.2.2 < 100) by decide); rw [show wrE ctrC (ctrP x.1).l (ctrQ x.2).l = wrS from lx9] at h; exact h
end Go.Proofs.YtmpfpfbcejfijaaGreatDoor
end
section
namespace Go.Proofs.YtmpfpfbcejfijaaGreatDoor
open Go Go.W
set_option maxRecDepth 20000
attribute [local irreducible] HL HC HQ HB Row Rows2 Blk Facts
theorem kn_len (a b k : Nat) (h : k < 3) : ((answ a b).getD k default).l.length ≤ 9223372036854775806 := by
  rcases (show k = 0 ∨ k = 1 ∨ k = 2 by omega) with rfl | rfl | rfl
  · exact (show 1 ≤ 9223372036854775806 by decide)
  · exact (show 2 ≤ 9223372036854775806 by decide)
  exact (show 0 ≤ 9223372036854775806 by decide)
theorem vH : Meets Tryz.prog F.Y5 [] { val := fun x : Nat × Nat => saV ctrC (ctrP x.1) (ctrQ x.2), hpO := fun x => [(x.2, Obj.cells (rows ctrA).toArray T.v6 (0, 0)), (x.1, Obj.cells (rows ([0, 0, 3] : List Int)).toArray T.int (0, 0))] } := by
 refine j8 F.jS rfl t4 fun w0 => ?_; refine j3 ?_; refine z1 rfl (fun _ => T.K3 _) fun g0 => ?_; refine k9 ?_; refine u7 _ rfl rfl (fun _ => T.P0 ..) ?_; refine m6 _ rfl rfl (fun _ => T.M9 ..) fun gp => ?_; refine u7 _ rfl rfl (fun _ => T.z3 ..) (u7 _ rfl rfl (fun _ => T.z3 ..) (u7 _ rfl rfl (fun _ => T.z3 ..) ?_)); refine m6 _ rfl rfl (fun _ => T.cV ..) fun gq => ?_; refine u7 _ rfl rfl (fun _ => T.cJ ..) ?_; refine u3 rfl rfl (by first | exact .refl _ | exact perm2 _ _ _ | exact perm3 _ _ _ _ | exact perm4 _ _ _ _ _) T.j4 (by rfl) (by rfl) ?_; refine d9 (l7 ?_); exact rV (gp, gq) rfl rfl T.j5 T.j4 rfl m0 rfl rfl trivial (.cons _ (.refl _)) trivial
set_option maxHeartbeats 2000000 in
theorem kM : Meets Tryz.prog F.jT [] { val := fun _ : Unit => .bool true } := by
 refine j8 F.sJ rfl t4 fun w0 => ?_; refine j3 (b9 rfl (k9 ?_)); refine i9 F.w5 rfl rfl (v7) l5 trivial fun x1 _ => ?_; refine i9 F.w5 rfl rfl (vH) l5 trivial fun x2 _ => ?_; refine t8 (rows ctrA) (List.prefix_refl _) ?_; refine i9 F.w5 rfl rfl (vH) l5 trivial fun x3 _ => ?_; refine hl_perm (hp' := [(x3.1, Obj.cells (rows ([0, 0, 3] : List Int)).toArray T.int (0, 0)), (x3.2, Obj.cells (rows (ctrA : List Ad)).toArray T.v6 (0, 0)), (x2.1, Obj.cells (rows ([0, 0, 3] : List Int)).toArray T.int (0, 0))]) (.swap _ _ _) (t8 (rows ([0, 0, 3] : List Int)) (List.prefix_refl _) ?_); refine z1 rfl (fun _ => T.K3 _) fun g1 => ?_; refine z1 rfl (fun _ => T.K3 _) fun g2 => ?_; refine z1 rfl (fun _ => T.K3 _) fun g3 => ?_; refine u3 (cs := saC ctrC (ctrP x1.1) (ctrQ x1.2)) (hp' := [(g3, Obj.cells #[int 0, int 0, int 0, int 0, int 0, int 0, .slice none 0 0, .slice none 0 0] T.m8 (0, 0)), (g2, Obj.cells #[int 0, int 0, int 0, int 0, int 0, int 0, .slice none 0 0, .slice none 0 0] T.m8 (0, 0)), (x3.2, Obj.cells (rows (ctrA : List Ad)).toArray T.v6 (0, 0)), (x2.1, Obj.cells (rows ([0, 0, 3] : List Int)).toArray T.int (0, 0))]) rfl rfl (show List.Perm ([(g3, Obj.cells #[int 0, int 0, int 0, int 0, int 0, int 0, .slice none 0 0, .slice none 0 0] T.m8 (0, 0)), (g2, Obj.cells #[int 0, int 0, int 0, int 0, int 0, int 0, .slice none 0 0, .slice none 0 0] T.m8 (0, 0)), (g1, Obj.cells #[int 0, int 0, int 0, int 0, int 0, int 0, .slice none 0 0, .slice none 0 0] T.m8 (0, 0)), (x3.2, Obj.cells (rows (ctrA : List Ad)).toArray T.v6 (0, 0)), (x2.1, Obj.cells (rows ([0, 0, 3] : List Int)).toArray T.int (0, 0))]) ([(g1, Obj.cells #[int 0, int 0, int 0, int 0, int 0, int 0, .slice none 0 0, .slice none 0 0] T.m8 (0, 0)), (g3, Obj.cells #[int 0, int 0, int 0, int 0, int 0, int 0, .slice none 0 0, .slice none 0 0] T.m8 (0, 0)), (g2, Obj.cells #[int 0, int 0, int 0, int 0, int 0, int 0, .slice none 0 0, .slice none 0 0] T.m8 (0, 0)), (x3.2, Obj.cells (rows (ctrA : List Ad)).toArray T.v6 (0, 0)), (x2.1, Obj.cells (rows ([0, 0, 3] : List Int)).toArray T.int (0, 0))]) from (U7 fun p => by simp only [List.countP_append, List.countP_cons, List.countP_nil]; omega)) T.j4 (by rfl) (by rfl) ?_; refine u3 (cs := saC ctrC (ctrP x2.1) (ctrQ x2.2)) (hp' := [(g1, Obj.cells (saC ctrC (ctrP x1.1) (ctrQ x1.2)) T.m8 (0, 0)), (g3, Obj.cells #[int 0, int 0, int 0, int 0, int 0, int 0, .slice none 0 0, .slice none 0 0] T.m8 (0, 0)), (x3.2, Obj.cells (rows (ctrA : List Ad)).toArray T.v6 (0, 0)), (x2.1, Obj.cells (rows ([0, 0, 3] : List Int)).toArray T.int (0, 0))]) rfl rfl (show List.Perm ([(g1, Obj.cells (saC ctrC (ctrP x1.1) (ctrQ x1.2)) T.m8 (0, 0)), (g3, Obj.cells #[int 0, int 0, int 0, int 0, int 0, int 0, .slice none 0 0, .slice none 0 0] T.m8 (0, 0)), (g2, Obj.cells #[int 0, int 0, int 0, int 0, int 0, int 0, .slice none 0 0, .slice none 0 0] T.m8 (0, 0)), (x3.2, Obj.cells (rows (ctrA : List Ad)).toArray T.v6 (0, 0)), (x2.1, Obj.cells (rows ([0, 0, 3] : List Int)).toArray T.int (0, 0))]) ([(g2, Obj.cells #[int 0, int 0, int 0, int 0, int 0, int 0, .slice none 0 0, .slice none 0 0] T.m8 (0, 0)), (g1, Obj.cells (saC ctrC (ctrP x1.1) (ctrQ x1.2)) T.m8 (0, 0)), (g3, Obj.cells #[int 0, int 0, int 0, int 0, int 0, int 0, .slice none 0 0, .slice none 0 0] T.m8 (0, 0)), (x3.2, Obj.cells (rows (ctrA : List Ad)).toArray T.v6 (0, 0)), (x2.1, Obj.cells (rows ([0, 0, 3] : List Int)).toArray T.int (0, 0))]) from (U7 fun p => by simp only [List.countP_append, List.countP_cons, List.countP_nil]; omega)) T.j4 (by rfl) (by rfl) ?_; refine u3 (cs := saC ctrC (ctrP x3.1) (ctrQ x3.2)) (hp' := [(g2, Obj.cells (saC ctrC (ctrP x2.1) (ctrQ x2.2)) T.m8 (0, 0)), (g1, Obj.cells (saC ctrC (ctrP x1.1) (ctrQ x1.2)) T.m8 (0, 0)), (x3.2, Obj.cells (rows (ctrA : List Ad)).toArray T.v6 (0, 0)), (x2.1, Obj.cells (rows ([0, 0, 3] : List Int)).toArray T.int (0, 0))]) rfl rfl (show List.Perm ([(g2, Obj.cells (saC ctrC (ctrP x2.1) (ctrQ x2.2)) T.m8 (0, 0)), (g1, Obj.cells (saC ctrC (ctrP x1.1) (ctrQ x1.2)) T.m8 (0, 0)), (g3, Obj.cells #[int 0, int 0, int 0, int 0, int 0, int 0, .slice none 0 0, .slice none 0 0] T.m8 (0, 0)), (x3.2, Obj.cells (rows (ctrA : List Ad)).toArray T.v6 (0, 0)), (x2.1, Obj.cells (rows ([0, 0, 3] : List Int)).toArray T.int (0, 0))]) ([(g3, Obj.cells #[int 0, int 0, int 0, int 0, int 0, int 0, .slice none 0 0, .slice none 0 0] T.m8 (0, 0)), (g2, Obj.cells (saC ctrC (ctrP x2.1) (ctrQ x2.2)) T.m8 (0, 0)), (g1, Obj.cells (saC ctrC (ctrP x1.1) (ctrQ x1.2)) T.m8 (0, 0)), (x3.2, Obj.cells (rows (ctrA : List Ad)).toArray T.v6 (0, 0)), (x2.1, Obj.cells (rows ([0, 0, 3] : List Int)).toArray T.int (0, 0))]) from (U7 fun p => by simp only [List.countP_append, List.countP_cons, List.countP_nil]; omega)) T.j4 (by rfl) (by rfl) ?_; refine d9 (j6 (X3 (X3 ?_))); refine R0 ([(g1, Obj.cells (saC ctrC (ctrP x1.1) (ctrQ x1.2)) T.m8 (0, 0)), (x2.1, Obj.cells (rows ([0, 0, 3] : List Int)).toArray T.int (0, 0))]) ([(x3.2, Obj.cells (rows (ctrA : List Ad)).toArray T.v6 (0, 0))]) (.cons _ (.swap _ _ _)) 9 [8, 6] mixed (by decide) (by decide) (by decide) rfl rfl rfl ?_
 apply n0 _ rfl rfl rfl
 ·intro w1
  first | refine a7 ⟨_, 6, none⟩ rfl rfl T.t9 rfl ?_ | refine a7 _ rfl rfl T.t9 rfl ?_
  refine d6 ?_; exact k6 rfl
 apply n0 _ rfl rfl rfl
 ·intro w1
  first | refine a8 rfl T.d5 rfl (i8 mB rfl) ?_ | refine a8 rfl T.d5 rfl (j0 mB rfl) ?_ | refine a8 rfl T.d5 rfl (d8 mB (d4 (by omega) rfl)) ?_ | refine a8 rfl T.d5 rfl (d7 mB (rows_get (by omega) rfl)) ?_ | refine a8 rfl T.d5 rfl (g4 mB rfl) ?_
  refine d6 ?_; exact k6 rfl
 apply n0 _ rfl rfl rfl
 ·intro w1
  first | refine a7 ⟨_, 7, none⟩ rfl rfl T.p9 rfl ?_ | refine a7 _ rfl rfl T.p9 rfl ?_
  refine d6 ?_; exact k6 rfl
 apply n0 _ rfl rfl rfl
 ·intro w1
  first | refine a8 rfl T.i7 rfl (i8 mB rfl) ?_ | refine a8 rfl T.i7 rfl (j0 mB rfl) ?_ | refine a8 rfl T.i7 rfl (d8 mB (d4 (by omega) rfl)) ?_ | refine a8 rfl T.i7 rfl (d7 mB (rows_get (by omega) rfl)) ?_ | refine a8 rfl T.i7 rfl (g4 mB rfl) ?_
  refine d6 ?_; exact k6 rfl
 apply n0 _ rfl rfl rfl
 ·intro w1
  first | refine a7 ⟨_, 0, none⟩ rfl rfl T.A9 rfl ?_ | refine a7 _ rfl rfl T.A9 rfl ?_
  refine d6 ?_; exact k6 rfl
 apply n0 _ rfl rfl rfl
 ·intro w1
  first | refine a7 ⟨_, 4, none⟩ rfl rfl T.G4 rfl ?_ | refine a7 _ rfl rfl T.G4 rfl ?_
  refine d6 ?_; exact k6 rfl
 refine mj8 ⟨Unit, fun _ => True, fun _ => undef, fun _ => [], fun _ => [(g1, Obj.cells (saC (10, 25, 5, 40, 51, 2) (ctrP x1.1) (ctrQ x1.2)) T.m8 (0, 0)), (x2.1, Obj.cells (rows ([0, 0, 3] : List Int)).toArray T.int (0, 0))]⟩ rfl rfl ?_ ?_
 ·intro w1; refine D7 rfl rfl (.refl _) T.v0 (by rfl) (by rfl) ?_; refine d6 ?_; exact Y4 () trivial (fun h => by cases h) (List.Sublist.refl _) trivial
 refine s7 (fun w1 => w7 0 0 rfl T.q9 T.v0 rfl rfl rfl (show 0 < 3 by decide) rfl (q_z rfl)) ?_; refine mj8 ⟨Unit, fun _ => True, fun _ => undef, fun _ => [], fun _ => [(x2.1, Obj.cells (rows ([10, 0, 3] : List Int)).toArray T.int (0, 0)), (g1, Obj.cells (saC (10, 25, 5, 40, 51, 2) (ctrP x1.1) (ctrQ x1.2)) T.m8 (0, 0))]⟩ rfl rfl ?_ ?_
 ·intro _ _; intro w1; refine D7 (hp' := [(g1, Obj.cells (saC (10, 25, 5, 40, 51, 2) (ctrP x1.1) (ctrQ x1.2)) T.m8 (0, 0))]) rfl rfl (show List.Perm ([(g1, Obj.cells (saC (10, 25, 5, 40, 51, 2) (ctrP x1.1) (ctrQ x1.2)) T.m8 (0, 0)), (x2.1, Obj.cells (rows ([0, 0, 3] : List Int)).toArray T.int (0, 0))]) ([(x2.1, Obj.cells (rows ([0, 0, 3] : List Int)).toArray T.int (0, 0)), (g1, Obj.cells (saC (10, 25, 5, 40, 51, 2) (ctrP x1.1) (ctrQ x1.2)) T.m8 (0, 0))]) from (U7 fun p => by simp only [List.countP_append, List.countP_cons, List.countP_nil]; omega)) T.v0 (by rfl) (by rfl) ?_; refine d6 ?_; exact Y4 () trivial (fun h => by cases h) (List.Sublist.refl _) trivial
 refine D4 ⟨rfl, ?_⟩; intro _ _; refine w7 0 0 rfl T.v9 T.j7 rfl rfl rfl (show 0 < 3 by decide) rfl ?_
 first | refine a7 ⟨_, 2, none⟩ rfl rfl T.C7 rfl ?_ | refine a7 _ rfl rfl T.C7 rfl ?_
 refine D7 (hp' := [(x2.1, Obj.cells (rows ([10, 0, 3] : List Int)).toArray T.int (0, 0)), (g1, Obj.cells (saC (10, 25, 5, 40, 51, 2) (ctrP x1.1) (ctrQ x1.2)) T.m8 (0, 0))]) rfl rfl (show List.Perm ([(x2.1, Obj.cells (rows ([10, 0, 3] : List Int)).toArray T.int (0, 0)), (g1, Obj.cells (saC (10, 25, 5, 40, 51, 2) (ctrP x1.1) (ctrQ x1.2)) T.m8 (0, 0)), (x3.2, Obj.cells (rows (ctrA : List Ad)).toArray T.v6 (0, 0))]) ([(x3.2, Obj.cells (rows (ctrA : List Ad)).toArray T.v6 (0, 0)), (x2.1, Obj.cells (rows ([10, 0, 3] : List Int)).toArray T.int (0, 0)), (g1, Obj.cells (saC (10, 25, 5, 40, 51, 2) (ctrP x1.1) (ctrQ x1.2)) T.m8 (0, 0))]) from (U7 fun p => by simp only [List.countP_append, List.countP_cons, List.countP_nil]; omega)) T.v0 (by rfl) (by rfl) ?_; refine d9 (hq4 ?_); refine lX (rows ([(0, 1, 2), (1, 2, 2), (2, 3, 3)] : List Ad)) (List.prefix_refl _) (lX (rows ([10, 0, 3] : List Int)) (List.prefix_refl _) ?_); refine X3 (k8 ?_); refine i9 F.vT rfl rfl (qJ) l5 trivial fun _ _ => ?_; refine D5 rfl rfl (b8 rfl ?_); refine r5 rfl rfl ?_ ?_
 ·intro hg1; have hg1' := hg1; try simp at hg1'
  refine k5 rfl rfl hg1 ?_; refine i9 F.w5 rfl rfl (v7) l5 trivial fun c0 _ => ?_; refine k5 rfl rfl hg1 ?_; refine i9 F.C9 rfl rfl (ex_chk c0) l5 mC fun _ _ => ?_; refine k5 rfl rfl hg1 (C1 rfl rfl rfl ?_); refine p_f rfl rfl (bf1 hg1) rfl (b8 rfl ?_); refine r5 rfl rfl ?_ ?_
  ·intro hg2; have hg2' := hg2; try simp at hg2'
   refine k5 rfl rfl hg2 ?_
   first | refine u1 rfl T.j5 T.j4 rfl mB (by rfl) ?_ | refine t7 rfl T.j5 T.j4 rfl mB (by rfl) ?_ | refine r8 rfl T.j5 T.j4 rfl rfl (m9 mB (q8 (by omega))) ?_
   refine k5 rfl rfl hg2 ?_; refine i9 F.C9 rfl rfl (ex_chk1 x1) l5 mC fun _ _ => ?_; refine k5 rfl rfl hg2 (C1 rfl rfl rfl ?_); refine p_f rfl rfl (bf1 hg2) rfl (b8 rfl ?_); refine r5 rfl rfl ?_ ?_
   ·intro hg3; have hg3' := hg3; try simp at hg3'
    refine k5 rfl rfl hg3 ?_
    first | refine u1 rfl T.j5 T.j4 rfl mB (by rfl) ?_ | refine t7 rfl T.j5 T.j4 rfl mB (by rfl) ?_ | refine r8 rfl T.j5 T.j4 rfl rfl (m9 mB (q8 (by omega))) ?_
    refine k5 rfl rfl hg3 ?_; refine i9 F.C9 rfl rfl (ex_chk2 x2) l5 mC fun _ _ => ?_; refine k5 rfl rfl hg3 (C1 rfl rfl rfl ?_); refine p_f rfl rfl (bf1 hg3) rfl (b8 rfl ?_); refine r5 rfl rfl ?_ ?_
    ·intro hg4; have hg4' := hg4; try simp at hg4'
     refine k5 rfl rfl hg4 ?_
     first | refine u1 rfl T.j5 T.j4 rfl mB (by rfl) ?_ | refine t7 rfl T.j5 T.j4 rfl mB (by rfl) ?_ | refine r8 rfl T.j5 T.j4 rfl rfl (m9 mB (q8 (by omega))) ?_
     refine k5 rfl rfl hg4 ?_; refine i9 F.C9 rfl rfl (ex_chk3 x3) l5 mC fun _ _ => ?_; refine k5 rfl rfl hg4 (C1 rfl rfl rfl ?_); refine p_f rfl rfl (bf1 hg4) rfl ?_; refine d9 ?_
     first | refine m7 rfl (fun hb1 => ?_) (fun hb1 => ?_) | refine k4 rfl (fun hb1 => ?_) (fun hb1 => ?_)
     ·have hb1' := hb1; try simp at hb1'
     have hb1' := hb1; try simp at hb1'
     refine k7 (j9 (j3 ?_)); refine m6 _ rfl rfl (fun _ => T.M9 ..) fun g5 => ?_; refine t8 (rows prc) (List.prefix_refl _) ?_; refine b9 rfl (d9 (j6 (j3 (b9 rfl (d9 (l4 ?_)))))); refine v8 (β := Nat) ⟨fun k => k ≤ 3, fun k => [(4, .slice (b4 g5) 3 3), (5, int k)], fun _ => [], fun _ => [Row (b4 g5) (rows prc)]⟩ (fun k => 3 - k) 0 (Nat.zero_le _) mC nil_sb mC fun k hk => ?_; simp only at hk; refine j6 (j3 (b8 rfl (A7 rfl rfl rfl (d9 ?_))))
     first | refine m7 rfl (fun hb2 => ?_) (fun hb2 => ?_) | refine k4 rfl (fun hb2 => ?_) (fun hb2 => ?_)
     ·have hb2' := hb2; try simp at hb2'
      have hk2 : k < 3 := by omega
      refine k7 (j9 (j6 (l4 (j3 ?_)))); refine i9 F.w5 rfl rfl (v7) l5 trivial fun c1 _ => ?_; refine b8 rfl ?_; refine i9 F.pF rfl rfl (mq7 c1 k hk2) l5 mC fun _ _ => ?_; refine b8 rfl (l6 rfl rfl rfl (l6 rfl rfl rfl (b9 rfl (b9 rfl (k9 (b8 rfl (C1 rfl rfl rfl (b8 rfl ?_)))))))); refine r5 rfl rfl ?_ ?_
      ·intro hg5; have hg5' := hg5; try simp at hg5'
       refine k5 rfl rfl hg5 (b8 rfl (k5 rfl rfl hg5 (b8 rfl (k5 rfl rfl hg5 (b8 rfl (k5 rfl rfl hg5 ?_)))))); refine w3 (α := Int) prc k rfl T.q9 T.v0 rfl rfl rfl mB rfl hk2 (by decide) (k5 rfl rfl hg5 (a8 (v := int (prc.getD k default)) rfl T.a9 rfl (d8 mB (d4 (show k < prc.length from hk2) rfl)) ?_)); refine k5 rfl rfl hg5 (C1 rfl rfl rfl ?_); refine p_f rfl rfl (bf1 hg5) rfl ?_; refine d9 ?_
       first | refine m7 rfl (fun hb3 => ?_) (fun hb3 => ?_) | refine k4 rfl (fun hb3 => ?_) (fun hb3 => ?_)
       ·have hb3' := hb3; try simp at hb3'
       have hb3' := hb3; try simp at hb3'
       refine k7 (z2 (j9 (k8 (b8 rfl ?_)))); refine y2 _ rfl rfl rfl rfl s9 ?_; refine b9 rfl (d6 ?_); exact again _ (k + 1) (by show k + 1 ≤ 3; omega) (A5 (by omega)) mC nil_sb mC
      intro hg5; have hg5' := hg5; try simp at hg5'
     have hb2' := hb2; try simp at hb2'
     refine v5 (C3 (u9 (j9 (j3 ?_)))); refine i9 F.w5 rfl rfl (v7) l5 trivial fun c2 _ => ?_; refine i9 F.pF rfl rfl (kj1 c2) l5 mC fun _ _ => ?_; refine b8 rfl (l6 rfl rfl rfl (l6 rfl rfl rfl (b9 rfl (b9 rfl (k9 ?_))))); refine i9 F.w5 rfl rfl (v7) l5 trivial fun c3 _ => ?_; refine i9 F.aj1 rfl rfl (mq6 c3) l5 mC fun y3 _ => ?_; refine b8 rfl (l6 rfl rfl rfl (l6 rfl rfl rfl (b9 rfl (b9 rfl (k9 ?_))))); refine i9 F.w5 rfl rfl (v7) l5 trivial fun c4 _ => ?_; refine i9 F.wC rfl rfl (hx3 c4) l5 mC fun y4 _ => ?_; refine b8 rfl (l6 rfl rfl rfl (l6 rfl rfl rfl (b9 rfl (b9 rfl (k9 ?_))))); refine i9 F.pC rfl rfl (gW) l5 trivial fun c5 _ => ?_; refine i9 F.pH rfl rfl (ex_some c5) l5 mC fun y5 _ => ?_; refine b8 rfl (l6 rfl rfl rfl (l6 rfl rfl rfl (b9 rfl (b9 rfl (k9 ?_))))); refine i9 F.w5 rfl rfl (v7) l5 trivial fun c6 _ => ?_; refine u7 _ rfl rfl (fun _ => T.cK ..) (u7 _ rfl rfl (fun _ => T.cK ..) ?_); refine m6 _ rfl rfl (fun _ => T.qT ..) fun g6 => ?_; refine t8 (rows ([(0, 9), (2, 100)] : List Cd)) (List.prefix_refl _) ?_; refine i9 F.cx6 rfl rfl (ex_owes c6 g6) l5 mC fun y6 _ => ?_; refine b8 rfl (l6 rfl rfl rfl (l6 rfl rfl rfl (b9 rfl (b9 rfl (d9 (j6 (j3 (b8 rfl (C1 rfl rfl rfl ?_))))))))); refine b8 rfl ?_; refine r5 rfl rfl ?_ ?_
     ·intro hg6; have hg6' := hg6; try simp at hg6'
      refine k5 rfl rfl hg6 (b8 rfl (k5 rfl rfl hg6 (C1 rfl rfl rfl ?_))); refine p_f rfl rfl (bf1 hg6) rfl (b8 rfl ?_); refine r5 rfl rfl ?_ ?_
      ·intro hg7; have hg7' := hg7; try simp at hg7'
       refine k5 rfl rfl hg7 (b8 rfl (k5 rfl rfl hg7 (C1 rfl rfl rfl ?_))); refine p_f rfl rfl (bf1 hg7) rfl (b8 rfl ?_); refine r5 rfl rfl ?_ ?_
       ·intro hg8; have hg8' := hg8; try simp at hg8'
        refine k5 rfl rfl hg8 (b8 rfl (k5 rfl rfl hg8 (C1 rfl rfl rfl ?_))); refine p_f rfl rfl (bf1 hg8) rfl (b8 rfl ?_); refine r5 rfl rfl ?_ ?_
        ·intro hg9; have hg9' := hg9; try simp at hg9'
         refine k5 rfl rfl hg9 (b8 rfl (k5 rfl rfl hg9 (C1 rfl rfl rfl ?_))); refine p_f rfl rfl (bf1 hg9) rfl (b8 rfl ?_); refine r5 rfl rfl ?_ ?_
         ·intro hg10; have hg10' := hg10; try simp at hg10'
          refine k5 rfl rfl hg10 (b8 rfl (k5 rfl rfl hg10 ?_)); refine m6 _ rfl rfl (fun _ => T.M9 ..) fun g20 => ?_; refine t8 (rows ([1, 3, 0] : List Int)) (List.prefix_refl _) (k5 rfl rfl hg10 ?_); refine i9 F.G7 rfl rfl (bj0 [1, 3, 0] (by decide)) l5 mC fun _ _ => ?_; refine k5 rfl rfl hg10 (D5 rfl rfl ?_); refine p_f rfl rfl (bf1 hg10) rfl (b8 rfl ?_); refine r5 rfl rfl ?_ ?_
          ·intro hg11; have hg11' := hg11; try simp at hg11'
           refine k5 rfl rfl hg11 (b8 rfl (k5 rfl rfl hg11 ?_)); refine m6 _ rfl rfl (fun _ => T.N1 ..) fun g26 => ?_; refine t8 (rows ([0] : List Int)) (List.prefix_refl _) (k5 rfl rfl hg11 ?_); refine i9 F.G7 rfl rfl (bj0 [0] (by decide)) l5 mC fun _ _ => ?_; refine k5 rfl rfl hg11 (D5 rfl rfl ?_); refine p_f rfl rfl (bf1 hg11) rfl (b8 rfl ?_); refine r5 rfl rfl ?_ ?_
           ·intro hg12; have hg12' := hg12; try simp at hg12'
            refine k5 rfl rfl hg12 (b8 rfl (k5 rfl rfl hg12 ?_)); refine m6 _ rfl rfl (fun _ => T.M9 ..) fun g32 => ?_; refine t8 (rows ([10, 0, 120] : List Int)) (List.prefix_refl _) (k5 rfl rfl hg12 ?_); refine i9 F.G7 rfl rfl (bj0 [10, 0, 120] (by decide)) l5 mC fun _ _ => ?_; refine k5 rfl rfl hg12 (D5 rfl rfl ?_); refine p_f rfl rfl (bf1 hg12) rfl (b8 rfl ?_); refine r5 rfl rfl ?_ ?_
            ·intro hg13; have hg13' := hg13; try simp at hg13'
             refine k5 rfl rfl hg13 (b8 rfl (k5 rfl rfl hg13 ?_)); refine m6 _ rfl rfl (fun _ => T.M9 ..) fun g38 => ?_; refine t8 (rows ([0, 27, 20] : List Int)) (List.prefix_refl _) (k5 rfl rfl hg13 ?_); refine i9 F.G7 rfl rfl (bj0 [0, 27, 20] (by decide)) l5 mC fun _ _ => ?_; refine k5 rfl rfl hg13 (D5 rfl rfl ?_); refine p_f rfl rfl (bf1 hg13) rfl ?_; refine d9 ?_
             first | refine m7 rfl (fun hb4 => ?_) (fun hb4 => ?_) | refine k4 rfl (fun hb4 => ?_) (fun hb4 => ?_)
             ·have hb4' := hb4; try simp at hb4'
             have hb4' := hb4; try simp at hb4'
             refine k7 (j9 (j3 ?_)); refine i9 F.w5 rfl rfl (v7) l5 trivial fun c7 _ => ?_; refine u7 _ rfl rfl (fun _ => T.z3 ..) ?_; refine i9 F.pE rfl rfl (jz9 c7) l5 mC fun _ _ => ?_; refine b8 rfl (l6 rfl rfl rfl (l6 rfl rfl rfl (b9 rfl (b9 rfl (k9 ?_))))); refine i9 F.w5 rfl rfl (v7) l5 trivial fun c8 _ => ?_; refine i9 F.iI rfl rfl (kj7 c8) l5 mC fun _ _ => ?_; refine b8 rfl (l6 rfl rfl rfl (l6 rfl rfl rfl (l6 rfl rfl rfl ?_))); refine z1 rfl (fun _ => T.I2 _) fun gA => ?_; refine u3 rfl rfl (by first | exact .refl _ | exact perm2 _ _ _ | exact perm3 _ _ _ _ | exact perm4 _ _ _ _ _) T.j7 (by rfl) (by rfl) ?_; refine b9 rfl (b9 rfl (k9 ?_)); refine i9 F.w5 rfl rfl (v7) l5 trivial fun c9 _ => ?_; refine i9 F.iI rfl rfl (kj6 c9) l5 mC fun _ _ => ?_; refine b8 rfl (l6 rfl rfl rfl (l6 rfl rfl rfl (l6 rfl rfl rfl ?_))); refine z1 rfl (fun _ => T.I2 _) fun gA => ?_; refine u3 rfl rfl (by first | exact .refl _ | exact perm2 _ _ _ | exact perm3 _ _ _ _ | exact perm4 _ _ _ _ _) T.j7 (by rfl) (by rfl) ?_; refine b9 rfl (b9 rfl (k9 ?_)); refine i9 F.V0 rfl rfl (N9) l5 trivial fun xc _ => ?_; refine i9 F.tF rfl rfl (mx0 xc) l5 mC fun y7 _ => ?_; refine b8 rfl (l6 rfl rfl rfl (l6 rfl rfl rfl (l6 rfl rfl rfl (b9 rfl (b9 rfl (b9 rfl (d9 (j6 (j3 ?_))))))))); refine b8 rfl (C1 rfl rfl rfl (b8 rfl ?_)); refine r5 rfl rfl ?_ ?_
             ·intro hg14; have hg14' := hg14; try simp at hg14'
              refine k5 rfl rfl hg14 (b8 rfl (k5 rfl rfl hg14 (C1 rfl rfl rfl ?_))); refine p_f rfl rfl (bf1 hg14) rfl (b8 rfl ?_); refine r5 rfl rfl ?_ ?_
              ·intro hg15; have hg15' := hg15; try simp at hg15'
               refine k5 rfl rfl hg15 (b8 rfl (k5 rfl rfl hg15 (C1 rfl rfl rfl ?_))); refine p_f rfl rfl (bf1 hg15) rfl (b8 rfl ?_); refine r5 rfl rfl ?_ ?_
               ·intro hg16; have hg16' := hg16; try simp at hg16'
                refine k5 rfl rfl hg16 (b8 rfl (k5 rfl rfl hg16 (C1 rfl rfl rfl ?_))); refine p_f rfl rfl (bf1 hg16) rfl (b8 rfl ?_); refine r5 rfl rfl ?_ ?_
                ·intro hg17; have hg17' := hg17; try simp at hg17'
                 refine k5 rfl rfl hg17 (b8 rfl (k5 rfl rfl hg17 (C1 rfl rfl rfl ?_))); refine p_f rfl rfl (bf1 hg17) rfl (b8 rfl ?_); refine r5 rfl rfl ?_ ?_
                 ·intro hg18; have hg18' := hg18; try simp at hg18'
                  refine k5 rfl rfl hg18 (b8 rfl (k5 rfl rfl hg18 (C1 rfl rfl rfl ?_))); refine p_f rfl rfl (bf1 hg18) rfl (b8 rfl ?_); refine r5 rfl rfl ?_ ?_
                  ·intro hg19; have hg19' := hg19; try simp at hg19'
                   refine k5 rfl rfl hg19 (b8 rfl (k5 rfl rfl hg19 (C1 rfl rfl rfl ?_))); refine p_f rfl rfl (bf1 hg19) rfl (b8 rfl ?_); refine r5 rfl rfl ?_ ?_
                   ·intro hg20; have hg20' := hg20; try simp at hg20'
                    refine k5 rfl rfl hg20 (b8 rfl (k5 rfl rfl hg20 (C1 rfl rfl rfl ?_))); refine p_f rfl rfl (bf1 hg20) rfl (b8 rfl ?_); refine r5 rfl rfl ?_ ?_
                    ·intro hg21; have hg21' := hg21; try simp at hg21'
                     refine k5 rfl rfl hg21 (b8 rfl (k5 rfl rfl hg21 ?_)); refine l9 rfl T.q9 rfl ?_; refine k5 rfl rfl hg21 (V7 rfl rfl rfl ?_); refine p_f rfl rfl (bf1 hg21) rfl (b8 rfl ?_); refine r5 rfl rfl ?_ ?_
                     ·intro hg22; have hg22' := hg22; try simp at hg22'
                      refine k5 rfl rfl hg22 ?_
                      first | refine u1 rfl T.l3 T.j7 rfl mB (by rfl) ?_ | refine t7 rfl T.l3 T.j7 rfl mB (by rfl) ?_ | refine r8 rfl T.l3 T.j7 rfl rfl (m9 mB (q8 (by omega))) ?_
                      refine k5 rfl rfl hg22 (u7 _ rfl rfl (fun _ => T.z3 ..) (k5 rfl rfl hg22 (q7 _ rfl rfl rfl (fun _ => T.mD ..) (fun _ => T.lS ..) (p_f rfl rfl (bf1 hg22) rfl (b8 rfl ?_))))); refine r5 rfl rfl ?_ ?_
                      ·intro hg23; have hg23' := hg23; try simp at hg23'
                       refine k5 rfl rfl hg23 ?_
                       first | refine u1 rfl T.l3 T.j7 rfl mB (by rfl) ?_ | refine t7 rfl T.l3 T.j7 rfl mB (by rfl) ?_ | refine r8 rfl T.l3 T.j7 rfl rfl (m9 mB (q8 (by omega))) ?_
                       refine k5 rfl rfl hg23 (u7 _ rfl rfl (fun _ => T.z3 ..) (k5 rfl rfl hg23 (q7 _ rfl rfl rfl (fun _ => T.mD ..) (fun _ => T.lS ..) (p_f rfl rfl (bf1 hg23) rfl ?_)))); refine d9 ?_
                       first | refine m7 rfl (fun hb5 => ?_) (fun hb5 => ?_) | refine k4 rfl (fun hb5 => ?_) (fun hb5 => ?_)
                       ·have hb5' := hb5; try simp at hb5'
                       have hb5' := hb5; try simp at hb5'
                       refine k7 (j9 (j3 ?_)); refine m6 _ rfl rfl (fun _ => T.M9 ..) fun gr => ?_; refine t8 (rows rooms) (List.prefix_refl _) ?_; refine m6 _ rfl rfl (fun _ => T.N1 ..) fun ga => ?_; refine t8 (rows ([2] : List Int)) (List.prefix_refl _) ?_; refine m6 _ rfl rfl (fun _ => T.S9 ..) fun gb => ?_; refine t8 (rows ([0, 1] : List Int)) (List.prefix_refl _) ?_; refine m6 _ rfl rfl (fun _ => T.hz8 ..) fun gl => ?_; refine t8 (rows (answ ga gb)) (List.prefix_refl _) ?_; refine gY (α := Int) ?_; refine mj3 (Fs := (answ ga gb).map fun p => Row p.a (rows p.l)) (by intro F hF; left; simp only [List.map_cons, List.map_nil, List.mem_cons, List.not_mem_nil, or_false] at hF; rcases hF with rfl | rfl | rfl <;> repeat constructor) ?_; have xl3 : (answ ga gb).length = 3 := rfl; have hxk := fun k (hk : k < 3) => kn_len ga gb k hk; have hex := fun g k (hk : k < 3) => mx1 g ga gb k hk; generalize answ ga gb = xs at *; refine b9 rfl (b9 rfl (d9 (j6 (j3 (b9 rfl (d9 (l4 ?_))))))); refine v8 (β := Nat) ⟨fun k => k ≤ 3, fun k => [(24, .slice (b4 gr) 3 3), (25, .slice (b4 gl) 3 3), (26, int k)], fun _ => [], fun _ => [Row (b4 gr) (rows rooms), Row (b4 gl) (rows xs), Facts (xs.map fun p => Row p.a (rows p.l))]⟩ (fun k => 3 - k) 0 (Nat.zero_le _) mC nil_sb mC fun k hk => ?_; simp only at hk; refine j6 (j3 (b8 rfl (b8 rfl ?_))); refine l9 rfl T.q9 rfl ?_; refine A7 rfl rfl rfl (d9 ?_)
                       first | refine m7 rfl (fun hb6 => ?_) (fun hb6 => ?_) | refine k4 rfl (fun hb6 => ?_) (fun hb6 => ?_)
                       ·have hb6' := hb6; try simp at hb6'
                        have hk6 : k < 3 := by omega
                        refine hc_pick (F := Row (xs.getD k default).a (rows (xs.getD k default).l)) (Fs := xs.map fun p => Row p.a (rows p.l)) mB (List.mem_map_of_mem (u0 (by omega))) ?_; refine k7 (j9 (j6 (l4 (j6 ?_)))); refine G8 10 mixed (by decide) (by decide) rfl rfl ?_; refine cT ⟨Nat, fun _ => True, fun g => .slice (b4 g) 3 3, fun g => [Row (b4 g) (rows G3)]⟩ rfl rfl rfl ?_ ?_
                        ·intro w1; refine i9 F.V0 rfl rfl (N9) l5 trivial fun xd _ => ?_; refine d6 ?_; exact N8 xd trivial rfl mC
                        refine s7 (fun w1 => b8 rfl (q_z rfl)) (s7 (fun w1 => b8 rfl (q_z rfl)) (s7 (fun w1 => w3 (α := Int) rooms k rfl T.q9 T.v0 rfl rfl rfl mB rfl hk6 (by decide) (q_z rfl)) (s7 (fun w1 => a8 (v := int (rooms.getD k default)) rfl T.a9 rfl (d8 mB (d4 (show k < rooms.length from hk6) rfl)) (q_z rfl)) ?_))); refine cT ⟨OutC, fun _ => True, fun y => .tuple #[.slice y.1 (xs.getD k default).l.length y.2, int 0], fun y => [Row y.1 (rows (xs.getD k default).l)]⟩ rfl rfl rfl ?_ ?_
                        ·intro gc _; intro w1; refine i9 F.pG rfl rfl (hex gc k hk6) l5 mC fun y hy => ?_; refine d6 ?_; exact N8 y hy rfl ⟨m0, trivial⟩
                        refine cT ⟨OutC, fun _ => True, fun y => .tuple #[.slice y.1 (xs.getD k default).l.length y.2, int 0], fun y => [Row y.1 (rows (xs.getD k default).l)]⟩ rfl rfl rfl ?_ ?_
                        ·intro y hy; intro w1; refine b8 rfl (d6 ?_); exact N8 y hy rfl ⟨m0, trivial⟩
                        refine cT ⟨OutC, fun _ => True, fun y => .slice y.1 (xs.getD k default).l.length y.2, fun y => [Row y.1 (rows (xs.getD k default).l)]⟩ rfl rfl rfl ?_ ?_
                        ·intro y hy; intro w1; refine l6 rfl rfl rfl (d6 ?_); exact N8 y hy rfl ⟨m0, trivial⟩
                        apply n0 _ rfl rfl rfl
                        ·intro y hy; intro w1; refine l6 rfl rfl rfl (d6 ?_); exact k6 rfl
                        refine cT ⟨OutC, fun _ => True, fun y => .slice y.1 (xs.getD k default).l.length y.2, fun y => [Row y.1 (rows (xs.getD k default).l)]⟩ rfl rfl rfl ?_ ?_
                        ·intro y hy; intro w1; refine b9 rfl (d6 ?_); exact N8 y hy rfl ⟨m0, trivial⟩
                        refine D4 ⟨rfl, ?_⟩; intro _ _ _ _ _ _ _ _ y _; refine b9 rfl (k9 (b8 rfl (C1 rfl rfl rfl (b8 rfl ?_)))); refine r5 rfl rfl ?_ ?_
                        ·intro hg24; have hg24' := hg24; try simp at hg24'
                         refine k5 rfl rfl hg24 (b8 rfl (k5 rfl rfl hg24 (b8 rfl (k5 rfl rfl hg24 (b8 rfl (k5 rfl rfl hg24 ?_)))))); refine w3 (α := Sl Int) xs k rfl T.u_intss T.ij7 rfl rfl rfl mB xl3.symm (by omega) (by decide) (k5 rfl rfl hg24 (a8 (v := .slice (xs.getD k default).a (xs.getD k default).l.length (xs.getD k default).c) rfl T.d5 rfl (d8 mB (d4 (by omega) rfl)) (k5 rfl rfl hg24 ?_))); refine i9 F.G7 rfl rfl (bj0 (xs.getD k default).l (hxk k hk6)) l5 mC fun _ _ => ?_; refine k5 rfl rfl hg24 (D5 rfl rfl ?_); refine p_f rfl rfl (bf1 hg24) rfl ?_; refine d9 ?_
                         first | refine m7 rfl (fun hb7 => ?_) (fun hb7 => ?_) | refine k4 rfl (fun hb7 => ?_) (fun hb7 => ?_)
                         ·have hb7' := hb7; try simp at hb7'
                         have hb7' := hb7; try simp at hb7'
                         refine k7 (z2 (j9 (k8 (b8 rfl ?_)))); refine y2 _ rfl rfl rfl rfl s9 ?_; refine b9 rfl (d6 ?_); exact again _ (k + 1) (by show k + 1 ≤ 3; omega) (A5 (by omega)) mC nil_sb mC
                        intro hg24; have hg24' := hg24; try simp at hg24'
                       have hb6' := hb6; try simp at hb6'
                       refine v5 (C3 (u9 (j9 (j3 ?_)))); refine i9 F.V0 rfl rfl (N9) l5 trivial fun xe _ => ?_; refine i9 F.pG rfl rfl (kj5 xe) l5 mC fun y8 _ => ?_; refine b8 rfl (l6 rfl rfl rfl (l6 rfl rfl rfl (b9 rfl (k9 ?_)))); refine i9 F.mJ rfl rfl (hx4) l5 trivial fun _ _ => ?_; refine b8 rfl (l6 rfl rfl rfl (l6 rfl rfl rfl (l6 rfl rfl rfl (b9 rfl (b9 rfl (b9 rfl (k9 ?_))))))); refine i9 F.O7 rfl rfl (K0) l5 trivial fun s1 _ => ?_; refine i9 F.bV rfl rfl (U9) l5 trivial fun r1 _ => ?_; refine m6 _ rfl rfl (fun _ => T.S9 ..) fun gw => ?_; refine t8 (rows ([1, 2] : List Int)) (List.prefix_refl _) ?_; refine i9 F.dX rfl rfl (kj4 s1 r1 gw) l5 mC fun y9 _ => ?_; refine b8 rfl (l6 rfl rfl rfl (l6 rfl rfl rfl (l6 rfl rfl rfl (b9 rfl (k9 ?_))))); refine i9 F.O7 rfl rfl (K0) l5 trivial fun s2 _ => ?_; refine i9 F.bV rfl rfl (U9) l5 trivial fun r2 _ => ?_; refine gY (α := Int) ?_; refine i9 F.dX rfl rfl (kj3 s2 r2) l5 mC fun y10 _ => ?_; refine b8 rfl (l6 rfl rfl rfl (l6 rfl rfl rfl (l6 rfl rfl rfl (b9 rfl (b9 rfl (b9 rfl (k9 ?_))))))); refine i9 F.O7 rfl rfl (K0) l5 trivial fun s3 _ => ?_; refine m6 _ rfl rfl (fun _ => T.S9 ..) fun gm => ?_; refine t8 (rows ([2, 3] : List Int)) (List.prefix_refl _) ?_; refine i9 F.mL rfl rfl (kj2 s3 gm) l5 mC fun y11 _ => ?_; refine b8 rfl (l6 rfl rfl rfl (l6 rfl rfl rfl (b9 rfl (b9 rfl (k9 ?_))))); refine i9 F.O7 rfl rfl (K0) l5 trivial fun s4 _ => ?_; refine m6 _ rfl rfl (fun _ => T.N1 ..) fun gn => ?_; refine t8 (rows ([1] : List Int)) (List.prefix_refl _) ?_; refine i9 F.mL rfl rfl (hx5 s4 gn) l5 mC fun y12 _ => ?_; refine b8 rfl (l6 rfl rfl rfl (l6 rfl rfl rfl (b9 rfl (b9 rfl (k9 ?_))))); refine i9 F.w5 rfl rfl (v7) l5 trivial fun c10 _ => ?_; refine i9 F.zZ rfl rfl (mq4 c10) l5 mC fun _ _ => ?_; refine b8 rfl (l6 rfl rfl rfl (l6 rfl rfl rfl (b9 rfl (b9 rfl (k9 (b8 rfl (D8 rfl rfl rfl (b8 rfl ?_)))))))); refine r5 rfl rfl ?_ ?_
                       ·intro hg25; have hg25' := hg25; try simp at hg25'
                        refine k5 rfl rfl hg25 (b8 rfl (k5 rfl rfl hg25 (D8 rfl rfl rfl ?_))); refine p_t rfl rfl (bt1 hg25) rfl (b8 rfl ?_); refine r5 rfl rfl ?_ ?_
                        ·intro hg26; have hg26' := hg26; try simp at hg26'
                         refine k5 rfl rfl hg26 (b8 rfl (k5 rfl rfl hg26 (D8 rfl rfl rfl ?_))); refine p_t rfl rfl (bt1 hg26) rfl (b8 rfl ?_); refine r5 rfl rfl ?_ ?_
                         ·intro hg27; have hg27' := hg27; try simp at hg27'
                          refine k5 rfl rfl hg27 (b8 rfl (k5 rfl rfl hg27 (D8 rfl rfl rfl ?_))); refine p_t rfl rfl (bt1 hg27) rfl (b8 rfl ?_); refine r5 rfl rfl ?_ ?_
                          ·intro hg28; have hg28' := hg28; try simp at hg28'
                           refine k5 rfl rfl hg28 (b8 rfl (k5 rfl rfl hg28 (D8 rfl rfl rfl ?_))); refine p_t rfl rfl (bt1 hg28) rfl (b8 rfl ?_); refine r5 rfl rfl ?_ ?_
                           ·intro hg29; have hg29' := hg29; try simp at hg29'
                            refine k5 rfl rfl hg29 (b8 rfl (k5 rfl rfl hg29 (D8 rfl rfl rfl ?_))); refine p_t rfl rfl (bt1 hg29) rfl (b8 rfl ?_); refine r5 rfl rfl ?_ ?_
                            ·intro hg30; have hg30' := hg30; try simp at hg30'
                             refine k5 rfl rfl hg30 (b8 rfl (k5 rfl rfl hg30 (D8 rfl rfl rfl ?_))); refine p_t rfl rfl (bt1 hg30) rfl (b8 rfl ?_); refine r5 rfl rfl ?_ ?_
                             ·intro hg31; have hg31' := hg31; try simp at hg31'
                              refine k5 rfl rfl hg31 (b8 rfl (k5 rfl rfl hg31 (D8 rfl rfl rfl ?_))); refine p_t rfl rfl (bt1 hg31) rfl (b8 rfl ?_); refine r5 rfl rfl ?_ ?_
                              ·intro hg32; have hg32' := hg32; try simp at hg32'
                               refine k5 rfl rfl hg32 (b8 rfl (k5 rfl rfl hg32 (D8 rfl rfl rfl ?_))); refine p_t rfl rfl (bt1 hg32) rfl (b8 rfl ?_); refine r5 rfl rfl ?_ ?_
                               ·intro hg33; have hg33' := hg33; try simp at hg33'
                                refine k5 rfl rfl hg33 (b8 rfl (k5 rfl rfl hg33 (D8 rfl rfl rfl ?_))); refine p_t rfl rfl (bt1 hg33) rfl (b8 rfl ?_); refine r5 rfl rfl ?_ ?_
                                ·intro hg34; have hg34' := hg34; try simp at hg34'
                                 refine k5 rfl rfl hg34 (b8 rfl (k5 rfl rfl hg34 ?_)); refine l9 rfl T.q9 rfl ?_; refine k5 rfl rfl hg34 (D8 rfl rfl rfl ?_); refine p_t rfl rfl (bt1 hg34) rfl (b8 rfl ?_); refine r5 rfl rfl ?_ ?_
                                 ·intro hg35; have hg35' := hg35; try simp at hg35'
                                  refine k5 rfl rfl hg35 (b8 rfl (k5 rfl rfl hg35 ?_)); refine m6 _ rfl rfl (fun _ => T.S9 ..) fun g45 => ?_; refine t8 (rows ([0, 5] : List Int)) (List.prefix_refl _) (k5 rfl rfl hg35 ?_); refine i9 F.G7 rfl rfl (bj0 [0, 5] (by decide)) l5 mC fun _ _ => ?_; refine p_t rfl rfl (bt1 hg35) rfl (b8 rfl ?_); refine r5 rfl rfl ?_ ?_
                                  ·intro hg36; have hg36' := hg36; try simp at hg36'
                                   refine k5 rfl rfl hg36 (b8 rfl (k5 rfl rfl hg36 ?_)); refine xN (y' := wrS) rfl rfl (by kernel_rfl) (p_t rfl rfl (bt1 hg36) rfl ?_); refine b9 rfl (d9 (l7 ?_)); exact ret1 () rfl (by show some (Value.bool _) = some (Value.bool true); simp) rfl trivial nil_sb trivial
                                  intro hg36; have hg36' := hg36; try simp at hg36'
                                 intro hg35; have hg35' := hg35; try simp at hg35'
                                intro hg34; have hg34' := hg34; try simp at hg34'
                               intro hg33; have hg33' := hg33; try simp at hg33'
                              intro hg32; have hg32' := hg32; try simp at hg32'
                             intro hg31; have hg31' := hg31; try simp at hg31'
                            intro hg30; have hg30' := hg30; try simp at hg30'
                           intro hg29; have hg29' := hg29; try simp at hg29'
                          intro hg28; have hg28' := hg28; try simp at hg28'
                         intro hg27; have hg27' := hg27; try simp at hg27'
                        intro hg26; have hg26' := hg26; try simp at hg26'
                       intro hg25; have hg25' := hg25; try simp at hg25'
                      intro hg23; have hg23' := hg23; try simp at hg23'
                     intro hg22; have hg22' := hg22; try simp at hg22'
                    intro hg21; have hg21' := hg21; try simp at hg21'
                   intro hg20; have hg20' := hg20; try simp at hg20'
                  intro hg19; have hg19' := hg19; try simp at hg19'
                 intro hg18; have hg18' := hg18; try simp at hg18'
                intro hg17; have hg17' := hg17; try simp at hg17'
               intro hg16; have hg16' := hg16; try simp at hg16'
              intro hg15; have hg15' := hg15; try simp at hg15'
             intro hg14; have hg14' := hg14; try simp at hg14'
            intro hg13; have hg13' := hg13; try simp at hg13'
           intro hg12; have hg12' := hg12; try simp at hg12'
          intro hg11; have hg11' := hg11; try simp at hg11'
         intro hg10; have hg10' := hg10; try simp at hg10'
        intro hg9; have hg9' := hg9; try simp at hg9'
       intro hg8; have hg8' := hg8; try simp at hg8'
      intro hg7; have hg7' := hg7; try simp at hg7'
     intro hg6; have hg6' := hg6; try simp at hg6'
    intro hg4; have hg4' := hg4; try simp at hg4'
   intro hg3; have hg3' := hg3; try simp at hg3'
  intro hg2; have hg2' := hg2; try simp at hg2'
 intro hg1; have hg1' := hg1; try simp at hg1'
end Go.Proofs.YtmpfpfbcejfijaaGreatDoor
end
section
namespace Go.W
open Go Go.RowKit Go.ChangeShapes Go.WideShapes
section
variable {H : Type} {enc : TypeId × Value → H} {P : Program} {w : World} {base : Nat} {spare : Nat → Bool} {held : Bool}
theorem jq8 {f : Nat} {args : List Value} {LI : List Fact} (h : Meets P f args ({ LI := LI, val := fun _ : Unit => .bool true } : Con Unit)) (hL : ∀ F ∈ LI, F.P w) : CallsB P f args.toArray w fun v w' => v = .bool true ∧ Below w.heap.size w w' := by
  refine (h w ⟨Ext.refl _ _, by simp, by simp, by simp, hL, by simp, fun F hF k hk => .inr (.inr ⟨F, hF, hk⟩)⟩).mono fun v w' hp => ?_; obtain ⟨_, rfl, _, hwi⟩ := hp; exact ⟨rfl, hwi.ext.below⟩
end
end Go.W
end
section
namespace Go.W
open Go Go.Conc
theorem Lv.at {P : Program} {fr : Frame} {w : World} {v : Value} (h : Lv P fr w v) (d : Nat) : Lv P fr (w.at d) v :=
  ⟨h.1, h.2.1, h.2.2.1, h.2.2.2.elim fun fn x => ⟨fn, x.1, fun d' => x.2 d'⟩⟩
theorem run_of {P : Program} {f : FuncId} {fn : Func} {t : Tmp} {args : Array Value} {W : World} {R : Value → World → Prop} (hf : P.funcs[f]? = some fn) (hres : fn.results = #[.tmp t]) (hin : P.inits.idxOf? f = none)
    (h : CallsB P f args W R) (hat : ∀ v w d, R v w → R v (w.at d)) :
    ∃ M last o w' t', runNT P (M + 1) (solo (G (Frame.enter P f args .normal) []) W) #[] = (.ended o w', t') ∧ runN P M (solo (G (Frame.enter P f args .normal) []) W) = .next last ∧ step P last = .ended o w' ∧ Conc.Good P R last o w' t' := by
  have hco := h [] (fun g w => ∃ v fr, g = G fr [] ∧ fr.fn = f ∧ Lv P fr w v ∧ R v w) (fun fr v w' hfr hR hl => co_done fun d => ⟨v, fr, rfl, hfr, hl.at d, hat _ _ _ hR⟩); obtain ⟨N, gs, g, w, sl, t0, q, B, r, h0, hL, hP, v, fr, rfl, hfr, hl, hR⟩ := hco W.drawn #[G (Frame.enter P f args .normal) []] none #[] (fun _ => 0) 0 rfl (leavers_one P _) past_nil
  have hG : Goes P true AtRel (fun _ _ es => ∀ e ∈ es, EvL noS B e) (AtEnd P noS B R) 0 (G fr []) w := by
    rintro w₁ ⟨d, rfl⟩; refine ⟨rfl, v, #[], ?_, by simp, hat _ _ _ hR⟩; obtain ⟨hm, hd, hn, fn', hf', hr⟩ := hl.at d; rw [hfr, hf] at hf'; obtain rfl := Option.some.inj hf'; have hf2 : P.funcs[fr.fn]? = some fn := by rw [hfr]; exact hf
    have hin2 : P.inits.idxOf? fr.fn = none := by rw [hfr]; exact hin
    have he : (results fn fr.tmps).events P (w.at d) #[] = #[] := events_results_tmp hres _ _; have hr0 : (results fn fr.tmps).run P (w.at d) = .ok v (w.at d) := hr d
    simp [G, stepG, unwind, doReturn, hn, hd, hm, hf2, hr0, he, hin2, GStep.after, seen]
  obtain ⟨M, last, o, w', t', e1, e2, e3, e4⟩ := beside_ends (P := P) (Post := R) (sl := sl) (fun _ _ _ h => h) h0 hL hP hG; have hrun : runNT P N (solo (G (Frame.enter P f args .normal) []) W) #[] = (.next (crowd gs w sl), t0) := r; refine ⟨N + M, last, o, w', t', ?_, ?_, e3, e4⟩
  · rw [Nat.add_assoc, ax0 hrun]; exact e1
  rw [runN_add, ← runNT_fst P _ _ #[], hrun]; exact e2
end Go.W
end
