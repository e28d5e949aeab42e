/- Texts of this claim, one behind another. -/
import Derived.Conc.DeferLaws
import Derived.Laws.Externs
import Derived.Lib.Bytealg
import Derived.Test.YtcdopfjiadifhaaGreatDoorAAo
import Derived.Test.YtcdopfjiadifhaaGreatDoorAAb
import Derived.Test.YtcdopfjiadifhaaGreatDoorAAh
import Derived.Test.YtcdopfjiadifhaaGreatDoorAAf
set_option linter.unusedVariables false
set_option linter.unusedSimpArgs false
section
namespace Go.Proofs.YtcdopfjiadifhaaGreatDoor
open Go Go.W
set_option maxRecDepth 20000
attribute [local irreducible] HL HC HQ HB Row Rows2 Blk Facts
def priP (pr s : List Int) : List Int := s.map fun k => pr.getD k.toNat default
theorem priP_at {pr s : List Int} {j : Nat} (hj : j < s.length) : (priP pr s).getD j default = pr.getD (s.getD j default).toNat default := by
  have h : j < (priP pr s).length := by simpa [priP] using hj
  rw [A7 h, A7 hj]
  simp [priP]
theorem lx5 (pr s : List Int) : (priP pr s).length = s.length := by simp [priP]
theorem priP_bd {pr s : List Int} (hp : ∀ x ∈ pr, prB x) (hs : ∀ v ∈ s, 0 ≤ v ∧ v < (pr.length : Int)) : ∀ v ∈ priP pr s, 0 ≤ v ∧ v ≤ 1000000000 := by
  intro v hv; obtain ⟨w, hw, rfl⟩ := List.mem_map.1 hv; have h1 := hs w hw; have h2 := hp _ (w7 (l := pr) (k := w.toNat) (by omega)); have h3 := h2.1; have h4 := h2.2
  omega
theorem aq0 {A B PA WA : Option Addr} {ca cb pc wc : Nat} (cs : List Cl) (hs : List Hd) (pr ws : List Int) (p : Int) (hca : cs.length ≤ ca) (hcb : hs.length ≤ cb) (ha : ∀ h ∈ hs, h.2.2.2.l.length ≤ 1000000) (hpn : pr.length ≤ 1000000) (hwn : ws.length ≤ 1000000) : Meets Tryz.prog F.nF [.agg #[.slice A cs.length ca, .slice B hs.length cb], .slice PA pr.length pc, .slice WA ws.length wc, int p] { LI := [Row A (rows cs), RowsF B hs Hd.row, Row PA (rows pr), Row WA (rows ws)], val := fun x : OutC => .tuple #[.slice x.1 (foundE cs hs pr ws p).1.length x.2, int (foundE cs hs pr ws p).2.1, int (foundE cs hs pr ws p).2.2], LO := fun x => [Row x.1 (rows (foundE cs hs pr ws p).1)] } := by
 refine i9 F.kq9 rfl r6 fun w0 => ?_; refine i8 ?_; refine H6 rfl rfl fun gT => ?_; refine d5 rfl (d5 rfl (d5 rfl (d8 (tx8 (j4 (i8 (ix3 ?_))))))); refine C1 (cs := #[.slice A cs.length ca, .slice B hs.length cb]) rfl T.v5 T.v9 rfl mB rfl ?_; refine k5 F.cq2 rfl rfl (wO cs hs hca hcb ha) p6 mC fun _ _ => ?_; refine d5 rfl (k8 (c7 rfl (N5 rfl rfl rfl (d8 ?_))))
 first | refine m3 rfl (fun hb1 => ?_) (fun hb1 => ?_) | refine j7 rfl (fun hb1 => ?_) (fun hb1 => ?_)
 ·have hb1' := hb1; try simp at hb1'
  refine i8 (c7 rfl (d5 rfl (d5 rfl (d5 rfl (d8 (N4 (qU ?_))))))); have hE : foundE cs hs pr ws p = ([], 0, checkT (trOf cs hs)) := by rw [foundE, if_pos hb1]
  refine C3 (α := Int) ?_; exact ret3 (none, 0) rfl rfl rfl rfl (by show Value.tuple #[.slice none (foundE cs hs pr ws p).1.length 0, int (foundE cs hs pr ws p).2.1, int (foundE cs hs pr ws p).2.2] = _; rw [hE] <;> rfl) rfl trivial nil_sb (by show LSub _ [Row none (rows (foundE cs hs pr ws p).1)]; rw [hE]; exact mC)
 have hb1' := hb1; try simp at hb1'
 have h0 : checkT (trOf cs hs) = 0 := Classical.not_not.1 hb1; have hok := pq5 h0; have hn6 := hok.h6; rw [W1] at hn6; refine k6 (j6 (j4 (i8 (c7 rfl ?_)))); refine l7 rfl T.t7 rfl ?_
 first | refine a9 ⟨_, 1, none⟩ rfl rfl T.t3 rfl ?_ | refine a9 _ rfl rfl T.t3 rfl ?_
 refine b8 (v := .slice B hs.length cb) rfl T.m6 rfl (j3 mB rfl) (l7 rfl T.B4 rfl ?_); refine B6 rfl rfl rfl (d8 ?_)
 first | refine m3 rfl (fun hb2 => ?_) (fun hb2 => ?_) | refine j7 rfl (fun hb2 => ?_) (fun hb2 => ?_)
 ·have hb2' := hb2; try simp at hb2'
  have h2 : pr.length < hs.length := by omega
  refine i8 (d5 rfl (d5 rfl (d5 rfl (d8 (N4 (qU ?_)))))); have hE : foundE cs hs pr ws p = ([], 0, 7) := by rw [foundE, if_neg (Classical.not_not.2 h0), if_pos h2]
  refine C3 (α := Int) ?_; exact ret3 (none, 0) rfl rfl rfl rfl (by show Value.tuple #[.slice none (foundE cs hs pr ws p).1.length 0, int (foundE cs hs pr ws p).2.1, int (foundE cs hs pr ws p).2.2] = _; rw [hE] <;> rfl) rfl trivial nil_sb (by show LSub _ [Row none (rows (foundE cs hs pr ws p).1)]; rw [hE]; exact mC)
 have hb2' := hb2; try simp at hb2'
 have h2 : ¬ pr.length < hs.length := by omega
 refine k6 (j6 (j4 (i8 (c7 rfl ?_)))); refine l7 rfl T.t7 rfl ?_
 first | refine a9 ⟨_, 1, none⟩ rfl rfl T.t3 rfl ?_ | refine a9 _ rfl rfl T.t3 rfl ?_
 refine b8 (v := .slice B hs.length cb) rfl T.m6 rfl (j3 mB rfl) (l7 rfl T.B4 rfl ?_); refine R0 rfl rfl rfl (d8 ?_)
 first | refine m3 rfl (fun hb3 => ?_) (fun hb3 => ?_) | refine j7 rfl (fun hb3 => ?_) (fun hb3 => ?_)
 ·have hb3' := hb3; try simp at hb3'
  have h3 : hs.length < pr.length := by omega
  refine i8 (d5 rfl (d5 rfl (d5 rfl (d8 (N4 (qU ?_)))))); have hE : foundE cs hs pr ws p = ([], 0, 6) := by rw [foundE, if_neg (Classical.not_not.2 h0), if_neg h2, if_pos h3]
  refine C3 (α := Int) ?_; exact ret3 (none, 0) rfl rfl rfl rfl (by show Value.tuple #[.slice none (foundE cs hs pr ws p).1.length 0, int (foundE cs hs pr ws p).2.1, int (foundE cs hs pr ws p).2.2] = _; rw [hE] <;> rfl) rfl trivial nil_sb (by show LSub _ [Row none (rows (foundE cs hs pr ws p).1)]; rw [hE]; exact mC)
 have hb3' := hb3; try simp at hb3'
 have h3 : ¬ hs.length < pr.length := by omega
 have hpl : pr.length = hs.length := by omega
 refine k6 (j6 (j4 (i8 (c7 rfl ?_)))); refine l7 rfl T.t7 rfl ?_; refine c7 rfl (d8 (k9 ?_)); refine w3 (β := Nat) ⟨fun k => k ≤ pr.length ∧ ∀ j, j < k → prB (pr.getD j default), fun k => [(1, .slice PA pr.length pc), (2, .slice WA ws.length wc), (4, .pointer (c8 gT)), (3, int p), (41, .slice PA pr.length pc), (42, int pr.length), (43, int k)], fun _ => [], fun _ => [Blk gT (Obj.cells #[.slice A cs.length ca, .slice B hs.length cb] T.C2 (0, 0)), Row A (rows cs), RowsF B hs Hd.row, Row PA (rows pr), Row WA (rows ws)]⟩ (fun k => pr.length - k) 0 ⟨Nat.zero_le _, fun j hj => absurd hj (Nat.not_lt_zero j)⟩ mC nil_sb mC fun k hk => ?_; obtain ⟨hk, hq⟩ := hk; refine i8 (B6 rfl rfl rfl (d8 (j4 ?_)))
 first | refine m3 rfl (fun hb4 => ?_) (fun hb4 => ?_) | refine j7 rfl (fun hb4 => ?_) (fun hb4 => ?_)
 ·have hb4' := hb4; try simp at hb4'
  have hk2 : k < pr.length := by omega
  refine k6 (j6 (j4 (k9 (i8 ?_)))); refine v6 (α := Int) _ _ rfl T.t7 T.w9 rfl rfl rfl mB rfl (by omega) (by decide) (b8 rfl T.b9 rfl (d6 mB (c9 (by omega) rfl)) ?_); refine d5 rfl (k8 (c7 rfl ?_)); refine k5 F.y8 rfl rfl (u3 _ _ _) p6 trivial fun _ _ => ?_; refine M7 rfl rfl (d8 ?_)
  first | refine m3 rfl (fun hb5 => ?_) (fun hb5 => ?_) | refine j7 rfl (fun hb5 => ?_) (fun hb5 => ?_)
  ·have hb5' := hb5; try simp at hb5'
   refine i8 (d5 rfl (d5 rfl (d5 rfl (d8 (l5 (G8 (C4 (mP ?_)))))))); refine C4 (qU ?_); have hE : foundE cs hs pr ws p = ([], 0, 1) := by rw [foundE, if_neg (Classical.not_not.2 h0), if_neg h2, if_neg h3, if_pos (sJ (p := prB) hk2 (nbt hb5))]
   refine C3 (α := Int) ?_; exact ret3 (none, 0) rfl rfl rfl rfl (by show Value.tuple #[.slice none (foundE cs hs pr ws p).1.length 0, int (foundE cs hs pr ws p).2.1, int (foundE cs hs pr ws p).2.2] = _; rw [hE] <;> rfl) rfl trivial nil_sb (by show LSub _ [Row none (rows (foundE cs hs pr ws p).1)]; rw [hE]; exact mC)
  have hb5' := hb5; try simp at hb5'
  refine k6 (y6 (j6 (j8 ?_))); refine v4 _ rfl rfl rfl rfl r5 ?_; refine c7 rfl (d4 ?_); exact again _ (k + 1) ⟨by show k + 1 ≤ pr.length; omega, fun j hj => (Nat.lt_succ_iff_lt_or_eq.1 hj).elim (hq j) fun e => by subst e; exact nbf hb5⟩ (D5 (by omega)) mC nil_sb mC
 have hb4' := hb4; try simp at hb4'
 have hk2 : k = pr.length := by omega
 rw [hk2] at hq; have hq1 := iN (l := pr) (p := prB) hq; refine u9 (D6 (u5 (j6 (j4 (i8 (c7 rfl ?_)))))); refine l7 rfl T.t7 rfl ?_; refine c7 rfl (d8 (k9 ?_)); refine w3 (β := Nat) ⟨fun k => k ≤ ws.length ∧ ∀ j, j < k → (0 ≤ ws.getD j default ∧ ws.getD j default ≤ (hs.length : Int) - 1), fun k => [(1, .slice PA pr.length pc), (2, .slice WA ws.length wc), (4, .pointer (c8 gT)), (3, int p), (51, .slice WA ws.length wc), (52, int ws.length), (53, int k)], fun _ => [], fun _ => [Blk gT (Obj.cells #[.slice A cs.length ca, .slice B hs.length cb] T.C2 (0, 0)), Row A (rows cs), RowsF B hs Hd.row, Row PA (rows pr), Row WA (rows ws)]⟩ (fun k => ws.length - k) 0 ⟨Nat.zero_le _, fun j hj => absurd hj (Nat.not_lt_zero j)⟩ mC nil_sb mC fun k hk => ?_; obtain ⟨hk, hq⟩ := hk; refine i8 (B6 rfl rfl rfl (d8 (j4 ?_)))
 first | refine m3 rfl (fun hb6 => ?_) (fun hb6 => ?_) | refine j7 rfl (fun hb6 => ?_) (fun hb6 => ?_)
 ·have hb6' := hb6; try simp at hb6'
  have hk2 : k < ws.length := by omega
  refine k6 (j6 (j4 (k9 (i8 ?_)))); refine v6 (α := Int) _ _ rfl T.t7 T.w9 rfl rfl rfl mB rfl (by omega) (by decide) (b8 rfl T.b9 rfl (d6 mB (c9 (by omega) rfl)) ?_); refine d5 rfl (k8 (c7 rfl ?_))
  first | refine a9 ⟨_, 1, none⟩ rfl rfl T.t3 rfl ?_ | refine a9 _ rfl rfl T.t3 rfl ?_
  refine b8 (v := .slice B hs.length cb) rfl T.m6 rfl (j3 mB rfl) (l7 rfl T.B4 rfl (S1 _ rfl rfl rfl rfl r5 ?_)); refine k5 F.y8 rfl rfl (u3 _ _ _) p6 trivial fun _ _ => ?_; refine M7 rfl rfl (d8 ?_)
  first | refine m3 rfl (fun hb7 => ?_) (fun hb7 => ?_) | refine j7 rfl (fun hb7 => ?_) (fun hb7 => ?_)
  ·have hb7' := hb7; try simp at hb7'
   refine i8 (d5 rfl (d5 rfl (d5 rfl (d8 (l5 (G8 (C4 (mP ?_)))))))); refine C4 (qU ?_); have hE : foundE cs hs pr ws p = ([], 0, 3) := by rw [foundE, if_neg (Classical.not_not.2 h0), if_neg h2, if_neg h3, if_neg (Classical.not_not.2 hq1), if_pos (sJ (p := fun w => 0 ≤ w ∧ w ≤ (hs.length : Int) - 1) hk2 (nbt hb7))]
   refine C3 (α := Int) ?_; exact ret3 (none, 0) rfl rfl rfl rfl (by show Value.tuple #[.slice none (foundE cs hs pr ws p).1.length 0, int (foundE cs hs pr ws p).2.1, int (foundE cs hs pr ws p).2.2] = _; rw [hE] <;> rfl) rfl trivial nil_sb (by show LSub _ [Row none (rows (foundE cs hs pr ws p).1)]; rw [hE]; exact mC)
  have hb7' := hb7; try simp at hb7'
  refine k6 (y6 (j6 (j8 ?_))); refine v4 _ rfl rfl rfl rfl r5 ?_; refine c7 rfl (d4 ?_); exact again _ (k + 1) ⟨by show k + 1 ≤ ws.length; omega, fun j hj => (Nat.lt_succ_iff_lt_or_eq.1 hj).elim (hq j) fun e => by subst e; exact nbf hb7⟩ (D5 (by omega)) mC nil_sb mC
 have hb6' := hb6; try simp at hb6'
 have hk2 : k = ws.length := by omega
 rw [hk2] at hq; have hq2 := iN (l := ws) (p := fun w => 0 ≤ w ∧ w ≤ (hs.length : Int) - 1) hq; refine u9 (D6 (u5 (j6 (j4 (i8 (c7 rfl ?_)))))); refine k5 F.y8 rfl rfl (u3 _ _ _) p6 trivial fun _ _ => ?_; refine M7 rfl rfl (d8 ?_)
 first | refine m3 rfl (fun hb8 => ?_) (fun hb8 => ?_) | refine j7 rfl (fun hb8 => ?_) (fun hb8 => ?_)
 ·have hb8' := hb8; try simp at hb8'
  have h8 := nbt hb8; refine i8 (d5 rfl (d5 rfl (d5 rfl (d8 (N4 (qU ?_)))))); have hE : foundE cs hs pr ws p = ([], 0, 1) := by rw [foundE, if_neg (Classical.not_not.2 h0), if_neg h2, if_neg h3, if_neg (Classical.not_not.2 hq1), if_neg (Classical.not_not.2 hq2), if_pos h8]
  refine C3 (α := Int) ?_; exact ret3 (none, 0) rfl rfl rfl rfl (by show Value.tuple #[.slice none (foundE cs hs pr ws p).1.length 0, int (foundE cs hs pr ws p).2.1, int (foundE cs hs pr ws p).2.2] = _; rw [hE] <;> rfl) rfl trivial nil_sb (by show LSub _ [Row none (rows (foundE cs hs pr ws p).1)]; rw [hE]; exact mC)
 have hb8' := hb8; try simp at hb8'
 have h8 := nbf hb8; refine k6 (j6 (i8 ?_)); refine u4 _ rfl rfl (fun _ => T.N2 ..) ?_; refine y9 rfl (fun _ => T.P4 _) fun gB => ?_; refine w4 (cs := offA ((⟨none, 0, []⟩, 0, 0) : Hv) false F.P3) rfl rfl (.refl _) T.O5 (by rfl) (by rfl) ?_; refine k8 ?_; refine C1 (cs := #[.slice A cs.length ca, .slice B hs.length cb]) rfl T.v5 T.v9 rfl mB rfl (c7 rfl ?_); refine k5 F.bx4 rfl rfl (vJ cs hs p hca hcb ha (by omega) (sx0 cs hs (by omega))) p6 mC fun x hx => ?_; obtain ⟨go, ps⟩ := x; obtain ⟨hpn2, hpm⟩ := hx; simp only at hpn2 hpm; refine y9 rfl (fun _ => T.mz0 _) fun g17 => ?_; refine z9 rfl rfl (.refl _) T.lj7 rfl rfl ?_; refine C6 (rows [((⟨some ⟨go, 0, none⟩, hs.length, ps⟩) : Sl (Sl Bool))]) (by show [Value.slice _ ps.length _] <+: [Value.slice _ hs.length _]; rw [hpn2]; exact List.prefix_refl _) ?_; refine ix2 (α := Int) ?_; refine d8 (j4 (tx9 (j6 (j4 (i8 ?_)))))
 first | refine a9 ⟨_, 1, none⟩ rfl rfl T.t3 rfl ?_ | refine a9 _ rfl rfl T.t3 rfl ?_
 refine b8 (v := .slice B hs.length cb) rfl T.m6 rfl (j3 mB rfl) (l7 rfl T.B4 rfl ?_); obtain ⟨N, hN⟩ : ∃ N, N = 2 ^ hs.length := ⟨_, rfl⟩; have hN2 : N ≤ 64 := by rw [hN]; exact Nat.pow_le_pow_right (n := 2) (by omega) hn6
 refine sz4 hs.length N hN rfl rfl rfl rfl (by omega) ?_; refine c7 rfl (d8 (k9 ?_)); refine w3 (β := Nat × Hv × Bool) ⟨fun x => x.1 ≤ N ∧ (x.2.1.dat, x.2.2) = bestL ordP (fndL hs (reachK (trOf cs hs) p hs.length) pr ws x.1) ∧ x.2.1.1.l.length ≤ 8, fun x => [(1, .slice PA pr.length pc), (2, .slice WA ws.length wc), (4, .pointer (c8 gT)), (16, .pointer (c8 gB)), (17, .pointer (c8 g17)), (75, int (N : Int)), (76, int x.1)], fun x => [(gB, Obj.cells (offA x.2.1 x.2.2 F.P3) T.A6 (0, 0))], fun x => [Blk gT (Obj.cells #[.slice A cs.length ca, .slice B hs.length cb] T.C2 (0, 0)), Row A (rows cs), RowsF B hs Hd.row, Row PA (rows pr), Row WA (rows ws), Row (c8 g17) (rows [((⟨some ⟨go, 0, none⟩, hs.length, ps⟩) : Sl (Sl Bool))]), Row (c8 go) (rows ps), innerF ps, x.2.1.row]⟩ (fun x => N - x.1) (0, ((⟨none, 0, []⟩, 0, 0) : Hv), false) ⟨Nat.zero_le _, rfl, Nat.zero_le _⟩ mC (.refl _) mC fun x hx => ?_; obtain ⟨k, y, ok⟩ := x; obtain ⟨hk, hb, hy⟩ := hx; simp only at hk hb hy; have hsl := sD k hs.length; have hpi : ∀ v ∈ (pickK k hs.length), 0 ≤ v ∧ v < (hs.length : Int) := fun v hv => lx6 hv; refine i8 (B6 rfl rfl rfl (d8 (j4 ?_)))
 first | refine m3 rfl (fun hb9 => ?_) (fun hb9 => ?_) | refine j7 rfl (fun hb9 => ?_) (fun hb9 => ?_)
 ·have hb9' := hb9; try simp at hb9'
  have hk2 : k < N := by omega
  refine k6 (j6 (j4 (k9 (i8 (c7 rfl (d5 rfl (k8 ?_))))))); refine c7 rfl (X5 (k : Int) rfl T.pP T.wH rfl (wrap64 (by omega)) ?_)
  first | refine a9 ⟨_, 1, none⟩ rfl rfl T.t3 rfl ?_ | refine a9 _ rfl rfl T.t3 rfl ?_
  refine b8 (v := .slice B hs.length cb) rfl T.m6 rfl (j3 mB rfl) (l7 rfl T.B4 rfl ?_); refine k5 F.iL rfl rfl (bB k hs.length (by omega) (by omega)) p6 trivial fun gc _ => ?_; refine u4 _ rfl rfl (fun _ => T.rS ..) ?_; refine y9 rfl (fun _ => T.nI _) fun gh => ?_; refine w4 (cs := #[.slice (c8 gc) (pickK k hs.length).length (pickK k hs.length).length, int 0, int 0]) rfl rfl (.refl _) T.E4 (by rfl) (by rfl) ?_; refine d8 (j4 (i8 ?_))
  first | refine a9 ⟨_, 0, none⟩ rfl rfl T.v7 rfl ?_ | refine a9 _ rfl rfl T.v7 rfl ?_
  refine b8 (v := .slice (c8 gc) (pickK k hs.length).length (pickK k hs.length).length) rfl T.i7 rfl (j0 mB rfl) (l7 rfl T.t7 rfl ?_); refine c7 rfl (d8 (k9 ?_)); refine w3 (β := Nat × Int) ⟨fun x => x.1 ≤ (pickK k hs.length).length ∧ x.2 = ((priP pr (pickK k hs.length)).take x.1).sum ∧ ∀ i, i < x.1 → 0 ≤ (hs.getD ((pickK k hs.length).getD i default).toNat default).2.1, fun x => [(1, .slice PA pr.length pc), (2, .slice WA ws.length wc), (4, .pointer (c8 gT)), (16, .pointer (c8 gB)), (17, .pointer (c8 g17)), (19, .pointer (c8 gh)), (75, int (N : Int)), (76, int k), (87, .slice (c8 gc) (pickK k hs.length).length (pickK k hs.length).length), (88, int (pickK k hs.length).length), (89, int x.1)], fun x => [(gh, Obj.cells #[.slice (c8 gc) (pickK k hs.length).length (pickK k hs.length).length, int 0, int x.2] T.Q9 (0, 0)), (gB, Obj.cells (offA y ok F.P3) T.A6 (0, 0))], fun x => [Row (c8 gc) (rows (pickK k hs.length)), Blk gT (Obj.cells #[.slice A cs.length ca, .slice B hs.length cb] T.C2 (0, 0)), Row A (rows cs), RowsF B hs Hd.row, Row PA (rows pr), Row WA (rows ws), Row (c8 g17) (rows [((⟨some ⟨go, 0, none⟩, hs.length, ps⟩) : Sl (Sl Bool))]), Row (c8 go) (rows ps), innerF ps, y.row]⟩ (fun x => (pickK k hs.length).length - x.1) (0, 0) ⟨Nat.zero_le _, rfl, fun j hj => absurd hj (Nat.not_lt_zero j)⟩ mC (.refl _) mC fun x hx => ?_; obtain ⟨j, b⟩ := x; obtain ⟨hj, hbs, hjp⟩ := hx; simp only at hj hbs hjp; have hbb := uG (priP_bd (pr := pr) hq1 (fun v hv => by have := hpi v hv; omega) : ∀ v ∈ (priP pr (pickK k hs.length)), 0 ≤ v ∧ v ≤ 1000000000) j; rw [← hbs] at hbb; refine i8 (B6 rfl rfl rfl (d8 (j4 ?_)))
  first | refine m3 rfl (fun hb10 => ?_) (fun hb10 => ?_) | refine j7 rfl (fun hb10 => ?_) (fun hb10 => ?_)
  ·have hb10' := hb10; try simp at hb10'
   have hj2 : j < (pickK k hs.length).length := by omega
   have hvj := hpi _ (w7 hj2); obtain ⟨v, hv⟩ : ∃ v : Nat, ((pickK k hs.length).getD j default) = (v : Int) := ⟨_, (Int.toNat_of_nonneg hvj.1).symm⟩; have hv2 : v < hs.length := by omega
   have hv3 : v < pr.length := by omega
   have hcv := hq1 _ (w7 hv3); have hcv1 := hcv.1; have hcv2 := hcv.2; have hb2' := qD (l := (priP pr (pickK k hs.length))) (k := j) (by rw [lx5]; exact hj2); rw [← hbs, priP_at hj2, hv, Int.toNat_natCast] at hb2'; refine k6 (j6 (j4 (k9 (i8 ?_)))); refine v6 (α := Int) _ _ rfl T.t7 T.w9 rfl rfl rfl mB rfl (by omega) (by decide) (b8 rfl T.b9 rfl (d6 mB (c9 (by omega) rfl)) ?_); refine d5 rfl (d8 (j4 (i8 ?_)))
   first | refine a9 ⟨_, 1, none⟩ rfl rfl T.t3 rfl ?_ | refine a9 _ rfl rfl T.t3 rfl ?_
   refine b8 (v := .slice B hs.length cb) rfl T.m6 rfl (j3 mB rfl) (c7 rfl (rq2 (A := B) (ps := hs) (f := Hd.row) mB (v6 (α := Hd) hs v rfl T.B4 T.J6 rfl rfl hv mB rfl hv2 (by decide) ?_)))
   first | refine a9 ⟨_, 1, none⟩ rfl rfl T.D9 rfl ?_ | refine a9 _ rfl rfl T.D9 rfl ?_
   refine b8 (v := int (hs.getD v default).2.1) rfl T.b9 rfl (d7 mB (rows_get hv2 (j := 1) rfl)) ?_; refine B6 rfl rfl rfl (d8 ?_)
   first | refine m3 rfl (fun hb11 => ?_) (fun hb11 => ?_) | refine j7 rfl (fun hb11 => ?_) (fun hb11 => ?_)
   ·have hb11' := hb11; try simp at hb11'
    refine u9 (U2 (iE rfl (D6 (iE rfl (U2 (u5 (j6 (j8 ?_)))))))); refine v4 _ rfl rfl rfl rfl r5 ?_; refine c7 rfl (d4 ?_); have hy8 := hy; exact again _ (k + 1, y, ok) ⟨by show k + 1 ≤ N; omega, by show (Hv.dat y, ok) = bestL ordP (fndL hs (reachK (trOf cs hs) p hs.length) pr ws (k + 1)); rw [sN, if_neg (kj6 hj2 (by rw [hv, Int.toNat_natCast]; exact hb11))]; exact hb, hy8⟩ (D5 (by omega)) mC (.cons _ (.refl _)) mC
   have hb11' := hb11; try simp at hb11'
   refine k6 (j6 ?_); refine I5 6 mixed (by decide) (by decide) rfl rfl ?_
   apply m8 _ rfl rfl rfl
   ·intro w1
    first | refine a9 ⟨_, 2, none⟩ rfl rfl T.w5 rfl ?_ | refine a9 _ rfl rfl T.w5 rfl ?_
    refine d4 ?_; exact k4 rfl
   refine l9 (fun w1 => b8 (v := int b) rfl T.b9 rfl (j3 mB rfl) (q_z rfl)) (l9 (fun w1 => c7 rfl (q_z rfl)) (l9 (fun w1 => c7 rfl (q_z rfl)) (l9 (fun w1 => v6 (α := Int) pr v rfl T.t7 T.w9 rfl rfl hv mB rfl hv3 (by decide) (q_z rfl)) (l9 (fun w1 => b8 (v := int (pr.getD v default)) rfl T.b9 rfl (d6 mB (c9 hv3 rfl)) (q_z rfl)) ?_)))); refine D1 ⟨rfl, ?_⟩; refine v4 (a := b) (b := pr.getD v default) (b + pr.getD v default) rfl rfl rfl rfl r5 ?_
   first | refine a9 ⟨_, 2, none⟩ rfl rfl T.w5 rfl ?_ | refine a9 _ rfl rfl T.w5 rfl ?_
   refine z9 rfl rfl (.refl _) T.w9 rfl rfl ?_; refine d4 (y6 (j6 (j8 ?_))); refine v4 _ rfl rfl rfl rfl r5 ?_; refine c7 rfl (d4 ?_); exact again _ (j + 1, b + pr.getD v default) ⟨by show j + 1 ≤ _; omega, hb2'.symm, fun i hi => (Nat.lt_succ_iff_lt_or_eq.1 hi).elim (hjp i) fun e => by subst e; rw [hv, Int.toNat_natCast]; exact Int.not_lt.1 hb11⟩ (D5 (by omega)) mC (.refl _) mC
  have hb10' := hb10; try simp at hb10'
  have hj2 : j = (pickK k hs.length).length := by omega
  rw [hj2, List.take_of_length_le (Nat.le_of_eq (lx5 ..))] at hbs; rw [hj2] at hjp; have hall := iN (l := (pickK k hs.length)) (p := fun v => 0 ≤ (hs.getD v.toNat default).2.1) hjp; refine u9 (D6 (u5 (j6 (j4 (i8 (c7 rfl ?_)))))); refine l7 rfl T.t7 rfl ?_; refine c7 rfl (d8 (k9 ?_)); refine w3 (β := Nat) ⟨fun i => i ≤ ws.length ∧ ∀ q, q < i → ((pickK k hs.length).any fun x => (((reachK (trOf cs hs) p hs.length)).getD (ws.getD q default).toNat default).getD x.toNat default) = true, fun i => [(1, .slice PA pr.length pc), (2, .slice WA ws.length wc), (4, .pointer (c8 gT)), (16, .pointer (c8 gB)), (17, .pointer (c8 g17)), (19, .pointer (c8 gh)), (75, int (N : Int)), (76, int k), (109, .slice WA ws.length wc), (110, int ws.length), (111, int i)], fun _ => [(gh, Obj.cells #[.slice (c8 gc) (pickK k hs.length).length (pickK k hs.length).length, int 0, int b] T.Q9 (0, 0)), (gB, Obj.cells (offA y ok F.P3) T.A6 (0, 0))], fun _ => [Row (c8 gc) (rows (pickK k hs.length)), Blk gT (Obj.cells #[.slice A cs.length ca, .slice B hs.length cb] T.C2 (0, 0)), Row A (rows cs), RowsF B hs Hd.row, Row PA (rows pr), Row WA (rows ws), Row (c8 g17) (rows [((⟨some ⟨go, 0, none⟩, hs.length, ps⟩) : Sl (Sl Bool))]), Row (c8 go) (rows ps), innerF ps, y.row]⟩ (fun i => ws.length - i) 0 ⟨Nat.zero_le _, fun j hj => absurd hj (Nat.not_lt_zero j)⟩ mC (.refl _) mC fun i hi => ?_; obtain ⟨hi, hq⟩ := hi; refine i8 (B6 rfl rfl rfl (d8 (j4 ?_)))
  first | refine m3 rfl (fun hb12 => ?_) (fun hb12 => ?_) | refine j7 rfl (fun hb12 => ?_) (fun hb12 => ?_)
  ·have hb12' := hb12; try simp at hb12'
   have hi2 : i < ws.length := by omega
   have hwi := hq2 _ (w7 hi2); obtain ⟨u, hu⟩ : ∃ u : Nat, (ws.getD i default) = (u : Int) := ⟨_, (Int.toNat_of_nonneg hwi.1).symm⟩; have hu2 : u < hs.length := by omega
   refine k6 (j6 (j4 (k9 (i8 ?_)))); refine v6 (α := Int) _ _ rfl T.t7 T.w9 rfl rfl rfl mB rfl (by omega) (by decide) (b8 rfl T.b9 rfl (d6 mB (c9 (by omega) rfl)) ?_); refine y9 rfl (fun _ => T.kx6 _) fun g23 => ?_; refine z9 rfl rfl (.refl _) T.w9 rfl rfl ?_; refine C6 (rows [(u : Int)]) (by show [int (u : Int)] <+: [int (ws.getD i default)]; rw [hu]; exact List.prefix_refl _) ?_; refine k8 ?_
   first | refine a9 ⟨_, 0, none⟩ rfl rfl T.v7 rfl ?_ | refine a9 _ rfl rfl T.v7 rfl ?_
   refine b8 (v := .slice (c8 gc) (pickK k hs.length).length (pickK k hs.length).length) rfl T.i7 rfl (j0 mB rfl) (hY rfl rfl rfl ?_); have hpu : (ps.getD u default).l = ((reachK (trOf cs hs) p hs.length)).getD u default := by rw [← hpm, A7 (l := ps.map (·.l)) (k := u) (by rw [List.length_map]; omega), A7 (l := ps) (k := u) (by omega), List.getElem_map]
   have hpl9 : (ps.getD u default).l.length = hs.length := by rw [hpu, A7 (by unfold reachK; simp; omega)]; unfold reachK; simp only [List.getElem_map, List.getElem_range]; rw [px6, qz4 h0 hu2]
   refine k5 F.dL rfl rfl (bI (A := some ⟨gc, 0, none⟩) (cap := [.pointer (c8 g17), .pointer (c8 g23)]) (L0 := [Row (c8 g17) (rows [((⟨some ⟨go, 0, none⟩, hs.length, ps⟩) : Sl (Sl Bool))]), Row (c8 g23) (rows [(u : Int)]), Row (c8 go) (rows ps), innerF ps]) (pickK k hs.length) (fun x => (ps.getD u default).l.getD x.toNat default) (by omega) F.bx6 (fun x hx => by
     have h9 := hpi x hx; obtain ⟨x', rfl⟩ : ∃ x' : Nat, x = (x' : Int) := ⟨x.toNat, by omega⟩; rw [Int.toNat_natCast]
     exact vV ps u x' (by omega) (by omega))) p6 mC fun _ _ => ?_
   rw [hpu]; refine M7 rfl rfl (d8 ?_)
   first | refine m3 rfl (fun hb13 => ?_) (fun hb13 => ?_) | refine j7 rfl (fun hb13 => ?_) (fun hb13 => ?_)
   ·have hb13' := hb13; try simp at hb13'
    refine u9 (iE rfl (D6 (iE rfl (U2 (u5 (j6 (j8 ?_))))))); refine v4 _ rfl rfl rfl rfl r5 ?_; refine c7 rfl (d4 ?_); have hy8 := hy; exact again _ (k + 1, y, ok) ⟨by show k + 1 ≤ N; omega, by show (Hv.dat y, ok) = bestL ordP (fndL hs (reachK (trOf cs hs) p hs.length) pr ws (k + 1)); rw [sN, if_neg (mj8 hi2 (by rw [hu, Int.toNat_natCast]; exact eq_false_of_ne_true (by simpa using hb13)))]; exact hb, hy8⟩ (D5 (by omega)) mC (.cons _ (.refl _)) mC
   have hb13' := hb13; try simp at hb13'
   refine k6 (y6 (j6 (j8 ?_))); refine v4 _ rfl rfl rfl rfl r5 ?_; refine c7 rfl (d4 ?_); exact again _ (i + 1) ⟨by show i + 1 ≤ ws.length; omega, fun q hq' => (Nat.lt_succ_iff_lt_or_eq.1 hq').elim (hq q) fun e => by subst e; rw [hu, Int.toNat_natCast]; simpa using hb13⟩ (D5 (by omega)) mC (.refl _) mC
  have hb12' := hb12; try simp at hb12'
  have hi2 : i = ws.length := by omega
  rw [hi2] at hq; have hall2 := iN (l := ws) (p := fun w => ((pickK k hs.length).any fun x => (((reachK (trOf cs hs) p hs.length)).getD w.toNat default).getD x.toNat default) = true) hq; refine u9 (D6 (u5 (j6 (j8 ?_)))); refine B5 (cs := #[.slice (c8 gc) (pickK k hs.length).length (pickK k hs.length).length, int 0, int b]) rfl T.L5 T.E4 rfl mB rfl ?_; refine k5 F.U0 rfl rfl (P8 rj0 ((⟨some ⟨gc, 0, none⟩, (pickK k hs.length).length, (pickK k hs.length)⟩, 0, b) : Hv) y ok (by show (pickK k hs.length).length ≤ 1000000; omega) (by omega)) (List.Perm.swap _ _ _) mC fun z hz => ?_; obtain ⟨z, zk⟩ := z; obtain ⟨hz, hzi⟩ := hz; refine d4 (y6 (j6 (j8 ?_))); refine v4 _ rfl rfl rfl rfl r5 ?_; refine c7 rfl (d4 ?_); have hyes := fnd_yes (ws := ws) (rs := (reachK (trOf cs hs) p hs.length)) hall hall2; have hXd : Hv.dat ((⟨some ⟨gc, 0, none⟩, (pickK k hs.length).length, (pickK k hs.length)⟩, 0, b) : Hv) = fndH pr (pickK k hs.length) := by show ((pickK k hs.length), (0 : Int), b) = _; rw [hbs]; rfl
  rcases hzi with rfl | rfl
  · have hy8 : ((⟨some ⟨gc, 0, none⟩, (pickK k hs.length).length, (pickK k hs.length)⟩, 0, b) : Hv).1.l.length ≤ 8 := by first | exact hy | (show (pickK k hs.length).length ≤ 8; omega)
    exact again _ (k + 1, ((⟨some ⟨gc, 0, none⟩, (pickK k hs.length).length, (pickK k hs.length)⟩, 0, b) : Hv), zk) ⟨by show k + 1 ≤ N; omega, by show (Hv.dat ((⟨some ⟨gc, 0, none⟩, (pickK k hs.length).length, (pickK k hs.length)⟩, 0, b) : Hv), zk) = bestL ordP (fndL hs (reachK (trOf cs hs) p hs.length) pr ws (k + 1)); rw [sN, if_pos hyes, sS, ← hb, ← hXd]; exact hz, hy8⟩ (D5 (by omega)) mC (by first | exact .cons_cons _ nil_sb | exact .cons _ (.refl _)) mC
  have hy8 : z.1.l.length ≤ 8 := by first | exact hy | (show (pickK k hs.length).length ≤ 8; omega)
  exact again _ (k + 1, z, zk) ⟨by show k + 1 ≤ N; omega, by show (Hv.dat z, zk) = bestL ordP (fndL hs (reachK (trOf cs hs) p hs.length) pr ws (k + 1)); rw [sN, if_pos hyes, sS, ← hb, ← hXd]; exact hz, hy8⟩ (D5 (by omega)) mC (by first | exact .cons_cons _ nil_sb | exact .cons _ (.refl _)) mC
 have hb9' := hb9; try simp at hb9'
 have hk2 : k = N := by omega
 rw [hk2, hN] at hb; have hb : (y.dat, ok) = fndB (trOf cs hs) hs pr ws p := hb; refine u9 (D6 (u5 (j6 (j4 (i8 ?_)))))
 first | refine a9 ⟨_, 3, none⟩ rfl rfl T.u0 rfl ?_ | refine a9 _ rfl rfl T.u0 rfl ?_
 refine b8 (v := .bool ok) rfl T.sO rfl (j0 mB rfl) ?_; refine M7 rfl rfl (d8 ?_)
 first | refine m3 rfl (fun hb14 => ?_) (fun hb14 => ?_) | refine j7 rfl (fun hb14 => ?_) (fun hb14 => ?_)
 ·have hb14' := hb14; try simp at hb14'
  refine i8 (d5 rfl (d5 rfl (d5 rfl (d8 (N4 (qU ?_)))))); have hE : foundE cs hs pr ws p = ([], 0, 11) := by rw [foundE, if_neg (Classical.not_not.2 h0), if_neg h2, if_neg h3, if_neg (Classical.not_not.2 hq1), if_neg (Classical.not_not.2 hq2), if_neg (Classical.not_not.2 h8), ← hb]; exact if_pos (by simpa using hb14)
  refine C3 (α := Int) ?_; exact ret3 (none, 0) rfl rfl rfl rfl (by show Value.tuple #[.slice none (foundE cs hs pr ws p).1.length 0, int (foundE cs hs pr ws p).2.1, int (foundE cs hs pr ws p).2.2] = _; rw [hE] <;> rfl) rfl trivial nil_sb (by show LSub _ [Row none (rows (foundE cs hs pr ws p).1)]; rw [hE]; exact mC)
 have hb14' := hb14; try simp at hb14'
 refine k6 (j6 (j4 ?_)); refine I5 7 mixed (by decide) (by decide) rfl rfl ?_
 apply m8 _ rfl rfl rfl
 ·intro w1
  first | refine a9 ⟨_, 0, none⟩ rfl rfl T.m9 rfl ?_ | refine a9 _ rfl rfl T.m9 rfl ?_
  refine d4 ?_; exact k4 rfl
 apply m8 _ rfl rfl rfl
 ·intro w1
  first | refine a9 ⟨_, 0, none⟩ rfl rfl T.v7 rfl ?_ | refine a9 _ rfl rfl T.v7 rfl ?_
  refine d4 ?_; exact k4 rfl
 apply m8 _ rfl rfl rfl
 ·intro w1
  first | refine b8 rfl T.i7 rfl (j3 mB rfl) ?_ | refine b8 rfl T.i7 rfl (j0 mB rfl) ?_ | refine b8 rfl T.i7 rfl (d6 mB (c9 (by omega) rfl)) ?_ | refine b8 rfl T.i7 rfl (d7 mB (rows_get (by omega) rfl)) ?_ | refine b8 rfl T.i7 rfl (j5 mB rfl) ?_
  refine d4 ?_; exact k4 rfl
 apply m8 _ rfl rfl rfl
 ·intro w1
  first | refine a9 ⟨_, 0, none⟩ rfl rfl T.m9 rfl ?_ | refine a9 _ rfl rfl T.m9 rfl ?_
  refine d4 ?_; exact k4 rfl
 apply m8 _ rfl rfl rfl
 ·intro w1
  first | refine a9 ⟨_, 2, none⟩ rfl rfl T.w5 rfl ?_ | refine a9 _ rfl rfl T.w5 rfl ?_
  refine d4 ?_; exact k4 rfl
 apply m8 _ rfl rfl rfl
 ·intro w1
  first | refine b8 rfl T.b9 rfl (j3 mB rfl) ?_ | refine b8 rfl T.b9 rfl (j0 mB rfl) ?_ | refine b8 rfl T.b9 rfl (d6 mB (c9 (by omega) rfl)) ?_ | refine b8 rfl T.b9 rfl (d7 mB (rows_get (by omega) rfl)) ?_ | refine b8 rfl T.b9 rfl (j5 mB rfl) ?_
  refine d4 ?_; exact k4 rfl
 refine l9 (fun w1 => d5 rfl (q_z rfl)) ?_; refine D1 ⟨rfl, ?_⟩; refine d5 rfl (d5 rfl (d8 (l5 (qU ?_)))); have hE : foundE cs hs pr ws p = (y.1.l, y.2.2, 0) := by rw [foundE, if_neg (Classical.not_not.2 h0), if_neg h2, if_neg h3, if_neg (Classical.not_not.2 hq1), if_neg (Classical.not_not.2 hq2), if_neg (Classical.not_not.2 h8), ← hb]; exact if_neg (by simpa using hb14)
 exact ret3 (y.1.a, y.1.c) rfl rfl rfl rfl (by show Value.tuple #[.slice y.1.a (foundE cs hs pr ws p).1.length y.1.c, int (foundE cs hs pr ws p).2.1, int (foundE cs hs pr ws p).2.2] = _; rw [hE] <;> rfl) rfl trivial nil_sb (by show LSub _ [Row y.1.a (rows (foundE cs hs pr ws p).1)]; rw [hE]; exact mC)
end Go.Proofs.YtcdopfjiadifhaaGreatDoor
end
section
namespace Go.Proofs.YtcdopfjiadifhaaGreatDoor
open Go Go.W
set_option maxRecDepth 20000
attribute [local irreducible] HL HC HQ HB Row Rows2 Blk Facts
theorem qz9 : billsE ctrC [0, 0, 3] ctrA = ([9, 27, 120], 0) := by kernel_rfl
theorem qz7 : worthE ctrC [0, 0, 3] someA (1, 1, 1) = (8, 0) := by kernel_rfl
theorem tj5 : fillE kZ 5 = ([0, 1], 80, 0) := by kernel_rfl
theorem nx3 : sheetsE 100 12 4 = (3, 44, 0) := by kernel_rfl
theorem qz8 (g1 g2 : Nat) : foundE shopsC (shopsH g1 g2) [5, 9, 4, 7, 6, 9] [1, 2] 1 = ([2, 3], 11, 0) := by kernel_rfl
theorem tz7 (x : Nat × Nat) : Meets Tryz.prog F.nG [saV ctrC (ctrP x.1) (ctrQ x.2)] { LI := saL (ctrP x.1) (ctrQ x.2), inv := fun y : OutC => 3 ≤ y.2, val := fun y => .tuple #[.slice y.1 3 y.2, int 0], LO := fun y => [Row y.1 (rows ([9, 27, 120] : List Int))] } := by
  have h := aq1 ctrC (ctrP x.1) (ctrQ x.2) (show 3 ≤ 1000000 by decide) (show 3 ≤ 1000000 by decide); rw [show billsE ctrC (ctrP x.1).l (ctrQ x.2).l = ([9, 27, 120], 0) from qz9] at h; exact h
theorem tz4 (x : Nat × Nat) : Meets Tryz.prog F.nD [saV ctrC (ctrP x.1) (someQ x.2), adV (1, 1, 1)] { LI := saL (ctrP x.1) (someQ x.2), val := fun _ : Unit => .tuple #[int 8, int 0] } := by
  have h := aj8 ctrC (ctrP x.1) (someQ x.2) (1, 1, 1) (show 3 ≤ 1000000 by decide) (show 2 ≤ 1000000 by decide) (Nat.le_refl 2); rw [show worthE ctrC (ctrP x.1).l (someQ x.2).l (1, 1, 1) = (8, 0) from qz7] at h; exact h
theorem ex_fill (g : Nat) : Meets Tryz.prog F.sR [.slice (c8 g) 3 3, int 5] { LI := [Row (c8 g) (rows kZ)], val := fun y : OutC => .tuple #[.slice y.1 2 y.2, int 80, int 0], LO := fun y => [Row y.1 (rows ([0, 1] : List Int))] } := by
  have h := bx8 (A := some ⟨g, 0, none⟩) (ca := 3) kZ 5 (by decide); rw [tj5] at h; exact h
theorem rx3 : Meets Tryz.prog F.jC [int 100, int 12, int 4] { val := fun _ : Unit => .tuple #[int 3, int 44, int 0] } := by
  have h := yL 100 12 4; rw [nx3] at h; exact h
theorem tz6 (x : Nat × Nat × Nat × Nat) (g h : Nat) : Meets Tryz.prog F.nF [.agg #[.slice (some ⟨x.1, 0, none⟩) 4 4, .slice (some ⟨x.2.1, 0, none⟩) 6 6], .slice (c8 g) 6 6, .slice (c8 h) 2 2, int 1] { LI := [Row (some ⟨x.1, 0, none⟩) (rows shopsC), RowsF (some ⟨x.2.1, 0, none⟩) (shopsH x.2.2.1 x.2.2.2) Hd.row, Row (c8 g) (rows ([5, 9, 4, 7, 6, 9] : List Int)), Row (c8 h) (rows ([1, 2] : List Int))], val := fun y : OutC => .tuple #[.slice y.1 2 y.2, int 11, int 0], LO := fun y => [Row y.1 (rows ([2, 3] : List Int))] } := by
  have h := aq0 (A := some ⟨x.1, 0, none⟩) (B := some ⟨x.2.1, 0, none⟩) (PA := some ⟨g, 0, none⟩) (WA := some ⟨h, 0, none⟩) (ca := 4) (cb := 6) (pc := 6) (wc := 2) shopsC (shopsH x.2.2.1 x.2.2.2) [5, 9, 4, 7, 6, 9] [1, 2] 1 (by decide) (Nat.le_refl 6) (by intro h hh; simp only [shopsH, List.mem_cons, List.not_mem_nil, or_false] at hh; rcases hh with rfl | rfl | rfl | rfl | rfl | rfl <;> first | decide | exact (show 1 ≤ 1000000 by decide)) (by decide) (by decide); rw [qz8] at h; exact h
theorem tz5 {A B : Option Addr} {ca cb : Nat} : Meets Tryz.prog F.iD [.slice A 3 ca, .slice B 3 cb] { LI := [Row A (rows ([9, 27, 120] : List Int)), Row B (rows ([9, 27, 120] : List Int))], val := fun _ : Unit => .bool true } := by
  have h := bQ (A := A) (B := B) (ca := ca) (cb := cb) [9, 27, 120] [9, 27, 120] (by decide); rw [decide_eq_true rfl] at h; exact h
theorem mq1 {A B : Option Addr} {ca cb : Nat} (a b : Int) : Meets Tryz.prog F.iD [.slice A 2 ca, .slice B 2 cb] { LI := [Row A (rows [a, b]), Row B (rows [a, b])], val := fun _ : Unit => .bool true } := by
  have h := bQ (A := A) (B := B) (ca := ca) (cb := cb) [a, b] [a, b] (show 2 ≤ 9223372036854775806 by decide); rw [decide_eq_true rfl] at h; exact h
set_option maxHeartbeats 1000000 in
theorem Z0 : Meets Tryz.prog F.mK [] { val := fun _ : Unit => .bool true } := by
 refine i9 F.dj0 rfl r6 fun w0 => ?_; refine i8 (d5 rfl (k8 ?_)); refine k5 F.lA rfl rfl (dE) p6 trivial fun x1 _ => ?_; refine k5 F.hx4 rfl rfl (tz7 x1) p6 mC fun y1 _ => ?_; refine c7 rfl (p8 rfl rfl rfl (p8 rfl rfl rfl (d5 rfl (d5 rfl (k8 ?_))))); refine k5 F.gx8 rfl rfl (zQ) p6 trivial fun x2 _ => ?_; refine u4 _ rfl rfl (fun _ => T.D3 ..) ?_; refine k5 F.hq7 rfl rfl (tz4 x2) p6 mC fun _ _ => ?_; refine c7 rfl (p8 rfl rfl rfl (p8 rfl rfl rfl (d5 rfl (d5 rfl (k8 ?_))))); refine k5 F.dj1 rfl rfl (xK) p6 trivial fun x3 _ => ?_; refine k5 F.kx0 rfl rfl (ex_fill x3) p6 mC fun y3 _ => ?_; refine c7 rfl (p8 rfl rfl rfl (p8 rfl rfl rfl (p8 rfl rfl rfl (d5 rfl (d5 rfl (d5 rfl (k8 ?_))))))); refine k5 F.cz8 rfl rfl (xI) p6 trivial fun x4 _ => ?_; refine k5 F.cz9 rfl rfl (xJ) p6 trivial fun x5 _ => ?_; refine q7 _ rfl rfl (fun _ => T.zY ..) fun gw => ?_; refine C6 (rows ([1, 2] : List Int)) (List.prefix_refl _) ?_; refine k5 F.hq9 rfl rfl (tz6 x4 x5 gw) p6 mC fun y4 _ => ?_; refine c7 rfl (p8 rfl rfl rfl (p8 rfl rfl rfl (p8 rfl rfl rfl (d5 rfl (d5 rfl (d5 rfl (k8 ?_))))))); refine k5 F.gj1 rfl rfl (rx3) p6 trivial fun _ _ => ?_; refine c7 rfl (p8 rfl rfl rfl (p8 rfl rfl rfl (p8 rfl rfl rfl (d5 rfl (d5 rfl (d5 rfl (k8 (c7 rfl ?_)))))))); refine H0 rfl rfl rfl (c7 rfl ?_); refine u6 rfl rfl ?_ ?_
 ·intro hg1; have hg1' := hg1; try simp at hg1'
  refine l3 rfl rfl hg1 (c7 rfl (l3 rfl rfl hg1 (H0 rfl rfl rfl ?_))); refine p_t rfl rfl (bt1 hg1) rfl (c7 rfl ?_); refine u6 rfl rfl ?_ ?_
  ·intro hg2; have hg2' := hg2; try simp at hg2'
   refine l3 rfl rfl hg2 (c7 rfl (l3 rfl rfl hg2 (H0 rfl rfl rfl ?_))); refine p_t rfl rfl (bt1 hg2) rfl (c7 rfl ?_); refine u6 rfl rfl ?_ ?_
   ·intro hg3; have hg3' := hg3; try simp at hg3'
    refine l3 rfl rfl hg3 (c7 rfl (l3 rfl rfl hg3 (H0 rfl rfl rfl ?_))); refine p_t rfl rfl (bt1 hg3) rfl (c7 rfl ?_); refine u6 rfl rfl ?_ ?_
    ·intro hg4; have hg4' := hg4; try simp at hg4'
     refine l3 rfl rfl hg4 (c7 rfl (l3 rfl rfl hg4 (H0 rfl rfl rfl ?_))); refine p_t rfl rfl (bt1 hg4) rfl (c7 rfl ?_); refine u6 rfl rfl ?_ ?_
     ·intro hg5; have hg5' := hg5; try simp at hg5'
      refine l3 rfl rfl hg5 (c7 rfl (l3 rfl rfl hg5 (H0 rfl rfl rfl ?_))); refine p_t rfl rfl (bt1 hg5) rfl (c7 rfl ?_); refine u6 rfl rfl ?_ ?_
      ·intro hg6; have hg6' := hg6; try simp at hg6'
       refine l3 rfl rfl hg6 (c7 rfl (l3 rfl rfl hg6 (H0 rfl rfl rfl ?_))); refine p_t rfl rfl (bt1 hg6) rfl (c7 rfl ?_); refine u6 rfl rfl ?_ ?_
       ·intro hg7; have hg7' := hg7; try simp at hg7'
        refine l3 rfl rfl hg7 (c7 rfl (l3 rfl rfl hg7 (H0 rfl rfl rfl ?_))); refine p_t rfl rfl (bt1 hg7) rfl (c7 rfl ?_); refine u6 rfl rfl ?_ ?_
        ·intro hg8; have hg8' := hg8; try simp at hg8'
         refine l3 rfl rfl hg8 (c7 rfl (l3 rfl rfl hg8 (H0 rfl rfl rfl ?_))); refine p_t rfl rfl (bt1 hg8) rfl (c7 rfl ?_); refine u6 rfl rfl ?_ ?_
         ·intro hg9; have hg9' := hg9; try simp at hg9'
          refine l3 rfl rfl hg9 (c7 rfl (l3 rfl rfl hg9 (H0 rfl rfl rfl ?_))); refine p_t rfl rfl (bt1 hg9) rfl (c7 rfl ?_); refine u6 rfl rfl ?_ ?_
          ·intro hg10; have hg10' := hg10; try simp at hg10'
           refine l3 rfl rfl hg10 (c7 rfl (l3 rfl rfl hg10 ?_)); refine q7 _ rfl rfl (fun _ => T.gE ..) fun g40 => ?_; refine C6 (rows ([9, 27, 120] : List Int)) (List.prefix_refl _) (l3 rfl rfl hg10 ?_); refine k5 F.cA rfl rfl (tz5) p6 mC fun _ _ => ?_; refine p_t rfl rfl (bt1 hg10) rfl (c7 rfl ?_); refine u6 rfl rfl ?_ ?_
           ·intro hg11; have hg11' := hg11; try simp at hg11'
            refine l3 rfl rfl hg11 (c7 rfl (l3 rfl rfl hg11 ?_)); refine q7 _ rfl rfl (fun _ => T.zY ..) fun g45 => ?_; refine C6 (rows ([0, 1] : List Int)) (List.prefix_refl _) (l3 rfl rfl hg11 ?_); refine k5 F.cA rfl rfl (mq1 0 1) p6 mC fun _ _ => ?_; refine p_t rfl rfl (bt1 hg11) rfl (c7 rfl ?_); refine u6 rfl rfl ?_ ?_
            ·intro hg12; have hg12' := hg12; try simp at hg12'
             refine l3 rfl rfl hg12 (c7 rfl (l3 rfl rfl hg12 ?_)); refine q7 _ rfl rfl (fun _ => T.zY ..) fun g50 => ?_; refine C6 (rows ([2, 3] : List Int)) (List.prefix_refl _) (l3 rfl rfl hg12 ?_); refine k5 F.cA rfl rfl (mq1 2 3) p6 mC fun _ _ => ?_; refine p_t rfl rfl (bt1 hg12) rfl ?_; refine d5 rfl (d8 (l5 ?_)); exact ret1 () rfl rfl rfl trivial nil_sb trivial
            intro hg12; have hg12' := hg12; try simp at hg12'
           intro hg11; have hg11' := hg11; try simp at hg11'
          intro hg10; have hg10' := hg10; try simp at hg10'
         intro hg9; have hg9' := hg9; try simp at hg9'
        intro hg8; have hg8' := hg8; try simp at hg8'
       intro hg7; have hg7' := hg7; try simp at hg7'
      intro hg6; have hg6' := hg6; try simp at hg6'
     intro hg5; have hg5' := hg5; try simp at hg5'
    intro hg4; have hg4' := hg4; try simp at hg4'
   intro hg3; have hg3' := hg3; try simp at hg3'
  intro hg2; have hg2' := hg2; try simp at hg2'
 intro hg1; have hg1' := hg1; try simp at hg1'
end Go.Proofs.YtcdopfjiadifhaaGreatDoor
end
section
namespace Go.W
open Go Go.RowKit Go.Conc
section
variable {P : Program} {b : Frame} {a : Act} {k : List Item} {cs : List Frame} {w : World} {Goal : Goroutine → World → Prop}
/-! ### Functions that may die -/
def postE (P : Program) (fn : Func) (R : Value → World → Prop) (D : List PanicEntry → World → Prop) : Exit → Act → World → Prop
  | .normal, a, w | .ret, a, w => a.defers = [] ∧ ∃ v, (∀ d, (results fn a.tmps).run P (w.at d) = .ok v (w.at d)) ∧ R v w
  | .panic ch, a, w => a.defers = [] ∧ D ch w
  | _, _, _ => False
theorem lx0 (a : Act) (k : List Item) (ch : List PanicEntry) (h : b.mode = .run) : (b.at a k).raise ch = { b.at a k with mode := .panicking ch } := by
  have : (b.at a k).mode = .run := rfl; unfold Frame.raise; rw [this]
theorem rz3 {f : FuncId} {fn : Func} {c : Code} {args : Array Value} {R : Value → World → Prop} {D : List PanicEntry → World → Prop} (hf : P.funcs[f]? = some fn) (hb : fn.body = some c)
    (h : cwp P c (postE P fn R D) { tmps := args ++ Array.replicate (fn.ntmps - args.size) undef, defers := [] } w) : CallsE P f args w R D := by
  intro cs Goal hk hd; rw [enter_at args hf hb]; refine h (base f) [] cs Goal (by simp [base]) fun e a' w' hq => ?_
  cases e with
  | normal =>
    obtain ⟨hdf, v, hr, hR⟩ := hq; exact H2 rfl (fun _ => stepG_end) (hk _ v w' rfl hR ⟨rfl, hdf, rfl, fn, hf, hr⟩)
  | ret =>
    obtain ⟨hdf, v, hr, hR⟩ := hq; exact fun k₁ => H2 rfl (fun _ => stepG_ret') (hk _ v w' rfl hR ⟨rfl, hdf, rfl, fn, hf, hr⟩)
  | exit id => exact hq.elim
  | goto l => exact hq.elim
  | panic ch =>
    intro k₁; rw [lx0 _ _ _ rfl]; exact hd _ ch w' hq.2 ⟨rfl, hq.1, rfl, fn, hf⟩
  | outgrown => trivial
/-! ### Deferred calls -/
def LvD (P : Program) (fr : Frame) (w : World) (v : Value) : Prop :=
  fr.mode = .returning ∧ fr.defers = [] ∧ fr.kind = .deferred ∧ ∃ fn, P.funcs[fr.fn]? = some fn ∧ ∀ d, (results fn fr.tmps).run P (w.at d) = .ok v (w.at d)
def CallsDB (P : Program) (g : FuncId) (args : Array Value) (u : FrameMode) (w : World) (R : Value → World → Prop) (u' : FrameMode) : Prop :=
  ∀ (c : Frame) (cs : List Frame) (Goal : Goroutine → World → Prop), c.mode = u → (∀ fr v w', R v w' → LvD P fr w' v → Co P (G fr ({ c with mode := u' } :: cs)) w' Goal) → Co P (G (Frame.enter P g args .deferred) (c :: cs)) w Goal
def Mend (u : FrameMode) : Prop := u = .returning ∨ ∃ v, u = .panicking [{ v, recovered := true }]
theorem rz2 {fr c : Frame} {v : Value} {u : FrameMode} (h : LvD P fr w v) (hm : c.mode = u) (hu : Mend u) (hk : Co P (G { c with mode := .returning } cs) w Goal) : Co P (G fr (c :: cs)) w Goal := by
  obtain ⟨h1, hd, hn, fn, hf, hr⟩ := h; refine mW rfl fun d => ⟨_, w.at d, seen P fr.fn ((results fn fr.tmps).events P (w.at d) #[]), ?_, sP (W6 (jR fn fr.tmps) _), dz4 hk d⟩
  rcases hu with rfl | ⟨x, rfl⟩
  · have e : { c with mode := FrameMode.returning } = c := by rw [← hm]
    rw [e]
    simp [G, stepG, unwind, doReturn, hn, hd, h1, hf, hr d, hm, GStep.after]
  simp [G, stepG, unwind, doReturn, hn, hd, h1, hf, hr d, hm, GStep.after]
def Door (P : Program) (f : FuncId) (tmps : Array Value) (ds : List Deferred) (u : FrameMode) (w : World) (R : Value → World → Prop) : Prop :=
  ∀ (fr : Frame) (cs : List Frame) (Goal : Goroutine → World → Prop), fr.fn = f → fr.mode = u → fr.defers = ds → fr.tmps = tmps → fr.kind = .normal →
    (∀ fr v w', fr.fn = f → R v w' → Lv P fr w' v → Co P (G fr cs) w' Goal) → Co P (G fr cs) w Goal
theorem uj1 {f : FuncId} {fn : Func} {tmps : Array Value} {R : Value → World → Prop} {v : Value} (hf : P.funcs[f]? = some fn) (hr : ∀ d, (results fn tmps).run P (w.at d) = .ok v (w.at d)) (hR : R v w) : Door P f tmps [] .returning w R := by
  intro fr cs Goal h1 h2 h3 h4 h5 hk; subst h1 h4; exact hk fr v w rfl hR ⟨h2, h3, h5, fn, hf, hr⟩
theorem rx5 {f g : FuncId} {tmps : Array Value} {R R' : Value → World → Prop} {ds : List Deferred} {cap args : Array Value} {u u' : FrameMode} (hcb : Callable P g) (hu : u ≠ .run) (hm : Mend u')
    (hc : CallsDB P g (args ++ cap) u w R' u') (hk : ∀ v w', R' v w' → Door P f tmps ds .returning w' R) : Door P f tmps ({ target := .fn (.func g) cap, args := args } :: ds) u w R := by
  intro fr cs Goal h1 h2 h3 h4 h5 hk2; refine mW rfl fun d => ⟨G (Frame.enter P g (args ++ cap) .deferred) ({ fr with defers := ds } :: cs), w.at d, seen P fr.fn ((callFunc g (args ++ cap)).events P (w.at d) #[]), ?_, sP (by rw [hcb.events]; simp), dz4 ?_ d⟩
  · have hi := hcb.run (args ++ cap) (w.at d)
    cases u with
    | run => exact absurd rfl hu
    | returning => simp [G, stepG, unwind, callDeferred, h2, h3, invoke, Sem.runT_eq, hi, GStep.after]
    | panicking ch => simp [G, stepG, unwind, callDeferred, h2, h3, invoke, Sem.runT_eq, hi, GStep.after]
  refine hc { fr with defers := ds } cs Goal h2 fun fr' v w' hR hl => ?_; refine rz2 hl rfl hm ?_; exact hk v w' hR { fr with defers := ds, mode := .returning } cs Goal h1 rfl rfl h4 h5 hk2
def postD (P : Program) (f : FuncId) (R : Value → World → Prop) : Exit → Act → World → Prop
  | .normal, a, w | .ret, a, w => Door P f a.tmps a.defers .returning w R
  | .panic ch, a, w => Door P f a.tmps a.defers (.panicking ch) w R
  | _, _, _ => False
theorem pj4 {f : FuncId} {fn : Func} {c : Code} {args : Array Value} {R : Value → World → Prop} (hf : P.funcs[f]? = some fn) (hb : fn.body = some c)
    (h : cwp P c (postD P f R) { tmps := args ++ Array.replicate (fn.ntmps - args.size) undef, defers := [] } w) : CallsB P f args w R := by
  intro cs Goal hk; rw [enter_at args hf hb]; refine h (base f) [] cs Goal (by simp [base]) fun e a' w' hq => ?_
  cases e with
  | normal => exact H2 rfl (fun _ => stepG_end) (hq _ cs Goal rfl rfl rfl rfl rfl hk)
  | ret => exact fun k₁ => H2 rfl (fun _ => stepG_ret') (hq _ cs Goal rfl rfl rfl rfl rfl hk)
  | exit id => exact hq.elim
  | goto l => exact hq.elim
  | panic ch =>
    intro k₁; rw [lx0 _ _ _ rfl]; exact hq _ cs Goal rfl rfl rfl rfl rfl hk
  | outgrown => trivial
/-! ### The closure that recovers -/
def recM : FrameMode → Value × FrameMode
  | .panicking ({ v, recovered := false, goexit := false } :: older) => (v, .panicking ({ v, recovered := true } :: older))
  | u => (.nilIface, u)
theorem qz3 (v : Value) : recM (.panicking [{ v, recovered := false }]) = (v, .panicking [{ v, recovered := true }]) := rfl
theorem sz0 : recM .returning = (.nilIface, .returning) := rfl
theorem nz9 {ops : Array Oper} {i : Nat} {rest : List Nat} {o : Oper} {c : Frame} (ho : ops[i]? = some o) (hw : Region.wanted o (yielded ops a.tmps) = true) (hr : ∀ w, (execOp a.eval o).run P w = .ok .recover w) (he : ∀ w, (execOp a.eval o).events P w #[] = #[])
    (hk : b.kind = .deferred) (hro : b.roundOf = none) (next : Co P (G (b.at (a.put o.dst (recM c.mode).1) (.inRegion ops rest :: k)) ({ c with mode := (recM c.mode).2 } :: cs)) w Goal) : Co P (G (b.at a (.inRegion ops (i :: rest) :: k)) (c :: cs)) w Goal := by
  refine mW rfl fun d => ⟨_, w.at d, #[], ?_, by simp, dz4 next d⟩; have h1 : (b.kind == CallKind.early) = false := by rw [hk]; rfl
  rw [← fin_at ho, stepG_oper ho hw]; obtain ⟨f, tm, td, df, md, kd, ro⟩ := c; have hro' : (b.at a (.inRegion ops (i :: rest) :: k)).roundOf = none := rfl; have hk' : (b.at a (.inRegion ops (i :: rest) :: k)).kind = .deferred := hk; generalize b.at a (.inRegion ops (i :: rest) :: k) = fr at *
  cases md with
  | run => simp [stepG.apply, hr, he, G, hro', hk', tryRecover, GStep.after, recM, seen_none]
  | returning => simp [stepG.apply, hr, he, G, hro', hk', tryRecover, GStep.after, recM, seen_none]
  | panicking ch =>
    rcases ch with _ | ⟨⟨v, r, g⟩, older⟩
    · simp [stepG.apply, hr, he, G, hro', hk', tryRecover, GStep.after, recM, seen_none]
    cases r <;> cases g <;> simp [stepG.apply, hr, he, G, hro', hk', tryRecover, GStep.after, recM, seen_none]
end
/-! ### Contracts -/
def diesP {β γ : Type} (k : Con β) (k2 : Con γ) (w : World) (ch : List PanicEntry) (w' : World) : Prop := ∃ y, ch = [{ v := k2.val y, recovered := false }] ∧ k2.inv y ∧ WI (k.entry w) w' (k2.hpO y) (k2.LO y)
def MeetsE (P : Program) (f : Nat) (args : List Value) {β γ : Type} (k : Con β) (k2 : Con γ) : Prop :=
  ∀ w, WI (k.entry w) w k.hpI k.LI → CallsE P f args.toArray w (k.post w) (diesP k k2 w)
theorem okArgs {P : Program} {fn : Func} {bx : Bx} {args : List Value} (hn : args.length ≤ fn.ntmps) : Ok ⟨P, fn.ntmps, bx, [], none⟩ { tmps := args.toArray ++ Array.replicate (fn.ntmps - args.toArray.size) undef, defers := [] } (argFr 0 args) := by
  refine ⟨rfl, by simp; omega, fun t v hv => ?_⟩; obtain ⟨_, h2⟩ := qV args 0 t v hv; simp only [Nat.sub_zero] at h2
  have hlt : t < args.length := by
    rcases Nat.lt_or_ge t args.length with h' | h'
    · exact h'
    rw [List.getElem?_eq_none h'] at h2; cases h2
  rw [List.getElem?_eq_getElem hlt] at h2
  injection h2 with h2
  simp [Array.getElem?_append, hlt, h2]
theorem mJ {β γ : Type} {P : Program} {f : Nat} {args : List Value} {k : Con β} {k2 : Con γ} {fn : Func} {code : Code} (hf : P.funcs[f]? = some fn) (hb : fn.body = some code) (hn : args.length ≤ fn.ntmps)
    (h : ∀ w, HC ⟨P, fn.ntmps, k.entry w, [], none⟩ code (postE P fn (k.post w) (diesP k k2 w)) (argFr 0 args) k.hpI k.LI) : MeetsE P f args k k2 :=
  fun w hw => rz3 hf hb (h w _ w (okArgs hn) hw)
theorem jz4 {β : Type} {P : Program} {f : Nat} {args : List Value} {k : Con β} {fn : Func} {code : Code} (hf : P.funcs[f]? = some fn) (hb : fn.body = some code) (hn : args.length ≤ fn.ntmps)
    (h : ∀ w, HC ⟨P, fn.ntmps, k.entry w, [], none⟩ code (postD P f (k.post w)) (argFr 0 args) k.hpI k.LI) : Meets P f args k :=
  fun w hw => pj4 hf hb (h w _ w (okArgs hn) hw)
def MeetsR (P : Program) (g : Nat) (args : List Value) (u u' : FrameMode) {β : Type} (k : Con β) : Prop :=
  ∀ w, WI (k.entry w) w k.hpI k.LI → CallsDB P g args.toArray u w (k.post w) u'
theorem xF {β : Type} {P : Program} {g : Nat} {args : List Value} {u u' : FrameMode} {v : Value} {k : Con β} {fn : Func} {id : Nat} {d : Tmp} {op : Op} {ty : TypeId} {pos : String} {af : Array Edge} {l : List Oper} {rest : Code} (hrec : recM u = (v, u'))
    (hf : P.funcs[g]? = some fn) (hb : fn.body = some (.seq (.region id ((⟨some d, op, ty, pos, af, none⟩ : Oper) :: l).toArray false) rest)) (hn : args.length ≤ fn.ntmps) (hd : Nat.blt d fn.ntmps = true)
    (hr : ∀ ρ w, (execOp ρ (⟨some d, op, ty, pos, af, none⟩ : Oper)).run P w = .ok .recover w) (he : ∀ ρ w, (execOp ρ (⟨some d, op, ty, pos, af, none⟩ : Oper)).events P w #[] = #[])
    (h : ∀ w, HL ⟨P, fn.ntmps, k.entry w, [], none⟩ ((⟨some d, op, ty, pos, af, none⟩ : Oper) :: l).toArray (Exit.then (cw ⟨P, fn.ntmps, k.entry w, [], none⟩ rest (postB P fn (k.post w))) (postB P fn (k.post w))) l ((d, v) :: argFr 0 args) k.hpI k.LI) : MeetsR P g args u u' k := by
  intro w hw c cs Goal hu hk; rw [enter_atD args.toArray hf hb]; refine H2 rfl (fun _ => stepG_seq) (H2 rfl (fun _ => stepG_region) ?_)
  have e : List.range ((⟨some d, op, ty, pos, af, none⟩ : Oper) :: l).toArray.size = 0 :: List.range' 1 l.length := by
    simp [List.range_eq_range', List.range'_succ]
  rw [e]; refine nz9 (o := ⟨some d, op, ty, pos, af, none⟩) (by simp) (by simp [Region.wanted]) (hr _) (he _) rfl rfl ?_; rw [hu, hrec]
  have hQ : ∀ e a' w', postB P fn (k.post w) e a' w' → Conts P (baseD g) [] ({ c with mode := u' } :: cs) Goal e a' w' := by
    intro e a' w' hq
    cases e with
    | normal =>
      obtain ⟨hd, v, hr, hR⟩ := hq; exact H2 rfl (fun _ => stepG_end) (hk _ v w' hR ⟨rfl, hd, rfl, fn, hf, hr⟩)
    | ret =>
      obtain ⟨hd, v, hr, hR⟩ := hq; exact fun k₁ => H2 rfl (fun _ => stepG_ret') (hk _ v w' hR ⟨rfl, hd, rfl, fn, hf, hr⟩)
    | exit id => exact hq.elim
    | goto l => exact hq.elim
    | panic ch => exact hq.elim
    | outgrown => trivial
  refine vG (b := baseD g) (Q := Exit.then (cw ⟨P, fn.ntmps, k.entry w, [], none⟩ rest (postB P fn (k.post w))) (postB P fn (k.post w))) (by simp [baseD]) (fun e a' w' hq => ?_) _ _ _ (pq2 l 1 _ w rfl (h w _ w ((okArgs hn).put (by simpa using hd) v) hw))
  cases e with
  | normal => exact hq (baseD g) [] _ Goal (by simp [baseD]) hQ
  | exit id => exact hq.elim
  | goto l => exact hq.elim
  | ret => exact hQ .ret a' w' hq
  | panic ch => exact hq.elim
  | outgrown => trivial
section
variable {c : Cx} {Q : Exit → Act → World → Prop} {fr : Fr} {hp : Hp} {L : List Fact} {ops : Array Oper} {rest : List Oper}
theorem E7 {K : Act → World → Prop} {ch : List PanicEntry} (h : HQ c Q (.panic ch) fr hp L) : HQ c (Exit.then K Q) (.panic ch) fr hp L := fun a w ha hw => h a w ha hw
theorem I4 {id : Nat} {ch : List PanicEntry} (h : HQ c Q (.panic ch) fr hp L) : HQ c (Exit.inBlock id Q) (.panic ch) fr hp L := fun a w ha hw => h a w ha hw
theorem hq_E {fn : Func} {P : Program} {R : Value → World → Prop} {D : List PanicEntry → World → Prop} (h : HQ c (postB P fn R) .ret fr hp L) : HQ c (postE P fn R D) .ret fr hp L := fun a w ha hw => h a w ha hw
theorem dq3 {fn : Func} {P : Program} {R : Value → World → Prop} {D : List PanicEntry → World → Prop} (h : HQ c (postB P fn R) .normal fr hp L) : HQ c (postE P fn R D) .normal fr hp L := fun a w ha hw => h a w ha hw
theorem K9 {β γ : Type} {k : Con β} {k2 : Con γ} {fn : Func} {w0 : World} {R : Value → World → Prop} {v : Value} (y : γ) (hv : v = k2.val y) (hb : c.b = k.entry w0) (hi : k2.inv y) (h2 : (k2.hpO y).Sublist hp) (h3 : LSub L (k2.LO y)) (hD : c.D = [] := by exact rfl) :
    HQ c (postE c.P fn R (diesP k k2 w0)) (.panic [{ v, recovered := false }]) fr hp L := fun a w ha hw => ⟨ha.d.trans hD, y, by rw [hv], hi, hb ▸ hw.weak h2 h3.mem⟩
variable {d : Tmp} {ty : TypeId} {pos : String} {af : Array Edge}
theorem WI.back2 {b : Bx} {w w' : World} {hpR : Hp} {β γ : Type} {k : Con β} {k2 : Con γ} {y : γ} (h : WI b w hp L) (h1 : hp.Perm (k.hpI ++ hpR)) (h2 : ∀ F ∈ k.LI, F ∈ L)
    (r : WI (k.entry w) w' (k2.hpO y) (k2.LO y)) : WI b w' (k2.hpO y ++ hpR) (k2.LO y ++ L) :=
  WI.back (k := ({ hpI := k.hpI, LI := k.LI, inv := k2.inv, val := k2.val, hpO := k2.hpO, LO := k2.LO } : Con γ)) (x := y) h h1 h2 r
theorem H8 {f : Nat} {aS9 : Array Operand} {ats : Array TypeId} {vs : List Value} {β γ : Type} {k : Con β} {k2 : Con γ} {hpR : Hp} (hcb : Callable c.P f) (hd : Nat.blt d c.n = true) (hx : aS9.toList.mapM (ev fr) = some vs)
    (hm : MeetsE c.P f vs k k2) (h1 : hp.Perm (k.hpI ++ hpR)) (h2 : LSub L k.LI) (dd : ∀ y, k2.inv y → HQ c Q (.panic [{ v := k2.val y, recovered := false }]) fr (k2.hpO y ++ hpR) (k2.LO y ++ L)) (kk : ∀ x, k.inv x → HL c ops Q rest ((d, k.val x) :: fr) (k.hpO x ++ hpR) (k.LO x ++ L)) :
    HL c ops Q (⟨some d, .call ⟨.value (.func f), aS9, ats⟩, ty, pos, af, none⟩ :: rest) fr hp L := by
  intro a w ha hw; refine U1 rfl fun K hK => ?_
  have key : ∀ (xs : List Operand) (vs : List Value), xs.mapM (ev fr) = some vs → xs.map a.eval = vs := by
    intro xs
    induction xs with
    | nil => intro vs h; simpa using h
    | cons x xs ih =>
      intro vs h; simp only [List.mapM_cons, Option.bind_eq_bind, Option.bind_eq_some_iff, Option.pure_def, Option.some.injEq] at h; obtain ⟨v, hv, us, hus, rfl⟩ := h; rw [List.map_cons, ha.ev hv, ih us hus]
  have e1 : (#[] ++ aS9.map a.eval ++ #[]) = vs.toArray := by simp; apply Array.ext'; simpa using key _ _ hx
  refine fun d0 => ⟨zX hcb (by rw [execOp_call_go]), ?_⟩; have hw := hw.at d0; rw [execOp_call_go, hcb.run, iT, e1]; refine (hm _ (hw.entry h1 h2.mem)).mono (fun v w' hp => ?_) fun ch w' hp => ?_
  · obtain ⟨x, rfl, hi, hwi⟩ := hp
    exact hK _ _ (kk x hi _ _ (ha.put (by simpa using hd) _) (hw.back h1 h2.mem hwi))
  obtain ⟨y, rfl, hi, hwi⟩ := hp; exact dd y hi _ _ ha (hw.back2 h1 h2.mem hwi)
theorem lx3 (v : Value) : Quiet (Instr.panic v) := by
  unfold Instr.panic
  split <;> first | trivial | exact l6
theorem aL {x : Operand} {t : TypeId} {v : Value} (hx : ev fr x = some (.iface t v)) (hr : ∀ w, (Instr.panic (.iface t v)).run c.P w = .halt (.panic (.iface t v)) w) (k : HQ c Q (.panic [{ v := .iface t v, recovered := false }]) fr hp L) :
    HL c ops Q (⟨none, .panic x, ty, pos, af, none⟩ :: rest) fr hp L := by
  intro a w ha hw; refine U1 rfl fun K hK => fun d0 => ⟨?_, ?_⟩
  · show ∀ e ∈ ((do let v ← Instr.panic (a.eval x); pure (Next.value v)) : Sem Next).events c.P _ #[], Calm e
    exact W6 (s := (do let v ← Instr.panic (a.eval x); pure (Next.value v))) (r7 (lx3 _) fun _ => trivial) _
  have e : (execOp a.eval (⟨none, .panic x, ty, pos, af, none⟩ : Oper)).run c.P (w.at d0) = .halt (.panic (.iface t v)) (w.at d0) := by
    show ((do let v ← Instr.panic (a.eval x); pure (Next.value v)) : Sem Next).run c.P (w.at d0) = _; rw [ha.ev hx, Sem.run_bind, hr]
    rfl
  rw [e, kz7]; exact k a _ ha (hw.at d0)
theorem r_defer {x : Operand} {g : Nat} {cap : List Value} {ats : Array TypeId} (hx : ev fr x = some (.func (.func g) #[] cap.toArray))
    (k : HL { c with D := { target := .fn (.func g) cap.toArray, args := #[] } :: c.D } ops Q rest fr hp L) : HL c ops Q (⟨none, .defer ⟨.value x, #[], ats⟩, ty, pos, af, none⟩ :: rest) fr hp L := by
  intro a w ha hw; refine U1 rfl fun K hK => fun d0 => ?_
  have e : execOp a.eval (⟨none, .defer ⟨.value x, #[], ats⟩, ty, pos, af, none⟩ : Oper) = pure (Next.defer { target := .fn (.func g) cap.toArray, args := #[] }) := by
    show ((do let dd ← resolve a.eval ⟨.value x, #[], ats⟩ ty; pure (Next.defer dd)) : Sem Next) = _; have e3 : (#[] ++ Array.map a.eval #[] : Array Value) = #[] := by simp
    simp only [resolve, ha.ev hx, Deferred.ofValue, e3]
    rfl
  rw [e]; refine ⟨by simp [Sem.events_pure], ?_⟩; rw [Sem.run_pure, kz8]; exact hK _ _ (k _ _ ⟨by show _ :: a.defers = _; rw [ha.d], ha.sz, ha.at_⟩ (hw.at d0))
theorem xS {β γ : Type} {k : Con β} {kd : Con γ} {fn : Func} {w0 : World} {f g : Nat} {cap : List Value} {u u' : FrameMode} {hpR : Hp} {e : Exit} (hm : MeetsR c.P g cap u u' kd) (he : (e = .ret ∧ u = .returning) ∨ (e = .normal ∧ u = .returning) ∨ ∃ ch, e = .panic ch ∧ u = .panicking ch) (hf : c.P.funcs[f]? = some fn) (hcb : Callable c.P g) (hM : Mend u') (hD : c.D = [{ target := .fn (.func g) cap.toArray, args := #[] }])
    (h1 : hp.Perm (kd.hpI ++ hpR)) (h2 : LSub L kd.LI) (kk : ∀ y, kd.inv y → HQ { c with D := [] } (postB c.P fn (k.post w0)) .ret fr (kd.hpO y ++ hpR) (kd.LO y ++ L)) :
    HQ c (postD c.P f (k.post w0)) e fr hp L := by
  intro a w ha hw; have hu : u ≠ .run := by rcases he with ⟨_, h⟩ | ⟨_, h⟩ | ⟨_, _, h⟩ <;> rw [h] <;> simp
  have key : Door c.P f a.tmps a.defers u w (k.post w0) := by
    rw [ha.d, hD]; refine rx5 hcb hu hM (by simpa using hm w (hw.entry h1 h2.mem)) fun v w' hp => ?_; obtain ⟨y, rfl, hi, hwi⟩ := hp; obtain ⟨_, v, hr, hR⟩ := kk y hi { a with defers := [] } w' ⟨rfl, ha.sz, ha.at_⟩ (hw.back h1 h2.mem hwi); exact uj1 hf hr hR
  rcases he with ⟨rfl, rfl⟩ | ⟨rfl, rfl⟩ | ⟨ch, rfl, rfl⟩
  · exact key
  · exact key
  exact key
end
end Go.W
end
section
namespace Go.W
open Go Go.RowKit Go.Conc
theorem az6 {P : Program} {f : FuncId} {fn : Func} {e : Array Value → Sem Value} (hf : P.funcs[f]? = some fn) (hname : (fn.name == "runtime.NumGoroutine") = false)
    (hb : fn.body.isNone = true) (hn : Extern.findNext fn = none) (he : Extern.find fn = some e) (args : Array Value) (hq : Quiet (e args)) (w : World) : ∀ x ∈ (callFunc f args).events P w #[], Calm x := by
  have h1 : fn.name ≠ "runtime.NumGoroutine" := by simpa using hname
  have h2 : fn.body = none := by simpa using hb
  have e1 : (callFunc f args).events P w #[] = ((do mark (.extern f); pure (Next.value (← e args))) : Sem Next).events P w #[] := by
    unfold callFunc; simp only [Sem.events_bind, run_program, Result.evThen, hf]
    simp [h1, h2, hn, he]
    cases (e args).run P w <;> rfl
  rw [e1]; have h5 : Quiet (mark (.extern f)) := ⟨⟨by simp, by simp⟩, trivial⟩; exact W6 (s := (do mark (.extern f); pure (Next.value (← e args)))) (r7 h5 fun _ => r7 hq fun v => (trivial : Quiet (pure (Next.value v)))) w
theorem ix4 {c : Cx} {Q : Exit → Act → World → Prop} {fr : Fr} {hp : Hp} {L : List Fact} {ops : Array Oper} {rest : List Oper} {d : Tmp} {ty : TypeId} {pos : String} {af : Array Edge} {f : Nat} {xs0 : Array Operand} {ats : Array TypeId} {vs : List Value} {v : Value} (hd : Nat.blt d c.n = true) (hx : xs0.toList.mapM (ev fr) = some vs) (hrun : ∀ w, (callFunc f vs.toArray).run c.P w = .ok (.value v) w)
    (hev : ∀ w, ∀ e ∈ (callFunc f vs.toArray).events c.P w #[], Calm e) (kk : HL c ops Q rest ((d, v) :: fr) hp L) :
    HL c ops Q (⟨some d, .call ⟨.value (.func f), xs0, ats⟩, ty, pos, af, none⟩ :: rest) fr hp L := by
  intro a w ha hw; refine U1 rfl fun K hK => ?_
  have key : ∀ (xs : List Operand) (vs : List Value), xs.mapM (ev fr) = some vs → xs.map a.eval = vs := by
    intro xs
    induction xs with
    | nil => intro vs h; simpa using h
    | cons x xs ih =>
      intro vs h; simp only [List.mapM_cons, Option.bind_eq_bind, Option.bind_eq_some_iff, Option.pure_def, Option.some.injEq] at h; obtain ⟨v, hv, us, hus, rfl⟩ := h; rw [List.map_cons, ha.ev hv, ih us hus]
  have e1 : (#[] ++ xs0.map a.eval ++ #[]) = vs.toArray := by simp; apply Array.ext'; simpa using key _ _ hx
  refine fun d0 => ⟨?_, ?_⟩
  · rw [execOp_call_go, e1]; exact hev _
  have hw := hw.at d0; rw [execOp_call_go, e1, hrun, iS]; exact hK _ _ (kk _ _ (ha.put (by simpa using hd) _) hw)
end Go.W
end
section
namespace Go.Proofs.YtcdopfjiadifhaaGreatDoor
open Go Go.W
set_option maxRecDepth 20000
attribute [local irreducible] HL HC HQ HB Row Rows2 Blk Facts
def cutB (b : UInt8) : Str → Str × Str × Bool
  | [] => ([], [], false)
  | x :: r => if x = b then ([], r, true) else (x :: (cutB b r).1, (cutB b r).2.1, (cutB b r).2.2)
theorem xQ (b : UInt8) : ∀ s : Str, (Lib.indexByte s b = -1 ∧ cutB b s = (s, [], false) ∧ b ∉ s) ∨ ∃ i : Nat, Lib.indexByte s b = i ∧ i < s.length ∧ cutB b s = (s.take i, s.drop (i + 1), true) ∧ s[i]? = some b ∧ b ∉ s.take i
  | [] => .inl ⟨rfl, rfl, by simp⟩
  | x :: r => by
    by_cases h : x = b
    · subst h
      exact .inr ⟨0, by simp [Lib.indexByte], by simp, by simp [cutB], by simp, by simp⟩
    have hb : (x == b) = false := by simp [h]
    rcases xQ b r with ⟨h1, h2, h3⟩ | ⟨i, h1, h2, h3, h4, h5⟩
    · exact .inl ⟨by simp [Lib.indexByte, hb, h1], by simp [cutB, h, h2], by simp [h3, Ne.symm h]⟩
    have hne : ¬ ((i : Int) = -1) := by omega
    exact .inr ⟨i + 1, by simp [Lib.indexByte, hb, h1, hne], by simp; omega, by simp [cutB, h, h3], by simpa using h4, by simp [h5, Ne.symm h]⟩
def trimL (p : UInt8 → Bool) (s : Str) : Str := s.dropWhile p
def trimR (p : UInt8 → Bool) (s : Str) : Str := (s.reverse.dropWhile p).reverse
def isDig (c : UInt8) : Bool := decide (48 ≤ c.toNat) && decide (c.toNat ≤ 57)
def D10 : Str := [48, 49, 50, 51, 52, 53, 54, 55, 56, 57]
theorem any_dig (c : UInt8) : (D10.any fun x => x == c) = isDig c := by
  unfold isDig D10
  by_cases h : 48 ≤ c.toNat ∧ c.toNat ≤ 57
  · obtain ⟨h1, h2⟩ := h
    have hc : c = UInt8.ofNat c.toNat := by simp
    have : c.toNat = 48 ∨ c.toNat = 49 ∨ c.toNat = 50 ∨ c.toNat = 51 ∨ c.toNat = 52 ∨ c.toNat = 53 ∨ c.toNat = 54 ∨ c.toNat = 55 ∨ c.toNat = 56 ∨ c.toNat = 57 := by omega
    rw [decide_eq_true h1, decide_eq_true h2]
    rcases this with e | e | e | e | e | e | e | e | e | e <;> (rw [e] at hc; rw [hc]; rfl)
  have h3 : (decide (48 ≤ c.toNat) && decide (c.toNat ≤ 57)) = false := by
    rw [Bool.and_eq_false_iff, decide_eq_false_iff_not, decide_eq_false_iff_not]; omega
  rw [h3]; simp only [List.any_cons, List.any_nil, Bool.or_false, Bool.or_eq_false_iff, beq_eq_false_iff_ne]; refine ⟨?_, ?_, ?_, ?_, ?_, ?_, ?_, ?_, ?_, ?_⟩ <;> (intro e; subst e; exact h (by decide))
theorem kj8 {p : UInt8 → Bool} : ∀ {l : Str}, l.dropWhile p = [] ↔ ∀ x ∈ l, p x = true
  | [] => by simp
  | a :: l => by
    by_cases h : p a = true
    · rw [List.dropWhile_cons_of_pos h, kj8]
      simp [h]
    rw [List.dropWhile_cons_of_neg h]
    simp [h]
theorem gO {p : UInt8 → Bool} {s : Str} : trimL p (trimR p s) = [] ↔ s.all p = true := by
  unfold trimL trimR; rw [kj8, List.all_eq_true]
  constructor
  · intro h
    have h2 : s.reverse.dropWhile p = [] := by
      cases hd : s.reverse.dropWhile p with
      | nil => rfl
      | cons x r =>
        have h3 : p x = true := h x (by rw [hd]; simp); have h4 := List.head_dropWhile_not p (l := s.reverse) (by rw [hd]; simp); simp only [hd, List.head_cons] at h4; rw [h3] at h4; cases h4
    rw [kj8] at h2; exact fun x hx => h2 x (by simpa using hx)
  intro h x hx
  have h2 : s.reverse.dropWhile p = [] := by
    rw [kj8]; exact fun x hx => h x (by simpa using hx)
  rw [h2] at hx; simp at hx
def asV (l : Str) : List Value := (List.range 256).map fun i => Value.bool (l.any fun c => c.toNat == i)
theorem kx4 (l : Str) : (asV l).length = 256 := by simp [asV]
theorem asV_one (l : Str) : (asV l).all (·.oneCell') = true := List.all_eq_true.2 fun v hv => by
  obtain ⟨i, _, rfl⟩ := List.mem_map.1 hv
  rfl
theorem kx5 (l : Str) (c : UInt8) : (asV l)[c.toNat]? = some (.bool (l.any fun x => x == c)) := by
  have h : c.toNat < 256 := c.toNat_lt; unfold asV; rw [List.getElem?_map, List.getElem?_range h]; simp only [Option.map_some]
  congr 3
  funext x
  rw [Bool.eq_iff_iff]
  simp [UInt8.toNat_inj]
theorem asV_set (l : Str) (c : UInt8) : (asV l).set c.toNat (.bool true) = asV (l ++ [c]) := by
  apply List.ext_getElem?
  intro i; rw [List.getElem?_set]; have h : c.toNat < 256 := c.toNat_lt
  by_cases hi : c.toNat = i
  · subst hi
    rw [if_pos rfl, if_pos (by rw [kx4]; exact h), kx5]
    simp
  rw [if_neg hi]; unfold asV
  by_cases hl : i < 256
  · rw [List.getElem?_map, List.getElem?_map, List.getElem?_range hl]
    simp [hi]
  rw [List.getElem?_eq_none (by simp; omega), List.getElem?_eq_none (by simp; omega)]
theorem sq5 {p : UInt8 → Bool} {q : Str} (h : 0 < q.length) (hp : p q[0] = false) : trimL p q = q := by
  cases q with
  | nil => simp at h
  | cons a q => exact List.dropWhile_cons_of_neg (by rw [← Bool.not_eq_true] at hp; exact hp)
theorem qx5 {p : UInt8 → Bool} {q : Str} (h : 0 < q.length) (hp : p q[0] = true) : trimL p (q.drop 1) = trimL p q := by
  cases q with
  | nil => simp at h
  | cons a q => exact (List.dropWhile_cons_of_pos hp).symm
theorem sq3 {p : UInt8 → Bool} {q : Str} (h : 0 < q.length) (hp : p (q[q.length - 1]'(by omega)) = false) : trimR p q = q := by
  unfold trimR; have hne : q ≠ [] := fun e => by rw [e] at h; simp at h
  have e : q = q.dropLast ++ [q[q.length - 1]'(by omega)] := by rw [← List.getLast_eq_getElem hne, List.dropLast_concat_getLast]
  rw [e, List.reverse_append, List.reverse_singleton, List.singleton_append, List.dropWhile_cons_of_neg (by rw [← Bool.not_eq_true] at hp; exact hp)]
  simp
theorem qx4 {p : UInt8 → Bool} {q : Str} (h : 0 < q.length) (hp : p (q[q.length - 1]'(by omega)) = true) : trimR p (q.take (q.length - 1)) = trimR p q := by
  have hne : q ≠ [] := fun e => by rw [e] at h; simp at h
  have e : q = q.take (q.length - 1) ++ [q[q.length - 1]'(by omega)] := by rw [← List.dropLast_eq_take, ← List.getLast_eq_getElem hne, List.dropLast_concat_getLast]
  conv => rhs; rw [e]
  unfold trimR; rw [List.reverse_append, List.reverse_singleton, List.singleton_append, List.dropWhile_cons_of_pos hp]
theorem sq4 (p : UInt8 → Bool) (s : Str) : (trimR p s).length ≤ s.length := by
  unfold trimR; rw [List.length_reverse]; have := (List.dropWhile_sublist (l := s.reverse) p).length_le
  rwa [List.length_reverse] at this
theorem mj1 {c : Cx} {Q : Exit → Act → World → Prop} {fr : Fr} {hp hp' : Hp} {L : List Fact} {ops : Array Oper} {rest : List Oper} (h : hp = hp') (k : HL c ops Q rest fr hp' L) : HL c ops Q rest fr hp L := h ▸ k
section
variable {c : Cx} {Q : Exit → Act → World → Prop} {fr : Fr} {hp : Hp} {L : List Fact} {ops : Array Oper} {rest : List Oper} {d : Tmp} {ty : TypeId} {pos : String} {af : Array Edge}
theorem qP {t : TypeId} {x lo hi : Operand} {s : Str} {kd kd' : IntKind} {z z' : Int} (l h : Nat) (hd : Nat.blt d c.n = true) (ht : c.P.underlying t = some .string)
    (hx : ev fr x = some (str s)) (hl : ev fr lo = some (.int kd z)) (hlz : z = (l : Int)) (hh : ev fr hi = some (.int kd' z')) (hhz : z' = (h : Int)) (hle : l ≤ h) (hle' : h ≤ s.length)
    (k : HL c ops Q rest ((d, str ((s.drop l).take (h - l))) :: fr) hp L) : HL c ops Q (⟨some d, .slice t x (some lo) (some hi) none, ty, pos, af, none⟩ :: rest) fr hp L :=
  C0 _ rfl rfl hd (fun a w ha _ => by
    have e1 : (ByteArray.mk s.toArray).size = s.length := rfl; simp only [execOp, ha.ev hx, Option.map_some, Option.map_none, ha.ev hl, ha.ev hh, Sem.run_bind, Instr.sliceAt, run_underlying ht]; simp only [Result.andThen_ok]
    simp [Instr.slice, Instr.sliceBounds, run_underlying ht, str, e1, Y1 hlz hle, Y1 hhz hle', qF]) k
end
abbrev asO (g : Nat) (l : Str) : Nat × Obj := (g, Obj.cells (asV l).toArray T.L6 (0, 0))
theorem idx_run (s : Str) (c : UInt8) (w : World) : (callFunc 91 [str s, Value.int .u8 (c.toNat : Int)].toArray).run Tryz.prog w = .ok (.value (int (Lib.indexByte s c))) w := by
  show (callFunc 91 #[str s, Value.int .u8 (c.toNat : Int)]).run Tryz.prog w = _; rw [run_callFunc_extern Tryz.func91 (by kernel_rfl) (by kernel_rfl) (by kernel_rfl) (e := Extern.BytealgIndexByte.indexByte) (by kernel_rfl)]; have h := Lib.run_indexByteString (P := Tryz.prog) ⟨s.toArray⟩ (c.toNat : Int) w; have e : ((c.toNat : Int).toNat).toUInt8 = c := by simp
  rw [e] at h; show Result.andThen (Sem.run Tryz.prog (Extern.BytealgIndexByte.indexByte #[.string ⟨s.toArray⟩, .int .u8 (c.toNat : Int)]) w) _ = _; rw [h]
  rfl
instance (s : ByteArray) (c : Value) : QC (Extern.BytealgIndexByte.indexByte #[.string s, c]) := ⟨by unfold Extern.BytealgIndexByte.indexByte Extern.Bytes.bytesOf Extern.Bytes.asByte; exact l6⟩
theorem tx4 (s : Str) (c : UInt8) (w : World) : ∀ e ∈ (callFunc 91 [str s, Value.int .u8 (c.toNat : Int)].toArray).events Tryz.prog w #[], Go.W.Calm e :=
  az6 Tryz.func91 (by kernel_rfl) (by kernel_rfl) (by kernel_rfl) (e := Extern.BytealgIndexByte.indexByte) (by kernel_rfl) _ (show Quiet (Extern.BytealgIndexByte.indexByte #[.string ⟨s.toArray⟩, .int .u8 (c.toNat : Int)]) from QC.out) w
theorem K6 (s : Str) (c : UInt8) : Meets Tryz.prog F.J3 [str s, .int .u8 c.toNat] { val := fun _ : Unit => int (Lib.indexByte s c) } := by
 refine i9 F.aO rfl r6 fun w0 => ?_; refine i8 (d5 rfl (k8 (c7 rfl (c7 rfl ?_)))); refine ix4 rfl rfl (idx_run s c) (tx4 s c) ?_; refine d5 rfl (d8 (l5 ?_)); exact ret1 () rfl rfl rfl trivial (.refl _) trivial
theorem kJ (s : Str) (c : UInt8) : Meets Tryz.prog F.aG [str s, .int .u8 c.toNat] { val := fun _ : Unit => int (Lib.indexByte s c) } := by
 refine i9 F.tB rfl r6 fun w0 => ?_; refine i8 (d5 rfl (k8 (c7 rfl (c7 rfl ?_)))); refine k5 F.N6 rfl rfl (K6 s c) p6 trivial fun _ _ => ?_; refine d5 rfl (d8 (l5 ?_)); exact ret1 () rfl rfl rfl trivial (.refl _) trivial
theorem aN (s : Str) (b : UInt8) : Meets Tryz.prog F.M8 [str s, str [b]] { val := fun _ : Unit => int (Lib.indexByte s b) } := by
 refine i9 F.cV rfl r6 fun w0 => ?_; refine i8 (d5 rfl (k8 (c7 rfl ?_))); refine E6 rfl T.v8 rfl ?_; refine d5 rfl (d8 (j4 (k9 (i8 (c7 rfl (H0 rfl rfl rfl (c7 rfl ?_))))))); refine u6 rfl rfl ?_ ?_
 ·intro hg1; have hg1' := hg1; try simp at hg1'
  refine l3 rfl rfl hg1 (c7 rfl (l3 rfl rfl hg1 (c7 rfl (l3 rfl rfl hg1 (hU rfl rfl rfl ?_))))); refine p_f rfl rfl (bf1 hg1) rfl ?_; refine d5 rfl (d8 ?_)
  first | refine m3 rfl (fun hb1 => ?_) (fun hb1 => ?_) | refine j7 rfl (fun hb1 => ?_) (fun hb1 => ?_)
  ·have hb1' := hb1; try simp at hb1'
   have hb2 : [b] = s := by simpa using hb1
   refine i8 (d5 rfl (d8 (l5 (G8 ?_)))); exact ret1 () rfl (by subst hb2; simp [Lib.indexByte, lk]) rfl trivial (.refl _) trivial
  have hb1' := hb1; try simp at hb1'
  refine i8 (c7 rfl (H0 rfl rfl rfl (d5 rfl (d8 ?_)))); refine c_t rfl (by first | rfl | assumption | exact bt1 (by assumption) | exact bt2 (by assumption)) ?_; refine i8 (c7 rfl (c7 rfl ?_)); refine H7 0 rfl T.v8 rfl rfl rfl rfl ?_; refine k5 F.N6 rfl rfl (K6 s b) p6 trivial fun _ _ => ?_; refine d5 rfl (d8 (l5 (G8 ?_))); exact ret1 () rfl rfl rfl trivial (.refl _) trivial
 intro hg1; have hg1' := hg1; try simp at hg1'
theorem P7 (g : Nat) (l : Str) (c : UInt8) : Meets Tryz.prog F.N8 [.pointer (c8 g), .int .u8 c.toNat] { LI := [Blk g (asO g l).2], val := fun _ : Unit => .bool (l.any fun x => x == c) } := by
 refine i9 F.dJ rfl r6 fun w0 => ?_; refine i8 (d5 rfl (k8 (c7 rfl (c7 rfl (p9 rfl rfl ?_))))); refine V9 c.toNat c.toNat rfl T.gG T.rW rfl rfl rfl c.toNat_lt (by simp) ?_; refine b8 (v := .bool (l.any fun x => x == c)) rfl T.sO rfl (j3 m0 (by rw [List.getElem?_toArray]; exact kx5 l c)) ?_; refine d5 rfl (d8 (l5 ?_)); exact ret1 () rfl rfl rfl trivial (.refl _) trivial
theorem gQ (l : Str) (hl : ∀ c ∈ l, c.toNat < 128) (hn : l.length ≤ 1000000) : Meets Tryz.prog F.V5 [str l] { val := fun _ : Unit => .tuple #[.agg (asV l).toArray, .bool true] } := by
 refine i9 F.lS rfl r6 fun w0 => ?_; refine i8 ?_; refine y9 rfl (fun _ => T.dH _) fun g => ?_; refine mj1 (hp' := [asO g []]) (by kernel_rfl) ?_; refine d5 rfl (d8 (j4 (i8 (d5 rfl (d8 (k9 ?_)))))); refine w3 (β := Nat) ⟨fun k => k ≤ l.length, fun k => [(0, str l), (2, .pointer (c8 g)), (4, int k)], fun k => [asO g (l.take k)], fun _ => []⟩ (fun k => l.length - k) 0 (Nat.zero_le _) mC (.refl _) trivial fun k hk => ?_; refine j4 (i8 (c7 rfl (c7 rfl ?_))); refine E6 rfl T.v8 rfl ?_; refine B6 rfl rfl rfl (d8 ?_)
 first | refine m3 rfl (fun hb1 => ?_) (fun hb1 => ?_) | refine j7 rfl (fun hb1 => ?_) (fun hb1 => ?_)
 ·have hb1' := hb1; try simp at hb1'
  have hk1 : k < l.length := by omega
  have hc := hl l[k] (List.getElem_mem hk1); refine k6 (j6 (j4 (k9 (i8 (c7 rfl (c7 rfl ?_)))))); refine H7 k rfl T.v8 rfl rfl rfl (List.getElem?_eq_getElem hk1) ?_; refine d5 rfl (d8 (j4 (i8 (c7 rfl (X2 rfl rfl rfl (d8 ?_))))))
  first | refine m3 rfl (fun hb2 => ?_) (fun hb2 => ?_) | refine j7 rfl (fun hb2 => ?_) (fun hb2 => ?_)
  ·exact absurd hb2 (by simp; omega)
  have hb2' := hb2; try simp at hb2'
  refine k6 (j6 (j8 (c7 rfl ?_))); refine V9 (l[k]).toNat (l[k]).toNat rfl T.gG T.rW rfl rfl rfl (l[k]).toNat_lt (by simp) ?_; refine z9 rfl rfl (.refl _) T.rW (by rw [List.getElem?_toArray]; exact kx5 _ _) (by rfl) ?_; refine mj1 (hp' := [asO g (l.take (k + 1))]) (by show [(g, Obj.cells (((asV (l.take k)).toArray).setIfInBounds (l[k]).toNat (Value.bool true)) T.L6 (0, 0))] = [(g, Obj.cells (asV (l.take (k + 1))).toArray T.L6 (0, 0))]; rw [List.take_succ_eq_append_getElem hk1, ← asV_set]; simp) ?_; refine d4 (y6 (j6 (j8 (c7 rfl ?_)))); refine v4 _ rfl rfl rfl rfl r5 ?_; refine d5 rfl (d4 ?_); exact again _ (k + 1) (by show k + 1 ≤ l.length; omega) (D5 (by omega)) mC (.refl _) trivial
 have hb1' := hb1; try simp at hb1'
 have hk1 : k = l.length := by omega
 subst hk1; refine u9 (D6 (u5 (j6 (j4 ?_)))); refine mS (hp' := [asO g l]) (show List.Perm [asO g (l.take l.length)] [asO g l] by rw [List.take_length]) ?_; refine j8 ?_; refine B5 rfl T.cG T.P9 rfl m0 (by simp [kx4]) ?_; refine w4 (cs := (asV l).toArray) rfl rfl (.refl _) T.P9 (by rfl) (asV_one l) ?_; refine d5 rfl (d8 (l5 ?_)); exact lq8 () rfl rfl rfl T.cG T.P9 (by simp [kx4]) m0 rfl rfl trivial nil_sb trivial
theorem dI (g : Nat) (l s : Str) (hs : s.length ≤ 1000000) : Meets Tryz.prog F.U6 [str s, .pointer (c8 g)] { LI := [Blk g (asO g l).2], val := fun _ : Unit => str (trimL (fun c => l.any fun x => x == c) s) } := by
 refine i9 F.kH rfl r6 fun w0 => ?_; refine i8 (d5 rfl (d8 (j4 (k9 ?_)))); refine w3 (β := Str) ⟨fun q => q.length ≤ 1000000 ∧ trimL (fun c => l.any fun x => x == c) q = trimL (fun c => l.any fun x => x == c) s, fun q => [(0, str q), (1, .pointer (c8 g))], fun _ => [], fun _ => [Blk g (asO g l).2]⟩ (fun q => q.length) s ⟨hs, rfl⟩ mC (.refl _) mC fun q hq => ?_; obtain ⟨hq1, hq2⟩ := hq; refine j4 (i8 (c7 rfl ?_)); refine E6 rfl T.v8 rfl ?_; refine R0 rfl rfl rfl (d8 ?_)
 first | refine m3 rfl (fun hb1 => ?_) (fun hb1 => ?_) | refine j7 rfl (fun hb1 => ?_) (fun hb1 => ?_)
 ·have hb1' := hb1; try simp at hb1'
  have hq3 : 0 < q.length := by omega
  refine k6 (j6 (k9 (j4 (i8 (c7 rfl (c7 rfl ?_)))))); refine H7 0 rfl T.v8 rfl rfl rfl (List.getElem?_eq_getElem hq3) ?_; refine k5 F.R9 rfl rfl (P7 g l q[0]) p6 mC fun _ _ => ?_; refine M7 rfl rfl (d8 ?_)
  first | refine m3 rfl (fun hb2 => ?_) (fun hb2 => ?_) | refine j7 rfl (fun hb2 => ?_) (fun hb2 => ?_)
  ·have hb2' := hb2; try simp at hb2'
   have hq4 : (fun c => l.any fun x => x == c) q[0] = false := by simpa using hb2
   have hq5 : trimL (fun c => l.any fun x => x == c) q = q := sq5 (p := (fun c => l.any fun x => x == c)) hq3 hq4; refine u9 (U2 (iE rfl (U2 (u5 (j6 (i8 (c7 rfl (d5 rfl (d8 ?_))))))))); refine l5 ?_; exact ret1 () rfl (by rw [← hq2, hq5]; rfl) rfl trivial (.refl _) trivial
  have hb2' := hb2; try simp at hb2'
  have hq4 : (fun c => l.any fun x => x == c) q[0] = true := by simpa using hb2
  refine k6 (j6 (j8 (c7 rfl ?_))); refine qN 1 rfl T.v8 rfl rfl (by rfl) (by omega) ?_; refine d5 rfl (d4 (y6 ?_)); exact again _ (q.drop 1) ⟨by rw [List.length_drop]; omega, by rw [← hq2]; exact qx5 (p := (fun c => l.any fun x => x == c)) hq3 hq4⟩ (by show (q.drop 1).length < q.length; rw [List.length_drop]; omega) mC (.refl _) mC
 have hb1' := hb1; try simp at hb1'
 have hq0 : q = [] := List.eq_nil_of_length_eq_zero (by omega); have hq5 : trimL (fun c => l.any fun x => x == c) q = q := by rw [hq0]; rfl
 refine u9 (D6 (u5 (j6 (i8 (c7 rfl (d5 rfl (d8 (l5 ?_)))))))); exact ret1 () rfl (by rw [← hq2, hq5]; rfl) rfl trivial (.refl _) trivial
theorem cS (g : Nat) (l s : Str) (hs : s.length ≤ 1000000) : Meets Tryz.prog F.R4 [str s, .pointer (c8 g)] { LI := [Blk g (asO g l).2], val := fun _ : Unit => str (trimR (fun c => l.any fun x => x == c) s) } := by
 refine i9 F.jJ rfl r6 fun w0 => ?_; refine i8 (d5 rfl (d8 (j4 (k9 ?_)))); refine w3 (β := Str) ⟨fun q => q.length ≤ 1000000 ∧ trimR (fun c => l.any fun x => x == c) q = trimR (fun c => l.any fun x => x == c) s, fun q => [(0, str q), (1, .pointer (c8 g))], fun _ => [], fun _ => [Blk g (asO g l).2]⟩ (fun q => q.length) s ⟨hs, rfl⟩ mC (.refl _) mC fun q hq => ?_; obtain ⟨hq1, hq2⟩ := hq; refine j4 (i8 (c7 rfl ?_)); refine E6 rfl T.v8 rfl ?_; refine R0 rfl rfl rfl (d8 ?_)
 first | refine m3 rfl (fun hb1 => ?_) (fun hb1 => ?_) | refine j7 rfl (fun hb1 => ?_) (fun hb1 => ?_)
 ·have hb1' := hb1; try simp at hb1'
  have hq3 : 0 < q.length := by omega
  refine k6 (j6 (k9 (j4 (i8 (c7 rfl (c7 rfl (c7 rfl ?_))))))); refine E6 rfl T.v8 rfl (S1 ((q.length - 1 : Nat) : Int) rfl rfl rfl (by omega) r5 ?_); refine H7 (q.length - 1) rfl T.v8 rfl rfl rfl (List.getElem?_eq_getElem (by omega)) ?_; refine k5 F.R9 rfl rfl (P7 g l (q[q.length - 1]'(by omega))) p6 mC fun _ _ => ?_; refine M7 rfl rfl (d8 ?_)
  first | refine m3 rfl (fun hb2 => ?_) (fun hb2 => ?_) | refine j7 rfl (fun hb2 => ?_) (fun hb2 => ?_)
  ·have hb2' := hb2; try simp at hb2'
   have hq4 : (fun c => l.any fun x => x == c) (q[q.length - 1]'(by omega)) = false := by simpa using hb2
   have hq5 : trimR (fun c => l.any fun x => x == c) q = q := sq3 (p := (fun c => l.any fun x => x == c)) hq3 hq4; refine u9 (U2 (iE rfl (U2 (u5 (j6 (i8 (c7 rfl (d5 rfl (d8 ?_))))))))); refine l5 ?_; exact ret1 () rfl (by rw [← hq2, hq5]; rfl) rfl trivial (.refl _) trivial
  have hb2' := hb2; try simp at hb2'
  have hq4 : (fun c => l.any fun x => x == c) (q[q.length - 1]'(by omega)) = true := by simpa using hb2
  refine k6 (j6 (j8 (c7 rfl (c7 rfl ?_)))); refine E6 rfl T.v8 rfl (S1 ((q.length - 1 : Nat) : Int) rfl rfl rfl (by omega) r5 (aq9 (q.length - 1) rfl T.v8 rfl rfl rfl (by omega) ?_)); refine d5 rfl (d4 (y6 ?_)); exact again _ (q.take (q.length - 1)) ⟨by rw [List.length_take]; omega, by rw [← hq2]; exact qx4 (p := (fun c => l.any fun x => x == c)) hq3 hq4⟩ (by show (q.take (q.length - 1)).length < q.length; rw [List.length_take]; omega) mC (.refl _) mC
 have hb1' := hb1; try simp at hb1'
 have hq0 : q = [] := List.eq_nil_of_length_eq_zero (by omega); have hq5 : trimR (fun c => l.any fun x => x == c) q = q := by rw [hq0]; rfl
 refine u9 (D6 (u5 (j6 (i8 (c7 rfl (d5 rfl (d8 (l5 ?_)))))))); exact ret1 () rfl (by rw [← hq2, hq5]; rfl) rfl trivial (.refl _) trivial
theorem gU (s : Str) (hs : s.length ≤ 1000000) : Meets Tryz.prog F.lT [str s, str D10] { val := fun _ : Unit => str (trimL isDig (trimR isDig s)) } := by
 have hf : (fun c : UInt8 => D10.any fun x => x == c) = isDig := funext any_dig; refine i9 F.cq7 rfl r6 fun w0 => ?_; refine i8 (d5 rfl (d8 (j4 (i8 (c7 rfl (hU rfl rfl rfl (c7 rfl ?_))))))); refine u6 rfl rfl ?_ ?_
 ·intro hg1; have hg1' := hg1; try simp at hg1'
  refine l3 rfl rfl hg1 (c7 rfl (l3 rfl rfl hg1 (hU rfl rfl rfl ?_))); refine p_f rfl rfl (bf1 hg1) rfl ?_; refine d8 ?_
  first | refine m3 rfl (fun hb1 => ?_) (fun hb1 => ?_) | refine j7 rfl (fun hb1 => ?_) (fun hb1 => ?_)
  ·exact absurd hb1 (by decide)
  have hb1' := hb1; try simp at hb1'
  refine k6 (j6 (j4 (i8 (c7 rfl ?_)))); refine E6 rfl T.v8 rfl ?_; refine H0 rfl rfl rfl (c7 rfl ?_); refine u6 rfl rfl ?_ ?_
  ·intro hg2; have hg2' := hg2; try simp at hg2'
   exact absurd hg2 (by decide)
  intro hg2; have hg2' := hg2; try simp at hg2'
  refine t4 rfl rfl rfl rfl rfl hg2 (t4 rfl rfl rfl rfl rfl hg2 (t4 rfl rfl rfl rfl rfl hg2 ?_)); refine p_f rfl rfl (bf2 hg2) rfl ?_; refine d8 (c_f rfl rfl (k6 (j6 (j4 (i8 (c7 rfl ?_)))))); refine k5 F.kI rfl rfl (gQ D10 (by decide) (by decide)) p6 trivial fun _ _ => ?_; refine c7 rfl (p8 rfl rfl rfl (p8 rfl rfl rfl ?_)); refine y9 rfl (fun _ => T.dH _) fun g => ?_; refine w4 (cs := (asV D10).toArray) rfl rfl (.refl _) T.P9 (by rfl) (by kernel_rfl) ?_; refine ix3 (d5 rfl (k8 (c7 rfl (d8 ?_)))); refine c_t rfl (by first | rfl | assumption | exact bt1 (by assumption) | exact bt2 (by assumption)) ?_; refine i8 (c7 rfl ?_); refine k5 F.iP rfl rfl (cS g D10 s hs) p6 mC fun _ _ => ?_; refine k5 F.jK rfl rfl (dI g D10 (trimR (fun c => D10.any fun x => x == c) s) (by have := sq4 (fun c => D10.any fun x => x == c) s; omega)) p6 mC fun _ _ => ?_; refine d5 rfl (d8 (N4 ?_)); exact ret1 () rfl (by rw [hf]; rfl) rfl trivial (.refl _) trivial
 intro hg1; have hg1' := hg1; try simp at hg1'
 refine t4 rfl rfl rfl rfl rfl hg1 (t4 rfl rfl rfl rfl rfl hg1 ?_); refine p_t rfl rfl (bt2 hg1) rfl ?_; refine d8 (c_t rfl rfl (i8 (c7 rfl (d5 rfl (d8 (N4 ?_)))))); have hb2 : s = [] := by simpa using hg1
 exact ret1 () rfl (by subst hb2; rfl) rfl trivial (.refl _) trivial
end Go.Proofs.YtcdopfjiadifhaaGreatDoor
end
