/- Texts. -/

import Derived.Test.YtpihanmcnmlodaaGreatDoorBAk
import Derived.Test.YtpihanmcnmlodaaGreatDoorBAe
set_option linter.unusedVariables false
set_option linter.unusedSimpArgs false
section
namespace Go.Proofs.YtpihanmcnmlodaaGreatDoor
open Go Go.W Tryz T F
set_option maxRecDepth 20000
attribute [local irreducible] HL HC HQ HB Row Rows2 Blk Facts
def priP (pr s : List Int) : List Int := s.map fun k => pr.getD k.toNat default
theorem priP_at {pr s : List Int} {j : Nat} (hj : j < s.length) : (priP pr s).getD j default = pr.getD (s.getD j default).toNat default := by
  have h : j < (priP pr s).length := by simpa [priP] using hj
  rw [q7 h, q7 hj]
  simp [priP]
theorem dq8 (pr s : List Int) : (priP pr s).length = s.length := by simp [priP]
theorem priP_bd {pr s : List Int} (hp : ∀ x ∈ pr, prB x) (hs : ∀ v ∈ s, 0 ≤ v ∧ v < (pr.length : Int)) : ∀ v ∈ priP pr s, 0 ≤ v ∧ v ≤ 1000000000 := by
  intro v hv; obtain ⟨w, hw, rfl⟩ := List.mem_map.1 hv; have h1 := hs w hw; have h2 := hp _ (n7 (l := pr) (k := w.toNat) (by omega)); have h3 := h2.1; have h4 := h2.2
  omega
theorem kO {A B PA WA : Option Addr} {ca cb pc wc : Nat} (cs : List Cl) (hs : List Hd) (pr ws : List Int) (p : Int) (hca : cs.length ≤ ca) (hcb : hs.length ≤ cb) (ha : ∀ h ∈ hs, h.2.2.2.l.length ≤ 1000000) (hpn : pr.length ≤ 1000000) (hwn : ws.length ≤ 1000000) : Meets prog iU [.agg #[.slice A cs.length ca, .slice B hs.length cb], .slice PA pr.length pc, .slice WA ws.length wc, int p] { LI := [Row A (rows cs), RowsF B hs Hd.row, Row PA (rows pr), Row WA (rows ws)], val := fun x : OutC => .tuple #[.slice x.1 (foundE cs hs pr ws p).1.length x.2, int (foundE cs hs pr ws p).2.1, int (foundE cs hs pr ws p).2.2], LO := fun x => [Row x.1 (rows (foundE cs hs pr ws p).1)] } := by
 refine d3 yG rfl n2 fun w0 => d4 (B7 rfl rfl fun gT => ?_); refine b6 rfl (b6 rfl (b6 rfl (c3 (lz2 (d1 (d4 (bj8 ?_))))))); refine w7 (cs := #[.slice A cs.length ca, .slice B hs.length cb]) rfl i9 j0 rfl mB rfl (i5 X0 rfl rfl (V8 cs hs hca hcb ha) k8 mC fun _ _ => ?_); refine b6 rfl (j4 (b4 rfl (B9 rfl rfl rfl (c3 ?_))))
 first | refine j9 rfl (fun hb1 => ?_) (fun hb1 => ?_) | refine d6 rfl (fun hb1 => ?_) (fun hb1 => ?_)
 ·have hb1' := hb1; try simp at hb1'
  refine d4 (b4 rfl (b6 rfl (b6 rfl (b6 rfl (c3 (M2 (pB ?_))))))); have hE : foundE cs hs pr ws p = ([], 0, checkT (trOf cs hs)) := by rw [foundE, if_pos hb1]
  refine D4 (α := Int) ?_; exact ret3 (none, 0) rfl rfl rfl rfl (by show Value.tuple #[.slice none (foundE cs hs pr ws p).1.length 0, int (foundE cs hs pr ws p).2.1, int (foundE cs hs pr ws p).2.2] = _; rw [hE] <;> rfl) rfl tK nK (by show LSub _ [Row none (rows (foundE cs hs pr ws p).1)]; rw [hE]; exact mC)
 have hb1' := hb1; try simp at hb1'
 have h0 : checkT (trOf cs hs) = 0 := Classical.not_not.1 hb1; have hok := gL h0; have hn6 := hok.h6; rw [y6] at hn6; refine i4 (c7 (d1 (d4 (b4 rfl ?_)))); refine k5 rfl j2 rfl ?_
 first | refine b2 ⟨_, 1, none⟩ rfl rfl d8 rfl ?_ | refine b2 _ rfl rfl d8 rfl ?_
 refine b3 (v := .slice B hs.length cb) rfl b8 rfl (d5 mB rfl) (k5 rfl l4 rfl ?_); refine u7 rfl rfl rfl (c3 ?_)
 first | refine j9 rfl (fun hb2 => ?_) (fun hb2 => ?_) | refine d6 rfl (fun hb2 => ?_) (fun hb2 => ?_)
 ·have hb2' := hb2; try simp at hb2'
  have h2 : pr.length < hs.length := by omega
  refine d4 (b6 rfl (b6 rfl (b6 rfl (c3 (M2 (pB ?_)))))); have hE : foundE cs hs pr ws p = ([], 0, 7) := by rw [foundE, if_neg (Classical.not_not.2 h0), if_pos h2]
  refine D4 (α := Int) ?_; exact ret3 (none, 0) rfl rfl rfl rfl (by show Value.tuple #[.slice none (foundE cs hs pr ws p).1.length 0, int (foundE cs hs pr ws p).2.1, int (foundE cs hs pr ws p).2.2] = _; rw [hE] <;> rfl) rfl tK nK (by show LSub _ [Row none (rows (foundE cs hs pr ws p).1)]; rw [hE]; exact mC)
 have hb2' := hb2; try simp at hb2'
 have h2 : ¬ pr.length < hs.length := by omega
 refine i4 (c7 (d1 (d4 (b4 rfl ?_)))); refine k5 rfl j2 rfl ?_
 first | refine b2 ⟨_, 1, none⟩ rfl rfl d8 rfl ?_ | refine b2 _ rfl rfl d8 rfl ?_
 refine b3 (v := .slice B hs.length cb) rfl b8 rfl (d5 mB rfl) (k5 rfl l4 rfl ?_); refine K5 rfl rfl rfl (c3 ?_)
 first | refine j9 rfl (fun hb3 => ?_) (fun hb3 => ?_) | refine d6 rfl (fun hb3 => ?_) (fun hb3 => ?_)
 ·have hb3' := hb3; try simp at hb3'
  have h3 : hs.length < pr.length := by omega
  refine d4 (b6 rfl (b6 rfl (b6 rfl (c3 (M2 (pB ?_)))))); have hE : foundE cs hs pr ws p = ([], 0, 6) := by rw [foundE, if_neg (Classical.not_not.2 h0), if_neg h2, if_pos h3]
  refine D4 (α := Int) ?_; exact ret3 (none, 0) rfl rfl rfl rfl (by show Value.tuple #[.slice none (foundE cs hs pr ws p).1.length 0, int (foundE cs hs pr ws p).2.1, int (foundE cs hs pr ws p).2.2] = _; rw [hE] <;> rfl) rfl tK nK (by show LSub _ [Row none (rows (foundE cs hs pr ws p).1)]; rw [hE]; exact mC)
 have hb3' := hb3; try simp at hb3'
 have h3 : ¬ hs.length < pr.length := by omega
 have hpl : pr.length = hs.length := by omega
 refine i4 (c7 (d1 (d4 (b4 rfl ?_)))); refine k5 rfl j2 rfl ?_; refine b4 rfl (c3 (i8 ?_)); refine p6 (β := Nat) ⟨fun k => k ≤ pr.length ∧ ∀ j, j < k → prB (pr.getD j default), fun k => [(1, .slice PA pr.length pc), (2, .slice WA ws.length wc), (4, .pointer (i7 gT)), (3, int p), (41, .slice PA pr.length pc), (42, int pr.length), (43, int k)], fun _ => [], fun _ => [Blk gT (Obj.cells #[.slice A cs.length ca, .slice B hs.length cb] m5 (0, 0)), Row A (rows cs), RowsF B hs Hd.row, Row PA (rows pr), Row WA (rows ws)]⟩ (fun k => pr.length - k) 0 ⟨Nat.zero_le _, fun j hj => absurd hj (Nat.not_lt_zero j)⟩ mC nK mC fun k hk => ?_; obtain ⟨hk, hq⟩ := hk; refine d4 (u7 rfl rfl rfl (c3 (d1 ?_)))
 first | refine j9 rfl (fun hb4 => ?_) (fun hb4 => ?_) | refine d6 rfl (fun hb4 => ?_) (fun hb4 => ?_)
 ·have hb4' := hb4; try simp at hb4'
  have hk2 : k < pr.length := by omega
  refine i4 (c7 (d1 (i8 (d4 ?_)))); refine p8 (α := Int) _ _ rfl j2 k6 rfl rfl rfl mB rfl (by omega) (by decide) (b3 rfl b5 rfl (i1 mB (c5 (by omega) rfl)) ?_); refine b6 rfl (j4 (b4 rfl ?_)); refine i5 G0 rfl rfl (G1 _ _ _) k8 tK fun _ _ => ?_; refine I6 rfl rfl (c3 ?_)
  first | refine j9 rfl (fun hb5 => ?_) (fun hb5 => ?_) | refine d6 rfl (fun hb5 => ?_) (fun hb5 => ?_)
  ·have hb5' := hb5; try simp at hb5'
   refine d4 (b6 rfl (b6 rfl (b6 rfl (c3 (j6 (A1 (u4 (W6 ?_)))))))); refine u4 (pB ?_); have hE : foundE cs hs pr ws p = ([], 0, 1) := by rw [foundE, if_neg (Classical.not_not.2 h0), if_neg h2, if_neg h3, if_pos (iq5 (p := prB) hk2 (nbt hb5))]
   refine D4 (α := Int) ?_; exact ret3 (none, 0) rfl rfl rfl rfl (by show Value.tuple #[.slice none (foundE cs hs pr ws p).1.length 0, int (foundE cs hs pr ws p).2.1, int (foundE cs hs pr ws p).2.2] = _; rw [hE] <;> rfl) rfl tK nK (by show LSub _ [Row none (rows (foundE cs hs pr ws p).1)]; rw [hE]; exact mC)
  have hb5' := hb5; try simp at hb5'
  refine i4 (q8 (c7 (c9 ?_))); refine r4 _ rfl rfl rfl rfl m7 ?_; refine b4 rfl (b7 ?_); exact again _ (k + 1) ⟨by show k + 1 ≤ pr.length; omega, fun j hj => (Nat.lt_succ_iff_lt_or_eq.1 hj).elim (hq j) fun e => by subst e; exact nbf hb5⟩ (r9 (by omega)) mC nK mC
 have hb4' := hb4; try simp at hb4'
 have hk2 : k = pr.length := by omega
 rw [hk2] at hq; have hq1 := vD (l := pr) (p := prB) hq; refine m4 (v6 (l9 (c7 (d1 (d4 (b4 rfl ?_)))))); refine k5 rfl j2 rfl ?_; refine b4 rfl (c3 (i8 ?_)); refine p6 (β := Nat) ⟨fun k => k ≤ ws.length ∧ ∀ j, j < k → (0 ≤ ws.getD j default ∧ ws.getD j default ≤ (hs.length : Int) - 1), fun k => [(1, .slice PA pr.length pc), (2, .slice WA ws.length wc), (4, .pointer (i7 gT)), (3, int p), (51, .slice WA ws.length wc), (52, int ws.length), (53, int k)], fun _ => [], fun _ => [Blk gT (Obj.cells #[.slice A cs.length ca, .slice B hs.length cb] m5 (0, 0)), Row A (rows cs), RowsF B hs Hd.row, Row PA (rows pr), Row WA (rows ws)]⟩ (fun k => ws.length - k) 0 ⟨Nat.zero_le _, fun j hj => absurd hj (Nat.not_lt_zero j)⟩ mC nK mC fun k hk => ?_; obtain ⟨hk, hq⟩ := hk; refine d4 (u7 rfl rfl rfl (c3 (d1 ?_)))
 first | refine j9 rfl (fun hb6 => ?_) (fun hb6 => ?_) | refine d6 rfl (fun hb6 => ?_) (fun hb6 => ?_)
 ·have hb6' := hb6; try simp at hb6'
  have hk2 : k < ws.length := by omega
  refine i4 (c7 (d1 (i8 (d4 ?_)))); refine p8 (α := Int) _ _ rfl j2 k6 rfl rfl rfl mB rfl (by omega) (by decide) (b3 rfl b5 rfl (i1 mB (c5 (by omega) rfl)) ?_); refine b6 rfl (j4 (b4 rfl ?_))
  first | refine b2 ⟨_, 1, none⟩ rfl rfl d8 rfl ?_ | refine b2 _ rfl rfl d8 rfl ?_
  refine b3 (v := .slice B hs.length cb) rfl b8 rfl (d5 mB rfl) (k5 rfl l4 rfl (H3 _ rfl rfl rfl rfl m7 (i5 G0 rfl rfl (G1 _ _ _) k8 tK fun _ _ => ?_))); refine I6 rfl rfl (c3 ?_)
  first | refine j9 rfl (fun hb7 => ?_) (fun hb7 => ?_) | refine d6 rfl (fun hb7 => ?_) (fun hb7 => ?_)
  ·have hb7' := hb7; try simp at hb7'
   refine d4 (b6 rfl (b6 rfl (b6 rfl (c3 (j6 (A1 (u4 (W6 ?_)))))))); refine u4 (pB ?_); have hE : foundE cs hs pr ws p = ([], 0, 3) := by rw [foundE, if_neg (Classical.not_not.2 h0), if_neg h2, if_neg h3, if_neg (Classical.not_not.2 hq1), if_pos (iq5 (p := fun w => 0 ≤ w ∧ w ≤ (hs.length : Int) - 1) hk2 (nbt hb7))]
   refine D4 (α := Int) ?_; exact ret3 (none, 0) rfl rfl rfl rfl (by show Value.tuple #[.slice none (foundE cs hs pr ws p).1.length 0, int (foundE cs hs pr ws p).2.1, int (foundE cs hs pr ws p).2.2] = _; rw [hE] <;> rfl) rfl tK nK (by show LSub _ [Row none (rows (foundE cs hs pr ws p).1)]; rw [hE]; exact mC)
  have hb7' := hb7; try simp at hb7'
  refine i4 (q8 (c7 (c9 ?_))); refine r4 _ rfl rfl rfl rfl m7 ?_; refine b4 rfl (b7 ?_); exact again _ (k + 1) ⟨by show k + 1 ≤ ws.length; omega, fun j hj => (Nat.lt_succ_iff_lt_or_eq.1 hj).elim (hq j) fun e => by subst e; exact nbf hb7⟩ (r9 (by omega)) mC nK mC
 have hb6' := hb6; try simp at hb6'
 have hk2 : k = ws.length := by omega
 rw [hk2] at hq; have hq2 := vD (l := ws) (p := fun w => 0 ≤ w ∧ w ≤ (hs.length : Int) - 1) hq; refine m4 (v6 (l9 (c7 (d1 (d4 (b4 rfl ?_)))))); refine i5 G0 rfl rfl (G1 _ _ _) k8 tK fun _ _ => ?_; refine I6 rfl rfl (c3 ?_)
 first | refine j9 rfl (fun hb8 => ?_) (fun hb8 => ?_) | refine d6 rfl (fun hb8 => ?_) (fun hb8 => ?_)
 ·have hb8' := hb8; try simp at hb8'
  have h8 := nbt hb8; refine d4 (b6 rfl (b6 rfl (b6 rfl (c3 (M2 (pB ?_)))))); have hE : foundE cs hs pr ws p = ([], 0, 1) := by rw [foundE, if_neg (Classical.not_not.2 h0), if_neg h2, if_neg h3, if_neg (Classical.not_not.2 hq1), if_neg (Classical.not_not.2 hq2), if_pos h8]
  refine D4 (α := Int) ?_; exact ret3 (none, 0) rfl rfl rfl rfl (by show Value.tuple #[.slice none (foundE cs hs pr ws p).1.length 0, int (foundE cs hs pr ws p).2.1, int (foundE cs hs pr ws p).2.2] = _; rw [hE] <;> rfl) rfl tK nK (by show LSub _ [Row none (rows (foundE cs hs pr ws p).1)]; rw [hE]; exact mC)
 have hb8' := hb8; try simp at hb8'
 have h8 := nbf hb8; refine i4 (c7 (d4 ?_)); refine H6 _ rfl rfl (fun _ => P2 ..) (B2 rfl (fun _ => R9 _) fun gB => E0 (cs := offA ((⟨none, 0, []⟩, 0, 0) : Hv) false D7) rfl rfl (.refl _) R7 (by rfl) (by rfl) (j4 (w7 (cs := #[.slice A cs.length ca, .slice B hs.length cb]) rfl i9 j0 rfl mB rfl (b4 rfl (i5 dQ rfl rfl (dU cs hs p hca hcb ha (by omega) (dj7 cs hs (by omega))) k8 mC fun x hx => ?_))))); obtain ⟨go, ps⟩ := x; obtain ⟨hpn2, hpm⟩ := hx; simp only at hpn2 hpm; refine B2 rfl (fun _ => zG _) fun g17 => u9 rfl rfl (.refl _) zA rfl rfl ?_; refine v8 (rows [((⟨some ⟨go, 0, none⟩, hs.length, ps⟩) : Sl (Sl Bool))]) (by show [Value.slice _ ps.length _] <+: [Value.slice _ hs.length _]; rw [hpn2]; exact List.prefix_refl _) ?_; refine bj7 (α := Int) ?_; refine c3 (d1 (lz4 (c7 (d1 (d4 ?_)))))
 first | refine b2 ⟨_, 1, none⟩ rfl rfl d8 rfl ?_ | refine b2 _ rfl rfl d8 rfl ?_
 refine b3 (v := .slice B hs.length cb) rfl b8 rfl (d5 mB rfl) (k5 rfl l4 rfl ?_); obtain ⟨N, hN⟩ : ∃ N, N = 2 ^ hs.length := ⟨_, rfl⟩; have hN2 : N ≤ 64 := by rw [hN]; exact Nat.pow_le_pow_right (n := 2) (by omega) hn6
 refine r_shl1 hs.length N hN rfl rfl rfl rfl (by omega) ?_; refine b4 rfl (c3 (i8 ?_)); refine p6 (β := Nat × Hv × Bool) ⟨fun x => x.1 ≤ N ∧ (x.2.1.dat, x.2.2) = bestL ordP (fndL hs (reachK (trOf cs hs) p hs.length) pr ws x.1) ∧ x.2.1.1.l.length ≤ 8, fun x => [(1, .slice PA pr.length pc), (2, .slice WA ws.length wc), (4, .pointer (i7 gT)), (16, .pointer (i7 gB)), (17, .pointer (i7 g17)), (75, int (N : Int)), (76, int x.1)], fun x => [(gB, Obj.cells (offA x.2.1 x.2.2 D7) u3 (0, 0))], fun x => [Blk gT (Obj.cells #[.slice A cs.length ca, .slice B hs.length cb] m5 (0, 0)), Row A (rows cs), RowsF B hs Hd.row, Row PA (rows pr), Row WA (rows ws), Row (i7 g17) (rows [((⟨some ⟨go, 0, none⟩, hs.length, ps⟩) : Sl (Sl Bool))]), Row (i7 go) (rows ps), innerF ps, x.2.1.row]⟩ (fun x => N - x.1) (0, ((⟨none, 0, []⟩, 0, 0) : Hv), false) ⟨Nat.zero_le _, rfl, Nat.zero_le _⟩ mC (.refl _) mC fun x hx => ?_; obtain ⟨k, y, ok⟩ := x; obtain ⟨hk, hb, hy⟩ := hx; simp only at hk hb hy; have hsl := az9 k hs.length; have hpi : ∀ v ∈ (pickK k hs.length), 0 ≤ v ∧ v < (hs.length : Int) := fun v hv => lj4 hv; refine d4 (u7 rfl rfl rfl (c3 (d1 ?_)))
 first | refine j9 rfl (fun hb9 => ?_) (fun hb9 => ?_) | refine d6 rfl (fun hb9 => ?_) (fun hb9 => ?_)
 ·have hb9' := hb9; try simp at hb9'
  have hk2 : k < N := by omega
  refine i4 (c7 (d1 (i8 (d4 (b4 rfl (b6 rfl (j4 ?_))))))); refine b4 rfl (nZ (k : Int) rfl cI xK rfl (wrap64 (by omega)) ?_)
  first | refine b2 ⟨_, 1, none⟩ rfl rfl d8 rfl ?_ | refine b2 _ rfl rfl d8 rfl ?_
  refine b3 (v := .slice B hs.length cb) rfl b8 rfl (d5 mB rfl) (k5 rfl l4 rfl (i5 nN rfl rfl (nP k hs.length (by omega) (by omega)) k8 tK fun gc _ => H6 _ rfl rfl (fun _ => tI ..) (B2 rfl (fun _ => xL _) fun gh => E0 (cs := #[.slice (i7 gc) (pickK k hs.length).length (pickK k hs.length).length, int 0, int 0]) rfl rfl (.refl _) D6 (by rfl) (by rfl) ?_))); refine c3 (d1 (d4 ?_))
  first | refine b2 ⟨_, 0, none⟩ rfl rfl r7 rfl ?_ | refine b2 _ rfl rfl r7 rfl ?_
  refine b3 (v := .slice (i7 gc) (pickK k hs.length).length (pickK k hs.length).length) rfl d9 rfl (j3 mB rfl) (k5 rfl j2 rfl ?_); refine b4 rfl (c3 (i8 ?_)); refine p6 (β := Nat × Int) ⟨fun x => x.1 ≤ (pickK k hs.length).length ∧ x.2 = ((priP pr (pickK k hs.length)).take x.1).sum ∧ ∀ i, i < x.1 → 0 ≤ (hs.getD ((pickK k hs.length).getD i default).toNat default).2.1, fun x => [(1, .slice PA pr.length pc), (2, .slice WA ws.length wc), (4, .pointer (i7 gT)), (16, .pointer (i7 gB)), (17, .pointer (i7 g17)), (19, .pointer (i7 gh)), (75, int (N : Int)), (76, int k), (87, .slice (i7 gc) (pickK k hs.length).length (pickK k hs.length).length), (88, int (pickK k hs.length).length), (89, int x.1)], fun x => [(gh, Obj.cells #[.slice (i7 gc) (pickK k hs.length).length (pickK k hs.length).length, int 0, int x.2] bV (0, 0)), (gB, Obj.cells (offA y ok D7) u3 (0, 0))], fun x => [Row (i7 gc) (rows (pickK k hs.length)), Blk gT (Obj.cells #[.slice A cs.length ca, .slice B hs.length cb] m5 (0, 0)), Row A (rows cs), RowsF B hs Hd.row, Row PA (rows pr), Row WA (rows ws), Row (i7 g17) (rows [((⟨some ⟨go, 0, none⟩, hs.length, ps⟩) : Sl (Sl Bool))]), Row (i7 go) (rows ps), innerF ps, y.row]⟩ (fun x => (pickK k hs.length).length - x.1) (0, 0) ⟨Nat.zero_le _, rfl, fun j hj => absurd hj (Nat.not_lt_zero j)⟩ mC (.refl _) mC fun x hx => ?_; obtain ⟨j, b⟩ := x; obtain ⟨hj, hbs, hjp⟩ := hx; simp only at hj hbs hjp; have hbb := kx7 (priP_bd (pr := pr) hq1 (fun v hv => by have := hpi v hv; omega) : ∀ v ∈ (priP pr (pickK k hs.length)), 0 ≤ v ∧ v ≤ 1000000000) j; rw [← hbs] at hbb; refine d4 (u7 rfl rfl rfl (c3 (d1 ?_)))
  first | refine j9 rfl (fun hb10 => ?_) (fun hb10 => ?_) | refine d6 rfl (fun hb10 => ?_) (fun hb10 => ?_)
  ·have hb10' := hb10; try simp at hb10'
   have hj2 : j < (pickK k hs.length).length := by omega
   have hvj := hpi _ (n7 hj2); obtain ⟨v, hv⟩ : ∃ v : Nat, ((pickK k hs.length).getD j default) = (v : Int) := ⟨_, (Int.toNat_of_nonneg hvj.1).symm⟩; have hv2 : v < hs.length := by omega
   have hv3 : v < pr.length := by omega
   have hcv := hq1 _ (n7 hv3); have hcv1 := hcv.1; have hcv2 := hcv.2; have hb2' := dj3 (l := (priP pr (pickK k hs.length))) (k := j) (by rw [dq8]; exact hj2); rw [← hbs, priP_at hj2, hv, Int.toNat_natCast] at hb2'; refine i4 (c7 (d1 (i8 (d4 ?_)))); refine p8 (α := Int) _ _ rfl j2 k6 rfl rfl rfl mB rfl (by omega) (by decide) (b3 rfl b5 rfl (i1 mB (c5 (by omega) rfl)) ?_); refine b6 rfl (c3 (d1 (d4 ?_)))
   first | refine b2 ⟨_, 1, none⟩ rfl rfl d8 rfl ?_ | refine b2 _ rfl rfl d8 rfl ?_
   refine b3 (v := .slice B hs.length cb) rfl b8 rfl (d5 mB rfl) (b4 rfl (P9 (A := B) (ps := hs) (f := Hd.row) mB (p8 (α := Hd) hs v rfl l4 m8 rfl rfl hv mB rfl hv2 (by decide) ?_)))
   first | refine b2 ⟨_, 1, none⟩ rfl rfl l6 rfl ?_ | refine b2 _ rfl rfl l6 rfl ?_
   refine b3 (v := int (hs.getD v default).2.1) rfl b5 rfl (i3 mB (rows_get hv2 (j := 1) rfl)) ?_; refine u7 rfl rfl rfl (c3 ?_)
   first | refine j9 rfl (fun hb11 => ?_) (fun hb11 => ?_) | refine d6 rfl (fun hb11 => ?_) (fun hb11 => ?_)
   ·have hb11' := hb11; try simp at hb11'
    refine m4 (w4 (J6 rfl (v6 (J6 rfl (w4 (l9 (c7 (c9 ?_)))))))); refine r4 _ rfl rfl rfl rfl m7 ?_; refine b4 rfl (b7 ?_); have hy8 := hy; exact again _ (k + 1, y, ok) ⟨by show k + 1 ≤ N; omega, by show (Hv.dat y, ok) = bestL ordP (fndL hs (reachK (trOf cs hs) p hs.length) pr ws (k + 1)); rw [qC, if_neg (cq5 hj2 (by rw [hv, Int.toNat_natCast]; exact hb11))]; exact hb, hy8⟩ (r9 (by omega)) mC (.cons _ (.refl _)) mC
   have hb11' := hb11; try simp at hb11'
   refine i4 (c7 ?_); refine G9 6 mixed (by decide) (by decide) rfl rfl ?_
   apply k9 _ rfl rfl rfl
   ·intro w1
    first | refine b2 ⟨_, 2, none⟩ rfl rfl y5 rfl ?_ | refine b2 _ rfl rfl y5 rfl ?_
    refine b7 ?_; exact i6 rfl
   refine m6 (fun w1 => b3 (v := int b) rfl b5 rfl (d5 mB rfl) (q_z rfl)) (p9 rfl (p9 rfl (m6 (fun w1 => p8 (α := Int) pr v rfl j2 k6 rfl rfl hv mB rfl hv3 (by decide) (q_z rfl)) (m6 (fun w1 => b3 (v := int (pr.getD v default)) rfl b5 rfl (i1 mB (c5 hv3 rfl)) (q_z rfl)) ?_)))); refine y8 ⟨rfl, ?_⟩; refine r4 (a := b) (b := pr.getD v default) (b + pr.getD v default) rfl rfl rfl rfl m7 ?_
   first | refine b2 ⟨_, 2, none⟩ rfl rfl y5 rfl ?_ | refine b2 _ rfl rfl y5 rfl ?_
   refine u9 rfl rfl (.refl _) k6 rfl rfl ?_; refine b7 (q8 (c7 (c9 ?_))); refine r4 _ rfl rfl rfl rfl m7 ?_; refine b4 rfl (b7 ?_); exact again _ (j + 1, b + pr.getD v default) ⟨by show j + 1 ≤ _; omega, hb2'.symm, fun i hi => (Nat.lt_succ_iff_lt_or_eq.1 hi).elim (hjp i) fun e => by subst e; rw [hv, Int.toNat_natCast]; exact Int.not_lt.1 hb11⟩ (r9 (by omega)) mC (.refl _) mC
  have hb10' := hb10; try simp at hb10'
  have hj2 : j = (pickK k hs.length).length := by omega
  rw [hj2, List.take_of_length_le (Nat.le_of_eq (dq8 ..))] at hbs; rw [hj2] at hjp; have hall := vD (l := (pickK k hs.length)) (p := fun v => 0 ≤ (hs.getD v.toNat default).2.1) hjp; refine m4 (v6 (l9 (c7 (d1 (d4 (b4 rfl ?_)))))); refine k5 rfl j2 rfl ?_; refine b4 rfl (c3 (i8 ?_)); refine p6 (β := Nat) ⟨fun i => i ≤ ws.length ∧ ∀ q, q < i → ((pickK k hs.length).any fun x => (((reachK (trOf cs hs) p hs.length)).getD (ws.getD q default).toNat default).getD x.toNat default) = true, fun i => [(1, .slice PA pr.length pc), (2, .slice WA ws.length wc), (4, .pointer (i7 gT)), (16, .pointer (i7 gB)), (17, .pointer (i7 g17)), (19, .pointer (i7 gh)), (75, int (N : Int)), (76, int k), (109, .slice WA ws.length wc), (110, int ws.length), (111, int i)], fun _ => [(gh, Obj.cells #[.slice (i7 gc) (pickK k hs.length).length (pickK k hs.length).length, int 0, int b] bV (0, 0)), (gB, Obj.cells (offA y ok D7) u3 (0, 0))], fun _ => [Row (i7 gc) (rows (pickK k hs.length)), Blk gT (Obj.cells #[.slice A cs.length ca, .slice B hs.length cb] m5 (0, 0)), Row A (rows cs), RowsF B hs Hd.row, Row PA (rows pr), Row WA (rows ws), Row (i7 g17) (rows [((⟨some ⟨go, 0, none⟩, hs.length, ps⟩) : Sl (Sl Bool))]), Row (i7 go) (rows ps), innerF ps, y.row]⟩ (fun i => ws.length - i) 0 ⟨Nat.zero_le _, fun j hj => absurd hj (Nat.not_lt_zero j)⟩ mC (.refl _) mC fun i hi => ?_; obtain ⟨hi, hq⟩ := hi; refine d4 (u7 rfl rfl rfl (c3 (d1 ?_)))
  first | refine j9 rfl (fun hb12 => ?_) (fun hb12 => ?_) | refine d6 rfl (fun hb12 => ?_) (fun hb12 => ?_)
  ·have hb12' := hb12; try simp at hb12'
   have hi2 : i < ws.length := by omega
   have hwi := hq2 _ (n7 hi2); obtain ⟨u, hu⟩ : ∃ u : Nat, (ws.getD i default) = (u : Int) := ⟨_, (Int.toNat_of_nonneg hwi.1).symm⟩; have hu2 : u < hs.length := by omega
   refine i4 (c7 (d1 (i8 (d4 ?_)))); refine p8 (α := Int) _ _ rfl j2 k6 rfl rfl rfl mB rfl (by omega) (by decide) (b3 rfl b5 rfl (i1 mB (c5 (by omega) rfl)) (B2 rfl (fun _ => iz6 _) fun g23 => u9 rfl rfl (.refl _) k6 rfl rfl ?_)); refine v8 (rows [(u : Int)]) (by show [int (u : Int)] <+: [int (ws.getD i default)]; rw [hu]; exact List.prefix_refl _) ?_; refine j4 ?_
   first | refine b2 ⟨_, 0, none⟩ rfl rfl r7 rfl ?_ | refine b2 _ rfl rfl r7 rfl ?_
   refine b3 (v := .slice (i7 gc) (pickK k hs.length).length (pickK k hs.length).length) rfl d9 rfl (j3 mB rfl) (N4 rfl rfl rfl ?_); have hpu : (ps.getD u default).l = ((reachK (trOf cs hs) p hs.length)).getD u default := by rw [← hpm, q7 (l := ps.map (·.l)) (k := u) (by rw [List.length_map]; omega), q7 (l := ps) (k := u) (by omega), List.getElem_map]
   have hpl9 : (ps.getD u default).l.length = hs.length := by rw [hpu, q7 (by unfold reachK; simp; omega)]; unfold reachK; simp only [List.getElem_map, List.getElem_range]; rw [bz7, az6 h0 hu2]
   refine i5 K9 rfl rfl (K4 (A := some ⟨gc, 0, none⟩) (cap := [.pointer (i7 g17), .pointer (i7 g23)]) (L0 := [Row (i7 g17) (rows [((⟨some ⟨go, 0, none⟩, hs.length, ps⟩) : Sl (Sl Bool))]), Row (i7 g23) (rows [(u : Int)]), Row (i7 go) (rows ps), innerF ps]) (pickK k hs.length) (fun x => (ps.getD u default).l.getD x.toNat default) (by omega) sM (fun x hx => by
     have h9 := hpi x hx; obtain ⟨x', rfl⟩ : ∃ x' : Nat, x = (x' : Int) := ⟨x.toNat, by omega⟩; rw [Int.toNat_natCast]
     exact sP ps u x' (by omega) (by omega))) k8 mC fun _ _ => ?_
   rw [hpu]; refine I6 rfl rfl (c3 ?_)
   first | refine j9 rfl (fun hb13 => ?_) (fun hb13 => ?_) | refine d6 rfl (fun hb13 => ?_) (fun hb13 => ?_)
   ·have hb13' := hb13; try simp at hb13'
    refine m4 (J6 rfl (v6 (J6 rfl (w4 (l9 (c7 (c9 ?_))))))); refine r4 _ rfl rfl rfl rfl m7 ?_; refine b4 rfl (b7 ?_); have hy8 := hy; exact again _ (k + 1, y, ok) ⟨by show k + 1 ≤ N; omega, by show (Hv.dat y, ok) = bestL ordP (fndL hs (reachK (trOf cs hs) p hs.length) pr ws (k + 1)); rw [qC, if_neg (gj2 hi2 (by rw [hu, Int.toNat_natCast]; exact eq_false_of_ne_true (by simpa using hb13)))]; exact hb, hy8⟩ (r9 (by omega)) mC (.cons _ (.refl _)) mC
   have hb13' := hb13; try simp at hb13'
   refine i4 (q8 (c7 (c9 ?_))); refine r4 _ rfl rfl rfl rfl m7 ?_; refine b4 rfl (b7 ?_); exact again _ (i + 1) ⟨by show i + 1 ≤ ws.length; omega, fun q hq' => (Nat.lt_succ_iff_lt_or_eq.1 hq').elim (hq q) fun e => by subst e; rw [hu, Int.toNat_natCast]; simpa using hb13⟩ (r9 (by omega)) mC (.refl _) mC
  have hb12' := hb12; try simp at hb12'
  have hi2 : i = ws.length := by omega
  rw [hi2] at hq; have hall2 := vD (l := ws) (p := fun w => ((pickK k hs.length).any fun x => (((reachK (trOf cs hs) p hs.length)).getD w.toNat default).getD x.toNat default) = true) hq; refine m4 (v6 (l9 (c7 (c9 ?_)))); refine J5 (cs := #[.slice (i7 gc) (pickK k hs.length).length (pickK k hs.length).length, int 0, int b]) rfl K3 D6 rfl mB rfl ?_; refine i5 X8 rfl rfl (X9 jq1 ((⟨some ⟨gc, 0, none⟩, (pickK k hs.length).length, (pickK k hs.length)⟩, 0, b) : Hv) y ok (by show (pickK k hs.length).length ≤ 1000000; omega) (by omega)) (List.Perm.swap _ _ _) mC fun z hz => ?_; obtain ⟨z, zk⟩ := z; obtain ⟨hz, hzi⟩ := hz; refine b7 (q8 (c7 (c9 ?_))); refine r4 _ rfl rfl rfl rfl m7 ?_; refine b4 rfl (b7 ?_); have hyes := fnd_yes (ws := ws) (rs := (reachK (trOf cs hs) p hs.length)) hall hall2; have hXd : Hv.dat ((⟨some ⟨gc, 0, none⟩, (pickK k hs.length).length, (pickK k hs.length)⟩, 0, b) : Hv) = fndH pr (pickK k hs.length) := by show ((pickK k hs.length), (0 : Int), b) = _; rw [hbs]; rfl
  rcases hzi with rfl | rfl
  · have hy8 : ((⟨some ⟨gc, 0, none⟩, (pickK k hs.length).length, (pickK k hs.length)⟩, 0, b) : Hv).1.l.length ≤ 8 := by first | exact hy | (show (pickK k hs.length).length ≤ 8; omega)
    exact again _ (k + 1, ((⟨some ⟨gc, 0, none⟩, (pickK k hs.length).length, (pickK k hs.length)⟩, 0, b) : Hv), zk) ⟨by show k + 1 ≤ N; omega, by show (Hv.dat ((⟨some ⟨gc, 0, none⟩, (pickK k hs.length).length, (pickK k hs.length)⟩, 0, b) : Hv), zk) = bestL ordP (fndL hs (reachK (trOf cs hs) p hs.length) pr ws (k + 1)); rw [qC, if_pos hyes, wX, ← hb, ← hXd]; exact hz, hy8⟩ (r9 (by omega)) mC (by first | exact .cons_cons _ nK | exact .cons _ (.refl _)) mC
  have hy8 : z.1.l.length ≤ 8 := by first | exact hy | (show (pickK k hs.length).length ≤ 8; omega)
  exact again _ (k + 1, z, zk) ⟨by show k + 1 ≤ N; omega, by show (Hv.dat z, zk) = bestL ordP (fndL hs (reachK (trOf cs hs) p hs.length) pr ws (k + 1)); rw [qC, if_pos hyes, wX, ← hb, ← hXd]; exact hz, hy8⟩ (r9 (by omega)) mC (by first | exact .cons_cons _ nK | exact .cons _ (.refl _)) mC
 have hb9' := hb9; try simp at hb9'
 have hk2 : k = N := by omega
 rw [hk2, hN] at hb; have hb : (y.dat, ok) = fndB (trOf cs hs) hs pr ws p := hb; refine m4 (v6 (l9 (c7 (d1 (d4 ?_)))))
 first | refine b2 ⟨_, 3, none⟩ rfl rfl n6 rfl ?_ | refine b2 _ rfl rfl n6 rfl ?_
 refine b3 (v := .bool ok) rfl C2 rfl (j3 mB rfl) ?_; refine I6 rfl rfl (c3 ?_)
 first | refine j9 rfl (fun hb14 => ?_) (fun hb14 => ?_) | refine d6 rfl (fun hb14 => ?_) (fun hb14 => ?_)
 ·have hb14' := hb14; try simp at hb14'
  refine d4 (b6 rfl (b6 rfl (b6 rfl (c3 (M2 (pB ?_)))))); have hE : foundE cs hs pr ws p = ([], 0, 11) := by rw [foundE, if_neg (Classical.not_not.2 h0), if_neg h2, if_neg h3, if_neg (Classical.not_not.2 hq1), if_neg (Classical.not_not.2 hq2), if_neg (Classical.not_not.2 h8), ← hb]; exact if_pos (by simpa using hb14)
  refine D4 (α := Int) ?_; exact ret3 (none, 0) rfl rfl rfl rfl (by show Value.tuple #[.slice none (foundE cs hs pr ws p).1.length 0, int (foundE cs hs pr ws p).2.1, int (foundE cs hs pr ws p).2.2] = _; rw [hE] <;> rfl) rfl tK nK (by show LSub _ [Row none (rows (foundE cs hs pr ws p).1)]; rw [hE]; exact mC)
 have hb14' := hb14; try simp at hb14'
 refine i4 (c7 (d1 ?_)); refine G9 7 mixed (by decide) (by decide) rfl rfl ?_
 apply k9 _ rfl rfl rfl
 ·intro w1
  first | refine b2 ⟨_, 0, none⟩ rfl rfl l8 rfl ?_ | refine b2 _ rfl rfl l8 rfl ?_
  refine b7 ?_; exact i6 rfl
 apply k9 _ rfl rfl rfl
 ·intro w1
  first | refine b2 ⟨_, 0, none⟩ rfl rfl r7 rfl ?_ | refine b2 _ rfl rfl r7 rfl ?_
  refine b7 ?_; exact i6 rfl
 apply k9 _ rfl rfl rfl
 ·intro w1
  first | refine b3 rfl d9 rfl (d5 mB rfl) ?_ | refine b3 rfl d9 rfl (j3 mB rfl) ?_ | refine b3 rfl d9 rfl (i1 mB (c5 (by omega) rfl)) ?_ | refine b3 rfl d9 rfl (i3 mB (rows_get (by omega) rfl)) ?_ | refine b3 rfl d9 rfl (j8 mB rfl) ?_
  refine b7 ?_; exact i6 rfl
 apply k9 _ rfl rfl rfl
 ·intro w1
  first | refine b2 ⟨_, 0, none⟩ rfl rfl l8 rfl ?_ | refine b2 _ rfl rfl l8 rfl ?_
  refine b7 ?_; exact i6 rfl
 apply k9 _ rfl rfl rfl
 ·intro w1
  first | refine b2 ⟨_, 2, none⟩ rfl rfl y5 rfl ?_ | refine b2 _ rfl rfl y5 rfl ?_
  refine b7 ?_; exact i6 rfl
 apply k9 _ rfl rfl rfl
 ·intro w1
  first | refine b3 rfl b5 rfl (d5 mB rfl) ?_ | refine b3 rfl b5 rfl (j3 mB rfl) ?_ | refine b3 rfl b5 rfl (i1 mB (c5 (by omega) rfl)) ?_ | refine b3 rfl b5 rfl (i3 mB (rows_get (by omega) rfl)) ?_ | refine b3 rfl b5 rfl (j8 mB rfl) ?_
  refine b7 ?_; exact i6 rfl
 refine m6 (fun w1 => b6 rfl (q_z rfl)) ?_; refine y8 ⟨rfl, ?_⟩; refine b6 rfl (b6 rfl (c3 (j6 (pB ?_)))); have hE : foundE cs hs pr ws p = (y.1.l, y.2.2, 0) := by rw [foundE, if_neg (Classical.not_not.2 h0), if_neg h2, if_neg h3, if_neg (Classical.not_not.2 hq1), if_neg (Classical.not_not.2 hq2), if_neg (Classical.not_not.2 h8), ← hb]; exact if_neg (by simpa using hb14)
 exact ret3 (y.1.a, y.1.c) rfl rfl rfl rfl (by show Value.tuple #[.slice y.1.a (foundE cs hs pr ws p).1.length y.1.c, int (foundE cs hs pr ws p).2.1, int (foundE cs hs pr ws p).2.2] = _; rw [hE] <;> rfl) rfl tK nK (by show LSub _ [Row y.1.a (rows (foundE cs hs pr ws p).1)]; rw [hE]; exact mC)
theorem dj2 {m z : Int} (h : ToInv m z) (hm : 0 ≤ m) : 0 ≤ z ∧ z ≤ m := by
  simp only [ToInv] at h; refine ⟨h.1, ?_⟩
  by_cases h1 : 1 ≤ m
  · exact h.2.1 h1
  have := h.2.2 (by omega); omega
theorem from_bd {lo hi z : Int} (h : FromInv lo hi z) (hm : lo ≤ hi) : lo ≤ z ∧ z ≤ hi := by
  simp only [FromInv] at h; refine ⟨h.1, ?_⟩
  by_cases h1 : lo < hi
  · exact h.2.1 h1
  have := h.2.2 (by omega); omega
theorem xE {α : Type} {p : α → Prop} {l : List α} {x : α} (h : ∀ y ∈ l, p y) (hx : p x) : ∀ y ∈ l ++ [x], p y := fun y hy => (List.mem_append.1 hy).elim (h y) fun hy => by rw [List.mem_singleton.1 hy]; exact hx
theorem rR {g : Nat} {A B : Option Addr} {c cb : Nat} {nums : List Int} {s : Int × Int} (l : List Int) (hn : nums.length ≤ 9223372036854775807) (hs : DOK nums s) (hl : 0 < l.length) (hl2 : l.length ≤ 1000) :
    Meets prog bH [.pointer (i7 g), .slice B l.length cb] { diceCon g A c nums s (fun x : Int => x ∈ l) (fun z => int z) (fun _ => []) with LI := [Row A (rows nums), Row B (rows l)] } := by
 refine d3 uQ rfl n2 fun w0 => ?_; refine d4 (b6 rfl (j4 (b4 rfl (b4 rfl (b4 rfl ?_))))); refine k5 rfl j2 rfl (H3 _ rfl rfl rfl rfl m7 (i5 w9 rfl rfl (w8 ((l.length : Int) - 1) hn hs (by omega)) k8 mC fun xs1 hs1 => ?_)); obtain ⟨s1, z⟩ := xs1; obtain ⟨hs1, hz⟩ := hs1; simp only at hs1; have hz := dj2 hz (by omega); obtain ⟨zn, rfl⟩ := Int.eq_ofNat_of_zero_le hz.1; have hzl : zn < l.length := by omega
 refine p8 (α := Int) _ _ rfl j2 k6 rfl rfl rfl mB rfl (by omega) (by decide) (b3 rfl b5 rfl (i1 mB (c5 (by omega) rfl)) ?_); refine b6 rfl (c3 (j6 ?_)); exact ret1 (s1, l.getD zn default) rfl rfl rfl ⟨hs1, n7 hzl⟩ (.refl _) tK
theorem rP {g : Nat} {A : Option Addr} {c : Nat} {nums : List Int} {s : Int × Int} (n : Nat) (hn : nums.length ≤ 9223372036854775807) (hs : DOK nums s) (h1 : n ≤ 1000) :
    Meets prog bF [.pointer (i7 g), int n] (diceCon g A c nums s (fun x : List Int × OutC => x.1.length = n ∧ (∀ y ∈ x.1, 0 ≤ y ∧ y ≤ 40) ∧ x.1.length ≤ x.2.2) (fun x => .slice x.2.1 x.1.length x.2.2) (fun x => [Row x.2.1 (rows x.1)])) := by
 refine d3 uM rfl n2 fun w0 => ?_; refine d4 (b6 rfl (j4 (b6 rfl (c3 (cW ?_))))); refine c9 (b6 rfl (c3 (i8 ?_))); refine p6 (β := List Int × OutC × Hp × Nat × (Int × Int)) ⟨fun ⟨l, o, og, i, s⟩ => Grow y2 1 o.1 l.length o.2 (rows l) og ∧ (l.length = i ∧ i ≤ n) ∧ (∀ y ∈ l, 0 ≤ y ∧ y ≤ 40) ∧ DOK nums s, fun ⟨l, o, og, i, s⟩ => [(0, .pointer (i7 g)), (1, int n), (5, .slice o.1 l.length o.2), (6, int i)], fun ⟨l, o, og, i, s⟩ => og ++ [dice g A c nums s], fun _ => [Row A (rows nums)]⟩ (fun ⟨l, o, og, i, s⟩ => n - i) ([], (none, 0), [], 0, s) ⟨Grow.nil _ _, ⟨rfl, Nat.zero_le _⟩, by intro s h; simp at h, hs⟩ mC (.refl _) mC fun z hz => ?_; obtain ⟨l, o, og, i, s⟩ := z; obtain ⟨hG, hli, hok, hs⟩ := hz; refine d1 (d4 (b4 rfl (b4 rfl (u7 rfl rfl rfl (c3 ?_)))))
 first | refine j9 rfl (fun hb1 => ?_) (fun hb1 => ?_) | refine d6 rfl (fun hb1 => ?_) (fun hb1 => ?_)
 ·have hb1' := hb1; try simp at hb1'
  have hi0 : i < n := by omega
  refine i4 (c7 (d1 (i8 (c9 (b4 rfl (b4 rfl (b4 rfl ?_))))))); refine i5 w9 rfl rfl (w8 (9) hn hs (by omega)) (List.perm_append_comm) mC fun xs2 hs2 => ?_; obtain ⟨s2, z2⟩ := xs2; obtain ⟨hs2, hz2⟩ := hs2; simp only at hs2; have hz2 : 0 ≤ z2 ∧ z2 ≤ 9 := dj2 hz2 (by omega); refine b4 rfl (i5 w9 rfl rfl (w8 (40) hn hs2 (by omega)) k8 mC fun xs3 hs3 => ?_); obtain ⟨s3, z3⟩ := xs3; obtain ⟨hs3, hz3⟩ := hs3; simp only at hs3; have hz3 : 0 ≤ z3 ∧ z3 ≤ 40 := dj2 hz3 (by omega); refine l5 _ rfl rfl (fun _ => tG ..) fun gS => v8 (rows ([5, z2, z3] : List Int)) (List.prefix_refl _) (i5 sH rfl rfl (rR ([5, z2, z3]) hn hs3 (show 0 < 3 by decide) (show 3 ≤ 1000 by decide)) k8 mC fun xs4 hs4 => ?_); obtain ⟨s4, z4⟩ := xs4; obtain ⟨hs4, hz4⟩ := hs4; simp only at hs4
  have hz4 : 0 ≤ z4 ∧ z4 ≤ 40 := by
    have hm := hz4; simp only [List.mem_cons, List.not_mem_nil, or_false] at hm; rcases hm with rfl | rfl | rfl <;> omega
  refine l5 _ rfl rfl (fun _ => w6 ..) fun gS => v8 (rows [(z4 : Int)]) (List.prefix_refl _) ?_; refine C0 (hp' := [dice g A c nums s4]) (l.length + 1) (rows (l ++ [(z4 : Int)])) I5 rfl rfl rfl hG (show List.Perm (dice g A c nums s4 :: og) (og ++ [dice g A c nums s4]) from (C6 fun p => by simp only [List.countP_append, List.countP_cons, List.countP_nil]; omega)) (Src.row (news := rows [(z4 : Int)]) (m := 1) mB rfl (D0 _) (by decide)) rfl (r8 _ _).symm (by unfold maxLen; omega) (by omega) fun A4 c4 og4 hG4 => ?_; refine b6 rfl (b7 (q8 (c7 (c9 (b4 rfl ?_))))); refine r4 ((i + 1 : Nat) : Int) rfl rfl rfl (by omega) m7 ?_; refine b6 rfl (b7 ?_); have e1 : (l ++ [(z4 : Int)]).length = l.length + 1 := List.length_append; exact again _ (l ++ [(z4 : Int)], (A4, c4), og4, i + 1, s4) ⟨by show Grow _ _ _ (l ++ [_]).length _ _ _; rw [e1]; exact hG4, by rw [e1]; omega, xE hok hz4, hs4⟩ (r9 (by omega)) ⟨rfl, rfl, by rw [e1]; rfl, rfl, tK⟩ (.refl _) mC
 have hb1' := hb1; try simp at hb1'
 have hi0 : i = n := by omega
 refine m4 (v6 (l9 (c7 (d4 (b4 rfl (b6 rfl (c3 (j6 ?_)))))))); refine cX hG ?_; exact ret1 (s, l, o) rfl rfl rfl ⟨hs, by show l.length = n; omega, hok, hG.le⟩ (.refl _) ⟨m0, tK⟩
theorem tW {g : Nat} {A : Option Addr} {c : Nat} {nums : List Int} {s : Int × Int} (n most : Nat) (hn : nums.length ≤ 9223372036854775807) (hs : DOK nums s) (h1 : n ≤ 1000) (hm : most ≤ 100) :
    Meets prog dN [.pointer (i7 g), int n, int most] (diceCon g A c nums s (fun x : List Int × OutC => x.1.length ≤ most ∧ (∀ y ∈ x.1, 0 ≤ y ∧ y < (n : Int)) ∧ x.1.length ≤ x.2.2) (fun x => .slice x.2.1 x.1.length x.2.2) (fun x => [Row x.2.1 (rows x.1)])) := by
 refine d3 wR rfl n2 fun w0 => ?_; refine d4 (b6 rfl (j4 (b6 rfl (c3 (cW ?_))))); refine c9 (b4 rfl (b4 rfl ?_)); refine i5 w9 rfl rfl (w8 (most) hn hs (by omega)) k8 mC fun xs1 hs1 => ?_; obtain ⟨s1, zn⟩ := xs1; obtain ⟨hs1, hzn⟩ := hs1; simp only at hs1; have hzn : 0 ≤ zn ∧ zn ≤ most := dj2 hzn (by omega); obtain ⟨zn, rfl⟩ := Int.eq_ofNat_of_zero_le hzn.1; refine b6 rfl (c3 (i8 ?_)); refine p6 (β := List Int × OutC × Hp × Nat × (Int × Int)) ⟨fun ⟨l, o, og, i, s⟩ => Grow y2 1 o.1 l.length o.2 (rows l) og ∧ l.length + i ≤ most ∧ (∀ y ∈ l, 0 ≤ y ∧ y < (n : Int)) ∧ DOK nums s, fun ⟨l, o, og, i, s⟩ => [(0, .pointer (i7 g)), (1, int n), (7, .slice o.1 l.length o.2), (8, int i)], fun ⟨l, o, og, i, s⟩ => og ++ [dice g A c nums s], fun _ => [Row A (rows nums)]⟩ (fun ⟨l, o, og, i, s⟩ => i) ([], (none, 0), [], zn, s1) ⟨Grow.nil _ _, by rw [List.length_nil]; omega, by intro s h; simp at h, hs1⟩ mC (.refl _) mC fun z hz => ?_; obtain ⟨l, o, og, i, s⟩ := z; obtain ⟨hG, hli, hok, hs⟩ := hz; refine d1 (d4 (b4 rfl (K5 rfl rfl rfl (b4 rfl ?_)))); refine q6 rfl rfl ?_ ?_
 ·intro hg1; have hg1' := hg1; try simp at hg1'
  refine k7 hg1 (b4 rfl (k7 hg1 (K5 rfl rfl rfl ?_))); refine p_t rfl rfl (bt1 hg1) rfl (c3 ?_)
  first | refine j9 rfl (fun hb1 => ?_) (fun hb1 => ?_) | refine d6 rfl (fun hb1 => ?_) (fun hb1 => ?_)
  ·have hb1' := hb1; try simp at hb1'
   have hi0 : 0 < i := by omega
   refine i4 (c7 (d1 (i8 (c9 (b4 rfl (b4 rfl (b4 rfl ?_))))))); refine H3 _ rfl rfl rfl rfl m7 (i5 w9 rfl rfl (w8 ((n : Int) - 1) hn hs (by omega)) (List.perm_append_comm) mC fun xs2 hs2 => ?_); obtain ⟨s2, z2⟩ := xs2; obtain ⟨hs2, hz2⟩ := hs2; simp only at hs2; have hz2 : 0 ≤ z2 ∧ z2 ≤ (n : Int) - 1 := dj2 hz2 (by omega); refine l5 _ rfl rfl (fun _ => w6 ..) fun gS => v8 (rows [(z2 : Int)]) (List.prefix_refl _) ?_; refine C0 (hp' := [dice g A c nums s2]) (l.length + 1) (rows (l ++ [(z2 : Int)])) I5 rfl rfl rfl hG (show List.Perm (dice g A c nums s2 :: og) (og ++ [dice g A c nums s2]) from (C6 fun p => by simp only [List.countP_append, List.countP_cons, List.countP_nil]; omega)) (Src.row (news := rows [(z2 : Int)]) (m := 1) mB rfl (D0 _) (by decide)) rfl (r8 _ _).symm (by unfold maxLen; omega) (by omega) fun A4 c4 og4 hG4 => ?_; refine b6 rfl (b7 (q8 (c7 (c9 (b4 rfl ?_))))); refine H3 ((i - 1 : Nat) : Int) rfl rfl rfl (by omega) m7 ?_; refine b6 rfl (b7 ?_); have e1 : (l ++ [(z2 : Int)]).length = l.length + 1 := List.length_append; exact again _ (l ++ [(z2 : Int)], (A4, c4), og4, i - 1, s2) ⟨by show Grow _ _ _ (l ++ [_]).length _ _ _; rw [e1]; exact hG4, by rw [e1]; omega, xE hok (by omega), hs2⟩ (by show i - 1 < i; omega) ⟨rfl, rfl, by rw [e1]; rfl, rfl, tK⟩ (.refl _) mC
  have hb1' := hb1; try simp at hb1'
  refine m4 (v6 (l9 (c7 (d4 (b4 rfl (b6 rfl (c3 (j6 ?_)))))))); refine cX hG ?_; exact ret1 (s, l, o) rfl rfl rfl ⟨hs, by show l.length ≤ most; omega, hok, hG.le⟩ (.refl _) ⟨m0, tK⟩
 intro hg1; have hg1' := hg1; try simp at hg1'
 refine n4 hg1 (n4 hg1 ?_); refine p_f rfl rfl (bf2 hg1) rfl ?_; refine c3 (c_f rfl rfl (m4 (v6 (l9 (c7 (d4 (b4 rfl (b6 rfl ?_)))))))); refine c3 (j6 (cX hG ?_)); exact ret1 (s, l, o) rfl rfl rfl ⟨hs, by show l.length ≤ most; omega, hok, hG.le⟩ (.refl _) ⟨m0, tK⟩
end Go.Proofs.YtpihanmcnmlodaaGreatDoor
end
section
namespace Go.W
open Go Go.RowKit
end Go.W
end
section
namespace Go.Proofs.YtpihanmcnmlodaaGreatDoor
open Go Go.W Tryz T F
set_option maxRecDepth 20000
attribute [local irreducible] HL HC HQ HB Row Rows2 Blk Facts
abbrev lsts (ps : List (Sl Int)) : List (List Int) := ps.map (·.l)
abbrev OutSL := List (Sl Int) × OutC
def upI (f n : Nat) : List Int := (List.range' f (n - f)).map fun i : Nat => (i : Int)
theorem upI_len (f n : Nat) : (upI f n).length = n - f := by rw [upI, List.length_map, List.length_range']
def subK (m f n k : Nat) : List (List Int) := ((List.range' f (k - f)).map fun i : Nat => (combos m (upI (i + 1) n)).map ((i : Int) :: ·)).flatten
theorem cz6 (n : Nat) : upI 0 (n + 1) = upI 0 n ++ [(n : Int)] := by
  unfold upI; rw [Nat.sub_zero, Nat.sub_zero, ← List.range_eq_range', ← List.range_eq_range', List.range_succ, List.map_append]; rfl
theorem zL (s : Nat) : ∀ n, (pickK s n).Sublist (upI 0 n)
  | 0 => .refl _
  | n + 1 => by
    rw [U0, cz6]
    split
    · exact (zL s n).append (.refl _)
    exact (zL s n).trans (List.sublist_append_left _ _)
theorem hj5 {s t n : Nat} (h : ∀ i, i < n → s.testBit i = t.testBit i) : pickK s n = pickK t n := by
  unfold pickK; refine congrArg _ (List.filter_congr fun i hi => h i (List.mem_range.1 hi))
theorem sub_one {a : Int} : ∀ {l : List Int}, l.Sublist [a] → l = [] ∨ l = [a]
  | _, .cons _ h => .inl (List.sublist_nil.1 h)
  | _, .cons_cons _ h => .inr (by rw [List.sublist_nil.1 h])
theorem dx2 : ∀ {n : Nat} {c : List Int}, c.Sublist (upI 0 n) → ∃ s, s < 2 ^ n ∧ pickK s n = c
  | 0, c, h => ⟨0, by decide, by
    have : c = [] := List.sublist_nil.1 h
    rw [this]; rfl⟩
  | n + 1, c, h => by
    rw [cz6] at h; obtain ⟨c1, c2, rfl, h1, h2⟩ := List.sublist_append_iff.1 h; obtain ⟨s, hs, rfl⟩ := dx2 h1; have hsb : s.testBit n = false := Nat.testBit_lt_two_pow hs; have hp : 2 ^ (n + 1) = 2 * 2 ^ n := by rw [Nat.pow_succ]; omega
    rcases sub_one h2 with rfl | rfl
    · exact ⟨s, by omega, by rw [U0, hsb, List.append_nil]; rfl⟩
    refine ⟨s ||| 2 ^ n, Nat.or_lt_two_pow (by omega) (by omega), ?_⟩; rw [U0, Nat.testBit_or, hsb, Nat.testBit_two_pow_self, Bool.or_true, if_pos rfl]; rw [hj5 (t := s) fun i hi => by rw [Nat.testBit_or, Nat.testBit_two_pow, show decide (n = i) = false from decide_eq_false (by omega), Bool.or_false]]
-- ---- orders
theorem cq8 (a b : Int) : cmpI a b < 0 ↔ a < b := by
  unfold cmpI
  split
  · omega
  split <;> omega
theorem yQ (a b : Int) : cmpI a b = 0 ↔ a = b := by
  unfold cmpI
  split
  · omega
  split <;> omega
theorem qD (a : List Int) : ¬ cmpIs a [] < 0 := by cases a <;> simp [cmpIs]
theorem mE (a b : Int) (l l' : List Int) : cmpIs (a :: l) (b :: l') < 0 ↔ a < b ∨ (a = b ∧ cmpIs l l' < 0) := by
  rw [cmpIs]
  split
  · rename_i e
    rw [cq8]; have := mt (yQ a b).2 e
    omega
  rename_i e
  have := (yQ a b).1 (Classical.not_not.1 e)
  omega
theorem xH : ∀ {a b c : List Int}, cmpIs a b < 0 → cmpIs b c < 0 → cmpIs a c < 0
  | [], [], c, h, _ => absurd h (qD _)
  | [], y :: b, [], _, h2 => absurd h2 (qD _)
  | [], y :: b, z :: c, _, _ => by simp [cmpIs]
  | x :: a, [], c, h, _ => absurd h (qD _)
  | x :: a, y :: b, [], _, h2 => absurd h2 (qD _)
  | x :: a, y :: b, z :: c, h, h2 => by
    rw [mE] at *
    rcases h with h | ⟨h, h3⟩ <;> rcases h2 with h2 | ⟨h2, h4⟩
    · exact .inl (by omega)
    · exact .inl (by omega)
    · exact .inl (by omega)
    exact .inr ⟨by omega, xH h3 h4⟩
theorem bq7 : ∀ a : List Int, ¬ cmpIs a a < 0
  | [] => by simp [cmpIs]
  | x :: a => by rw [mE]; have := bq7 a; omega
theorem xI : ∀ {a b : List Int}, ¬ a = b → cmpIs a b < 0 ∨ cmpIs b a < 0
  | [], [], h => absurd rfl h
  | [], y :: b, _ => .inl (by simp [cmpIs])
  | x :: a, [], _ => .inr (by simp [cmpIs])
  | x :: a, y :: b, h => by
    rw [mE, mE]
    by_cases e : x = y
    · subst e
      have := xI (a := a) (b := b) (fun e => h (by rw [e]))
      omega
    omega
theorem orL3 (a b c : Int) : orL [a, b, c] < 0 ↔ a < 0 ∨ (a = 0 ∧ (b < 0 ∨ (b = 0 ∧ c < 0))) := by
  simp only [orL]
  split
  · omega
  split
  · omega
  split <;> omega
theorem tN (x y : Hn) : ordP x y < 0 ↔ x.2.2 < y.2.2 ∨ (x.2.2 = y.2.2 ∧ (x.1.length < y.1.length ∨ (x.1.length = y.1.length ∧ cmpIs x.1 y.1 < 0))) := by
  unfold ordP; rw [orL3, cq8, cq8, yQ, yQ]; omega
structure Tot (o : Hn → Hn → Int) : Prop where
  tr : ∀ {x y z}, o x y < 0 → o y z < 0 → o x z < 0
  to : ∀ {x y}, ¬ x.1 = y.1 → o x y < 0 ∨ o y x < 0
  ir : ∀ {x y}, x.1 = y.1 → x.2 = y.2 → ¬ o x y < 0
theorem tot_P : Tot ordP := ⟨fun {x y z} h1 h2 => by
    rw [tN] at *
    rcases h1 with h1 | ⟨h1, h1 | ⟨h3, h5⟩⟩ <;> rcases h2 with h2 | ⟨h2, h2 | ⟨h4, h6⟩⟩ <;> first | omega | exact .inr ⟨by omega, .inr ⟨by omega, xH h5 h6⟩⟩,
  fun {x y} h => by
    rw [tN, tN]; have := xI h
    omega,
  fun {x y} h h2 => by
    rw [tN, h, h2]; have := bq7 y.1
    omega⟩
def BestIs (o : Hn → Hn → Int) (S : Hn → Prop) (b : Hn) : Prop := S b ∧ ∀ x, S x → ¬ o x b < 0
theorem kj9 {o : Hn → Hn → Int} (ho : Tot o) {S : Hn → Prop} {b x : Hn} (h : BestIs o S b) (hs : x.1 = b.1 → x = b) : BestIs o (fun y => S y ∨ y = x) (if o x b < 0 then x else b) := by
  split
  · rename_i e
    refine ⟨.inr rfl, fun y hy => ?_⟩
    rcases hy with hy | rfl
    · exact fun e2 => h.2 y hy (ho.tr e2 e)
    exact ho.ir rfl rfl
  rename_i e
  refine ⟨.inl h.1, fun y hy => ?_⟩
  rcases hy with hy | rfl
  · exact h.2 y hy
  exact e
theorem mx0 {o : Hn → Hn → Int} (ho : Tot o) : ∀ {l : List Hn}, (∀ x ∈ l, ∀ y ∈ l, x.1 = y.1 → x = y) → ((bestL o l).2 = false ∧ l = []) ∨ ((bestL o l).2 = true ∧ BestIs o (· ∈ l) (bestL o l).1) := by
  intro l; rw [← List.reverse_reverse l]; generalize l.reverse = r
  induction r with
  | nil => intro _; exact .inl ⟨rfl, rfl⟩
  | cons x r ih =>
    intro hf; rw [List.reverse_cons] at hf ⊢
    right
    rw [wX]; have ih := ih fun x hx y hy => hf x (List.mem_append_left _ hx) y (List.mem_append_left _ hy); unfold offS
    rcases ih with ⟨h1, h2⟩ | ⟨h1, h2⟩
    · rw [if_pos (.inl h1), h2]
      exact ⟨rfl, List.mem_singleton.2 rfl, fun y hy => by rw [List.mem_singleton.1 hy]; exact ho.ir rfl rfl⟩
    have h3 := kj9 ho (x := x) h2 (fun e => hf x (List.mem_append_right _ (List.mem_singleton.2 rfl)) _ (List.mem_append_left _ h2.1) e); have h4 : ∀ b, BestIs o (fun y => y ∈ r.reverse ∨ y = x) b → BestIs o (· ∈ r.reverse ++ [x]) b := fun b hb => ⟨by show b ∈ r.reverse ++ [x]; rw [List.mem_append, List.mem_singleton]; exact hb.1, fun y hy => hb.2 y (by have hy : y ∈ r.reverse ++ [x] := hy; rw [List.mem_append, List.mem_singleton] at hy; exact hy)⟩
    by_cases e : o x (bestL o r.reverse).1 < 0
    · rw [if_pos (.inr e)]
      rw [if_pos e] at h3; exact ⟨rfl, h4 _ h3⟩
    rw [if_neg (by rw [h1]; intro h; exact h.elim (fun h => by cases h) e)]; rw [if_neg e] at h3; exact ⟨h1, h4 _ h3⟩
def handL (cs : List Cd) (ks : List Int) : Hn := (ks, (linL cs ks).sum, (priL cs ks).sum)
def fillS (cs : List Cd) (room : Int) (st : Hn) (x : List Int) : Hn := if (handL cs x).2.1 ≤ room ∧ ordF (handL cs x) st < 0 then handL cs x else st
def fillO (cs : List Cd) (room : Int) : Nat → Hn
  | 0 => handL cs []
  | m + 1 => (combos (m + 1) (upI 0 cs.length)).foldl (fillS cs room) (fillO cs room m)
def FitS (cs : List Cd) (room : Int) (x : Hn) : Prop := ∃ c, c.Sublist (upI 0 cs.length) ∧ x = handL cs c ∧ (handL cs c).2.1 ≤ room
def fillB (cs : List Cd) (room : Int) : Hn := (bestL ordF (handsK cs room (2 ^ cs.length))).1
theorem bx2 {f n : Nat} {z : Int} (h : z ∈ upI f n) : (f : Int) ≤ z ∧ z < (n : Int) := by
  obtain ⟨i, hi, rfl⟩ := List.mem_map.1 h; have h1 := List.mem_range'_1.1 hi
  omega
theorem upI_lt (n : Nat) : (upI 0 n).Pairwise (· < ·) := by
  unfold upI; rw [Nat.sub_zero, ← List.range_eq_range']; exact List.pairwise_map.2 (List.pairwise_lt_range.imp fun h => by omega)
def ExS (cs : List Cd) (room : Int) (x : Hn) : Prop := ∃ c, c.Sublist (upI 0 cs.length) ∧ x = handL cs c ∧ (handL cs c).2.1 = room
def nearB (t : Tr) (p : Int) (w : Int) (k : Int) : Bool := decide (0 ≤ (stepsT t w).getD k.toNat default ∧ (stepsT t w).getD k.toNat default ≤ p)
theorem near_at {cs : List Cl} {hs : List Hd} (h0 : checkT (trOf cs hs) = 0) {p w k : Int} (hw : 0 ≤ w ∧ w < (hs.length : Int)) (hk : 0 ≤ k ∧ k < (hs.length : Int)) : ((reachK (trOf cs hs) p hs.length).getD w.toNat default).getD k.toNat default = nearB (trOf cs hs) p w k := by
  obtain ⟨a, rfl⟩ := Int.eq_ofNat_of_zero_le hw.1; obtain ⟨b, rfl⟩ := Int.eq_ofNat_of_zero_le hk.1; rw [Int.toNat_natCast, Int.toNat_natCast]; have hl : (trOf cs hs).hs.length = hs.length := y6 cs hs; have e1 : (reachK (trOf cs hs) p hs.length).getD a default = rdK p (stepsE (trOf cs hs) (a : Int)).1 := gz5 _ (by omega)
  have e2 : stepsE (trOf cs hs) (a : Int) = (stepsT (trOf cs hs) (a : Int), 0) := by
    exact if_neg (fun e => e (yR h0 (by omega)))
  rw [e1, e2]; unfold nearB rdK; have h3 : ((stepsT (trOf cs hs) (a : Int), (0 : Int)).1).length = hs.length := by rw [← hl]; exact vK (trOf cs hs) (a : Int)
  rw [q7 (by rw [List.length_map]; omega), List.getElem_map, Int.toNat_natCast, ← q7 (by rw [h3]; omega)]
theorem mq3 {cs : List Cl} {hs : List Hd} (h0 : checkT (trOf cs hs) = 0) {p : Int} {ws s : List Int} (hw : ∀ w ∈ ws, 0 ≤ w ∧ w < (hs.length : Int)) (hk : ∀ k ∈ s, 0 ≤ k ∧ k < (hs.length : Int)) : fndOK hs (reachK (trOf cs hs) p hs.length) ws s = ((s.all fun k => decide (0 ≤ (hs.getD k.toNat default).2.1)) && ws.all fun w => s.any fun k => nearB (trOf cs hs) p w k) := by
  unfold fndOK
  congr 1
  rw [Bool.eq_iff_iff, List.all_eq_true, List.all_eq_true]; refine forall_congr' fun w => forall_congr' fun hw2 => ?_; rw [List.any_eq_true, List.any_eq_true]; refine exists_congr fun k => and_congr_right fun hk2 => ?_; rw [near_at h0 (hw w hw2) (hk k hk2)]
def FoundS (hs : List Hd) (rs : List (List Bool)) (pr ws : List Int) (x : Hn) : Prop := ∃ c, c.Sublist (upI 0 hs.length) ∧ fndOK hs rs ws c = true ∧ x = fndH pr c
theorem mq4 {pr a b : List Int} (h : (fndH pr a).1 = (fndH pr b).1) : fndH pr a = fndH pr b := congrArg (fndH pr) h
theorem uY {hs : List Hd} {rs : List (List Bool)} {pr ws : List Int} {x : Hn} : x ∈ fndL hs rs pr ws (2 ^ hs.length) ↔ FoundS hs rs pr ws x := by
  unfold fndL; rw [List.mem_map]
  constructor
  · rintro ⟨c, hc, rfl⟩
    obtain ⟨h1, h2⟩ := List.mem_filter.1 hc; obtain ⟨s, hs1, rfl⟩ := List.mem_map.1 h1; exact ⟨_, zL s _, h2, rfl⟩
  rintro ⟨c, h1, h2, rfl⟩; obtain ⟨s, hs1, rfl⟩ := dx2 h1; exact ⟨_, List.mem_filter.2 ⟨List.mem_map.2 ⟨s, List.mem_range.2 hs1, rfl⟩, h2⟩, rfl⟩
theorem jz9 {hs : List Hd} {rs : List (List Bool)} {pr ws : List Int} {x y : Hn} (hx : FoundS hs rs pr ws x) (hy : FoundS hs rs pr ws y) (h : x.1 = y.1) : x = y := by
  obtain ⟨c, _, _, rfl⟩ := hx; obtain ⟨d, _, _, rfl⟩ := hy; exact mq4 h
theorem fndB_is {t : Tr} {hs : List Hd} {pr ws : List Int} {p : Int} : ((fndB t hs pr ws p).2 = false ∧ ∀ x, ¬ FoundS hs (reachK t p hs.length) pr ws x) ∨ ((fndB t hs pr ws p).2 = true ∧ BestIs ordP (FoundS hs (reachK t p hs.length) pr ws) (fndB t hs pr ws p).1) := by
  rcases mx0 tot_P (l := fndL hs (reachK t p hs.length) pr ws (2 ^ hs.length)) (fun x hx y hy => jz9 (uY.1 hx) (uY.1 hy)) with ⟨h1, h2⟩ | ⟨h1, h2⟩
  · exact .inl ⟨h1, fun x hx => by have := uY.2 hx; rw [h2] at this; cases this⟩
  exact .inr ⟨h1, uY.1 h2.1, fun x hx => h2.2 x (uY.2 hx)⟩
theorem mq2 {cs : List Cl} {hs : List Hd} {pr ws : List Int} {p : Int} (h0 : checkT (trOf cs hs) = 0) (hl : pr.length = hs.length) (hp : ∀ x ∈ pr, prB x) (hw : ∀ w ∈ ws, 0 ≤ w ∧ w < (hs.length : Int)) (h6 : 0 ≤ p ∧ p ≤ 6) : foundE cs hs pr ws p = if (fndB (trOf cs hs) hs pr ws p).2 = false then ([], 0, 11) else ((fndB (trOf cs hs) hs pr ws p).1.1, (fndB (trOf cs hs) hs pr ws p).1.2.2, 0) := by
  unfold foundE; rw [if_neg (fun e => e h0), if_neg (by omega), if_neg (by omega), if_neg (fun e => e hp), if_neg (fun e => e fun w h => by have := hw w h; omega), if_neg (fun e => e h6)]
theorem made_pr {l : List Int} (h : ∀ y ∈ l, 0 ≤ y ∧ y ≤ 40) : ∀ x ∈ l, prB x := fun x hx => by
  have := h x hx; exact ⟨by omega, by omega⟩
def placeE (hs : List Hd) : List Int → Int
  | [] => 0
  | v :: r => if ¬ (0 ≤ v ∧ v ≤ (hs.length : Int) - 1) then 3 else if (hs.getD v.toNat default).2.1 < 0 then 8 else placeE hs r
theorem dx1 (hs : List Hd) {l : List Int} {k : Nat} (hk : k < l.length) : placeE hs (l.drop k) = if ¬ (0 ≤ l.getD k default ∧ l.getD k default ≤ (hs.length : Int) - 1) then 3 else if (hs.getD (l.getD k default).toNat default).2.1 < 0 then 8 else placeE hs (l.drop (k + 1)) := by
  rw [kL hk, placeE]
theorem dq9 {hs : List Hd} : ∀ {l : List Int}, placeE hs l = 0 → ∀ v ∈ l, 0 ≤ v ∧ v < (hs.length : Int)
  | [], _, v, hv => by cases hv
  | x :: r, h, v, hv => by
    rw [placeE] at h
    split at h
    · cases h
    split at h
    · cases h
    rcases List.mem_cons.1 hv with rfl | hv
    · omega
    exact dq9 h v hv
theorem dx0 {hs : List Hd} : ∀ {l : List Int}, (∀ v ∈ l, (0 ≤ v ∧ v < (hs.length : Int)) ∧ 0 ≤ (hs.getD v.toNat default).2.1) → placeE hs l = 0
  | [], _ => rfl
  | x :: r, h => by
    have h1 := h x (List.mem_cons_self ..); rw [placeE, if_neg (by omega), if_neg (by omega)]; exact dx0 fun v hv => h v (List.mem_cons_of_mem _ hv)
def missB (rs : List (List Bool)) (ks : List Int) (i : Nat) : Bool := ks.any fun v => (rs.getD i default).getD v.toNat default
def missK (rs : List (List Bool)) (ks : List Int) (k : Nat) : List Int := ((List.range k).filter fun i => !missB rs ks i).map fun i : Nat => (i : Int)
theorem zP (rs : List (List Bool)) (ks : List Int) (k : Nat) : missK rs ks (k + 1) = if missB rs ks k = true then missK rs ks k else missK rs ks k ++ [(k : Int)] := by
  unfold missK; rw [List.range_succ, List.filter_append, List.map_append]
  by_cases e : missB rs ks k = true
  · rw [if_pos e]; simp [e]
  rw [if_neg e]; simp [e]
theorem bj2 (rs : List (List Bool)) (ks : List Int) (k : Nat) : (missK rs ks k).length ≤ k := by
  unfold missK; rw [List.length_map]; exact Nat.le_trans (List.length_filter_le _ _) (by simp)
def missE (cs : List Cl) (hs : List Hd) (ks : List Int) (p : Int) : List Int × Int :=
  if ¬ checkT (trOf cs hs) = 0 then ([], checkT (trOf cs hs)) else if ¬ placeE hs ks = 0 then ([], placeE hs ks) else if ¬ (0 ≤ p ∧ p ≤ 6) then ([], 1) else (missK (reachK (trOf cs hs) p hs.length) ks hs.length, 0)
set_option maxHeartbeats 1000000 in
theorem vB {A B S : Option Addr} {ca cb sc : Nat} (cs : List Cl) (hs : List Hd) (ks : List Int) (p : Int) (hca : cs.length ≤ ca) (hcb : hs.length ≤ cb) (ha : ∀ h ∈ hs, h.2.2.2.l.length ≤ 1000000) (hkl : ks.length ≤ 1000000) : Meets prog X5 [.agg #[.slice A cs.length ca, .slice B hs.length cb], .slice S ks.length sc, int p] { LI := [Row A (rows cs), RowsF B hs Hd.row, Row S (rows ks)], inv := fun x : OutC => (missE cs hs ks p).1.length ≤ x.2, val := fun x => .tuple #[.slice x.1 (missE cs hs ks p).1.length x.2, int (missE cs hs ks p).2], LO := fun x => [Row x.1 (rows (missE cs hs ks p).1)] } := by
 refine d3 wT rfl n2 fun w0 => d4 (B7 rfl rfl fun gT => ?_); refine b6 rfl (b6 rfl (c3 (d1 (d4 (bj8 ?_))))); refine w7 (cs := #[.slice A cs.length ca, .slice B hs.length cb]) rfl i9 j0 rfl mB rfl (i5 X0 rfl rfl (V8 cs hs hca hcb ha) k8 mC fun _ _ => ?_); refine b6 rfl (j4 (b4 rfl (B9 rfl rfl rfl (c3 ?_))))
 first | refine j9 rfl (fun hb1 => ?_) (fun hb1 => ?_) | refine d6 rfl (fun hb1 => ?_) (fun hb1 => ?_)
 ·have hb1' := hb1; try simp at hb1'
  refine d4 (b4 rfl (b6 rfl (b6 rfl (c3 (M2 ?_))))); refine D4 (α := Int) ?_; have hE : (missE cs hs ks p) = ([], checkT (trOf cs hs)) := by rw [missE, if_pos hb1]
  exact ret2 (none, 0) rfl rfl rfl (by show Value.tuple #[.slice none (missE cs hs ks p).1.length 0, int (missE cs hs ks p).2] = _; rw [hE]; rfl) rfl (by show (missE cs hs ks p).1.length ≤ 0; rw [hE]; exact Nat.le_refl _) nK (by show LSub _ [Row none (rows (missE cs hs ks p).1)]; rw [hE]; exact ⟨m0, tK⟩)
 have hb1' := hb1; try simp at hb1'
 have h0 : checkT (trOf cs hs) = 0 := Classical.not_not.1 hb1; have hok := gL h0; have hn6 := hok.h6; rw [y6] at hn6; refine i4 (c7 (d1 (d4 (b4 rfl ?_)))); refine k5 rfl j2 rfl ?_; refine b4 rfl (c3 (i8 ?_)); refine p6 (β := Nat) ⟨fun k => k ≤ ks.length ∧ placeE hs ks = placeE hs (ks.drop k), fun k => [(1, .slice S ks.length sc), (2, int p), (3, .pointer (i7 gT)), (19, .slice S ks.length sc), (20, int ks.length), (21, int k)], fun _ => [], fun _ => [Blk gT (Obj.cells #[.slice A cs.length ca, .slice B hs.length cb] m5 (0, 0)), Row A (rows cs), RowsF B hs Hd.row, Row S (rows ks)]⟩ (fun k => ks.length - k) 0 ⟨Nat.zero_le _, rfl⟩ mC nK mC fun k hk => ?_; obtain ⟨hk, hpe⟩ := hk; refine d4 (u7 rfl rfl rfl (c3 (d1 ?_)))
 first | refine j9 rfl (fun hb2 => ?_) (fun hb2 => ?_) | refine d6 rfl (fun hb2 => ?_) (fun hb2 => ?_)
 ·have hb2' := hb2; try simp at hb2'
  have hk2 : k < ks.length := by omega
  rw [dx1 hs hk2] at hpe; refine i4 (c7 (d1 (i8 (d4 ?_)))); refine p8 (α := Int) ks k rfl j2 k6 rfl rfl rfl mB rfl (hk2) (by decide) (b3 (v := int ((ks.getD k default))) rfl b5 rfl (i1 mB (c5 (hk2) rfl)) ?_); refine b6 rfl (c3 (d1 (d4 (b4 rfl ?_))))
  first | refine b2 ⟨_, 1, none⟩ rfl rfl d8 rfl ?_ | refine b2 _ rfl rfl d8 rfl ?_
  refine b3 (v := .slice B hs.length cb) rfl b8 rfl (d5 mB rfl) (k5 rfl l4 rfl (H3 _ rfl rfl rfl rfl m7 (i5 G0 rfl rfl (G1 _ _ _) k8 tK fun _ _ => ?_))); refine I6 rfl rfl (c3 ?_)
  first | refine j9 rfl (fun hb3 => ?_) (fun hb3 => ?_) | refine d6 rfl (fun hb3 => ?_) (fun hb3 => ?_)
  ·have hb3' := hb3; try simp at hb3'
   rw [if_pos (nbt hb3)] at hpe; refine d4 (b6 rfl (b6 rfl (c3 (M2 (A1 (u4 (W6 ?_))))))); refine u4 (D4 (α := Int) ?_); have hE : (missE cs hs ks p) = ([], 3) := by rw [missE, if_neg (Classical.not_not.2 h0), if_pos (by rw [hpe]; decide), hpe]
   exact ret2 (none, 0) rfl rfl rfl (by show Value.tuple #[.slice none (missE cs hs ks p).1.length 0, int (missE cs hs ks p).2] = _; rw [hE]; rfl) rfl (by show (missE cs hs ks p).1.length ≤ 0; rw [hE]; exact Nat.le_refl _) nK (by show LSub _ [Row none (rows (missE cs hs ks p).1)]; rw [hE]; exact ⟨m0, tK⟩)
  have hb3' := hb3; try simp at hb3'
  have hkv := nbf hb3; rw [if_neg (Classical.not_not.2 hkv)] at hpe; obtain ⟨m, hme⟩ := Int.eq_ofNat_of_zero_le hkv.1; have hm2 : m < hs.length := by omega
  rw [hme, Int.toNat_natCast] at hpe; refine i4 (c7 (d4 ?_))
  first | refine b2 ⟨_, 1, none⟩ rfl rfl d8 rfl ?_ | refine b2 _ rfl rfl d8 rfl ?_
  refine b3 (v := .slice B hs.length cb) rfl b8 rfl (d5 mB rfl) (b4 rfl (P9 (A := B) (ps := hs) (f := Hd.row) mB (p8 (α := Hd) hs m rfl l4 m8 rfl rfl hme mB rfl hm2 (by decide) ?_)))
  first | refine b2 ⟨_, 1, none⟩ rfl rfl l6 rfl ?_ | refine b2 _ rfl rfl l6 rfl ?_
  refine b3 (v := int (hs.getD m default).2.1) rfl b5 rfl (i3 mB (rows_get hm2 rfl)) ?_; refine u7 rfl rfl rfl (c3 ?_)
  first | refine j9 rfl (fun hb4 => ?_) (fun hb4 => ?_) | refine d6 rfl (fun hb4 => ?_) (fun hb4 => ?_)
  ·have hb4' := hb4; try simp at hb4'
   rw [if_pos hb4] at hpe; refine d4 (b6 rfl (b6 rfl (c3 (j6 (A1 (u4 (A1 ?_))))))); refine D4 (α := Int) ?_; have hE : (missE cs hs ks p) = ([], 8) := by rw [missE, if_neg (Classical.not_not.2 h0), if_pos (by rw [hpe]; decide), hpe]
   exact ret2 (none, 0) rfl rfl rfl (by show Value.tuple #[.slice none (missE cs hs ks p).1.length 0, int (missE cs hs ks p).2] = _; rw [hE]; rfl) rfl (by show (missE cs hs ks p).1.length ≤ 0; rw [hE]; exact Nat.le_refl _) nK (by show LSub _ [Row none (rows (missE cs hs ks p).1)]; rw [hE]; exact ⟨m0, tK⟩)
  have hb4' := hb4; try simp at hb4'
  rw [if_neg hb4] at hpe; refine i4 (q8 (c7 (c9 ?_))); refine r4 _ rfl rfl rfl rfl m7 ?_; refine b4 rfl (b7 ?_); exact again _ (k + 1) ⟨by show k + 1 ≤ ks.length; omega, hpe⟩ (r9 (by omega)) mC (.refl _) mC
 have hb2' := hb2; try simp at hb2'
 obtain rfl : k = ks.length := by omega
 rw [List.drop_length, placeE] at hpe; refine m4 (v6 (l9 (c7 (d1 (d4 (b4 rfl ?_)))))); refine i5 G0 rfl rfl (G1 _ _ _) k8 tK fun _ _ => ?_; refine I6 rfl rfl (c3 ?_)
 first | refine j9 rfl (fun hb5 => ?_) (fun hb5 => ?_) | refine d6 rfl (fun hb5 => ?_) (fun hb5 => ?_)
 ·have hb5' := hb5; try simp at hb5'
  refine d4 (b6 rfl (b6 rfl (c3 (M2 ?_)))); refine D4 (α := Int) ?_; have hE : (missE cs hs ks p) = ([], 1) := by rw [missE, if_neg (Classical.not_not.2 h0), if_neg (Classical.not_not.2 hpe), if_pos (nbt hb5)]
  exact ret2 (none, 0) rfl rfl rfl (by show Value.tuple #[.slice none (missE cs hs ks p).1.length 0, int (missE cs hs ks p).2] = _; rw [hE]; rfl) rfl (by show (missE cs hs ks p).1.length ≤ 0; rw [hE]; exact Nat.le_refl _) nK (by show LSub _ [Row none (rows (missE cs hs ks p).1)]; rw [hE]; exact ⟨m0, tK⟩)
 have hb5' := hb5; try simp at hb5'
 have h5 := nbf hb5; have hkin := dq9 hpe; refine i4 (c7 (d4 (b6 rfl (c3 (d1 (d4 ?_)))))); refine w7 (cs := #[.slice A cs.length ca, .slice B hs.length cb]) rfl i9 j0 rfl mB rfl (b4 rfl (i5 dQ rfl rfl (dU cs hs p hca hcb ha (by omega) (dj7 cs hs (by omega))) k8 mC fun x hx => ?_)); obtain ⟨go, ps⟩ := x; obtain ⟨hpn2, hpm⟩ := hx; simp only at hpn2 hpm; refine k5 rfl J8 rfl ?_; refine b4 rfl (c3 (i8 ?_)); refine p6 (β := Nat × OutC × Hp) ⟨fun x => x.1 ≤ hs.length ∧ Grow y2 1 x.2.1.1 (missK (reachK (trOf cs hs) p hs.length) ks x.1).length x.2.1.2 (rows (missK (reachK (trOf cs hs) p hs.length) ks x.1)) x.2.2, fun x => [(1, .slice S ks.length sc), (2, int p), (3, .pointer (i7 gT)), (11, .slice x.2.1.1 (missK (reachK (trOf cs hs) p hs.length) ks x.1).length x.2.1.2), (45, .slice (i7 go) hs.length hs.length), (46, int hs.length), (47, int x.1)], fun x => x.2.2, fun _ => [Row (i7 go) (rows ps), innerF ps, Blk gT (Obj.cells #[.slice A cs.length ca, .slice B hs.length cb] m5 (0, 0)), Row A (rows cs), RowsF B hs Hd.row, Row S (rows ks)]⟩ (fun x => hs.length - x.1) (0, (none, 0), []) ⟨Nat.zero_le _, Grow.nil _ _⟩ mC nK mC fun x hx => ?_; obtain ⟨k, ⟨na, nc⟩, og⟩ := x; obtain ⟨hk, hG⟩ := hx; simp only at hk hG; have hml := bj2 (reachK (trOf cs hs) p hs.length) ks k; refine d4 (u7 rfl rfl rfl (c3 (d1 ?_)))
 first | refine j9 rfl (fun hb6 => ?_) (fun hb6 => ?_) | refine d6 rfl (fun hb6 => ?_) (fun hb6 => ?_)
 ·have hb6' := hb6; try simp at hb6'
  have hk2 : k < hs.length := by omega
  have hk3 : k < ps.length := by omega
  have hpk : (ps.getD k default).l = (reachK (trOf cs hs) p hs.length).getD k default := by rw [← hpm, q7 (l := ps.map (·.l)) (k := k) (by rw [List.length_map]; omega), q7 (l := ps) (k := k) (by omega), List.getElem_map]
  have hpkl : (ps.getD k default).l.length = hs.length := by rw [hpk, q7 (by unfold reachK; simp; omega)]; unfold reachK; simp only [List.getElem_map, List.getElem_range]; rw [bz7, az6 h0 hk2]
  refine i4 (c7 (d1 (i8 (d4 (b4 rfl ?_))))); refine p8 (α := Sl Bool) ps k rfl J8 P1 rfl rfl rfl mB (hpn2.symm) (hk3) (by decide) (b3 (v := .slice (ps.getD k default).a (ps.getD k default).l.length (ps.getD k default).c) rfl V9 rfl (i1 mB (c5 hk3 rfl)) ?_); refine ix1 (F := Row (ps.getD k default).a (rows (ps.getD k default).l)) (Fs := ps.map fun p => Row p.a (rows p.l)) mB (List.mem_map.2 ⟨_, n7 hk3, rfl⟩) ?_; refine B2 rfl (fun _ => bx7 _) fun g13 => b6 rfl (u9 rfl rfl (.refl _) P1 rfl rfl (v8 (rows [((ps.getD k default) : Sl Bool)]) (List.prefix_refl _) ?_)); refine j4 (b4 rfl (N4 rfl rfl rfl ?_))
  refine i5 K9 rfl rfl (K4 (A := S) (cap := [.pointer (i7 g13)]) (L0 := [Row (i7 g13) (rows [((ps.getD k default) : Sl Bool)]), Row (ps.getD k default).a (rows (ps.getD k default).l)]) ks (fun x => (ps.getD k default).l.getD x.toNat default) hkl qS (fun x hx => by
    have hxv := hkin x hx; obtain ⟨v, rfl⟩ := Int.eq_ofNat_of_zero_le hxv.1; rw [Int.toNat_natCast]
    exact qT (ps.getD k default).l v (by omega))) k8 mC fun _ _ => ?_
  have hany : (ks.any fun x => (ps.getD k default).l.getD x.toNat default) = missB (reachK (trOf cs hs) p hs.length) ks k := by unfold missB; rw [hpk]
  rw [hany]; refine I6 rfl rfl (c3 ?_)
  first | refine j9 rfl (fun hb7 => ?_) (fun hb7 => ?_) | refine d6 rfl (fun hb7 => ?_) (fun hb7 => ?_)
  ·have hb7' := hb7; try simp at hb7'
   have hmb : ¬ missB (reachK (trOf cs hs) p hs.length) ks k = true := by simpa using hb7
   have hms : (missK (reachK (trOf cs hs) p hs.length) ks (k + 1)) = (missK (reachK (trOf cs hs) p hs.length) ks k) ++ [(k : Int)] := by rw [zP, if_neg hmb]
   refine c9 (b4 rfl (b4 rfl ?_)); refine l5 _ rfl rfl (fun _ => w6 ..) fun gS => v8 (rows [(k : Int)]) (List.prefix_refl _) ?_; refine C0 (hp' := []) ((missK (reachK (trOf cs hs) p hs.length) ks k).length + 1) (rows ((missK (reachK (trOf cs hs) p hs.length) ks k) ++ [(k : Int)])) I5 rfl rfl rfl hG (show List.Perm og (og ++ []) from by rw [List.append_nil]) (Src.row (news := rows [(k : Int)]) (m := 1) mB rfl (D0 _) (by decide)) rfl (r8 _ _).symm (by unfold maxLen; omega) (by omega) fun A' c' og' hG' => ?_; refine b6 rfl (b7 (q8 (c7 (c9 ?_)))); refine r4 _ rfl rfl rfl rfl m7 ?_; refine b4 rfl (b7 ?_); have hms2 : (missK (reachK (trOf cs hs) p hs.length) ks (k + 1)).length = (missK (reachK (trOf cs hs) p hs.length) ks k).length + 1 := by rw [hms, List.length_append]; rfl
   refine bY (hp' := og') (show List.Perm (og' ++ []) og' from by rw [List.append_nil]) ?_; exact again _ (k + 1, (A', c'), og') ⟨by show k + 1 ≤ hs.length; omega, by show Grow _ _ _ (missK (reachK (trOf cs hs) p hs.length) ks (k + 1)).length _ (rows (missK (reachK (trOf cs hs) p hs.length) ks (k + 1))) _; rw [hms2, hms]; exact hG'⟩ (r9 (by omega)) ⟨rfl, rfl, rfl, congrArg (fun n => some (Value.slice A' n c')) hms2.symm, rfl, rfl, rfl, tK⟩ (.refl _) mC
  have hb7' := hb7; try simp at hb7'
  have hmb : missB (reachK (trOf cs hs) p hs.length) ks k = true := by simpa using hb7
  have hms : (missK (reachK (trOf cs hs) p hs.length) ks (k + 1)) = (missK (reachK (trOf cs hs) p hs.length) ks k) := by rw [zP, if_pos hmb]
  refine i4 (q8 (c7 (c9 ?_))); refine r4 _ rfl rfl rfl rfl m7 ?_; refine b4 rfl (b7 ?_); exact again _ (k + 1, (na, nc), og) ⟨by show k + 1 ≤ hs.length; omega, by show Grow _ _ _ (missK (reachK (trOf cs hs) p hs.length) ks (k + 1)).length _ (rows (missK (reachK (trOf cs hs) p hs.length) ks (k + 1))) _; rw [hms]; exact hG⟩ (r9 (by omega)) ⟨rfl, rfl, rfl, congrArg (fun l : List Int => some (Value.slice na l.length nc)) hms.symm, rfl, rfl, rfl, tK⟩ (.refl _) mC
 have hb6' := hb6; try simp at hb6'
 obtain rfl : k = hs.length := by omega
 refine m4 (v6 (l9 (c7 (d4 (b4 rfl (b6 rfl (b6 rfl (c3 ?_)))))))); refine j6 ?_; have hE : (missE cs hs ks p) = ((missK (reachK (trOf cs hs) p hs.length) ks hs.length), 0) := by rw [missE, if_neg (Classical.not_not.2 h0), if_neg (Classical.not_not.2 hpe), if_neg (Classical.not_not.2 h5)]
 refine jN hG ?_; exact ret2 (na, nc) rfl rfl rfl (by show Value.tuple #[.slice na (missE cs hs ks p).1.length nc, int (missE cs hs ks p).2] = _; rw [hE]) rfl (by show (missE cs hs ks p).1.length ≤ nc; rw [hE]; exact hG.le) nK (by show LSub _ [Row na (rows (missE cs hs ks p).1)]; rw [hE]; exact mC)
end Go.Proofs.YtpihanmcnmlodaaGreatDoor
end
