/- Texts. -/

import Derived.Test.YtdgmfagfpbdbhaaGreatDoorAAm
set_option linter.unusedVariables false
set_option linter.unusedSimpArgs false
section
namespace Go.Proofs.YtdgmfagfpbdbhaaGreatDoor
open Go Go.W Tryz T F
set_option maxRecDepth 20000
attribute [local irreducible] HL HC HQ HB Row Rows2 Blk Facts
section
variable {c : Cx} {fr : Fr} {hp : Hp} {L : List Fact}
theorem D1 {fn : Func} {t u1 : Tmp} {ty e : TypeId} {g n : Nat} {cs : Array Value} {fz : Nat × Nat} {v1 : Value} (hres : fn.results = #[.cell t ty, .tmp u1]) (hv : lk fr t = some (.pointer (d9 g))) (hv1 : lk fr u1 = some v1) (ht : IsR c.P ty) (hz : Sz c.P ty n) (hn : cs.size = n)
    (hm : (g, Obj.cells cs e fz) ∈ hp) (a : Act) (w : World) (hfr : ∀ t v, lk fr t = some v → a.tmps.getD t undef = v) (hw : WI c.b w hp L) : (results fn a.tmps).run c.P w = .ok (.tuple #[.agg cs, v1]) w := by
  obtain ⟨dd, ht, hr⟩ := ht; have h1 := hw.own _ hm; simp only at h1
  have hl : (loadVar ty ⟨g, 0, none⟩).run c.P w = .ok (.agg cs) w := by
    have hagg : (isAgg ty).run c.P w = .ok true w := by
      unfold isAgg; rw [Sem.run_bind, run_underlying ht w]
      cases dd <;> simp_all [TypeDesc.isRow]
    have hc := run_loadCells_list (P := c.P) w ⟨g, 0, none⟩ cs.toList (fun j u hu => by rw [add_mk, Nat.zero_add]; simp at hu; simp [World.cell?, h1, hu]); have hs := dT hz w; simp only [loadVar, Sem.run_bind, hagg, Result.andThen_ok, if_true, hs, ← hn]; have e : cs.size = cs.toList.length := by simp
    rw [e, hc]
    simp
  have h5 : a.tmps[t]?.getD undef = .pointer (d9 g) := by simpa using hfr _ _ hv
  have h6 : a.tmps[u1]?.getD undef = v1 := by simpa using hfr _ _ hv1
  unfold results; rw [hres]
  simp [h5, h6, asAddr, hl]
end
theorem pU (b : UInt8) : ∀ (s : Str), ∀ w ∈ splitB b s, w.length ≤ s.length
  | [], w, h => by simp [splitB] at h; subst h; exact Nat.le_refl _
  | x :: r, w, h => by
    rw [splitB] at h
    by_cases hx : x = b
    · rw [if_pos hx] at h
      rcases List.mem_cons.1 h with rfl | h
      · exact Nat.zero_le _
      have := pU b r w h; rw [List.length_cons]; omega
    rw [if_neg hx] at h; have hl := P2 b r
    cases hs : splitB b r with
    | nil => rw [hs] at hl; cases hl
    | cons a t =>
      rw [hs] at h
      rcases List.mem_cons.1 h with rfl | h
      · have := pU b r a (by rw [hs]; exact List.mem_cons_self); simp only [List.length_cons]; omega
      have := pU b r w (by rw [hs]; exact List.mem_cons_of_mem _ h); rw [List.length_cons]; omega
abbrev shO (g : Nat) (o1 : OutC) (n1 : Nat) (o2 : OutC) (n2 : Nat) : Nat × Obj := (g, Obj.cells #[.slice o1.1 n1 o1.2, .slice o2.1 n2 o2.2] M0 (0, 0))
set_option maxHeartbeats 4000000 in
theorem mU (x : Str) (hx : x.length ≤ 900) : Meets prog lP [str x] { inv := fun y : (List Ln × OutC) × (List Ln × OutC) => LnsOK (rdF 0 (splitB 10 x) [] []) y, val := fun y => .tuple #[.agg #[.slice y.1.2.1 y.1.1.length y.1.2.2, .slice y.2.2.1 y.2.1.length y.2.2.2], rdV (rdF 0 (splitB 10 x) [] [])], LO := fun y => [Row y.1.2.1 (rows y.1.1), innersF y.1.1 Ln.row, Row y.2.2.1 (rows y.2.1), innersF y.2.1 Ln.row] } := by
 have hS := I9 x 10 (by omega); have hLn := P2 10 x; have hcl : x.count 10 ≤ x.length := List.count_le_length; have hLw := pU 10 x; obtain ⟨L, hL⟩ : ∃ L, splitB 10 x = L := ⟨_, rfl⟩; rw [hL] at hS hLn hLw; rw [hL]; obtain ⟨R, hR⟩ : ∃ R, rdF 0 L [] [] = R := ⟨_, rfl⟩; rw [hR]; refine j3 az5 rfl v8 fun w0 => i4 (u4 rfl (fun _ => Y5 _) fun g2 => ?_); refine c5 rfl (t6 ?_); refine u4 rfl (fun _ => Y5 _) fun g4 => ?_; refine t6 (b6 rfl ?_); refine j4 J2 rfl rfl (hS) (hpR := [_, _]) (.refl _) tK fun gw _ => ?_; refine c5 rfl (c8 (d6 (i4 (b6 rfl (b6 rfl ?_))))); refine k6 rfl j9 rfl (P9 ((L.length - 1 : Nat) : Int) rfl rfl rfl (by omega) q6 (rB (α := Str) (A := (d9 gw)) (p := L) (ca := L.length) 0 (L.length - 1) mB (Nat.le_refl _) ?_)); rw [gx6, List.drop_zero]; refine lJ (L.length - 1) rfl j9 j6 rfl rfl rfl (by omega) (k6 rfl j9 rfl ?_); refine b6 rfl (c8 (j5 ?_)); refine dY (Fs := ([] : List Ln).map Ln.row) (by intro F hF; simp at hF) ?_; refine u6 (β := Ls) ⟨fun z => z.ok L R, fun z => [(2, .pointer (d9 g2)), (4, .pointer (d9 g4)), (5, .slice (d9 gw) L.length L.length), (17, .slice (d9 gw) (L.length - 1) L.length), (18, int (L.length - 1 : Nat)), (19, int z.i)], fun z => shO g4 z.o1 z.cl.length z.o2 z.hd.length :: shO g2 (none, 0) 0 (none, 0) 0 :: (z.h1 ++ z.h2), fun z => [Row (d9 gw) (rows L), Row (d9 gw) (rows (L.take (L.length - 1))), innersF z.cl Ln.row, innersF z.hd Ln.row]⟩ (fun z => L.length - z.i) ⟨0, [], (none, 0), [], [], (none, 0), []⟩ ⟨hR, by show 0 + 1 ≤ L.length; omega, Grow.nil _ _, Grow.nil _ _, Nat.le_refl _, Nat.le_refl _, fun x h => by cases h⟩ mC (.refl _) mC fun z hz => ?_; obtain ⟨i, cl, o1, h1, hd, o2, h2⟩ := z; obtain ⟨he, hil, g1, gg2, hl1, hl2, hla⟩ := hz; simp only at he hil g1 gg2 hl1 hl2 hla; refine i4 (B5 rfl rfl rfl (c8 (d6 ?_)))
 first | refine k9 rfl (fun hb1 => ?_) (fun hb1 => ?_) | refine j0 rfl (fun hb1 => ?_) (fun hb1 => ?_)
 ·have hb1' := hb1; try simp at hb1'
  have hi : i + 1 < L.length := by omega
  have hlw := hLw _ (w8 (l := L) (show i < L.length by omega)); refine i8 (i1 (d6 (j5 (i4 (b6 rfl ?_))))); refine m7 (α := Str) (L.take (L.length - 1)) i rfl j9 j6 rfl rfl rfl mB (by first | omega | (rw [List.length_take]; omega)) (by first | omega | (rw [List.length_take]; omega)) (by decide) ?_; refine a7 (v := str (L.getD i default)) rfl a9 rfl (b7 (cs := rows L) mB (b4 (by omega) rfl)) ?_; refine c5 rfl (c5 rfl (c8 (d6 (i4 (b6 rfl (J3 rfl rfl rfl (c8 ?_)))))))
  first | refine k9 rfl (fun hb2 => ?_) (fun hb2 => ?_) | refine j0 rfl (fun hb2 => ?_) (fun hb2 => ?_)
  ·have hb2' := hb2; try simp at hb2'
   have hs : (L.getD i default) = wFinis := hb2; refine d6 (i4 (b6 rfl (b6 rfl ?_))); refine k6 rfl j9 rfl (P9 _ rfl rfl rfl rfl q6 ?_); refine J0 rfl rfl rfl (b6 rfl ?_); refine v6 rfl rfl ?_ ?_
   ·intro hg1; have hg1' := hg1; try simp at hg1'
    have hn2 : i + 2 = L.length := by have h9 := of_decide_eq_true (eq_of_beq hg1); omega
    refine k5 hg1 (b6 rfl (k5 hg1 (b6 rfl (k5 hg1 ?_)))); refine t5 ((i + 1 : Nat) : Int) rfl rfl rfl (by push_cast; rfl) q6 ?_; refine k5 hg1 (m7 (α := Str) L (i + 1) rfl j9 j6 rfl rfl rfl mB rfl (by omega) (by decide) (k5 hg1 (a7 (v := str (L.getD (i + 1) default)) rfl a9 rfl (b7 mB (b4 (by omega) rfl)) ?_))); refine k5 hg1 (J3 rfl rfl rfl ?_); refine p_t rfl rfl (bt1 hg1) rfl (c8 ?_)
    first | refine k9 rfl (fun hb3 => ?_) (fun hb3 => ?_) | refine j0 rfl (fun hb3 => ?_) (fun hb3 => ?_)
    ·have hb3' := hb3; try simp at hb3'
     have hR0 := kz0 he hn2 hs hb3; refine i4 (G3 rfl J8 C4 rfl m0 (by rfl) (l6 (cs := #[.slice o1.1 cl.length o1.2, .slice o2.1 hd.length o2.2]) rfl rfl (.swap _ _ _) C4 (by rfl) (by rfl) ?_)); refine c5 rfl (c8 (E9 (u5 (B7 (u5 (B7 ?_)))))); subst hR0; refine Q5 (hp' := h1 ++ (h2 ++ [shO g2 o1 cl.length o2 hd.length, shO g4 o1 cl.length o2 hd.length])) (show List.Perm (shO g2 o1 cl.length o2 hd.length :: shO g4 o1 cl.length o2 hd.length :: (h1 ++ h2)) _ from (B1 fun p => by simp only [List.countP_append, List.countP_cons, List.countP_nil]; omega)) ?_; refine lM g1 (lM gg2 ?_); exact A9 (((cl, o1), (hd, o2)) : (List Ln × OutC) × (List Ln × OutC)) (fun a w9 ha hw9 => D1 (cs := #[.slice o1.1 cl.length o1.2, .slice o2.1 hd.length o2.2]) (v1 := .nilIface) rfl rfl rfl J8 C4 rfl m0 a w9 ha.at_ hw9) rfl ⟨fun h => (by cases h), fun t h => (by cases h; exact ⟨rfl, rfl⟩), by show cl.length ≤ 1000; omega, by show hd.length ≤ 1000; omega, hla⟩ nK mC
    have hb3' := hb3; try simp at hb3'
    have hR9 := hj9 he hi hs (fun e => hb3 e.2); refine i8 (i1 (i4 ?_)); refine u0 _ rfl rfl (fun _ => R5 ..) (b6 rfl ?_); refine t5 ((i + 2 : Nat) : Int) rfl rfl rfl (by push_cast; rfl) q6 ?_; refine u0 _ rfl rfl (fun _ => E4 ..) (lK rfl ⟨_, underlying140, rfl⟩ rfl (l6 (cs := #[.slice none 0 0, .slice none 0 0]) rfl rfl (.swap _ _ _) C4 (by rfl) (by rfl) ?_)); refine c5 rfl (c8 (E9 (B7 (u5 (B7 ?_))))); have hR0 : R = (none, i + 2) := hR9; subst hR0; refine n5 (α := Ln) ?_; refine G1 (Fs := ([] : List Ln).map Ln.row) (by intro F hF; simp at hF) ?_; exact A9 ((([], (none, 0)), ([], (none, 0))) : (List Ln × OutC) × (List Ln × OutC)) (fun a w9 ha hw9 => D1 (cs := #[.slice none 0 0, .slice none 0 0]) (v1 := wrV (i + 2) 2) rfl rfl rfl J8 C4 rfl m0 a w9 ha.at_ hw9) rfl ⟨fun _ => ⟨rfl, rfl⟩, fun t h => (by cases h), Nat.zero_le _, Nat.zero_le _, fun x h => by cases h⟩ nK mC
   intro hg1; have hg1' := hg1; try simp at hg1'
   have hn2 : ¬ i + 2 = L.length := fun e => by
     rw [decide_eq_true (show (i : Int) = (L.length : Int) - 2 by omega)] at hg1; exact absurd hg1 (by decide)
   refine l8 hg1 (l8 hg1 (l8 hg1 (l8 hg1 (l8 hg1 (l8 hg1 ?_))))); refine p_f rfl rfl (bf2 hg1) rfl ?_; refine c8 (c_f rfl rfl ?_); have hR9 := hj9 he hi hs (fun e => hn2 e.1); refine i8 (i1 (i4 ?_)); refine u0 _ rfl rfl (fun _ => R5 ..) (b6 rfl ?_); refine t5 ((i + 2 : Nat) : Int) rfl rfl rfl (by push_cast; rfl) q6 ?_; refine u0 _ rfl rfl (fun _ => E4 ..) (lK rfl ⟨_, underlying140, rfl⟩ rfl (l6 (cs := #[.slice none 0 0, .slice none 0 0]) rfl rfl (.swap _ _ _) C4 (by rfl) (by rfl) ?_)); refine c5 rfl (c8 (E9 (B7 (u5 (B7 ?_))))); have hR0 : R = (none, i + 2) := hR9; subst hR0; refine n5 (α := Ln) ?_; refine G1 (Fs := ([] : List Ln).map Ln.row) (by intro F hF; simp at hF) ?_; exact A9 ((([], (none, 0)), ([], (none, 0))) : (List Ln × OutC) × (List Ln × OutC)) (fun a w9 ha hw9 => D1 (cs := #[.slice none 0 0, .slice none 0 0]) (v1 := wrV (i + 2) 2) rfl rfl rfl J8 C4 rfl m0 a w9 ha.at_ hw9) rfl ⟨fun _ => ⟨rfl, rfl⟩, fun t h => (by cases h), Nat.zero_le _, Nat.zero_le _, fun x h => by cases h⟩ nK mC
  have hb2' := hb2; try simp at hb2'
  have hs : ¬ (L.getD i default) = wFinis := hb2; refine i8 (i1 (i4 (b6 rfl ?_))); refine j4 zM rfl rfl (yH (L.getD i default) (by omega)) (hpR := shO g4 o1 cl.length o2 hd.length :: shO g2 (none, 0) 0 (none, 0) 0 :: (h1 ++ h2)) (.refl _) tK fun y9 hy9 => ?_; obtain ⟨x9, he9, ok9⟩ := y9; have hy9 : parseT (splitB 32 (L.getD i default)) = if ok9 = true then some (he9, x9.p) else none := hy9; refine b6 rfl (l3 rfl rfl rfl (l3 rfl rfl rfl (l3 rfl rfl rfl ?_))); refine u4 rfl (fun _ => D8 _) fun g8 => l6 (cs := #[str x9.1, str x9.2.1, str x9.2.2.1, .slice x9.2.2.2.a x9.2.2.2.l.length x9.2.2.2.c]) rfl rfl (.refl _) m9 (by rfl) (by rfl) ?_; refine c5 rfl (c5 rfl (c8 ?_)); refine I0 ⟨fun _ : Unit => ok9 = true ∧ (he9 = false → hd = []), fun _ => [(2, .pointer (d9 g2)), (4, .pointer (d9 g4)), (5, .slice (d9 gw) L.length L.length), (17, .slice (d9 gw) (L.length - 1) L.length), (18, int (L.length - 1 : Nat)), (19, int i), (8, .pointer (d9 g8)), (9, .bool he9)], fun _ => shO g4 o1 cl.length o2 hd.length :: shO g2 (none, 0) 0 (none, 0) 0 :: (h1 ++ h2), fun _ => [Blk g8 (Obj.cells #[str x9.1, str x9.2.1, str x9.2.2.1, .slice x9.2.2.2.a x9.2.2.2.l.length x9.2.2.2.c] G4 (0, 0)), x9.row, Row (d9 gw) (rows L), Row (d9 gw) (rows (L.take (L.length - 1))), innersF cl Ln.row, innersF hd Ln.row]⟩ ?_ ?_
  ·skip
   refine d6 (C3 (c9 (b6 rfl (H6 rfl rfl (b6 rfl ?_))))); refine v6 rfl rfl ?_ ?_
   ·intro hg2; have hg2' := hg2; try simp at hg2'
    have hok : ok9 = true := by simpa using hg2
    refine k5 hg2 (b6 rfl (k5 hg2 (H6 rfl rfl (k5 hg2 (b6 rfl ?_))))); refine v6 rfl rfl ?_ ?_
    ·intro hg3; have hg3' := hg3; try simp at hg3'
     have hhe : he9 = false := by simpa using hg3
     refine k5 hg3 ?_
     first | refine a6 ⟨_, 1, none⟩ rfl rfl D9 rfl ?_ | refine a6 _ rfl rfl D9 rfl ?_
     refine k5 hg3 (a7 (v := .slice o2.1 hd.length o2.2) rfl j8 rfl (i2 m0 rfl) (k5 hg3 (k6 rfl G6 rfl ?_))); refine k5 hg3 (Q0 rfl rfl rfl (k5 hg2 ?_)); refine p_t rfl rfl (bt1 hg3) rfl (p_f rfl rfl (bf1 hg2) rfl (c8 ?_))
     first | refine k9 rfl (fun hb4 => ?_) (fun hb4 => ?_) | refine j0 rfl (fun hb4 => ?_) (fun hb4 => ?_)
     ·have hb4' := hb4; try simp at hb4'
      have hR9 := kx9 he hi hs (by rw [hy9, hok, hhe]; rfl) (fun e => by have := congrArg List.length e; rw [List.length_map, List.length_nil] at this; omega); refine i4 (u0 _ rfl rfl (fun _ => R5 ..) (b6 rfl ?_)); refine t5 ((i + 1 : Nat) : Int) rfl rfl rfl (by push_cast; rfl) q6 ?_; refine u0 _ rfl rfl (fun _ => E4 ..) (lK rfl ⟨_, underlying140, rfl⟩ rfl (l6 (cs := #[.slice none 0 0, .slice none 0 0]) rfl rfl (.swap _ _ _) C4 (by rfl) (by rfl) ?_)); refine c5 rfl (c8 (E9 (B7 (u5 (B7 ?_))))); have hR0 : R = (none, i + 1) := hR9; subst hR0; refine n5 (α := Ln) ?_; refine G1 (Fs := ([] : List Ln).map Ln.row) (by intro F hF; simp at hF) ?_; exact A9 ((([], (none, 0)), ([], (none, 0))) : (List Ln × OutC) × (List Ln × OutC)) (fun a w9 ha hw9 => D1 (cs := #[.slice none 0 0, .slice none 0 0]) (v1 := wrV (i + 1) 2) rfl rfl rfl J8 C4 rfl m0 a w9 ha.at_ hw9) rfl ⟨fun _ => ⟨rfl, rfl⟩, fun t h => (by cases h), Nat.zero_le _, Nat.zero_le _, fun x h => by cases h⟩ nK mC
     have hb4' := hb4; try simp at hb4'
     refine i8 ?_; exact D5 _ () ⟨hok, fun _ => List.eq_nil_of_length_eq_zero (by omega)⟩ mC (.refl _) mC
    intro hg3; have hg3' := hg3; try simp at hg3'
    have hhe : he9 = true := by simpa using hg3
    refine l8 hg3 (l8 hg3 (l8 hg3 (l8 hg3 (k5 hg2 ?_)))); refine p_f rfl rfl (bf2 hg3) rfl (p_f rfl rfl (bf1 hg2) rfl ?_); refine c8 (c_f rfl rfl (i8 ?_)); exact D5 _ () ⟨hok, fun h => by rw [hhe] at h; cases h⟩ mC (.refl _) mC
   intro hg2; have hg2' := hg2; try simp at hg2'
   have hok : ok9 = false := by simpa using hg2
   refine l8 hg2 (l8 hg2 (l8 hg2 (K6 rfl rfl rfl rfl rfl rfl (K6 rfl rfl rfl rfl rfl rfl (K6 rfl rfl rfl rfl rfl rfl (K6 rfl rfl rfl rfl rfl rfl (l8 hg2 ?_))))))); refine p_t rfl rfl (bt2 hg2) rfl ?_; refine c8 (c_t rfl rfl ?_); have hR9 := nq1 he hi hs (by rw [hy9, hok]; rfl); refine i4 (u0 _ rfl rfl (fun _ => R5 ..) (b6 rfl ?_)); refine t5 ((i + 1 : Nat) : Int) rfl rfl rfl (by push_cast; rfl) q6 ?_; refine u0 _ rfl rfl (fun _ => E4 ..) (lK rfl ⟨_, underlying140, rfl⟩ rfl (l6 (cs := #[.slice none 0 0, .slice none 0 0]) rfl rfl (.swap _ _ _) C4 (by rfl) (by rfl) ?_)); refine c5 rfl (c8 (E9 (B7 (u5 (B7 ?_))))); have hR0 : R = (none, i + 1) := hR9; subst hR0; refine n5 (α := Ln) ?_; refine G1 (Fs := ([] : List Ln).map Ln.row) (by intro F hF; simp at hF) ?_; exact A9 ((([], (none, 0)), ([], (none, 0))) : (List Ln × OutC) × (List Ln × OutC)) (fun a w9 ha hw9 => D1 (cs := #[.slice none 0 0, .slice none 0 0]) (v1 := wrV (i + 1) 2) rfl rfl rfl J8 C4 rfl m0 a w9 ha.at_ hw9) rfl ⟨fun _ => ⟨rfl, rfl⟩, fun t h => (by cases h), Nat.zero_le _, Nat.zero_le _, fun x h => by cases h⟩ nK mC
  intro _ hq9; obtain ⟨hok, hhd⟩ := hq9; refine i4 (b6 rfl (c8 ?_))
  first | refine k9 rfl (fun hb5 => ?_) (fun hb5 => ?_) | refine j0 rfl (fun hb5 => ?_) (fun hb5 => ?_)
  ·have hb5' := hb5; try simp at hb5'
   refine c9 ?_
   first | refine a6 ⟨_, 1, none⟩ rfl rfl D9 rfl ?_ | refine a6 _ rfl rfl D9 rfl ?_
   refine a7 (v := .slice o2.1 hd.length o2.2) rfl j8 rfl (i2 m0 rfl) (z8 (cs := El.cells x9) rfl A5 m9 rfl rfl (R3 (o := 0) mB (S8 (List.append_nil _).symm)) (n7 _ rfl rfl (fun _ => jI ..) fun gS => D2 (rows [(x9 : Ln)]) (List.prefix_refl _) ?_)); refine E3 (hp' := shO g4 o1 cl.length o2 hd.length :: shO g2 (none, 0) 0 (none, 0) 0 :: h1) (hd.length + 1) (rows (hd ++ [x9])) lF rfl rfl rfl gg2 (show List.Perm (shO g4 o1 cl.length o2 hd.length :: shO g2 (none, 0) 0 (none, 0) 0 :: (h1 ++ h2)) (h2 ++ (shO g4 o1 cl.length o2 hd.length :: shO g2 (none, 0) 0 (none, 0) 0 :: h1)) from (B1 fun p => by simp only [List.countP_append, List.countP_cons, List.countP_nil]; omega)) (Src.row (news := rows [(x9 : Ln)]) (m := 1) m0 rfl (E8 _) (by decide)) rfl (A1 hd [x9]).symm (by unfold maxLen; omega) (by omega) fun A' c' og' hG' => ?_
   first | refine a6 ⟨_, 1, none⟩ rfl rfl D9 rfl ?_ | refine a6 _ rfl rfl D9 rfl ?_
   refine C8 (hp' := og' ++ (shO g2 (none, 0) 0 (none, 0) 0 :: h1)) rfl rfl (show List.Perm (og' ++ (shO g4 o1 cl.length o2 hd.length :: shO g2 (none, 0) 0 (none, 0) 0 :: h1)) (shO g4 o1 cl.length o2 hd.length :: (og' ++ (shO g2 (none, 0) 0 (none, 0) 0 :: h1))) from (B1 fun p => by simp only [List.countP_append, List.countP_cons, List.countP_nil]; omega)) lE (by rfl) (by rfl) ?_; refine jN (V8 (ps := hd) (f := Ln.row) (p := x9) mB mB) ?_; have hxy : (hd ++ [x9]).length = hd.length + 1 := by simp
   rw [← hxy] at hG'; refine b5 (w6 (i1 (c9 ?_))); refine t5 _ rfl rfl rfl rfl q6 ?_; refine b6 rfl (b5 ?_); have hpx : parseT (splitB 32 (L.getD i default)) = some (true, x9.p) := by rw [hy9, hok]; simp [hb5]
   have he2 := nj8 he hi hs hpx; refine Q5 (hp' := shO g4 o1 cl.length (A', c') (hd ++ [x9]).length :: shO g2 (none, 0) 0 (none, 0) 0 :: (h1 ++ og')) (show List.Perm (shO g4 o1 cl.length (A', c') (hd.length + 1) :: (og' ++ (shO g2 (none, 0) 0 (none, 0) 0 :: h1))) _ from by rw [hxy]; exact (B1 fun p => by simp only [List.countP_append, List.countP_cons, List.countP_nil]; omega)) ?_; exact again _ (⟨i + 1, cl, o1, h1, hd ++ [x9], (A', c'), og'⟩ : Ls) ⟨by show rdF (i + 1) (L.drop (i + 1)) (cl.map Ln.p) ((hd ++ [x9]).map Ln.p) = R; rw [List.map_append]; exact he2, hi, g1, hG', by show cl.length ≤ i + 1; omega, by show (hd ++ [x9]).length ≤ i + 1; omega, O7 hla (by have h9 := also_le hpx; have h8 : x9.p.2.2.2.length = x9.2.2.2.l.length := rfl; have h7 := P2 32 (L.getD i default); have h6 : (L.getD i default).count 32 ≤ (L.getD i default).length := List.count_le_length; omega)⟩ (y8 (by omega)) mC (.refl _) mC
  have hb5' := hb5; try simp at hb5'
  refine c9 ?_
  first | refine a6 ⟨_, 0, none⟩ rfl rfl A7 rfl ?_ | refine a6 _ rfl rfl A7 rfl ?_
  refine a7 (v := .slice o1.1 cl.length o1.2) rfl j8 rfl (i2 m0 rfl) (z8 (cs := El.cells x9) rfl A5 m9 rfl rfl (R3 (o := 0) mB (S8 (List.append_nil _).symm)) (n7 _ rfl rfl (fun _ => jI ..) fun gS => D2 (rows [(x9 : Ln)]) (List.prefix_refl _) ?_)); refine E3 (hp' := shO g4 o1 cl.length o2 hd.length :: shO g2 (none, 0) 0 (none, 0) 0 :: h2) (cl.length + 1) (rows (cl ++ [x9])) lF rfl rfl rfl g1 (show List.Perm (shO g4 o1 cl.length o2 hd.length :: shO g2 (none, 0) 0 (none, 0) 0 :: (h1 ++ h2)) (h1 ++ (shO g4 o1 cl.length o2 hd.length :: shO g2 (none, 0) 0 (none, 0) 0 :: h2)) from (B1 fun p => by simp only [List.countP_append, List.countP_cons, List.countP_nil]; omega)) (Src.row (news := rows [(x9 : Ln)]) (m := 1) m0 rfl (E8 _) (by decide)) rfl (A1 cl [x9]).symm (by unfold maxLen; omega) (by omega) fun A' c' og' hG' => ?_
  first | refine a6 ⟨_, 0, none⟩ rfl rfl A7 rfl ?_ | refine a6 _ rfl rfl A7 rfl ?_
  refine C8 (hp' := og' ++ (shO g2 (none, 0) 0 (none, 0) 0 :: h2)) rfl rfl (show List.Perm (og' ++ (shO g4 o1 cl.length o2 hd.length :: shO g2 (none, 0) 0 (none, 0) 0 :: h2)) (shO g4 o1 cl.length o2 hd.length :: (og' ++ (shO g2 (none, 0) 0 (none, 0) 0 :: h2))) from (B1 fun p => by simp only [List.countP_append, List.countP_cons, List.countP_nil]; omega)) lE (by rfl) (by rfl) ?_; refine jN (V8 (ps := cl) (f := Ln.row) (p := x9) mB mB) ?_; have hxy : (cl ++ [x9]).length = cl.length + 1 := by simp
  rw [← hxy] at hG'; refine b5 (w6 (i1 (c9 ?_))); refine t5 _ rfl rfl rfl rfl q6 ?_; refine b6 rfl (b5 ?_); have hpx : parseT (splitB 32 (L.getD i default)) = some (false, x9.p) := by rw [hy9, hok]; simp [hb5]
  have he2 := nq0 he hi hs hpx (by rw [hhd (by simpa using hb5)]; rfl); refine Q5 (hp' := shO g4 (A', c') (cl ++ [x9]).length o2 hd.length :: shO g2 (none, 0) 0 (none, 0) 0 :: (og' ++ h2)) (show List.Perm (shO g4 (A', c') (cl.length + 1) o2 hd.length :: (og' ++ (shO g2 (none, 0) 0 (none, 0) 0 :: h2))) _ from by rw [hxy]; exact (B1 fun p => by simp only [List.countP_append, List.countP_cons, List.countP_nil]; omega)) ?_; exact again _ (⟨i + 1, cl ++ [x9], (A', c'), og', hd, o2, h2⟩ : Ls) ⟨by show rdF (i + 1) (L.drop (i + 1)) ((cl ++ [x9]).map Ln.p) (hd.map Ln.p) = R; rw [List.map_append]; exact he2, hi, hG', gg2, by show (cl ++ [x9]).length ≤ i + 1; omega, by show hd.length ≤ i + 1; omega, hla⟩ (y8 (by omega)) mC (.refl _) mC
 have hb1' := hb1; try simp at hb1'
 have hi : i + 1 = L.length := by omega
 refine t7 (C7 (t8 (i1 (i4 ?_)))); refine u0 _ rfl rfl (fun _ => R5 ..) (b6 rfl (k6 rfl j9 rfl (u0 _ rfl rfl (fun _ => E4 ..) (lK rfl ⟨_, underlying140, rfl⟩ rfl (l6 (cs := #[.slice none 0 0, .slice none 0 0]) rfl rfl (.swap _ _ _) C4 (by rfl) (by rfl) ?_))))); refine c5 rfl (c8 (l4 ?_)); have hR0 : R = (none, L.length) := nj9 he hi; subst hR0; refine n5 (α := Ln) ?_; refine G1 (Fs := ([] : List Ln).map Ln.row) (by intro F hF; simp at hF) ?_; exact A9 ((([], (none, 0)), ([], (none, 0))) : (List Ln × OutC) × (List Ln × OutC)) (fun a w9 ha hw9 => D1 (cs := #[.slice none 0 0, .slice none 0 0]) (v1 := wrV (L.length) 2) rfl rfl rfl J8 C4 rfl m0 a w9 ha.at_ hw9) rfl ⟨fun _ => ⟨rfl, rfl⟩, fun t h => (by cases h), Nat.zero_le _, Nat.zero_le _, fun x h => by cases h⟩ nK mC
abbrev BlR := Option (List Cl × List PH) × Nat
def blV (R : BlR) : Value := match R.1 with
  | none => wrV R.2 3
  | some _ => .nilIface
abbrev TRs := List Cl × OutC × List Hd × OutC
structure BlOK (R : BlR) (y : TRs) : Prop where
  no : R.1 = none → y.1 = [] ∧ y.2.2.1 = []
  ye : ∀ t, R.1 = some t → y.1 = t.1 ∧ y.2.2.1.map Hd.p = t.2
  n1 : y.1.length ≤ 1000
  n2 : y.2.2.1.length ≤ 1000
  na : ∀ h ∈ y.2.2.1, h.2.2.2.l.length ≤ 1000
  c1 : y.1.length ≤ y.2.1.2
  c2 : y.2.2.1.length ≤ y.2.2.2.2
abbrev tpB (g : Nat) (A : Option Addr) (n c : Nat) (B : Option Addr) (m k : Nat) : Nat × Obj := (g, .cells #[.slice A n c, .slice B m k] p8 (0, 0))
abbrev hpB (g : Nat) (w : Str) (cl se : Int) (A : Option Addr) (n c : Nat) : Nat × Obj := (g, .cells #[str w, int cl, int se, .slice A n c] G0 (0, 0))
section
variable {C H : List PL} {k : Nat} {R : BlR}
theorem pz2 {acc : List Cl} {R : Option (List Cl) × Nat} (h : trbC C (C.drop k) k acc = R) (hk : k < C.length) (hb : ¬ (C.getD k default).2.1 = [] ∧ findP C (C.getD k default).2.1 < 0) : R = (none, k + 1) := by
  rw [M7 hk, trbC, if_pos hb] at h; exact h.symm
theorem bc_ok {acc : List Cl} {R : Option (List Cl) × Nat} (h : trbC C (C.drop k) k acc = R) (hk : k < C.length) (hb : ¬ (¬ (C.getD k default).2.1 = [] ∧ findP C (C.getD k default).2.1 < 0)) : trbC C (C.drop (k + 1)) (k + 1) (acc ++ [((C.getD k default).1, findP C (C.getD k default).2.1)]) = R := by
  rw [M7 hk, trbC, if_neg hb] at h; exact h
abbrev HBad (C H : List PL) (x : PL) : Prop := (¬ x.2.1 = [] ∧ findP C x.2.1 < 0) ∨ (¬ x.2.2.1 = [] ∧ findP H x.2.2.1 < 0)
theorem ij6 {acc : List PH} {R : Option (List PH) × Nat} (h : trbH C H (H.drop k) k acc = R) (hk : k < H.length) (hb : HBad C H (H.getD k default)) : R = (none, C.length + k + 1) := by
  rw [M7 hk, trbH, if_pos hb] at h; exact h.symm
theorem pz1 {acc : List PH} {R : Option (List PH) × Nat} (h : trbH C H (H.drop k) k acc = R) (hk : k < H.length) (hb : ¬ HBad C H (H.getD k default)) (ha : aloE H (H.getD k default).2.2.2 [] = none) : R = (none, C.length + k + 1) := by
  rw [M7 hk, trbH, if_neg hb, ha] at h; exact h.symm
theorem bh_ok {acc : List PH} {l : List Int} {R : Option (List PH) × Nat} (h : trbH C H (H.drop k) k acc = R) (hk : k < H.length) (hb : ¬ HBad C H (H.getD k default)) (ha : aloE H (H.getD k default).2.2.2 [] = some l) : trbH C H (H.drop (k + 1)) (k + 1) (acc ++ [((H.getD k default).1, findP C (H.getD k default).2.1, findP H (H.getD k default).2.2.1, l)]) = R := by
  rw [M7 hk, trbH, if_neg hb, ha] at h; exact h
theorem kx4 {l : List Str} {j : Nat} {acc : List Int} {R : Option (List Int)} (h : aloE H (l.drop j) acc = R) (hj : j < l.length) (hb : findP H (l.getD j default) < 0) : R = none := by
  rw [M7 hj, aloE, if_pos hb] at h; exact h.symm
theorem al_ok {l : List Str} {j : Nat} {acc : List Int} {R : Option (List Int)} (h : aloE H (l.drop j) acc = R) (hj : j < l.length) (hb : ¬ findP H (l.getD j default) < 0) : aloE H (l.drop (j + 1)) (acc ++ [findP H (l.getD j default)]) = R := by
  rw [M7 hj, aloE, if_neg hb] at h; exact h
end
theorem kz9 {p : Prop} [Decidable p] (h : (decide (¬ p) == true) = true) : ¬ p := of_decide_eq_true (eq_of_beq h)
theorem lq5 {p : Prop} [Decidable p] (h : (decide (¬ p) == true) = false) : p := Classical.byContradiction fun e => by rw [decide_eq_true e] at h; exact absurd h (by decide)
theorem nl_of {p : Prop} [Decidable p] (h : (decide p == false) = true) : ¬ p := of_decide_eq_false (eq_of_beq h)
theorem ls_of {p : Prop} [Decidable p] (h : (decide p == false) = false) : p := Classical.byContradiction fun e => by rw [decide_eq_false e] at h; exact absurd h (by decide)
set_option maxHeartbeats 4000000 in
theorem yS {A B : Option Addr} {ca cb : Nat} (cl hd : List Ln) (hcl : cl.length ≤ 1000) (hhl : hd.length ≤ 1000) (hha : ∀ x ∈ hd, x.2.2.2.l.length ≤ 1000) : Meets prog Z8 [.agg #[.slice A cl.length ca, .slice B hd.length cb]] { LI := [Row A (rows cl), Row B (rows hd), innersF hd Ln.row], inv := fun y : TRs => BlOK (trbT (cl.map Ln.p) (hd.map Ln.p)) y, val := fun y => .tuple #[.agg #[.slice y.2.1.1 y.1.length y.2.1.2, .slice y.2.2.2.1 y.2.2.1.length y.2.2.2.2], blV (trbT (cl.map Ln.p) (hd.map Ln.p))], LO := fun y => [Row y.2.1.1 (rows y.1), RowsF y.2.2.2.1 y.2.2.1 Hd.row] } := by
 obtain ⟨R, hR⟩ : ∃ R, trbT (cl.map Ln.p) (hd.map Ln.p) = R := ⟨_, rfl⟩; rw [hR]; obtain ⟨R1, hR1⟩ : ∃ R, trbC (cl.map Ln.p) (cl.map Ln.p) 0 [] = R := ⟨_, rfl⟩; refine j3 rC rfl v8 fun w0 => i4 (O3 rfl rfl fun gB => u4 rfl (fun _ => D4 _) fun g2 => ?_); refine c5 rfl (t6 ?_); refine u4 rfl (fun _ => D4 _) fun g4 => ?_; refine c8 (Y7 ?_); refine Y6 (hp' := [(gB, Obj.cells #[.slice A cl.length ca, .slice B hd.length cb] M0 (0, 0)), tpB g4 none 0 0 none 0 0, tpB g2 none 0 0 none 0 0]) (List.perm_append_comm (l₁ := [_, _]) (l₂ := [_])) ?_; refine C3 (c9 ?_)
 first | refine a6 ⟨_, 0, none⟩ rfl rfl A7 rfl ?_ | refine a6 _ rfl rfl A7 rfl ?_
 first | refine a7 rfl j8 rfl (i2 mB rfl) ?_ | refine a7 rfl j8 rfl (d8 mB rfl) ?_ | refine a7 rfl j8 rfl (b7 mB (b4 (by omega) rfl)) ?_ | refine a7 rfl j8 rfl (b8 mB (rows_get (by omega) rfl)) ?_ | refine a7 rfl j8 rfl (d7 mB rfl) ?_
 refine k6 rfl G6 rfl ?_; refine b6 rfl (c8 (j5 ?_)); refine u6 (β := Nat × List Cl × OutC × Hp) ⟨fun z => z.1 ≤ cl.length ∧ trbC (cl.map Ln.p) ((cl.map Ln.p).drop z.1) z.1 z.2.1 = R1 ∧ Grow U2 2 z.2.2.1.1 z.2.1.length z.2.2.1.2 (rows z.2.1) z.2.2.2 ∧ z.2.1.length = z.1, fun z => [(1, .pointer (d9 gB)), (2, .pointer (d9 g2)), (4, .pointer (d9 g4)), (15, .slice A cl.length ca), (16, int cl.length), (17, int z.1)], fun z => tpB g4 z.2.2.1.1 z.2.1.length z.2.2.1.2 none 0 0 :: tpB g2 none 0 0 none 0 0 :: z.2.2.2, fun _ => [Blk gB (Obj.cells #[.slice A cl.length ca, .slice B hd.length cb] M0 (0, 0)), Row A (rows cl), Row B (rows hd), innersF hd Ln.row]⟩ (fun z => cl.length - z.1) (0, [], (none, 0), []) ⟨Nat.zero_le _, hR1, Grow.nil _ _, rfl⟩ mC (.refl _) mC fun z hz => ?_; obtain ⟨k, acc, ⟨oA, oc⟩, og⟩ := z; obtain ⟨hk, he, hG, hal⟩ := hz; simp only at hk he hG hal; have hcd : (cl.map Ln.p).length = cl.length := List.length_map _; refine i4 (B5 rfl rfl rfl (c8 (d6 ?_)))
 first | refine k9 rfl (fun hb1 => ?_) (fun hb1 => ?_) | refine j0 rfl (fun hb1 => ?_) (fun hb1 => ?_)
 ·have hb1' := hb1; try simp at hb1'
  have hk1 : k < cl.length := by omega
  have hxk : (cl.map Ln.p).getD k default = (cl.getD k default).p := tW hk1; have hfb := uN (cl.map Ln.p) (cl.getD k default).2.1; rw [hcd] at hfb; refine i8 (i1 (d6 (j5 (i4 (b6 rfl ?_))))); refine m7 (α := Ln) cl k rfl G6 m9 rfl rfl rfl mB rfl hk1 (by decide) (z8 (cs := El.cells (cl.getD k default)) rfl A5 m9 rfl rfl (v9 mB (B3 hk1)) (u4 rfl (fun _ => D8 _) fun g6 => c5 rfl (l6 (cs := #[str (cl.getD k default).1, str (cl.getD k default).2.1, str (cl.getD k default).2.2.1, .slice (cl.getD k default).2.2.2.a (cl.getD k default).2.2.2.l.length (cl.getD k default).2.2.2.c]) rfl rfl (.refl _) m9 (by rfl) (by rfl) ?_))); refine c8 (d6 (C3 ?_)); refine H3 (og) ([tpB g4 oA acc.length oc none 0 0, tpB g2 none 0 0 none 0 0]) (List.perm_append_comm (l₁ := [_, _]) (l₂ := og)) 9 [] mixed (by decide) (by decide) (by decide) rfl rfl rfl ?_
  apply k7 _ rfl rfl rfl
  ·intro w1
   first | refine a6 ⟨_, 0, none⟩ rfl rfl N6 rfl ?_ | refine a6 _ rfl rfl N6 rfl ?_
   refine b5 ?_; exact i5 rfl
  apply k7 _ rfl rfl rfl
  ·intro w1
   first | refine a7 rfl a9 rfl (d8 mB rfl) ?_ | refine a7 rfl a9 rfl (i2 mB rfl) ?_ | refine a7 rfl a9 rfl (b7 mB (b4 (by omega) rfl)) ?_ | refine a7 rfl a9 rfl (b8 mB (rows_get (by omega) rfl)) ?_ | refine a7 rfl a9 rfl (d7 mB rfl) ?_
   refine b5 ?_; exact i5 rfl
  apply k7 _ rfl rfl rfl
  ·intro w1
   first | refine a6 ⟨_, 0, none⟩ rfl rfl A7 rfl ?_ | refine a6 _ rfl rfl A7 rfl ?_
   refine b5 ?_; exact i5 rfl
  apply k7 _ rfl rfl rfl
  ·intro w1
   first | refine a7 rfl j8 rfl (d8 mB rfl) ?_ | refine a7 rfl j8 rfl (i2 mB rfl) ?_ | refine a7 rfl j8 rfl (b7 mB (b4 (by omega) rfl)) ?_ | refine a7 rfl j8 rfl (b8 mB (rows_get (by omega) rfl)) ?_ | refine a7 rfl j8 rfl (d7 mB rfl) ?_
   refine b5 ?_; exact i5 rfl
  apply k7 _ rfl rfl rfl
  ·intro w1
   first | refine a6 ⟨_, 1, none⟩ rfl rfl E6 rfl ?_ | refine a6 _ rfl rfl E6 rfl ?_
   refine b5 ?_; exact i5 rfl
  apply k7 _ rfl rfl rfl
  ·intro w1
   first | refine a7 rfl a9 rfl (d8 mB rfl) ?_ | refine a7 rfl a9 rfl (i2 mB rfl) ?_ | refine a7 rfl a9 rfl (b7 mB (b4 (by omega) rfl)) ?_ | refine a7 rfl a9 rfl (b8 mB (rows_get (by omega) rfl)) ?_ | refine a7 rfl a9 rfl (d7 mB rfl) ?_
   refine b5 ?_; exact i5 rfl
  refine k8 (fun w1 => j4 aS rfl rfl (aL cl (cl.getD k default).2.1 (by omega)) t4 mC fun _ _ => (q_z rfl)) ?_; refine k8 (fun w1 => u0 _ rfl rfl (fun _ => M5 ..) (q_z rfl)) ?_; refine jj4 ⟨Nat, fun _ => True, fun g => .pointer (d9 g), fun _ => [], fun g => [(g, Obj.cells #[str [], int 0] U2 (0, 0))]⟩ rfl rfl rfl ?_ ?_
  ·intro w1; refine u4 rfl (fun _ => X1 _) fun g7 => b5 ?_; exact H4 g7 tK (fun _ => rfl) (.refl _) tK
  refine v7 ⟨rfl, ?_⟩; intro g7 _; refine l6 (cs := #[str (cl.getD k default).1, int (findP (cl.map Ln.p) (cl.getD k default).2.1)]) rfl rfl (.refl _) u7 (by rfl) (by rfl) (c8 ?_); refine I0 ⟨fun _ : Unit => ¬ (¬ (cl.getD k default).2.1 = [] ∧ (findP (cl.map Ln.p) (cl.getD k default).2.1) < 0), fun _ => [(1, .pointer (d9 gB)), (2, .pointer (d9 g2)), (4, .pointer (d9 g4)), (15, .slice A cl.length ca), (16, int cl.length), (17, int k), (7, .pointer (d9 g7))], fun _ => tpB g4 oA acc.length oc none 0 0 :: tpB g2 none 0 0 none 0 0 :: og, fun _ => [Blk g7 (Obj.cells #[str (cl.getD k default).1, int (findP (cl.map Ln.p) (cl.getD k default).2.1)] U2 (0, 0)), Blk gB (Obj.cells #[.slice A cl.length ca, .slice B hd.length cb] M0 (0, 0)), Row A (rows cl), Row B (rows hd), innersF hd Ln.row]⟩ ?_ ?_
  ·skip
   refine d6 (C3 ?_); refine Y6 (hp' := tpB g4 oA acc.length oc none 0 0 :: tpB g2 none 0 0 none 0 0 :: og) (List.perm_append_comm (l₁ := og) (l₂ := [_, _])) (c9 ?_)
   first | refine a6 ⟨_, 1, none⟩ rfl rfl E6 rfl ?_ | refine a6 _ rfl rfl E6 rfl ?_
   first | refine a7 rfl a9 rfl (i2 mB rfl) ?_ | refine a7 rfl a9 rfl (d8 mB rfl) ?_ | refine a7 rfl a9 rfl (b7 mB (b4 (by omega) rfl)) ?_ | refine a7 rfl a9 rfl (b8 mB (rows_get (by omega) rfl)) ?_ | refine a7 rfl a9 rfl (d7 mB rfl) ?_
   refine iK rfl rfl rfl (b6 rfl ?_); refine v6 rfl rfl ?_ ?_
   ·intro hg1; have hg1' := hg1; try simp at hg1'
    have hne : ¬ (cl.getD k default).2.1 = [] := kz9 hg1; refine k5 hg1 ?_
    first | refine a6 ⟨_, 1, none⟩ rfl rfl y5 rfl ?_ | refine a6 _ rfl rfl y5 rfl ?_
    refine k5 hg1 ?_
    first | refine a7 rfl a8 rfl (i2 mB rfl) ?_ | refine a7 rfl a8 rfl (d8 mB rfl) ?_ | refine a7 rfl a8 rfl (b7 mB (b4 (by omega) rfl)) ?_ | refine a7 rfl a8 rfl (b8 mB (rows_get (by omega) rfl)) ?_ | refine a7 rfl a8 rfl (d7 mB rfl) ?_
    refine k5 hg1 (B5 rfl rfl rfl ?_); refine p_t rfl rfl (bt1 hg1) rfl (c8 ?_)
    first | refine k9 rfl (fun hb2 => ?_) (fun hb2 => ?_) | refine j0 rfl (fun hb2 => ?_) (fun hb2 => ?_)
    ·have hb2' := hb2; try simp at hb2'
     have hR9 := pz2 he (by omega) (by rw [hxk]; exact ⟨hne, hb2⟩); refine i4 (u0 _ rfl rfl (fun _ => A6 ..) (b6 rfl ?_)); refine t5 ((k + 1 : Nat) : Int) rfl rfl rfl (by push_cast; rfl) q6 ?_; refine u0 _ rfl rfl (fun _ => E4 ..) (lK rfl ⟨_, underlying140, rfl⟩ rfl (l6 (cs := #[.slice none 0 0, .slice none 0 0]) rfl rfl (.swap _ _ _) c7 (by rfl) (by rfl) ?_)); refine c5 rfl (c8 (E9 (B7 (u5 (B7 ?_))))); have hR0 : R = (none, k + 1) := (by rw [← hR]; unfold trbT; rw [hR1, hR9]); subst hR0; refine n5 (α := Cl) (n5 (α := Hd) ?_); refine G1 (Fs := ([] : List Hd).map Hd.row) (by intro F hF; simp at hF) ?_; refine J7 (A := none) (ps := ([] : List Hd)) (f := Hd.row) mB mB ?_; exact A9 (([], (none, 0), [], (none, 0)) : TRs) (fun a w9 ha hw9 => D1 (cs := #[.slice none 0 0, .slice none 0 0]) (v1 := wrV (k + 1) 3) rfl rfl rfl i6 c7 rfl m0 a w9 ha.at_ hw9) rfl ⟨fun _ => ⟨rfl, rfl⟩, fun t h => (by cases h), Nat.zero_le _, Nat.zero_le _, fun h9 h => (by cases h), Nat.zero_le _, Nat.zero_le _⟩ nK mC
    have hb2' := hb2; try simp at hb2'
    refine i8 ?_; exact D5 _ () (fun q => hb2 q.2) mC (.refl _) mC
   intro hg1; have hg1' := hg1; try simp at hg1'
   have hne : (cl.getD k default).2.1 = [] := lq5 hg1; refine l8 hg1 (l8 hg1 (l8 hg1 ?_)); refine p_f rfl rfl (bf2 hg1) rfl ?_; refine c8 (c_f rfl rfl (i8 ?_)); exact D5 _ () (fun q => q.1 hne) mC (.refl _) mC
  intro _ hok; simp only at hok; refine c9 ?_
  first | refine a6 ⟨_, 0, none⟩ rfl rfl i9 rfl ?_ | refine a6 _ rfl rfl i9 rfl ?_
  refine a7 (v := .slice oA acc.length oc) rfl b3 rfl (i2 m0 rfl) (z8 (cs := [str (cl.getD k default).1, int (findP (cl.map Ln.p) (cl.getD k default).2.1)]) rfl L0 u7 rfl rfl (R3 (o := 0) mB (S8 (List.append_nil _).symm)) (n7 _ rfl rfl (fun _ => aV ..) fun gS => D2 (rows [(((cl.getD k default).1, (findP (cl.map Ln.p) (cl.getD k default).2.1)) : Cl)]) (List.prefix_refl _) ?_)); refine E3 (hp' := [tpB g4 oA acc.length oc none 0 0, tpB g2 none 0 0 none 0 0]) (acc.length + 1) (rows (acc ++ [(((cl.getD k default).1, (findP (cl.map Ln.p) (cl.getD k default).2.1)) : Cl)])) dQ rfl rfl rfl hG (show List.Perm (tpB g4 oA acc.length oc none 0 0 :: tpB g2 none 0 0 none 0 0 :: og) (og ++ [tpB g4 oA acc.length oc none 0 0, tpB g2 none 0 0 none 0 0]) from (B1 fun p => by simp only [List.countP_append, List.countP_cons, List.countP_nil]; omega)) (Src.row (news := rows [(((cl.getD k default).1, (findP (cl.map Ln.p) (cl.getD k default).2.1)) : Cl)]) (m := 1) m0 rfl (E8 _) (by decide)) rfl (A1 _ _).symm (by unfold maxLen; omega) (by omega) fun A' c' og' hG' => ?_
  first | refine a6 ⟨_, 0, none⟩ rfl rfl i9 rfl ?_ | refine a6 _ rfl rfl i9 rfl ?_
  refine C8 (hp' := og' ++ [tpB g2 none 0 0 none 0 0]) rfl rfl (show List.Perm (og' ++ [tpB g4 oA acc.length oc none 0 0, tpB g2 none 0 0 none 0 0]) (tpB g4 oA acc.length oc none 0 0 :: (og' ++ [tpB g2 none 0 0 none 0 0])) from (B1 fun p => by simp only [List.countP_append, List.countP_cons, List.countP_nil]; omega)) dO (by rfl) (by rfl) ?_; refine b5 (w6 (i1 (c9 ?_))); refine t5 _ rfl rfl rfl rfl q6 ?_; refine b6 rfl (b5 ?_); have hxy : (acc ++ [(((cl.getD k default).1, (findP (cl.map Ln.p) (cl.getD k default).2.1)) : Cl)]).length = acc.length + 1 := by simp
  rw [← hxy] at hG'; have he2 := bc_ok he (by omega) (by rw [hxk]; exact hok); rw [hxk] at he2; refine Q5 (hp' := tpB g4 A' (acc ++ [(((cl.getD k default).1, (findP (cl.map Ln.p) (cl.getD k default).2.1)) : Cl)]).length c' none 0 0 :: tpB g2 none 0 0 none 0 0 :: og') (show List.Perm (tpB g4 A' (acc.length + 1) c' none 0 0 :: (og' ++ [tpB g2 none 0 0 none 0 0])) _ from by rw [hxy]; exact (B1 fun p => by simp only [List.countP_append, List.countP_cons, List.countP_nil]; omega)) ?_; exact again _ (k + 1, acc ++ [(((cl.getD k default).1, (findP (cl.map Ln.p) (cl.getD k default).2.1)) : Cl)], (A', c'), og') ⟨hk1, he2, hG', by show (acc ++ [_]).length = k + 1; omega⟩ (y8 (by omega)) mC (.refl _) mC
 have hb1' := hb1; try simp at hb1'
 have hk1 : k = cl.length := by omega
 subst hk1; refine t7 (C7 (t8 (i1 (d6 (i4 ?_)))))
 first | refine a6 ⟨_, 1, none⟩ rfl rfl D9 rfl ?_ | refine a6 _ rfl rfl D9 rfl ?_
 first | refine a7 rfl j8 rfl (i2 mB rfl) ?_ | refine a7 rfl j8 rfl (d8 mB rfl) ?_ | refine a7 rfl j8 rfl (b7 mB (b4 (by omega) rfl)) ?_ | refine a7 rfl j8 rfl (b8 mB (rows_get (by omega) rfl)) ?_ | refine a7 rfl j8 rfl (d7 mB rfl) ?_
 refine k6 rfl G6 rfl ?_; refine b6 rfl (c8 (j5 ?_)); rw [List.drop_eq_nil_of_le (by rw [List.length_map]; exact Nat.le_refl _), trbC] at he; obtain ⟨cs, hcs⟩ : ∃ cs, acc = cs := ⟨_, rfl⟩; rw [hcs] at he hG hal ⊢; have hcl2 := hG.le; refine Y6 (hp' := og ++ [tpB g4 oA cs.length oc none 0 0, tpB g2 none 0 0 none 0 0]) (List.perm_append_comm (l₁ := [_, _]) (l₂ := og)) (Z7 hG ?_); clear hG hcs; refine dY (Fs := ([] : List Hd).map Hd.row) (by intro F hF; simp at hF) ?_; obtain ⟨R2, hR2⟩ : ∃ R, trbH (cl.map Ln.p) (hd.map Ln.p) (hd.map Ln.p) 0 [] = R := ⟨_, rfl⟩; refine u6 (β := Nat × List Hd × OutC × Hp) ⟨fun z => z.1 ≤ hd.length ∧ trbH (cl.map Ln.p) (hd.map Ln.p) ((hd.map Ln.p).drop z.1) z.1 (z.2.1.map Hd.p) = R2 ∧ Grow G0 4 z.2.2.1.1 z.2.1.length z.2.2.1.2 (rows z.2.1) z.2.2.2 ∧ z.2.1.length = z.1 ∧ ∀ h ∈ z.2.1, h.2.2.2.l.length ≤ 1000, fun z => [(1, .pointer (d9 gB)), (2, .pointer (d9 g2)), (4, .pointer (d9 g4)), (51, .slice B hd.length cb), (52, int hd.length), (53, int z.1)], fun z => tpB g4 oA cs.length oc z.2.2.1.1 z.2.1.length z.2.2.1.2 :: tpB g2 none 0 0 none 0 0 :: z.2.2.2, fun z => [Blk gB (Obj.cells #[.slice A cl.length ca, .slice B hd.length cb] M0 (0, 0)), Row oA (rows cs), Row A (rows cl), Row B (rows hd), innersF hd Ln.row, innersF z.2.1 Hd.row]⟩ (fun z => hd.length - z.1) (0, [], (none, 0), []) ⟨Nat.zero_le _, hR2, Grow.nil _ _, rfl, fun h hh => by cases hh⟩ mC (.refl _) mC fun z hz => ?_; obtain ⟨k, acc, ⟨hA, hC⟩, h2⟩ := z; obtain ⟨hk, he2, hG, hal2, hna⟩ := hz; simp only at hk he2 hG hal2 hna; have hHd : (hd.map Ln.p).length = hd.length := List.length_map _; have hcd : (cl.map Ln.p).length = cl.length := List.length_map _; refine i4 (B5 rfl rfl rfl (c8 (d6 ?_)))
 first | refine k9 rfl (fun hb3 => ?_) (fun hb3 => ?_) | refine j0 rfl (fun hb3 => ?_) (fun hb3 => ?_)
 ·have hb3' := hb3; try simp at hb3'
  have hk1 : k < hd.length := by omega
  have hyk : (hd.map Ln.p).getD k default = (hd.getD k default).p := tW hk1; have hfb := uN (cl.map Ln.p) (hd.getD k default).2.1; have hfb2 := uN (hd.map Ln.p) (hd.getD k default).2.2.1; rw [hcd] at hfb; rw [hHd] at hfb2; have hya := hha _ (w8 hk1); refine i8 (i1 (d6 (j5 (i4 (b6 rfl ?_))))); refine m7 (α := Ln) hd k rfl G6 m9 rfl rfl rfl mB rfl hk1 (by decide) (z8 (cs := El.cells (hd.getD k default)) rfl A5 m9 rfl rfl (v9 mB (B3 hk1)) (u4 rfl (fun _ => D8 _) fun g9 => c5 rfl (l6 (cs := #[str (hd.getD k default).1, str (hd.getD k default).2.1, str (hd.getD k default).2.2.1, .slice (hd.getD k default).2.2.2.a (hd.getD k default).2.2.2.l.length (hd.getD k default).2.2.2.c]) rfl rfl (.refl _) m9 (by rfl) (by rfl) ?_))); refine c8 (d6 (C3 ?_)); refine H3 (h2) ([tpB g4 oA cs.length oc hA acc.length hC, tpB g2 none 0 0 none 0 0]) (List.perm_append_comm (l₁ := [_, _]) (l₂ := h2)) 14 [] mixed (by decide) (by decide) (by decide) rfl rfl rfl ?_
  apply k7 _ rfl rfl rfl
  ·intro w1
   first | refine a6 ⟨_, 0, none⟩ rfl rfl N6 rfl ?_ | refine a6 _ rfl rfl N6 rfl ?_
   refine b5 ?_; exact i5 rfl
  apply k7 _ rfl rfl rfl
  ·intro w1
   first | refine a7 rfl a9 rfl (d8 mB rfl) ?_ | refine a7 rfl a9 rfl (i2 mB rfl) ?_ | refine a7 rfl a9 rfl (b7 mB (b4 (by omega) rfl)) ?_ | refine a7 rfl a9 rfl (b8 mB (rows_get (by omega) rfl)) ?_ | refine a7 rfl a9 rfl (d7 mB rfl) ?_
   refine b5 ?_; exact i5 rfl
  apply k7 _ rfl rfl rfl
  ·intro w1
   first | refine a6 ⟨_, 0, none⟩ rfl rfl A7 rfl ?_ | refine a6 _ rfl rfl A7 rfl ?_
   refine b5 ?_; exact i5 rfl
  apply k7 _ rfl rfl rfl
  ·intro w1
   first | refine a7 rfl j8 rfl (d8 mB rfl) ?_ | refine a7 rfl j8 rfl (i2 mB rfl) ?_ | refine a7 rfl j8 rfl (b7 mB (b4 (by omega) rfl)) ?_ | refine a7 rfl j8 rfl (b8 mB (rows_get (by omega) rfl)) ?_ | refine a7 rfl j8 rfl (d7 mB rfl) ?_
   refine b5 ?_; exact i5 rfl
  apply k7 _ rfl rfl rfl
  ·intro w1
   first | refine a6 ⟨_, 1, none⟩ rfl rfl E6 rfl ?_ | refine a6 _ rfl rfl E6 rfl ?_
   refine b5 ?_; exact i5 rfl
  apply k7 _ rfl rfl rfl
  ·intro w1
   first | refine a7 rfl a9 rfl (d8 mB rfl) ?_ | refine a7 rfl a9 rfl (i2 mB rfl) ?_ | refine a7 rfl a9 rfl (b7 mB (b4 (by omega) rfl)) ?_ | refine a7 rfl a9 rfl (b8 mB (rows_get (by omega) rfl)) ?_ | refine a7 rfl a9 rfl (d7 mB rfl) ?_
   refine b5 ?_; exact i5 rfl
  refine k8 (fun w1 => j4 aS rfl rfl (aL cl (hd.getD k default).2.1 (by omega)) t4 mC fun _ _ => (q_z rfl)) ?_
  apply k7 _ rfl rfl rfl
  ·intro w1
   first | refine a6 ⟨_, 1, none⟩ rfl rfl D9 rfl ?_ | refine a6 _ rfl rfl D9 rfl ?_
   refine b5 ?_; exact i5 rfl
  apply k7 _ rfl rfl rfl
  ·intro w1
   first | refine a7 rfl j8 rfl (d8 mB rfl) ?_ | refine a7 rfl j8 rfl (i2 mB rfl) ?_ | refine a7 rfl j8 rfl (b7 mB (b4 (by omega) rfl)) ?_ | refine a7 rfl j8 rfl (b8 mB (rows_get (by omega) rfl)) ?_ | refine a7 rfl j8 rfl (d7 mB rfl) ?_
   refine b5 ?_; exact i5 rfl
  apply k7 _ rfl rfl rfl
  ·intro w1
   first | refine a6 ⟨_, 2, none⟩ rfl rfl J9 rfl ?_ | refine a6 _ rfl rfl J9 rfl ?_
   refine b5 ?_; exact i5 rfl
  apply k7 _ rfl rfl rfl
  ·intro w1
   first | refine a7 rfl a9 rfl (d8 mB rfl) ?_ | refine a7 rfl a9 rfl (i2 mB rfl) ?_ | refine a7 rfl a9 rfl (b7 mB (b4 (by omega) rfl)) ?_ | refine a7 rfl a9 rfl (b8 mB (rows_get (by omega) rfl)) ?_ | refine a7 rfl a9 rfl (d7 mB rfl) ?_
   refine b5 ?_; exact i5 rfl
  refine k8 (fun w1 => j4 aS rfl rfl (aL hd (hd.getD k default).2.2.1 (by omega)) t4 mC fun _ _ => (q_z rfl)) ?_; refine k8 (fun w1 => u0 _ rfl rfl (fun _ => Z2 ..) (q_z rfl)) ?_; refine jj4 ⟨Nat, fun _ => True, fun g => .pointer (d9 g), fun _ => [], fun g => [hpB g [] 0 0 none 0 0]⟩ rfl rfl rfl ?_ ?_
  ·intro w1; refine u4 rfl (fun _ => G9 _) fun g10 => b5 ?_; exact H4 g10 tK (fun _ => rfl) (.refl _) tK
  refine v7 ⟨rfl, ?_⟩; intro g10 _; refine l6 (cs := #[str (hd.getD k default).1, int (findP (cl.map Ln.p) (hd.getD k default).2.1), int (findP (hd.map Ln.p) (hd.getD k default).2.2.1), .slice none 0 0]) rfl rfl (.refl _) l7 (by rfl) (by rfl) (c8 ?_); refine I0 ⟨fun _ : Unit => ¬ (HBad (cl.map Ln.p) (hd.map Ln.p) (hd.getD k default).p), fun _ => [(1, .pointer (d9 gB)), (2, .pointer (d9 g2)), (4, .pointer (d9 g4)), (51, .slice B hd.length cb), (52, int hd.length), (53, int k), (8, int k), (9, .pointer (d9 g9)), (10, .pointer (d9 g10))], fun _ => hpB g10 (hd.getD k default).1 (findP (cl.map Ln.p) (hd.getD k default).2.1) (findP (hd.map Ln.p) (hd.getD k default).2.2.1) none 0 0 :: tpB g4 oA cs.length oc hA acc.length hC :: tpB g2 none 0 0 none 0 0 :: h2, fun _ => [Blk g9 (Obj.cells #[str (hd.getD k default).1, str (hd.getD k default).2.1, str (hd.getD k default).2.2.1, .slice (hd.getD k default).2.2.2.a (hd.getD k default).2.2.2.l.length (hd.getD k default).2.2.2.c] G4 (0, 0)), Blk gB (Obj.cells #[.slice A cl.length ca, .slice B hd.length cb] M0 (0, 0)), Row oA (rows cs), Row A (rows cl), Row B (rows hd), innersF hd Ln.row, innersF acc Hd.row]⟩ ?_ ?_
  ·skip
   refine d6 ?_; refine Y6 (hp' := hpB g10 (hd.getD k default).1 (findP (cl.map Ln.p) (hd.getD k default).2.1) (findP (hd.map Ln.p) (hd.getD k default).2.2.1) none 0 0 :: tpB g4 oA cs.length oc hA acc.length hC :: tpB g2 none 0 0 none 0 0 :: h2) (show List.Perm (hpB g10 (hd.getD k default).1 (findP (cl.map Ln.p) (hd.getD k default).2.1) (findP (hd.map Ln.p) (hd.getD k default).2.2.1) none 0 0 :: (h2 ++ [tpB g4 oA cs.length oc hA acc.length hC, tpB g2 none 0 0 none 0 0])) (hpB g10 (hd.getD k default).1 (findP (cl.map Ln.p) (hd.getD k default).2.1) (findP (hd.map Ln.p) (hd.getD k default).2.2.1) none 0 0 :: tpB g4 oA cs.length oc hA acc.length hC :: tpB g2 none 0 0 none 0 0 :: h2) from (B1 fun p => by simp only [List.countP_append, List.countP_cons, List.countP_nil]; omega)) ?_; refine c9 ?_
   first | refine a6 ⟨_, 1, none⟩ rfl rfl E6 rfl ?_ | refine a6 _ rfl rfl E6 rfl ?_
   first | refine a7 rfl a9 rfl (i2 mB rfl) ?_ | refine a7 rfl a9 rfl (d8 mB rfl) ?_ | refine a7 rfl a9 rfl (b7 mB (b4 (by omega) rfl)) ?_ | refine a7 rfl a9 rfl (b8 mB (rows_get (by omega) rfl)) ?_ | refine a7 rfl a9 rfl (d7 mB rfl) ?_
   refine iK rfl rfl rfl (b6 rfl ?_); refine v6 rfl rfl ?_ ?_
   ·intro hg2; have hg2' := hg2; try simp at hg2'
    have hcn : ¬ (hd.getD k default).2.1 = [] := kz9 hg2; refine k5 hg2 ?_
    first | refine a6 ⟨_, 1, none⟩ rfl rfl p7 rfl ?_ | refine a6 _ rfl rfl p7 rfl ?_
    refine k5 hg2 ?_
    first | refine a7 rfl a8 rfl (i2 mB rfl) ?_ | refine a7 rfl a8 rfl (d8 mB rfl) ?_ | refine a7 rfl a8 rfl (b7 mB (b4 (by omega) rfl)) ?_ | refine a7 rfl a8 rfl (b8 mB (rows_get (by omega) rfl)) ?_ | refine a7 rfl a8 rfl (d7 mB rfl) ?_
    refine k5 hg2 (B5 rfl rfl rfl ?_); refine p_t rfl rfl (bt1 hg2) rfl (b6 rfl ?_); refine v6 rfl rfl ?_ ?_
    ·intro hg3; have hg3' := hg3; try simp at hg3'
     have hfc : ¬ (findP (cl.map Ln.p) (hd.getD k default).2.1) < 0 := nl_of hg3; refine k5 hg3 ?_
     first | refine a6 ⟨_, 2, none⟩ rfl rfl J9 rfl ?_ | refine a6 _ rfl rfl J9 rfl ?_
     refine k5 hg3 ?_
     first | refine a7 rfl a9 rfl (i2 mB rfl) ?_ | refine a7 rfl a9 rfl (d8 mB rfl) ?_ | refine a7 rfl a9 rfl (b7 mB (b4 (by omega) rfl)) ?_ | refine a7 rfl a9 rfl (b8 mB (rows_get (by omega) rfl)) ?_ | refine a7 rfl a9 rfl (d7 mB rfl) ?_
     refine k5 hg3 (iK rfl rfl rfl (k5 hg3 (b6 rfl ?_))); refine v6 rfl rfl ?_ ?_
     ·intro hg4; have hg4' := hg4; try simp at hg4'
      have hsn : ¬ (hd.getD k default).2.2.1 = [] := kz9 hg4; refine k5 hg4 ?_
      first | refine a6 ⟨_, 2, none⟩ rfl rfl p6 rfl ?_ | refine a6 _ rfl rfl p6 rfl ?_
      refine k5 hg4 ?_
      first | refine a7 rfl a8 rfl (i2 mB rfl) ?_ | refine a7 rfl a8 rfl (d8 mB rfl) ?_ | refine a7 rfl a8 rfl (b7 mB (b4 (by omega) rfl)) ?_ | refine a7 rfl a8 rfl (b8 mB (rows_get (by omega) rfl)) ?_ | refine a7 rfl a8 rfl (d7 mB rfl) ?_
      refine k5 hg4 (B5 rfl rfl rfl (k5 hg3 ?_)); refine p_t rfl rfl (bt1 hg4) rfl (p_f rfl rfl (bf1 hg3) rfl (c8 ?_))
      first | refine k9 rfl (fun hb4 => ?_) (fun hb4 => ?_) | refine j0 rfl (fun hb4 => ?_) (fun hb4 => ?_)
      ·have hb4' := hb4; try simp at hb4'
       have hR8 := ij6 he2 (by omega) (by rw [hyk]; exact .inr ⟨hsn, hb4⟩); rw [hcd] at hR8; refine d6 ?_; refine H3 (tpB g2 none 0 0 none 0 0 :: h2) ([hpB g10 (hd.getD k default).1 (findP (cl.map Ln.p) (hd.getD k default).2.1) (findP (hd.map Ln.p) (hd.getD k default).2.2.1) none 0 0, tpB g4 oA cs.length oc hA acc.length hC]) (B1 fun p => by simp only [List.countP_append, List.countP_cons, List.countP_nil]; omega) 10 [9] mixed (by decide) (by decide) (by decide) rfl rfl rfl ?_; refine k8 (fun w1 => u0 _ rfl rfl (fun _ => A6 ..) (q_z rfl)) ?_
       apply k7 _ rfl rfl rfl
       ·intro w1
        first | refine a6 ⟨_, 0, none⟩ rfl rfl A7 rfl ?_ | refine a6 _ rfl rfl A7 rfl ?_
        refine b5 ?_; exact i5 rfl
       apply k7 _ rfl rfl rfl
       ·intro w1
        first | refine a7 rfl j8 rfl (d8 mB rfl) ?_ | refine a7 rfl j8 rfl (i2 mB rfl) ?_ | refine a7 rfl j8 rfl (b7 mB (b4 (by omega) rfl)) ?_ | refine a7 rfl j8 rfl (b8 mB (rows_get (by omega) rfl)) ?_ | refine a7 rfl j8 rfl (d7 mB rfl) ?_
        refine b5 ?_; exact i5 rfl
       refine k8 (fun w1 => k6 rfl G6 rfl (q_z rfl)) (r7 rfl ?_); refine k8 (fun w1 => t5 ((cl.length + k : Nat) : Int) rfl rfl rfl (by push_cast; rfl) q6 (q_z rfl)) ?_; refine k8 (fun w1 => t5 ((cl.length + k + 1 : Nat) : Int) rfl rfl rfl (by push_cast; rfl) q6 (q_z rfl)) ?_; refine k8 (fun w1 => u0 _ rfl rfl (fun _ => E4 ..) (q_z rfl)) (k8 (fun w1 => lK rfl ⟨_, underlying140, rfl⟩ rfl (q_z rfl)) ?_); refine nF ⟨Unit, fun _ => True, fun _ => undef, fun _ => [], fun _ => tpB g2 none 0 0 none 0 0 :: h2⟩ rfl rfl ?_ ?_
       ·intro w1; refine l6 (cs := #[.slice none 0 0, .slice none 0 0]) rfl rfl (.refl _) c7 (by rfl) (by rfl) (b5 ?_); exact H4 () tK (fun h => by cases h) (.refl _) tK
       refine v7 ⟨rfl, ?_⟩; intro _ _; refine c5 rfl (c8 (E9 (B7 (u5 (B7 ?_))))); have hR0 : R = (none, cl.length + k + 1) := (by rw [← hR]; unfold trbT; rw [hR1, ← he]; simp only; rw [hR2, hR8]); subst hR0; refine n5 (α := Cl) (n5 (α := Hd) ?_); refine G1 (Fs := ([] : List Hd).map Hd.row) (by intro F hF; simp at hF) ?_; refine J7 (A := none) (ps := ([] : List Hd)) (f := Hd.row) mB mB ?_; exact A9 (([], (none, 0), [], (none, 0)) : TRs) (fun a w9 ha hw9 => D1 (cs := #[.slice none 0 0, .slice none 0 0]) (v1 := wrV (cl.length + k + 1) 3) rfl rfl rfl i6 c7 rfl m0 a w9 ha.at_ hw9) rfl ⟨fun _ => ⟨rfl, rfl⟩, fun t h => (by cases h), Nat.zero_le _, Nat.zero_le _, fun h9 h => (by cases h), Nat.zero_le _, Nat.zero_le _⟩ nK mC
      have hb4' := hb4; try simp at hb4'
      refine i8 ?_; exact D5 _ () (by rintro (⟨q1, q2⟩ | ⟨q1, q2⟩) <;> first | exact hfc q2 | exact q1 hcn | exact hb4 q2 | exact q1 hsn) mC (.refl _) mC
     intro hg4; have hg4' := hg4; try simp at hg4'
     have hsn : (hd.getD k default).2.2.1 = [] := lq5 hg4; refine l8 hg4 (l8 hg4 (l8 hg4 (k5 hg3 ?_))); refine p_f rfl rfl (bf2 hg4) rfl ?_; refine p_f rfl rfl (bf1 hg3) rfl ?_; refine c8 (c_f rfl rfl (i8 ?_)); exact D5 _ () (by rintro (⟨q1, q2⟩ | ⟨q1, q2⟩) <;> first | exact hfc q2 | exact q1 hcn | exact hb4 q2 | exact q1 hsn) mC (.refl _) mC
    intro hg3; have hg3' := hg3; try simp at hg3'
    have hfc : (findP (cl.map Ln.p) (hd.getD k default).2.1) < 0 := ls_of hg3; refine l8 hg3 (l8 hg3 (l8 hg3 (l8 hg3 (K6 rfl rfl rfl rfl rfl rfl (K6 rfl rfl rfl rfl rfl rfl (K6 rfl rfl rfl rfl rfl rfl (l8 hg3 ?_))))))); refine p_t rfl rfl (bt2 hg3) rfl ?_; refine c8 (c_t rfl rfl ?_); have hR8 := ij6 he2 (by omega) (by rw [hyk]; exact .inl ⟨hcn, hfc⟩); rw [hcd] at hR8; refine d6 ?_; refine H3 (tpB g2 none 0 0 none 0 0 :: h2) ([hpB g10 (hd.getD k default).1 (findP (cl.map Ln.p) (hd.getD k default).2.1) (findP (hd.map Ln.p) (hd.getD k default).2.2.1) none 0 0, tpB g4 oA cs.length oc hA acc.length hC]) (B1 fun p => by simp only [List.countP_append, List.countP_cons, List.countP_nil]; omega) 10 [9] mixed (by decide) (by decide) (by decide) rfl rfl rfl ?_; refine k8 (fun w1 => u0 _ rfl rfl (fun _ => A6 ..) (q_z rfl)) ?_
    apply k7 _ rfl rfl rfl
    ·intro w1
     first | refine a6 ⟨_, 0, none⟩ rfl rfl A7 rfl ?_ | refine a6 _ rfl rfl A7 rfl ?_
     refine b5 ?_; exact i5 rfl
    apply k7 _ rfl rfl rfl
    ·intro w1
     first | refine a7 rfl j8 rfl (d8 mB rfl) ?_ | refine a7 rfl j8 rfl (i2 mB rfl) ?_ | refine a7 rfl j8 rfl (b7 mB (b4 (by omega) rfl)) ?_ | refine a7 rfl j8 rfl (b8 mB (rows_get (by omega) rfl)) ?_ | refine a7 rfl j8 rfl (d7 mB rfl) ?_
     refine b5 ?_; exact i5 rfl
    refine k8 (fun w1 => k6 rfl G6 rfl (q_z rfl)) (r7 rfl ?_); refine k8 (fun w1 => t5 ((cl.length + k : Nat) : Int) rfl rfl rfl (by push_cast; rfl) q6 (q_z rfl)) ?_; refine k8 (fun w1 => t5 ((cl.length + k + 1 : Nat) : Int) rfl rfl rfl (by push_cast; rfl) q6 (q_z rfl)) ?_; refine k8 (fun w1 => u0 _ rfl rfl (fun _ => E4 ..) (q_z rfl)) (k8 (fun w1 => lK rfl ⟨_, underlying140, rfl⟩ rfl (q_z rfl)) ?_); refine nF ⟨Unit, fun _ => True, fun _ => undef, fun _ => [], fun _ => tpB g2 none 0 0 none 0 0 :: h2⟩ rfl rfl ?_ ?_
    ·intro w1; refine l6 (cs := #[.slice none 0 0, .slice none 0 0]) rfl rfl (.refl _) c7 (by rfl) (by rfl) (b5 ?_); exact H4 () tK (fun h => by cases h) (.refl _) tK
    refine v7 ⟨rfl, ?_⟩; intro _ _; refine c5 rfl (c8 (E9 (B7 (u5 (B7 ?_))))); have hR0 : R = (none, cl.length + k + 1) := (by rw [← hR]; unfold trbT; rw [hR1, ← he]; simp only; rw [hR2, hR8]); subst hR0; refine n5 (α := Cl) (n5 (α := Hd) ?_); refine G1 (Fs := ([] : List Hd).map Hd.row) (by intro F hF; simp at hF) ?_; refine J7 (A := none) (ps := ([] : List Hd)) (f := Hd.row) mB mB ?_; exact A9 (([], (none, 0), [], (none, 0)) : TRs) (fun a w9 ha hw9 => D1 (cs := #[.slice none 0 0, .slice none 0 0]) (v1 := wrV (cl.length + k + 1) 3) rfl rfl rfl i6 c7 rfl m0 a w9 ha.at_ hw9) rfl ⟨fun _ => ⟨rfl, rfl⟩, fun t h => (by cases h), Nat.zero_le _, Nat.zero_le _, fun h9 h => (by cases h), Nat.zero_le _, Nat.zero_le _⟩ nK mC
   intro hg2; have hg2' := hg2; try simp at hg2'
   have hcn : (hd.getD k default).2.1 = [] := lq5 hg2; refine l8 hg2 (l8 hg2 (l8 hg2 ?_)); refine p_f rfl rfl (bf2 hg2) rfl ?_; refine b6 rfl (iC rfl rfl rfl ?_)
   first | refine a6 ⟨_, 2, none⟩ rfl rfl J9 rfl ?_ | refine a6 _ rfl rfl J9 rfl ?_
   refine iC rfl rfl rfl ?_
   first | refine a7 rfl a9 rfl (i2 mB rfl) ?_ | refine a7 rfl a9 rfl (d8 mB rfl) ?_ | refine a7 rfl a9 rfl (b7 mB (b4 (by omega) rfl)) ?_ | refine a7 rfl a9 rfl (b8 mB (rows_get (by omega) rfl)) ?_ | refine a7 rfl a9 rfl (d7 mB rfl) ?_
   refine iC rfl rfl rfl (iK rfl rfl rfl (iC rfl rfl rfl (b6 rfl ?_))); refine v6 rfl rfl ?_ ?_
   ·intro hg5; have hg5' := hg5; try simp at hg5'
    have hsn : ¬ (hd.getD k default).2.2.1 = [] := kz9 hg5; refine k5 hg5 ?_
    first | refine a6 ⟨_, 2, none⟩ rfl rfl p6 rfl ?_ | refine a6 _ rfl rfl p6 rfl ?_
    refine k5 hg5 ?_
    first | refine a7 rfl a8 rfl (i2 mB rfl) ?_ | refine a7 rfl a8 rfl (d8 mB rfl) ?_ | refine a7 rfl a8 rfl (b7 mB (b4 (by omega) rfl)) ?_ | refine a7 rfl a8 rfl (b8 mB (rows_get (by omega) rfl)) ?_ | refine a7 rfl a8 rfl (d7 mB rfl) ?_
    refine k5 hg5 (B5 rfl rfl rfl (iC rfl rfl rfl ?_)); refine p_t rfl rfl (bt1 hg5) rfl ?_; refine p_f rfl rfl rfl rfl (c8 ?_)
    first | refine k9 rfl (fun hb4 => ?_) (fun hb4 => ?_) | refine j0 rfl (fun hb4 => ?_) (fun hb4 => ?_)
    ·have hb4' := hb4; try simp at hb4'
     have hR8 := ij6 he2 (by omega) (by rw [hyk]; exact .inr ⟨hsn, hb4⟩); rw [hcd] at hR8; refine d6 ?_; refine H3 (tpB g2 none 0 0 none 0 0 :: h2) ([hpB g10 (hd.getD k default).1 (findP (cl.map Ln.p) (hd.getD k default).2.1) (findP (hd.map Ln.p) (hd.getD k default).2.2.1) none 0 0, tpB g4 oA cs.length oc hA acc.length hC]) (B1 fun p => by simp only [List.countP_append, List.countP_cons, List.countP_nil]; omega) 10 [9] mixed (by decide) (by decide) (by decide) rfl rfl rfl ?_; refine k8 (fun w1 => u0 _ rfl rfl (fun _ => A6 ..) (q_z rfl)) ?_
     apply k7 _ rfl rfl rfl
     ·intro w1
      first | refine a6 ⟨_, 0, none⟩ rfl rfl A7 rfl ?_ | refine a6 _ rfl rfl A7 rfl ?_
      refine b5 ?_; exact i5 rfl
     apply k7 _ rfl rfl rfl
     ·intro w1
      first | refine a7 rfl j8 rfl (d8 mB rfl) ?_ | refine a7 rfl j8 rfl (i2 mB rfl) ?_ | refine a7 rfl j8 rfl (b7 mB (b4 (by omega) rfl)) ?_ | refine a7 rfl j8 rfl (b8 mB (rows_get (by omega) rfl)) ?_ | refine a7 rfl j8 rfl (d7 mB rfl) ?_
      refine b5 ?_; exact i5 rfl
     refine k8 (fun w1 => k6 rfl G6 rfl (q_z rfl)) (r7 rfl ?_); refine k8 (fun w1 => t5 ((cl.length + k : Nat) : Int) rfl rfl rfl (by push_cast; rfl) q6 (q_z rfl)) ?_; refine k8 (fun w1 => t5 ((cl.length + k + 1 : Nat) : Int) rfl rfl rfl (by push_cast; rfl) q6 (q_z rfl)) ?_; refine k8 (fun w1 => u0 _ rfl rfl (fun _ => E4 ..) (q_z rfl)) (k8 (fun w1 => lK rfl ⟨_, underlying140, rfl⟩ rfl (q_z rfl)) ?_); refine nF ⟨Unit, fun _ => True, fun _ => undef, fun _ => [], fun _ => tpB g2 none 0 0 none 0 0 :: h2⟩ rfl rfl ?_ ?_
     ·intro w1; refine l6 (cs := #[.slice none 0 0, .slice none 0 0]) rfl rfl (.refl _) c7 (by rfl) (by rfl) (b5 ?_); exact H4 () tK (fun h => by cases h) (.refl _) tK
     refine v7 ⟨rfl, ?_⟩; intro _ _; refine c5 rfl (c8 (E9 (B7 (u5 (B7 ?_))))); have hR0 : R = (none, cl.length + k + 1) := (by rw [← hR]; unfold trbT; rw [hR1, ← he]; simp only; rw [hR2, hR8]); subst hR0; refine n5 (α := Cl) (n5 (α := Hd) ?_); refine G1 (Fs := ([] : List Hd).map Hd.row) (by intro F hF; simp at hF) ?_; refine J7 (A := none) (ps := ([] : List Hd)) (f := Hd.row) mB mB ?_; exact A9 (([], (none, 0), [], (none, 0)) : TRs) (fun a w9 ha hw9 => D1 (cs := #[.slice none 0 0, .slice none 0 0]) (v1 := wrV (cl.length + k + 1) 3) rfl rfl rfl i6 c7 rfl m0 a w9 ha.at_ hw9) rfl ⟨fun _ => ⟨rfl, rfl⟩, fun t h => (by cases h), Nat.zero_le _, Nat.zero_le _, fun h9 h => (by cases h), Nat.zero_le _, Nat.zero_le _⟩ nK mC
    have hb4' := hb4; try simp at hb4'
    refine i8 ?_; exact D5 _ () (by rintro (⟨q1, q2⟩ | ⟨q1, q2⟩) <;> first | exact hfc q2 | exact q1 hcn | exact hb4 q2 | exact q1 hsn) mC (.refl _) mC
   intro hg5; have hg5' := hg5; try simp at hg5'
   have hsn : (hd.getD k default).2.2.1 = [] := lq5 hg5; refine l8 hg5 (l8 hg5 (l8 hg5 (iC rfl rfl rfl ?_))); refine p_f rfl rfl (bf2 hg5) rfl ?_; refine p_f rfl rfl rfl rfl (c8 (c_f rfl rfl (i8 ?_))); exact D5 _ () (by rintro (⟨q1, q2⟩ | ⟨q1, q2⟩) <;> first | exact hfc q2 | exact q1 hcn | exact hb4 q2 | exact q1 hsn) mC (.refl _) mC
  intro _ hok; simp only at hok; refine Y7 (cx6 (F := Ln.row (hd.getD k default)) (Fs := hd.map Ln.row) mB (List.mem_map.2 ⟨_, w8 hk1, rfl⟩) (c9 ?_))
  first | refine a6 ⟨_, 3, none⟩ rfl rfl W0 rfl ?_ | refine a6 _ rfl rfl W0 rfl ?_
  first | refine a7 rfl U0 rfl (i2 mB rfl) ?_ | refine a7 rfl U0 rfl (d8 mB rfl) ?_ | refine a7 rfl U0 rfl (b7 mB (b4 (by omega) rfl)) ?_ | refine a7 rfl U0 rfl (b8 mB (rows_get (by omega) rfl)) ?_ | refine a7 rfl U0 rfl (d7 mB rfl) ?_
  refine k6 rfl j9 rfl ?_; refine b6 rfl (c8 (j5 ?_)); obtain ⟨RA, hRA⟩ : ∃ R, aloE (hd.map Ln.p) (hd.getD k default).2.2.2.l [] = R := ⟨_, rfl⟩; refine u6 (β := Nat × List Int × OutC × Hp) ⟨fun z => z.1 ≤ (hd.getD k default).2.2.2.l.length ∧ aloE (hd.map Ln.p) ((hd.getD k default).2.2.2.l.drop z.1) z.2.1 = RA ∧ Grow aU 1 z.2.2.1.1 z.2.1.length z.2.2.1.2 (rows z.2.1) z.2.2.2 ∧ z.2.1.length = z.1, fun z => [(1, .pointer (d9 gB)), (2, .pointer (d9 g2)), (4, .pointer (d9 g4)), (51, .slice B hd.length cb), (52, int hd.length), (53, int k), (8, int k), (9, .pointer (d9 g9)), (10, .pointer (d9 g10)), (99, .slice (hd.getD k default).2.2.2.a (hd.getD k default).2.2.2.l.length (hd.getD k default).2.2.2.c), (100, int (hd.getD k default).2.2.2.l.length), (101, int z.1)], fun z => hpB g10 (hd.getD k default).1 (findP (cl.map Ln.p) (hd.getD k default).2.1) (findP (hd.map Ln.p) (hd.getD k default).2.2.1) z.2.2.1.1 z.2.1.length z.2.2.1.2 :: tpB g4 oA cs.length oc hA acc.length hC :: tpB g2 none 0 0 none 0 0 :: (z.2.2.2 ++ h2), fun _ => [Row (hd.getD k default).2.2.2.a (rows (hd.getD k default).2.2.2.l), Blk g9 (Obj.cells #[str (hd.getD k default).1, str (hd.getD k default).2.1, str (hd.getD k default).2.2.1, .slice (hd.getD k default).2.2.2.a (hd.getD k default).2.2.2.l.length (hd.getD k default).2.2.2.c] G4 (0, 0)), Blk gB (Obj.cells #[.slice A cl.length ca, .slice B hd.length cb] M0 (0, 0)), Row oA (rows cs), Row A (rows cl), Row B (rows hd), innersF hd Ln.row, innersF acc Hd.row]⟩ (fun z => (hd.getD k default).2.2.2.l.length - z.1) (0, [], (none, 0), []) ⟨Nat.zero_le _, hRA, Grow.nil _ _, rfl⟩ mC (.refl _) mC fun z hz => ?_; obtain ⟨j, al, ⟨aA, ac⟩, h3⟩ := z; obtain ⟨hj, he3, hG3, hal3⟩ := hz; simp only at hj he3 hG3 hal3; refine i4 (B5 rfl rfl rfl (c8 (d6 ?_)))
  first | refine k9 rfl (fun hb5 => ?_) (fun hb5 => ?_) | refine j0 rfl (fun hb5 => ?_) (fun hb5 => ?_)
  ·have hb5' := hb5; try simp at hb5'
   have hj1 : j < (hd.getD k default).2.2.2.l.length := by omega
   have hfb3 := uN (hd.map Ln.p) ((hd.getD k default).2.2.2.l.getD j default); rw [hHd] at hfb3; refine i8 (i1 (d6 (j5 (i4 ?_)))); refine m7 (α := Str) (hd.getD k default).2.2.2.l j rfl j9 j6 rfl rfl rfl mB rfl hj1 (by decide) (a7 (v := str ((hd.getD k default).2.2.2.l.getD j default)) rfl a9 rfl (b7 mB (b4 hj1 rfl)) ?_); refine c5 rfl (t6 ?_)
   first | refine a6 ⟨_, 1, none⟩ rfl rfl D9 rfl ?_ | refine a6 _ rfl rfl D9 rfl ?_
   first | refine a7 rfl j8 rfl (i2 mB rfl) ?_ | refine a7 rfl j8 rfl (d8 mB rfl) ?_ | refine a7 rfl j8 rfl (b7 mB (b4 (by omega) rfl)) ?_ | refine a7 rfl j8 rfl (b8 mB (rows_get (by omega) rfl)) ?_ | refine a7 rfl j8 rfl (d7 mB rfl) ?_
   refine b6 rfl (j4 aS rfl rfl (aL hd ((hd.getD k default).2.2.2.l.getD j default) (by omega)) (hpR := hpB g10 (hd.getD k default).1 (findP (cl.map Ln.p) (hd.getD k default).2.1) (findP (hd.map Ln.p) (hd.getD k default).2.2.1) aA al.length ac :: tpB g4 oA cs.length oc hA acc.length hC :: tpB g2 none 0 0 none 0 0 :: (h3 ++ h2)) (.refl _) mC fun _ _ => ?_); refine c5 rfl (c8 (d6 (i4 (b6 rfl (B5 rfl rfl rfl (c8 ?_))))))
   first | refine k9 rfl (fun hb6 => ?_) (fun hb6 => ?_) | refine j0 rfl (fun hb6 => ?_) (fun hb6 => ?_)
   ·have hb6' := hb6; try simp at hb6'
    have hno := kx4 he3 hj1 hb6; have hR8 := pz1 he2 (by omega) (by rw [hyk]; exact hok) (by rw [hyk]; exact hRA.trans hno); rw [hcd] at hR8; refine d6 ?_; refine H3 (tpB g2 none 0 0 none 0 0 :: (h3 ++ h2)) ([hpB g10 (hd.getD k default).1 (findP (cl.map Ln.p) (hd.getD k default).2.1) (findP (hd.map Ln.p) (hd.getD k default).2.2.1) aA al.length ac, tpB g4 oA cs.length oc hA acc.length hC]) (B1 fun p => by simp only [List.countP_append, List.countP_cons, List.countP_nil]; omega) 10 [9] mixed (by decide) (by decide) (by decide) rfl rfl rfl ?_; refine k8 (fun w1 => u0 _ rfl rfl (fun _ => A6 ..) (q_z rfl)) ?_
    apply k7 _ rfl rfl rfl
    ·intro w1
     first | refine a6 ⟨_, 0, none⟩ rfl rfl A7 rfl ?_ | refine a6 _ rfl rfl A7 rfl ?_
     refine b5 ?_; exact i5 rfl
    apply k7 _ rfl rfl rfl
    ·intro w1
     first | refine a7 rfl j8 rfl (d8 mB rfl) ?_ | refine a7 rfl j8 rfl (i2 mB rfl) ?_ | refine a7 rfl j8 rfl (b7 mB (b4 (by omega) rfl)) ?_ | refine a7 rfl j8 rfl (b8 mB (rows_get (by omega) rfl)) ?_ | refine a7 rfl j8 rfl (d7 mB rfl) ?_
     refine b5 ?_; exact i5 rfl
    refine k8 (fun w1 => k6 rfl G6 rfl (q_z rfl)) (r7 rfl ?_); refine k8 (fun w1 => t5 ((cl.length + k : Nat) : Int) rfl rfl rfl (by push_cast; rfl) q6 (q_z rfl)) ?_; refine k8 (fun w1 => t5 ((cl.length + k + 1 : Nat) : Int) rfl rfl rfl (by push_cast; rfl) q6 (q_z rfl)) ?_; refine k8 (fun w1 => u0 _ rfl rfl (fun _ => E4 ..) (q_z rfl)) (k8 (fun w1 => lK rfl ⟨_, underlying140, rfl⟩ rfl (q_z rfl)) ?_); refine nF ⟨Unit, fun _ => True, fun _ => undef, fun _ => [], fun _ => tpB g2 none 0 0 none 0 0 :: (h3 ++ h2)⟩ rfl rfl ?_ ?_
    ·intro w1; refine l6 (cs := #[.slice none 0 0, .slice none 0 0]) rfl rfl (.refl _) c7 (by rfl) (by rfl) (b5 ?_); exact H4 () tK (fun h => by cases h) (.refl _) tK
    refine v7 ⟨rfl, ?_⟩; intro _ _; refine c5 rfl (c8 (E9 (B7 (u5 (B7 (B7 ?_)))))); refine u5 (B7 ?_); have hR0 : R = (none, cl.length + k + 1) := (by rw [← hR]; unfold trbT; rw [hR1, ← he]; simp only; rw [hR2, hR8]); subst hR0; refine n5 (α := Cl) (n5 (α := Hd) ?_); refine G1 (Fs := ([] : List Hd).map Hd.row) (by intro F hF; simp at hF) ?_; refine J7 (A := none) (ps := ([] : List Hd)) (f := Hd.row) mB mB ?_; exact A9 (([], (none, 0), [], (none, 0)) : TRs) (fun a w9 ha hw9 => D1 (cs := #[.slice none 0 0, .slice none 0 0]) (v1 := wrV (cl.length + k + 1) 3) rfl rfl rfl i6 c7 rfl m0 a w9 ha.at_ hw9) rfl ⟨fun _ => ⟨rfl, rfl⟩, fun t h => (by cases h), Nat.zero_le _, Nat.zero_le _, fun h9 h => (by cases h), Nat.zero_le _, Nat.zero_le _⟩ nK mC
   have hb6' := hb6; try simp at hb6'
   refine i8 (i1 (c9 ?_))
   first | refine a6 ⟨_, 3, none⟩ rfl rfl l5 rfl ?_ | refine a6 _ rfl rfl l5 rfl ?_
   refine a7 (v := .slice aA al.length ac) rfl k4 rfl (i2 m0 rfl) (b6 rfl (n7 _ rfl rfl (fun _ => J5 ..) fun gS => D2 (rows [findP (hd.map Ln.p) ((hd.getD k default).2.2.2.l.getD j default)]) (List.prefix_refl _) ?_)); refine E3 (hp' := hpB g10 (hd.getD k default).1 (findP (cl.map Ln.p) (hd.getD k default).2.1) (findP (hd.map Ln.p) (hd.getD k default).2.2.1) aA al.length ac :: tpB g4 oA cs.length oc hA acc.length hC :: tpB g2 none 0 0 none 0 0 :: h2) (al.length + 1) (rows (al ++ [findP (hd.map Ln.p) ((hd.getD k default).2.2.2.l.getD j default)])) cK rfl rfl rfl hG3 (show List.Perm (hpB g10 (hd.getD k default).1 (findP (cl.map Ln.p) (hd.getD k default).2.1) (findP (hd.map Ln.p) (hd.getD k default).2.2.1) aA al.length ac :: tpB g4 oA cs.length oc hA acc.length hC :: tpB g2 none 0 0 none 0 0 :: (h3 ++ h2)) (h3 ++ (hpB g10 (hd.getD k default).1 (findP (cl.map Ln.p) (hd.getD k default).2.1) (findP (hd.map Ln.p) (hd.getD k default).2.2.1) aA al.length ac :: tpB g4 oA cs.length oc hA acc.length hC :: tpB g2 none 0 0 none 0 0 :: h2)) from (B1 fun p => by simp only [List.countP_append, List.countP_cons, List.countP_nil]; omega)) (Src.row (news := rows [findP (hd.map Ln.p) ((hd.getD k default).2.2.2.l.getD j default)]) (m := 1) m0 rfl (E8 _) (by decide)) rfl (A1 _ _).symm (by unfold maxLen; omega) (by omega) fun A' c' og' hG' => ?_
   first | refine a6 ⟨_, 3, none⟩ rfl rfl l5 rfl ?_ | refine a6 _ rfl rfl l5 rfl ?_
   refine C8 (hp' := og' ++ (tpB g4 oA cs.length oc hA acc.length hC :: tpB g2 none 0 0 none 0 0 :: h2)) rfl rfl (show List.Perm (og' ++ (hpB g10 (hd.getD k default).1 (findP (cl.map Ln.p) (hd.getD k default).2.1) (findP (hd.map Ln.p) (hd.getD k default).2.2.1) aA al.length ac :: tpB g4 oA cs.length oc hA acc.length hC :: tpB g2 none 0 0 none 0 0 :: h2)) (hpB g10 (hd.getD k default).1 (findP (cl.map Ln.p) (hd.getD k default).2.1) (findP (hd.map Ln.p) (hd.getD k default).2.2.1) aA al.length ac :: (og' ++ (tpB g4 oA cs.length oc hA acc.length hC :: tpB g2 none 0 0 none 0 0 :: h2))) from (B1 fun p => by simp only [List.countP_append, List.countP_cons, List.countP_nil]; omega)) qT (by rfl) (by rfl) ?_; refine b5 (w6 (i1 (c9 ?_))); refine t5 _ rfl rfl rfl rfl q6 ?_; refine b6 rfl (b5 ?_); have hxy : (al ++ [findP (hd.map Ln.p) ((hd.getD k default).2.2.2.l.getD j default)]).length = al.length + 1 := by simp
   rw [← hxy] at hG'; refine Q5 (hp' := hpB g10 (hd.getD k default).1 (findP (cl.map Ln.p) (hd.getD k default).2.1) (findP (hd.map Ln.p) (hd.getD k default).2.2.1) A' (al ++ [findP (hd.map Ln.p) ((hd.getD k default).2.2.2.l.getD j default)]).length c' :: tpB g4 oA cs.length oc hA acc.length hC :: tpB g2 none 0 0 none 0 0 :: (og' ++ h2)) (show List.Perm (hpB g10 (hd.getD k default).1 (findP (cl.map Ln.p) (hd.getD k default).2.1) (findP (hd.map Ln.p) (hd.getD k default).2.2.1) A' (al.length + 1) c' :: (og' ++ (tpB g4 oA cs.length oc hA acc.length hC :: tpB g2 none 0 0 none 0 0 :: h2))) _ from by rw [hxy]; exact (B1 fun p => by simp only [List.countP_append, List.countP_cons, List.countP_nil]; omega)) ?_; exact again _ (j + 1, al ++ [findP (hd.map Ln.p) ((hd.getD k default).2.2.2.l.getD j default)], (A', c'), og') ⟨hj1, al_ok he3 hj1 hb6, hG', by show (al ++ [_]).length = j + 1; omega⟩ (y8 (by omega)) mC (.refl _) mC
  have hb5' := hb5; try simp at hb5'
  have hj1 : j = (hd.getD k default).2.2.2.l.length := by omega
  rw [hj1, List.drop_eq_nil_of_le (Nat.le_refl _), aloE] at he3; have he4 := bh_ok he2 (by omega) (by rw [hyk]; exact hok) (by rw [hyk]; exact hRA.trans he3.symm); rw [hyk] at he4; refine t7 (C7 (t8 (i1 ?_))); refine Y6 (hp' := h3 ++ (tpB g4 oA cs.length oc hA acc.length hC :: hpB g10 (hd.getD k default).1 (findP (cl.map Ln.p) (hd.getD k default).2.1) (findP (hd.map Ln.p) (hd.getD k default).2.2.1) aA al.length ac :: tpB g2 none 0 0 none 0 0 :: h2)) (show List.Perm (hpB g10 (hd.getD k default).1 (findP (cl.map Ln.p) (hd.getD k default).2.1) (findP (hd.map Ln.p) (hd.getD k default).2.2.1) aA al.length ac :: tpB g4 oA cs.length oc hA acc.length hC :: tpB g2 none 0 0 none 0 0 :: (h3 ++ h2)) (h3 ++ (tpB g4 oA cs.length oc hA acc.length hC :: hpB g10 (hd.getD k default).1 (findP (cl.map Ln.p) (hd.getD k default).2.1) (findP (hd.map Ln.p) (hd.getD k default).2.2.1) aA al.length ac :: tpB g2 none 0 0 none 0 0 :: h2)) from (B1 fun p => by simp only [List.countP_append, List.countP_cons, List.countP_nil]; omega)) ?_; refine Z7 hG3 (c9 ?_)
  first | refine a6 ⟨_, 1, none⟩ rfl rfl i3 rfl ?_ | refine a6 _ rfl rfl i3 rfl ?_
  refine a7 (v := .slice hA acc.length hC) rfl b2 rfl (i2 m0 rfl) (G3 rfl C1 l7 rfl m1 (by rfl) (n7 _ rfl rfl (fun _ => W3 ..) fun gS => D2 (rows [(((hd.getD k default).1, (findP (cl.map Ln.p) (hd.getD k default).2.1), (findP (hd.map Ln.p) (hd.getD k default).2.2.1), ⟨aA, ac, al⟩) : Hd)]) (List.prefix_refl _) ?_)); refine E3 (hp' := [tpB g4 oA cs.length oc hA acc.length hC, hpB g10 (hd.getD k default).1 (findP (cl.map Ln.p) (hd.getD k default).2.1) (findP (hd.map Ln.p) (hd.getD k default).2.2.1) aA al.length ac, tpB g2 none 0 0 none 0 0]) (acc.length + 1) (rows (acc ++ [(((hd.getD k default).1, (findP (cl.map Ln.p) (hd.getD k default).2.1), (findP (hd.map Ln.p) (hd.getD k default).2.2.1), ⟨aA, ac, al⟩) : Hd)])) Q8 rfl rfl rfl hG (show List.Perm (tpB g4 oA cs.length oc hA acc.length hC :: hpB g10 (hd.getD k default).1 (findP (cl.map Ln.p) (hd.getD k default).2.1) (findP (hd.map Ln.p) (hd.getD k default).2.2.1) aA al.length ac :: tpB g2 none 0 0 none 0 0 :: h2) (h2 ++ [tpB g4 oA cs.length oc hA acc.length hC, hpB g10 (hd.getD k default).1 (findP (cl.map Ln.p) (hd.getD k default).2.1) (findP (hd.map Ln.p) (hd.getD k default).2.2.1) aA al.length ac, tpB g2 none 0 0 none 0 0]) from (B1 fun p => by simp only [List.countP_append, List.countP_cons, List.countP_nil]; omega)) (Src.row (news := rows [(((hd.getD k default).1, (findP (cl.map Ln.p) (hd.getD k default).2.1), (findP (hd.map Ln.p) (hd.getD k default).2.2.1), ⟨aA, ac, al⟩) : Hd)]) (m := 1) m0 rfl (E8 _) (by decide)) rfl (A1 _ _).symm (by unfold maxLen; omega) (by omega) fun A' c' og' hG' => ?_
  first | refine a6 ⟨_, 1, none⟩ rfl rfl i3 rfl ?_ | refine a6 _ rfl rfl i3 rfl ?_
  refine C8 (hp' := og' ++ [hpB g10 (hd.getD k default).1 (findP (cl.map Ln.p) (hd.getD k default).2.1) (findP (hd.map Ln.p) (hd.getD k default).2.2.1) aA al.length ac, tpB g2 none 0 0 none 0 0]) rfl rfl (show List.Perm (og' ++ [tpB g4 oA cs.length oc hA acc.length hC, hpB g10 (hd.getD k default).1 (findP (cl.map Ln.p) (hd.getD k default).2.1) (findP (hd.map Ln.p) (hd.getD k default).2.2.1) aA al.length ac, tpB g2 none 0 0 none 0 0]) (tpB g4 oA cs.length oc hA acc.length hC :: (og' ++ [hpB g10 (hd.getD k default).1 (findP (cl.map Ln.p) (hd.getD k default).2.1) (findP (hd.map Ln.p) (hd.getD k default).2.2.1) aA al.length ac, tpB g2 none 0 0 none 0 0])) from (B1 fun p => by simp only [List.countP_append, List.countP_cons, List.countP_nil]; omega)) V0 (by rfl) (by rfl) ?_; refine jN (V8 (ps := acc) (f := Hd.row) (p := (((hd.getD k default).1, (findP (cl.map Ln.p) (hd.getD k default).2.1), (findP (hd.map Ln.p) (hd.getD k default).2.2.1), ⟨aA, ac, al⟩) : Hd)) mB mB) ?_; refine b5 (w6 (i1 (c9 ?_))); refine t5 _ rfl rfl rfl rfl q6 ?_; refine b6 rfl (b5 ?_); have hxy : (acc ++ [(((hd.getD k default).1, (findP (cl.map Ln.p) (hd.getD k default).2.1), (findP (hd.map Ln.p) (hd.getD k default).2.2.1), ⟨aA, ac, al⟩) : Hd)]).length = acc.length + 1 := by simp
  rw [← hxy] at hG'; refine Q5 (hp' := hpB g10 (hd.getD k default).1 (findP (cl.map Ln.p) (hd.getD k default).2.1) (findP (hd.map Ln.p) (hd.getD k default).2.2.1) aA al.length ac :: tpB g4 oA cs.length oc A' (acc ++ [(((hd.getD k default).1, (findP (cl.map Ln.p) (hd.getD k default).2.1), (findP (hd.map Ln.p) (hd.getD k default).2.2.1), ⟨aA, ac, al⟩) : Hd)]).length c' :: tpB g2 none 0 0 none 0 0 :: og') (show List.Perm (tpB g4 oA cs.length oc A' (acc.length + 1) c' :: (og' ++ [hpB g10 (hd.getD k default).1 (findP (cl.map Ln.p) (hd.getD k default).2.1) (findP (hd.map Ln.p) (hd.getD k default).2.2.1) aA al.length ac, tpB g2 none 0 0 none 0 0])) _ from by rw [hxy]; exact (B1 fun p => by simp only [List.countP_append, List.countP_cons, List.countP_nil]; omega)) ?_; exact again _ (k + 1, acc ++ [(((hd.getD k default).1, (findP (cl.map Ln.p) (hd.getD k default).2.1), (findP (hd.map Ln.p) (hd.getD k default).2.2.1), ⟨aA, ac, al⟩) : Hd)], (A', c'), og') ⟨hk1, by show trbH _ _ _ _ ((acc ++ [(((hd.getD k default).1, (findP (cl.map Ln.p) (hd.getD k default).2.1), (findP (hd.map Ln.p) (hd.getD k default).2.2.1), ⟨aA, ac, al⟩) : Hd)]).map Hd.p) = R2; rw [List.map_append]; exact he4, hG', by show (acc ++ [_]).length = k + 1; omega, O7 hna (by show al.length ≤ 1000; omega)⟩ (y8 (by omega)) mC (.cons _ (.refl _)) mC
 have hb3' := hb3; try simp at hb3'
 have hk1 : k = hd.length := by omega
 subst hk1; refine t7 (C7 (t8 (i1 (d6 ?_)))); rw [List.drop_eq_nil_of_le (by rw [List.length_map]; exact Nat.le_refl _), trbH] at he2; have hRf : R = (some (cs, acc.map Hd.p), 0) := by rw [← hR]; unfold trbT; rw [hR1, ← he]; simp only; rw [hR2, ← he2]
 have hHle := hG.le; refine c9 (G3 rfl i6 c7 rfl m0 (by rfl) (l6 (cs := #[.slice oA cs.length oc, .slice hA acc.length hC]) rfl rfl (.swap _ _ _) c7 (by rfl) (by rfl) ?_)); refine c5 rfl (c8 (l4 ?_)); subst hRf; refine Q5 (hp' := h2 ++ [tpB g2 oA cs.length oc hA acc.length hC, tpB g4 oA cs.length oc hA acc.length hC]) (show List.Perm (tpB g2 oA cs.length oc hA acc.length hC :: tpB g4 oA cs.length oc hA acc.length hC :: h2) (h2 ++ [tpB g2 oA cs.length oc hA acc.length hC, tpB g4 oA cs.length oc hA acc.length hC]) from (B1 fun p => by simp only [List.countP_append, List.countP_cons, List.countP_nil]; omega)) ?_; refine lM hG (J7 (A := hA) (ps := acc) (f := Hd.row) mB mB ?_); exact A9 ((cs, (oA, oc), acc, (hA, hC)) : TRs) (fun a w9 ha hw9 => D1 (cs := #[.slice oA cs.length oc, .slice hA acc.length hC]) (v1 := .nilIface) rfl rfl rfl i6 c7 rfl m0 a w9 ha.at_ hw9) rfl ⟨fun h => (by cases h), fun t h => (by cases h; exact ⟨rfl, rfl⟩), by show cs.length ≤ 1000; omega, by show acc.length ≤ 1000; omega, hna, hcl2, hHle⟩ nK mC
end Go.Proofs.YtdgmfagfpbdbhaaGreatDoor
end
