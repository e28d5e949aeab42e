/- Texts. -/

import Derived.Test.YtdgmfagfpbdbhaaGreatDoorAAm
set_option linter.unusedVariables false
set_option linter.unusedSimpArgs false
section
namespace Go.Proofs.YtdgmfagfpbdbhaaGreatDoor
open Go Go.W Tryz T F
set_option maxRecDepth 20000
attribute [local irreducible] HL HC HQ HB Row Rows2 Blk Facts
section
variable {c : Cx} {fr : Fr} {hp : Hp} {L : List Fact}
theorem I3 {fn : Func} {t u1 : Tmp} {ty e : TypeId} {g n : Nat} {cs : Array Value} {fz : Nat × Nat} {v1 : Value} (hres : fn.results = #[.cell t ty, .tmp u1]) (hv : lk fr t = some (.pointer (c5 g))) (hv1 : lk fr u1 = some v1) (ht : IsR c.P ty) (hz : Sz c.P ty n) (hn : cs.size = n)
    (hm : (g, Obj.cells cs e fz) ∈ hp) (a : Act) (w : World) (hfr : ∀ t v, lk fr t = some v → a.tmps.getD t undef = v) (hw : WI c.b w hp L) : (results fn a.tmps).run c.P w = .ok (.tuple #[.agg cs, v1]) w := by
  obtain ⟨dd, ht, hr⟩ := ht; have h1 := hw.own _ hm; simp only at h1
  have hl : (loadVar ty ⟨g, 0, none⟩).run c.P w = .ok (.agg cs) w := by
    have hagg : (isAgg ty).run c.P w = .ok true w := by
      unfold isAgg; rw [Sem.run_bind, run_underlying ht w]
      cases dd <;> simp_all [TypeDesc.isRow]
    have hc := run_loadCells_list (P := c.P) w ⟨g, 0, none⟩ cs.toList (fun j u hu => by rw [add_mk, Nat.zero_add]; simp at hu; simp [World.cell?, h1, hu]); have hs := bP hz w; simp only [loadVar, Sem.run_bind, hagg, Result.andThen_ok, if_true, hs, ← hn]; have e : cs.size = cs.toList.length := by simp
    rw [e, hc]
    simp
  have h5 : a.tmps[t]?.getD undef = .pointer (c5 g) := by simpa using hfr _ _ hv
  have h6 : a.tmps[u1]?.getD undef = v1 := by simpa using hfr _ _ hv1
  unfold results; rw [hres]
  simp [h5, h6, asAddr, hl]
end
theorem vD (b : UInt8) : ∀ (s : Str), ∀ w ∈ splitB b s, w.length ≤ s.length
  | [], w, h => by simp [splitB] at h; subst h; exact Nat.le_refl _
  | x :: r, w, h => by
    rw [splitB] at h
    by_cases hx : x = b
    · rw [if_pos hx] at h
      rcases List.mem_cons.1 h with rfl | h
      · exact Nat.zero_le _
      have := vD b r w h; rw [List.length_cons]; omega
    rw [if_neg hx] at h; have hl := N0 b r
    cases hs : splitB b r with
    | nil => rw [hs] at hl; cases hl
    | cons a t =>
      rw [hs] at h
      rcases List.mem_cons.1 h with rfl | h
      · have := vD b r a (by rw [hs]; exact List.mem_cons_self); simp only [List.length_cons]; omega
      have := vD b r w (by rw [hs]; exact List.mem_cons_of_mem _ h); rw [List.length_cons]; omega
abbrev shO (g : Nat) (o1 : OutC) (n1 : Nat) (o2 : OutC) (n2 : Nat) : Nat × Obj := (g, Obj.cells #[.slice o1.1 n1 o1.2, .slice o2.1 n2 o2.2] I2 (0, 0))
set_option maxHeartbeats 4000000 in
theorem jT (x : Str) (hx : x.length ≤ 900) : Meets prog iZ [str x] { inv := fun y : (List Ln × OutC) × (List Ln × OutC) => LnsOK (rdF 0 (splitB 10 x) [] []) y, val := fun y => .tuple #[.agg #[.slice y.1.2.1 y.1.1.length y.1.2.2, .slice y.2.2.1 y.2.1.length y.2.2.2], rdV (rdF 0 (splitB 10 x) [] [])], LO := fun y => [Row y.1.2.1 (rows y.1.1), innersF y.1.1 Ln.row, Row y.2.2.1 (rows y.2.1), innersF y.2.1 Ln.row] } := by
 have hS := E5 x 10 (by omega); have hLn := N0 10 x; have hcl : x.count 10 ≤ x.length := List.count_le_length; have hLw := vD 10 x; obtain ⟨L, hL⟩ : ∃ L, splitB 10 x = L := ⟨_, rfl⟩; rw [hL] at hS hLn hLw; rw [hL]; obtain ⟨R, hR⟩ : ∃ R, rdF 0 L [] [] = R := ⟨_, rfl⟩; rw [hR]; refine i5 xS rfl t3 fun w0 => i3 (q6 rfl (fun _ => S6 _) fun g2 => ?_); refine c8 rfl (n9 ?_); refine q6 rfl (fun _ => S6 _) fun g4 => ?_; refine n9 (b6 rfl ?_); refine i8 E7 rfl rfl (hS) (hpR := [_, _]) (.refl _) tK fun gw _ => ?_; refine c8 rfl (c9 (d7 (i3 (b6 rfl (b6 rfl ?_))))); refine j9 rfl j6 rfl (O7 ((L.length - 1 : Nat) : Int) rfl rfl rfl (by omega) p8 (xO (α := Str) (A := (c5 gw)) (p := L) (ca := L.length) 0 (L.length - 1) mB (Nat.le_refl _) ?_)); rw [bz9, List.drop_zero]; refine iT (L.length - 1) rfl j6 j5 rfl rfl rfl (by omega) (j9 rfl j6 rfl ?_); refine b6 rfl (c9 (j4 ?_)); refine vU (Fs := ([] : List Ln).map Ln.row) (by intro F hF; simp at hF) ?_; refine t8 (β := Ls) ⟨fun z => z.ok L R, fun z => [(2, .pointer (c5 g2)), (4, .pointer (c5 g4)), (5, .slice (c5 gw) L.length L.length), (17, .slice (c5 gw) (L.length - 1) L.length), (18, int (L.length - 1 : Nat)), (19, int z.i)], fun z => shO g4 z.o1 z.cl.length z.o2 z.hd.length :: shO g2 (none, 0) 0 (none, 0) 0 :: (z.h1 ++ z.h2), fun z => [Row (c5 gw) (rows L), Row (c5 gw) (rows (L.take (L.length - 1))), innersF z.cl Ln.row, innersF z.hd Ln.row]⟩ (fun z => L.length - z.i) ⟨0, [], (none, 0), [], [], (none, 0), []⟩ ⟨hR, by show 0 + 1 ≤ L.length; omega, Grow.nil _ _, Grow.nil _ _, Nat.le_refl _, Nat.le_refl _, fun x h => by cases h⟩ mC (.refl _) mC fun z hz => ?_; obtain ⟨i, cl, o1, h1, hd, o2, h2⟩ := z; obtain ⟨he, hil, g1, gg2, hl1, hl2, hla⟩ := hz; simp only at he hil g1 gg2 hl1 hl2 hla; refine i3 (z6 rfl rfl rfl (c9 (d7 ?_)))
 first | refine k6 rfl (fun hb1 => ?_) (fun hb1 => ?_) | refine i6 rfl (fun hb1 => ?_) (fun hb1 => ?_)
 ·have hb1' := hb1; try simp at hb1'
  have hi : i + 1 < L.length := by omega
  have hlw := hLw _ (A9 (l := L) (show i < L.length by omega)); refine i9 (i2 (d7 (j4 (i3 (b6 rfl ?_))))); refine q8 (α := Str) (L.take (L.length - 1)) i rfl j6 j5 rfl rfl rfl mB (by first | omega | (rw [List.length_take]; omega)) (by first | omega | (rw [List.length_take]; omega)) (by decide) ?_; refine a7 (v := str (L.getD i default)) rfl a9 rfl (b7 (cs := rows L) mB (b2 (by omega) rfl)) ?_; refine c8 rfl (c8 rfl (c9 (d7 (i3 (b6 rfl (K4 rfl rfl rfl (c9 ?_)))))))
  first | refine k6 rfl (fun hb2 => ?_) (fun hb2 => ?_) | refine i6 rfl (fun hb2 => ?_) (fun hb2 => ?_)
  ·have hb2' := hb2; try simp at hb2'
   have hs : (L.getD i default) = wFinis := hb2; refine d7 (i3 (b6 rfl (b6 rfl ?_))); refine j9 rfl j6 rfl (O7 _ rfl rfl rfl rfl p8 ?_); refine H5 rfl rfl rfl (b6 rfl ?_); refine v4 rfl rfl ?_ ?_
   ·intro hg1; have hg1' := hg1; try simp at hg1'
    have hn2 : i + 2 = L.length := by have h9 := of_decide_eq_true (eq_of_beq hg1); omega
    refine k9 hg1 (b6 rfl (k9 hg1 (b6 rfl (k9 hg1 ?_)))); refine t7 ((i + 1 : Nat) : Int) rfl rfl rfl (by push_cast; rfl) p8 ?_; refine k9 hg1 (q8 (α := Str) L (i + 1) rfl j6 j5 rfl rfl rfl mB rfl (by omega) (by decide) (k9 hg1 (a7 (v := str (L.getD (i + 1) default)) rfl a9 rfl (b7 mB (b2 (by omega) rfl)) ?_))); refine k9 hg1 (K4 rfl rfl rfl ?_); refine p_t rfl rfl (bt1 hg1) rfl (c9 ?_)
    first | refine k6 rfl (fun hb3 => ?_) (fun hb3 => ?_) | refine i6 rfl (fun hb3 => ?_) (fun hb3 => ?_)
    ·have hb3' := hb3; try simp at hb3'
     have hR0 := rd_finY he hn2 hs hb3; refine i3 (D1 rfl G1 v8 rfl m0 (by rfl) (l6 (cs := #[.slice o1.1 cl.length o1.2, .slice o2.1 hd.length o2.2]) rfl rfl (.swap _ _ _) v8 (by rfl) (by rfl) ?_)); refine c8 rfl (c9 (J0 (w8 (D6 (w8 (D6 ?_)))))); subst hR0; refine Q5 (hp' := h1 ++ (h2 ++ [shO g2 o1 cl.length o2 hd.length, shO g4 o1 cl.length o2 hd.length])) (show List.Perm (shO g2 o1 cl.length o2 hd.length :: shO g4 o1 cl.length o2 hd.length :: (h1 ++ h2)) _ from (A6 fun p => by simp only [List.countP_append, List.countP_cons, List.countP_nil]; omega)) ?_; refine iW g1 (iW gg2 ?_); exact C7 (((cl, o1), (hd, o2)) : (List Ln × OutC) × (List Ln × OutC)) (fun a w9 ha hw9 => I3 (cs := #[.slice o1.1 cl.length o1.2, .slice o2.1 hd.length o2.2]) (v1 := .nilIface) rfl rfl rfl G1 v8 rfl m0 a w9 ha.at_ hw9) rfl ⟨fun h => (by cases h), fun t h => (by cases h; exact ⟨rfl, rfl⟩), by show cl.length ≤ 1000; omega, by show hd.length ≤ 1000; omega, hla⟩ nK mC
    have hb3' := hb3; try simp at hb3'
    have hR9 := ij3 he hi hs (fun e => hb3 e.2); refine i9 (i2 (i3 ?_)); refine t5 _ rfl rfl (fun _ => N2 ..) (b6 rfl ?_); refine t7 ((i + 2 : Nat) : Int) rfl rfl rfl (by push_cast; rfl) p8 ?_; refine t5 _ rfl rfl (fun _ => B5 ..) (iU rfl ⟨_, underlying140, rfl⟩ rfl (l6 (cs := #[.slice none 0 0, .slice none 0 0]) rfl rfl (.swap _ _ _) v8 (by rfl) (by rfl) ?_)); refine c8 rfl (c9 (J0 (D6 (w8 (D6 ?_))))); have hR0 : R = (none, i + 2) := hR9; subst hR0; refine r8 (α := Ln) ?_; refine H6 (Fs := ([] : List Ln).map Ln.row) (by intro F hF; simp at hF) ?_; exact C7 ((([], (none, 0)), ([], (none, 0))) : (List Ln × OutC) × (List Ln × OutC)) (fun a w9 ha hw9 => I3 (cs := #[.slice none 0 0, .slice none 0 0]) (v1 := wrV (i + 2) 2) rfl rfl rfl G1 v8 rfl m0 a w9 ha.at_ hw9) rfl ⟨fun _ => ⟨rfl, rfl⟩, fun t h => (by cases h), Nat.zero_le _, Nat.zero_le _, fun x h => by cases h⟩ nK mC
   intro hg1; have hg1' := hg1; try simp at hg1'
   have hn2 : ¬ i + 2 = L.length := fun e => by
     rw [decide_eq_true (show (i : Int) = (L.length : Int) - 2 by omega)] at hg1; exact absurd hg1 (by decide)
   refine q7 hg1 (q7 hg1 (q7 hg1 (q7 hg1 (q7 hg1 (q7 hg1 ?_))))); refine p_f rfl rfl (bf2 hg1) rfl ?_; refine c9 (c_f rfl rfl ?_); have hR9 := ij3 he hi hs (fun e => hn2 e.1); refine i9 (i2 (i3 ?_)); refine t5 _ rfl rfl (fun _ => N2 ..) (b6 rfl ?_); refine t7 ((i + 2 : Nat) : Int) rfl rfl rfl (by push_cast; rfl) p8 ?_; refine t5 _ rfl rfl (fun _ => B5 ..) (iU rfl ⟨_, underlying140, rfl⟩ rfl (l6 (cs := #[.slice none 0 0, .slice none 0 0]) rfl rfl (.swap _ _ _) v8 (by rfl) (by rfl) ?_)); refine c8 rfl (c9 (J0 (D6 (w8 (D6 ?_))))); have hR0 : R = (none, i + 2) := hR9; subst hR0; refine r8 (α := Ln) ?_; refine H6 (Fs := ([] : List Ln).map Ln.row) (by intro F hF; simp at hF) ?_; exact C7 ((([], (none, 0)), ([], (none, 0))) : (List Ln × OutC) × (List Ln × OutC)) (fun a w9 ha hw9 => I3 (cs := #[.slice none 0 0, .slice none 0 0]) (v1 := wrV (i + 2) 2) rfl rfl rfl G1 v8 rfl m0 a w9 ha.at_ hw9) rfl ⟨fun _ => ⟨rfl, rfl⟩, fun t h => (by cases h), Nat.zero_le _, Nat.zero_le _, fun x h => by cases h⟩ nK mC
  have hb2' := hb2; try simp at hb2'
  have hs : ¬ (L.getD i default) = wFinis := hb2; refine i9 (i2 (i3 (b6 rfl ?_))); refine i8 vX rfl rfl (uU (L.getD i default) (by omega)) (hpR := shO g4 o1 cl.length o2 hd.length :: shO g2 (none, 0) 0 (none, 0) 0 :: (h1 ++ h2)) (.refl _) tK fun y9 hy9 => ?_; obtain ⟨x9, he9, ok9⟩ := y9; have hy9 : parseT (splitB 32 (L.getD i default)) = if ok9 = true then some (he9, x9.p) else none := hy9; refine b6 rfl (j7 rfl rfl rfl (j7 rfl rfl rfl (j7 rfl rfl rfl ?_))); refine q6 rfl (fun _ => z9 _) fun g8 => l6 (cs := #[str x9.1, str x9.2.1, str x9.2.2.1, .slice x9.2.2.2.a x9.2.2.2.l.length x9.2.2.2.c]) rfl rfl (.refl _) k4 (by rfl) (by rfl) ?_; refine c8 rfl (c8 rfl (c9 ?_)); refine I6 ⟨fun _ : Unit => ok9 = true ∧ (he9 = false → hd = []), fun _ => [(2, .pointer (c5 g2)), (4, .pointer (c5 g4)), (5, .slice (c5 gw) L.length L.length), (17, .slice (c5 gw) (L.length - 1) L.length), (18, int (L.length - 1 : Nat)), (19, int i), (8, .pointer (c5 g8)), (9, .bool he9)], fun _ => shO g4 o1 cl.length o2 hd.length :: shO g2 (none, 0) 0 (none, 0) 0 :: (h1 ++ h2), fun _ => [Blk g8 (Obj.cells #[str x9.1, str x9.2.1, str x9.2.2.1, .slice x9.2.2.2.a x9.2.2.2.l.length x9.2.2.2.c] C2 (0, 0)), x9.row, Row (c5 gw) (rows L), Row (c5 gw) (rows (L.take (L.length - 1))), innersF cl Ln.row, innersF hd Ln.row]⟩ ?_ ?_
  ·skip
   refine d7 (B4 (d4 (b6 rfl (I4 rfl rfl (b6 rfl ?_))))); refine v4 rfl rfl ?_ ?_
   ·intro hg2; have hg2' := hg2; try simp at hg2'
    have hok : ok9 = true := by simpa using hg2
    refine k9 hg2 (b6 rfl (k9 hg2 (I4 rfl rfl (k9 hg2 (b6 rfl ?_))))); refine v4 rfl rfl ?_ ?_
    ·intro hg3; have hg3' := hg3; try simp at hg3'
     have hhe : he9 = false := by simpa using hg3
     refine k9 hg3 ?_
     first | refine a6 ⟨_, 1, none⟩ rfl rfl A5 rfl ?_ | refine a6 _ rfl rfl A5 rfl ?_
     refine k9 hg3 (a7 (v := .slice o2.1 hd.length o2.2) rfl i7 rfl (d5 m0 rfl) (k9 hg3 (j9 rfl C4 rfl ?_))); refine k9 hg3 (cR rfl rfl rfl (k9 hg2 ?_)); refine p_t rfl rfl (bt1 hg3) rfl (p_f rfl rfl (bf1 hg2) rfl (c9 ?_))
     first | refine k6 rfl (fun hb4 => ?_) (fun hb4 => ?_) | refine i6 rfl (fun hb4 => ?_) (fun hb4 => ?_)
     ·have hb4' := hb4; try simp at hb4'
      have hR9 := rd_late he hi hs (by rw [hy9, hok, hhe]; rfl) (fun e => by have := congrArg List.length e; rw [List.length_map, List.length_nil] at this; omega); refine i3 (t5 _ rfl rfl (fun _ => N2 ..) (b6 rfl ?_)); refine t7 ((i + 1 : Nat) : Int) rfl rfl rfl (by push_cast; rfl) p8 ?_; refine t5 _ rfl rfl (fun _ => B5 ..) (iU rfl ⟨_, underlying140, rfl⟩ rfl (l6 (cs := #[.slice none 0 0, .slice none 0 0]) rfl rfl (.swap _ _ _) v8 (by rfl) (by rfl) ?_)); refine c8 rfl (c9 (J0 (D6 (w8 (D6 ?_))))); have hR0 : R = (none, i + 1) := hR9; subst hR0; refine r8 (α := Ln) ?_; refine H6 (Fs := ([] : List Ln).map Ln.row) (by intro F hF; simp at hF) ?_; exact C7 ((([], (none, 0)), ([], (none, 0))) : (List Ln × OutC) × (List Ln × OutC)) (fun a w9 ha hw9 => I3 (cs := #[.slice none 0 0, .slice none 0 0]) (v1 := wrV (i + 1) 2) rfl rfl rfl G1 v8 rfl m0 a w9 ha.at_ hw9) rfl ⟨fun _ => ⟨rfl, rfl⟩, fun t h => (by cases h), Nat.zero_le _, Nat.zero_le _, fun x h => by cases h⟩ nK mC
     have hb4' := hb4; try simp at hb4'
     refine i9 ?_; exact D0 _ () ⟨hok, fun _ => List.eq_nil_of_length_eq_zero (by omega)⟩ mC (.refl _) mC
    intro hg3; have hg3' := hg3; try simp at hg3'
    have hhe : he9 = true := by simpa using hg3
    refine q7 hg3 (q7 hg3 (q7 hg3 (q7 hg3 (k9 hg2 ?_)))); refine p_f rfl rfl (bf2 hg3) rfl (p_f rfl rfl (bf1 hg2) rfl ?_); refine c9 (c_f rfl rfl (i9 ?_)); exact D0 _ () ⟨hok, fun h => by rw [hhe] at h; cases h⟩ mC (.refl _) mC
   intro hg2; have hg2' := hg2; try simp at hg2'
   have hok : ok9 = false := by simpa using hg2
   refine q7 hg2 (q7 hg2 (q7 hg2 (N9 rfl rfl rfl rfl rfl rfl (N9 rfl rfl rfl rfl rfl rfl (N9 rfl rfl rfl rfl rfl rfl (N9 rfl rfl rfl rfl rfl rfl (q7 hg2 ?_))))))); refine p_t rfl rfl (bt2 hg2) rfl ?_; refine c9 (c_t rfl rfl ?_); have hR9 := rd_bad he hi hs (by rw [hy9, hok]; rfl); refine i3 (t5 _ rfl rfl (fun _ => N2 ..) (b6 rfl ?_)); refine t7 ((i + 1 : Nat) : Int) rfl rfl rfl (by push_cast; rfl) p8 ?_; refine t5 _ rfl rfl (fun _ => B5 ..) (iU rfl ⟨_, underlying140, rfl⟩ rfl (l6 (cs := #[.slice none 0 0, .slice none 0 0]) rfl rfl (.swap _ _ _) v8 (by rfl) (by rfl) ?_)); refine c8 rfl (c9 (J0 (D6 (w8 (D6 ?_))))); have hR0 : R = (none, i + 1) := hR9; subst hR0; refine r8 (α := Ln) ?_; refine H6 (Fs := ([] : List Ln).map Ln.row) (by intro F hF; simp at hF) ?_; exact C7 ((([], (none, 0)), ([], (none, 0))) : (List Ln × OutC) × (List Ln × OutC)) (fun a w9 ha hw9 => I3 (cs := #[.slice none 0 0, .slice none 0 0]) (v1 := wrV (i + 1) 2) rfl rfl rfl G1 v8 rfl m0 a w9 ha.at_ hw9) rfl ⟨fun _ => ⟨rfl, rfl⟩, fun t h => (by cases h), Nat.zero_le _, Nat.zero_le _, fun x h => by cases h⟩ nK mC
  intro _ hq9; obtain ⟨hok, hhd⟩ := hq9; refine i3 (b6 rfl (c9 ?_))
  first | refine k6 rfl (fun hb5 => ?_) (fun hb5 => ?_) | refine i6 rfl (fun hb5 => ?_) (fun hb5 => ?_)
  ·have hb5' := hb5; try simp at hb5'
   refine d4 ?_
   first | refine a6 ⟨_, 1, none⟩ rfl rfl A5 rfl ?_ | refine a6 _ rfl rfl A5 rfl ?_
   refine a7 (v := .slice o2.1 hd.length o2.2) rfl i7 rfl (d5 m0 rfl) (u0 (cs := El.cells x9) rfl t4 k4 rfl rfl (bD (o := 0) mB (dR (List.append_nil _).symm)) (l9 _ rfl rfl (fun _ => dW ..) fun gS => A8 (rows [(x9 : Ln)]) (List.prefix_refl _) ?_)); refine D9 (hp' := shO g4 o1 cl.length o2 hd.length :: shO g2 (none, 0) 0 (none, 0) 0 :: h1) (hd.length + 1) (rows (hd ++ [x9])) iP rfl rfl rfl gg2 (show List.Perm (shO g4 o1 cl.length o2 hd.length :: shO g2 (none, 0) 0 (none, 0) 0 :: (h1 ++ h2)) (h2 ++ (shO g4 o1 cl.length o2 hd.length :: shO g2 (none, 0) 0 (none, 0) 0 :: h1)) from (A6 fun p => by simp only [List.countP_append, List.countP_cons, List.countP_nil]; omega)) (Src.row (news := rows [(x9 : Ln)]) (m := 1) m0 rfl (D4 _) (by decide)) rfl (v7 hd [x9]).symm (by unfold maxLen; omega) (by omega) fun A' c' og' hG' => ?_
   first | refine a6 ⟨_, 1, none⟩ rfl rfl A5 rfl ?_ | refine a6 _ rfl rfl A5 rfl ?_
   refine B0 (hp' := og' ++ (shO g2 (none, 0) 0 (none, 0) 0 :: h1)) rfl rfl (show List.Perm (og' ++ (shO g4 o1 cl.length o2 hd.length :: shO g2 (none, 0) 0 (none, 0) 0 :: h1)) (shO g4 o1 cl.length o2 hd.length :: (og' ++ (shO g2 (none, 0) 0 (none, 0) 0 :: h1))) from (A6 fun p => by simp only [List.countP_append, List.countP_cons, List.countP_nil]; omega)) iO (by rfl) (by rfl) ?_; refine lP (aX (ps := hd) (f := Ln.row) (p := x9) mB mB) ?_; have hxy : (hd ++ [x9]).length = hd.length + 1 := by simp
   rw [← hxy] at hG'; refine b5 (v5 (i2 (d4 ?_))); refine t7 _ rfl rfl rfl rfl p8 ?_; refine b6 rfl (b5 ?_); have hpx : parseT (splitB 32 (L.getD i default)) = some (true, x9.p) := by rw [hy9, hok]; simp [hb5]
   have he2 := rd_hea he hi hs hpx; refine Q5 (hp' := shO g4 o1 cl.length (A', c') (hd ++ [x9]).length :: shO g2 (none, 0) 0 (none, 0) 0 :: (h1 ++ og')) (show List.Perm (shO g4 o1 cl.length (A', c') (hd.length + 1) :: (og' ++ (shO g2 (none, 0) 0 (none, 0) 0 :: h1))) _ from by rw [hxy]; exact (A6 fun p => by simp only [List.countP_append, List.countP_cons, List.countP_nil]; omega)) ?_; exact again _ (⟨i + 1, cl, o1, h1, hd ++ [x9], (A', c'), og'⟩ : Ls) ⟨by show rdF (i + 1) (L.drop (i + 1)) (cl.map Ln.p) ((hd ++ [x9]).map Ln.p) = R; rw [List.map_append]; exact he2, hi, g1, hG', by show cl.length ≤ i + 1; omega, by show (hd ++ [x9]).length ≤ i + 1; omega, yX hla (by have h9 := also_le hpx; have h8 : x9.p.2.2.2.length = x9.2.2.2.l.length := rfl; have h7 := N0 32 (L.getD i default); have h6 : (L.getD i default).count 32 ≤ (L.getD i default).length := List.count_le_length; omega)⟩ (z8 (by omega)) mC (.refl _) mC
  have hb5' := hb5; try simp at hb5'
  refine d4 ?_
  first | refine a6 ⟨_, 0, none⟩ rfl rfl t6 rfl ?_ | refine a6 _ rfl rfl t6 rfl ?_
  refine a7 (v := .slice o1.1 cl.length o1.2) rfl i7 rfl (d5 m0 rfl) (u0 (cs := El.cells x9) rfl t4 k4 rfl rfl (bD (o := 0) mB (dR (List.append_nil _).symm)) (l9 _ rfl rfl (fun _ => dW ..) fun gS => A8 (rows [(x9 : Ln)]) (List.prefix_refl _) ?_)); refine D9 (hp' := shO g4 o1 cl.length o2 hd.length :: shO g2 (none, 0) 0 (none, 0) 0 :: h2) (cl.length + 1) (rows (cl ++ [x9])) iP rfl rfl rfl g1 (show List.Perm (shO g4 o1 cl.length o2 hd.length :: shO g2 (none, 0) 0 (none, 0) 0 :: (h1 ++ h2)) (h1 ++ (shO g4 o1 cl.length o2 hd.length :: shO g2 (none, 0) 0 (none, 0) 0 :: h2)) from (A6 fun p => by simp only [List.countP_append, List.countP_cons, List.countP_nil]; omega)) (Src.row (news := rows [(x9 : Ln)]) (m := 1) m0 rfl (D4 _) (by decide)) rfl (v7 cl [x9]).symm (by unfold maxLen; omega) (by omega) fun A' c' og' hG' => ?_
  first | refine a6 ⟨_, 0, none⟩ rfl rfl t6 rfl ?_ | refine a6 _ rfl rfl t6 rfl ?_
  refine B0 (hp' := og' ++ (shO g2 (none, 0) 0 (none, 0) 0 :: h2)) rfl rfl (show List.Perm (og' ++ (shO g4 o1 cl.length o2 hd.length :: shO g2 (none, 0) 0 (none, 0) 0 :: h2)) (shO g4 o1 cl.length o2 hd.length :: (og' ++ (shO g2 (none, 0) 0 (none, 0) 0 :: h2))) from (A6 fun p => by simp only [List.countP_append, List.countP_cons, List.countP_nil]; omega)) iO (by rfl) (by rfl) ?_; refine lP (aX (ps := cl) (f := Ln.row) (p := x9) mB mB) ?_; have hxy : (cl ++ [x9]).length = cl.length + 1 := by simp
  rw [← hxy] at hG'; refine b5 (v5 (i2 (d4 ?_))); refine t7 _ rfl rfl rfl rfl p8 ?_; refine b6 rfl (b5 ?_); have hpx : parseT (splitB 32 (L.getD i default)) = some (false, x9.p) := by rw [hy9, hok]; simp [hb5]
  have he2 := rd_cls he hi hs hpx (by rw [hhd (by simpa using hb5)]; rfl); refine Q5 (hp' := shO g4 (A', c') (cl ++ [x9]).length o2 hd.length :: shO g2 (none, 0) 0 (none, 0) 0 :: (og' ++ h2)) (show List.Perm (shO g4 (A', c') (cl.length + 1) o2 hd.length :: (og' ++ (shO g2 (none, 0) 0 (none, 0) 0 :: h2))) _ from by rw [hxy]; exact (A6 fun p => by simp only [List.countP_append, List.countP_cons, List.countP_nil]; omega)) ?_; exact again _ (⟨i + 1, cl ++ [x9], (A', c'), og', hd, o2, h2⟩ : Ls) ⟨by show rdF (i + 1) (L.drop (i + 1)) ((cl ++ [x9]).map Ln.p) (hd.map Ln.p) = R; rw [List.map_append]; exact he2, hi, hG', gg2, by show (cl ++ [x9]).length ≤ i + 1; omega, by show hd.length ≤ i + 1; omega, hla⟩ (z8 (by omega)) mC (.refl _) mC
 have hb1' := hb1; try simp at hb1'
 have hi : i + 1 = L.length := by omega
 refine q9 (C3 (r7 (i2 (i3 ?_)))); refine t5 _ rfl rfl (fun _ => N2 ..) (b6 rfl (j9 rfl j6 rfl (t5 _ rfl rfl (fun _ => B5 ..) (iU rfl ⟨_, underlying140, rfl⟩ rfl (l6 (cs := #[.slice none 0 0, .slice none 0 0]) rfl rfl (.swap _ _ _) v8 (by rfl) (by rfl) ?_))))); refine c8 rfl (c9 (k8 ?_)); have hR0 : R = (none, L.length) := rd_end he hi; subst hR0; refine r8 (α := Ln) ?_; refine H6 (Fs := ([] : List Ln).map Ln.row) (by intro F hF; simp at hF) ?_; exact C7 ((([], (none, 0)), ([], (none, 0))) : (List Ln × OutC) × (List Ln × OutC)) (fun a w9 ha hw9 => I3 (cs := #[.slice none 0 0, .slice none 0 0]) (v1 := wrV (L.length) 2) rfl rfl rfl G1 v8 rfl m0 a w9 ha.at_ hw9) rfl ⟨fun _ => ⟨rfl, rfl⟩, fun t h => (by cases h), Nat.zero_le _, Nat.zero_le _, fun x h => by cases h⟩ nK mC
abbrev BlR := Option (List Cl × List PH) × Nat
def blV (R : BlR) : Value := match R.1 with
  | none => wrV R.2 3
  | some _ => .nilIface
abbrev TRs := List Cl × OutC × List Hd × OutC
structure BlOK (R : BlR) (y : TRs) : Prop where
  no : R.1 = none → y.1 = [] ∧ y.2.2.1 = []
  ye : ∀ t, R.1 = some t → y.1 = t.1 ∧ y.2.2.1.map Hd.p = t.2
  n1 : y.1.length ≤ 1000
  n2 : y.2.2.1.length ≤ 1000
  na : ∀ h ∈ y.2.2.1, h.2.2.2.l.length ≤ 1000
  c1 : y.1.length ≤ y.2.1.2
  c2 : y.2.2.1.length ≤ y.2.2.2.2
abbrev tpB (g : Nat) (A : Option Addr) (n c : Nat) (B : Option Addr) (m k : Nat) : Nat × Obj := (g, .cells #[.slice A n c, .slice B m k] r5 (0, 0))
abbrev hpB (g : Nat) (w : Str) (cl se : Int) (A : Option Addr) (n c : Nat) : Nat × Obj := (g, .cells #[str w, int cl, int se, .slice A n c] C1 (0, 0))
section
variable {C H : List PL} {k : Nat} {R : BlR}
theorem bc_bad {acc : List Cl} {R : Option (List Cl) × Nat} (h : trbC C (C.drop k) k acc = R) (hk : k < C.length) (hb : ¬ (C.getD k default).2.1 = [] ∧ findP C (C.getD k default).2.1 < 0) : R = (none, k + 1) := by
  rw [I9 hk, trbC, if_pos hb] at h; exact h.symm
theorem bc_ok {acc : List Cl} {R : Option (List Cl) × Nat} (h : trbC C (C.drop k) k acc = R) (hk : k < C.length) (hb : ¬ (¬ (C.getD k default).2.1 = [] ∧ findP C (C.getD k default).2.1 < 0)) : trbC C (C.drop (k + 1)) (k + 1) (acc ++ [((C.getD k default).1, findP C (C.getD k default).2.1)]) = R := by
  rw [I9 hk, trbC, if_neg hb] at h; exact h
abbrev HBad (C H : List PL) (x : PL) : Prop := (¬ x.2.1 = [] ∧ findP C x.2.1 < 0) ∨ (¬ x.2.2.1 = [] ∧ findP H x.2.2.1 < 0)
theorem hz6 {acc : List PH} {R : Option (List PH) × Nat} (h : trbH C H (H.drop k) k acc = R) (hk : k < H.length) (hb : HBad C H (H.getD k default)) : R = (none, C.length + k + 1) := by
  rw [I9 hk, trbH, if_pos hb] at h; exact h.symm
theorem bh_alo {acc : List PH} {R : Option (List PH) × Nat} (h : trbH C H (H.drop k) k acc = R) (hk : k < H.length) (hb : ¬ HBad C H (H.getD k default)) (ha : aloE H (H.getD k default).2.2.2 [] = none) : R = (none, C.length + k + 1) := by
  rw [I9 hk, trbH, if_neg hb, ha] at h; exact h.symm
theorem bh_ok {acc : List PH} {l : List Int} {R : Option (List PH) × Nat} (h : trbH C H (H.drop k) k acc = R) (hk : k < H.length) (hb : ¬ HBad C H (H.getD k default)) (ha : aloE H (H.getD k default).2.2.2 [] = some l) : trbH C H (H.drop (k + 1)) (k + 1) (acc ++ [((H.getD k default).1, findP C (H.getD k default).2.1, findP H (H.getD k default).2.2.1, l)]) = R := by
  rw [I9 hk, trbH, if_neg hb, ha] at h; exact h
theorem al_bad {l : List Str} {j : Nat} {acc : List Int} {R : Option (List Int)} (h : aloE H (l.drop j) acc = R) (hj : j < l.length) (hb : findP H (l.getD j default) < 0) : R = none := by
  rw [I9 hj, aloE, if_pos hb] at h; exact h.symm
theorem al_ok {l : List Str} {j : Nat} {acc : List Int} {R : Option (List Int)} (h : aloE H (l.drop j) acc = R) (hj : j < l.length) (hb : ¬ findP H (l.getD j default) < 0) : aloE H (l.drop (j + 1)) (acc ++ [findP H (l.getD j default)]) = R := by
  rw [I9 hj, aloE, if_neg hb] at h; exact h
end
theorem ij9 {p : Prop} [Decidable p] (h : (decide (¬ p) == true) = true) : ¬ p := of_decide_eq_true (eq_of_beq h)
theorem ix3 {p : Prop} [Decidable p] (h : (decide (¬ p) == true) = false) : p := Classical.byContradiction fun e => by rw [decide_eq_true e] at h; exact absurd h (by decide)
theorem nl_of {p : Prop} [Decidable p] (h : (decide p == false) = true) : ¬ p := of_decide_eq_false (eq_of_beq h)
theorem ls_of {p : Prop} [Decidable p] (h : (decide p == false) = false) : p := Classical.byContradiction fun e => by rw [decide_eq_false e] at h; exact absurd h (by decide)
set_option maxHeartbeats 4000000 in
theorem vG {A B : Option Addr} {ca cb : Nat} (cl hd : List Ln) (hcl : cl.length ≤ 1000) (hhl : hd.length ≤ 1000) (hha : ∀ x ∈ hd, x.2.2.2.l.length ≤ 1000) : Meets prog U4 [.agg #[.slice A cl.length ca, .slice B hd.length cb]] { LI := [Row A (rows cl), Row B (rows hd), innersF hd Ln.row], inv := fun y : TRs => BlOK (trbT (cl.map Ln.p) (hd.map Ln.p)) y, val := fun y => .tuple #[.agg #[.slice y.2.1.1 y.1.length y.2.1.2, .slice y.2.2.2.1 y.2.2.1.length y.2.2.2.2], blV (trbT (cl.map Ln.p) (hd.map Ln.p))], LO := fun y => [Row y.2.1.1 (rows y.1), RowsF y.2.2.2.1 y.2.2.1 Hd.row] } := by
 obtain ⟨R, hR⟩ : ∃ R, trbT (cl.map Ln.p) (hd.map Ln.p) = R := ⟨_, rfl⟩; rw [hR]; obtain ⟨R1, hR1⟩ : ∃ R, trbC (cl.map Ln.p) (cl.map Ln.p) 0 [] = R := ⟨_, rfl⟩; refine i5 mX rfl t3 fun w0 => i3 (O9 rfl rfl fun gB => q6 rfl (fun _ => A1 _) fun g2 => ?_); refine c8 rfl (n9 ?_); refine q6 rfl (fun _ => A1 _) fun g4 => ?_; refine c9 (bT ?_); refine bV (hp' := [(gB, Obj.cells #[.slice A cl.length ca, .slice B hd.length cb] I2 (0, 0)), tpB g4 none 0 0 none 0 0, tpB g2 none 0 0 none 0 0]) (List.perm_append_comm (l₁ := [_, _]) (l₂ := [_])) ?_; refine B4 (d4 ?_)
 first | refine a6 ⟨_, 0, none⟩ rfl rfl t6 rfl ?_ | refine a6 _ rfl rfl t6 rfl ?_
 first | refine a7 rfl i7 rfl (d5 mB rfl) ?_ | refine a7 rfl i7 rfl (d3 mB rfl) ?_ | refine a7 rfl i7 rfl (b7 mB (b2 (by omega) rfl)) ?_ | refine a7 rfl i7 rfl (b8 mB (rows_get (by omega) rfl)) ?_ | refine a7 rfl i7 rfl (d6 mB rfl) ?_
 refine j9 rfl C4 rfl ?_; refine b6 rfl (c9 (j4 ?_)); refine t8 (β := Nat × List Cl × OutC × Hp) ⟨fun z => z.1 ≤ cl.length ∧ trbC (cl.map Ln.p) ((cl.map Ln.p).drop z.1) z.1 z.2.1 = R1 ∧ Grow Q3 2 z.2.2.1.1 z.2.1.length z.2.2.1.2 (rows z.2.1) z.2.2.2 ∧ z.2.1.length = z.1, fun z => [(1, .pointer (c5 gB)), (2, .pointer (c5 g2)), (4, .pointer (c5 g4)), (15, .slice A cl.length ca), (16, int cl.length), (17, int z.1)], fun z => tpB g4 z.2.2.1.1 z.2.1.length z.2.2.1.2 none 0 0 :: tpB g2 none 0 0 none 0 0 :: z.2.2.2, fun _ => [Blk gB (Obj.cells #[.slice A cl.length ca, .slice B hd.length cb] I2 (0, 0)), Row A (rows cl), Row B (rows hd), innersF hd Ln.row]⟩ (fun z => cl.length - z.1) (0, [], (none, 0), []) ⟨Nat.zero_le _, hR1, Grow.nil _ _, rfl⟩ mC (.refl _) mC fun z hz => ?_; obtain ⟨k, acc, ⟨oA, oc⟩, og⟩ := z; obtain ⟨hk, he, hG, hal⟩ := hz; simp only at hk he hG hal; have hcd : (cl.map Ln.p).length = cl.length := List.length_map _; refine i3 (z6 rfl rfl rfl (c9 (d7 ?_)))
 first | refine k6 rfl (fun hb1 => ?_) (fun hb1 => ?_) | refine i6 rfl (fun hb1 => ?_) (fun hb1 => ?_)
 ·have hb1' := hb1; try simp at hb1'
  have hk1 : k < cl.length := by omega
  have hxk : (cl.map Ln.p).getD k default = (cl.getD k default).p := qS hk1; have hfb := wO (cl.map Ln.p) (cl.getD k default).2.1; rw [hcd] at hfb; refine i9 (i2 (d7 (j4 (i3 (b6 rfl ?_))))); refine q8 (α := Ln) cl k rfl C4 k4 rfl rfl rfl mB rfl hk1 (by decide) (u0 (cs := El.cells (cl.getD k default)) rfl t4 k4 rfl rfl (r4 mB (u5 hk1)) (q6 rfl (fun _ => z9 _) fun g6 => c8 rfl (l6 (cs := #[str (cl.getD k default).1, str (cl.getD k default).2.1, str (cl.getD k default).2.2.1, .slice (cl.getD k default).2.2.2.a (cl.getD k default).2.2.2.l.length (cl.getD k default).2.2.2.c]) rfl rfl (.refl _) k4 (by rfl) (by rfl) ?_))); refine c9 (d7 (B4 ?_)); refine G4 (og) ([tpB g4 oA acc.length oc none 0 0, tpB g2 none 0 0 none 0 0]) (List.perm_append_comm (l₁ := [_, _]) (l₂ := og)) 9 [] mixed (by decide) (by decide) (by decide) rfl rfl rfl ?_
  apply j8 _ rfl rfl rfl
  ·intro w1
   first | refine a6 ⟨_, 0, none⟩ rfl rfl J8 rfl ?_ | refine a6 _ rfl rfl J8 rfl ?_
   refine b5 ?_; exact i1 rfl
  apply j8 _ rfl rfl rfl
  ·intro w1
   first | refine a7 rfl a9 rfl (d3 mB rfl) ?_ | refine a7 rfl a9 rfl (d5 mB rfl) ?_ | refine a7 rfl a9 rfl (b7 mB (b2 (by omega) rfl)) ?_ | refine a7 rfl a9 rfl (b8 mB (rows_get (by omega) rfl)) ?_ | refine a7 rfl a9 rfl (d6 mB rfl) ?_
   refine b5 ?_; exact i1 rfl
  apply j8 _ rfl rfl rfl
  ·intro w1
   first | refine a6 ⟨_, 0, none⟩ rfl rfl t6 rfl ?_ | refine a6 _ rfl rfl t6 rfl ?_
   refine b5 ?_; exact i1 rfl
  apply j8 _ rfl rfl rfl
  ·intro w1
   first | refine a7 rfl i7 rfl (d3 mB rfl) ?_ | refine a7 rfl i7 rfl (d5 mB rfl) ?_ | refine a7 rfl i7 rfl (b7 mB (b2 (by omega) rfl)) ?_ | refine a7 rfl i7 rfl (b8 mB (rows_get (by omega) rfl)) ?_ | refine a7 rfl i7 rfl (d6 mB rfl) ?_
   refine b5 ?_; exact i1 rfl
  apply j8 _ rfl rfl rfl
  ·intro w1
   first | refine a6 ⟨_, 1, none⟩ rfl rfl B7 rfl ?_ | refine a6 _ rfl rfl B7 rfl ?_
   refine b5 ?_; exact i1 rfl
  apply j8 _ rfl rfl rfl
  ·intro w1
   first | refine a7 rfl a9 rfl (d3 mB rfl) ?_ | refine a7 rfl a9 rfl (d5 mB rfl) ?_ | refine a7 rfl a9 rfl (b7 mB (b2 (by omega) rfl)) ?_ | refine a7 rfl a9 rfl (b8 mB (rows_get (by omega) rfl)) ?_ | refine a7 rfl a9 rfl (d6 mB rfl) ?_
   refine b5 ?_; exact i1 rfl
  refine k7 (fun w1 => i8 W3 rfl rfl (V3 cl (cl.getD k default).2.1 (by omega)) n4 mC fun _ _ => (q_z rfl)) ?_; refine k7 (fun w1 => t5 _ rfl rfl (fun _ => M3 ..) (q_z rfl)) ?_; refine iq7 ⟨Nat, fun _ => True, fun g => .pointer (c5 g), fun _ => [], fun g => [(g, Obj.cells #[str [], int 0] Q3 (0, 0))]⟩ rfl rfl rfl ?_ ?_
  ·intro w1; refine q6 rfl (fun _ => Z2 _) fun g7 => b5 ?_; exact H1 g7 tK (fun _ => rfl) (.refl _) tK
  refine u4 ⟨rfl, ?_⟩; intro g7 _; refine l6 (cs := #[str (cl.getD k default).1, int (findP (cl.map Ln.p) (cl.getD k default).2.1)]) rfl rfl (.refl _) u7 (by rfl) (by rfl) (c9 ?_); refine I6 ⟨fun _ : Unit => ¬ (¬ (cl.getD k default).2.1 = [] ∧ (findP (cl.map Ln.p) (cl.getD k default).2.1) < 0), fun _ => [(1, .pointer (c5 gB)), (2, .pointer (c5 g2)), (4, .pointer (c5 g4)), (15, .slice A cl.length ca), (16, int cl.length), (17, int k), (7, .pointer (c5 g7))], fun _ => tpB g4 oA acc.length oc none 0 0 :: tpB g2 none 0 0 none 0 0 :: og, fun _ => [Blk g7 (Obj.cells #[str (cl.getD k default).1, int (findP (cl.map Ln.p) (cl.getD k default).2.1)] Q3 (0, 0)), Blk gB (Obj.cells #[.slice A cl.length ca, .slice B hd.length cb] I2 (0, 0)), Row A (rows cl), Row B (rows hd), innersF hd Ln.row]⟩ ?_ ?_
  ·skip
   refine d7 (B4 ?_); refine bV (hp' := tpB g4 oA acc.length oc none 0 0 :: tpB g2 none 0 0 none 0 0 :: og) (List.perm_append_comm (l₁ := og) (l₂ := [_, _])) (d4 ?_)
   first | refine a6 ⟨_, 1, none⟩ rfl rfl B7 rfl ?_ | refine a6 _ rfl rfl B7 rfl ?_
   first | refine a7 rfl a9 rfl (d5 mB rfl) ?_ | refine a7 rfl a9 rfl (d3 mB rfl) ?_ | refine a7 rfl a9 rfl (b7 mB (b2 (by omega) rfl)) ?_ | refine a7 rfl a9 rfl (b8 mB (rows_get (by omega) rfl)) ?_ | refine a7 rfl a9 rfl (d6 mB rfl) ?_
   refine qN rfl rfl rfl (b6 rfl ?_); refine v4 rfl rfl ?_ ?_
   ·intro hg1; have hg1' := hg1; try simp at hg1'
    have hne : ¬ (cl.getD k default).2.1 = [] := ij9 hg1; refine k9 hg1 ?_
    first | refine a6 ⟨_, 1, none⟩ rfl rfl y5 rfl ?_ | refine a6 _ rfl rfl y5 rfl ?_
    refine k9 hg1 ?_
    first | refine a7 rfl a8 rfl (d5 mB rfl) ?_ | refine a7 rfl a8 rfl (d3 mB rfl) ?_ | refine a7 rfl a8 rfl (b7 mB (b2 (by omega) rfl)) ?_ | refine a7 rfl a8 rfl (b8 mB (rows_get (by omega) rfl)) ?_ | refine a7 rfl a8 rfl (d6 mB rfl) ?_
    refine k9 hg1 (z6 rfl rfl rfl ?_); refine p_t rfl rfl (bt1 hg1) rfl (c9 ?_)
    first | refine k6 rfl (fun hb2 => ?_) (fun hb2 => ?_) | refine i6 rfl (fun hb2 => ?_) (fun hb2 => ?_)
    ·have hb2' := hb2; try simp at hb2'
     have hR9 := bc_bad he (by omega) (by rw [hxk]; exact ⟨hne, hb2⟩); refine i3 (t5 _ rfl rfl (fun _ => E8 ..) (b6 rfl ?_)); refine t7 ((k + 1 : Nat) : Int) rfl rfl rfl (by push_cast; rfl) p8 ?_; refine t5 _ rfl rfl (fun _ => B5 ..) (iU rfl ⟨_, underlying140, rfl⟩ rfl (l6 (cs := #[.slice none 0 0, .slice none 0 0]) rfl rfl (.swap _ _ _) c7 (by rfl) (by rfl) ?_)); refine c8 rfl (c9 (J0 (D6 (w8 (D6 ?_))))); have hR0 : R = (none, k + 1) := (by rw [← hR]; unfold trbT; rw [hR1, hR9]); subst hR0; refine r8 (α := Cl) (r8 (α := Hd) ?_); refine H6 (Fs := ([] : List Hd).map Hd.row) (by intro F hF; simp at hF) ?_; refine R5 (A := none) (ps := ([] : List Hd)) (f := Hd.row) mB mB ?_; exact C7 (([], (none, 0), [], (none, 0)) : TRs) (fun a w9 ha hw9 => I3 (cs := #[.slice none 0 0, .slice none 0 0]) (v1 := wrV (k + 1) 3) rfl rfl rfl d9 c7 rfl m0 a w9 ha.at_ hw9) rfl ⟨fun _ => ⟨rfl, rfl⟩, fun t h => (by cases h), Nat.zero_le _, Nat.zero_le _, fun h9 h => (by cases h), Nat.zero_le _, Nat.zero_le _⟩ nK mC
    have hb2' := hb2; try simp at hb2'
    refine i9 ?_; exact D0 _ () (fun q => hb2 q.2) mC (.refl _) mC
   intro hg1; have hg1' := hg1; try simp at hg1'
   have hne : (cl.getD k default).2.1 = [] := ix3 hg1; refine q7 hg1 (q7 hg1 (q7 hg1 ?_)); refine p_f rfl rfl (bf2 hg1) rfl ?_; refine c9 (c_f rfl rfl (i9 ?_)); exact D0 _ () (fun q => q.1 hne) mC (.refl _) mC
  intro _ hok; simp only at hok; refine d4 ?_
  first | refine a6 ⟨_, 0, none⟩ rfl rfl j3 rfl ?_ | refine a6 _ rfl rfl j3 rfl ?_
  refine a7 (v := .slice oA acc.length oc) rfl b3 rfl (d5 m0 rfl) (u0 (cs := [str (cl.getD k default).1, int (findP (cl.map Ln.p) (cl.getD k default).2.1)]) rfl J7 u7 rfl rfl (bD (o := 0) mB (dR (List.append_nil _).symm)) (l9 _ rfl rfl (fun _ => iA ..) fun gS => A8 (rows [(((cl.getD k default).1, (findP (cl.map Ln.p) (cl.getD k default).2.1)) : Cl)]) (List.prefix_refl _) ?_)); refine D9 (hp' := [tpB g4 oA acc.length oc none 0 0, tpB g2 none 0 0 none 0 0]) (acc.length + 1) (rows (acc ++ [(((cl.getD k default).1, (findP (cl.map Ln.p) (cl.getD k default).2.1)) : Cl)])) jX rfl rfl rfl hG (show List.Perm (tpB g4 oA acc.length oc none 0 0 :: tpB g2 none 0 0 none 0 0 :: og) (og ++ [tpB g4 oA acc.length oc none 0 0, tpB g2 none 0 0 none 0 0]) from (A6 fun p => by simp only [List.countP_append, List.countP_cons, List.countP_nil]; omega)) (Src.row (news := rows [(((cl.getD k default).1, (findP (cl.map Ln.p) (cl.getD k default).2.1)) : Cl)]) (m := 1) m0 rfl (D4 _) (by decide)) rfl (v7 _ _).symm (by unfold maxLen; omega) (by omega) fun A' c' og' hG' => ?_
  first | refine a6 ⟨_, 0, none⟩ rfl rfl j3 rfl ?_ | refine a6 _ rfl rfl j3 rfl ?_
  refine B0 (hp' := og' ++ [tpB g2 none 0 0 none 0 0]) rfl rfl (show List.Perm (og' ++ [tpB g4 oA acc.length oc none 0 0, tpB g2 none 0 0 none 0 0]) (tpB g4 oA acc.length oc none 0 0 :: (og' ++ [tpB g2 none 0 0 none 0 0])) from (A6 fun p => by simp only [List.countP_append, List.countP_cons, List.countP_nil]; omega)) jW (by rfl) (by rfl) ?_; refine b5 (v5 (i2 (d4 ?_))); refine t7 _ rfl rfl rfl rfl p8 ?_; refine b6 rfl (b5 ?_); have hxy : (acc ++ [(((cl.getD k default).1, (findP (cl.map Ln.p) (cl.getD k default).2.1)) : Cl)]).length = acc.length + 1 := by simp
  rw [← hxy] at hG'; have he2 := bc_ok he (by omega) (by rw [hxk]; exact hok); rw [hxk] at he2; refine Q5 (hp' := tpB g4 A' (acc ++ [(((cl.getD k default).1, (findP (cl.map Ln.p) (cl.getD k default).2.1)) : Cl)]).length c' none 0 0 :: tpB g2 none 0 0 none 0 0 :: og') (show List.Perm (tpB g4 A' (acc.length + 1) c' none 0 0 :: (og' ++ [tpB g2 none 0 0 none 0 0])) _ from by rw [hxy]; exact (A6 fun p => by simp only [List.countP_append, List.countP_cons, List.countP_nil]; omega)) ?_; exact again _ (k + 1, acc ++ [(((cl.getD k default).1, (findP (cl.map Ln.p) (cl.getD k default).2.1)) : Cl)], (A', c'), og') ⟨hk1, he2, hG', by show (acc ++ [_]).length = k + 1; omega⟩ (z8 (by omega)) mC (.refl _) mC
 have hb1' := hb1; try simp at hb1'
 have hk1 : k = cl.length := by omega
 subst hk1; refine q9 (C3 (r7 (i2 (d7 (i3 ?_)))))
 first | refine a6 ⟨_, 1, none⟩ rfl rfl A5 rfl ?_ | refine a6 _ rfl rfl A5 rfl ?_
 first | refine a7 rfl i7 rfl (d5 mB rfl) ?_ | refine a7 rfl i7 rfl (d3 mB rfl) ?_ | refine a7 rfl i7 rfl (b7 mB (b2 (by omega) rfl)) ?_ | refine a7 rfl i7 rfl (b8 mB (rows_get (by omega) rfl)) ?_ | refine a7 rfl i7 rfl (d6 mB rfl) ?_
 refine j9 rfl C4 rfl ?_; refine b6 rfl (c9 (j4 ?_)); rw [List.drop_eq_nil_of_le (by rw [List.length_map]; exact Nat.le_refl _), trbC] at he; obtain ⟨cs, hcs⟩ : ∃ cs, acc = cs := ⟨_, rfl⟩; rw [hcs] at he hG hal ⊢; have hcl2 := hG.le; refine bV (hp' := og ++ [tpB g4 oA cs.length oc none 0 0, tpB g2 none 0 0 none 0 0]) (List.perm_append_comm (l₁ := [_, _]) (l₂ := og)) (lQ hG ?_); clear hG hcs; refine vU (Fs := ([] : List Hd).map Hd.row) (by intro F hF; simp at hF) ?_; obtain ⟨R2, hR2⟩ : ∃ R, trbH (cl.map Ln.p) (hd.map Ln.p) (hd.map Ln.p) 0 [] = R := ⟨_, rfl⟩; refine t8 (β := Nat × List Hd × OutC × Hp) ⟨fun z => z.1 ≤ hd.length ∧ trbH (cl.map Ln.p) (hd.map Ln.p) ((hd.map Ln.p).drop z.1) z.1 (z.2.1.map Hd.p) = R2 ∧ Grow C1 4 z.2.2.1.1 z.2.1.length z.2.2.1.2 (rows z.2.1) z.2.2.2 ∧ z.2.1.length = z.1 ∧ ∀ h ∈ z.2.1, h.2.2.2.l.length ≤ 1000, fun z => [(1, .pointer (c5 gB)), (2, .pointer (c5 g2)), (4, .pointer (c5 g4)), (51, .slice B hd.length cb), (52, int hd.length), (53, int z.1)], fun z => tpB g4 oA cs.length oc z.2.2.1.1 z.2.1.length z.2.2.1.2 :: tpB g2 none 0 0 none 0 0 :: z.2.2.2, fun z => [Blk gB (Obj.cells #[.slice A cl.length ca, .slice B hd.length cb] I2 (0, 0)), Row oA (rows cs), Row A (rows cl), Row B (rows hd), innersF hd Ln.row, innersF z.2.1 Hd.row]⟩ (fun z => hd.length - z.1) (0, [], (none, 0), []) ⟨Nat.zero_le _, hR2, Grow.nil _ _, rfl, fun h hh => by cases hh⟩ mC (.refl _) mC fun z hz => ?_; obtain ⟨k, acc, ⟨hA, hC⟩, h2⟩ := z; obtain ⟨hk, he2, hG, hal2, hna⟩ := hz; simp only at hk he2 hG hal2 hna; have hHd : (hd.map Ln.p).length = hd.length := List.length_map _; have hcd : (cl.map Ln.p).length = cl.length := List.length_map _; refine i3 (z6 rfl rfl rfl (c9 (d7 ?_)))
 first | refine k6 rfl (fun hb3 => ?_) (fun hb3 => ?_) | refine i6 rfl (fun hb3 => ?_) (fun hb3 => ?_)
 ·have hb3' := hb3; try simp at hb3'
  have hk1 : k < hd.length := by omega
  have hyk : (hd.map Ln.p).getD k default = (hd.getD k default).p := qS hk1; have hfb := wO (cl.map Ln.p) (hd.getD k default).2.1; have hfb2 := wO (hd.map Ln.p) (hd.getD k default).2.2.1; rw [hcd] at hfb; rw [hHd] at hfb2; have hya := hha _ (A9 hk1); refine i9 (i2 (d7 (j4 (i3 (b6 rfl ?_))))); refine q8 (α := Ln) hd k rfl C4 k4 rfl rfl rfl mB rfl hk1 (by decide) (u0 (cs := El.cells (hd.getD k default)) rfl t4 k4 rfl rfl (r4 mB (u5 hk1)) (q6 rfl (fun _ => z9 _) fun g9 => c8 rfl (l6 (cs := #[str (hd.getD k default).1, str (hd.getD k default).2.1, str (hd.getD k default).2.2.1, .slice (hd.getD k default).2.2.2.a (hd.getD k default).2.2.2.l.length (hd.getD k default).2.2.2.c]) rfl rfl (.refl _) k4 (by rfl) (by rfl) ?_))); refine c9 (d7 (B4 ?_)); refine G4 (h2) ([tpB g4 oA cs.length oc hA acc.length hC, tpB g2 none 0 0 none 0 0]) (List.perm_append_comm (l₁ := [_, _]) (l₂ := h2)) 14 [] mixed (by decide) (by decide) (by decide) rfl rfl rfl ?_
  apply j8 _ rfl rfl rfl
  ·intro w1
   first | refine a6 ⟨_, 0, none⟩ rfl rfl J8 rfl ?_ | refine a6 _ rfl rfl J8 rfl ?_
   refine b5 ?_; exact i1 rfl
  apply j8 _ rfl rfl rfl
  ·intro w1
   first | refine a7 rfl a9 rfl (d3 mB rfl) ?_ | refine a7 rfl a9 rfl (d5 mB rfl) ?_ | refine a7 rfl a9 rfl (b7 mB (b2 (by omega) rfl)) ?_ | refine a7 rfl a9 rfl (b8 mB (rows_get (by omega) rfl)) ?_ | refine a7 rfl a9 rfl (d6 mB rfl) ?_
   refine b5 ?_; exact i1 rfl
  apply j8 _ rfl rfl rfl
  ·intro w1
   first | refine a6 ⟨_, 0, none⟩ rfl rfl t6 rfl ?_ | refine a6 _ rfl rfl t6 rfl ?_
   refine b5 ?_; exact i1 rfl
  apply j8 _ rfl rfl rfl
  ·intro w1
   first | refine a7 rfl i7 rfl (d3 mB rfl) ?_ | refine a7 rfl i7 rfl (d5 mB rfl) ?_ | refine a7 rfl i7 rfl (b7 mB (b2 (by omega) rfl)) ?_ | refine a7 rfl i7 rfl (b8 mB (rows_get (by omega) rfl)) ?_ | refine a7 rfl i7 rfl (d6 mB rfl) ?_
   refine b5 ?_; exact i1 rfl
  apply j8 _ rfl rfl rfl
  ·intro w1
   first | refine a6 ⟨_, 1, none⟩ rfl rfl B7 rfl ?_ | refine a6 _ rfl rfl B7 rfl ?_
   refine b5 ?_; exact i1 rfl
  apply j8 _ rfl rfl rfl
  ·intro w1
   first | refine a7 rfl a9 rfl (d3 mB rfl) ?_ | refine a7 rfl a9 rfl (d5 mB rfl) ?_ | refine a7 rfl a9 rfl (b7 mB (b2 (by omega) rfl)) ?_ | refine a7 rfl a9 rfl (b8 mB (rows_get (by omega) rfl)) ?_ | refine a7 rfl a9 rfl (d6 mB rfl) ?_
   refine b5 ?_; exact i1 rfl
  refine k7 (fun w1 => i8 W3 rfl rfl (V3 cl (hd.getD k default).2.1 (by omega)) n4 mC fun _ _ => (q_z rfl)) ?_
  apply j8 _ rfl rfl rfl
  ·intro w1
   first | refine a6 ⟨_, 1, none⟩ rfl rfl A5 rfl ?_ | refine a6 _ rfl rfl A5 rfl ?_
   refine b5 ?_; exact i1 rfl
  apply j8 _ rfl rfl rfl
  ·intro w1
   first | refine a7 rfl i7 rfl (d3 mB rfl) ?_ | refine a7 rfl i7 rfl (d5 mB rfl) ?_ | refine a7 rfl i7 rfl (b7 mB (b2 (by omega) rfl)) ?_ | refine a7 rfl i7 rfl (b8 mB (rows_get (by omega) rfl)) ?_ | refine a7 rfl i7 rfl (d6 mB rfl) ?_
   refine b5 ?_; exact i1 rfl
  apply j8 _ rfl rfl rfl
  ·intro w1
   first | refine a6 ⟨_, 2, none⟩ rfl rfl G2 rfl ?_ | refine a6 _ rfl rfl G2 rfl ?_
   refine b5 ?_; exact i1 rfl
  apply j8 _ rfl rfl rfl
  ·intro w1
   first | refine a7 rfl a9 rfl (d3 mB rfl) ?_ | refine a7 rfl a9 rfl (d5 mB rfl) ?_ | refine a7 rfl a9 rfl (b7 mB (b2 (by omega) rfl)) ?_ | refine a7 rfl a9 rfl (b8 mB (rows_get (by omega) rfl)) ?_ | refine a7 rfl a9 rfl (d6 mB rfl) ?_
   refine b5 ?_; exact i1 rfl
  refine k7 (fun w1 => i8 W3 rfl rfl (V3 hd (hd.getD k default).2.2.1 (by omega)) n4 mC fun _ _ => (q_z rfl)) ?_; refine k7 (fun w1 => t5 _ rfl rfl (fun _ => U1 ..) (q_z rfl)) ?_; refine iq7 ⟨Nat, fun _ => True, fun g => .pointer (c5 g), fun _ => [], fun g => [hpB g [] 0 0 none 0 0]⟩ rfl rfl rfl ?_ ?_
  ·intro w1; refine q6 rfl (fun _ => E1 _) fun g10 => b5 ?_; exact H1 g10 tK (fun _ => rfl) (.refl _) tK
  refine u4 ⟨rfl, ?_⟩; intro g10 _; refine l6 (cs := #[str (hd.getD k default).1, int (findP (cl.map Ln.p) (hd.getD k default).2.1), int (findP (hd.map Ln.p) (hd.getD k default).2.2.1), .slice none 0 0]) rfl rfl (.refl _) l4 (by rfl) (by rfl) (c9 ?_); refine I6 ⟨fun _ : Unit => ¬ (HBad (cl.map Ln.p) (hd.map Ln.p) (hd.getD k default).p), fun _ => [(1, .pointer (c5 gB)), (2, .pointer (c5 g2)), (4, .pointer (c5 g4)), (51, .slice B hd.length cb), (52, int hd.length), (53, int k), (8, int k), (9, .pointer (c5 g9)), (10, .pointer (c5 g10))], fun _ => hpB g10 (hd.getD k default).1 (findP (cl.map Ln.p) (hd.getD k default).2.1) (findP (hd.map Ln.p) (hd.getD k default).2.2.1) none 0 0 :: tpB g4 oA cs.length oc hA acc.length hC :: tpB g2 none 0 0 none 0 0 :: h2, fun _ => [Blk g9 (Obj.cells #[str (hd.getD k default).1, str (hd.getD k default).2.1, str (hd.getD k default).2.2.1, .slice (hd.getD k default).2.2.2.a (hd.getD k default).2.2.2.l.length (hd.getD k default).2.2.2.c] C2 (0, 0)), Blk gB (Obj.cells #[.slice A cl.length ca, .slice B hd.length cb] I2 (0, 0)), Row oA (rows cs), Row A (rows cl), Row B (rows hd), innersF hd Ln.row, innersF acc Hd.row]⟩ ?_ ?_
  ·skip
   refine d7 ?_; refine bV (hp' := hpB g10 (hd.getD k default).1 (findP (cl.map Ln.p) (hd.getD k default).2.1) (findP (hd.map Ln.p) (hd.getD k default).2.2.1) none 0 0 :: tpB g4 oA cs.length oc hA acc.length hC :: tpB g2 none 0 0 none 0 0 :: h2) (show List.Perm (hpB g10 (hd.getD k default).1 (findP (cl.map Ln.p) (hd.getD k default).2.1) (findP (hd.map Ln.p) (hd.getD k default).2.2.1) none 0 0 :: (h2 ++ [tpB g4 oA cs.length oc hA acc.length hC, tpB g2 none 0 0 none 0 0])) (hpB g10 (hd.getD k default).1 (findP (cl.map Ln.p) (hd.getD k default).2.1) (findP (hd.map Ln.p) (hd.getD k default).2.2.1) none 0 0 :: tpB g4 oA cs.length oc hA acc.length hC :: tpB g2 none 0 0 none 0 0 :: h2) from (A6 fun p => by simp only [List.countP_append, List.countP_cons, List.countP_nil]; omega)) ?_; refine d4 ?_
   first | refine a6 ⟨_, 1, none⟩ rfl rfl B7 rfl ?_ | refine a6 _ rfl rfl B7 rfl ?_
   first | refine a7 rfl a9 rfl (d5 mB rfl) ?_ | refine a7 rfl a9 rfl (d3 mB rfl) ?_ | refine a7 rfl a9 rfl (b7 mB (b2 (by omega) rfl)) ?_ | refine a7 rfl a9 rfl (b8 mB (rows_get (by omega) rfl)) ?_ | refine a7 rfl a9 rfl (d6 mB rfl) ?_
   refine qN rfl rfl rfl (b6 rfl ?_); refine v4 rfl rfl ?_ ?_
   ·intro hg2; have hg2' := hg2; try simp at hg2'
    have hcn : ¬ (hd.getD k default).2.1 = [] := ij9 hg2; refine k9 hg2 ?_
    first | refine a6 ⟨_, 1, none⟩ rfl rfl m7 rfl ?_ | refine a6 _ rfl rfl m7 rfl ?_
    refine k9 hg2 ?_
    first | refine a7 rfl a8 rfl (d5 mB rfl) ?_ | refine a7 rfl a8 rfl (d3 mB rfl) ?_ | refine a7 rfl a8 rfl (b7 mB (b2 (by omega) rfl)) ?_ | refine a7 rfl a8 rfl (b8 mB (rows_get (by omega) rfl)) ?_ | refine a7 rfl a8 rfl (d6 mB rfl) ?_
    refine k9 hg2 (z6 rfl rfl rfl ?_); refine p_t rfl rfl (bt1 hg2) rfl (b6 rfl ?_); refine v4 rfl rfl ?_ ?_
    ·intro hg3; have hg3' := hg3; try simp at hg3'
     have hfc : ¬ (findP (cl.map Ln.p) (hd.getD k default).2.1) < 0 := nl_of hg3; refine k9 hg3 ?_
     first | refine a6 ⟨_, 2, none⟩ rfl rfl G2 rfl ?_ | refine a6 _ rfl rfl G2 rfl ?_
     refine k9 hg3 ?_
     first | refine a7 rfl a9 rfl (d5 mB rfl) ?_ | refine a7 rfl a9 rfl (d3 mB rfl) ?_ | refine a7 rfl a9 rfl (b7 mB (b2 (by omega) rfl)) ?_ | refine a7 rfl a9 rfl (b8 mB (rows_get (by omega) rfl)) ?_ | refine a7 rfl a9 rfl (d6 mB rfl) ?_
     refine k9 hg3 (qN rfl rfl rfl (k9 hg3 (b6 rfl ?_))); refine v4 rfl rfl ?_ ?_
     ·intro hg4; have hg4' := hg4; try simp at hg4'
      have hsn : ¬ (hd.getD k default).2.2.1 = [] := ij9 hg4; refine k9 hg4 ?_
      first | refine a6 ⟨_, 2, none⟩ rfl rfl n5 rfl ?_ | refine a6 _ rfl rfl n5 rfl ?_
      refine k9 hg4 ?_
      first | refine a7 rfl a8 rfl (d5 mB rfl) ?_ | refine a7 rfl a8 rfl (d3 mB rfl) ?_ | refine a7 rfl a8 rfl (b7 mB (b2 (by omega) rfl)) ?_ | refine a7 rfl a8 rfl (b8 mB (rows_get (by omega) rfl)) ?_ | refine a7 rfl a8 rfl (d6 mB rfl) ?_
      refine k9 hg4 (z6 rfl rfl rfl (k9 hg3 ?_)); refine p_t rfl rfl (bt1 hg4) rfl (p_f rfl rfl (bf1 hg3) rfl (c9 ?_))
      first | refine k6 rfl (fun hb4 => ?_) (fun hb4 => ?_) | refine i6 rfl (fun hb4 => ?_) (fun hb4 => ?_)
      ·have hb4' := hb4; try simp at hb4'
       have hR8 := hz6 he2 (by omega) (by rw [hyk]; exact .inr ⟨hsn, hb4⟩); rw [hcd] at hR8; refine d7 ?_; refine G4 (tpB g2 none 0 0 none 0 0 :: h2) ([hpB g10 (hd.getD k default).1 (findP (cl.map Ln.p) (hd.getD k default).2.1) (findP (hd.map Ln.p) (hd.getD k default).2.2.1) none 0 0, tpB g4 oA cs.length oc hA acc.length hC]) (A6 fun p => by simp only [List.countP_append, List.countP_cons, List.countP_nil]; omega) 10 [9] mixed (by decide) (by decide) (by decide) rfl rfl rfl ?_; refine k7 (fun w1 => t5 _ rfl rfl (fun _ => E8 ..) (q_z rfl)) ?_
       apply j8 _ rfl rfl rfl
       ·intro w1
        first | refine a6 ⟨_, 0, none⟩ rfl rfl t6 rfl ?_ | refine a6 _ rfl rfl t6 rfl ?_
        refine b5 ?_; exact i1 rfl
       apply j8 _ rfl rfl rfl
       ·intro w1
        first | refine a7 rfl i7 rfl (d3 mB rfl) ?_ | refine a7 rfl i7 rfl (d5 mB rfl) ?_ | refine a7 rfl i7 rfl (b7 mB (b2 (by omega) rfl)) ?_ | refine a7 rfl i7 rfl (b8 mB (rows_get (by omega) rfl)) ?_ | refine a7 rfl i7 rfl (d6 mB rfl) ?_
        refine b5 ?_; exact i1 rfl
       refine k7 (fun w1 => j9 rfl C4 rfl (q_z rfl)) (p6 rfl ?_); refine k7 (fun w1 => t7 ((cl.length + k : Nat) : Int) rfl rfl rfl (by push_cast; rfl) p8 (q_z rfl)) ?_; refine k7 (fun w1 => t7 ((cl.length + k + 1 : Nat) : Int) rfl rfl rfl (by push_cast; rfl) p8 (q_z rfl)) ?_; refine k7 (fun w1 => t5 _ rfl rfl (fun _ => B5 ..) (q_z rfl)) (k7 (fun w1 => iU rfl ⟨_, underlying140, rfl⟩ rfl (q_z rfl)) ?_); refine sZ ⟨Unit, fun _ => True, fun _ => undef, fun _ => [], fun _ => tpB g2 none 0 0 none 0 0 :: h2⟩ rfl rfl ?_ ?_
       ·intro w1; refine l6 (cs := #[.slice none 0 0, .slice none 0 0]) rfl rfl (.refl _) c7 (by rfl) (by rfl) (b5 ?_); exact H1 () tK (fun h => by cases h) (.refl _) tK
       refine u4 ⟨rfl, ?_⟩; intro _ _; refine c8 rfl (c9 (J0 (D6 (w8 (D6 ?_))))); have hR0 : R = (none, cl.length + k + 1) := (by rw [← hR]; unfold trbT; rw [hR1, ← he]; simp only; rw [hR2, hR8]); subst hR0; refine r8 (α := Cl) (r8 (α := Hd) ?_); refine H6 (Fs := ([] : List Hd).map Hd.row) (by intro F hF; simp at hF) ?_; refine R5 (A := none) (ps := ([] : List Hd)) (f := Hd.row) mB mB ?_; exact C7 (([], (none, 0), [], (none, 0)) : TRs) (fun a w9 ha hw9 => I3 (cs := #[.slice none 0 0, .slice none 0 0]) (v1 := wrV (cl.length + k + 1) 3) rfl rfl rfl d9 c7 rfl m0 a w9 ha.at_ hw9) rfl ⟨fun _ => ⟨rfl, rfl⟩, fun t h => (by cases h), Nat.zero_le _, Nat.zero_le _, fun h9 h => (by cases h), Nat.zero_le _, Nat.zero_le _⟩ nK mC
      have hb4' := hb4; try simp at hb4'
      refine i9 ?_; exact D0 _ () (by rintro (⟨q1, q2⟩ | ⟨q1, q2⟩) <;> first | exact hfc q2 | exact q1 hcn | exact hb4 q2 | exact q1 hsn) mC (.refl _) mC
     intro hg4; have hg4' := hg4; try simp at hg4'
     have hsn : (hd.getD k default).2.2.1 = [] := ix3 hg4; refine q7 hg4 (q7 hg4 (q7 hg4 (k9 hg3 ?_))); refine p_f rfl rfl (bf2 hg4) rfl ?_; refine p_f rfl rfl (bf1 hg3) rfl ?_; refine c9 (c_f rfl rfl (i9 ?_)); exact D0 _ () (by rintro (⟨q1, q2⟩ | ⟨q1, q2⟩) <;> first | exact hfc q2 | exact q1 hcn | exact hb4 q2 | exact q1 hsn) mC (.refl _) mC
    intro hg3; have hg3' := hg3; try simp at hg3'
    have hfc : (findP (cl.map Ln.p) (hd.getD k default).2.1) < 0 := ls_of hg3; refine q7 hg3 (q7 hg3 (q7 hg3 (q7 hg3 (N9 rfl rfl rfl rfl rfl rfl (N9 rfl rfl rfl rfl rfl rfl (N9 rfl rfl rfl rfl rfl rfl (q7 hg3 ?_))))))); refine p_t rfl rfl (bt2 hg3) rfl ?_; refine c9 (c_t rfl rfl ?_); have hR8 := hz6 he2 (by omega) (by rw [hyk]; exact .inl ⟨hcn, hfc⟩); rw [hcd] at hR8; refine d7 ?_; refine G4 (tpB g2 none 0 0 none 0 0 :: h2) ([hpB g10 (hd.getD k default).1 (findP (cl.map Ln.p) (hd.getD k default).2.1) (findP (hd.map Ln.p) (hd.getD k default).2.2.1) none 0 0, tpB g4 oA cs.length oc hA acc.length hC]) (A6 fun p => by simp only [List.countP_append, List.countP_cons, List.countP_nil]; omega) 10 [9] mixed (by decide) (by decide) (by decide) rfl rfl rfl ?_; refine k7 (fun w1 => t5 _ rfl rfl (fun _ => E8 ..) (q_z rfl)) ?_
    apply j8 _ rfl rfl rfl
    ·intro w1
     first | refine a6 ⟨_, 0, none⟩ rfl rfl t6 rfl ?_ | refine a6 _ rfl rfl t6 rfl ?_
     refine b5 ?_; exact i1 rfl
    apply j8 _ rfl rfl rfl
    ·intro w1
     first | refine a7 rfl i7 rfl (d3 mB rfl) ?_ | refine a7 rfl i7 rfl (d5 mB rfl) ?_ | refine a7 rfl i7 rfl (b7 mB (b2 (by omega) rfl)) ?_ | refine a7 rfl i7 rfl (b8 mB (rows_get (by omega) rfl)) ?_ | refine a7 rfl i7 rfl (d6 mB rfl) ?_
     refine b5 ?_; exact i1 rfl
    refine k7 (fun w1 => j9 rfl C4 rfl (q_z rfl)) (p6 rfl ?_); refine k7 (fun w1 => t7 ((cl.length + k : Nat) : Int) rfl rfl rfl (by push_cast; rfl) p8 (q_z rfl)) ?_; refine k7 (fun w1 => t7 ((cl.length + k + 1 : Nat) : Int) rfl rfl rfl (by push_cast; rfl) p8 (q_z rfl)) ?_; refine k7 (fun w1 => t5 _ rfl rfl (fun _ => B5 ..) (q_z rfl)) (k7 (fun w1 => iU rfl ⟨_, underlying140, rfl⟩ rfl (q_z rfl)) ?_); refine sZ ⟨Unit, fun _ => True, fun _ => undef, fun _ => [], fun _ => tpB g2 none 0 0 none 0 0 :: h2⟩ rfl rfl ?_ ?_
    ·intro w1; refine l6 (cs := #[.slice none 0 0, .slice none 0 0]) rfl rfl (.refl _) c7 (by rfl) (by rfl) (b5 ?_); exact H1 () tK (fun h => by cases h) (.refl _) tK
    refine u4 ⟨rfl, ?_⟩; intro _ _; refine c8 rfl (c9 (J0 (D6 (w8 (D6 ?_))))); have hR0 : R = (none, cl.length + k + 1) := (by rw [← hR]; unfold trbT; rw [hR1, ← he]; simp only; rw [hR2, hR8]); subst hR0; refine r8 (α := Cl) (r8 (α := Hd) ?_); refine H6 (Fs := ([] : List Hd).map Hd.row) (by intro F hF; simp at hF) ?_; refine R5 (A := none) (ps := ([] : List Hd)) (f := Hd.row) mB mB ?_; exact C7 (([], (none, 0), [], (none, 0)) : TRs) (fun a w9 ha hw9 => I3 (cs := #[.slice none 0 0, .slice none 0 0]) (v1 := wrV (cl.length + k + 1) 3) rfl rfl rfl d9 c7 rfl m0 a w9 ha.at_ hw9) rfl ⟨fun _ => ⟨rfl, rfl⟩, fun t h => (by cases h), Nat.zero_le _, Nat.zero_le _, fun h9 h => (by cases h), Nat.zero_le _, Nat.zero_le _⟩ nK mC
   intro hg2; have hg2' := hg2; try simp at hg2'
   have hcn : (hd.getD k default).2.1 = [] := ix3 hg2; refine q7 hg2 (q7 hg2 (q7 hg2 ?_)); refine p_f rfl rfl (bf2 hg2) rfl ?_; refine b6 rfl (cS rfl rfl rfl ?_)
   first | refine a6 ⟨_, 2, none⟩ rfl rfl G2 rfl ?_ | refine a6 _ rfl rfl G2 rfl ?_
   refine cS rfl rfl rfl ?_
   first | refine a7 rfl a9 rfl (d5 mB rfl) ?_ | refine a7 rfl a9 rfl (d3 mB rfl) ?_ | refine a7 rfl a9 rfl (b7 mB (b2 (by omega) rfl)) ?_ | refine a7 rfl a9 rfl (b8 mB (rows_get (by omega) rfl)) ?_ | refine a7 rfl a9 rfl (d6 mB rfl) ?_
   refine cS rfl rfl rfl (qN rfl rfl rfl (cS rfl rfl rfl (b6 rfl ?_))); refine v4 rfl rfl ?_ ?_
   ·intro hg5; have hg5' := hg5; try simp at hg5'
    have hsn : ¬ (hd.getD k default).2.2.1 = [] := ij9 hg5; refine k9 hg5 ?_
    first | refine a6 ⟨_, 2, none⟩ rfl rfl n5 rfl ?_ | refine a6 _ rfl rfl n5 rfl ?_
    refine k9 hg5 ?_
    first | refine a7 rfl a8 rfl (d5 mB rfl) ?_ | refine a7 rfl a8 rfl (d3 mB rfl) ?_ | refine a7 rfl a8 rfl (b7 mB (b2 (by omega) rfl)) ?_ | refine a7 rfl a8 rfl (b8 mB (rows_get (by omega) rfl)) ?_ | refine a7 rfl a8 rfl (d6 mB rfl) ?_
    refine k9 hg5 (z6 rfl rfl rfl (cS rfl rfl rfl ?_)); refine p_t rfl rfl (bt1 hg5) rfl ?_; refine p_f rfl rfl rfl rfl (c9 ?_)
    first | refine k6 rfl (fun hb4 => ?_) (fun hb4 => ?_) | refine i6 rfl (fun hb4 => ?_) (fun hb4 => ?_)
    ·have hb4' := hb4; try simp at hb4'
     have hR8 := hz6 he2 (by omega) (by rw [hyk]; exact .inr ⟨hsn, hb4⟩); rw [hcd] at hR8; refine d7 ?_; refine G4 (tpB g2 none 0 0 none 0 0 :: h2) ([hpB g10 (hd.getD k default).1 (findP (cl.map Ln.p) (hd.getD k default).2.1) (findP (hd.map Ln.p) (hd.getD k default).2.2.1) none 0 0, tpB g4 oA cs.length oc hA acc.length hC]) (A6 fun p => by simp only [List.countP_append, List.countP_cons, List.countP_nil]; omega) 10 [9] mixed (by decide) (by decide) (by decide) rfl rfl rfl ?_; refine k7 (fun w1 => t5 _ rfl rfl (fun _ => E8 ..) (q_z rfl)) ?_
     apply j8 _ rfl rfl rfl
     ·intro w1
      first | refine a6 ⟨_, 0, none⟩ rfl rfl t6 rfl ?_ | refine a6 _ rfl rfl t6 rfl ?_
      refine b5 ?_; exact i1 rfl
     apply j8 _ rfl rfl rfl
     ·intro w1
      first | refine a7 rfl i7 rfl (d3 mB rfl) ?_ | refine a7 rfl i7 rfl (d5 mB rfl) ?_ | refine a7 rfl i7 rfl (b7 mB (b2 (by omega) rfl)) ?_ | refine a7 rfl i7 rfl (b8 mB (rows_get (by omega) rfl)) ?_ | refine a7 rfl i7 rfl (d6 mB rfl) ?_
      refine b5 ?_; exact i1 rfl
     refine k7 (fun w1 => j9 rfl C4 rfl (q_z rfl)) (p6 rfl ?_); refine k7 (fun w1 => t7 ((cl.length + k : Nat) : Int) rfl rfl rfl (by push_cast; rfl) p8 (q_z rfl)) ?_; refine k7 (fun w1 => t7 ((cl.length + k + 1 : Nat) : Int) rfl rfl rfl (by push_cast; rfl) p8 (q_z rfl)) ?_; refine k7 (fun w1 => t5 _ rfl rfl (fun _ => B5 ..) (q_z rfl)) (k7 (fun w1 => iU rfl ⟨_, underlying140, rfl⟩ rfl (q_z rfl)) ?_); refine sZ ⟨Unit, fun _ => True, fun _ => undef, fun _ => [], fun _ => tpB g2 none 0 0 none 0 0 :: h2⟩ rfl rfl ?_ ?_
     ·intro w1; refine l6 (cs := #[.slice none 0 0, .slice none 0 0]) rfl rfl (.refl _) c7 (by rfl) (by rfl) (b5 ?_); exact H1 () tK (fun h => by cases h) (.refl _) tK
     refine u4 ⟨rfl, ?_⟩; intro _ _; refine c8 rfl (c9 (J0 (D6 (w8 (D6 ?_))))); have hR0 : R = (none, cl.length + k + 1) := (by rw [← hR]; unfold trbT; rw [hR1, ← he]; simp only; rw [hR2, hR8]); subst hR0; refine r8 (α := Cl) (r8 (α := Hd) ?_); refine H6 (Fs := ([] : List Hd).map Hd.row) (by intro F hF; simp at hF) ?_; refine R5 (A := none) (ps := ([] : List Hd)) (f := Hd.row) mB mB ?_; exact C7 (([], (none, 0), [], (none, 0)) : TRs) (fun a w9 ha hw9 => I3 (cs := #[.slice none 0 0, .slice none 0 0]) (v1 := wrV (cl.length + k + 1) 3) rfl rfl rfl d9 c7 rfl m0 a w9 ha.at_ hw9) rfl ⟨fun _ => ⟨rfl, rfl⟩, fun t h => (by cases h), Nat.zero_le _, Nat.zero_le _, fun h9 h => (by cases h), Nat.zero_le _, Nat.zero_le _⟩ nK mC
    have hb4' := hb4; try simp at hb4'
    refine i9 ?_; exact D0 _ () (by rintro (⟨q1, q2⟩ | ⟨q1, q2⟩) <;> first | exact hfc q2 | exact q1 hcn | exact hb4 q2 | exact q1 hsn) mC (.refl _) mC
   intro hg5; have hg5' := hg5; try simp at hg5'
   have hsn : (hd.getD k default).2.2.1 = [] := ix3 hg5; refine q7 hg5 (q7 hg5 (q7 hg5 (cS rfl rfl rfl ?_))); refine p_f rfl rfl (bf2 hg5) rfl ?_; refine p_f rfl rfl rfl rfl (c9 (c_f rfl rfl (i9 ?_))); exact D0 _ () (by rintro (⟨q1, q2⟩ | ⟨q1, q2⟩) <;> first | exact hfc q2 | exact q1 hcn | exact hb4 q2 | exact q1 hsn) mC (.refl _) mC
  intro _ hok; simp only at hok; refine bT (hc_pick (F := Ln.row (hd.getD k default)) (Fs := hd.map Ln.row) mB (List.mem_map.2 ⟨_, A9 hk1, rfl⟩) (d4 ?_))
  first | refine a6 ⟨_, 3, none⟩ rfl rfl Q1 rfl ?_ | refine a6 _ rfl rfl Q1 rfl ?_
  first | refine a7 rfl bM rfl (d5 mB rfl) ?_ | refine a7 rfl bM rfl (d3 mB rfl) ?_ | refine a7 rfl bM rfl (b7 mB (b2 (by omega) rfl)) ?_ | refine a7 rfl bM rfl (b8 mB (rows_get (by omega) rfl)) ?_ | refine a7 rfl bM rfl (d6 mB rfl) ?_
  refine j9 rfl j6 rfl ?_; refine b6 rfl (c9 (j4 ?_)); obtain ⟨RA, hRA⟩ : ∃ R, aloE (hd.map Ln.p) (hd.getD k default).2.2.2.l [] = R := ⟨_, rfl⟩; refine t8 (β := Nat × List Int × OutC × Hp) ⟨fun z => z.1 ≤ (hd.getD k default).2.2.2.l.length ∧ aloE (hd.map Ln.p) ((hd.getD k default).2.2.2.l.drop z.1) z.2.1 = RA ∧ Grow aD 1 z.2.2.1.1 z.2.1.length z.2.2.1.2 (rows z.2.1) z.2.2.2 ∧ z.2.1.length = z.1, fun z => [(1, .pointer (c5 gB)), (2, .pointer (c5 g2)), (4, .pointer (c5 g4)), (51, .slice B hd.length cb), (52, int hd.length), (53, int k), (8, int k), (9, .pointer (c5 g9)), (10, .pointer (c5 g10)), (99, .slice (hd.getD k default).2.2.2.a (hd.getD k default).2.2.2.l.length (hd.getD k default).2.2.2.c), (100, int (hd.getD k default).2.2.2.l.length), (101, int z.1)], fun z => hpB g10 (hd.getD k default).1 (findP (cl.map Ln.p) (hd.getD k default).2.1) (findP (hd.map Ln.p) (hd.getD k default).2.2.1) z.2.2.1.1 z.2.1.length z.2.2.1.2 :: tpB g4 oA cs.length oc hA acc.length hC :: tpB g2 none 0 0 none 0 0 :: (z.2.2.2 ++ h2), fun _ => [Row (hd.getD k default).2.2.2.a (rows (hd.getD k default).2.2.2.l), Blk g9 (Obj.cells #[str (hd.getD k default).1, str (hd.getD k default).2.1, str (hd.getD k default).2.2.1, .slice (hd.getD k default).2.2.2.a (hd.getD k default).2.2.2.l.length (hd.getD k default).2.2.2.c] C2 (0, 0)), Blk gB (Obj.cells #[.slice A cl.length ca, .slice B hd.length cb] I2 (0, 0)), Row oA (rows cs), Row A (rows cl), Row B (rows hd), innersF hd Ln.row, innersF acc Hd.row]⟩ (fun z => (hd.getD k default).2.2.2.l.length - z.1) (0, [], (none, 0), []) ⟨Nat.zero_le _, hRA, Grow.nil _ _, rfl⟩ mC (.refl _) mC fun z hz => ?_; obtain ⟨j, al, ⟨aA, ac⟩, h3⟩ := z; obtain ⟨hj, he3, hG3, hal3⟩ := hz; simp only at hj he3 hG3 hal3; refine i3 (z6 rfl rfl rfl (c9 (d7 ?_)))
  first | refine k6 rfl (fun hb5 => ?_) (fun hb5 => ?_) | refine i6 rfl (fun hb5 => ?_) (fun hb5 => ?_)
  ·have hb5' := hb5; try simp at hb5'
   have hj1 : j < (hd.getD k default).2.2.2.l.length := by omega
   have hfb3 := wO (hd.map Ln.p) ((hd.getD k default).2.2.2.l.getD j default); rw [hHd] at hfb3; refine i9 (i2 (d7 (j4 (i3 ?_)))); refine q8 (α := Str) (hd.getD k default).2.2.2.l j rfl j6 j5 rfl rfl rfl mB rfl hj1 (by decide) (a7 (v := str ((hd.getD k default).2.2.2.l.getD j default)) rfl a9 rfl (b7 mB (b2 hj1 rfl)) ?_); refine c8 rfl (n9 ?_)
   first | refine a6 ⟨_, 1, none⟩ rfl rfl A5 rfl ?_ | refine a6 _ rfl rfl A5 rfl ?_
   first | refine a7 rfl i7 rfl (d5 mB rfl) ?_ | refine a7 rfl i7 rfl (d3 mB rfl) ?_ | refine a7 rfl i7 rfl (b7 mB (b2 (by omega) rfl)) ?_ | refine a7 rfl i7 rfl (b8 mB (rows_get (by omega) rfl)) ?_ | refine a7 rfl i7 rfl (d6 mB rfl) ?_
   refine b6 rfl (i8 W3 rfl rfl (V3 hd ((hd.getD k default).2.2.2.l.getD j default) (by omega)) (hpR := hpB g10 (hd.getD k default).1 (findP (cl.map Ln.p) (hd.getD k default).2.1) (findP (hd.map Ln.p) (hd.getD k default).2.2.1) aA al.length ac :: tpB g4 oA cs.length oc hA acc.length hC :: tpB g2 none 0 0 none 0 0 :: (h3 ++ h2)) (.refl _) mC fun _ _ => ?_); refine c8 rfl (c9 (d7 (i3 (b6 rfl (z6 rfl rfl rfl (c9 ?_))))))
   first | refine k6 rfl (fun hb6 => ?_) (fun hb6 => ?_) | refine i6 rfl (fun hb6 => ?_) (fun hb6 => ?_)
   ·have hb6' := hb6; try simp at hb6'
    have hno := al_bad he3 hj1 hb6; have hR8 := bh_alo he2 (by omega) (by rw [hyk]; exact hok) (by rw [hyk]; exact hRA.trans hno); rw [hcd] at hR8; refine d7 ?_; refine G4 (tpB g2 none 0 0 none 0 0 :: (h3 ++ h2)) ([hpB g10 (hd.getD k default).1 (findP (cl.map Ln.p) (hd.getD k default).2.1) (findP (hd.map Ln.p) (hd.getD k default).2.2.1) aA al.length ac, tpB g4 oA cs.length oc hA acc.length hC]) (A6 fun p => by simp only [List.countP_append, List.countP_cons, List.countP_nil]; omega) 10 [9] mixed (by decide) (by decide) (by decide) rfl rfl rfl ?_; refine k7 (fun w1 => t5 _ rfl rfl (fun _ => E8 ..) (q_z rfl)) ?_
    apply j8 _ rfl rfl rfl
    ·intro w1
     first | refine a6 ⟨_, 0, none⟩ rfl rfl t6 rfl ?_ | refine a6 _ rfl rfl t6 rfl ?_
     refine b5 ?_; exact i1 rfl
    apply j8 _ rfl rfl rfl
    ·intro w1
     first | refine a7 rfl i7 rfl (d3 mB rfl) ?_ | refine a7 rfl i7 rfl (d5 mB rfl) ?_ | refine a7 rfl i7 rfl (b7 mB (b2 (by omega) rfl)) ?_ | refine a7 rfl i7 rfl (b8 mB (rows_get (by omega) rfl)) ?_ | refine a7 rfl i7 rfl (d6 mB rfl) ?_
     refine b5 ?_; exact i1 rfl
    refine k7 (fun w1 => j9 rfl C4 rfl (q_z rfl)) (p6 rfl ?_); refine k7 (fun w1 => t7 ((cl.length + k : Nat) : Int) rfl rfl rfl (by push_cast; rfl) p8 (q_z rfl)) ?_; refine k7 (fun w1 => t7 ((cl.length + k + 1 : Nat) : Int) rfl rfl rfl (by push_cast; rfl) p8 (q_z rfl)) ?_; refine k7 (fun w1 => t5 _ rfl rfl (fun _ => B5 ..) (q_z rfl)) (k7 (fun w1 => iU rfl ⟨_, underlying140, rfl⟩ rfl (q_z rfl)) ?_); refine sZ ⟨Unit, fun _ => True, fun _ => undef, fun _ => [], fun _ => tpB g2 none 0 0 none 0 0 :: (h3 ++ h2)⟩ rfl rfl ?_ ?_
    ·intro w1; refine l6 (cs := #[.slice none 0 0, .slice none 0 0]) rfl rfl (.refl _) c7 (by rfl) (by rfl) (b5 ?_); exact H1 () tK (fun h => by cases h) (.refl _) tK
    refine u4 ⟨rfl, ?_⟩; intro _ _; refine c8 rfl (c9 (J0 (D6 (w8 (D6 (D6 ?_)))))); refine w8 (D6 ?_); have hR0 : R = (none, cl.length + k + 1) := (by rw [← hR]; unfold trbT; rw [hR1, ← he]; simp only; rw [hR2, hR8]); subst hR0; refine r8 (α := Cl) (r8 (α := Hd) ?_); refine H6 (Fs := ([] : List Hd).map Hd.row) (by intro F hF; simp at hF) ?_; refine R5 (A := none) (ps := ([] : List Hd)) (f := Hd.row) mB mB ?_; exact C7 (([], (none, 0), [], (none, 0)) : TRs) (fun a w9 ha hw9 => I3 (cs := #[.slice none 0 0, .slice none 0 0]) (v1 := wrV (cl.length + k + 1) 3) rfl rfl rfl d9 c7 rfl m0 a w9 ha.at_ hw9) rfl ⟨fun _ => ⟨rfl, rfl⟩, fun t h => (by cases h), Nat.zero_le _, Nat.zero_le _, fun h9 h => (by cases h), Nat.zero_le _, Nat.zero_le _⟩ nK mC
   have hb6' := hb6; try simp at hb6'
   refine i9 (i2 (d4 ?_))
   first | refine a6 ⟨_, 3, none⟩ rfl rfl m6 rfl ?_ | refine a6 _ rfl rfl m6 rfl ?_
   refine a7 (v := .slice aA al.length ac) rfl j2 rfl (d5 m0 rfl) (b6 rfl (l9 _ rfl rfl (fun _ => G6 ..) fun gS => A8 (rows [findP (hd.map Ln.p) ((hd.getD k default).2.2.2.l.getD j default)]) (List.prefix_refl _) ?_)); refine D9 (hp' := hpB g10 (hd.getD k default).1 (findP (cl.map Ln.p) (hd.getD k default).2.1) (findP (hd.map Ln.p) (hd.getD k default).2.2.1) aA al.length ac :: tpB g4 oA cs.length oc hA acc.length hC :: tpB g2 none 0 0 none 0 0 :: h2) (al.length + 1) (rows (al ++ [findP (hd.map Ln.p) ((hd.getD k default).2.2.2.l.getD j default)])) cX rfl rfl rfl hG3 (show List.Perm (hpB g10 (hd.getD k default).1 (findP (cl.map Ln.p) (hd.getD k default).2.1) (findP (hd.map Ln.p) (hd.getD k default).2.2.1) aA al.length ac :: tpB g4 oA cs.length oc hA acc.length hC :: tpB g2 none 0 0 none 0 0 :: (h3 ++ h2)) (h3 ++ (hpB g10 (hd.getD k default).1 (findP (cl.map Ln.p) (hd.getD k default).2.1) (findP (hd.map Ln.p) (hd.getD k default).2.2.1) aA al.length ac :: tpB g4 oA cs.length oc hA acc.length hC :: tpB g2 none 0 0 none 0 0 :: h2)) from (A6 fun p => by simp only [List.countP_append, List.countP_cons, List.countP_nil]; omega)) (Src.row (news := rows [findP (hd.map Ln.p) ((hd.getD k default).2.2.2.l.getD j default)]) (m := 1) m0 rfl (D4 _) (by decide)) rfl (v7 _ _).symm (by unfold maxLen; omega) (by omega) fun A' c' og' hG' => ?_
   first | refine a6 ⟨_, 3, none⟩ rfl rfl m6 rfl ?_ | refine a6 _ rfl rfl m6 rfl ?_
   refine B0 (hp' := og' ++ (tpB g4 oA cs.length oc hA acc.length hC :: tpB g2 none 0 0 none 0 0 :: h2)) rfl rfl (show List.Perm (og' ++ (hpB g10 (hd.getD k default).1 (findP (cl.map Ln.p) (hd.getD k default).2.1) (findP (hd.map Ln.p) (hd.getD k default).2.2.1) aA al.length ac :: tpB g4 oA cs.length oc hA acc.length hC :: tpB g2 none 0 0 none 0 0 :: h2)) (hpB g10 (hd.getD k default).1 (findP (cl.map Ln.p) (hd.getD k default).2.1) (findP (hd.map Ln.p) (hd.getD k default).2.2.1) aA al.length ac :: (og' ++ (tpB g4 oA cs.length oc hA acc.length hC :: tpB g2 none 0 0 none 0 0 :: h2))) from (A6 fun p => by simp only [List.countP_append, List.countP_cons, List.countP_nil]; omega)) mP (by rfl) (by rfl) ?_; refine b5 (v5 (i2 (d4 ?_))); refine t7 _ rfl rfl rfl rfl p8 ?_; refine b6 rfl (b5 ?_); have hxy : (al ++ [findP (hd.map Ln.p) ((hd.getD k default).2.2.2.l.getD j default)]).length = al.length + 1 := by simp
   rw [← hxy] at hG'; refine Q5 (hp' := hpB g10 (hd.getD k default).1 (findP (cl.map Ln.p) (hd.getD k default).2.1) (findP (hd.map Ln.p) (hd.getD k default).2.2.1) A' (al ++ [findP (hd.map Ln.p) ((hd.getD k default).2.2.2.l.getD j default)]).length c' :: tpB g4 oA cs.length oc hA acc.length hC :: tpB g2 none 0 0 none 0 0 :: (og' ++ h2)) (show List.Perm (hpB g10 (hd.getD k default).1 (findP (cl.map Ln.p) (hd.getD k default).2.1) (findP (hd.map Ln.p) (hd.getD k default).2.2.1) A' (al.length + 1) c' :: (og' ++ (tpB g4 oA cs.length oc hA acc.length hC :: tpB g2 none 0 0 none 0 0 :: h2))) _ from by rw [hxy]; exact (A6 fun p => by simp only [List.countP_append, List.countP_cons, List.countP_nil]; omega)) ?_; exact again _ (j + 1, al ++ [findP (hd.map Ln.p) ((hd.getD k default).2.2.2.l.getD j default)], (A', c'), og') ⟨hj1, al_ok he3 hj1 hb6, hG', by show (al ++ [_]).length = j + 1; omega⟩ (z8 (by omega)) mC (.refl _) mC
  have hb5' := hb5; try simp at hb5'
  have hj1 : j = (hd.getD k default).2.2.2.l.length := by omega
  rw [hj1, List.drop_eq_nil_of_le (Nat.le_refl _), aloE] at he3; have he4 := bh_ok he2 (by omega) (by rw [hyk]; exact hok) (by rw [hyk]; exact hRA.trans he3.symm); rw [hyk] at he4; refine q9 (C3 (r7 (i2 ?_))); refine bV (hp' := h3 ++ (tpB g4 oA cs.length oc hA acc.length hC :: hpB g10 (hd.getD k default).1 (findP (cl.map Ln.p) (hd.getD k default).2.1) (findP (hd.map Ln.p) (hd.getD k default).2.2.1) aA al.length ac :: tpB g2 none 0 0 none 0 0 :: h2)) (show List.Perm (hpB g10 (hd.getD k default).1 (findP (cl.map Ln.p) (hd.getD k default).2.1) (findP (hd.map Ln.p) (hd.getD k default).2.2.1) aA al.length ac :: tpB g4 oA cs.length oc hA acc.length hC :: tpB g2 none 0 0 none 0 0 :: (h3 ++ h2)) (h3 ++ (tpB g4 oA cs.length oc hA acc.length hC :: hpB g10 (hd.getD k default).1 (findP (cl.map Ln.p) (hd.getD k default).2.1) (findP (hd.map Ln.p) (hd.getD k default).2.2.1) aA al.length ac :: tpB g2 none 0 0 none 0 0 :: h2)) from (A6 fun p => by simp only [List.countP_append, List.countP_cons, List.countP_nil]; omega)) ?_; refine lQ hG3 (d4 ?_)
  first | refine a6 ⟨_, 1, none⟩ rfl rfl j0 rfl ?_ | refine a6 _ rfl rfl j0 rfl ?_
  refine a7 (v := .slice hA acc.length hC) rfl b4 rfl (d5 m0 rfl) (D1 rfl w5 l4 rfl m1 (by rfl) (l9 _ rfl rfl (fun _ => aG ..) fun gS => A8 (rows [(((hd.getD k default).1, (findP (cl.map Ln.p) (hd.getD k default).2.1), (findP (hd.map Ln.p) (hd.getD k default).2.2.1), ⟨aA, ac, al⟩) : Hd)]) (List.prefix_refl _) ?_)); refine D9 (hp' := [tpB g4 oA cs.length oc hA acc.length hC, hpB g10 (hd.getD k default).1 (findP (cl.map Ln.p) (hd.getD k default).2.1) (findP (hd.map Ln.p) (hd.getD k default).2.2.1) aA al.length ac, tpB g2 none 0 0 none 0 0]) (acc.length + 1) (rows (acc ++ [(((hd.getD k default).1, (findP (cl.map Ln.p) (hd.getD k default).2.1), (findP (hd.map Ln.p) (hd.getD k default).2.2.1), ⟨aA, ac, al⟩) : Hd)])) P4 rfl rfl rfl hG (show List.Perm (tpB g4 oA cs.length oc hA acc.length hC :: hpB g10 (hd.getD k default).1 (findP (cl.map Ln.p) (hd.getD k default).2.1) (findP (hd.map Ln.p) (hd.getD k default).2.2.1) aA al.length ac :: tpB g2 none 0 0 none 0 0 :: h2) (h2 ++ [tpB g4 oA cs.length oc hA acc.length hC, hpB g10 (hd.getD k default).1 (findP (cl.map Ln.p) (hd.getD k default).2.1) (findP (hd.map Ln.p) (hd.getD k default).2.2.1) aA al.length ac, tpB g2 none 0 0 none 0 0]) from (A6 fun p => by simp only [List.countP_append, List.countP_cons, List.countP_nil]; omega)) (Src.row (news := rows [(((hd.getD k default).1, (findP (cl.map Ln.p) (hd.getD k default).2.1), (findP (hd.map Ln.p) (hd.getD k default).2.2.1), ⟨aA, ac, al⟩) : Hd)]) (m := 1) m0 rfl (D4 _) (by decide)) rfl (v7 _ _).symm (by unfold maxLen; omega) (by omega) fun A' c' og' hG' => ?_
  first | refine a6 ⟨_, 1, none⟩ rfl rfl j0 rfl ?_ | refine a6 _ rfl rfl j0 rfl ?_
  refine B0 (hp' := og' ++ [hpB g10 (hd.getD k default).1 (findP (cl.map Ln.p) (hd.getD k default).2.1) (findP (hd.map Ln.p) (hd.getD k default).2.2.1) aA al.length ac, tpB g2 none 0 0 none 0 0]) rfl rfl (show List.Perm (og' ++ [tpB g4 oA cs.length oc hA acc.length hC, hpB g10 (hd.getD k default).1 (findP (cl.map Ln.p) (hd.getD k default).2.1) (findP (hd.map Ln.p) (hd.getD k default).2.2.1) aA al.length ac, tpB g2 none 0 0 none 0 0]) (tpB g4 oA cs.length oc hA acc.length hC :: (og' ++ [hpB g10 (hd.getD k default).1 (findP (cl.map Ln.p) (hd.getD k default).2.1) (findP (hd.map Ln.p) (hd.getD k default).2.2.1) aA al.length ac, tpB g2 none 0 0 none 0 0])) from (A6 fun p => by simp only [List.countP_append, List.countP_cons, List.countP_nil]; omega)) V5 (by rfl) (by rfl) ?_; refine lP (aX (ps := acc) (f := Hd.row) (p := (((hd.getD k default).1, (findP (cl.map Ln.p) (hd.getD k default).2.1), (findP (hd.map Ln.p) (hd.getD k default).2.2.1), ⟨aA, ac, al⟩) : Hd)) mB mB) ?_; refine b5 (v5 (i2 (d4 ?_))); refine t7 _ rfl rfl rfl rfl p8 ?_; refine b6 rfl (b5 ?_); have hxy : (acc ++ [(((hd.getD k default).1, (findP (cl.map Ln.p) (hd.getD k default).2.1), (findP (hd.map Ln.p) (hd.getD k default).2.2.1), ⟨aA, ac, al⟩) : Hd)]).length = acc.length + 1 := by simp
  rw [← hxy] at hG'; refine Q5 (hp' := hpB g10 (hd.getD k default).1 (findP (cl.map Ln.p) (hd.getD k default).2.1) (findP (hd.map Ln.p) (hd.getD k default).2.2.1) aA al.length ac :: tpB g4 oA cs.length oc A' (acc ++ [(((hd.getD k default).1, (findP (cl.map Ln.p) (hd.getD k default).2.1), (findP (hd.map Ln.p) (hd.getD k default).2.2.1), ⟨aA, ac, al⟩) : Hd)]).length c' :: tpB g2 none 0 0 none 0 0 :: og') (show List.Perm (tpB g4 oA cs.length oc A' (acc.length + 1) c' :: (og' ++ [hpB g10 (hd.getD k default).1 (findP (cl.map Ln.p) (hd.getD k default).2.1) (findP (hd.map Ln.p) (hd.getD k default).2.2.1) aA al.length ac, tpB g2 none 0 0 none 0 0])) _ from by rw [hxy]; exact (A6 fun p => by simp only [List.countP_append, List.countP_cons, List.countP_nil]; omega)) ?_; exact again _ (k + 1, acc ++ [(((hd.getD k default).1, (findP (cl.map Ln.p) (hd.getD k default).2.1), (findP (hd.map Ln.p) (hd.getD k default).2.2.1), ⟨aA, ac, al⟩) : Hd)], (A', c'), og') ⟨hk1, by show trbH _ _ _ _ ((acc ++ [(((hd.getD k default).1, (findP (cl.map Ln.p) (hd.getD k default).2.1), (findP (hd.map Ln.p) (hd.getD k default).2.2.1), ⟨aA, ac, al⟩) : Hd)]).map Hd.p) = R2; rw [List.map_append]; exact he4, hG', by show (acc ++ [_]).length = k + 1; omega, yX hna (by show al.length ≤ 1000; omega)⟩ (z8 (by omega)) mC (.cons _ (.refl _)) mC
 have hb3' := hb3; try simp at hb3'
 have hk1 : k = hd.length := by omega
 subst hk1; refine q9 (C3 (r7 (i2 (d7 ?_)))); rw [List.drop_eq_nil_of_le (by rw [List.length_map]; exact Nat.le_refl _), trbH] at he2; have hRf : R = (some (cs, acc.map Hd.p), 0) := by rw [← hR]; unfold trbT; rw [hR1, ← he]; simp only; rw [hR2, ← he2]
 have hHle := hG.le; refine d4 (D1 rfl d9 c7 rfl m0 (by rfl) (l6 (cs := #[.slice oA cs.length oc, .slice hA acc.length hC]) rfl rfl (.swap _ _ _) c7 (by rfl) (by rfl) ?_)); refine c8 rfl (c9 (k8 ?_)); subst hRf; refine Q5 (hp' := h2 ++ [tpB g2 oA cs.length oc hA acc.length hC, tpB g4 oA cs.length oc hA acc.length hC]) (show List.Perm (tpB g2 oA cs.length oc hA acc.length hC :: tpB g4 oA cs.length oc hA acc.length hC :: h2) (h2 ++ [tpB g2 oA cs.length oc hA acc.length hC, tpB g4 oA cs.length oc hA acc.length hC]) from (A6 fun p => by simp only [List.countP_append, List.countP_cons, List.countP_nil]; omega)) ?_; refine iW hG (R5 (A := hA) (ps := acc) (f := Hd.row) mB mB ?_); exact C7 ((cs, (oA, oc), acc, (hA, hC)) : TRs) (fun a w9 ha hw9 => I3 (cs := #[.slice oA cs.length oc, .slice hA acc.length hC]) (v1 := .nilIface) rfl rfl rfl d9 c7 rfl m0 a w9 ha.at_ hw9) rfl ⟨fun h => (by cases h), fun t h => (by cases h; exact ⟨rfl, rfl⟩), by show cs.length ≤ 1000; omega, by show acc.length ≤ 1000; omega, hna, hcl2, hHle⟩ nK mC
end Go.Proofs.YtdgmfagfpbdbhaaGreatDoor
end
