/- Texts. -/

import Derived.Test.YtpfbbggmcbhboaaGreatDoorAAm
import Derived.Test.YtpfbbggmcbhboaaGreatDoorAAg
import Derived.Test.YtpfbbggmcbhboaaGreatDoorAAh
import Derived.Test.YtpfbbggmcbhboaaGreatDoorAAj
set_option linter.unusedVariables false
set_option linter.unusedSimpArgs false
section
namespace Go.Proofs.YtpfbbggmcbhboaaGreatDoor
open Go Go.W Go.Conc
set_option maxRecDepth 20000
attribute [local irreducible] HL HC HQ HB Row Rows2 Blk Facts
set_option maxRecDepth 20000
noncomputable def bodyC : Code := unLoop (blockAt 2 (Tryz.f32.body.getD .skip))
noncomputable def ops11 : Array Oper := regionAt 11 (Tryz.f32.body.getD .skip)
noncomputable def blk3 : Code := blockAt 3 (Tryz.f32.body.getD .skip)
noncomputable def blk4 : Code := .block 4 (blockAt 4 (Tryz.f32.body.getD .skip))
def vM (xs ys : List Mk) (j i : Nat) : Value := mkV ((if j = 0 then xs else ys).getD i default)
def nM (xs ys : List Mk) (j : Nat) : Nat := if j = 0 then xs.length else ys.length
abbrev zM : Value := mkV (0, 0, [])
abbrev dkC (m0 m1 q0 q1 : Nat) : Array Value := #[.map (some m0), .map (some m1), .map (some q0), .map (some q1)]
def DS (W : World) (o : List Nat) (d m0 m1 q0 q1 : Nat) (xs ys : List Mk) (hp : Hq) : Prop :=
  ∃ li0 ci0 ll0 cl0 og0 li1 ci1 ll1 cl1 og1, InM li0 og0 (insE xs) ∧ LaM ll0 xs ∧ InM li1 og1 (insE ys) ∧ LaM ll1 ys ∧
    hp.Perm (dsk d m0 q0 (dkC m0 m1 q0 q1) li0 ci0 ll0 cl0 og0 ((m1, mapO int li1 ci1) :: (q1, mapO int ll1 cl1) :: og1)) ∧ (hp.map (·.1)).Nodup ∧ Inn W o hp
section
variable {W : World} {o : List Nat} {v : Nat → Nat → Value} {nn : Nat → Nat} {z : Value} {BW : Nat} {Goal : Goroutine → World → Prop} {ms : Ms} {ro : Hq}
variable {d m0 m1 q0 q1 : Nat} {xs ys : List Mk} {m : Mk} {hp : Hq} {n : Nat} {cf : Frame} {cs : List Frame}
theorem sq1 (h : DS W o d m0 m1 q0 q1 xs ys hp) (hlen : xs.length ≤ 1000000) (cont : ∀ hp', DS W o d m0 m1 q0 q1 (xs ++ [m]) ys hp' → (XM W o v nn z BW Goal ms ro).T n (cf.finish (.tuple #[])) cs hp') :
    (XM W o v nn z BW Goal ms ro).T (n + 60) (Frame.enter Tryz.prog 52 [ptrB d, int ((0 : Nat) : Int), mkV m].toArray .normal) (cf :: cs) hp := by
  obtain ⟨li0, ci0, ll0, cl0, og0, li1, ci1, ll1, cl1, og1, h1, h2, h3, h4, h5, h6, h7⟩ := h; exact qx6 (r := 0) (by omega) rfl rfl h1 h2 hlen h5 h6 h7 fun li' ci' ll' cl' og' a1 a2 a3 a4 => cont _ ⟨li', ci', ll', cl', og', li1, ci1, ll1, cl1, og1, a1, a2, h3, h4, .refl _, a3, a4⟩
theorem sq0 (h : DS W o d m0 m1 q0 q1 xs ys hp) (hlen : ys.length ≤ 1000000) (cont : ∀ hp', DS W o d m0 m1 q0 q1 xs (ys ++ [m]) hp' → (XM W o v nn z BW Goal ms ro).T n (cf.finish (.tuple #[])) cs hp') :
    (XM W o v nn z BW Goal ms ro).T (n + 60) (Frame.enter Tryz.prog 52 [ptrB d, int ((1 : Nat) : Int), mkV m].toArray .normal) (cf :: cs) hp := by
  obtain ⟨li0, ci0, ll0, cl0, og0, li1, ci1, ll1, cl1, og1, h1, h2, h3, h4, h5, h6, h7⟩ := h; have pp : hp.Perm (dsk d m1 q1 (dkC m0 m1 q0 q1) li1 ci1 ll1 cl1 og1 ((m0, mapO int li0 ci0) :: (q0, mapO int ll0 cl0) :: og0)) := h5.trans (C0 fun p => by simp only [dsk, List.countP_append, List.countP_cons]; omega); refine qx6 (r := 1) (by omega) rfl rfl h3 h4 hlen pp h6 h7 fun li' ci' ll' cl' og' a1 a2 a3 a4 => cont _ ⟨li0, ci0, ll0, cl0, og0, li', ci', ll', cl', og', h1, h2, a1, a2, ?_, a3, a4⟩; exact C0 fun p => by simp only [dsk, List.countP_append, List.countP_cons]; omega
theorem kj5 {xs : List Mk} {i : Nat} (h : i < xs.length) : xs.take (i + 1) = xs.take i ++ [xs.getD i default] := by
  rw [List.getD_eq_getElem?_getD, List.getElem?_eq_getElem h, List.take_add_one, List.getElem?_eq_getElem h]
  rfl
variable {b : Frame} {k : List Item} {bx : Bx} {c0 c1 : Nat}
noncomputable abbrev cC (bx : Bx) : Cx := ⟨Tryz.prog, Tryz.f32.ntmps, bx, [], none⟩
noncomputable abbrev XC (W : World) (o : List Nat) (xs ys : List Mk) (BW : Nat) (Goal : Goroutine → World → Prop) (ms : Ms) (ro : Hq) : TX := XM W o (vM xs ys) (nM xs ys) zM BW Goal ms ro
abbrev frC (d : Nat) (a0 b0 : Bool) (c0 c1 : Nat) : Fr := [(5, ptrB d), (7, chv a0 c0), (8, chv b0 c1)]
noncomputable abbrev kC (k : List Item) : List Item := .inLoop bodyC :: .inBlock 2 :: k
theorem loop_T (hk : b.kind ≠ .early) (hx : xs.length ≤ 1000000) (hy : ys.length ≤ 1000000)
    (f0 : ∀ w hp, Sur ⟨Tryz.prog, W, o, vM xs ys, nM xs ys, zM, BW⟩ w → Held hp w → DS W o d m0 m1 q0 q1 xs ys hp → ∀ a, Ok (cC bx) a ((43, .tuple #[int (0 : Nat), .bool false, zM, zM]) :: frC d false true c0 c1) → Co Tryz.prog (G (b.at a (.inRegion ops11 [1, 2, 3] :: .code blk4 :: .inBlock 3 :: kC k)) cs) w Goal)
    (f1 : ∀ w hp, Sur ⟨Tryz.prog, W, o, vM xs ys, nM xs ys, zM, BW⟩ w → Held hp w → DS W o d m0 m1 q0 q1 xs ys hp → ∀ a, Ok (cC bx) a ((43, .tuple #[int (1 : Nat), .bool false, zM, zM]) :: frC d true false c0 c1) → Co Tryz.prog (G (b.at a (.inRegion ops11 [1, 2, 3] :: .code blk4 :: .inBlock 3 :: kC k)) cs) w Goal) :
    ∀ (q i j : Nat) (a0 b0 : Bool) (hp : Hq), i ≤ xs.length → j ≤ ys.length → (xs.length - i) + (ys.length - j) + (if a0 then 0 else 1) + (if b0 then 0 else 1) = q → (a0 = true → i = xs.length) → (b0 = true → j = ys.length) → ¬ (a0 = true ∧ b0 = true) → DS W o d m0 m1 q0 q1 (xs.take i) (ys.take j) hp →
      TC (XC W o xs ys BW Goal (.ga c0 c1 i j a0 b0) ro) (cC bx) b cs (150 * q + 1) (.code bodyC :: kC k) (frC d a0 b0 c0 c1) hp := by
  intro q
  induction q with
  | zero =>
    intro i j a0 b0 hp _ _ hq _ _ hn _
    exfalso
    cases a0 <;> cases b0 <;> simp at hq hn
  | succ q ih =>
    intro i j a0 b0 hp hi hj hq ha hb hn hD
    have hmid : TC (XC W o xs ys BW Goal (.ga c0 c1 i j a0 b0) ro) (cC bx) b cs (150 * q + 140) (.code .skip :: .code (.block 3 blk3) :: kC k) (frC d a0 b0 c0 c1) hp := by
      refine qI (Y3 (v4 (v4 (p8 (B9 rfl rfl hk rfl (w9 (p8 (B9 rfl rfl hk rfl (w9 (v4 (p8 ?_))))))))))); refine qj4 rfl hk rfl rfl rfl (fun _ => n5) (fun h1 h2 => ?k0) (fun h1 h2 => ?k1) (fun h1 h2 h3 => ?e0) (fun h1 h2 h3 => ?e1) (fun h1 h2 h3 h4 w g1 g2 g3 a ha => ?f0) (fun h1 h2 h3 h4 w g1 g2 g3 a ha => ?f1)
      case k0 =>
        refine J8 (v := int (0 : Nat)) rfl rfl hk rfl rfl ?_; refine cI rfl rfl hk rfl rfl (cI rfl rfl hk rfl rfl (w9 (Y3 (K8 true rfl (v4 (p8 ?_)))))); refine J8 (v := mkV (xs.getD i default)) rfl rfl hk rfl rfl (J8 (v := .bool true) rfl rfl hk rfl rfl ?_); refine jS rfl rfl hk T.r7 (fun _ _ => n5) fun g hg hng => ?_; refine nC (us := #[int (Prod.fst (xs.getD i default)), int (Prod.fst (Prod.snd (xs.getD i default))), str (Prod.snd (Prod.snd (xs.getD i default)))]) (hp' := hp) rfl hk rfl rfl l6 hng T.c6 rfl rfl ?_; refine G4 rfl rfl hk rfl (w9 (v4 (v4 (p8 (B9 rfl rfl hk rfl (iq9 rfl rfl hk rfl (w9 (K8 false rfl (qI (p8 (B9 rfl rfl hk rfl ?_))))))))))); refine sV (vs := [int (Prod.fst (xs.getD i default)), int (Prod.fst (Prod.snd (xs.getD i default))), str (Prod.snd (Prod.snd (xs.getD i default)))]) rfl rfl hk T.j0 T.c6 rfl rfl (zU (vs := #[int (Prod.fst (xs.getD i default)), int (Prod.fst (Prod.snd (xs.getD i default))), str (Prod.snd (Prod.snd (xs.getD i default)))]) (List.mem_cons_self ..) fun j u hu => by rw [Nat.zero_add]; simpa using hu) ?_; refine cz0 (hp' := hp) (vs := [ptrB d, int ((0 : Nat) : Int), mkV (xs.getD i default)]) (.inl rfl) hk F.dT rfl (fun q hq => List.mem_cons_of_mem _ hq) fun a hok => ?_; refine sq1 hD (by rw [List.length_take]; omega) fun hp2 hD2 => ix9 rfl rfl rfl hok ?_; rw [← kj5 (by exact h2)] at hD2; refine w9 (bK (bK (uI ?_))); have h2' : i < xs.length := h2; exact G7 (m := 150 * q + 1) (by omega) (iL mC (ih (i + 1) j a0 b0 hp2 (by omega) (by omega) (by omega) (by simp [h1]) (by intro h; have := hb h; omega) hn hD2))
      case k1 =>
        refine J8 (v := int (1 : Nat)) rfl rfl hk rfl rfl ?_; refine cI rfl rfl hk rfl rfl (cI rfl rfl hk rfl rfl (w9 (Y3 (K8 false rfl (K8 true rfl (v4 (p8 ?_))))))); refine J8 (v := mkV (ys.getD j default)) rfl rfl hk rfl rfl (J8 (v := .bool true) rfl rfl hk rfl rfl ?_); refine jS rfl rfl hk T.r7 (fun _ _ => n5) fun g hg hng => ?_; refine nC (us := #[int (Prod.fst (ys.getD j default)), int (Prod.fst (Prod.snd (ys.getD j default))), str (Prod.snd (Prod.snd (ys.getD j default)))]) (hp' := hp) rfl hk rfl rfl l6 hng T.c6 rfl rfl ?_; refine G4 rfl rfl hk rfl (w9 (v4 (v4 (p8 (B9 rfl rfl hk rfl (iq9 rfl rfl hk rfl (w9 (K8 false rfl (qI (p8 (B9 rfl rfl hk rfl ?_))))))))))); refine sV (vs := [int (Prod.fst (ys.getD j default)), int (Prod.fst (Prod.snd (ys.getD j default))), str (Prod.snd (Prod.snd (ys.getD j default)))]) rfl rfl hk T.j0 T.c6 rfl rfl (zU (vs := #[int (Prod.fst (ys.getD j default)), int (Prod.fst (Prod.snd (ys.getD j default))), str (Prod.snd (Prod.snd (ys.getD j default)))]) (List.mem_cons_self ..) fun j u hu => by rw [Nat.zero_add]; simpa using hu) ?_; refine cz0 (hp' := hp) (vs := [ptrB d, int ((1 : Nat) : Int), mkV (ys.getD j default)]) (.inl rfl) hk F.dT rfl (fun q hq => List.mem_cons_of_mem _ hq) fun a hok => ?_; refine sq0 hD (by rw [List.length_take]; omega) fun hp2 hD2 => ix9 rfl rfl rfl hok ?_; rw [← kj5 (by exact h2)] at hD2; refine w9 (bK (bK (uI ?_))); have h2' : j < ys.length := h2; exact G7 (m := 150 * q + 1) (by omega) (iL mC (ih i (j + 1) a0 b0 hp2 (by omega) (by omega) (by omega) (fun h => by have := ha h; omega) (by simp [h1]) hn hD2))
      case e0 =>
        refine J8 (v := int (0 : Nat)) rfl rfl hk rfl rfl ?_; refine cI rfl rfl hk rfl rfl (cI rfl rfl hk rfl rfl (w9 (Y3 (K8 true rfl (v4 (p8 ?_)))))); refine J8 (v := mkV (0, 0, [])) rfl rfl hk rfl rfl (J8 (v := .bool false) rfl rfl hk rfl rfl ?_); refine jS rfl rfl hk T.r7 (fun _ _ => n5) fun g hg hng => ?_; refine nC (us := #[int 0, int 0, str []]) (hp' := hp) rfl hk rfl rfl l6 hng T.c6 rfl rfl ?_; refine G4 rfl rfl hk rfl (w9 (v4 (v4 (p8 (B9 rfl rfl hk rfl (iq9 rfl rfl hk rfl (w9 (K8 true rfl (v4 (p8 (G4 rfl rfl hk rfl ?_))))))))))); refine w9 (cz1 (kC k) rfl ?_); refine wG (hp' := hp) (fun q hq => List.mem_cons_of_mem _ hq) ?_; exact G7 (m := 150 * q + 1) (by omega) (iL mC (ih i j true b0 hp hi hj (by rw [h1] at hq; simp at hq ⊢; omega) (fun _ => h2) hb (by rw [h3]; rintro ⟨_, h⟩; cases h) hD))
      case e1 =>
        refine J8 (v := int (1 : Nat)) rfl rfl hk rfl rfl ?_; refine cI rfl rfl hk rfl rfl (cI rfl rfl hk rfl rfl (w9 (Y3 (K8 false rfl (K8 true rfl (v4 (p8 ?_))))))); refine J8 (v := mkV (0, 0, [])) rfl rfl hk rfl rfl (J8 (v := .bool false) rfl rfl hk rfl rfl ?_); refine jS rfl rfl hk T.r7 (fun _ _ => n5) fun g hg hng => ?_; refine nC (us := #[int 0, int 0, str []]) (hp' := hp) rfl hk rfl rfl l6 hng T.c6 rfl rfl ?_; refine G4 rfl rfl hk rfl (w9 (v4 (v4 (p8 (B9 rfl rfl hk rfl (iq9 rfl rfl hk rfl (w9 (K8 true rfl (v4 (p8 (G4 rfl rfl hk rfl ?_))))))))))); refine w9 (cz1 (kC k) rfl ?_); refine wG (hp' := hp) (fun q hq => List.mem_cons_of_mem _ hq) ?_; exact G7 (m := 150 * q + 1) (by omega) (iL mC (ih i j a0 true hp hi hj (by rw [h1] at hq; simp at hq ⊢; omega) ha (fun _ => h2) (by rw [h3]; rintro ⟨h, _⟩; cases h) hD))
      case f0 =>
        subst h1 h3; have hi2 : i = xs.length := h2; have hj2 : j = ys.length := h4; rw [hi2, hj2, List.take_length, List.take_length] at hD; exact f0 w hp g1 g2 hD a (ha.sub mC)
      case f1 =>
        subst h1 h3; have hi2 : i = xs.length := h4; have hj2 : j = ys.length := h2; rw [hi2, hj2, List.take_length, List.take_length] at hD; exact f1 w hp g1 g2 hD a (ha.sub mC)
    refine G7 (m := 150 * q + 151) (by omega) ?_; refine v4 (v4 (p8 (B9 rfl rfl hk rfl ?_)))
    cases a0 with
    | false =>
      refine dj5 (p := some c0) (q := none) rfl rfl hk Tryz.underlying115 rfl rfl ?_; refine B9 rfl rfl hk rfl (tg_no rfl rfl rfl rfl rfl rfl rfl (tg_no rfl rfl rfl rfl rfl rfl rfl ?_)); refine mz0 (p := !(some c0 == none)) rfl rfl hk rfl rfl ?_; refine w9 (K8 true rfl ?_); exact G7 (m := 150 * q + 140) (by omega) (iL mC hmid)
    | true =>
      cases b0 with
      | true => exact absurd ⟨rfl, rfl⟩ hn
      | false =>
        refine dj5 (p := none) (q := none) rfl rfl hk Tryz.underlying115 rfl rfl ?_; refine B9 rfl rfl hk rfl (qq8 rfl rfl rfl rfl rfl hk rfl ?_); refine kj0 (p := some c1) (q := none) rfl rfl rfl rfl rfl hk Tryz.underlying115 rfl rfl (mz0 (p := !((none : Option Nat) == none)) (v := .bool (!(some c1 == none))) rfl rfl hk rfl rfl ?_); refine w9 (K8 true rfl ?_); exact G7 (m := 150 * q + 140) (by omega) (iL mC hmid)
end
set_option maxRecDepth 20000
theorem tJ {ops : Array Oper} {i j : Nat} (h : (edgesOf ops i).contains j = true) : j ∈ edgesOf ops i := by simpa using h
noncomputable def ops5 : Array Oper := regionAt 5 (Tryz.f32.body.getD .skip)
abbrev tab5 (d j : Nat) (va vb : Value) : List (Option Nat × Tmp × Value) := [(none, 0, va), (none, 1, vb), (none, 5, .pointer (k5 d)), (none, 6, int (j : Int)), (none, 15, int (j : Int)), (some 0, 18, .pointer (k5 d)), (some 1, 19, int (j : Int)), (some 2, 20, .pointer (k5 d)), (some 3, 21, int (j : Int)), (some 6, 24, .pointer (k5 d)), (some 7, 25, .pointer (k5 d)), (some 8, 26, .pointer (some ⟨d, 0 + j, none⟩)), (some 10, 27, .pointer (k5 d)), (some 11, 28, .pointer (some ⟨d, 2, none⟩)), (some 12, 29, .pointer (some ⟨d, 2 + j, none⟩))]
def Fin5 (W : World) (o : List Nat) (d j : Nat) (dc : Array Value) (rest5 hp : Hq) : Prop :=
  ∃ g4 g5, hp = (d, Obj.cells ((dc.setIfInBounds (0 + j) (.map (some g4))).setIfInBounds (2 + j) (.map (some g5))) T.y7 (0, 0)) :: ([(g4, mapO int [] 0)] ++ [(g5, mapO int [] 0)] ++ rest5) ∧ (hp.map (·.1)).Nodup ∧ Inn W o hp
def St5 (W : World) (o : List Nat) (d j : Nat) (dc : Array Value) (rest5 : Hq) (b4 b5 b9 b13 : Bool) (fr : Fr) (hp : Hq) : Prop :=
  if b13 = true then Fin5 W o d j dc rest5 hp else
  ∃ g4 g5, (b4 = true → lk fr 22 = some (.map (some g4))) ∧ (b5 = true → lk fr 23 = some (.map (some g5))) ∧
    hp.Perm ((d, .cells (if b9 = true then dc.setIfInBounds (0 + j) (.map (some g4)) else dc) T.y7 (0, 0)) :: ((if b4 = true then [(g4, mapO int [] 0)] else []) ++ (if b5 = true then [(g5, mapO int [] 0)] else []) ++ rest5)) ∧ (hp.map (·.1)).Nodup ∧ Inn W o hp
section
variable {va vb : Value} {W : World} {o : List Nat} {d j : Nat} {dc : Array Value} {rest5 hp : Hq} {fr : Fr} {b4 b5 b9 b13 c4 c5 c9 c13 : Bool} {ld : Nat → Bool}
theorem O8 (h1 : c4 = b4) (h2 : c5 = b5) (h3 : c9 = b9) (h4 : c13 = b13) (h : St5 W o d j dc rest5 b4 b5 b9 b13 fr hp) : St5 W o d j dc rest5 c4 c5 c9 c13 fr hp := by subst h1 h2 h3 h4; exact h
theorem mz3 : (tab5 d j va vb).map (·.2.1) = [0, 1, 5, 6, 15, 18, 19, 20, 21, 24, 25, 26, 27, 28, 29] := rfl
theorem tab5_is : (tab5 d j va vb).filterMap (·.1) = [0, 1, 2, 3, 6, 7, 8, 10, 11, 12] := rfl
theorem gU : ((tab5 d j va vb).map (·.2.1)).Nodup := by show [0, 1, 5, 6, 15, 18, 19, 20, 21, 24, 25, 26, 27, 28, 29].Nodup; decide
theorem gT : ((tab5 d j va vb).filterMap (·.1)).Nodup := by show [0, 1, 2, 3, 6, 7, 8, 10, 11, 12].Nodup; decide
theorem xS {e : Option Nat × Tmp × Value} {i : Nat} (ht : Tab (tab5 d j va vb) ld fr) (he : e ∈ tab5 d j va vb) (hl : e.1.all (fun q => ld q || Nat.beq q i) = true) (hi : i ∉ [0, 1, 2, 3, 6, 7, 8, 10, 11, 12]) : lk fr e.2.1 = some e.2.2 := by
  refine ht e he ?_
  cases h1 : e.1 with
  | none => rfl
  | some q =>
    rw [h1] at hl; simp only [Option.all_some, Bool.or_eq_true] at hl ⊢
    rcases hl with hl | hl
    · exact hl
    obtain rfl := Nat.eq_of_beq_eq_true hl; have h2 : q ∈ (tab5 d j va vb).filterMap (·.1) := List.mem_filterMap.2 ⟨e, he, h1⟩; rw [tab5_is] at h2; exact absurd h2 hi
variable {v : Nat → Nat → Value} {nn : Nat → Nat} {z : Value} {BW : Nat} {Goal : Goroutine → World → Prop} {ms : Ms} {ro : Hq}
variable {b : Frame} {cs : List Frame} {k : List Item} {bx : Bx}
theorem step5 (hk2 : b.kind ≠ .early) (hr : j < 2) (hdc : dc.size = 4) :
    ∀ i, i < 14 → ∀ (ld : Nat → Bool) fr hp, (Tab (tab5 d j va vb) ld fr ∧ St5 W o d j dc rest5 (ld 4) (ld 5) (ld 9) (ld 13) fr hp) → (∀ i, ld i = true → ∀ j ∈ edgesOf ops5 i, ld j = true) → ld i = false → (∀ j ∈ edgesOf ops5 i, ld j = true) →
      ∀ n rest, (∀ fr' hp', (Tab (tab5 d j va vb) (fun j => ld j || Nat.beq j i) fr' ∧ St5 W o d j dc rest5 (ld 4 || Nat.beq 4 i) (ld 5 || Nat.beq 5 i) (ld 9 || Nat.beq 9 i) (ld 13 || Nat.beq 13 i) fr' hp') → TC (XM W o v nn z BW Goal ms ro) (cC bx) b cs n (.inRegion ops5 rest :: k) fr' hp') →
        TC (XM W o v nn z BW Goal ms ro) (cC bx) b cs (n + 1) (.inRegion ops5 (i :: rest) :: k) fr hp := by
  rintro i hi ld fr hp ⟨ht, hm⟩ hcl hn hd n rest hk
  have h13 : ld 13 = false := by
    cases h : ld 13 with
    | false => rfl
    | true =>
      by_cases e : i = 13
      · rw [← e, hn] at h; cases h
      have hall : (List.range 13).all (deps ops5 14 13) = true := n5
      have h2 := rN hcl 14 13 i (hcl 13 h) (List.all_eq_true.1 hall i (List.mem_range.2 (by omega))); rw [hn] at h2; cases h2
  have hm' := hm; rw [h13] at hm'; have hcases : i = 0 ∨ i = 1 ∨ i = 2 ∨ i = 3 ∨ i = 4 ∨ i = 5 ∨ i = 6 ∨ i = 7 ∨ i = 8 ∨ i = 9 ∨ i = 10 ∨ i = 11 ∨ i = 12 ∨ i = 13 := by omega
  rcases hcases with rfl | rfl | rfl | rfl | rfl | rfl | rfl | rfl | rfl | rfl | rfl | rfl | rfl | rfl
  · obtain ⟨g4, g5, s1, s2, s3, s4, s5⟩ := hm'
    have h5 : lk fr 5 = some (.pointer (k5 d)) := ht.base mC; refine B9 rfl rfl hk2 h5 ?_; refine hk _ _ ⟨ht.put 0 mC gU gT, ?_⟩; refine O8 (u1 rfl) (u1 rfl) (u1 rfl) (u1 rfl) ?_; rw [h13]; exact ⟨g4, g5, fun h => by rw [p9, if_neg (by decide)]; exact s1 h, fun h => by rw [p9, if_neg (by decide)]; exact s2 h, s3, s4, s5⟩
  · obtain ⟨g4, g5, s1, s2, s3, s4, s5⟩ := hm'
    have h6 : lk fr 6 = some (int (j : Int)) := ht.base mC; refine B9 rfl rfl hk2 h6 ?_; refine hk _ _ ⟨ht.put 1 mC gU gT, ?_⟩; refine O8 (u1 rfl) (u1 rfl) (u1 rfl) (u1 rfl) ?_; rw [h13]; exact ⟨g4, g5, fun h => by rw [p9, if_neg (by decide)]; exact s1 h, fun h => by rw [p9, if_neg (by decide)]; exact s2 h, s3, s4, s5⟩
  · obtain ⟨g4, g5, s1, s2, s3, s4, s5⟩ := hm'
    have h5 : lk fr 5 = some (.pointer (k5 d)) := ht.base mC; refine B9 rfl rfl hk2 h5 ?_; refine hk _ _ ⟨ht.put 2 mC gU gT, ?_⟩; refine O8 (u1 rfl) (u1 rfl) (u1 rfl) (u1 rfl) ?_; rw [h13]; exact ⟨g4, g5, fun h => by rw [p9, if_neg (by decide)]; exact s1 h, fun h => by rw [p9, if_neg (by decide)]; exact s2 h, s3, s4, s5⟩
  · obtain ⟨g4, g5, s1, s2, s3, s4, s5⟩ := hm'
    have h6 : lk fr 6 = some (int (j : Int)) := ht.base mC; refine B9 rfl rfl hk2 h6 ?_; refine hk _ _ ⟨ht.put 3 mC gU gT, ?_⟩; refine O8 (u1 rfl) (u1 rfl) (u1 rfl) (u1 rfl) ?_; rw [h13]; exact ⟨g4, g5, fun h => by rw [p9, if_neg (by decide)]; exact s1 h, fun h => by rw [p9, if_neg (by decide)]; exact s2 h, s3, s4, s5⟩
  · obtain ⟨g4, g5, s1, s2, s3, s4, s5⟩ := hm'
    have h9 : ld 9 = false := by
      cases h : ld 9 with
      | false => rfl
      | true =>
        have := hcl 9 h 4 (tJ n5); rw [hn] at this; cases this
    refine zZ (.map #[] 0) (fun g => .map (some g)) rfl rfl rfl rfl hk2 (fun a w _ => ⟨rfl, rfl⟩) fun g hg hng => ?_; refine hk _ _ ⟨?_, ?_⟩
    · intro e he hl
      have hne : e.2.1 ≠ 22 := by
        rintro h; have h1 : e.2.1 ∈ (tab5 d j va vb).map (·.2.1) := List.mem_map.2 ⟨e, he, rfl⟩; rw [mz3, h] at h1; exact absurd h1 (by decide)
      rw [p9, if_neg (Ne.symm hne)]; exact xS ht he hl (by decide)
    refine O8 (kx4 rfl) (u1 rfl) (u1 rfl) (u1 rfl) ?_; rw [h13]; refine ⟨g, g5, fun _ => by rw [p9, if_pos rfl], fun h => by rw [p9, if_neg (by decide)]; exact s2 h, ?_, uQ s4 hng, fun q hq => ?_⟩
    · rw [h9, hn] at s3
      rw [h9]; refine (List.Perm.cons _ s3).trans (C0 fun p => ?_); simp only [Bool.false_eq_true, if_false, if_true, mapO, List.map_nil, List.nil_append, List.countP_append, List.countP_cons, List.countP_nil]
      omega
    rcases List.mem_cons.1 hq with rfl | hq
    · exact .inr hg
    exact s5 q hq
  · obtain ⟨g4, g5, s1, s2, s3, s4, s5⟩ := hm'
    refine zZ (.map #[] 0) (fun g => .map (some g)) rfl rfl rfl rfl hk2 (fun a w _ => ⟨rfl, rfl⟩) fun g hg hng => ?_; refine hk _ _ ⟨?_, ?_⟩
    · intro e he hl
      have hne : e.2.1 ≠ 23 := by
        rintro h; have h1 : e.2.1 ∈ (tab5 d j va vb).map (·.2.1) := List.mem_map.2 ⟨e, he, rfl⟩; rw [mz3, h] at h1; exact absurd h1 (by decide)
      rw [p9, if_neg (Ne.symm hne)]; exact xS ht he hl (by decide)
    refine O8 (u1 rfl) (kx4 rfl) (u1 rfl) (u1 rfl) ?_; rw [h13]; refine ⟨g4, g, fun h => by rw [p9, if_neg (by decide)]; exact s1 h, fun _ => by rw [p9, if_pos rfl], ?_, uQ s4 hng, fun q hq => ?_⟩
    · rw [hn] at s3
      refine (List.Perm.cons _ s3).trans (C0 fun p => ?_); simp only [Bool.false_eq_true, if_false, if_true, mapO, List.map_nil, List.nil_append, List.append_nil, List.countP_append, List.countP_cons, List.countP_nil]
      omega
    rcases List.mem_cons.1 hq with rfl | hq
    · exact .inr hg
    exact s5 q hq
  · obtain ⟨g4, g5, s1, s2, s3, s4, s5⟩ := hm'
    have h18 : lk fr 18 = some (.pointer (k5 d)) := ht.of (j := 0) (hd 0 (tJ n5)) mC; refine hU rfl rfl hk2 h18 ?_; refine hk _ _ ⟨ht.put 6 mC gU gT, ?_⟩; refine O8 (u1 rfl) (u1 rfl) (u1 rfl) (u1 rfl) ?_; rw [h13]; exact ⟨g4, g5, fun h => by rw [p9, if_neg (by decide)]; exact s1 h, fun h => by rw [p9, if_neg (by decide)]; exact s2 h, s3, s4, s5⟩
  · obtain ⟨g4, g5, s1, s2, s3, s4, s5⟩ := hm'
    have h24 : lk fr 24 = some (.pointer (k5 d)) := ht.of (j := 6) (hd 6 (tJ n5)) mC; refine I1 ⟨d, 0, none⟩ rfl rfl hk2 h24 T.H3 (fun _ _ _ => n5) rfl ?_; refine hk _ _ ⟨ht.put 7 mC gU gT, ?_⟩; refine O8 (u1 rfl) (u1 rfl) (u1 rfl) (u1 rfl) ?_; rw [h13]; exact ⟨g4, g5, fun h => by rw [p9, if_neg (by decide)]; exact s1 h, fun h => by rw [p9, if_neg (by decide)]; exact s2 h, s3, s4, s5⟩
  · obtain ⟨g4, g5, s1, s2, s3, s4, s5⟩ := hm'
    have h25 : lk fr 25 = some (.pointer (k5 d)) := ht.of (j := 7) (hd 7 (tJ n5)) mC; have h19 : lk fr 19 = some (int (j : Int)) := ht.of (j := 1) (hd 1 (tJ n5)) mC; refine hZ (o := 0) (q := 0 + j) j rfl rfl hk2 T.C2 T.B6 h25 h19 rfl hr (by omega) ?_; refine hk _ _ ⟨ht.put 8 mC gU gT, ?_⟩; refine O8 (u1 rfl) (u1 rfl) (u1 rfl) (u1 rfl) ?_; rw [h13]; exact ⟨g4, g5, fun h => by rw [p9, if_neg (by decide)]; exact s1 h, fun h => by rw [p9, if_neg (by decide)]; exact s2 h, s3, s4, s5⟩
  · obtain ⟨g4, g5, s1, s2, s3, s4, s5⟩ := hm'
    have h26 : lk fr 26 = some (.pointer (some ⟨d, 0 + j, none⟩)) := ht.of (j := 8) (hd 8 (tJ n5)) mC; have h4 : ld 4 = true := hd 4 (tJ n5); rw [hn] at s3; simp only [Bool.false_eq_true, if_false] at s3
    have hnx : ¬ Has ((if ld 4 = true then [(g4, mapO int [] 0)] else []) ++ (if ld 5 = true then [(g5, mapO int [] 0)] else []) ++ rest5) d := fun h => by
      have := (s3.map (·.1)).nodup_iff.1 s4; rw [List.map_cons, List.nodup_cons] at this; exact this.1 (dz7.1 h)
    refine xK (u := dc.getD (0 + j) undef) rfl hk2 h26 (s1 h4) s3 hnx T.B6 (by rw [Array.getD_eq_getD_getElem?, Array.getElem?_eq_getElem (by omega)]; rfl) rfl ?_; refine hk _ _ ⟨fun e he hl => xS ht he hl (by decide), ?_⟩; refine O8 (u1 rfl) (u1 rfl) (kx4 rfl) (u1 rfl) ?_; rw [h13]; have nd9 := (s3.map (·.1)).nodup_iff.1 s4; refine ⟨g4, g5, s1, s2, ?_, ?_, ?_⟩
    · simp only [if_true]
      exact .refl _
    · simpa using nd9
    intro q hq
    rcases List.mem_cons.1 hq with rfl | hq
    · exact s5 (d, .cells dc T.y7 (0, 0)) (s3.mem_iff.2 (List.mem_cons_self ..))
    exact s5 q (s3.mem_iff.2 (List.mem_cons_of_mem _ hq))
  · obtain ⟨g4, g5, s1, s2, s3, s4, s5⟩ := hm'
    have h20 : lk fr 20 = some (.pointer (k5 d)) := ht.of (j := 2) (hd 2 (tJ n5)) mC; refine hU rfl rfl hk2 h20 ?_; refine hk _ _ ⟨ht.put 10 mC gU gT, ?_⟩; refine O8 (u1 rfl) (u1 rfl) (u1 rfl) (u1 rfl) ?_; rw [h13]; exact ⟨g4, g5, fun h => by rw [p9, if_neg (by decide)]; exact s1 h, fun h => by rw [p9, if_neg (by decide)]; exact s2 h, s3, s4, s5⟩
  · obtain ⟨g4, g5, s1, s2, s3, s4, s5⟩ := hm'
    have h27 : lk fr 27 = some (.pointer (k5 d)) := ht.of (j := 10) (hd 10 (tJ n5)) mC; refine I1 ⟨d, 2, none⟩ rfl rfl hk2 h27 T.U2 (fun _ _ _ => n5) rfl ?_; refine hk _ _ ⟨ht.put 11 mC gU gT, ?_⟩; refine O8 (u1 rfl) (u1 rfl) (u1 rfl) (u1 rfl) ?_; rw [h13]; exact ⟨g4, g5, fun h => by rw [p9, if_neg (by decide)]; exact s1 h, fun h => by rw [p9, if_neg (by decide)]; exact s2 h, s3, s4, s5⟩
  · obtain ⟨g4, g5, s1, s2, s3, s4, s5⟩ := hm'
    have h28 : lk fr 28 = some (.pointer (some ⟨d, 2, none⟩)) := ht.of (j := 11) (hd 11 (tJ n5)) mC; have h21 : lk fr 21 = some (int (j : Int)) := ht.of (j := 3) (hd 3 (tJ n5)) mC; refine hZ (o := 2) (q := 2 + j) j rfl rfl hk2 T.I2 T.G3 h28 h21 rfl hr (by omega) ?_; refine hk _ _ ⟨ht.put 12 mC gU gT, ?_⟩; refine O8 (u1 rfl) (u1 rfl) (u1 rfl) (u1 rfl) ?_; rw [h13]; exact ⟨g4, g5, fun h => by rw [p9, if_neg (by decide)]; exact s1 h, fun h => by rw [p9, if_neg (by decide)]; exact s2 h, s3, s4, s5⟩
  obtain ⟨g4, g5, s1, s2, s3, s4, s5⟩ := hm'; have hall : (List.range 13).all (deps ops5 14 13) = true := n5
  have hld : ∀ q, q < 13 → ld q = true := fun q hq => rN hcl 14 13 q hd (List.all_eq_true.1 hall q (List.mem_range.2 hq)); have h29 : lk fr 29 = some (.pointer (some ⟨d, 2 + j, none⟩)) := ht.of (j := 12) (hld 12 (by omega)) mC; rw [hld 9 (by omega), hld 4 (by omega), hld 5 (by omega)] at s3; simp only [if_true] at s3
  have hnx : ¬ Has ([(g4, mapO int [] 0)] ++ [(g5, mapO int [] 0)] ++ rest5) d := fun h => by
    have := (s3.map (·.1)).nodup_iff.1 s4; rw [List.map_cons, List.nodup_cons] at this; exact this.1 (dz7.1 h)
  refine xK (u := (dc.setIfInBounds (0 + j) (.map (some g4))).getD (2 + j) undef) rfl hk2 h29 (s2 (hld 5 (by omega))) s3 hnx T.G3 (by rw [Array.getD_eq_getD_getElem?, Array.getElem?_eq_getElem (by simp; omega)]; rfl) rfl ?_; refine hk _ _ ⟨fun e he hl => xS ht he hl (by decide), ?_⟩; have nd9 := (s3.map (·.1)).nodup_iff.1 s4
  have hF : Fin5 W o d j dc rest5 ((d, .cells ((dc.setIfInBounds (0 + j) (.map (some g4))).setIfInBounds (2 + j) (.map (some g5))) T.y7 (0, 0)) :: ([(g4, mapO int [] 0)] ++ [(g5, mapO int [] 0)] ++ rest5)) := by
    refine ⟨g4, g5, rfl, by simpa using nd9, fun q hq => ?_⟩
    rcases List.mem_cons.1 hq with rfl | hq
    · exact s5 (d, .cells (dc.setIfInBounds (0 + j) (.map (some g4))) T.y7 (0, 0)) (s3.mem_iff.2 (List.mem_cons_self ..))
    exact s5 q (s3.mem_iff.2 (List.mem_cons_of_mem _ hq))
  refine O8 (b4 := ld 4) (b5 := ld 5) (b9 := ld 9) (u1 rfl) (u1 rfl) (u1 rfl) (kx4 rfl) ?_; exact hF
theorem edges5 : ∀ i, i < 14 → ∀ j ∈ edgesOf ops5 i, j < i := fun i hi j hj => by
  have h : ((List.range 14).all fun i => (edgesOf ops5 i).all fun j => Nat.blt j i) = true := n5
  have h1 := List.all_eq_true.1 (List.all_eq_true.1 h i (List.mem_range.2 hi)) j hj
  simpa using h1
theorem rq9 {n : Nat} (hk2 : b.kind ≠ .early) (hr : j < 2) (hdc : dc.size = 4) (h0 : lk fr 0 = some va) (h1 : lk fr 1 = some vb) (h5 : lk fr 5 = some (ptrB d)) (h6 : lk fr 6 = some (int (j : Int))) (h15 : lk fr 15 = some (int (j : Int))) (hpp : hp.Perm ((d, .cells dc T.y7 (0, 0)) :: rest5)) (nd : (hp.map (·.1)).Nodup) (inn : Inn W o hp)
    (hend : ∀ g4 g5 hp', hp' = (d, Obj.cells ((dc.setIfInBounds (0 + j) (.map (some g4))).setIfInBounds (2 + j) (.map (some g5))) T.y7 (0, 0)) :: ([(g4, mapO int [] 0)] ++ [(g5, mapO int [] 0)] ++ rest5) → (hp'.map (·.1)).Nodup → Inn W o hp' → TC (XM W o v nn z BW Goal ms ro) (cC bx) b cs n k [(0, va), (1, vb), (5, ptrB d), (6, int (j : Int)), (15, int (j : Int))] hp') :
    TC (XM W o v nn z BW Goal ms ro) (cC bx) b cs (n + 1 + 14 + 1) (.code (.region 5 ops5 true) :: k) fr hp := by
  refine iL (fr' := [(0, va), (1, vb), (5, ptrB d), (6, int (j : Int)), (15, int (j : Int))]) ⟨h0, h1, h5, h6, h15, tK⟩ ?_; refine qJ (m := 14) mixed n5 (fun ld fr hp1 => Tab (tab5 d j va vb) ld fr ∧ St5 W o d j dc rest5 (ld 4) (ld 5) (ld 9) (ld 13) fr hp1) (step5 hk2 hr hdc) edges5 ⟨?_, ?_⟩ ?_
  · intro e he hl
    simp only [tab5, List.mem_cons, List.not_mem_nil, or_false] at he
    rcases he with rfl | rfl | rfl | rfl | rfl | he
    · rfl
    · rfl
    · rfl
    · rfl
    · rfl
    exfalso
    rcases he with rfl | rfl | rfl | rfl | rfl | rfl | rfl | rfl | rfl | rfl <;> cases hl
  · show ∃ g4 g5, _
    exact ⟨0, 0, (fun h => by cases h), (fun h => by cases h), hpp, nd, inn⟩
  rintro ld fr hp1 hall ⟨ht, hm⟩; rw [hall 13 (by omega)] at hm; obtain ⟨g4, g5, e, h1, h2⟩ := (show Fin5 W o d j dc rest5 hp1 from hm); refine w9 ?_; exact iL (fr' := [(0, va), (1, vb), (5, ptrB d), (6, int (j : Int)), (15, int (j : Int))]) ⟨ht.base mC, ht.base mC, ht.base mC, ht.base mC, ht.base mC, tK⟩ (hend g4 g5 hp1 e h1 h2)
end
set_option maxRecDepth 20000
def seqR : Code → Code
  | .seq _ y => y
  | _ => .skip
section
variable {c : Cx} {Q : Exit → Act → World → Prop} {fr : Fr} {hp : Hp} {L : List Fact} {ops : Array Oper} {rest : List Oper} {d : Tmp} {t ty : TypeId} {pos : String} {af : Array Edge} {x y : Operand}
theorem uM {e yt : TypeId} {dir : ChanDir} {p q : Option Nat} (hd : Nat.blt d c.n = true) (ht : c.P.underlying t = some (.chan dir e)) (hx : ev fr x = some (.chan p)) (hy : ev fr y = some (.chan q)) (k : HL c ops Q rest ((d, .bool (!(p == q))) :: fr) hp L) : HL c ops Q (⟨some d, .binOp .neq t x y yt, ty, pos, af, none⟩ :: rest) fr hp L :=
  u5 _ rfl rfl hd (fun a w ha _ => by
    obtain ⟨h1, h2, h3, h4⟩ := bY ht x y p q w
    simp only [execOp, ha.ev hx, ha.ev hy, Sem.run_bind, h1, h3, Result.andThen_ok, Sem.run_pure]) k
end
section
variable {b : Frame} {k : List Item} {cs : List Frame} {bx : Bx} {c0 c1 d : Nat} {hp : Hp} {L : List Fact} {Goal : Goroutine → World → Prop}
theorem tail_0 (hk : b.kind ≠ .early) (hro : b.roundOf = none) {a : Act} {w : World} (ha : Ok (cC bx) a ((43, .tuple #[int (0 : Nat), .bool false, zM, zM]) :: frC d false true c0 c1)) (hw : WI bx w hp L)
    (hend : ∀ a w, Ok (cC bx) a [(5, ptrB d)] → WI bx w hp L → Co Tryz.prog (G (b.at a k) cs) w Goal) : Co Tryz.prog (G (b.at a (.inRegion ops11 [1, 2, 3] :: .code blk4 :: .inBlock 3 :: kC k)) cs) w Goal := by
  let Q1 : Exit → Act → World → Prop := fun e a w => e = .normal ∧ Ok (cC bx) a ((46, .bool false) :: (45, .bool true) :: (43, .tuple #[int (0 : Nat), .bool false, zM, zM]) :: frC d false true c0 c1) ∧ WI bx w hp L
  have h1 : HL (cC bx) ops11 Q1 (ops11.toList.drop 1) ((43, .tuple #[int (0 : Nat), .bool false, zM, zM]) :: frC d false true c0 c1) hp L := by
    refine j6 rfl rfl rfl (E3 rfl rfl rfl ?_); refine E3 rfl rfl rfl (d6 ?_); exact ij2 fun a w ha hw => ⟨rfl, ha.sub mC, hw⟩
  refine co_hl (i := 1) h1 rfl ha hw hk hro fun e a1 w1 hq => ?_; obtain ⟨rfl, ha1, hw1⟩ := hq; show Co Tryz.prog (G (b.at a1 (.code blk4 :: .inBlock 3 :: kC k)) cs) w1 Goal
  let Q2 : Exit → Act → World → Prop := fun e a w => e = .exit 3 ∧ Ok (cC bx) a (frC d true true c0 c1) ∧ WI bx w hp L
  refine lj9 (c := cC bx) (Q := Q2) (L := L) (hp := hp) ?_ ha1 hw1 hk hro fun e a2 w2 hq => ?_
  · refine k6 ?_
    refine pA rfl (c7 ?_); refine j6 rfl rfl rfl (j6 rfl rfl rfl ?_); refine y9 rfl T.r7 fun g => u0 (cs := #[int 0, int 0, str []]) rfl rfl (.refl _) T.c6 rfl rfl ?_; refine c3 rfl (b8 (c8 (c7 ?_))); refine b7 rfl ?_; refine cO rfl rfl (b8 ?_); refine pA rfl (c7 ?_); refine c3 rfl (b8 (s9 (H6 (aX rfl ?_)))); exact ij2 fun a w ha hw => ⟨rfl, ha.sub mC, hw.weak (List.sublist_cons_self _ _) fun _ h => h⟩
  obtain ⟨rfl, ha2, hw2⟩ := hq; intro k₁ hk1; refine E0 rfl (fun _ => stepG_exit (k' := kC k) (hk1.trans rfl)) (E0 rfl (fun _ => stepG_inLoop) ?_)
  let Q3 : Exit → Act → World → Prop := fun e a w => e = .exit 2 ∧ Ok (cC bx) a [(5, ptrB d)] ∧ WI bx w hp L
  refine lj9 (c := cC bx) (Q := Q3) (L := L) (hp := hp) ?_ ha2 hw2 hk hro fun e a3 w3 hq => ?_
  · refine c8 (c7 ?_)
    refine b7 rfl (uM (p := none) (q := none) rfl Tryz.underlying115 rfl rfl ?_); refine b7 rfl (Y6 rfl rfl rfl (b7 rfl (Y6 rfl rfl rfl ?_))); refine uM (p := none) (q := none) rfl Tryz.underlying115 rfl rfl ?_; refine dq6 rfl rfl rfl (b8 ?_); refine uV rfl (s9 (H6 ?_)); exact ij2 fun a w ha hw => ⟨rfl, ha.sub mC, hw⟩
  obtain ⟨rfl, ha3, hw3⟩ := hq; intro k₂ hk2; refine E0 rfl (fun _ => stepG_exit (k' := k) (hk2.trans rfl)) ?_; exact hend a3 w3 ha3 hw3
theorem tail_1 (hk : b.kind ≠ .early) (hro : b.roundOf = none) {a : Act} {w : World} (ha : Ok (cC bx) a ((43, .tuple #[int (1 : Nat), .bool false, zM, zM]) :: frC d true false c0 c1)) (hw : WI bx w hp L)
    (hend : ∀ a w, Ok (cC bx) a [(5, ptrB d)] → WI bx w hp L → Co Tryz.prog (G (b.at a k) cs) w Goal) : Co Tryz.prog (G (b.at a (.inRegion ops11 [1, 2, 3] :: .code blk4 :: .inBlock 3 :: kC k)) cs) w Goal := by
  let Q1 : Exit → Act → World → Prop := fun e a w => e = .normal ∧ Ok (cC bx) a ((46, .bool true) :: (45, .bool false) :: (43, .tuple #[int (1 : Nat), .bool false, zM, zM]) :: frC d true false c0 c1) ∧ WI bx w hp L
  have h1 : HL (cC bx) ops11 Q1 (ops11.toList.drop 1) ((43, .tuple #[int (1 : Nat), .bool false, zM, zM]) :: frC d true false c0 c1) hp L := by
    refine j6 rfl rfl rfl (E3 rfl rfl rfl ?_); refine E3 rfl rfl rfl (d6 ?_); exact ij2 fun a w ha hw => ⟨rfl, ha.sub mC, hw⟩
  refine co_hl (i := 1) h1 rfl ha hw hk hro fun e a1 w1 hq => ?_; obtain ⟨rfl, ha1, hw1⟩ := hq; show Co Tryz.prog (G (b.at a1 (.code blk4 :: .inBlock 3 :: kC k)) cs) w1 Goal
  let Q2 : Exit → Act → World → Prop := fun e a w => e = .exit 3 ∧ Ok (cC bx) a (frC d true true c0 c1) ∧ WI bx w hp L
  refine lj9 (c := cC bx) (Q := Q2) (L := L) (hp := hp) ?_ ha1 hw1 hk hro fun e a2 w2 hq => ?_
  · refine k6 ?_
    refine uV rfl (pA rfl ?_); refine c7 ?_; refine j6 rfl rfl rfl (j6 rfl rfl rfl ?_); refine y9 rfl T.r7 fun g => u0 (cs := #[int 0, int 0, str []]) rfl rfl (.refl _) T.c6 rfl rfl ?_; refine c3 rfl (b8 (c8 (c7 ?_))); refine b7 rfl ?_; refine cO rfl rfl (b8 ?_); refine pA rfl (c7 ?_); refine c3 rfl (b8 (s9 (H6 (aX rfl ?_)))); exact ij2 fun a w ha hw => ⟨rfl, ha.sub mC, hw.weak (List.sublist_cons_self _ _) fun _ h => h⟩
  obtain ⟨rfl, ha2, hw2⟩ := hq; intro k₁ hk1; refine E0 rfl (fun _ => stepG_exit (k' := kC k) (hk1.trans rfl)) (E0 rfl (fun _ => stepG_inLoop) ?_)
  let Q3 : Exit → Act → World → Prop := fun e a w => e = .exit 2 ∧ Ok (cC bx) a [(5, ptrB d)] ∧ WI bx w hp L
  refine lj9 (c := cC bx) (Q := Q3) (L := L) (hp := hp) ?_ ha2 hw2 hk hro fun e a3 w3 hq => ?_
  · refine c8 (c7 ?_)
    refine b7 rfl (uM (p := none) (q := none) rfl Tryz.underlying115 rfl rfl ?_); refine b7 rfl (Y6 rfl rfl rfl (b7 rfl (Y6 rfl rfl rfl ?_))); refine uM (p := none) (q := none) rfl Tryz.underlying115 rfl rfl ?_; refine dq6 rfl rfl rfl (b8 ?_); refine uV rfl (s9 (H6 ?_)); exact ij2 fun a w ha hw => ⟨rfl, ha.sub mC, hw⟩
  obtain ⟨rfl, ha3, hw3⟩ := hq; intro k₂ hk2; refine E0 rfl (fun _ => stepG_exit (k' := k) (hk2.trans rfl)) ?_; exact hend a3 w3 ha3 hw3
end
noncomputable def rest20 : Code := seqR (seqR (seqR (seqR (Tryz.f32.body.getD .skip))))
structure DeskR where
  (d m0 m1 q0 q1 ci0 ci1 cl0 cl1 : Nat)
  (li0 li1 ll0 ll1 : List (Ment Int))
  Ls : List Fact
def InF (l : List (Ment Int)) (xs : List Mk) (Ls : List Fact) : Prop := ∀ k, (getM l k = none ∧ insAt xs k = []) ∨ ∃ A cap, getM l k = some (.slice A (insAt xs k).length cap) ∧ Row A (rows (insAt xs k)) ∈ Ls
theorem rx8 {l : List (Ment Int)} {xs : List Mk} {Ls Ls' : List Fact} (h : ∀ k, (getM l k = none ∧ getE (insE xs) k = none) ∨ ∃ A cap ws, getE (insE xs) k = some ws ∧ getM l k = some (.slice A ws.length cap) ∧ Row A (rows ws) ∈ Ls) (hs : ∀ F ∈ Ls, F ∈ Ls') : InF l xs Ls' := fun k => by
  have e := ij5 xs k
  rcases h k with ⟨h1, h2⟩ | ⟨A, cap, ws, h1, h2, h3⟩
  · rw [h2] at e
    exact .inl ⟨h1, e.symm⟩
  rw [h1] at e; have e' : ws = insAt xs k := e; subst e'; exact .inr ⟨A, cap, h2, hs _ h3⟩
abbrev collCon (xs ys : List Mk) (A B : Option Addr) : Con DeskR := { LI := [Row A (rows xs), Row B (rows ys)], inv := fun x => InF x.li0 xs x.Ls ∧ InF x.li1 ys x.Ls ∧ LaM x.ll0 xs ∧ LaM x.ll1 ys, val := fun x => ptrB x.d, LO := fun x => Blk x.d (.cells (dkC x.m0 x.m1 x.q0 x.q1) T.y7 (0, 0)) :: Blk x.m0 (mapO int x.li0 x.ci0) :: Blk x.m1 (mapO int x.li1 x.ci1) :: Blk x.q0 (mapO int x.ll0 x.cl0) :: Blk x.q1 (mapO int x.ll1 x.cl1) :: [Facts x.Ls] }
theorem sq2 {W : World} {o : List Nat} {b : Bx} {w : World} {L : List Fact} {d m0 m1 q0 q1 : Nat} {xs ys : List Mk} {hp : Hq} (hD : DS W o d m0 m1 q0 q1 xs ys hp) (hw : WI b w hp L) :
    ∃ x : DeskR, x.d = d ∧ (collCon xs ys none none).inv x ∧ WI b w [] ((collCon xs ys none none).LO x ++ L) := by
  obtain ⟨li0, ci0, ll0, cl0, og0, li1, ci1, ll1, cl1, og1, h1, h2, h3, h4, h5, h6, h7⟩ := hD; have w1 := hw.perm h5; have w2 : WI b w (og0 ++ (og1 ++ [(d, Obj.cells (dkC m0 m1 q0 q1) T.y7 (0, 0)), (m0, mapO int li0 ci0), (m1, mapO int li1 ci1), (q0, mapO int ll0 cl0), (q1, mapO int ll1 cl1)])) L := w1.perm (C0 fun p => by simp only [dsk, List.countP_append, List.countP_cons, List.countP_nil]; omega); obtain ⟨L0, w3, a1⟩ := h1.rows w2; obtain ⟨L1, w4, a2⟩ := h3.rows w3; have w5 := bW (bW (bW (bW (bW w4))))
  have w6 := xI (Fs := L1 ++ L0) (fun F hF => .inl (by
    rcases List.mem_append.1 hF with h | h <;> simp [h])) w5
  refine ⟨⟨d, m0, m1, q0, q1, ci0, ci1, cl0, cl1, li0, li1, ll0, ll1, L1 ++ L0⟩, rfl, ⟨rx8 a1 (by simp +contextual), rx8 a2 (by simp +contextual), h2, h4⟩, w6.weak (.refl _) fun F hF => ?_⟩; simp only [List.cons_append, List.nil_append, List.append_assoc, List.mem_cons, List.mem_append] at hF ⊢
  rcases hF with h | h | h | h | h | h | h <;> simp [h]
set_option maxHeartbeats 1000000 in
theorem vE {A B : Option Addr} {cA cB : Nat} (xs ys : List Mk) (hx : xs.length ≤ 1000000) (hy : ys.length ≤ 1000000) : Meets Tryz.prog F.gI [.slice A xs.length cA, .slice B ys.length cB] (collCon xs ys A B) := by
  refine i3 F.wW rfl q6 fun w0 => ?_; refine hc_co fun a w ha hw b k cs Goal hk hro hc => ?_; have rA := hw.fs (Row A (rows xs)) (by simp); have rB := hw.fs (Row B (rows ys)) (by simp); refine duo (p := ⟨Tryz.prog, w, [], vM xs ys, nM xs ys, zM, 40 * (xs.length + ys.length) + 60⟩) (B := 150 * (xs.length + ys.length + 2) + 1 + 400) (hp := []) ?_ (fun q hq => by cases hq) (fun q hq => by cases hq); refine folM_of (c := cC ((collCon xs ys A B).entry w0)) (fr := argFr 0 [.slice A xs.length cA, .slice B ys.length cB]) ?_ ha; refine v4 (p8 (G4 rfl rfl hk rfl (w9 (v4 (p8 ?_))))); refine qx0 [] rfl rfl hk rfl T.xR (fun _ _ => n5) ?_; refine ix1 rfl rfl hk rfl fun d hd hnd => ?_; refine G4 rfl rfl hk rfl (w9 (v4 (v4 (p8 ?_)))); refine B9 (v := int (0 : Nat)) rfl rfl hk rfl ?_; refine w9 (Y3 (ix6 (v4 (p8 ?_)))); refine dj6 (b' := 2) (a := (0 : Nat)) rfl rfl hk rfl rfl ?_; refine w9 (v4 (K8 true rfl (qI (v4 (Y3 (v4 (p8 (B9 rfl rfl hk rfl (G4 rfl rfl hk rfl (w9 ?_)))))))))); refine G7 (m := 150 * (xs.length + ys.length + 2) + 1 + 300 + 1 + 14 + 1) (by omega) ?_; refine rq9 (W := w) (d := d) (j := 0) (dc := #[.map none, .map none, .map none, .map none]) (rest5 := []) (n := 150 * (xs.length + ys.length + 2) + 1 + 300) hk (by omega) rfl (by rfl) (by rfl) (by rfl) (by rfl) (by rfl) (.refl _) (by simp) (fun q hq => by simp at hq; subst hq; exact .inr hd) fun m0 q0 hp1 e1 nd1 in1 => ?_; refine bK (p8 ?_); refine lq9 (1 : Nat) rfl rfl hk rfl rfl (by omega) r6 ?_; refine B9 rfl rfl hk rfl (w9 (uI (v4 (p8 ?_)))); refine dj6 (b' := 2) (a := (1 : Nat)) rfl rfl hk rfl rfl ?_; refine w9 (v4 (K8 true rfl (qI (v4 (Y3 (v4 (p8 (B9 rfl rfl hk rfl (G4 rfl rfl hk rfl (w9 ?_)))))))))); refine G7 (m := 150 * (xs.length + ys.length + 2) + 1 + 250 + 1 + 14 + 1) (by omega) ?_; refine rq9 (W := w) (d := d) (j := 1) (dc := #[.map (some m0), .map none, .map (some q0), .map none]) (rest5 := [(m0, mapO int [] 0), (q0, mapO int [] 0)]) (n := 150 * (xs.length + ys.length + 2) + 1 + 250) hk (by omega) rfl (by rfl) (by rfl) (by rfl) (by rfl) (by rfl) (by rw [e1]; exact .refl _) nd1 in1 fun m1 q1 hp2 e2 nd2 in2 => ?_; refine bK (p8 ?_); refine lq9 (2 : Nat) rfl rfl hk rfl rfl (by omega) r6 ?_; refine B9 rfl rfl hk rfl (w9 (uI (v4 (p8 ?_)))); refine dj6 (b' := 2) (a := (2 : Nat)) rfl rfl hk rfl rfl ?_; refine w9 (v4 (K8 false rfl (cz1 _ rfl (v4 (v4 (p8 ?_)))))); refine B9 (v := .slice A xs.length cA) rfl rfl hk rfl (G7 (m := 150 * (xs.length + ys.length + 2) + 1 + 60 + 40 + 40 + 1) (by omega) ?_); refine cz0 (hp' := hp2) (vs := [.slice A xs.length cA]) (.inl rfl) hk F.pJ rfl (fun q hq => hq) fun a1 ha1 => ?_; refine send_T0 (n := 150 * (xs.length + ys.length + 2) + 1 + 60 + 40) rA (fun ad _ _ h => by cases h) rfl (fun i hi => rfl) hx (by omega) fun c0 r0 => ix9 rfl rfl rfl ha1 ?_; refine B9 (v := .slice B ys.length cB) rfl rfl hk rfl (G7 (m := 150 * (xs.length + ys.length + 2) + 1 + 40 + 40 + 1) (by omega) ?_); refine cz0 (hp' := hp2) (vs := [.slice B ys.length cB]) (.inl rfl) hk F.pJ rfl (fun q hq => hq) fun a2 ha2 => ?_; refine send_T1 (n := 150 * (xs.length + ys.length + 2) + 1 + 40) rB (fun ad _ _ h => by cases h) rfl (fun i hi => rfl) hy (by omega) fun c1 r1 => ix9 rfl rfl rfl ha2 ?_; refine G4 rfl rfl hk rfl (G4 rfl rfl hk rfl (w9 (Y3 (ix6 ?_)))); refine G7 (m := 150 * (xs.length + ys.length + 2) + 1) (by omega) ?_
  have fin : ∀ w' hp', Sur ⟨Tryz.prog, w, [], vM xs ys, nM xs ys, zM, 40 * (xs.length + ys.length) + 60⟩ w' → Held hp' w' → DS w [] d m0 m1 q0 q1 xs ys hp' → WI ((collCon xs ys A B).entry w0) w' hp' (collCon xs ys A B).LI := fun w' hp' hS hH hD => by
    obtain ⟨_, _, _, _, _, _, _, _, _, _, _, _, _, _, _, nd, inn⟩ := hD; have := wi_out (p := ⟨Tryz.prog, w, [], vM xs ys, nM xs ys, zM, 40 * (xs.length + ys.length) + 60⟩) (hp := []) (rest := []) hw (.refl _) rfl hS hH nd inn
    rwa [List.append_nil] at this
  have out : ∀ hp', DS w [] d m0 m1 q0 q1 xs ys hp' → ∀ a w, Ok (cC ((collCon xs ys A B).entry w0)) a [(5, ptrB d)] → WI ((collCon xs ys A B).entry w0) w hp' (collCon xs ys A B).LI → Co Tryz.prog (G (b.at a (.code (rest20 : Code) :: k)) cs) w Goal := fun hp' hD a w ha hw => by
    obtain ⟨x, rfl, hi, hw2⟩ := sq2 hD hw; refine lj9 (c := cC ((collCon xs ys A B).entry w0)) (fr := [(5, ptrB x.d)]) ?_ ha hw2 hk hro hc; refine c7 (b7 rfl ?_); refine c3 rfl (b8 (l4 ?_)); exact ret1 x rfl rfl rfl hi nK (LSub.of_mem fun F hF => List.mem_append.2 (.inl hF))
  refine iL (fr' := frC d false false c0 c1) mC (loop_T (bx := (collCon xs ys A B).entry w0) hk hx hy (fun w' hp' hS hH hD a' ha' => tail_0 hk hro ha' (fin w' hp' hS hH hD) (out hp' hD)) (fun w' hp' hS hH hD a' ha' => tail_1 hk hro ha' (fin w' hp' hS hH hD) (out hp' hD)) (xs.length + ys.length + 2) 0 0 false false hp2 (by omega) (by omega) (by simp) (fun h => by cases h) (fun h => by cases h) (fun h => by cases h.1) ?_); have e3 : hp2 = (d, Obj.cells (dkC m0 m1 q0 q1) T.y7 (0, 0)) :: ([(m1, mapO int [] 0)] ++ [(q1, mapO int [] 0)] ++ [(m0, mapO int [] 0), (q0, mapO int [] 0)]) := e2; rw [e3]; rw [e3] at nd2 in2; exact ⟨[], 0, [], 0, [], [], 0, [], 0, [], .nil, LaM.nil, .nil, LaM.nil, C0 fun p => by simp only [dsk, List.countP_append, List.countP_cons, List.countP_nil]; omega, nd2, in2⟩
end Go.Proofs.YtpfbbggmcbhboaaGreatDoor
end
section
namespace Go.Proofs.YtpfbbggmcbhboaaGreatDoor
open Go Go.W Tryz T F
set_option maxRecDepth 20000
attribute [local irreducible] HL HC HQ HB Row Rows2 Blk Facts
def lineM (k : Int) (w : Str) : Mk := (1, k, w)
def clashA (xs ys : List Mk) (k : Int) : Bool := match lastAt xs k, lastAt ys k with | some m, some m' => !decide (m = m') | _, _ => false
def moreA (xs ys : List Mk) (k : Int) : List Str := (insAt ys k).filter fun w => !decide (w ∈ insAt xs k)
def lastL (xs ys : List Mk) (k : Int) : List Mk := match lastAt xs k with | some m => [m] | none => (lastAt ys k).toList
def lineA (xs ys : List Mk) (k : Int) : List Mk := (insAt xs k).map (lineM k) ++ (moreA xs ys k).map (lineM k) ++ lastL xs ys k
def mergeO (xs ys : List Mk) : Nat → Option (List Mk)
  | 0 => some []
  | n + 1 => match mergeO xs ys n with
    | none => none
    | some out => if clashA xs ys n = true then none else some (out ++ lineA xs ys n)
def mergeP (p : List Str) (xs ys : List Mk) : List Mk × Int :=
  if ¬ checkErr p xs = 0 then ([], checkErr p xs) else if ¬ marksErr p.length ys = 0 then ([], marksErr p.length ys)
  else match mergeO xs ys (p.length + 1) with
    | none => ([], 9)
    | some out => if 12 < out.length then ([], 6) else (out, 0)
theorem kx7 {xs ys : List Mk} : ∀ {n m : Nat}, n ≤ m → mergeO xs ys n = none → mergeO xs ys m = none
  | n, m, h, hn => by
    induction h with
    | refl => exact hn
    | step _ ih => rw [mergeO, ih]
theorem uS (xs : List Mk) (k : Int) : (insAt xs k).length ≤ xs.length := by
  unfold insAt; rw [List.length_map]; exact List.length_filter_le _ _
theorem nz9 (xs ys : List Mk) (k : Int) : (lineA xs ys k).length ≤ xs.length + ys.length + 1 := by
  have h1 := uS xs k; have h2 := uS ys k; have h3 : (moreA xs ys k).length ≤ (insAt ys k).length := List.length_filter_le _ _
  have h4 : (lastL xs ys k).length ≤ 1 := by
    unfold lastL
    split
    · simp
    cases lastAt ys k <;> simp
  unfold lineA; simp only [List.length_append, List.length_map]
  omega
theorem dx3 {xs ys : List Mk} : ∀ {n : Nat} {out : List Mk}, mergeO xs ys n = some out → out.length ≤ n * (xs.length + ys.length + 1)
  | 0, out, h => by
    rw [mergeO] at h
    injection h with h
    rw [← h]; simp
  | n + 1, out, h => by
    rw [mergeO] at h
    cases hm : mergeO xs ys n with
    | none => rw [hm] at h; cases h
    | some o =>
      rw [hm] at h; simp only at h
      split at h
      · cases h
      injection h with h
      rw [← h, List.length_append, Nat.add_mul, Nat.one_mul]; have := dx3 hm; have := nz9 xs ys n
      omega
section
variable {c : Cx} {Q : Exit → Act → World → Prop} {fr : Fr} {hp : Hp} {L : List Fact} {ops : Array Oper} {rest : List Oper} {d : Tmp} {t ty : TypeId} {pos : String} {af : Array Edge} {x y : Operand}
theorem dq8 {g clk : Nat} {l : List (Ment Int)} {xs : List Mk} {Ls : List Fact} {k : Int} (hF : InF l xs Ls) (hLs : Facts Ls ∈ L) (hP : c.P = prog) (hd : Nat.blt d c.n = true) (hx : ev fr x = some (.map (some g))) (hy : ev fr y = some (int k)) (hm : MapAt c.b hp L g (mapO int l clk))
    (kk : ∀ A cap, HL c ops Q rest ((d, .slice A (insAt xs k).length cap) :: fr) hp (Row A (rows (insAt xs k)) :: L)) : HL c ops Q (⟨some d, .lookup Q6 x y false, ty, pos, af, none⟩ :: rest) fr hp L := by
  obtain ⟨P, n, b, D, rd⟩ := c; simp only at hP; subst hP
  rcases hF k with ⟨h1, h2⟩ | ⟨A, cap, h1, h2⟩
  · have hk := kk none 0
    rw [h2] at hk; exact mz8 (k := k) (z := .slice none 0 0) (KeyC.int V7) hd G9 hx hy hm (fun _ => n5) h1 (hl_row0 hk)
  exact cz8 hLs h2 (iz8 (k := k) (KeyC.int V7) hd G9 hx hy (fun w hw => hm w (hw.weak (.refl _) fun F hF => List.mem_cons_of_mem _ hF)) h1 (kk A cap))
theorem dq7 {g clk : Nat} {l : List (Ment Int)} {xs : List Mk} {k : Int} (hF : LaM l xs) (hP : c.P = prog) (hd : Nat.blt d c.n = true) (hx : ev fr x = some (.map (some g))) (hy : ev fr y = some (int k)) (hm : MapAt c.b hp L g (mapO int l clk))
    (kk : HL c ops Q rest ((d, .tuple #[mkV ((lastAt xs k).getD default), .bool (lastAt xs k).isSome]) :: fr) hp L) : HL c ops Q (⟨some d, .lookup Q5 x y true, ty, pos, af, none⟩ :: rest) fr hp L := by
  obtain ⟨P, n, b, D, rd⟩ := c; simp only at hP; subst hP; refine hz8 (k := k) zM _ _ (KeyC.int V7) hd dO hx hy hm (fun _ => n5) ?_ ?_ kk
  · rw [hF k]; cases lastAt xs k <;> rfl
  rw [hF k]; cases lastAt xs k <;> rfl
end
def GrowK (o : OutC) (l : List Mk) (og : Hp) : Prop := Grow C9 3 o.1 l.length o.2 (rows l) og
theorem GrowK.le {o : OutC} {l : List Mk} {og : Hp} (h : GrowK o l og) : l.length ≤ o.2 := Grow.le h
abbrev dkL (x : DeskR) : List Fact := [Blk x.d (.cells (dkC x.m0 x.m1 x.q0 x.q1) y7 (0, 0)), Blk x.m0 (mapO int x.li0 x.ci0), Blk x.m1 (mapO int x.li1 x.ci1), Blk x.q0 (mapO int x.ll0 x.cl0), Blk x.q1 (mapO int x.ll1 x.cl1), Facts x.Ls]
theorem mj0 {ws vs : List Str} {j : Nat} (h : j < vs.length) : ((vs.take (j + 1)).filter fun w => !decide (w ∈ ws)) = ((vs.take j).filter fun w => !decide (w ∈ ws)) ++ (if vs.getD j default ∈ ws then [] else [vs.getD j default]) := by
  rw [v7 vs j h, List.filter_append]
  congr 1
  by_cases e : vs.getD j default ∈ ws
  · rw [if_pos e, List.filter_cons_of_neg (by rw [decide_eq_true e]; decide), List.filter_nil]
  rw [if_neg e, List.filter_cons_of_pos (by rw [decide_eq_false e]; rfl), List.filter_nil]
theorem lq0 {xs ys : List Mk} {k : Int} (h1 : (lastAt xs k).isSome = true) (h2 : (lastAt ys k).isSome = true) : clashA xs ys k = !decide ((lastAt xs k).getD default = (lastAt ys k).getD default) := by
  obtain ⟨m, e1⟩ := Option.isSome_iff_exists.1 h1; obtain ⟨m', e2⟩ := Option.isSome_iff_exists.1 h2
  simp [clashA, e1, e2]
theorem nq1 {xs ys : List Mk} {k : Int} (h1 : (lastAt xs k).isSome = false) : clashA xs ys k = false := by
  cases e1 : lastAt xs k with
  | none => simp [clashA, e1]
  | some m => rw [e1] at h1; cases h1
theorem clash_y {xs ys : List Mk} {k : Int} (h1 : (lastAt ys k).isSome = false) : clashA xs ys k = false := by
  cases e1 : lastAt ys k with
  | none => cases e2 : lastAt xs k <;> simp [clashA, e1, e2]
  | some m => rw [e1] at h1; cases h1
theorem nj4 {xs ys : List Mk} {k : Int} (h : (lastAt xs k).isSome = true) : lastL xs ys k = [(lastAt xs k).getD default] := by
  obtain ⟨m, e1⟩ := Option.isSome_iff_exists.1 h
  simp [lastL, e1]
theorem lastL_y {xs ys : List Mk} {k : Int} (h : (lastAt xs k).isSome = false) (h2 : (lastAt ys k).isSome = true) : lastL xs ys k = [(lastAt ys k).getD default] := by
  obtain ⟨m, e1⟩ := Option.isSome_iff_exists.1 h2
  cases e2 : lastAt xs k with
  | none => simp [lastL, e1, e2]
  | some m => rw [e2] at h; cases h
theorem lastL_n {xs ys : List Mk} {k : Int} (h : (lastAt xs k).isSome = false) (h2 : (lastAt ys k).isSome = false) : lastL xs ys k = [] := by
  cases e2 : lastAt xs k with
  | none =>
    cases e1 : lastAt ys k with
    | none => simp [lastL, e1, e2]
    | some m => rw [e1] at h2; cases h2
  | some m => rw [e2] at h; cases h
theorem lS {xs ys out oj ok o2 : List Mk} {k : Nat} (hM : mergeO xs ys k = some out) (hc : clashA xs ys k = false) (hOj : out ++ (insAt xs k).map (lineM k) = oj) (hOk : oj ++ ((insAt ys k).filter fun w => !decide (w ∈ insAt xs k)).map (lineM k) = ok) (e : ok ++ lastL xs ys k = o2) : mergeO xs ys (k + 1) = some o2 := by
  rw [mergeO, hM]
  simp only
  rw [if_neg (by rw [hc]; decide), ← e, ← hOk, ← hOj]; unfold lineA moreA; simp only [List.append_assoc]
theorem mj3 {ws : List Str} {j : Nat} {k : Int} (h : j < ws.length) : ((ws.take (j + 1)).map (lineM k)) = (ws.take j).map (lineM k) ++ [lineM k (ws.getD j default)] := by
  rw [v7 ws j h, List.map_append]; rfl
theorem lQ {A B C : Option Addr} {ca cb cc : Nat} (p : List Str) (xs ys : List Mk) :
    Meets prog Z7 [.slice A p.length ca, .slice B xs.length cb, .slice C ys.length cc] { outErr (mergeP p xs ys) with LI := [Row A (rows p), Row B (rows xs), Row C (rows ys)] } := by
 refine i3 ax8 rfl q6 fun w0 => ?_; refine c7 (c3 rfl (c3 rfl (b8 (c8 (c7 (b7 rfl (b7 rfl ?_))))))); refine d5 Q9 rfl rfl (Q7 p xs) (.refl _) ⟨m0, m1, tK⟩ fun _ _ => ?_; refine c3 rfl (n7 (b7 rfl (y5 rfl rfl rfl (b8 ?_))))
 first | refine k8 rfl (fun hb1 => ?_) (fun hb1 => ?_) | refine d9 rfl (fun hb1 => ?_) (fun hb1 => ?_)
 ·have hb1' := hb1; try simp at hb1'
  have e : mergeP p xs ys = ([], checkErr p xs) := by rw [mergeP, if_pos hb1]
  rw [e]; refine c7 (b7 rfl (c3 rfl (c3 rfl (b8 (D4 ?_))))); refine M0 (α := Mk) ?_; exact ret2 (none, 0) rfl rfl rfl rfl rfl (Nat.le_refl _) nK ⟨m0, tK⟩
 have hb1' := hb1; try simp at hb1'
 have h0 : checkErr p xs = 0 := by omega
 obtain ⟨hp6, hl, hV⟩ := gZ h0; refine d8 (d4 (c8 (c7 (b7 rfl (b7 rfl ?_))))); refine d5 cZ rfl rfl (cP ys (by omega)) (.refl _) ⟨m2, tK⟩ fun _ _ => ?_; refine c3 rfl (n7 (b7 rfl (y5 rfl rfl rfl (b8 ?_))))
 first | refine k8 rfl (fun hb2 => ?_) (fun hb2 => ?_) | refine d9 rfl (fun hb2 => ?_) (fun hb2 => ?_)
 ·have hb2' := hb2; try simp at hb2'
  have e : mergeP p xs ys = ([], marksErr p.length ys) := by rw [mergeP, if_neg hb1, if_pos hb2]
  rw [e]; refine c7 (b7 rfl (c3 rfl (c3 rfl (b8 (D4 ?_))))); refine M0 (α := Mk) ?_; exact ret2 (none, 0) rfl rfl rfl rfl rfl (Nat.le_refl _) nK ⟨m0, tK⟩
 have hb2' := hb2; try simp at hb2'
 have hy12 : ys.length ≤ 12 := by
   have h0 : marksErr p.length ys = 0 := by omega
   unfold marksErr at h0
   split at h0 <;> omega
 refine d8 (d4 (c7 (b7 rfl (b7 rfl ?_)))); refine d5 vL rfl rfl (vE xs ys (by omega) (by omega)) l6 ⟨m1, m2, tK⟩ fun x hx => ?_; obtain ⟨hI0, hI1, hL0, hL1⟩ := hx; refine c3 rfl (n7 (c3 rfl (b8 (c8 (c7 (b7 rfl ?_)))))); refine l8 rfl r5 rfl (v6 ((p.length + 1 : Nat) : Int) rfl rfl rfl (by omega) r6 ?_); refine b7 rfl (b8 (k6 ?_)); refine y6 (β := Nat × List Mk × OutC × Hp) ⟨fun ⟨k, out, o, og⟩ => k ≤ p.length + 1 ∧ mergeO xs ys k = some out ∧ GrowK o out og, fun ⟨k, out, o, og⟩ => [(10, ptrB x.d), (38, int ((p.length + 1 : Nat) : Int)), (39, int (k : Nat)), (11, .slice o.1 out.length o.2)], fun ⟨k, out, o, og⟩ => og, fun _ => dkL x⟩ (fun z => p.length + 1 - z.1) (0, [], (none, 0), []) ⟨Nat.zero_le _, rfl, Grow.nil _ _⟩ mC (.refl _) (LSub.of_mem fun F hF => List.mem_append.2 (.inl hF)) fun z hz => ?_; obtain ⟨k, out, o, og⟩ := z; obtain ⟨hk, hM, hG⟩ := hz; have hlen := dx3 hM; have hlen : out.length ≤ 7 * 25 := Nat.le_trans hlen (Nat.mul_le_mul (by omega) (by omega)); have hk : k ≤ p.length + 1 := hk; have hG : GrowK o out og := hG; refine c7 (z8 rfl rfl rfl (b8 (c8 ?_)))
 first | refine k8 rfl (fun hb3 => ?_) (fun hb3 => ?_) | refine d9 rfl (fun hb3 => ?_) (fun hb3 => ?_)
 ·have hb3' := hb3; try simp at hb3'
  have hk2 : k < p.length + 1 := by omega
  have hw0 := uS xs (k : Int); have hw1 := uS ys (k : Int); refine d8 (d4 (c8 (k6 (c7 (b7 rfl (c3 rfl (b8 (yR ?_)))))))); refine i4 (b7 rfl (n0 rfl rfl ?_)); refine b3 ⟨x.d, 0, none⟩ rfl rfl H3 rfl (bM (o := 0) 0 0 rfl C2 B6 rfl rfl rfl (by omega) rfl (b6 (v := .map (some x.m0)) rfl E2 rfl (j4 mC rfl) (b7 rfl (dq8 (k := (k : Int)) hI0 mC rfl rfl rfl rfl (yI mC) fun A0 c0 => l8 rfl r5 rfl ?_)))); refine b7 rfl (b8 (k6 ?_)); refine y6 (β := Nat × List Mk × OutC × Hp) ⟨fun ⟨j, oj, o, og⟩ => j ≤ (insAt xs k).length ∧ out ++ ((insAt xs k).take j).map (lineM k) = oj ∧ GrowK o oj og, fun ⟨j, oj, o, og⟩ => [(10, ptrB x.d), (38, int ((p.length + 1 : Nat) : Int)), (39, int (k : Nat)), (12, int (k : Nat)), (48, .slice A0 (insAt xs k).length c0), (49, int (insAt xs k).length), (50, int (j : Nat)), (11, .slice o.1 oj.length o.2)], fun ⟨j, oj, o, og⟩ => og, fun _ => Row A0 (rows (insAt xs k)) :: dkL x⟩ (fun z => (insAt xs k).length - z.1) (0, out, o, og) ⟨Nat.zero_le _, by rw [List.take_zero, List.map_nil, List.append_nil], hG⟩ mC (.refl _) mC fun z hz => ?_; obtain ⟨j, oj, o, og⟩ := z; obtain ⟨hj, hOj, hG⟩ := hz; have hj : j ≤ (insAt xs k).length := hj; have hG : GrowK o oj og := hG; have hlj : oj.length ≤ 7 * 25 + 12 := by rw [← hOj, List.length_append, List.length_map, List.length_take]; omega
  refine c7 (z8 rfl rfl rfl (b8 (c8 ?_)))
  first | refine k8 rfl (fun hb4 => ?_) (fun hb4 => ?_) | refine d9 rfl (fun hb4 => ?_) (fun hb4 => ?_)
  ·have hb4' := hb4; try simp at hb4'
   have hj2 : j < (insAt xs k).length := by omega
   refine d8 (d4 (c8 (k6 (c7 ?_)))); refine z5 (α := Str) _ _ rfl r5 z2 rfl rfl rfl mB rfl (by omega) (by decide) (b6 rfl j5 rfl (i9 mB (d7 (by omega) rfl)) ?_); refine c3 rfl (b8 (i4 (b7 rfl (b7 rfl (b7 rfl ?_))))); refine A9 _ rfl rfl (fun _ => E6 ..) (j8 _ rfl rfl (fun _ => r8 ..) fun gS => ?_); refine E7 (oj.length + 1) (rows (oj ++ [lineM k ((insAt xs k).getD j default)])) H4 rfl rfl rfl hG (List.perm_append_comm (l₁ := [_])) (Src.own (cs := #[int (lineM k ((insAt xs k).getD j default)).1, int (lineM k ((insAt xs k).getD j default)).2.1, str (lineM k ((insAt xs k).getD j default)).2.2]) (m := 1) (List.mem_append_right _ m0) rfl rfl) rfl (by rw [z7]; rfl) (by unfold maxLen; omega) (by omega) fun A' c' og' hG' => ?_; refine c3 rfl (d6 (u7 (d4 (i4 ?_)))); refine v6 _ rfl rfl rfl rfl r6 ?_; refine b7 rfl (d6 ?_); have e2 : out ++ ((insAt xs k).take (j + 1)).map (lineM k) = oj ++ [lineM k ((insAt xs k).getD j default)] := by rw [mj3 hj2, ← List.append_assoc, hOj]
   refine again _ (j + 1, oj ++ [lineM k ((insAt xs k).getD j default)], (A', c'), og') ⟨by omega, e2, by show Grow _ _ _ _ _ _ _; rw [List.length_append]; exact hG'⟩ (D5 (by omega)) ⟨rfl, rfl, rfl, rfl, rfl, rfl, rfl, by show some (Value.slice A' (oj.length + 1) c') = some (Value.slice A' (oj ++ [_]).length c'); rw [List.length_append]; rfl, tK⟩ (List.sublist_append_left _ _) mC
  have hb4' := hb4; try simp at hb4'
  have hj2 : j = (insAt xs k).length := by omega
  subst hj2; rw [List.take_length] at hOj; refine s9 (E4 (u6 (d4 (c8 (c7 (b7 rfl (n0 rfl rfl ?_))))))); refine b3 ⟨x.d, 0, none⟩ rfl rfl H3 rfl (bM (o := 0) 1 1 rfl C2 B6 rfl rfl rfl (by omega) rfl (b6 (v := .map (some x.m1)) rfl E2 rfl (j4 mC rfl) (b7 rfl (dq8 (k := (k : Int)) hI1 mC rfl rfl rfl rfl (yI mC) fun A1 c1 => l8 rfl r5 rfl ?_)))); refine b7 rfl (b8 (k6 ?_)); refine y6 (β := Nat × List Mk × OutC × Hp) ⟨fun ⟨j, ok, o, og⟩ => j ≤ (insAt ys k).length ∧ oj ++ (((insAt ys k).take j).filter fun w => !decide (w ∈ insAt xs k)).map (lineM k) = ok ∧ GrowK o ok og, fun ⟨j, ok, o, og⟩ => [(10, ptrB x.d), (38, int ((p.length + 1 : Nat) : Int)), (39, int (k : Nat)), (12, int (k : Nat)), (67, .slice A1 (insAt ys k).length c1), (68, int (insAt ys k).length), (69, int (j : Nat)), (11, .slice o.1 ok.length o.2)], fun ⟨j, ok, o, og⟩ => og, fun _ => Row A1 (rows (insAt ys k)) :: dkL x⟩ (fun z => (insAt ys k).length - z.1) (0, oj, o, og) ⟨Nat.zero_le _, by rw [List.take_zero, List.filter_nil, List.map_nil, List.append_nil], hG⟩ mC (.refl _) mC fun z hz => ?_; obtain ⟨j, ok, o, og⟩ := z; obtain ⟨hj, hOk, hG⟩ := hz; have hj : j ≤ (insAt ys k).length := hj; have hG : GrowK o ok og := hG
  have hlk : ok.length ≤ 7 * 25 + 24 := by
    have h5 : (((insAt ys k).take j).filter fun w => !decide (w ∈ insAt xs k)).length ≤ ((insAt ys k).take j).length := List.length_filter_le _ _; rw [← hOk, List.length_append, List.length_map]; rw [List.length_take] at h5
    omega
  refine c7 (z8 rfl rfl rfl (b8 (c8 ?_)))
  first | refine k8 rfl (fun hb5 => ?_) (fun hb5 => ?_) | refine d9 rfl (fun hb5 => ?_) (fun hb5 => ?_)
  ·have hb5' := hb5; try simp at hb5'
   have hj2 : j < (insAt ys k).length := by omega
   have hmt := mj0 (ws := insAt xs k) hj2; refine d8 (d4 (c8 (k6 (c7 ?_)))); refine z5 (α := Str) _ _ rfl r5 z2 rfl rfl rfl mB rfl (by omega) (by decide) (b6 rfl j5 rfl (i9 mB (d7 (by omega) rfl)) ?_); refine c3 rfl (n7 (b7 rfl (n0 rfl rfl ?_))); refine b3 ⟨x.d, 0, none⟩ rfl rfl H3 rfl (bM (o := 0) 0 0 rfl C2 B6 rfl rfl rfl (by omega) rfl (b6 (v := .map (some x.m0)) rfl E2 rfl (j4 mC rfl) (b7 rfl (dq8 (k := (k : Int)) hI0 mC rfl rfl rfl rfl (yI mC) fun A2 c2 => b7 rfl (d5 M7 rfl rfl (M4 (insAt xs k) ((insAt ys k).getD j default) (by omega)) l6 ⟨m0, tK⟩ fun _ _ => ?_))))); refine cO rfl rfl (b8 ?_)
   first | refine k8 rfl (fun hb6 => ?_) (fun hb6 => ?_) | refine d9 rfl (fun hb6 => ?_) (fun hb6 => ?_)
   ·have hb6' := hb6; try simp at hb6'
    refine i4 (b7 rfl (b7 rfl (b7 rfl ?_))); refine A9 _ rfl rfl (fun _ => E6 ..) (j8 _ rfl rfl (fun _ => r8 ..) fun gS => ?_); refine E7 (ok.length + 1) (rows (ok ++ [lineM k ((insAt ys k).getD j default)])) H4 rfl rfl rfl hG (List.perm_append_comm (l₁ := [_])) (Src.own (cs := #[int (lineM k ((insAt ys k).getD j default)).1, int (lineM k ((insAt ys k).getD j default)).2.1, str (lineM k ((insAt ys k).getD j default)).2.2]) (m := 1) (List.mem_append_right _ m0) rfl rfl) rfl (by rw [z7]; rfl) (by unfold maxLen; omega) (by omega) fun A' c' og' hG' => ?_; refine c3 rfl (d6 (u7 (d4 (i4 ?_)))); refine v6 _ rfl rfl rfl rfl r6 ?_; refine b7 rfl (d6 ?_); have e2 : oj ++ (((insAt ys k).take (j + 1)).filter fun w => !decide (w ∈ insAt xs k)).map (lineM k) = ok ++ [lineM k ((insAt ys k).getD j default)] := by rw [hmt, if_neg (by simpa using hb6), List.map_append, ← List.append_assoc, hOk]; rfl
    refine again _ (j + 1, ok ++ [lineM k ((insAt ys k).getD j default)], (A', c'), og') ⟨by omega, e2, by show Grow _ _ _ _ _ _ _; rw [List.length_append]; exact hG'⟩ (D5 (by omega)) ⟨rfl, rfl, rfl, rfl, rfl, rfl, rfl, by show some (Value.slice A' (ok.length + 1) c') = some (Value.slice A' (ok ++ [_]).length c'); rw [List.length_append]; rfl, tK⟩ (List.sublist_append_left _ _) mC
   have hb6' := hb6; try simp at hb6'
   refine d8 (u7 (d4 (i4 ?_))); refine v6 _ rfl rfl rfl rfl r6 ?_; refine b7 rfl (d6 ?_); have e2 : oj ++ (((insAt ys k).take (j + 1)).filter fun w => !decide (w ∈ insAt xs k)).map (lineM k) = ok := by rw [hmt, if_pos (by simpa using hb6'), List.append_nil, hOk]
   refine again _ (j + 1, ok, o, og) ⟨by omega, e2, hG⟩ (D5 (by omega)) mC (.refl _) mC
  have hb5' := hb5; try simp at hb5'
  have hj2 : j = (insAt ys k).length := by omega
  subst hj2; rw [List.take_length] at hOk; refine s9 (E4 (u6 (d4 (c7 (b7 rfl (n0 rfl rfl ?_)))))); refine b3 ⟨x.d, 2, none⟩ rfl rfl U2 rfl (bM (o := 2) 0 2 rfl I2 G3 rfl rfl rfl (by omega) rfl (b6 (v := .map (some x.q0)) rfl P4 rfl (j4 mC rfl) (b7 rfl (dq7 (k := (k : Int)) hL0 rfl rfl rfl rfl (yI mC) ?_)))); refine b7 rfl (j6 rfl rfl rfl (j6 rfl rfl rfl ?_)); refine y9 rfl (fun _ => r7 _) fun gA => u0 rfl rfl M6 c6 (by rfl) (by rfl) ?_; refine c3 rfl (n7 (b7 rfl (n0 rfl rfl ?_))); refine b3 ⟨x.d, 2, none⟩ rfl rfl U2 rfl (bM (o := 2) 1 3 rfl I2 G3 rfl rfl rfl (by omega) rfl (b6 (v := .map (some x.q1)) rfl P4 rfl (j4 mC rfl) (b7 rfl (dq7 (k := (k : Int)) hL1 rfl rfl rfl rfl (yI mC) ?_)))); refine b7 rfl (j6 rfl rfl rfl (j6 rfl rfl rfl ?_)); refine y9 rfl (fun _ => r7 _) fun gA => u0 rfl rfl M6 c6 (by rfl) (by rfl) ?_; refine c3 rfl (b8 (k6 (c7 (b7 rfl (b7 rfl ?_))))); refine n6 rfl rfl ?_ ?_
  ·intro hg1; have hg1' := hg1; try simp at hg1'
   refine k9 hg1 (b7 rfl ?_); refine p_t rfl rfl (bt1 hg1) rfl (b7 rfl ?_); refine n6 rfl rfl ?_ ?_
   ·intro hg2; have hg2' := hg2; try simp at hg2'
    refine k9 hg2 ?_
    first | refine C8 rfl j0 c6 rfl mB (by rfl) ?_ | refine D6 rfl j0 c6 rfl mB (by rfl) ?_ | refine u3 rfl j0 c6 rfl rfl (q8 mB (s6 (by omega))) ?_
    refine k9 hg2 ?_
    first | refine C8 rfl j0 c6 rfl mB (by rfl) ?_ | refine D6 rfl j0 c6 rfl mB (by rfl) ?_ | refine u3 rfl j0 c6 rfl rfl (q8 mB (s6 (by omega))) ?_
    refine k9 hg2 (vS _ rfl rfl rfl (fun _ => rU ..) (fun _ => rS ..) (p_t rfl rfl (bt1 hg2) rfl ?_)); refine c3 rfl (b8 ?_)
    first | refine k8 rfl (fun hb7 => ?_) (fun hb7 => ?_) | refine d9 rfl (fun hb7 => ?_) (fun hb7 => ?_)
    ·have hb7' := hb7; try simp at hb7'
     refine c7 (c3 rfl (c3 rfl (b8 (l4 (P3 (C7 (r9 (P3 ?_)))))))); refine r9 ?_; have hc : clashA xs ys k = true := by rw [lq0 hg1' hg2', decide_eq_false (fun e => hb7 (by rw [e]))]; rfl
     have e : mergeP p xs ys = ([], 9) := by rw [mergeP, if_neg hb1, if_neg hb2, kx7 (n := k + 1) (by omega) (by rw [mergeO, hM]; simp only; rw [if_pos hc])]
     rw [e]; refine M0 (α := Mk) ?_; exact ret2 (none, 0) rfl rfl rfl rfl rfl (Nat.le_refl _) nK ⟨m0, tK⟩
    have hb7' := hb7; try simp at hb7'
    refine c7 (b7 rfl (c3 rfl (b8 ?_))); refine c_t rfl (bt1 hg1) ?_; refine i4 (b7 rfl ?_)
    first | refine C8 rfl j0 c6 rfl mB (by rfl) ?_ | refine D6 rfl j0 c6 rfl mB (by rfl) ?_ | refine u3 rfl j0 c6 rfl rfl (q8 mB (s6 (by omega))) ?_
    refine j8 _ rfl rfl (fun _ => r8 ..) fun gS => ?_; refine E7 (ok.length + 1) (rows (ok ++ [(lastAt xs k).getD default])) H4 rfl rfl rfl hG (List.perm_append_comm (l₁ := [_, _, _])) (Src.own (cs := #[int ((lastAt xs k).getD default).1, int ((lastAt xs k).getD default).2.1, str ((lastAt xs k).getD default).2.2]) (m := 1) (List.mem_append_right _ m0) rfl rfl) rfl (by rw [z7]; rfl) (by unfold maxLen; omega) (by omega) fun A' c' og' hG' => ?_; refine c3 rfl (d6 (u7 (u7 (d4 (i4 ?_))))); refine v6 _ rfl rfl rfl rfl r6 ?_; refine b7 rfl (d6 ?_); have hM2 := lS hM (by rw [lq0 hg1' hg2', decide_eq_true (Classical.not_not.1 hb7)]; rfl) hOj hOk (congrArg (ok ++ ·) (nj4 hg1')); exact again _ (k + 1, ok ++ [(lastAt xs k).getD default], (A', c'), og') ⟨by omega, hM2, by show Grow _ _ _ _ _ _ _; rw [List.length_append]; exact hG'⟩ (D5 (by omega)) ⟨rfl, rfl, rfl, by show some (Value.slice A' (ok.length + 1) c') = some (Value.slice A' (ok ++ [_]).length c'); rw [List.length_append]; rfl, tK⟩ (List.sublist_append_left _ _) mC
   intro hg2; have hg2' := hg2; try simp at hg2'
   refine u2 hg2 (u2 hg2 (u2 hg2 ?_)); refine p_f rfl rfl (bf2 hg2) rfl ?_; refine c3 rfl (b8 (c_f rfl rfl (c7 (b7 rfl (c3 rfl (b8 ?_)))))); refine c_t rfl (bt1 hg1) ?_; refine i4 (b7 rfl ?_)
   first | refine C8 rfl j0 c6 rfl mB (by rfl) ?_ | refine D6 rfl j0 c6 rfl mB (by rfl) ?_ | refine u3 rfl j0 c6 rfl rfl (q8 mB (s6 (by omega))) ?_
   refine j8 _ rfl rfl (fun _ => r8 ..) fun gS => ?_; refine E7 (ok.length + 1) (rows (ok ++ [(lastAt xs k).getD default])) H4 rfl rfl rfl hG (List.perm_append_comm (l₁ := [_, _, _])) (Src.own (cs := #[int ((lastAt xs k).getD default).1, int ((lastAt xs k).getD default).2.1, str ((lastAt xs k).getD default).2.2]) (m := 1) (List.mem_append_right _ m0) rfl rfl) rfl (by rw [z7]; rfl) (by unfold maxLen; omega) (by omega) fun A' c' og' hG' => ?_; refine c3 rfl (d6 (u7 (u7 (d4 (i4 ?_))))); refine v6 _ rfl rfl rfl rfl r6 ?_; refine b7 rfl (d6 ?_); have hg2f : (lastAt ys k).isSome = false := by simpa using hg2
   have hM2 := lS hM (clash_y hg2f) hOj hOk (congrArg (ok ++ ·) (nj4 hg1')); exact again _ (k + 1, ok ++ [(lastAt xs k).getD default], (A', c'), og') ⟨by omega, hM2, by show Grow _ _ _ _ _ _ _; rw [List.length_append]; exact hG'⟩ (D5 (by omega)) ⟨rfl, rfl, rfl, by show some (Value.slice A' (ok.length + 1) c') = some (Value.slice A' (ok ++ [_]).length c'); rw [List.length_append]; rfl, tK⟩ (List.sublist_append_left _ _) mC
  intro hg1; have hg1' := hg1; try simp at hg1'
  refine u2 hg1 (p_f rfl rfl (bf2 hg1) rfl ?_); refine b7 rfl (mL rfl rfl rfl rfl rfl rfl (mL rfl rfl rfl rfl rfl rfl (mL rfl rfl rfl rfl rfl rfl (p_f rfl rfl rfl rfl (c3 rfl (b8 (c_f rfl rfl (c7 (b7 rfl ?_))))))))); refine c3 rfl (b8 ?_); refine c_f rfl (bf2 hg1) ?_; refine c7 (b7 rfl (c3 rfl (b8 ?_)))
  first | refine k8 rfl (fun hb9 => ?_) (fun hb9 => ?_) | refine d9 rfl (fun hb9 => ?_) (fun hb9 => ?_)
  ·have hb9' := hb9; try simp at hb9'
   refine i4 (b7 rfl ?_)
   first | refine C8 rfl j0 c6 rfl mB (by rfl) ?_ | refine D6 rfl j0 c6 rfl mB (by rfl) ?_ | refine u3 rfl j0 c6 rfl rfl (q8 mB (s6 (by omega))) ?_
   refine j8 _ rfl rfl (fun _ => r8 ..) fun gS => ?_; refine E7 (ok.length + 1) (rows (ok ++ [(lastAt ys k).getD default])) H4 rfl rfl rfl hG (List.perm_append_comm (l₁ := [_, _, _])) (Src.own (cs := #[int ((lastAt ys k).getD default).1, int ((lastAt ys k).getD default).2.1, str ((lastAt ys k).getD default).2.2]) (m := 1) (List.mem_append_right _ m0) rfl rfl) rfl (by rw [z7]; rfl) (by unfold maxLen; omega) (by omega) fun A' c' og' hG' => ?_; refine c3 rfl (d6 (u7 (u7 (d4 (i4 ?_))))); refine v6 _ rfl rfl rfl rfl r6 ?_; refine b7 rfl (d6 ?_); have hg1f : (lastAt xs k).isSome = false := by simpa using hg1
   have hM2 := lS hM (nq1 hg1f) hOj hOk (congrArg (ok ++ ·) (lastL_y hg1f (by simpa using hb9))); exact again _ (k + 1, ok ++ [(lastAt ys k).getD default], (A', c'), og') ⟨by omega, hM2, by show Grow _ _ _ _ _ _ _; rw [List.length_append]; exact hG'⟩ (D5 (by omega)) ⟨rfl, rfl, rfl, by show some (Value.slice A' (ok.length + 1) c') = some (Value.slice A' (ok ++ [_]).length c'); rw [List.length_append]; rfl, tK⟩ (List.sublist_append_left _ _) mC
  have hb9' := hb9; try simp at hb9'
  refine d8 (u7 (u7 (d4 (i4 ?_)))); refine v6 _ rfl rfl rfl rfl r6 ?_; refine b7 rfl (d6 ?_); have hg1f : (lastAt xs k).isSome = false := by simpa using hg1
  have hM2 := lS hM (nq1 hg1f) hOj hOk ((congrArg (ok ++ ·) (lastL_n hg1f (by simpa using hb9))).trans (List.append_nil _)); exact again _ (k + 1, ok, o, og) ⟨by omega, hM2, hG⟩ (D5 (by omega)) mC (List.sublist_append_right [_, _] _) mC
 have hb3' := hb3; try simp at hb3'
 have hk2 : k = p.length + 1 := by omega
 subst hk2; refine s9 (E4 (u6 (d4 (c8 (c7 (b7 rfl ?_)))))); refine l8 rfl l9 rfl ?_; refine M5 rfl rfl rfl (b8 ?_)
 first | refine k8 rfl (fun hb10 => ?_) (fun hb10 => ?_) | refine d9 rfl (fun hb10 => ?_) (fun hb10 => ?_)
 ·have hb10' := hb10; try simp at hb10'
  refine c7 (c3 rfl (c3 rfl (b8 (D4 ?_)))); have e : mergeP p xs ys = ([], 6) := by rw [mergeP, if_neg hb1, if_neg hb2, hM]; simp only; rw [if_pos (by omega)]
  rw [e]; refine M0 (α := Mk) ?_; exact ret2 (none, 0) rfl rfl rfl rfl rfl (Nat.le_refl _) nK ⟨m0, tK⟩
 have hb10' := hb10; try simp at hb10'
 refine d8 (d4 (c7 (b7 rfl (c3 rfl (c3 rfl (b8 (l4 ?_))))))); have e : mergeP p xs ys = (out, 0) := by rw [mergeP, if_neg hb1, if_neg hb2, hM]; simp only; rw [if_neg (by omega)]
 rw [e]; refine aq5 hG ?_; exact ret2 o rfl rfl rfl rfl rfl hG.le (.refl _) ⟨m0, tK⟩
def okNext (b m : Mk) : Prop := b.2.1 < m.2.1 ∨ (b.2.1 = m.2.1 ∧ b.1 = 1)
def textOK (m : Mk) : Prop := (m.1 = 3 ∧ m.2.2 = []) ∨ (¬ m.1 = 3 ∧ m.2.2 ∈ lineWords)
structure MarksOK (n : Nat) (l : List Mk) : Prop where
  ch : ∀ k, k + 1 < l.length → okNext (l.getD k default) (l.getD (k + 1) default)
  v : MV n l
  t : ∀ m ∈ l, textOK m
theorem MarksOK.nil (n : Nat) : MarksOK n [] := ⟨fun k h => by simp at h, fun m h => by simp at h, fun m h => by simp at h⟩
def LastI (i : Nat) (l : List Mk) : Prop := ∀ b ∈ l, b.2.1 < (i : Int) ∨ (b.2.1 = (i : Int) ∧ b.1 = 1)
def LastB (i : Nat) (l : List Mk) : Prop := ∀ b ∈ l, b.2.1 < (i : Int)
theorem LastB.i {i : Nat} {l : List Mk} (h : LastB i l) : LastI i l := fun b hb => .inl (h b hb)
theorem LastI.b {i : Nat} {l : List Mk} (h : LastI i l) : LastB (i + 1) l := fun b hb => by rcases h b hb with h | h <;> omega
theorem LastI.snoc {i : Nat} {l : List Mk} (h : LastI i l) (t : Str) : LastI i (l ++ [(1, (i : Int), t)]) := fun b hb => by
  rcases List.mem_append.1 hb with hb | hb
  · exact h b hb
  simp at hb; subst hb; exact .inr ⟨rfl, rfl⟩
theorem LastI.any {i : Nat} {l : List Mk} (h : LastI i l) (k : Int) (t : Str) : LastB (i + 1) (l ++ [(k, (i : Int), t)]) := fun b hb => by
  rcases List.mem_append.1 hb with hb | hb
  · exact h.b b hb
  simp at hb; subst hb; simp only; omega
theorem MarksOK.snoc {n i : Nat} {l : List Mk} {k : Int} {t : Str} (h : MarksOK n l) (hl : LastI i l) (hk : 1 ≤ k ∧ k ≤ 3) (hi : i ≤ n) (hi2 : k = 1 ∨ i < n) (ht : textOK (k, (i : Int), t)) : MarksOK n (l ++ [(k, (i : Int), t)]) := by
  refine ⟨fun j hj => ?_, fun m hm => ?_, fun m hm => ?_⟩
  · rw [List.length_append, List.length_cons, List.length_nil] at hj
    by_cases hj2 : j + 1 < l.length
    · have := h.ch j hj2
      rw [N1 (by omega), N1 hj2] at this; rw [N1 (by simp; omega), N1 (by simp; omega), List.getElem_append_left (by omega), List.getElem_append_left hj2]; exact this
    have hje : j + 1 = l.length := by omega
    rw [N1 (by simp; omega), N1 (by simp; omega), List.getElem_append_left (by omega), List.getElem_append_right (by omega)]; have := hl l[j] (List.getElem_mem _); simp only [hje, Nat.sub_self, List.getElem_cons_zero]; exact this
  · rcases List.mem_append.1 hm with hm | hm
    · exact h.v m hm
    simp at hm; subst hm; simp only; omega
  rcases List.mem_append.1 hm with hm | hm
  · exact h.t m hm
  simp at hm; subst hm; exact ht
abbrev GrowM (o : OutC) (l : List Mk) (og : Hp) : Prop := Grow C9 3 o.1 l.length o.2 (rows l) og
abbrev GrowS2 (o : OutC) (ps : List (Sl Str)) (og : Hp) : Prop := Grow gR 1 o.1 ps.length o.2 (rows ps) og
def inner (ps : List (Sl Str)) : Fact := Facts (ps.map fun p => Row p.a (rows p.l))
def PagesOK (ps : List (Sl Str)) : Prop := ∀ p ∈ ps, PageOK p.l ∧ p.l.length ≤ 6 ∧ p.l.length ≤ p.c
theorem PagesOK.snoc {ps : List (Sl Str)} {p : Sl Str} (h : PagesOK ps) (hp : PageOK p.l ∧ p.l.length ≤ 6 ∧ p.l.length ≤ p.c) : PagesOK (ps ++ [p]) := fun q hq => by
  rcases List.mem_append.1 hq with hq | hq
  · exact h q hq
  simp at hq; subst hq; exact hp
theorem PageOK.set {l : List Str} {k : Nat} {t : Str} (h : PageOK l) (ht : t ∈ lineWords) : PageOK (l.set k t) := fun s hs => by
  rcases List.mem_or_eq_of_mem_set hs with h1 | h1
  · exact h s h1
  exact h1 ▸ ht
theorem PageOK.drop {l : List Str} {k : Nat} (h : PageOK l) : PageOK (l.drop k) := fun s hs => h s (List.mem_of_mem_drop hs)
theorem PageOK.snoc {l : List Str} {t : Str} (h : PageOK l) (ht : t ∈ lineWords) : PageOK (l ++ [t]) := fun s hs => by
  rcases List.mem_append.1 hs with h1 | h1
  · exact h s h1
  simp at h1; subst h1; exact ht
def longP (p : List Str) : Bool := (p.any fun s => decide (30 < s.length)) || decide (20 < p.length)
def manyP (l : List Mk) : Bool := (l.any fun m => decide (30 < m.2.2.length)) || decide (20 < l.length)
def oldP (ys : List (List Str)) : Bool := (ys.any longP) || decide (20 < ys.length)
abbrev CapOK (ps : List (Sl Str)) : Prop := ∀ p ∈ ps, p.l.length ≤ p.c
theorem CapOK.snoc {ps : List (Sl Str)} {p : Sl Str} (h : CapOK ps) (hp : p.l.length ≤ p.c) : CapOK (ps ++ [p]) := fun q hq => by
  rcases List.mem_append.1 hq with hq | hq
  · exact h q hq
  simp at hq; subst hq; exact hp
def stepC (b : List Str) (x : Str) (st : List Int × Int) (k : Nat) : List Int × Int :=
  (st.1.set (k + 1) (if x = b.getD k default then st.2 + 1 else if st.1.getD k default > st.1.getD (k + 1) default then st.1.getD k default else st.1.getD (k + 1) default), st.1.getD (k + 1) default)
def rowC (b : List Str) (cur : List Int) (x : Str) : List Int := ((List.range b.length).foldl (stepC b x) (cur, 0)).1
def zeroC (b : List Str) : List Int := List.replicate (b.length + 1) 0
def commonI (a b : List Str) : Int := (a.foldl (rowC b) (zeroC b)).getD b.length default
structure BdC (m i k : Nat) (st : List Int × Int) : Prop where
  len : st.1.length = m + 1
  c0 : 0 ≤ st.2
  c1 : st.2 ≤ i
  lo : ∀ j : Nat, 0 ≤ st.1.getD j default
  hi : ∀ j : Nat, j ≤ k → st.1.getD j default ≤ (i : Int) + 1
  hi2 : ∀ j : Nat, k < j → st.1.getD j default ≤ i
theorem getD_set' {l : List Int} {k j : Nat} {v : Int} (hk : k < l.length) : (l.set k v).getD j default = if k = j then v else l.getD j default := by
  rw [List.getD_eq_getElem?_getD, List.getD_eq_getElem?_getD, List.getElem?_set]
  split
  · rfl
  rfl
theorem BdC.step {m i k : Nat} {st : List Int × Int} (h : BdC m i k st) (b : List Str) (x : Str) (hk : k < m) : BdC m i (k + 1) (stepC b x st k) := by
  have hl : k + 1 < st.1.length := by rw [h.len]; omega
  have h1 := h.lo k; have h2 := h.hi k (Nat.le_refl _); have h3 := h.lo (k + 1); have h4 := h.hi2 (k + 1) (by omega); have h5 := h.c0; have h6 := h.c1; refine ⟨by simp [stepC, h.len], h3, h4, fun j => ?_, fun j hj => ?_, fun j hj => ?_⟩
  · show 0 ≤ (st.1.set (k + 1) _).getD j default
    rw [getD_set' hl]
    split
    · split
      · omega
      split <;> omega
    exact h.lo j
  · show (st.1.set (k + 1) _).getD j default ≤ _
    rw [getD_set' hl]
    split
    · split
      · omega
      split <;> omega
    exact h.hi j (by omega)
  show (st.1.set (k + 1) _).getD j default ≤ _; rw [getD_set' hl, if_neg (by omega)]; exact h.hi2 j (by omega)
def arrB (g : Nat) (l : List Int) : Nat × Obj := (g, .cells (rows l).toArray I6 (0, 0))
end Go.Proofs.YtpfbbggmcbhboaaGreatDoor
end
