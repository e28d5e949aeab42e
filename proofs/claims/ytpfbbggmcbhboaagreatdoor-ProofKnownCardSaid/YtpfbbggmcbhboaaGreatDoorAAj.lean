/- Texts. -/
import Derived.Conc.TokenWalk
import Derived.Conc.CrowdSel
import Derived.Test.YtpfbbggmcbhboaaGreatDoorAAi
import Derived.Test.YtpfbbggmcbhboaaGreatDoorAAa
set_option linter.unusedVariables false
set_option linter.unusedSimpArgs false
section
namespace Go.Proofs.YtpfbbggmcbhboaaGreatDoor
open Go Go.W Tryz T F
set_option maxRecDepth 20000
attribute [local irreducible] HL HC HQ HB Row Rows2 Blk Facts
abbrev sAnna : Str := [97, 110, 110, 97]
abbrev sBea : Str := [98, 101, 97]
abbrev sBen : Str := [98, 101, 110]
abbrev sCid : Str := [99, 105, 100]
abbrev sCyd : Str := [99, 121, 100]
abbrev sAbe : Str := [97, 98, 101]
abbrev sDan : Str := [100, 97, 110]
abbrev folkL : List Str := [sAnna, sBen, sCyd]
abbrev slipL : List Mk := [(1, 1, sBea), (2, 2, sCid)]
abbrev newL : List Str := [sAnna, sBea, sBen, sCid]
def diffN (old page : List Str) : Nat → Nat → Nat → Lst
  | 0, _, _ => (0, [])
  | d + 1, i, j => leastOf ((if i = old.length ∧ j = page.length then [(0, [])] else []) ++
    (if j < page.length then [behindP (diffN old page d i (j + 1)) (1, (i : Int), page.getD j default)] else []) ++
    (if i < old.length then [behindP (diffN old page d (i + 1) j) (3, (i : Int), [])] else []) ++
    (if i < old.length ∧ j < page.length then behindP (diffN old page d (i + 1) (j + 1)) (2, (i : Int), page.getD j default) :: (if old.getD i default = page.getD j default then [diffN old page d (i + 1) (j + 1)] else []) else []))
theorem uG (old page : List Str) : ∀ (d i j : Nat), (old.length - i) + (page.length - j) < d → diffN old page d i j = diffP old page i j := by
  intro d
  induction d with
  | zero => intro i j h; omega
  | succ d ih =>
    intro i j h; unfold diffN diffP
    congr 1
    congr 1
    · congr 1
      · congr 1
        by_cases hj : j < page.length
        · rw [if_pos hj, dif_pos hj, ih i (j + 1) (by omega)]
        rw [if_neg hj, dif_neg hj]
      by_cases hi : i < old.length
      · rw [if_pos hi, dif_pos hi, ih (i + 1) j (by omega)]
      rw [if_neg hi, dif_neg hi]
    by_cases hi : i < old.length ∧ j < page.length
    · rw [if_pos hi, dif_pos hi, ih (i + 1) (j + 1) (by omega)]
    rw [if_neg hi, dif_neg hi]
theorem sj7 : applyP folkL slipL = (newL, 0) := by decide +kernel
theorem ex_diff : diffE folkL newL (diffP folkL newL 0 0).2 = (slipL, 0) := by rw [← uG folkL newL 10 0 0 (by decide)]; decide +kernel
theorem sj6 : stepsP folkL [(1, 0, sAbe), (3, 1, []), (3, 2, [])] 3 = ([1, 0, 2], 0) := by decide +kernel
theorem px2 (a b : Option Addr) : originE [⟨a, 2, [sAnna, sBen]⟩, ⟨b, 2, [sAnna, sCyd]⟩] [sAnna, sBen, sDan] = ([1, 0, -1], 0) := by rfl
theorem ex_look (a b : Option Addr) : lookP [⟨a, 2, [sAnna, sBen]⟩, ⟨b, 2, [sAnna, sCyd]⟩] [(1, 2, sDan)] [sAnna, sCyd, sBen, sDan] = ((2, 2), 0) := by
  have e1 : yearsErr (years [⟨a, 2, [sAnna, sBen]⟩, ⟨b, 2, [sAnna, sCyd]⟩]) = 0 := by show yearsErr [[sAnna, sBen], [sAnna, sCyd]] = 0; decide +kernel
  have e2 : (lastP [⟨a, 2, [sAnna, sBen]⟩, ⟨b, 2, [sAnna, sCyd]⟩]).l = [sAnna, sCyd] := rfl; have e3 : applyP [sAnna, sCyd] [(1, 2, sDan)] = ([sAnna, sCyd, sDan], 0) := by decide +kernel
  have e4 : pageErr [sAnna, sCyd, sBen, sDan] = 0 := by decide +kernel
  have e5 : (diffP [sAnna, sCyd, sDan] [sAnna, sCyd, sBen, sDan] 0 0).2 = [(1, 2, sBen)] := by rw [← uG _ _ 10 0 0 (by decide)]; decide +kernel
  unfold lookP; rw [e1, e2, e3, e4, e5]
  rfl
theorem w7 : Meets prog mS [] (outSl folkL) := by
 refine i3 cq9 rfl q6 fun w0 => ?_; refine c7 (c3 rfl (n7 ?_)); refine j8 _ rfl rfl (fun _ => aE ..) fun gS => ?_; refine c3 rfl (b8 (l4 ?_)); refine R5 (rows folkL) (List.prefix_refl _) ?_; exact ret1 (some ⟨gS, 0, none⟩, 3) rfl rfl rfl (Nat.le_refl _) (.refl _) ⟨m0, tK⟩
theorem R4 (n : Int) (s : Str) : Meets prog uA [int n, str s] { val := fun _ : Unit => .agg #[int 1, int n, str s] } := by
 refine i3 hj6 rfl q6 fun w0 => c7 (y9 rfl (fun _ => r7 _) fun gA => ?_); refine n7 (b7 rfl (b7 rfl ?_)); refine A9 _ rfl rfl (fun _ => E6 ..) (u0 rfl rfl M6 c6 (by rfl) (by rfl) ?_); refine b8 (l4 ?_); exact lL () rfl rfl j0 c6 rfl m0 rfl rfl tK nK tK
theorem J9 (n : Int) (s : Str) : Meets prog rI [int n, str s] { val := fun _ : Unit => .agg #[int 2, int n, str s] } := by
 refine i3 gj1 rfl q6 fun w0 => c7 (y9 rfl (fun _ => r7 _) fun gA => ?_); refine n7 (b7 rfl (b7 rfl ?_)); refine A9 _ rfl rfl (fun _ => E6 ..) (u0 rfl rfl M6 c6 (by rfl) (by rfl) ?_); refine b8 (l4 ?_); exact lL () rfl rfl j0 c6 rfl m0 rfl rfl tK nK tK
theorem D2 (n : Int) : Meets prog rJ [int n] { val := fun _ : Unit => .agg #[int 3, int n, str []] } := by
 refine i3 gj2 rfl q6 fun w0 => c7 (y9 rfl (fun _ => r7 _) fun gA => ?_); refine n7 (b7 rfl ?_); refine A9 _ rfl rfl (fun _ => jX ..) (u0 rfl rfl M6 c6 (by rfl) (by rfl) ?_); refine b8 (l4 ?_); exact lL () rfl rfl j0 c6 rfl m0 rfl rfl tK nK tK
theorem L9 : Meets prog mR [] (outSl slipL) := by
 refine i3 cq8 rfl q6 fun w0 => ?_; refine c7 (c3 rfl (n7 ?_)); refine d5 S7 rfl rfl (R4 1 sBea) l6 tK fun _ _ => d5 K1 rfl rfl (J9 2 sCid) l6 tK fun _ _ => j8 _ rfl rfl (fun _ => U5 ..) fun gS => ?_; refine c3 rfl (b8 (l4 ?_)); refine R5 (rows slipL) (List.prefix_refl _) ?_; exact ret1 (some ⟨gS, 0, none⟩, 2) rfl rfl rfl (Nat.le_refl _) (.refl _) ⟨m0, tK⟩
def agesP (x : OutC × Option Addr × Option Addr) : List (Sl Str) := [⟨x.2.1, 2, [sAnna, sBen]⟩, ⟨x.2.2, 2, [sAnna, sCyd]⟩]
theorem H7 : Meets prog mT [] { inv := fun x : OutC × Option Addr × Option Addr => 2 ≤ x.1.2, val := fun x => .slice x.1.1 2 x.1.2, LO := fun x => [Rows2 x.1.1 (agesP x)] } := by
 refine i3 cx0 rfl q6 fun w0 => ?_; refine c7 (c3 rfl (n7 ?_)); refine j8 _ rfl rfl (fun _ => U3 ..) fun ga => j8 _ rfl rfl (fun _ => U3 ..) fun gb => j8 _ rfl rfl (fun _ => gx8 ..) fun gS => ?_; refine c3 rfl (b8 (l4 ?_)); refine R5 (rows [(⟨some ⟨ga, 0, none⟩, 2, [sAnna, sBen]⟩ : Sl Str), ⟨some ⟨gb, 0, none⟩, 2, [sAnna, sCyd]⟩]) (List.prefix_refl _) (R5 (rows [sAnna, sCyd]) (List.prefix_refl _) (R5 (rows [sAnna, sBen]) (List.prefix_refl _) ?_)); refine rz0 (A := some ⟨gS, 0, none⟩) (ps := [(⟨some ⟨ga, 0, none⟩, 2, [sAnna, sBen]⟩ : Sl Str), ⟨some ⟨gb, 0, none⟩, 2, [sAnna, sCyd]⟩]) m2 (by intro p hp; simp at hp; rcases hp with rfl | rfl; exact m0; exact m1) ?_; exact ret1 ((some ⟨gS, 0, none⟩, 2), some ⟨ga, 0, none⟩, some ⟨gb, 0, none⟩) rfl rfl rfl (Nat.le_refl _) (.refl _) ⟨m0, tK⟩
abbrev orderM : List Mk := [(1, 0, sAbe), (3, 1, []), (3, 2, [])]
theorem gj7 {A B : Option Addr} {ca cb : Nat} (hc : 3 ≤ ca) : Meets prog I8 [.slice A 3 ca, .slice B 2 cb] { outErr (newL, (0 : Int)) with LI := [Row A (rows folkL), Row B (rows slipL)] } := by
  have h := J6 (A := A) (B := B) (ca := ca) (cb := cb) folkL slipL hc; rw [sj7] at h; exact h
theorem hj8 {A B : Option Addr} {ca cb : Nat} : Meets prog W7 [.slice A 3 ca, .slice B 4 cb] { outE (slipL, (0 : Int)) with LI := [Row A (rows folkL), Row B (rows newL)] } := by
  have h := gC (A := A) (B := B) (ca := ca) (cb := cb) folkL newL; rw [ex_diff] at h; exact h
theorem gj6 {A B : Option Addr} {ca cb : Nat} : Meets prog S6 [.slice A 3 ca, .slice B 3 cb, int 3] { outE (([1, 0, 2] : List Int), (0 : Int)) with LI := [Row A (rows folkL), Row B (rows orderM)] } := by
  have h := cR (A := A) (B := B) (ca := ca) (cb := cb) folkL orderM 3; rw [sj6] at h; exact h
theorem cx6 {B : Option Addr} {cb : Nat} (y : OutC × Option Addr × Option Addr) : Meets prog bI [.slice y.1.1 2 y.1.2, .slice B 3 cb] { outErr (([1, 0, -1] : List Int), (0 : Int)) with LI := [Rows2 y.1.1 (agesP y), Row B (rows [sAnna, sBen, sDan])] } := by
  have h := wM (A := y.1.1) (B := B) (ca := y.1.2) (cb := cb) (agesP y) [sAnna, sBen, sDan]; rw [agesP, px2] at h; exact h
theorem hj7 {B C : Option Addr} {cb cc : Nat} (y : OutC × Option Addr × Option Addr) (hy : 2 ≤ y.1.2) : Meets prog aZ [.slice y.1.1 2 y.1.2, .slice B 1 cb, .slice C 4 cc] { LI := [Rows2 y.1.1 (agesP y), Row B (rows [((1, 2, sDan) : Mk)]), Row C (rows [sAnna, sCyd, sBen, sDan])], val := fun _ : Unit => .tuple #[.agg #[int 2, int 2], int 0] } := by
  have h := nU (A := y.1.1) (B := B) (C := C) (ca := y.1.2) (cb := cb) (cc := cc) (agesP y) [(1, 2, sDan)] [sAnna, sCyd, sBen, sDan] hy (by intro q hq; simp [agesP] at hq; rcases hq with rfl | rfl <;> simp); rw [agesP, ex_look] at h; exact h
set_option maxHeartbeats 1000000 in
theorem qT : Meets prog aP [] { val := fun _ : Unit => .bool true } := by
 refine i3 sN rfl q6 fun w0 => ?_; refine c7 (c3 rfl (n7 ?_)); refine d5 w8 rfl rfl (w7) l6 tK fun x1 hx1 => d5 M1 rfl rfl (L9) l6 tK fun x2 hx2 => d5 J7 rfl rfl (gj7 hx1) l6 ⟨m1, m0, tK⟩ fun x3 hx3 => ?_; refine b7 rfl (j6 rfl rfl rfl (j6 rfl rfl rfl (c3 rfl (c3 rfl (n7 ?_))))); refine d5 w8 rfl rfl (w7) l6 tK fun x4 hx4 => j8 _ rfl rfl (fun _ => qD ..) fun gS => v8 (rows newL) (List.prefix_refl _) (d5 gK rfl rfl (hj8) l6 ⟨m1, m0, tK⟩ fun x5 _ => ?_); refine b7 rfl (j6 rfl rfl rfl (j6 rfl rfl rfl (c3 rfl (c3 rfl (n7 ?_))))); refine d5 w8 rfl rfl (w7) l6 tK fun x6 hx6 => d5 S7 rfl rfl (R4 0 sAbe) l6 tK fun _ _ => d5 D3 rfl rfl (D2 1) l6 tK fun _ _ => d5 D3 rfl rfl (D2 2) l6 tK fun _ _ => j8 _ rfl rfl (fun _ => jW ..) fun gS => v8 (rows orderM) (List.prefix_refl _) (d5 dD rfl rfl (gj6) l6 ⟨m1, m0, tK⟩ fun x7 _ => ?_); refine b7 rfl (j6 rfl rfl rfl (j6 rfl rfl rfl (c3 rfl (c3 rfl (n7 ?_))))); refine d5 I0 rfl rfl (H7) l6 tK fun y1 hy1 => j8 _ rfl rfl (fun _ => aE ..) fun gS => v8 (rows [sAnna, sBen, sDan]) (List.prefix_refl _) (d5 wZ rfl rfl (cx6 y1) l6 ⟨m1, m0, tK⟩ fun x8 _ => ?_); refine b7 rfl (j6 rfl rfl rfl (j6 rfl rfl rfl (c3 rfl (c3 rfl (n7 ?_))))); refine d5 I0 rfl rfl (H7) l6 tK fun y2 hy2 => d5 S7 rfl rfl (R4 2 sDan) l6 tK fun _ _ => j8 _ rfl rfl (fun _ => r8 ..) fun gS => v8 (rows [((1, 2, sDan) : Mk)]) (List.prefix_refl _) (j8 _ rfl rfl (fun _ => qD ..) fun gS => v8 (rows [sAnna, sCyd, sBen, sDan]) (List.prefix_refl _) (d5 pP rfl rfl (hj7 y2 hy2) l6 ⟨m2, m1, m0, tK⟩ fun _ _ => ?_)); refine b7 rfl (j6 rfl rfl rfl (j6 rfl rfl rfl ?_)); refine y9 rfl (fun _ => jZ _) fun gA => u0 rfl rfl M6 n8 (by rfl) (by rfl) ?_; refine c3 rfl (n7 (b7 rfl (E3 rfl rfl rfl (b7 rfl ?_)))); refine n6 rfl rfl ?_ ?_
 ·intro hg1; have hg1' := hg1; try simp at hg1'
  refine k9 hg1 (b7 rfl (k9 hg1 (E3 rfl rfl rfl ?_))); refine p_t rfl rfl (bt1 hg1) rfl (b7 rfl ?_); refine n6 rfl rfl ?_ ?_
  ·intro hg2; have hg2' := hg2; try simp at hg2'
   refine k9 hg2 (b7 rfl (k9 hg2 (E3 rfl rfl rfl ?_))); refine p_t rfl rfl (bt1 hg2) rfl (b7 rfl ?_); refine n6 rfl rfl ?_ ?_
   ·intro hg3; have hg3' := hg3; try simp at hg3'
    refine k9 hg3 (b7 rfl (k9 hg3 (E3 rfl rfl rfl ?_))); refine p_t rfl rfl (bt1 hg3) rfl (b7 rfl ?_); refine n6 rfl rfl ?_ ?_
    ·intro hg4; have hg4' := hg4; try simp at hg4'
     refine k9 hg4 (b7 rfl (k9 hg4 (E3 rfl rfl rfl ?_))); refine p_t rfl rfl (bt1 hg4) rfl (b7 rfl ?_); refine n6 rfl rfl ?_ ?_
     ·intro hg5; have hg5' := hg5; try simp at hg5'
      refine k9 hg5 ?_
      first | refine C8 rfl v5 n8 rfl mB (by rfl) ?_ | refine D6 rfl v5 n8 rfl mB (by rfl) ?_ | refine u3 rfl v5 n8 rfl rfl (q8 mB (s6 (by omega))) ?_
      refine k9 hg5 (A9 _ rfl rfl (fun _ => E5 ..) (k9 hg5 (vS _ rfl rfl rfl (fun _ => rV ..) (fun _ => bx9 ..) (p_t rfl rfl (bt1 hg5) rfl (b7 rfl ?_))))); refine n6 rfl rfl ?_ ?_
      ·intro hg6; have hg6' := hg6; try simp at hg6'
       refine k9 hg6 (b7 rfl (k9 hg6 ?_)); refine j8 _ rfl rfl (fun _ => qD ..) fun gS => k9 hg6 (v8 (rows newL) (List.prefix_refl _) (d5 iY rfl rfl (iW newL newL (by decide)) l6 mC fun _ _ => p_t rfl rfl (bt1 hg6) rfl (b7 rfl ?_))); refine n6 rfl rfl ?_ ?_
       ·intro hg7; have hg7' := hg7; try simp at hg7'
        refine k9 hg7 (b7 rfl (k9 hg7 ?_)); refine d5 M1 rfl rfl (L9) l6 tK fun x9 _ => k9 hg7 (d5 X8 rfl rfl (X4 slipL slipL (by decide)) l6 mC fun _ _ => p_t rfl rfl (bt1 hg7) rfl (b7 rfl ?_)); refine n6 rfl rfl ?_ ?_
        ·intro hg8; have hg8' := hg8; try simp at hg8'
         refine k9 hg8 (b7 rfl (k9 hg8 ?_)); refine j8 _ rfl rfl (fun _ => cM ..) fun gS => k9 hg8 (v8 (rows ([1, 0, 2] : List Int)) (List.prefix_refl _) (d5 aI rfl rfl (aG [1, 0, 2] [1, 0, 2] (by decide)) l6 mC fun _ _ => p_t rfl rfl (bt1 hg8) rfl (b7 rfl ?_))); refine n6 rfl rfl ?_ ?_
         ·intro hg9; have hg9' := hg9; try simp at hg9'
          refine k9 hg9 (b7 rfl (k9 hg9 ?_)); refine j8 _ rfl rfl (fun _ => cM ..) fun gS => k9 hg9 (v8 (rows ([1, 0, -1] : List Int)) (List.prefix_refl _) (d5 aI rfl rfl (aG [1, 0, -1] [1, 0, -1] (by decide)) l6 mC fun _ _ => p_t rfl rfl (bt1 hg9) rfl ?_)); refine c3 rfl (b8 (l4 ?_)); exact ret1 () rfl rfl rfl tK nK tK
         intro hg9; have hg9' := hg9; try simp at hg9'
        intro hg8; have hg8' := hg8; try simp at hg8'
       intro hg7; have hg7' := hg7; try simp at hg7'
      intro hg6; have hg6' := hg6; try simp at hg6'
     intro hg5; have hg5' := hg5; try simp at hg5'
    intro hg4; have hg4' := hg4; try simp at hg4'
   intro hg3; have hg3' := hg3; try simp at hg3'
  intro hg2; have hg2' := hg2; try simp at hg2'
 intro hg1; have hg1' := hg1; try simp at hg1'
end Go.Proofs.YtpfbbggmcbhboaaGreatDoor
end
section
namespace Go.W
open Go Go.Conc
open Go.ConcN (sumTo upd sumTo_upd upd_ne upd_same)
structure Dh where
  P : Program
  W : World
  o : List Nat
  v : Nat → Nat → Value
  n : Nat → Nat
  z : Value
  BW : Nat
abbrev Hq := List (Nat × Obj)
def Held (hp : Hq) (w : World) : Prop := ∀ q ∈ hp, w.heap[q.1]? = some q.2
def Has (hp : Hq) (k : Nat) : Prop := ∃ q ∈ hp, q.1 = k
structure Sur (p : Dh) (w : World) : Prop where
  os : w.os = p.W.os
  tape : w.tape = p.W.tape
  output : w.output = p.W.output
  size : p.W.heap.size ≤ w.heap.size
  block : ∀ k, k < p.W.heap.size → k ∉ p.o → w.heap[k]? = p.W.heap[k]?
def blk : Loc → Option Nat
  | .cell a => some a.block
  | .obj r => some r
  | _ => none
theorem blk_mem {l : Loc} (h : l.isMemory = true) : ∃ k, blk l = some k := by
  cases l <;> first | exact ⟨_, rfl⟩ | cases h
def RdT (p : Dh) (ro : Hq) (k : Nat) : Prop := (k < p.W.heap.size ∧ k ∉ p.o) ∨ Has ro k
def EvIn (p : Dh) (ro hp : Hq) (e : Event) : Prop :=
  Calm e ∧ ∀ x, (MemAct.ofEvent e).touch? = some x → x.loc.isMemory = true → ∀ k, blk x.loc = some k → (x.write = false ∧ RdT p ro k) ∨ Has hp k
structure Trn (w w' : World) (hp hp' : Hq) : Prop where
  os : w'.os = w.os
  tape : w'.tape = w.tape
  output : w'.output = w.output
  size : w.heap.size ≤ w'.heap.size
  keep : ∀ k, k < w.heap.size → ¬ Has hp k → w'.heap[k]? = w.heap[k]?
  held : Held hp' w'
  new : ∀ q ∈ hp', Has hp q.1 ∨ w.heap.size ≤ q.1
def FolS (p : Dh) (j c : Nat) (ro : Hq) : Nat → Nat → Frame → List Frame → Hq → Prop
  | 0, _, _, _, _ => False
  | B + 1, i, fr, cs, hp => ∀ w, Sur p w → Held hp w → Held ro w →
      (∃ fr' cs' w' es hp', stepG p.P false (G fr cs) w = .go (G fr' cs') w' es ∧ (∀ e ∈ es, EvIn p ro hp e) ∧ Trn w w' hp hp' ∧ FolS p j c ro B i fr' cs' hp') ∨
      (i < p.n j ∧ ∃ zz, stepG p.P false (G fr cs) w = .comm (G fr cs) #[scase c (p.v j i) zz] true .send w #[] ∧ FolS p j c ro B (i + 1) (fr.finish undef) cs hp) ∨
      (i = p.n j ∧ mayWake p.P (G fr cs) = true ∧ ∃ fr' cs', (∀ s tm, w.heap[c]? = some (.chan 0 #[] false s s tm) → stepG p.P false (G fr cs) w = .go (G fr' cs') (w.setChan c 0 #[] true s s tm) (closeEvents c)) ∧ QuitsD p.P B 0 (G fr' cs'))
inductive Ms where
  | s0
  | s1 (c : Nat)
  | ga (c d : Nat) (i j : Nat) (a b : Bool)
def selc (a : Bool) (c : Nat) (z : Value) : CommCase := if a = true then { chan := .chan none, send := none, zero := z } else rcase c z
def FolM (p : Dh) (Goal : Goroutine → World → Prop) : Nat → Ms → Hq → Frame → List Frame → Hq → Prop
  | 0, _, _, _, _, _ => False
  | B + 1, ms, ro, fr, cs, hp => ∀ w, Sur p w → Held hp w → Held ro w →
      (∃ fr' cs' w' es hp', stepG p.P true (G fr cs) w = .go (G fr' cs') w' es ∧ (∀ e ∈ es, EvIn p ro hp e) ∧ Trn w w' hp hp' ∧ FolM p Goal B ms ro fr' cs' hp') ∨
      (match ms with
       | .s0 => ∃ fr' cs' fc c tm r1 h2, stepG p.P true (G fr cs) w = .spawn (G fr' cs') (G fc []) w #[] ∧
           (c, Obj.chan 0 #[] false 0 0 tm) ∈ hp ∧ (∀ q ∈ r1, q ∈ hp) ∧ (∀ q ∈ h2, q ∈ hp) ∧ (∀ k, Has r1 k → ¬ Has h2 k) ∧ ¬ Has r1 c ∧ ¬ Has h2 c ∧
           FolS p 0 c (r1 ++ ro) p.BW 0 fc [] [] ∧ FolM p Goal B (.s1 c) (r1 ++ ro) fr' cs' h2
       | .s1 c0 => ∃ fr' cs' fc c tm r1 h2, stepG p.P true (G fr cs) w = .spawn (G fr' cs') (G fc []) w #[] ∧
           (c, Obj.chan 0 #[] false 0 0 tm) ∈ hp ∧ (∀ q ∈ r1, q ∈ hp) ∧ (∀ q ∈ h2, q ∈ hp) ∧ (∀ k, Has r1 k → ¬ Has h2 k) ∧ ¬ Has r1 c ∧ ¬ Has h2 c ∧
           FolS p 1 c (r1 ++ ro) p.BW 0 fc [] [] ∧ FolM p Goal B (.ga c0 c 0 0 false false) (r1 ++ ro) fr' cs' h2
       | .ga c d i j a b => stepG p.P true (G fr cs) w = .comm (G fr cs) #[selc a c p.z, selc b d p.z] true .select w #[] ∧
           (a = false → i < p.n 0 → FolM p Goal B (.ga c d (i + 1) j a b) ro (fr.finish (.tuple #[goInt 0, .bool true, p.v 0 i, p.z])) cs hp) ∧
           (b = false → j < p.n 1 → FolM p Goal B (.ga c d i (j + 1) a b) ro (fr.finish (.tuple #[goInt 1, .bool true, p.z, p.v 1 j])) cs hp) ∧
           (a = false → i = p.n 0 → b = false → FolM p Goal B (.ga c d i j true b) ro (fr.finish (.tuple #[goInt 0, .bool false, p.z, p.z])) cs hp) ∧
           (b = false → j = p.n 1 → a = false → FolM p Goal B (.ga c d i j a true) ro (fr.finish (.tuple #[goInt 1, .bool false, p.z, p.z])) cs hp) ∧
           (a = false → i = p.n 0 → b = true → j = p.n 1 → ∀ w', Sur p w' → Held hp w' → Held ro w' → Co p.P (G (fr.finish (.tuple #[goInt 0, .bool false, p.z, p.z])) cs) w' Goal) ∧
           (b = false → j = p.n 1 → a = true → i = p.n 0 → ∀ w', Sur p w' → Held hp w' → Held ro w' → Co p.P (G (fr.finish (.tuple #[goInt 1, .bool false, p.z, p.z])) cs) w' Goal))
/-! ### The trace -/
structure TV (t : Trace) (τ n : Nat) (own rdb : Nat → Nat → Prop) (live : Nat → Prop) : Prop where
  τle : τ ≤ t.size
  clean : ∀ said, ¬ Race said t
  pre : ∀ g, live g → ∀ i a, i < τ → touchAt t i = some a → a.loc.isMemory = true → Knows t g i
  own_ : ∀ g k, own g k → ∀ i a, τ ≤ i → touchAt t i = some a → blk a.loc = some k → Knows t g i
  rd : ∀ g k, rdb g k → ∀ i a, τ ≤ i → touchAt t i = some a → a.write = true → blk a.loc = some k → Knows t g i
  low : ∀ i a k, τ ≤ i → touchAt t i = some a → blk a.loc = some k → k < n
  hears : ∀ g, live g → Deaf t g = 0
def Mild (u : Trace) : Prop := ∀ op ∈ u, op.act.touch? = none ∧ op.act ≠ .mark .disable ∧ op.act ≠ .mark .enable
theorem S8 {t u : Trace} (hu : ∀ op ∈ u, op.act ≠ .mark .disable ∧ op.act ≠ .mark .enable) (g : Nat) : Deaf (t ++ u) g = Deaf t g := by
  obtain ⟨l⟩ := u; rw [Deaf_append]
  have : ∀ (l : List MemOp) d, (∀ op ∈ l, op.act ≠ .mark .disable ∧ op.act ≠ .mark .enable) → l.foldl (deafStep g) d = d := by
    intro l
    induction l with
    | nil => intro d _; rfl
    | cons y l ih =>
      intro d hl; have hy := hl y (by simp)
      have e1 : deafStep g d y = d := by
        unfold deafStep
        split
        · rename_i h1; exact absurd h1 hy.1
        · rename_i h1; exact absurd h1 hy.2
        rfl
      rw [List.foldl_cons, e1]; exact ih d fun op hop => hl op (by simp [hop])
  exact this l _ fun op hop => hu op (by simpa using hop)
section
variable {t u : Trace} {τ n : Nat} {own rdb : Nat → Nat → Prop} {live : Nat → Prop}
theorem C6 {i : Nat} {a : Touch} (ha : touchAt (t ++ u) i = some a) : (i < t.size ∧ touchAt t i = some a) ∨ (t.size ≤ i ∧ ∃ op ∈ u, (t ++ u)[i]? = some op ∧ op.act.touch? = some a) := by
  obtain ⟨x, hx, hxa⟩ := touch_of ha
  rcases getElem?_append_cases hx with ⟨hi, hx'⟩ | ⟨hi, hxu⟩
  · exact .inl ⟨hi, by rw [touchAt_of hx']; exact hxa⟩
  exact .inr ⟨hi, x, hxu, hx, hxa⟩
theorem TV.step (h : TV t τ n own rdb live) {g n' : Nat} (hg : live g) (hn : n ≤ n') (hu : ∀ op ∈ u, op.g = g) (hm : ∀ op ∈ u, op.act ≠ .mark .disable ∧ op.act ≠ .mark .enable)
    (hx : ∀ op ∈ u, ∀ x, op.act.touch? = some x → x.loc.isMemory = true → ∀ k, blk x.loc = some k → (x.write = false ∧ rdb g k) ∨ own g k)
    (d1 : ∀ g' k, own g k → own g' k → g = g') (d2 : ∀ g' g'' k, own g' k → ¬ rdb g'' k) (d3 : ∀ k, own g k ∨ rdb g k → k < n') : TV (t ++ u) τ n' own rdb live := by
  have hmem : ∀ op ∈ u, ∀ x k, op.act.touch? = some x → blk x.loc = some k → (x.write = false ∧ rdb g k) ∨ own g k := by
    intro op hop x k h1 h2; refine hx op hop x h1 ?_ k h2
    cases hl : x.loc <;> rw [hl] at h2 <;> first | rfl | cases h2
  refine ⟨by simp; have := h.τle; omega, fun said => noRace_append (h.clean said) hu fun i a ha op hop b hb hc => ?_, fun g' hg' i a hi ha hmm => ?_, fun g' k ho i a hi ha hb => ?_, fun g' k ho i a hi ha hw hb => ?_, fun i a k hi ha hb => ?_, fun g' hg' => ?_⟩
  · obtain ⟨e1, e2, e3, _⟩ := hc
    obtain ⟨k, hk⟩ := blk_mem e2; have hkb : blk b.loc = some k := by rw [← e1]; exact hk
    by_cases hiτ : i < τ
    · exact h.pre g hg i a hiτ ha e2
    rcases hmem op hop b k hb hkb with ⟨hw, hr⟩ | ho
    · rcases e3 with e3 | e3
      · exact h.rd g k hr i a (by omega) ha e3 hk
      rw [hw] at e3; cases e3
    exact h.own_ g k ho i a (by omega) ha hk
  · rcases C6 ha with ⟨_, ha'⟩ | ⟨hi', _⟩
    · exact (h.pre g' hg' i a hi ha' hmm).app u
    have := h.τle; omega
  · rcases C6 ha with ⟨_, ha'⟩ | ⟨hi', op, hop, hat, hoa⟩
    · exact (h.own_ g' k ho i a hi ha' hb).app u
    rcases hmem op hop a k hoa hb with ⟨_, hr⟩ | ho'
    · exact absurd hr (d2 g' g k ho)
    obtain rfl := d1 g' k ho' ho; have := knows_own hat
    rwa [hu op hop] at this
  · rcases C6 ha with ⟨_, ha'⟩ | ⟨hi', op, hop, hat, hoa⟩
    · exact (h.rd g' k ho i a hi ha' hw hb).app u
    rcases hmem op hop a k hoa hb with ⟨hw', _⟩ | ho'
    · rw [hw] at hw'; cases hw'
    exact absurd ho (d2 g g' k ho')
  · rcases C6 ha with ⟨_, ha'⟩ | ⟨hi', op, hop, hat, hoa⟩
    · have := h.low i a k hi ha' hb; omega
    rcases hmem op hop a k hoa hb with ⟨_, hr⟩ | ho'
    · have := d3 k (.inr hr); omega
    have := d3 k (.inl ho'); omega
  rw [S8 hm]; exact h.hears g' hg'
theorem TV.mild (h : TV t τ n own rdb live) (hu : Mild u) : TV (t ++ u) τ n own rdb live := by
  have no : ∀ op ∈ u, ∀ a, op.act.touch? = some a → False := fun op hop a ha => by rw [(hu op hop).1] at ha; cases ha
  refine ⟨by simp; have := h.τle; omega, fun said => ?_, fun g' hg' i a hi ha hmm => ?_, fun g' k ho i a hi ha hb => ?_, fun g' k ho i a hi ha hw hb => ?_, fun i a k hi ha hb => ?_, fun g' hg' => ?_⟩
  · rintro ⟨i, j, hij, ⟨a, b, ha, hb, hc⟩, n1, n2⟩
    rcases C6 (show touchAt (t ++ u) i = some a from ha) with ⟨hi, ha'⟩ | ⟨_, op, hop, _, hoa⟩
    · rcases C6 (show touchAt (t ++ u) j = some b from hb) with ⟨hj, hb'⟩ | ⟨_, op, hop, _, hoa⟩
      · exact h.clean said ⟨i, j, hij, ⟨a, b, ha', hb', hc⟩, fun e => n1 (hb_app u e), fun e => n2 (hb_app u e)⟩
      exact no op hop _ hoa
    exact no op hop _ hoa
  · rcases C6 ha with ⟨_, ha'⟩ | ⟨_, op, hop, _, hoa⟩
    · exact (h.pre g' hg' i a hi ha' hmm).app u
    exact (no op hop _ hoa).elim
  · rcases C6 ha with ⟨_, ha'⟩ | ⟨_, op, hop, _, hoa⟩
    · exact (h.own_ g' k ho i a hi ha' hb).app u
    exact (no op hop _ hoa).elim
  · rcases C6 ha with ⟨_, ha'⟩ | ⟨_, op, hop, _, hoa⟩
    · exact (h.rd g' k ho i a hi ha' hw hb).app u
    exact (no op hop _ hoa).elim
  · rcases C6 ha with ⟨_, ha'⟩ | ⟨_, op, hop, _, hoa⟩
    · exact h.low i a k hi ha' hb
    exact (no op hop _ hoa).elim
  rw [S8 fun op hop => (hu op hop).2]; exact h.hears g' hg'
theorem TV.weak {own' rdb' : Nat → Nat → Prop} {live' : Nat → Prop} {n' : Nat} (h : TV t τ n own rdb live) (ho : ∀ g k, own' g k → own g k) (hr : ∀ g k, rdb' g k → rdb g k) (hl : ∀ g, live' g → live g) (hn : n ≤ n') : TV t τ n' own' rdb' live' :=
  ⟨h.τle, h.clean, fun g hg => h.pre g (hl g hg), fun g k hk => h.own_ g k (ho g k hk), fun g k hk => h.rd g k (hr g k hk), fun i a k a1 a2 a3 => Nat.lt_of_lt_of_le (h.low i a k a1 a2 a3) hn, fun g hg => h.hears g (hl g hg)⟩
theorem TV.fresh {own' : Nat → Nat → Prop} (h : TV t τ n own rdb live) (ho : ∀ g k, own' g k → own g k ∨ n ≤ k) : TV t τ n own' rdb live :=
  ⟨h.τle, h.clean, h.pre, fun g k hk i a hi ha hb => (ho g k hk).elim (fun h1 => h.own_ g k h1 i a hi ha hb) (fun h1 => by have := h.low i a k hi ha hb; omega), h.rd, h.low, h.hears⟩
theorem dz4 {g i : Nat} {op : MemOp} (hop : t[i]? = some op) (hg : op.g = g) (h : t.deaf g i = 0) : t.heard i := ⟨g, by simp [Trace.g?, hop, hg], h⟩
theorem jx2 {g : Nat} (hd : Deaf t g = 0) (hu : ∀ op ∈ u, op.act ≠ .mark .disable ∧ op.act ≠ .mark .enable) {i : Nat} (h1 : t.size ≤ i) (h2 : i ≤ (t ++ u).size) : (t ++ u).deaf g i = 0 := by
  have e : (t ++ u).deaf g i = (t ++ u.extract 0 (i - t.size)).deaf g i := by
    have e2 : t ++ u = (t ++ u.extract 0 (i - t.size)) ++ u.extract (i - t.size) u.size := by
      rw [Array.append_assoc, Array.extract_append_extract]; have : max (i - t.size) u.size = u.size := by simp at h2; omega
      simp [this]
    rw [e2, deaf_old]
    simp at h2 ⊢
    omega
  rw [e]; have hs : (t ++ u.extract 0 (i - t.size)).size = i := by simp at h2 ⊢; omega
  have := S8 (t := t) (u := u.extract 0 (i - t.size)) (fun op hop => hu op (by
    obtain ⟨j, hj, rfl⟩ := Array.mem_iff_getElem.1 hop; rw [Array.getElem_extract]
    exact Array.getElem_mem _)) g
  unfold Deaf at this hd; rw [hs] at this; rw [this]; exact hd
end
end Go.W
end
section
namespace Go.W
open Go Go.Conc
open Go.ConcN (sumTo upd sumTo_upd upd_ne upd_same le_sumTo sumTo_congr)
inductive Role where
  | quit (n : Nat)
  | run (B j i c : Nat) (ro : Hq) (fr : Frame) (cs : List Frame) (hp : Hq)
  | park (B j i c : Nat) (ro : Hq) (fr : Frame) (cs : List Frame) (hp : Hq)
inductive Tag where
  | quit | run (j i c : Nat) | park (j i c : Nat)
def Role.tag : Role → Tag
  | .quit _ => .quit | .run _ j i c .. => .run j i c | .park _ j i c .. => .park j i c
def Role.wt : Role → Nat
  | .quit n => 2 * n | .run B .. => 2 * B + 2 | .park B .. => 2 * B + 3
def Role.hp : Role → Hq
  | .quit _ => [] | .run _ _ _ _ _ _ _ hp => hp | .park _ _ _ _ _ _ _ hp => hp
def Role.ro : Role → Hq
  | .quit _ => [] | .run _ _ _ _ ro .. => ro | .park _ _ _ _ ro .. => ro
def RoleOK (p : Dh) (d : Nat) (g : Goroutine) : Role → Prop
  | .quit n => QuitsD p.P n d g
  | .run B j i c ro fr cs hp => d = 0 ∧ g = G fr cs ∧ FolS p j c ro B i fr cs hp
  | .park B j i c ro fr cs hp => d = 0 ∧ (∃ zz, g = parked (G fr cs) #[scase c (p.v j i) zz] .send) ∧ i < p.n j ∧ FolS p j c ro B (i + 1) (fr.finish undef) cs hp
inductive MR where
  | run (B : Nat) (ms : Ms) (ro : Hq) (fr : Frame) (cs : List Frame) (hp : Hq)
  | park (B : Nat) (c d i j : Nat) (a b : Bool) (ro : Hq) (fr : Frame) (cs : List Frame) (hp : Hq)
def MR.wt : MR → Nat
  | .run B .. => 2 * B + 2
  | .park B .. => 2 * B + 3
def MR.hp : MR → Hq
  | .run _ _ _ _ _ hp => hp
  | .park _ _ _ _ _ _ _ _ _ _ hp => hp
def MR.ro : MR → Hq
  | .run _ _ ro .. => ro
  | .park _ _ _ _ _ _ _ ro .. => ro
def MR.st : MR → Ms
  | .run _ ms .. => ms
  | .park _ c d i j a b .. => .ga c d i j a b
def MR.waits : MR → Bool
  | .run .. => false
  | .park .. => true
def Like (g : Goroutine) (fr : Frame) (cs : List Frame) : Prop := g.status = .running ∧ g.frame = fr ∧ g.callers = cs ∧ g.dying = none
theorem Like.step {P : Program} {main : Bool} {g : Goroutine} {fr : Frame} {cs : List Frame} (h : Like g fr cs) (w : World) : stepG P main g w = stepG P main (G fr cs) w := stepG_same h.2.1 h.2.2.1 h.2.2.2 w
def MainOK (p : Dh) (Goal : Goroutine → World → Prop) (g : Goroutine) : MR → Prop
  | .run B ms ro fr cs hp => Like g fr cs ∧ FolM p Goal B ms ro fr cs hp
  | .park B c d i j a b ro fr cs hp => g = parked (G fr cs) #[selc a c p.z, selc b d p.z] .select ∧ FolM p Goal (B + 1) (.ga c d i j a b) ro fr cs hp ∧
      (a = false → i < p.n 0 → FolM p Goal B (.ga c d (i + 1) j a b) ro (fr.finish (.tuple #[goInt 0, .bool true, p.v 0 i, p.z])) cs hp) ∧
      (b = false → j < p.n 1 → FolM p Goal B (.ga c d i (j + 1) a b) ro (fr.finish (.tuple #[goInt 1, .bool true, p.z, p.v 1 j])) cs hp)
def nsp : Ms → Nat
  | .s0 => 0 | .s1 _ => 1 | .ga .. => 2
def ch : Ms → Nat → Nat
  | .s0, _ => 0 | .s1 c, _ => c | .ga c d .., j => if j = 0 then c else d
def rcv : Ms → Nat → Nat
  | .ga _ _ i k _ _, j => if j = 0 then i else k
  | _, _ => 0
def hrd : Ms → Nat → Bool
  | .ga _ _ _ _ a b, j => if j = 0 then a else b
  | _, _ => false
def unb (p : Dh) : Ms → Nat
  | .s0 => 2 * (2 * p.BW + 3) | .s1 _ => 2 * p.BW + 3 | .ga .. => 0
structure Cmb (p : Dh) (m : Nat) (c : Nat → Tag) (st : Ms) (wt : Bool) (cl : Nat → Bool) : Prop where
  m0 : 0 < m
  old : ∀ i, 0 < i → i < m → c i = .quit
  sd : ∀ j, j < nsp st → (c (m + j) = .quit ∧ cl j = true ∧ rcv st j = p.n j) ∨ (cl j = false ∧ hrd st j = false ∧ (c (m + j) = .run j (rcv st j) (ch st j) ∨ c (m + j) = .park j (rcv st j) (ch st j)))
  nb : ¬ (hrd st 0 = true ∧ hrd st 1 = true)
  wt_ : wt = true → ∀ j, j < nsp st → hrd st j = false → cl j = false ∧ c (m + j) = .run j (rcv st j) (ch st j)
def ownOf (M : MR) (ρ : Nat → Role) (g k : Nat) : Prop := (g = 0 ∧ Has M.hp k) ∨ (0 < g ∧ Has (ρ g).hp k)
def rdOf (p : Dh) (M : MR) (ρ : Nat → Role) (g k : Nat) : Prop := (g = 0 ∧ RdT p M.ro k) ∨ (0 < g ∧ RdT p (ρ g).ro k)
def rdx (p : Dh) (m : Nat) (M : MR) (ρ : Nat → Role) (g k : Nat) : Prop := rdOf p M ρ g k ∨ ∃ j, j < nsp M.st ∧ g = m + j ∧ k = ch M.st j
def liveOf (m n : Nat) (ρ : Nat → Role) (g : Nat) : Prop := g = 0 ∨ (m ≤ g ∧ g < n ∧ (ρ g).tag ≠ .quit)
def Root (t : Trace) (live : Nat → Prop) (st : Ms) (cl : Nat → Bool) (q : Nat) : Prop :=
  ∃ op, t[q]? = some op ∧ (live op.g ∨ ∃ j, j < nsp st ∧ op.act = .close (ch st j) ∧ cl j = true ∧ hrd st j = false ∧ t.heard q)
structure InvD (p : Dh) (Goal : Goroutine → World → Prop) (m τ : Nat) (ρ : Nat → Role) (M : MR) (t : Trace) (gs : Array Goroutine) (w : World) (cl : Nat → Bool) : Prop where
  cmb : Cmb p m (fun i => (ρ i).tag) M.st M.waits cl
  size : gs.size = m + nsp M.st
  main : ∃ g, gs[0]? = some g ∧ MainOK p Goal g M
  roles : ∀ i g, 0 < i → gs[i]? = some g → RoleOK p (Deaf t i) g (ρ i)
  chs : ∀ j, j < nsp M.st → ∃ f tm, w.heap[ch M.st j]? = some (.chan 0 #[] (cl j) f f tm)
  chn : ∀ j, j < nsp M.st → ∀ g, ¬ ownOf M ρ g (ch M.st j) ∧ ¬ rdOf p M ρ g (ch M.st j)
  chd : nsp M.st = 2 → ch M.st 0 ≠ ch M.st 1
  env : Sur p w
  heldM : Held M.hp w ∧ Held M.ro w
  held : ∀ i, 0 < i → i < gs.size → Held (ρ i).hp w ∧ Held (ρ i).ro w
  far : ∀ i, gs.size ≤ i → (ρ i).hp = [] ∧ (ρ i).ro = []
  d1 : ∀ g g' k, ownOf M ρ g k → ownOf M ρ g' k → g = g'
  d2 : ∀ g g' k, ownOf M ρ g k → ¬ rdOf p M ρ g' k
  ti : TV t τ w.heap.size (ownOf M ρ) (rdx p m M ρ) (liveOf m gs.size ρ)
  kn : ∀ i a, touchAt t i = some a → a.loc.isMemory = true → ∃ q, Before t i q ∧ Root t (liveOf m gs.size ρ) M.st cl q
  seen : ∃ B, ∀ op ∈ t, op.act.low B
  above : ∀ j, gs.size ≤ j → Deaf t j = 0
def Wt (p : Dh) (n : Nat) (ρ : Nat → Role) (M : MR) : Nat := M.wt + unb p M.st + sumTo n (fun i => if i = 0 then 0 else (ρ i).wt)
section
variable {p : Dh} {Goal : Goroutine → World → Prop} {m τ : Nat} {ρ : Nat → Role} {M : MR} {t u : Trace} {gs : Array Goroutine} {w : World} {cl : Nat → Bool}
theorem Sur.at (h : Sur p w) (d : Nat) : Sur p (w.at d) := ⟨h.os, h.tape, h.output, h.size, h.block⟩
theorem InvD.at (h : InvD p Goal m τ ρ M t gs w cl) (d : Nat) : InvD p Goal m τ ρ M t gs (w.at d) cl :=
  { h with env := h.env.at d, chs := h.chs, heldM := h.heldM, held := h.held, ti := h.ti }
theorem InvD.pos (h : InvD p Goal m τ ρ M t gs w cl) : 0 < gs.size := by rw [h.size]; have := h.cmb.m0; omega
theorem qV {hp : Hq} (h : Held hp w) {k : Nat} (hk : Has hp k) : k < w.heap.size := by
  obtain ⟨q, hq, rfl⟩ := hk; have := h q hq
  rcases Nat.lt_or_ge q.1 w.heap.size with h' | h'
  · exact h'
  rw [Array.getElem?_eq_none h'] at this; cases this
theorem InvD.own_lt (h : InvD p Goal m τ ρ M t gs w cl) {g k : Nat} (ho : ownOf M ρ g k) : k < w.heap.size := by
  rcases ho with ⟨_, hk⟩ | ⟨hg, hk⟩
  · exact qV h.heldM.1 hk
  rcases Nat.lt_or_ge g gs.size with hlt | hge
  · exact qV (h.held g hg hlt).1 hk
  rw [(h.far g hge).1] at hk; obtain ⟨q, hq, _⟩ := hk; cases hq
theorem InvD.rd_lt (h : InvD p Goal m τ ρ M t gs w cl) {g k : Nat} (hr : rdOf p M ρ g k) : k < w.heap.size := by
  rcases hr with ⟨_, hk | hk⟩ | ⟨hg, hk | hk⟩
  · exact Nat.lt_of_lt_of_le hk.1 h.env.size
  · exact qV h.heldM.2 hk
  · exact Nat.lt_of_lt_of_le hk.1 h.env.size
  rcases Nat.lt_or_ge g gs.size with hlt | hge
  · exact qV (h.held g hg hlt).2 hk
  rw [(h.far g hge).2] at hk; obtain ⟨q, hq, _⟩ := hk; cases hq
theorem InvD.chlt (h : InvD p Goal m τ ρ M t gs w cl) {j : Nat} (hj : j < nsp M.st) : ch M.st j < w.heap.size := by
  obtain ⟨f, tm, hc⟩ := h.chs j hj
  rcases Nat.lt_or_ge (ch M.st j) w.heap.size with h' | h'
  · exact h'
  rw [Array.getElem?_eq_none h'] at hc; cases hc
theorem InvD.dx (h : InvD p Goal m τ ρ M t gs w cl) {g g' k : Nat} (ho : ownOf M ρ g k) : ¬ rdx p m M ρ g' k := by
  rintro (hr | ⟨j, hj, _, rfl⟩)
  · exact h.d2 _ _ _ ho hr
  exact (h.chn j hj g).1 ho
theorem InvD.rdx_lt (h : InvD p Goal m τ ρ M t gs w cl) {g k : Nat} (hr : rdx p m M ρ g k) : k < w.heap.size := by
  rcases hr with hr | ⟨j, hj, _, rfl⟩
  · exact h.rd_lt hr
  exact h.chlt hj
theorem InvD.base (h : InvD p Goal m τ ρ M t gs w cl) {k : Nat} (hk : k < p.W.heap.size ∧ k ∉ p.o) (g : Nat) : rdOf p M ρ g k := by
  rcases Nat.eq_zero_or_pos g with rfl | hg
  · exact .inl ⟨rfl, .inl hk⟩
  exact .inr ⟨hg, .inl hk⟩
theorem InvD.lt_nsp (h : InvD p Goal m τ ρ M t gs w cl) {i : Nat} {x : Goroutine} (hi : gs[i]? = some x) : i < m + nsp M.st := by rw [← h.size]; exact (Array.getElem?_eq_some_iff.1 hi).1
theorem Cmb.idx {c : Nat → Tag} {st : Ms} {wt : Bool} (h : Cmb p m c st wt cl) {i : Nat} (hpos : 0 < i) (hi : i < m + nsp st) (hne : c i ≠ .quit) : ∃ j, i = m + j ∧ j < nsp st ∧ cl j = false ∧ hrd st j = false ∧ (c i = .run j (rcv st j) (ch st j) ∨ c i = .park j (rcv st j) (ch st j)) := by
  have hm : m ≤ i := by
    rcases Nat.lt_or_ge i m with h1 | h1
    · exact absurd (h.old i hpos h1) hne
    exact h1
  obtain ⟨j, rfl⟩ : ∃ j, i = m + j := ⟨i - m, by omega⟩
  rcases h.sd j (by omega) with ⟨h1, _⟩ | ⟨h1, h2, h3⟩
  · exact absurd h1 hne
  exact ⟨j, rfl, by omega, h1, h2, h3⟩
theorem rq8 (st : Ms) : nsp st ≤ 2 := by cases st <;> simp [nsp]
theorem InvD.live_of (h : InvD p Goal m τ ρ M t gs w cl) {i : Nat} {g : Goroutine} (hpos : 0 < i) (hi : gs[i]? = some g) (hne : (ρ i).tag ≠ .quit) : liveOf m gs.size ρ i := by
  refine .inr ⟨?_, (Array.getElem?_eq_some_iff.1 hi).1, hne⟩
  rcases Nat.lt_or_ge i m with h1 | h1
  · exact absurd (h.cmb.old i hpos h1) hne
  exact h1
theorem qj7 {g : Goroutine} {a b : Bool} {c d : Nat} {z : Value} {w : World} (h0 : a = false → ∃ f tm, w.heap[c]? = some (.chan 0 #[] false f f tm)) (h1 : b = false → ∃ f tm, w.heap[d]? = some (.chan 0 #[] false f f tm)) : (parked g #[selc a c z, selc b d z] .select).again w = parked g #[selc a c z, selc b d z] .select := by
  cases a with
  | true =>
    cases b with
    | true => simp [Goroutine.again, parked, selc]
    | false => obtain ⟨f, tm, hc⟩ := h1 rfl; simp [Goroutine.again, parked, selc, rcase, hc]
  | false =>
    obtain ⟨f, tm, hc⟩ := h0 rfl
    cases b with
    | true => simp [Goroutine.again, parked, selc, rcase, hc]
    | false => obtain ⟨f', tm', hd⟩ := h1 rfl; simp [Goroutine.again, parked, selc, rcase, hc, hd]
theorem InvD.still (h : InvD p Goal m τ ρ M t gs w cl) {w₁ : World} (hF : ∀ j, j < nsp M.st → w₁.heap[ch M.st j]? = w.heap[ch M.st j]?) (a a' : Goroutine) {i : Nat} {g : Goroutine} (hi : gs[i]? = some g) : woken p.P a a' w₁ g = g := by
  have key : g.again w₁ = g := by
    rcases Nat.eq_zero_or_pos i with rfl | hpos
    · obtain ⟨g0, h0, hm⟩ := h.main
      rw [h0] at hi; obtain rfl := Option.some.inj hi
      cases M with
      | run B ms ro fr cs hp => exact again_running _ (.inl hm.1.1)
      | park B c d i j a b ro fr cs hp =>
        obtain ⟨rfl, _⟩ := hm; refine qj7 (fun e => ?_) fun e => ?_
        · have hcl := (h.cmb.wt_ rfl 0 (by simp [MR.st, nsp]) (by simp [MR.st, hrd, e])).1
          obtain ⟨f, tm, hc⟩ := h.chs 0 (by simp [MR.st, nsp]); rw [hcl] at hc; exact ⟨f, tm, (hF 0 (by simp [MR.st, nsp])).trans hc⟩
        have hcl := (h.cmb.wt_ rfl 1 (by simp [MR.st, nsp]) (by simp [MR.st, hrd, e])).1; obtain ⟨f, tm, hc⟩ := h.chs 1 (by simp [MR.st, nsp]); rw [hcl] at hc; exact ⟨f, tm, (hF 1 (by simp [MR.st, nsp])).trans hc⟩
    have hr := h.roles i g hpos hi
    cases hρ : ρ i with
    | quit n => rw [hρ] at hr; exact again_running _ (QuitsD.status hr)
    | run B j i c ro fr cs hp => rw [hρ] at hr; obtain ⟨_, rfl, _⟩ := hr; exact again_running _ (.inl rfl)
    | park B j i' c ro fr cs hp =>
      rw [hρ] at hr; obtain ⟨_, ⟨zz, rfl⟩, _⟩ := hr; obtain ⟨j', _, hj, hcl, _, ht⟩ := h.cmb.idx hpos (h.lt_nsp hi) (by show (ρ i).tag ≠ _; rw [hρ]; simp [Role.tag]); have ht' : (ρ i).tag = .run j' (rcv M.st j') (ch M.st j') ∨ (ρ i).tag = .park j' (rcv M.st j') (ch M.st j') := ht; rw [hρ] at ht'; simp only [Role.tag] at ht'
      rcases ht' with e | e
      · cases e
      obtain ⟨rfl, rfl, rfl⟩ := Tag.park.inj e; obtain ⟨f, tm, hc⟩ := h.chs j hj; rw [hcl] at hc; exact again_send_open ((hF j hj).trans hc)
  unfold woken
  split
  · exact key
  rfl
theorem Root.app {live live' : Nat → Prop} {st st' : Ms} {cl cl' : Nat → Bool} {q : Nat} (h : Root t live st cl q) (hl : ∀ g, live g → live' g) (hc : ∀ j, j < nsp st → cl j = true → hrd st j = false → j < nsp st' ∧ ch st' j = ch st j ∧ cl' j = true ∧ hrd st' j = false) : Root (t ++ u) live' st' cl' q := by
  obtain ⟨op, hop, h1⟩ := h; have hlt : q < t.size := lt_size_of_getElem? hop; refine ⟨op, by rw [getElem?_append_old hlt]; exact hop, ?_⟩
  rcases h1 with h1 | ⟨j, h1, h2, h3, h4, h5⟩
  · exact .inl (hl _ h1)
  obtain ⟨a1, a2, a3, a4⟩ := hc j h1 h3 h4; exact .inr ⟨j, a1, by rw [a2]; exact h2, a3, a4, (heard_old hlt).2 h5⟩
theorem nL (h : ∃ B, ∀ op ∈ t, op.act.low B) (hu : ∃ B, ∀ op ∈ u, op.act.low B) : ∃ B, ∀ op ∈ t ++ u, op.act.low B := by
  obtain ⟨B1, h1⟩ := h; obtain ⟨B2, h2⟩ := hu; exact ⟨max B1 B2, fun op hop => (Array.mem_append.1 hop).elim (fun hh => MemAct.low_mono (Nat.le_max_left _ _) (h1 op hh)) (fun hh => MemAct.low_mono (Nat.le_max_right _ _) (h2 op hh))⟩
theorem sZ (u : Trace) : ∃ B, ∀ op ∈ u, op.act.low B := by
  obtain ⟨B, _, h⟩ := jj7 0 (u.toList.map (·.act)); exact ⟨B, fun op hop => h _ (List.mem_map.2 ⟨op, by simpa using hop, rfl⟩)⟩
theorem ownOf.ne0 {g k : Nat} (h : ownOf M ρ g k) (hg : g ≠ 0) : Has (ρ g).hp k := h.elim (fun x => absurd x.1 hg) fun x => x.2
theorem ownOf.at0 {k : Nat} (h : ownOf M ρ 0 k) : Has M.hp k := h.elim (fun x => x.2) fun x => absurd x.1 (Nat.lt_irrefl 0)
theorem InvD.act (h : InvD p Goal m τ ρ M t gs w cl) {a : Nat} (hlive : liveOf m gs.size ρ a) {hp hp' : Hq} (hhp : ∀ k, Has hp k → ownOf M ρ a k) {M' : MR} {ρ' : Nat → Role} {gs' : Array Goroutine} {w' : World}
    (hst : M'.st = M.st) (hwt : M'.waits = M.waits) (htag : ∀ k, (ρ' k).tag = (ρ k).tag) (hroM : M'.ro = M.ro) (hro : ∀ k, (ρ' k).ro = (ρ k).ro)
    (hM0 : a ≠ 0 → M'.hp = M.hp) (hρk : ∀ k, 0 < k → k ≠ a → (ρ' k).hp = (ρ k).hp) (hM1 : a = 0 → M'.hp = hp') (hρ1 : a ≠ 0 → (ρ' a).hp = hp')
    (ht : Trn w w' hp hp') (hug : ∀ op ∈ u, op.g = a) (hum : ∀ op ∈ u, op.act ≠ .mark .disable ∧ op.act ≠ .mark .enable)
    (hux : ∀ op ∈ u, ∀ x, op.act.touch? = some x → x.loc.isMemory = true → ∀ k, blk x.loc = some k → (x.write = false ∧ rdOf p M ρ a k) ∨ Has hp k)
    (hsz : gs'.size = gs.size) (hmain : ∃ g, gs'[0]? = some g ∧ MainOK p Goal g M') (hroles : ∀ i g, 0 < i → gs'[i]? = some g → RoleOK p (Deaf t i) g (ρ' i)) :
    InvD p Goal m τ ρ' M' (t ++ u) gs' w' cl := by
  have etag : (fun k => (ρ' k).tag) = fun k => (ρ k).tag := funext htag
  have elive : liveOf m gs.size ρ' = liveOf m gs.size ρ := by
    funext k
    simp only [liveOf, htag]
  have hdeaf : ∀ k, Deaf (t ++ u) k = Deaf t k := fun k => S8 hum k
  have erd : rdOf p M' ρ' = rdOf p M ρ := by
    funext g k
    simp only [rdOf, hroM, hro]
  have erdx : rdx p m M' ρ' = rdx p m M ρ := by
    funext g k
    simp only [rdx, erd, hst]
  have halt : a < gs.size := by
    rcases hlive with rfl | ⟨_, h2, _⟩
    · exact h.pos
    exact h2
  have own_new : ∀ g k, ownOf M' ρ' g k → ownOf M ρ g k ∨ (g = a ∧ w.heap.size ≤ k) := by
    have new : ∀ k, Has hp' k → ownOf M ρ a k ∨ w.heap.size ≤ k := by
      rintro k ⟨q, hq, rfl⟩
      rcases ht.new q hq with h1 | h1
      · exact .inl (hhp _ h1)
      exact .inr h1
    rintro g k (⟨rfl, hk⟩ | ⟨hg, hk⟩)
    · by_cases ha : a = 0
      · rw [hM1 ha] at hk
        subst ha; exact (new k hk).imp id fun x => ⟨rfl, x⟩
      rw [hM0 ha] at hk; exact .inl (.inl ⟨rfl, hk⟩)
    by_cases hga : g = a
    · subst hga
      rw [hρ1 (by omega)] at hk; exact (new k hk).imp id fun x => ⟨rfl, x⟩
    rw [hρk g hg hga] at hk; exact .inl (.inr ⟨hg, hk⟩)
  have own_has : ∀ k, ownOf M' ρ' a k → Has hp' k := by
    intro k hk
    by_cases ha : a = 0
    · subst ha; rw [← hM1 rfl]; exact hk.at0
    rw [← hρ1 ha]; exact hk.ne0 ha
  have keepN : ∀ k, k < w.heap.size → ¬ ownOf M ρ a k → w'.heap[k]? = w.heap[k]? := fun k hk hn => ht.keep k hk fun hh => hn (hhp k hh); have keepO : ∀ g k, g ≠ a → ownOf M ρ g k → w'.heap[k]? = w.heap[k]? := fun g k hg ho => keepN k (h.own_lt ho) fun hk => hg (h.d1 _ _ _ ho hk); have keepR : ∀ g k, rdOf p M ρ g k → w'.heap[k]? = w.heap[k]? := fun g k hr => keepN k (h.rd_lt hr) fun hk => h.d2 _ _ _ hk hr; have keepC : ∀ j, j < nsp M.st → w'.heap[ch M.st j]? = w.heap[ch M.st j]? := fun j hj => keepN _ (h.chlt hj) (h.chn j hj a).1; refine { cmb := by rw [etag, hst, hwt]; exact h.cmb, size := by rw [hsz, hst]; exact h.size, main := hmain, roles := fun i g hi hg => by rw [hdeaf]; exact hroles i g hi hg, chs := ?_, chn := ?_, chd := by rw [hst]; exact h.chd, env := ?_, heldM := ?_, held := ?_, far := ?_, d1 := ?_, d2 := ?_, ti := ?_, kn := ?_, seen := nL h.seen (sZ u), above := fun j hj => by rw [hdeaf]; exact h.above j (hsz ▸ hj) }
  · rw [hst]; intro j hj
    obtain ⟨f, tm, hc⟩ := h.chs j hj; exact ⟨f, tm, (keepC j hj).trans hc⟩
  · rw [hst, erd]; intro j hj g
    refine ⟨fun ho => ?_, (h.chn j hj g).2⟩
    rcases own_new g _ ho with h1 | ⟨_, h1⟩
    · exact (h.chn j hj g).1 h1
    have := h.chlt hj; omega
  · refine ⟨ht.os.trans h.env.os, ht.tape.trans h.env.tape, ht.output.trans h.env.output, Nat.le_trans h.env.size ht.size, fun k hk h1 => ?_⟩
    exact (keepR 0 k (h.base ⟨hk, h1⟩ 0)).trans (h.env.block k hk h1)
  · refine ⟨?_, fun q hq => ?_⟩
    · by_cases ha : a = 0
      · rw [hM1 ha]; exact ht.held
      rw [hM0 ha]; exact fun q hq => (keepO 0 q.1 (Ne.symm ha) (.inl ⟨rfl, q, hq, rfl⟩)).trans (h.heldM.1 q hq)
    rw [hroM] at hq; exact (keepR 0 q.1 (.inl ⟨rfl, .inr ⟨q, hq, rfl⟩⟩)).trans (h.heldM.2 q hq)
  · intro k hk hlt
    rw [hsz] at hlt; refine ⟨?_, fun q hq => ?_⟩
    · by_cases hka : k = a
      · subst hka; rw [hρ1 (by omega)]; exact ht.held
      rw [hρk k hk hka]; exact fun q hq => (keepO k q.1 hka (.inr ⟨hk, q, hq, rfl⟩)).trans ((h.held k hk hlt).1 q hq)
    rw [hro] at hq; exact (keepR k q.1 (.inr ⟨hk, .inr ⟨q, hq, rfl⟩⟩)).trans ((h.held k hk hlt).2 q hq)
  · intro k hk
    rw [hsz] at hk; rw [hro, hρk k (by have := h.pos; omega) (by omega)]; exact h.far k hk
  · intro g1 g2 k h1 h2
    rcases own_new g1 k h1 with ha | ⟨ea, ha⟩
    · rcases own_new g2 k h2 with hb | ⟨eb, hb⟩
      · exact h.d1 _ _ _ ha hb
      have := h.own_lt ha; omega
    rcases own_new g2 k h2 with hb | ⟨eb, hb⟩
    · have := h.own_lt hb; omega
    rw [ea, eb]
  · rw [erd]; intro g g' k h1 h2
    rcases own_new g k h1 with ha | ⟨_, ha⟩
    · exact h.d2 _ _ _ ha h2
    have := h.rd_lt h2; omega
  · rw [hsz, elive, erdx]
    let own2 : Nat → Nat → Prop := fun g k => ownOf M ρ g k ∨ ownOf M' ρ' g k
    have h2 : TV t τ w.heap.size own2 (rdx p m M ρ) (liveOf m gs.size ρ) := h.ti.fresh fun g k hk => hk.elim .inl fun hk => (own_new g k hk).imp id fun x => x.2; have own2' : ∀ g k, own2 g k → ownOf M ρ g k ∨ (g = a ∧ w.heap.size ≤ k) := fun g k hk => hk.elim .inl (own_new g k)
    have h3 := h2.step (u := u) (g := a) (n' := w'.heap.size) hlive ht.size hug hum (fun op hop x hx hm k hk => (hux op hop x hx hm k hk).imp (fun q => ⟨q.1, .inl q.2⟩) fun hh => .inl (hhp k hh)) (fun g' k ha hb => by
        rcases own2' _ _ ha with ha | ⟨_, ha⟩
        · rcases own2' _ _ hb with hb | ⟨rfl, hb⟩
          · exact h.d1 _ _ _ ha hb
          rfl
        · rcases own2' _ _ hb with hb | ⟨rfl, hb⟩
          · have := h.own_lt hb; omega
          rfl) (fun g' g'' k ha hr => by
        rcases own2' _ _ ha with ha | ⟨_, ha⟩
        · exact h.dx ha hr
        · have := h.rdx_lt hr; omega) (fun k hk => by
        rcases hk with hk | hk
        · rcases hk with hk | hk
          · have := h.own_lt hk; have := ht.size; omega
          exact qV ht.held (own_has k hk)
        have := h.rdx_lt hk; have := ht.size; omega)
    exact h3.weak (fun g k hk => .inr hk) (fun g k hk => hk) (fun g hg => hg) (Nat.le_refl _)
  intro j b hb hm; rw [hsz, elive, hst]
  rcases C6 hb with ⟨_, hb'⟩ | ⟨hj, op, hop, hat, _⟩
  · obtain ⟨q, hq, hr⟩ := h.kn j b hb' hm
    exact ⟨q, hq.app u, hr.app (fun _ h => h) fun j h1 h2 h3 => ⟨h1, rfl, h2, h3⟩⟩
  exact ⟨j, .inl rfl, op, hat, .inl (by rw [hug op hop]; exact hlive)⟩
theorem InvD.slip (h : InvD p Goal m τ ρ M t gs w cl) {i n : Nat} (hpos : 0 < i) {g g' : Goroutine} (hi : gs[i]? = some g) (hρ : ρ i = .quit (n + 1)) (hug : ∀ op ∈ u, op.g = i) (hn : ∀ op ∈ u, op.act.touch? = none)
    (hok : QuitsD p.P n (Deaf (t ++ u) i) g') : InvD p Goal m τ (upd ρ i (.quit n)) M (t ++ u) (gs.setIfInBounds i g') w cl := by
  have hilt : i < gs.size := (Array.getElem?_eq_some_iff.1 hi).1
  have same : ∀ k, (upd ρ i (.quit n) k).tag = (ρ k).tag ∧ (upd ρ i (.quit n) k).hp = (ρ k).hp ∧ (upd ρ i (.quit n) k).ro = (ρ k).ro := fun k => by
    by_cases hk : k = i
    · subst hk; rw [upd_same, hρ]; exact ⟨rfl, rfl, rfl⟩
    rw [upd_ne ρ _ hk]; exact ⟨rfl, rfl, rfl⟩
  have etag : (fun k => (upd ρ i (.quit n) k).tag) = fun k => (ρ k).tag := funext fun k => (same k).1; have ehp : ∀ k, (upd ρ i (.quit n) k).hp = (ρ k).hp := fun k => (same k).2.1; have ero : ∀ k, (upd ρ i (.quit n) k).ro = (ρ k).ro := fun k => (same k).2.2
  have elive : liveOf m gs.size (upd ρ i (.quit n)) = liveOf m gs.size ρ := by
    funext k
    have := congrFun etag k; simp only [liveOf, this]
  have eown : ownOf M (upd ρ i (.quit n)) = ownOf M ρ := by
    funext g k
    simp only [ownOf, ehp]
  have erd : rdOf p M (upd ρ i (.quit n)) = rdOf p M ρ := by
    funext g k
    simp only [rdOf, ero]
  have erdx : rdx p m M (upd ρ i (.quit n)) = rdx p m M ρ := by
    funext g k
    simp only [rdx, erd]
  have hdeaf : ∀ k, k ≠ i → Deaf (t ++ u) k = Deaf t k := fun k hk => Deaf_other t (Ne.symm hk) u hug
  have hnl : ¬ liveOf m gs.size ρ i := by
    rintro (h0 | ⟨_, _, h1⟩)
    · omega
    rw [hρ] at h1; exact h1 rfl
  refine { cmb := by rw [etag]; exact h.cmb, size := by simp [h.size], main := ?_, roles := ?_, chs := h.chs, chn := by rw [eown, erd]; exact h.chn, chd := h.chd, env := h.env, heldM := h.heldM, held := ?_, far := ?_, d1 := by rw [eown]; exact h.d1, d2 := by rw [eown, erd]; exact h.d2, ti := ?_, kn := ?_, seen := nL h.seen (sZ u), above := ?_ }
  · obtain ⟨g0, h0, hm⟩ := h.main
    exact ⟨g0, by rw [Array.getElem?_setIfInBounds_ne (by omega)]; exact h0, hm⟩
  · intro k x hk hx
    by_cases hki : i = k
    · subst hki
      rw [Array.getElem?_setIfInBounds_self_of_lt hilt] at hx; obtain rfl := Option.some.inj hx; rw [upd_same]; exact hok
    rw [Array.getElem?_setIfInBounds_ne hki] at hx; rw [upd_ne ρ _ (Ne.symm hki), hdeaf k (Ne.symm hki)]; exact h.roles k x hk hx
  · intro k hk hlt
    rw [Array.size_setIfInBounds] at hlt; rw [ehp, ero]; exact h.held k hk hlt
  · intro k hk
    rw [Array.size_setIfInBounds] at hk; rw [ehp, ero]; exact h.far k hk
  · rw [Array.size_setIfInBounds, elive, eown, erdx]
    have no : ∀ op ∈ u, ∀ a, op.act.touch? = some a → False := fun op hop a ha => by rw [hn op hop] at ha; cases ha
    have ht := h.ti; refine ⟨by simp; have := ht.τle; omega, fun said => ?_, fun g' hg' i a hi ha hmm => ?_, fun g' k ho i a hi ha hb => ?_, fun g' k ho i a hi ha hw hb => ?_, fun i a k hi ha hb => ?_, fun g' hg' => ?_⟩
    · exact noRace_append (ht.clean said) hug fun j a ha op hop b hb _ => (no op hop b hb).elim
    · rcases C6 ha with ⟨_, ha'⟩ | ⟨_, op, hop, _, hoa⟩
      · exact (ht.pre g' hg' i a hi ha' hmm).app u
      exact (no op hop _ hoa).elim
    · rcases C6 ha with ⟨_, ha'⟩ | ⟨_, op, hop, _, hoa⟩
      · exact (ht.own_ g' k ho i a hi ha' hb).app u
      exact (no op hop _ hoa).elim
    · rcases C6 ha with ⟨_, ha'⟩ | ⟨_, op, hop, _, hoa⟩
      · exact (ht.rd g' k ho i a hi ha' hw hb).app u
      exact (no op hop _ hoa).elim
    · rcases C6 ha with ⟨_, ha'⟩ | ⟨_, op, hop, _, hoa⟩
      · exact ht.low i a k hi ha' hb
      exact (no op hop _ hoa).elim
    have hgi : g' ≠ i := by rintro rfl; exact hnl hg'
    rw [hdeaf g' hgi]; exact ht.hears g' hg'
  · intro j a ha hm
    rw [Array.size_setIfInBounds, elive]
    rcases C6 ha with ⟨_, ha'⟩ | ⟨_, op, hop, _, hoa⟩
    · obtain ⟨q, hq, hr⟩ := h.kn j a ha' hm
      exact ⟨q, hq.app u, hr.app (fun _ h => h) fun j h1 h2 h3 => ⟨h1, rfl, h2, h3⟩⟩
    rw [hn op hop] at hoa; cases hoa
  intro j hj; rw [Array.size_setIfInBounds] at hj; rw [hdeaf j (by omega)]; exact h.above j hj
end
end Go.W
end
section
namespace Go.W
open Go Go.Conc
open Go.ConcN (sumTo upd sumTo_upd upd_ne upd_same le_sumTo sumTo_congr)
section
variable {p : Dh} {Goal : Goroutine → World → Prop} {m τ : Nat} {ρ : Nat → Role} {M : MR} {t u : Trace} {gs : Array Goroutine} {w : World} {cl : Nat → Bool} {sl : Option (Nat × Nat)}
/-! ### Weights -/
theorem qj9 {i n : Nat} (hpos : 0 < i) (hi : i < n) (R' : Role) : sumTo n (fun k => if k = 0 then 0 else (upd ρ i R' k).wt) + (ρ i).wt = sumTo n (fun k => if k = 0 then 0 else (ρ k).wt) + R'.wt := by
  have h := sumTo_upd (fun k => if k = 0 then 0 else (ρ k).wt) R'.wt id hi; simp only [id, if_neg (show ¬ i = 0 by omega)] at h; rw [← h]
  congr 1
  refine sumTo_congr fun k _ => ?_
  by_cases hk : k = i
  · subst hk; rw [upd_same, upd_same, if_neg (by omega)]
  rw [upd_ne ρ R' hk, upd_ne _ _ hk]
theorem bj6 {i n : Nat} (hpos : 0 < i) (hi : i < n) (R' : Role) : Wt p n (upd ρ i R') M + (ρ i).wt = Wt p n ρ M + R'.wt := by
  have := qj9 (ρ := ρ) hpos hi R'; unfold Wt; omega
theorem cz2 (ρ : Nat → Role) (i : Nat) (R : Role) : (fun k => (upd ρ i R k).tag) = upd (fun k => (ρ k).tag) i R.tag := by
  funext k
  by_cases hk : k = i
  · subst hk; rw [upd_same, upd_same]
  rw [upd_ne ρ R hk, upd_ne _ _ hk]
/-! ### Who offers what -/
theorem nx5 (a : Bool) (c : Nat) (z : Value) : (selc a c z).send = none := by cases a <;> rfl
theorem uJ {a : Bool} {c x : Nat} {z : Value} (h : (selc a c z).chan = .chan (some x)) : a = false ∧ c = x := by
  cases a with
  | true => cases h
  | false => exact ⟨rfl, by simpa [selc, rcase] using h⟩
theorem off_sel {g : Goroutine} {a b : Bool} {c d x : Nat} {z : Value} {sh : CommShape} {bb : Bool} (h : offersAt (parked g #[selc a c z, selc b d z] sh) x bb ≠ []) : bb = false ∧ ((a = false ∧ c = x) ∨ (b = false ∧ d = x)) := by
  have hmem : ∀ cc ∈ #[selc a c z, selc b d z], cc = selc a c z ∨ cc = selc b d z := fun cc hcc => by simpa using hcc
  cases bb with
  | true => rw [offersAt_parked_sends (fun cc hcc => by rcases hmem cc hcc with rfl | rfl <;> exact nx5 _ _ _)] at h; exact absurd rfl h
  | false =>
    refine ⟨rfl, Classical.byContradiction fun hn => h (offersAt_parked_off (fun cc hcc e => ?_) false)⟩
    rcases hmem cc hcc with rfl | rfl
    · exact hn (.inl (uJ e))
    exact hn (.inr (uJ e))
theorem sx8 {g : Goroutine} {st : Ms} {c d i k : Nat} {a b : Bool} {z : Value} {sh : CommShape} (hst : st = .ga c d i k a b) (hcd : c ≠ d) {j : Nat} (hj : j < 2) (hh : hrd st j = false) : offersAt (parked g #[selc a c z, selc b d z] sh) (ch st j) false = [j] ∧ #[selc a c z, selc b d z][j]? = some (rcase (ch st j) z) := by
  subst hst; have h2 : j = 0 ∨ j = 1 := by omega
  rcases h2 with rfl | rfl
  · simp only [hrd, if_true] at hh
    subst hh; have e : #[selc false c z, selc b d z][0]? = some (rcase c z) := rfl; refine ⟨offersAt_parked_at (z := z) e fun m cc hm hcc hx => ?_, rfl⟩
    have : m = 1 := by
      have := (Array.getElem?_eq_some_iff.1 hcc).1
      simp at this
      omega
    subst this; obtain rfl : selc b d z = cc := by simpa using hcc
    exact hcd (uJ hx).2.symm
  simp only [hrd] at hh; obtain rfl : b = false := by simpa using hh
  have e : #[selc a c z, selc false d z][1]? = some (rcase d z) := rfl; refine ⟨offersAt_parked_at (z := z) e fun m cc hm hcc hx => ?_, rfl⟩
  have : m = 0 := by
    have := (Array.getElem?_eq_some_iff.1 hcc).1
    simp at this
    omega
  subst this; obtain rfl : selc a c z = cc := by simpa using hcc
  exact hcd (uJ hx).2
theorem InvD.off (h : InvD p Goal m τ ρ M t gs w cl) {k : Nat} {x : Goroutine} (hk : gs[k]? = some x) {c : Nat} {b : Bool} (hne : offersAt x c b ≠ []) :
    (k = 0 ∧ M.waits = true ∧ b = false ∧ ∃ j, j < nsp M.st ∧ hrd M.st j = false ∧ c = ch M.st j) ∨ (0 < k ∧ b = true ∧ ∃ j, k = m + j ∧ j < nsp M.st ∧ (ρ k).tag = .park j (rcv M.st j) (ch M.st j) ∧ c = ch M.st j) := by
  have run : x.status = .running ∨ x.status = .finished → False := fun hs => hne (offersAt_of_not_blocked (by rcases hs with hs | hs <;> rw [hs] <;> simp) c b)
  rcases Nat.eq_zero_or_pos k with rfl | hpos
  · obtain ⟨g0, h0, hm⟩ := h.main
    rw [h0] at hk; obtain rfl := Option.some.inj hk
    cases M with
    | run B ms ro fr cs hp => exact (run (.inl hm.1.1)).elim
    | park B c' d i j a b' ro fr cs hp =>
      obtain ⟨rfl, _⟩ := hm; obtain ⟨rfl, h1⟩ := off_sel hne; refine .inl ⟨rfl, rfl, rfl, ?_⟩
      rcases h1 with ⟨h1, h2⟩ | ⟨h1, h2⟩
      · exact ⟨0, by simp [MR.st, nsp], by simp [MR.st, hrd, h1], h2.symm⟩
      exact ⟨1, by simp [MR.st, nsp], by simp [MR.st, hrd, h1], h2.symm⟩
  have hr := h.roles k x hpos hk
  cases hρ : ρ k with
  | quit n => rw [hρ] at hr; exact (run (QuitsD.status hr)).elim
  | run B j i c ro fr cs hp => rw [hρ] at hr; obtain ⟨_, rfl, _⟩ := hr; exact (run (.inl rfl)).elim
  | park B j i c' ro fr cs hp =>
    rw [hρ] at hr; obtain ⟨_, ⟨zz, rfl⟩, _⟩ := hr; obtain ⟨j', e, hj, hcl, _, ht⟩ := h.cmb.idx hpos (h.lt_nsp hk) (by show (ρ k).tag ≠ _; rw [hρ]; simp [Role.tag]); have ht' : (ρ k).tag = .run j' (rcv M.st j') (ch M.st j') ∨ (ρ k).tag = .park j' (rcv M.st j') (ch M.st j') := ht; rw [hρ] at ht'; simp only [Role.tag] at ht'
    rcases ht' with e2 | e2
    · cases e2
    obtain ⟨rfl, rfl, rfl⟩ := Tag.park.inj e2
    cases b with
    | false => rw [offersAt_parked_send'] at hne; exact absurd rfl hne
    | true =>
      rw [offersAt_parked_send] at hne
      by_cases hc : ch M.st j = c
      · exact .inr ⟨hpos, rfl, j, e, hj, rfl, hc.symm⟩
      rw [if_neg hc] at hne; exact absurd rfl hne
theorem InvD.nobody (h : InvD p Goal m τ ρ M t gs w cl) (i : Nat) {c : Nat} {b : Bool} (hno : ∀ k x, k ≠ i → gs[k]? = some x → ¬ ((k = 0 ∧ M.waits = true ∧ b = false ∧ ∃ j, j < nsp M.st ∧ hrd M.st j = false ∧ c = ch M.st j) ∨ (0 < k ∧ b = true ∧ ∃ j, k = m + j ∧ j < nsp M.st ∧ (ρ k).tag = .park j (rcv M.st j) (ch M.st j) ∧ c = ch M.st j))) :
    partners (gs.setIfInBounds i ph) c b = [] := by
  refine Go.Conc.partners_nil fun j x hj => ?_
  rcases getElem?_stand gs i j x hj with ⟨rfl, rfl⟩ | ⟨hne, hx⟩
  · exact offersAt_ph c b
  exact Classical.byContradiction fun hn => hno j x hne hx (h.off hx hn)
theorem InvD.chi (h : InvD p Goal m τ ρ M t gs w cl) {i j : Nat} (hi : i < nsp M.st) (hj : j < nsp M.st) (e : ch M.st i = ch M.st j) : i = j := by
  have h2 := rq8 M.st
  by_cases hij : i = j
  · exact hij
  have hn : nsp M.st = 2 := by omega
  have := h.chd hn; have hc : (i = 0 ∧ j = 1) ∨ (i = 1 ∧ j = 0) := by omega
  rcases hc with ⟨rfl, rfl⟩ | ⟨rfl, rfl⟩
  · exact absurd e this
  exact absurd e.symm this
/-! ### What a communication leaves -/
theorem InvD.comm (h : InvD p Goal m τ ρ M t gs w cl) {ρ' : Nat → Role} {M' : MR} {gs' : Array Goroutine} {w' : World} {cl' : Nat → Bool}
    (hlive : ∀ g, liveOf m gs.size ρ' g → liveOf m gs.size ρ g) (hfar : ∀ i, gs.size ≤ i → (ρ' i).hp = [] ∧ (ρ' i).ro = [])
    (hcmb : Cmb p m (fun i => (ρ' i).tag) M'.st M'.waits cl') (hsz : gs'.size = gs.size) (hnsp : nsp M'.st = nsp M.st) (hch : ∀ j, j < nsp M.st → ch M'.st j = ch M.st j)
    (hmain : ∃ g, gs'[0]? = some g ∧ MainOK p Goal g M') (hroles : ∀ i g, 0 < i → gs'[i]? = some g → RoleOK p (Deaf t i) g (ρ' i))
    (hchs : ∀ j, j < nsp M.st → ∃ f tm, w'.heap[ch M.st j]? = some (.chan 0 #[] (cl' j) f f tm))
    (hos : w'.os = w.os) (htape : w'.tape = w.tape) (hout : w'.output = w.output) (hwsz : w'.heap.size = w.heap.size) (hblk : ∀ k, (∀ j, j < nsp M.st → k ≠ ch M.st j) → w'.heap[k]? = w.heap[k]?)
    (hhM : (∀ q ∈ M'.hp, q ∈ M.hp) ∧ ∀ q ∈ M'.ro, q ∈ M.ro) (hhr : ∀ i, 0 < i → (∀ q ∈ (ρ' i).hp, q ∈ (ρ i).hp) ∧ ∀ q ∈ (ρ' i).ro, q ∈ (ρ i).ro)
    (hti : TV (t ++ u) τ w.heap.size (ownOf M ρ) (rdx p m M ρ) (liveOf m gs.size ρ)) (hdeaf : ∀ k, Deaf (t ++ u) k = Deaf t k)
    (hnew : ∀ j op a, u[j]? = some op → op.act.touch? = some a → ∃ q', Before (t ++ u) (t.size + j) q' ∧ Root (t ++ u) (liveOf m gs.size ρ') M'.st cl' q') (hroot : ∀ q, Root t (liveOf m gs.size ρ) M.st cl q → ∃ q', Before (t ++ u) q q' ∧ Root (t ++ u) (liveOf m gs.size ρ') M'.st cl' q') :
    InvD p Goal m τ ρ' M' (t ++ u) gs' w' cl' := by
  have hown : ∀ g k, ownOf M' ρ' g k → ownOf M ρ g k := by
    rintro g k (⟨rfl, q, hq, e⟩ | ⟨hg, q, hq, e⟩)
    · exact .inl ⟨rfl, q, hhM.1 q hq, e⟩
    exact .inr ⟨hg, q, (hhr g hg).1 q hq, e⟩
  have hrd : ∀ g k, rdOf p M' ρ' g k → rdOf p M ρ g k := by
    rintro g k (⟨rfl, hk | ⟨q, hq, e⟩⟩ | ⟨hg, hk | ⟨q, hq, e⟩⟩)
    · exact .inl ⟨rfl, .inl hk⟩
    · exact .inl ⟨rfl, .inr ⟨q, hhM.2 q hq, e⟩⟩
    · exact .inr ⟨hg, .inl hk⟩
    exact .inr ⟨hg, .inr ⟨q, (hhr g hg).2 q hq, e⟩⟩
  have hrx : ∀ g k, rdx p m M' ρ' g k → rdx p m M ρ g k := by
    rintro g k (hk | ⟨j, hj, e1, e2⟩)
    · exact .inl (hrd g k hk)
    rw [hnsp] at hj; exact .inr ⟨j, hj, e1, by rw [e2, hch j hj]⟩
  have kO : ∀ g k, ownOf M ρ g k → w'.heap[k]? = w.heap[k]? := fun g k ho => hblk k fun j hj e => (h.chn j hj g).1 (e ▸ ho); have kR : ∀ g k, rdOf p M ρ g k → w'.heap[k]? = w.heap[k]? := fun g k ho => hblk k fun j hj e => (h.chn j hj g).2 (e ▸ ho)
  refine { cmb := hcmb, size := by rw [hsz, hnsp]; exact h.size, main := hmain, roles := fun i g hi hg => by rw [hdeaf]; exact hroles i g hi hg
           chs := fun j hj => by rw [hnsp] at hj; rw [hch j hj]; exact hchs j hj
           chn := fun j hj g => by rw [hnsp] at hj; rw [hch j hj]; exact ⟨fun ho => (h.chn j hj g).1 (hown _ _ ho), fun ho => (h.chn j hj g).2 (hrd _ _ ho)⟩
           chd := fun e => by rw [hnsp] at e; rw [hch 0 (by omega), hch 1 (by omega)]; exact h.chd e
           env := ⟨hos.trans h.env.os, htape.trans h.env.tape, hout.trans h.env.output, by rw [hwsz]; exact h.env.size, fun k hk h1 => (kR 0 k (h.base ⟨hk, h1⟩ 0)).trans (h.env.block k hk h1)⟩
           heldM := ⟨fun q hq => (kO 0 q.1 (hown 0 q.1 (.inl ⟨rfl, q, hq, rfl⟩))).trans (h.heldM.1 q (hhM.1 q hq)), fun q hq => (kR 0 q.1 (hrd 0 q.1 (.inl ⟨rfl, .inr ⟨q, hq, rfl⟩⟩))).trans (h.heldM.2 q (hhM.2 q hq))⟩
           held := fun i hi hlt => ⟨fun q hq => (kO i q.1 (hown i q.1 (.inr ⟨hi, q, hq, rfl⟩))).trans ((h.held i hi (hsz ▸ hlt)).1 q ((hhr i hi).1 q hq)), fun q hq => (kR i q.1 (hrd i q.1 (.inr ⟨hi, .inr ⟨q, hq, rfl⟩⟩))).trans ((h.held i hi (hsz ▸ hlt)).2 q ((hhr i hi).2 q hq))⟩
           far := by rw [hsz]; exact hfar, d1 := fun g g' k h1 h2 => h.d1 g g' k (hown _ _ h1) (hown _ _ h2), d2 := fun g g' k h1 h2 => h.d2 g g' k (hown _ _ h1) (hrd _ _ h2)
           ti := by rw [hsz, hwsz]; exact hti.weak hown hrx hlive (Nat.le_refl _)
           kn := ?_, seen := nL h.seen (sZ u), above := fun j hj => by rw [hdeaf]; exact h.above j (hsz ▸ hj) }
  intro i a ha hm; rw [hsz]
  rcases C6 ha with ⟨_, ha'⟩ | ⟨hge, op, hop, hat, hoa⟩
  · obtain ⟨q, hq, hr⟩ := h.kn i a ha' hm
    obtain ⟨q', hq', hr'⟩ := hroot q hr; exact ⟨q', (hq.app u).trans hq', hr'⟩
  have e : (t ++ u)[t.size + (i - t.size)]? = some op := by rw [show t.size + (i - t.size) = i by omega]; exact hat
  rw [Array.getElem?_append_right (by omega)] at e; have := hnew (i - t.size) op a (by rw [← e]; congr 1; omega) hoa
  rwa [show t.size + (i - t.size) = i by omega] at this
theorem qj2 {t u : Trace} {q j : Nat} {x y : MemOp} (hx : t[q]? = some x) (hj : t.size ≤ j) (hy : (t ++ u)[j]? = some y) (hg : x.g = y.g) : Before (t ++ u) q j :=
  .inr (hb_po (Nat.lt_of_lt_of_le (lt_size_of_getElem? hx) hj) (by rw [getElem?_append_old (lt_size_of_getElem? hx)]; exact hx) hy hg)
theorem lD {t u : Trace} (j : Nat) : (t ++ u)[t.size + j]? = u[j]? := by rw [Array.getElem?_append_right (by omega)]; congr 1; omega
theorem InvD.heard_new (h : InvD p Goal m τ ρ M t gs w cl) {g : Nat} (hg : liveOf m gs.size ρ g) (hu : Mild u) {j : Nat} {op : MemOp} (hj : u[j]? = some op) (hop : op.g = g) : (t ++ u).heard (t.size + j) := by
  have hjl : j < u.size := lt_size_of_getElem? hj; exact dz4 (by rw [lD]; exact hj) hop (jx2 (h.ti.hears g hg) (fun op hop => (hu op hop).2) (by omega) (by simp; omega))
def Nx (p : Dh) (Goal : Goroutine → World → Prop) (m τ n : Nat) (t : Trace) (x : Stepped × Array MemOp) : Prop :=
  ∃ (ρ' : Nat → Role) (M' : MR) (u : Trace) (gs' : Array Goroutine) (w' : World) (sl' : Option (Nat × Nat)) (cl' : Nat → Bool), x = (.next (crowd gs' w' sl'), u) ∧ InvD p Goal m τ ρ' M' (t ++ u) gs' w' cl' ∧ Wt p gs'.size ρ' M' < n
theorem dj4 {c cap : Nat} {buf : Array Value} {b : Bool} {s r : Nat} {tm : Bool} (hc : c < w.heap.size) : (w.setChan c cap buf b s r tm).heap[c]? = some (.chan cap buf b s r tm) := by simp [World.setChan, hc]
theorem rQ {c k cap : Nat} {buf : Array Value} {b : Bool} {s r : Nat} {tm : Bool} (hk : k ≠ c) : (w.setChan c cap buf b s r tm).heap[k]? = w.heap[k]? := by
  simp only [World.setChan]; exact Array.getElem?_setIfInBounds_ne (fun e => hk e.symm)
theorem bj1 {c cap : Nat} {buf : Array Value} {b : Bool} {s r : Nat} {tm : Bool} : (w.setChan c cap buf b s r tm).heap.size = w.heap.size := by simp [World.setChan]
theorem ofE0 (g fn : Nat) (pos : String) : MemOp.ofEvents g fn pos #[] = #[] := rfl
theorem gz {i : Nat} (hpos : 0 < i) : (i == 0) = false := by simp; omega
theorem set2 {gs : Array Goroutine} {i j k : Nat} {x y z : Goroutine} (hij : i ≠ j) (hi : i < gs.size) (hj : j < gs.size) (h : ((gs.setIfInBounds j y).setIfInBounds i x)[k]? = some z) : (k = i ∧ z = x) ∨ (k = j ∧ z = y) ∨ (k ≠ i ∧ k ≠ j ∧ gs[k]? = some z) := by
  by_cases hki : k = i
  · subst hki
    rw [Array.getElem?_setIfInBounds_self_of_lt (by simpa using hi)] at h; exact .inl ⟨rfl, (Option.some.inj h).symm⟩
  rw [Array.getElem?_setIfInBounds_ne (Ne.symm hki)] at h
  by_cases hkj : k = j
  · subst hkj
    rw [Array.getElem?_setIfInBounds_self_of_lt hj] at h; exact .inr (.inl ⟨rfl, (Option.some.inj h).symm⟩)
  rw [Array.getElem?_setIfInBounds_ne (Ne.symm hkj)] at h; exact .inr (.inr ⟨hki, hkj, h⟩)
theorem set1 {gs : Array Goroutine} {i k : Nat} {x z : Goroutine} (hi : i < gs.size) (h : (gs.setIfInBounds i x)[k]? = some z) : (k = i ∧ z = x) ∨ (k ≠ i ∧ gs[k]? = some z) := by
  by_cases hki : k = i
  · subst hki
    rw [Array.getElem?_setIfInBounds_self_of_lt hi] at h; exact .inl ⟨rfl, (Option.some.inj h).symm⟩
  rw [Array.getElem?_setIfInBounds_ne (Ne.symm hki)] at h; exact .inr ⟨hki, h⟩
theorem yL {i n : Nat} {R' : Role} (hT : R'.tag ≠ .quit → (ρ i).tag ≠ .quit) (g : Nat) (h : liveOf m n (upd ρ i R') g) : liveOf m n ρ g := by
  rcases h with h | ⟨h1, h2, h3⟩
  · exact .inl h
  refine .inr ⟨h1, h2, ?_⟩
  by_cases hg : g = i
  · subst hg; rw [upd_same] at h3; exact hT h3
  rw [upd_ne _ _ hg] at h3; exact h3
theorem aq3 {i n : Nat} {R' : Role} (hT : R'.tag ≠ .quit) (g : Nat) (h : liveOf m n ρ g) : liveOf m n (upd ρ i R') g := by
  rcases h with h | ⟨h1, h2, h3⟩
  · exact .inl h
  refine .inr ⟨h1, h2, ?_⟩
  by_cases hg : g = i
  · subst hg; rw [upd_same]; exact hT
  rw [upd_ne _ _ hg]; exact h3
theorem dj3 (hfar : ∀ k, gs.size ≤ k → (ρ k).hp = [] ∧ (ρ k).ro = []) {i : Nat} (hi : i < gs.size) (R' : Role) : ∀ k, gs.size ≤ k → (upd ρ i R' k).hp = [] ∧ (upd ρ i R' k).ro = [] := fun k hk => by
  rw [upd_ne _ _ (by omega)]; exact hfar k hk
theorem jq4 {i : Nat} {R' : Role} (h1 : ∀ q ∈ R'.hp, q ∈ (ρ i).hp) (h2 : ∀ q ∈ R'.ro, q ∈ (ρ i).ro) (k : Nat) : (∀ q ∈ (upd ρ i R' k).hp, q ∈ (ρ k).hp) ∧ ∀ q ∈ (upd ρ i R' k).ro, q ∈ (ρ k).ro := by
  by_cases hk : k = i
  · subst hk; rw [upd_same]; exact ⟨h1, h2⟩
  rw [upd_ne _ _ hk]; exact ⟨fun q hq => hq, fun q hq => hq⟩
theorem uL {live' : Nat → Prop} {st' : Ms} {cl' : Nat → Bool} (hl : ∀ g, liveOf m gs.size ρ g → live' g) (hc : ∀ j, j < nsp M.st → cl j = true → hrd M.st j = false → j < nsp st' ∧ ch st' j = ch M.st j ∧ cl' j = true ∧ hrd st' j = false) {u : Trace} (q : Nat) (hq : Root t (liveOf m gs.size ρ) M.st cl q) : ∃ q', Before (t ++ u) q q' ∧ Root (t ++ u) live' st' cl' q' :=
  ⟨q, .inl rfl, hq.app hl hc⟩
theorem mild4 {a b : MemOp} {c e : MemOp} (ha : ∃ x y, a.act = .send x y) (hb : ∃ x y z, b.act = .recv x y z) (hc : ∃ x y, c.act = .sendDone x y) (hd : ∃ x y, e.act = .recvDone x y) : Mild #[a, b, c, e] := by
  intro op hop; obtain ⟨_, _, ha⟩ := ha; obtain ⟨_, _, _, hb⟩ := hb; obtain ⟨_, _, hc⟩ := hc; obtain ⟨_, _, hd⟩ := hd
  simp at hop
  rcases hop with rfl | rfl | rfl | rfl
  · rw [ha]; simp [MemAct.touch?]
  · rw [hb]; simp [MemAct.touch?]
  · rw [hc]; simp [MemAct.touch?]
  rw [hd]; simp [MemAct.touch?]
def Ms.got : Ms → Nat → Ms
  | .ga c d i k a b, j => if j = 0 then .ga c d (i + 1) k a b else .ga c d i (k + 1) a b
  | s, _ => s
theorem yW (s : Ms) (j : Nat) : nsp (s.got j) = nsp s := by
  cases s <;> simp only [Ms.got]
  split <;> rfl
theorem aq6 (s : Ms) (j k : Nat) : ch (s.got j) k = ch s k := by
  cases s <;> simp only [Ms.got]
  split <;> rfl
theorem uW (s : Ms) (j k : Nat) : hrd (s.got j) k = hrd s k := by
  cases s <;> simp only [Ms.got]
  split <;> rfl
theorem sj1 {s : Ms} {j : Nat} (h : nsp s = 2) (hj : j < 2) : rcv (s.got j) j = rcv s j + 1 := by
  cases s <;> simp only [nsp] at h <;> first | omega | skip
  have h2 : j = 0 ∨ j = 1 := by omega
  rcases h2 with rfl | rfl <;> simp [Ms.got, rcv]
theorem got_ne {s : Ms} {j k : Nat} (h : nsp s = 2) (hj : j < 2) (hk : k < 2) (hjk : k ≠ j) : rcv (s.got j) k = rcv s k := by
  cases s <;> simp only [nsp] at h <;> first | omega | skip
  have h2 : (j = 0 ∧ k = 1) ∨ (j = 1 ∧ k = 0) := by omega
  rcases h2 with ⟨rfl, rfl⟩ | ⟨rfl, rfl⟩ <;> simp [Ms.got, rcv]
theorem Cmb.deliver {c : Nat → Tag} {st : Ms} {wt : Bool} (h : Cmb p m c st wt cl) (h2 : nsp st = 2) {j : Nat} (hj : j < 2) (hh : hrd st j = false) (hcl : cl j = false) : Cmb p m (upd c (m + j) (.run j (rcv st j + 1) (ch st j))) (st.got j) false cl := by
  refine ⟨h.m0, fun i h1 h3 => by rw [upd_ne _ _ (by omega)]; exact h.old i h1 h3, fun k hk => ?_, by rw [uW, uW]; exact h.nb, fun e => by cases e⟩; rw [yW] at hk
  by_cases hkj : k = j
  · subst hkj
    rw [upd_same, uW, aq6, sj1 h2 hj]; exact .inr ⟨hcl, hh, .inl rfl⟩
  rw [upd_ne _ _ (by omega), uW, aq6, got_ne h2 hj (by omega) hkj]; exact h.sd k hk
theorem Cmb.parkS {c : Nat → Tag} {st : Ms} (h : Cmb p m c st false cl) {j : Nat} (hj : j < nsp st) (hh : hrd st j = false) (hcl : cl j = false) : Cmb p m (upd c (m + j) (.park j (rcv st j) (ch st j))) st false cl := by
  refine ⟨h.m0, fun i h1 h3 => by rw [upd_ne _ _ (by omega)]; exact h.old i h1 h3, fun k hk => ?_, h.nb, fun e => by cases e⟩
  by_cases hkj : k = j
  · subst hkj; rw [upd_same]; exact .inr ⟨hcl, hh, .inr rfl⟩
  rw [upd_ne _ _ (by omega)]; exact h.sd k hk
theorem Cmb.shut {c : Nat → Tag} {st : Ms} {wt : Bool} (h : Cmb p m c st wt cl) {j : Nat} (hj : j < nsp st) (hn : rcv st j = p.n j) : Cmb p m (upd c (m + j) .quit) st false (upd cl j true) := by
  refine ⟨h.m0, fun i h1 h3 => by rw [upd_ne _ _ (by omega)]; exact h.old i h1 h3, fun k hk => ?_, h.nb, fun e => by cases e⟩
  by_cases hkj : k = j
  · subst hkj; rw [upd_same, upd_same]; exact .inl ⟨rfl, rfl, hn⟩
  rw [upd_ne _ _ (by omega), upd_ne _ _ hkj]; exact h.sd k hk
theorem dj9 (a b : Bool) (c d : Nat) (z v : Value) (ok : Bool) : commResult #[selc a c z, selc b d z] .select ((0 : Nat) : Int) v ok = .tuple #[goInt 0, .bool ok, v, z] := by
  cases a <;> cases b <;> simp [commResult, selc, rcase, List.zipIdx_cons]
theorem dj8 (a b : Bool) (c d : Nat) (z v : Value) (ok : Bool) : commResult #[selc a c z, selc b d z] .select ((1 : Nat) : Int) v ok = .tuple #[goInt 1, .bool ok, z, v] := by
  cases a <;> cases b <;> simp [commResult, selc, rcase, List.zipIdx_cons]
theorem uZ (P : Program) (fr : Frame) (cs : List Frame) (cases : Array CommCase) (k : Int) (v : Value) (ok : Bool) : (G fr cs).finishComm P cases .select k v ok = Go.Conc.served (G fr cs) (commResult cases .select k v ok) := rfl
/-! ### One of them stands at a send -/
theorem pz8 (h : InvD p Goal m τ ρ M t gs w cl) {i B j k c : Nat} {ro : Hq} {fr : Frame} {cs : List Frame} {hp : Hq} {zz : Value} (hpos : 0 < i) (hi : gs[i]? = some (G fr cs)) (hρ : ρ i = .run (B + 1) j k c ro fr cs hp)
    (hlt : k < p.n j) (hst : stepG p.P false (G fr cs) w = .comm (G fr cs) #[scase c (p.v j k) zz] true .send w #[]) (hf : FolS p j c ro B (k + 1) (fr.finish undef) cs hp) : Nx p Goal m τ (Wt p gs.size ρ M) t (runT p.P (crowd gs w sl) i) := by
  have hilt : i < gs.size := (Array.getElem?_eq_some_iff.1 hi).1; have htag : (ρ i).tag = .run j k c := by rw [hρ]; rfl
  have hrole := h.roles i _ hpos hi; rw [hρ] at hrole; obtain ⟨hd, _, _⟩ := hrole; obtain ⟨j', rfl, hjn, hcl, hh, ht⟩ := h.cmb.idx hpos (h.lt_nsp hi) (by show (ρ i).tag ≠ _; rw [htag]; simp); have ht' : (ρ (m + j')).tag = .run j' (rcv M.st j') (ch M.st j') ∨ (ρ (m + j')).tag = .park j' (rcv M.st j') (ch M.st j') := ht; rw [htag] at ht'
  rcases ht' with e | e
  rotate_left
  · cases e
  obtain ⟨rfl, rfl, rfl⟩ := Tag.run.inj e; have hst' : stepG p.P (m + j == 0) (G fr cs) w = .comm (G fr cs) #[scase (ch M.st j) (p.v j (rcv M.st j)) zz] true .send w #[] := by rw [gz hpos]; exact hst
  obtain ⟨f, tm, hF⟩ := h.chs j hjn; rw [hcl] at hF; have hFsz := h.chlt hjn; have hlv : liveOf m gs.size ρ (m + j) := h.live_of hpos hi (by rw [htag]; simp); have hm0 := h.cmb.m0; obtain ⟨g0, h0, hm⟩ := h.main
  cases hM : M with
  | park BM c0 d0 i0 k0 a b roM frM csM hpM =>
    -- goroutine 0 waits for it
    have hst2 : M.st = .ga c0 d0 i0 k0 a b := by rw [hM]; rfl
    have hn2 : nsp M.st = 2 := by rw [hst2]; rfl
    have hcd : c0 ≠ d0 := by have := h.chd hn2; rw [hst2] at this; simpa [ch] using this
    have hw : M.waits = true := by rw [hM]; rfl
    rw [hM] at hm; obtain ⟨rfl, hfm, hga, hgb⟩ := hm; have hj2 : j < 2 := by omega
    obtain ⟨hoff, hcs⟩ := sx8 (g := G frM csM) (z := p.z) (sh := .select) hst2 hcd hj2 hh
    have hpart : partners (gs.setIfInBounds (m + j) ph) (ch M.st j) false = [(0, j)] := by
      rw [partners_one (stand_get (i := m + j) (j := 0) (by omega) h0) (fun k' x' hk' hx' => ?_), hoff]
      · rfl
      rcases getElem?_stand gs _ k' x' hx' with ⟨rfl, rfl⟩ | ⟨_, hx2⟩
      · exact offersAt_ph _ _
      exact Classical.byContradiction fun hn => by
        rcases h.off hx2 hn with ⟨e, _⟩ | ⟨_, e, _⟩
        · exact hk' e
        cases e
    have hrun := crowd_send_meets_sel (P := p.P) (sl := sl) hi hst' hF (by omega) h0 hcs hpart; rw [finishComm_send, ofE0] at hrun
    obtain ⟨frN, hfin, hfN⟩ : ∃ frN, (G frM csM).finishComm p.P #[selc a c0 p.z, selc b d0 p.z] .select ((j : Nat) : Int) (p.v j (rcv M.st j)) true = Go.Conc.served (G frM csM) frN ∧ FolM p Goal BM (M.st.got j) roM (frM.finish frN) csM hpM := by
      rw [hst2] at hlt hh ⊢; have h2 : j = 0 ∨ j = 1 := by omega
      rcases h2 with rfl | rfl
      · refine ⟨.tuple #[goInt 0, .bool true, p.v 0 i0, p.z], ?_, hga (by simpa [hrd] using hh) hlt⟩
        rw [uZ, dj9]; rfl
      refine ⟨.tuple #[goInt 1, .bool true, p.z, p.v 1 k0], ?_, hgb (by simpa [hrd] using hh) hlt⟩; rw [uZ, dj8]; rfl
    rw [hfin] at hrun; have hRhp : ∀ q ∈ (Role.run B j (rcv M.st j + 1) (ch M.st j) ro (fr.finish undef) cs hp).hp, q ∈ (ρ (m + j)).hp := by rw [hρ]; exact fun q hq => hq
    have hRro : ∀ q ∈ (Role.run B j (rcv M.st j + 1) (ch M.st j) ro (fr.finish undef) cs hp).ro, q ∈ (ρ (m + j)).ro := by rw [hρ]; exact fun q hq => hq
    refine ⟨upd ρ (m + j) (.run B j (rcv M.st j + 1) (ch M.st j) ro (fr.finish undef) cs hp), .run BM (M.st.got j) roM (frM.finish frN) csM hpM, _, _, _, sl, cl, hrun, ?_, ?_⟩
    · have hu := mild4 (a := { g := m + j, fn := (G fr cs).frame.fn, pos := (G fr cs).frame.place, act := .send (ch M.st j) f }) (b := { g := 0, fn := (G frM csM).frame.fn, pos := (G frM csM).frame.place, act := .recv (ch M.st j) f 0 }) (c := { g := m + j, fn := (G fr cs).frame.fn, pos := (G fr cs).frame.place, act := .sendDone (ch M.st j) f }) (e := { g := 0, fn := (G frM csM).frame.fn, pos := (G frM csM).frame.place, act := .recvDone (ch M.st j) f }) ⟨_, _, rfl⟩ ⟨_, _, _, rfl⟩ ⟨_, _, rfl⟩ ⟨_, _, rfl⟩
      refine h.comm (yL fun _ => by rw [htag]; simp) (dj3 h.far hilt _) ?_ (by simp) (yW _ _) (fun j' _ => aq6 _ _ _) ⟨Go.Conc.served (G frM csM) frN, ?_, ⟨rfl, rfl, rfl, rfl⟩, hfN⟩ ?_ ?_ rfl rfl rfl bj1 (fun k' hk' => rQ (hk' j hjn)) ⟨fun q hq => by rw [hM]; exact hq, fun q hq => by rw [hM]; exact hq⟩ (fun k' _ => jq4 hRhp hRro k') (h.ti.mild hu) (fun k' => S8 (fun op hop => (hu op hop).2) k') (fun j' op a' hj' ha' => by rw [(hu op (Array.mem_of_getElem? hj')).1] at ha'; cases ha') (uL (aq3 (by simp [Role.tag])) fun j' h1 h3 h4 => ⟨by rw [yW]; exact h1, aq6 _ _ _, h3, by rw [uW]; exact h4⟩)
      · rw [cz2]; exact h.cmb.deliver hn2 hj2 hh hcl
      · rw [Array.getElem?_setIfInBounds_ne (by omega), Array.getElem?_setIfInBounds_self_of_lt h.pos]
      · intro k' x hk hx
        rcases set2 (by omega) hilt h.pos hx with ⟨rfl, rfl⟩ | ⟨rfl, _⟩ | ⟨h1, h2, h3⟩
        · rw [upd_same]; exact ⟨hd, rfl, hf⟩
        · omega
        rw [upd_ne ρ _ h1]; exact h.roles k' x hk h3
      intro j' hj'
      by_cases e2 : j' = j
      · subst e2; rw [hcl]; exact ⟨_, _, dj4 hFsz⟩
      rw [rQ (fun e3 => e2 (h.chi hj' hjn e3))]; exact h.chs j' hj'
    have h1 := bj6 (p := p) (ρ := ρ) (M := M) hpos hilt (.run B j (rcv M.st j + 1) (ch M.st j) ro (fr.finish undef) cs hp); rw [hρ] at h1; have e1 : unb p (M.st.got j) = 0 := by rw [hst2]; simp only [Ms.got]; split <;> rfl
    have e2 : unb p M.st = 0 := by rw [hst2]; rfl
    have e3 : M.wt = 2 * BM + 3 := by rw [hM]; rfl
    simp only [Role.wt, Wt, MR.wt, e1, e2, e3, Array.size_setIfInBounds, show (MR.run BM (M.st.got j) roM (frM.finish frN) csM hpM).st = M.st.got j from rfl] at h1 ⊢; rw [← hM] at *
    omega
  | run BM ms roM frM csM hpM =>
    have hw : M.waits = false := by rw [hM]; rfl
    have hno : partners (gs.setIfInBounds (m + j) ph) (ch M.st j) false = [] := h.nobody _ fun k' x hk hx => by
      rintro (⟨_, e, _⟩ | ⟨_, e, _⟩)
      · rw [hw] at e; cases e
      cases e
    have hrun := crowd_waits (P := p.P) (sl := sl) hi hst' (fun cc hcc => by
      obtain rfl : cc = scase (ch M.st j) (p.v j (rcv M.st j)) zz := by simpa using hcc
      exact ⟨made_send _ _ hF, by simp [ways, scase, hF, hno]⟩)
    rw [ofE0] at hrun; refine ⟨upd ρ (m + j) (.park B j (rcv M.st j) (ch M.st j) ro fr cs hp), M, _, _, _, sl, cl, hrun, ?_, ?_⟩
    · refine h.comm (yL fun _ => by rw [htag]; simp) (dj3 h.far hilt _) ?_ (by simp) rfl (fun _ _ => rfl) ⟨g0, ?_, hm⟩ ?_ h.chs rfl rfl rfl rfl (fun k' _ => rfl) ⟨fun q hq => hq, fun q hq => hq⟩ (fun k' _ => jq4 (by rw [hρ]; exact fun q hq => hq) (by rw [hρ]; exact fun q hq => hq) k') (h.ti.mild (fun op hop => by simp at hop)) (fun k' => S8 (fun op hop => by simp at hop) k') (fun j' op a' hj' _ => by simp at hj') (uL (aq3 (by simp [Role.tag])) fun j' h1 h3 h4 => ⟨h1, rfl, h3, h4⟩)
      · rw [cz2, hw]; have hc := h.cmb; rw [hw] at hc; exact hc.parkS hjn hh hcl
      · rw [Array.getElem?_setIfInBounds_ne (by omega)]; exact h0
      intro k' x hk hx
      rcases set1 hilt hx with ⟨rfl, rfl⟩ | ⟨h1, h3⟩
      · rw [upd_same]; exact ⟨hd, ⟨zz, rfl⟩, hlt, hf⟩
      rw [upd_ne ρ _ h1]; exact h.roles k' x hk h3
    have h1 := bj6 (p := p) (ρ := ρ) (M := M) hpos hilt (.park B j (rcv M.st j) (ch M.st j) ro fr cs hp); rw [hρ] at h1; rw [← hM]; simp only [Role.wt, Array.size_setIfInBounds] at h1 ⊢
    omega
end
end Go.W
end
section
namespace Go.W
open Go Go.Conc
open Go.ConcN (sumTo upd sumTo_upd upd_ne upd_same le_sumTo sumTo_congr)
theorem rq0 {P : Program} {w : World} (rd : List (Nat × CommCase × List Way)) (hne : rd ≠ []) (h1 : ∀ x ∈ rd, ∃ y, x.2.2 = [y]) :
    ∃ x y dr, x ∈ rd ∧ x.2.2 = [y] ∧ ((do
      let a ← choose (.select rd.length)
      let (k, c, ws) := rd.getD a (0, default, [])
      let b ← choose (.extern "which waiting goroutine is the partner" ws.length)
      pure (k, c, ws.getD b .closed)) : Sem (Nat × CommCase × Way)).run P w = .ok (x.1, x.2.1, y) (w.at dr) := by
  have hpos : 0 < rd.length := List.length_pos_iff.2 hne
  have rest : ∀ a, a < rd.length → ∀ (w : World), ∃ x y, x ∈ rd ∧ x.2.2 = [y] ∧ ((do
      let (k, c, ws) := rd.getD a (0, default, [])
      let b ← choose (.extern "which waiting goroutine is the partner" ws.length)
      pure (k, c, ws.getD b .closed)) : Sem (Nat × CommCase × Way)).run P w = .ok (x.1, x.2.1, y) w := by
    intro a ha w; have hx : rd.getD a (0, default, []) = rd[a] := by rw [List.getD_eq_getElem?_getD, List.getElem?_eq_getElem ha]; rfl
    obtain ⟨y, hy⟩ := h1 rd[a] (List.getElem_mem ha); refine ⟨rd[a], y, List.getElem_mem ha, hy, ?_⟩; rw [hx]; generalize rd[a] = zz at hy ⊢; obtain ⟨k, c, ws⟩ := zz; obtain rfl : ws = [y] := hy
    show Sem.run P (Sem.bind (choose (.extern "which waiting goroutine is the partner" 1)) _) w = _
    have hf : (Question.extern "which waiting goroutine is the partner" 1).forced = true := rfl
    simp only [choose, Sem.bind, Sem.run, hf, if_true]
    rfl
  by_cases hl : rd.length = 1
  · obtain ⟨x, y, hx, hy, hr⟩ := rest 0 (by omega) w
    refine ⟨x, y, w.drawn, hx, hy, ?_⟩; show Sem.run P (Sem.bind (choose (.select rd.length)) _) w = _; have hf : (Question.select rd.length).forced = true := by simp [Question.forced, hl]
    simp only [choose, Sem.bind, Sem.run, hf, if_true]; exact hr
  have hf : (Question.select rd.length).forced = false := by simp [Question.forced]; omega
  have hb : (Question.select rd.length).cut (w.tape w.drawn (Question.select rd.length)) < rd.length := by
    simp only [Question.cut]; exact Nat.mod_lt _ hpos
  obtain ⟨x, y, hx, hy, hr⟩ := rest _ hb (w.at (w.drawn + 1)); refine ⟨x, y, w.drawn + 1, hx, hy, ?_⟩; show Sem.run P (Sem.bind (choose (.select rd.length)) _) w = _; simp only [choose, Sem.bind, Sem.run, hf, Bool.false_eq_true, if_false]; exact hr
section
variable {P : Program} {gs : Array Goroutine} {w w₁ : World} {sl : Option (Nat × Nat)} {i : Nat} {g g₂ : Goroutine} {es : Array Event} {shape : CommShape} {cases : Array CommCase}
theorem gq5 (hi : gs[i]? = some g) (h : stepG P (i == 0) g w = .comm g₂ cases true shape w₁ es) (hill : ∀ cc ∈ cases, illMade w₁ cc = false) {rd : List (Nat × CommCase × List Way)}
    (hrd : ((cases.zipIdx.toList.map fun (x : CommCase × Nat) => (x.2, x.1, ways w₁ (gs.setIfInBounds i ph) x.1)).filter fun x => !x.2.2.isEmpty) = rd) (hne : rd ≠ []) (h1 : ∀ x ∈ rd, ∃ y, x.2.2 = [y]) :
    ∃ x y dr, x ∈ rd ∧ x.2.2 = [y] ∧
      (∀ c z cap cl s r tm j k, x.2.1 = rcase c z → w₁.heap[c]? = some (.chan cap #[] cl s r tm) → y = .partner j k →
        runT P (crowd gs w sl) i = (.next (crowd ((finishPartner P (gs.setIfInBounds i ph) j k undef).setIfInBounds i (g₂.finishComm P cases shape x.1 (offeredValue (gs.setIfInBounds i ph) j k) true)) ((w₁.at dr).setChan c cap #[] cl (s + 1) (r + 1) tm) sl),
          MemOp.ofEvents i g.frame.fn g.frame.place es ++ #[{ g := j, fn := ((gs.setIfInBounds i ph).getD j default).frame.fn, pos := ((gs.setIfInBounds i ph).getD j default).frame.place, act := .send c s }, { g := i, fn := g₂.frame.fn, pos := g₂.frame.place, act := .recv c r cap },
            { g := j, fn := ((gs.setIfInBounds i ph).getD j default).frame.fn, pos := ((gs.setIfInBounds i ph).getD j default).frame.place, act := .sendDone c s }, { g := i, fn := g₂.frame.fn, pos := g₂.frame.place, act := .recvDone c r }])) ∧
      (∀ c z, x.2.1 = rcase c z → y = .closed →
        runT P (crowd gs w sl) i = (.next (crowd (gs.setIfInBounds i (g₂.finishComm P cases shape x.1 z false)) (w₁.at dr) sl),
          MemOp.ofEvents i g.frame.fn g.frame.place es ++ #[{ g := i, fn := g₂.frame.fn, pos := g₂.frame.place, act := .recvClosed c }])) := by
  obtain ⟨x, y, dr, hx, hy, hr⟩ := rq0 (P := P) (w := w₁) rd hne h1; have hre : rd.isEmpty = false := by cases rd with | nil => exact absurd rfl hne | cons _ _ => rfl
  have hcomm := runT_crowd_comm (sl := sl) hi h; generalize hgs : gs.setIfInBounds i ph = gs1 at *; refine ⟨x, y, dr, hx, hy, fun c z cap cl s r tm j k hc hh hyj => ?_, fun c z hc hyj => ?_⟩
  · subst hyj
    rw [hc] at hr; have hc2 : (w₁.at dr).heap[c]? = some (.chan cap #[] cl s r tm) := hh; rw [hcomm]; unfold communicate; simp only []; rw [if_neg (by rw [Bool.not_eq_true]; exact any_ill hill)]; rw [hrd]; simp only [hre, Bool.false_eq_true, if_false]; rw [hr]; have e1 : (rcase c z).chan = .chan (some c) := rfl; have e2 : (rcase c z).send = none := rfl; simp only [e1, e2, hc2]
    rfl
  subst hyj; rw [hc] at hr; rw [hcomm]; unfold communicate; simp only []; rw [if_neg (by rw [Bool.not_eq_true]; exact any_ill hill)]; rw [hrd]; simp only [hre, Bool.false_eq_true, if_false]; rw [hr]; have e1 : (rcase c z).chan = .chan (some c) := rfl; have e2 : (rcase c z).zero = z := rfl; simp only [e1, e2]; rw [← hgs, set_stand]
  rfl
end
end Go.W
end
