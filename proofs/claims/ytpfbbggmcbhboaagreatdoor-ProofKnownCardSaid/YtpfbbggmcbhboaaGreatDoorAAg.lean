/- Texts. -/

import Derived.Test.YtpfbbggmcbhboaaGreatDoorAAf
import Derived.Test.YtpfbbggmcbhboaaGreatDoorAAe
set_option linter.unusedVariables false
set_option linter.unusedSimpArgs false
section
namespace Go.Proofs.YtpfbbggmcbhboaaGreatDoor
open Go Go.W Tryz T F
set_option maxRecDepth 20000
attribute [local irreducible] HL HC HQ HB Row Rows2 Blk Facts
def pressO (g : Nat) (o : OutC) (lines : List Str) (nx : Int) : Nat × Obj := (g, .cells #[.slice o.1 lines.length o.2, int nx] cJ (0, 0))
def deedL (m : Mk) (lines : List Str) : List Str := if m.1 = 3 then lines else lines ++ [m.2.2]
def deedN (m : Mk) (nx : Int) : Int := if m.1 = 1 then nx else m.2.1 + 1
abbrev GrowS (o : OutC) (l : List Str) (og : Hp) : Prop := Grow z3 1 o.1 l.length o.2 (rows l) og
def deedCon (g : Nat) (o : OutC) (og : Hp) (lines : List Str) (nx : Int) (m : Mk) : Con (OutC × Hp) :=
  { hpI := pressO g o lines nx :: og, inv := fun x => GrowS x.1 (deedL m lines) x.2, val := fun _ => .tuple #[], hpO := fun x => pressO g x.1 (deedL m lines) (deedN m nx) :: x.2 }
theorem wN {α : Type} (l : List α) (a b : α) : (l ++ [a, b]).Perm (b :: (l ++ [a])) := by
  have : l ++ [a, b] = (l ++ [a]) ++ [b] := by simp
  rw [this]; exact List.perm_append_comm
theorem lz9 {α : Type} (l : List α) (a : α) : (l ++ [a]).Perm (a :: l) := List.perm_append_comm
theorem B7 {α : Type} (l : List α) (a : α) : (l ++ [a]).length = l.length + 1 := by simp
theorem vD {g : Nat} {o : OutC} {og : Hp} {lines : List Str} {nx : Int} (m : Mk) (hG : GrowS o lines og) (hl : lines.length ≤ 1000) (hk : m.1 = 1) : Meets prog S5 [.pointer (k5 g), .agg #[int m.1, int m.2.1, str m.2.2]] (deedCon g o og lines nx m) := by
 have eL : deedL m lines = lines ++ [m.2.2] := by simp [deedL, hk]
 have eN : deedN m nx = nx := by simp [deedN, hk]
 unfold deedCon; rw [eL, eN]; unfold pressO GrowS; rw [B7]; refine i3 wU rfl q6 fun w0 => c7 (aJ rfl rfl fun gB => b8 (R6 (og) ([_, _]) (List.perm_append_comm (l₁ := [_, _])) 9 [8] mixed (by decide) (by decide) (by decide) rfl rfl rfl (v0 rfl (v0 rfl (u9 (fun w1 => n0 rfl rfl (q_z rfl)) ?_)))))
 apply q9 _ rfl rfl rfl
 ·intro w1
  first | refine b3 ⟨_, 0, none⟩ rfl rfl s8 rfl ?_ | refine b3 _ rfl rfl s8 rfl ?_
  refine d6 ?_; exact l3 rfl
 apply q9 _ rfl rfl rfl
 ·intro w1
  first | refine b6 rfl j1 rfl (j4 mB rfl) ?_ | refine b6 rfl j1 rfl (i5 mB rfl) ?_ | refine b6 rfl j1 rfl (i9 mB (d7 (by omega) rfl)) ?_ | refine b6 rfl j1 rfl (i7 mB (rows_get (by omega) rfl)) ?_
  refine d6 ?_; exact l3 rfl
 apply q9 _ rfl rfl rfl
 ·intro w1
  first | refine b3 ⟨_, 2, none⟩ rfl rfl q7 rfl ?_ | refine b3 _ rfl rfl q7 rfl ?_
  refine d6 ?_; exact l3 rfl
 apply q9 _ rfl rfl rfl
 ·intro w1
  first | refine b6 rfl j5 rfl (j4 mB rfl) ?_ | refine b6 rfl j5 rfl (i5 mB rfl) ?_ | refine b6 rfl j5 rfl (i9 mB (d7 (by omega) rfl)) ?_ | refine b6 rfl j5 rfl (i7 mB (rows_get (by omega) rfl)) ?_
  refine d6 ?_; exact l3 rfl
 refine lT ⟨Nat, fun _ => True, fun g1 => .slice (k5 g1) 1 1, fun g1 => [Row (k5 g1) (rows [m.2.2])]⟩ rfl rfl rfl ?_ ?_
 ·intro w1; refine j8 _ rfl rfl (fun _ => U4 ..) fun gS => d6 (R5 (rows [m.2.2]) (List.prefix_refl _) ?_); exact X3 gS tK rfl ⟨m0, tK⟩
 refine sB ⟨OutC × Hp, fun x => Grow z3 1 x.1.1 (lines.length + 1) x.1.2 (rows (lines ++ [m.2.2])) x.2, fun x => .slice x.1.1 (lines.length + 1) x.1.2, fun _ => [], fun x => x.2⟩ rfl rfl rfl ?_ ?_
 ·intro g1 _; intro w1; refine E7 (lines.length + 1) (rows (lines ++ [m.2.2])) jV rfl rfl rfl hG (hp' := []) (by rw [List.append_nil]) (Src.row (news := rows [m.2.2]) (m := 1) m0 rfl (aW _) (by decide)) rfl (z7 lines [m.2.2]).symm (by unfold maxLen; omega) (by omega) fun A' c' og' hG' => ?_; refine d6 ?_; exact X2 ((A', c'), og') hG' (fun _ => rfl) (List.sublist_append_left _ _) tK
 refine E8 ⟨rfl, ?_⟩; intro g1 _ x hx; refine n0 rfl rfl ?_
 first | refine b3 ⟨_, 0, none⟩ rfl rfl s8 rfl ?_ | refine b3 _ rfl rfl s8 rfl ?_
 refine A4 rfl rfl (wN _ _ _) U1 (by rfl) (by rfl) (d6 ?_); exact ret0n x rfl rfl rfl hx ((List.sublist_append_left _ _).cons_cons _) tK
theorem vC {g : Nat} {o : OutC} {og : Hp} {lines : List Str} {nx : Int} (m : Mk) (hG : GrowS o lines og) (hl : lines.length ≤ 1000) (hk : m.1 = 2) (hat : 0 ≤ m.2.1 ∧ m.2.1 ≤ 1000000) : Meets prog S4 [.pointer (k5 g), .agg #[int m.1, int m.2.1, str m.2.2]] (deedCon g o og lines nx m) := by
 have eL : deedL m lines = lines ++ [m.2.2] := by simp [deedL, hk]
 have eN : deedN m nx = m.2.1 + 1 := by simp [deedN, hk]
 unfold deedCon; rw [eL, eN]; unfold pressO GrowS; rw [B7]; refine i3 wT rfl q6 fun w0 => c7 (aJ rfl rfl fun gB => b8 (R6 (_ :: og) ([_]) (List.perm_append_comm (l₁ := [_])) 16 [15, 9, 5] mixed (by decide) (by decide) (by decide) rfl rfl rfl (v0 rfl (v0 rfl (v0 rfl (u9 (fun w1 => n0 rfl rfl (q_z rfl)) ?_))))))
 apply q9 _ rfl rfl rfl
 ·intro w1
  first | refine b3 ⟨_, 0, none⟩ rfl rfl s8 rfl ?_ | refine b3 _ rfl rfl s8 rfl ?_
  refine d6 ?_; exact l3 rfl
 refine sB ⟨Unit, fun _ => True, fun _ => .slice o.1 lines.length o.2, fun _ => [], fun _ => (g, Obj.cells #[.slice o.1 lines.length o.2, int nx] cJ (0, 0)) :: og⟩ rfl rfl rfl ?_ ?_
 ·intro w1
  first | refine b6 rfl j1 rfl (i5 mB rfl) ?_ | refine b6 rfl j1 rfl (j4 mB rfl) ?_ | refine b6 rfl j1 rfl (i9 mB (d7 (by omega) rfl)) ?_ | refine b6 rfl j1 rfl (i7 mB (rows_get (by omega) rfl)) ?_
  refine d6 ?_; exact X2 () tK (fun _ => rfl) (.refl _) tK
 apply q9 _ rfl rfl rfl
 ·intro w1
  first | refine b3 ⟨_, 2, none⟩ rfl rfl q7 rfl ?_ | refine b3 _ rfl rfl q7 rfl ?_
  refine d6 ?_; exact l3 rfl
 apply q9 _ rfl rfl rfl
 ·intro w1
  first | refine b6 rfl j5 rfl (j4 mB rfl) ?_ | refine b6 rfl j5 rfl (i5 mB rfl) ?_ | refine b6 rfl j5 rfl (i9 mB (d7 (by omega) rfl)) ?_ | refine b6 rfl j5 rfl (i7 mB (rows_get (by omega) rfl)) ?_
  refine d6 ?_; exact l3 rfl
 refine lT ⟨Nat, fun _ => True, fun g1 => .slice (k5 g1) 1 1, fun g1 => [Row (k5 g1) (rows [m.2.2])]⟩ rfl rfl rfl ?_ ?_
 ·intro w1; refine j8 _ rfl rfl (fun _ => U4 ..) fun gS => d6 (R5 (rows [m.2.2]) (List.prefix_refl _) ?_); exact X3 gS tK rfl ⟨m0, tK⟩
 refine sB ⟨OutC × Hp, fun x => Grow z3 1 x.1.1 (lines.length + 1) x.1.2 (rows (lines ++ [m.2.2])) x.2, fun x => .slice x.1.1 (lines.length + 1) x.1.2, fun _ => [], fun x => x.2 ++ [(g, Obj.cells #[.slice o.1 lines.length o.2, int nx] cJ (0, 0))]⟩ rfl rfl rfl ?_ ?_
 ·intro g1 _ _ _; intro w1; refine E7 (lines.length + 1) (rows (lines ++ [m.2.2])) jV rfl rfl rfl hG (List.perm_append_comm (l₁ := [_])) (Src.row (news := rows [m.2.2]) (m := 1) m0 rfl (aW _) (by decide)) rfl (z7 lines [m.2.2]).symm (by unfold maxLen; omega) (by omega) fun A' c' og' hG' => ?_; refine d6 ?_; exact X2 ((A', c'), og') hG' (fun _ => rfl) (.refl _) tK
 apply q9 _ rfl rfl rfl
 ·intro w1
  first | refine b3 ⟨_, 1, none⟩ rfl rfl i8 rfl ?_ | refine b3 _ rfl rfl i8 rfl ?_
  refine d6 ?_; exact l3 rfl
 apply q9 _ rfl rfl rfl
 ·intro w1
  first | refine b6 rfl a9 rfl (j4 mB rfl) ?_ | refine b6 rfl a9 rfl (i5 mB rfl) ?_ | refine b6 rfl a9 rfl (i9 mB (d7 (by omega) rfl)) ?_ | refine b6 rfl a9 rfl (i7 mB (rows_get (by omega) rfl)) ?_
  refine d6 ?_; exact l3 rfl
 refine u9 (fun w1 => v6 _ rfl rfl rfl rfl r6 (q_z rfl)) (u9 (fun w1 => n0 rfl rfl (q_z rfl)) ?_)
 apply q9 _ rfl rfl rfl
 ·intro w1
  first | refine b3 ⟨_, 0, none⟩ rfl rfl s8 rfl ?_ | refine b3 _ rfl rfl s8 rfl ?_
  refine d6 ?_; exact l3 rfl
 refine hb_st ⟨OutC × Hp, fun x => Grow z3 1 x.1.1 (lines.length + 1) x.1.2 (rows (lines ++ [m.2.2])) x.2, fun x => .tuple #[], fun _ => [], fun x => (g, Obj.cells #[.slice x.1.1 (lines.length + 1) x.1.2, int nx] cJ (0, 0)) :: x.2⟩ rfl rfl ?_ ?_
 ·intro x hx; intro w1; refine A4 rfl rfl (lz9 _ _) U1 (by rfl) (by rfl) (d6 ?_); exact X2 x hx (fun h => by cases h) (.refl _) tK
 refine E8 ⟨rfl, ?_⟩; intro _ _ g1 _ x0 hx0 x hx; refine n0 rfl rfl ?_
 first | refine b3 ⟨_, 1, none⟩ rfl rfl s7 rfl ?_ | refine b3 _ rfl rfl s7 rfl ?_
 refine A4 rfl rfl (.refl _) J2 (by rfl) (by rfl) (d6 ?_); exact ret0n x rfl rfl rfl hx ((List.sublist_append_left _ _).cons_cons _) tK
theorem vB {g : Nat} {o : OutC} {og : Hp} {lines : List Str} {nx : Int} (m : Mk) (hG : GrowS o lines og) (hl : lines.length ≤ 1000) (hk : m.1 = 3) (hat : 0 ≤ m.2.1 ∧ m.2.1 ≤ 1000000) : Meets prog S3 [.pointer (k5 g), .agg #[int m.1, int m.2.1, str m.2.2]] (deedCon g o og lines nx m) := by
 have eL : deedL m lines = lines := by simp [deedL, hk]
 have eN : deedN m nx = m.2.1 + 1 := by simp [deedN, hk]
 unfold deedCon; rw [eL, eN]; unfold pressO; refine i3 wS rfl q6 fun w0 => c7 (aJ rfl rfl fun gB => ?_); refine b8 (i4 (b7 rfl ?_))
 first | refine b3 ⟨_, 1, none⟩ rfl rfl i8 rfl ?_ | refine b3 _ rfl rfl i8 rfl ?_
 first | refine b6 rfl a9 rfl (i5 mB rfl) ?_ | refine b6 rfl a9 rfl (j4 mB rfl) ?_ | refine b6 rfl a9 rfl (i9 mB (d7 (by omega) rfl)) ?_ | refine b6 rfl a9 rfl (i7 mB (rows_get (by omega) rfl)) ?_
 refine v6 _ rfl rfl rfl rfl r6 (n0 rfl rfl ?_)
 first | refine b3 ⟨_, 1, none⟩ rfl rfl s7 rfl ?_ | refine b3 _ rfl rfl s7 rfl ?_
 refine A4 rfl rfl (.swap _ _ _) J2 (by rfl) (by rfl) (d6 ?_); exact ret0n (o, og) rfl rfl rfl hG ((List.sublist_cons_self _ _).cons_cons _) tK
def fnV (f : Nat) : Value := .func (.func f) #[] #[]
def deedsL : List (Ment Int) := [(1, fnV S5, 0), (2, fnV S4, 1), (3, fnV S3, 2)]
abbrev K3 : KeyC prog I6 int := KeyC.int V7
theorem xY : Meets prog kU [] { val := fun g : Nat => .map (some g), hpO := fun g => [(g, mapO int deedsL 3)] } := by
 refine i3 ax3 rfl q6 fun w0 => ?_; refine c7 (c3 rfl (n7 ?_)); refine qM int rfl fun gM => kF (k := 1) K3 (.inr rfl) z1 rfl rfl rfl (.refl _) (kF (k := 2) K3 (.inr rfl) z1 rfl rfl rfl (.refl _) (kF (k := 3) K3 (.inr rfl) z1 rfl rfl rfl (.refl _) ?_)); refine b7 rfl (c3 rfl (b8 (l4 ?_))); exact ret1 gM rfl rfl rfl tK (.refl _) tK
def deedV (k : Int) : Value := if k = 1 then fnV S5 else if k = 2 then fnV S4 else fnV S3
theorem sq7 {k : Int} (h : 1 ≤ k ∧ k ≤ 3) : getM deedsL k = some (deedV k) := by
  have : k = 1 ∨ k = 2 ∨ k = 3 := by omega
  rcases this with rfl | rfl | rfl <;> rfl
theorem hl_deed {n : Nat} {b : Bx} {Q : Exit → Act → World → Prop} {fr : Fr} {hp hpR : Hp} {L : List Fact} {ops : Array Oper} {rest : List Oper} {d : Tmp} {ty : TypeId} {pos : String} {af : Array Edge} {x : Operand} {args : Array Operand} {ats : Array TypeId}
    {g : Nat} {o : OutC} {og : Hp} {lines : List Str} {nx : Int} {m : Mk} (hd : Nat.blt d n = true) (hf : ev fr x = some (deedV m.1)) (hx : args.toList.mapM (ev fr) = some [.pointer (k5 g), .agg #[int m.1, int m.2.1, str m.2.2]])
    (hk : 1 ≤ m.1 ∧ m.1 ≤ 3) (hat : 0 ≤ m.2.1 ∧ m.2.1 ≤ 1000000) (hG : GrowS o lines og) (hl : lines.length ≤ 1000) (h1 : hp.Perm ((pressO g o lines nx :: og) ++ hpR))
    (kk : ∀ y : OutC × Hp, GrowS y.1 (deedL m lines) y.2 → HL ⟨prog, n, b, [], none⟩ ops Q rest ((d, .tuple #[]) :: fr) ((pressO g y.1 (deedL m lines) (deedN m nx) :: y.2) ++ hpR) L) :
    HL ⟨prog, n, b, [], none⟩ ops Q (⟨some d, .call ⟨.value x, args, ats⟩, ty, pos, af, none⟩ :: rest) fr hp L := by
  have : m.1 = 1 ∨ m.1 = 2 ∨ m.1 = 3 := by omega
  rcases this with h | h | h
  · exact V9 (cap := []) vK hd (by rw [hf, h]; rfl) hx (vD m hG hl h) h1 tK (fun y hy => kk y hy)
  · exact V9 (cap := []) vJ hd (by rw [hf, h]; rfl) hx (vC m hG hl h hat) h1 tK (fun y hy => kk y hy)
  exact V9 (cap := []) vI hd (by rw [hf, h]; rfl) hx (vB m hG hl h hat) h1 tK (fun y hy => kk y hy)
def stepP (p : List Str) (st : List Str × Nat) (m : Mk) : List Str × Nat :=
  (deedL m (st.1 ++ (p.take (max st.2 m.2.1.toNat)).drop st.2), (deedN m (max st.2 m.2.1.toNat : Nat)).toNat)
def madeP (p : List Str) (l : List Mk) : List Str := (l.foldl (stepP p) ([], 0)).1 ++ p.drop (l.foldl (stepP p) ([], 0)).2
def MV (n : Nat) (l : List Mk) : Prop := ∀ m ∈ l, 1 ≤ m.1 ∧ m.1 ≤ 3 ∧ 0 ≤ m.2.1 ∧ m.2.1 ≤ n ∧ (m.1 = 1 ∨ m.2.1 < n)
theorem W8 {α : Type} {f : α → Int} : ∀ {l : List α}, firstErr f l = 0 → ∀ a ∈ l, f a = 0
  | [], _, a, h => by simp at h
  | b :: l, h, a, ha => by
    rw [firstErr] at h
    split at h
    · rename_i h0
      rcases List.mem_cons.1 ha with rfl | ha
      · exact h0
      exact W8 h a ha
    rename_i h0; exact absurd h h0
theorem kx8 {n : Nat} {l : List Mk} (h : marksErr n l = 0) : l.length ≤ 12 ∧ MV n l := by
  unfold marksErr at h
  split at h
  · omega
  rename_i h12
  refine ⟨by omega, fun m hm => ?_⟩; obtain ⟨i, hi, rfl⟩ := List.getElem_of_mem hm; have := W8 h i (by simpa using hi); unfold markErr mErr at this; rw [N1 hi] at this; generalize l[i] = m at *
  split at this
  · omega
  split at this
  · omega
  rename_i h1 h2
  by_cases hk : m.1 = 1
  · simp only [hk, if_true] at h2; omega
  simp only [hk, if_false] at h2; omega
theorem qx9 {p : List Str} {st : List Str × Nat} {m : Mk} {k : Nat} (hp6 : p.length ≤ 6) (h1 : st.2 ≤ p.length) (h2 : st.1.length ≤ 7 * k) (hm : 1 ≤ m.1 ∧ m.1 ≤ 3 ∧ 0 ≤ m.2.1 ∧ m.2.1 ≤ p.length ∧ (m.1 = 1 ∨ m.2.1 < p.length)) : (stepP p st m).2 ≤ p.length ∧ (stepP p st m).1.length ≤ 7 * (k + 1) := by
  obtain ⟨ls, nx⟩ := st; simp only at h1 h2; unfold stepP deedL deedN; have h3 : ((p.take (max nx m.2.1.toNat)).drop nx).length ≤ 6 := by rw [List.length_drop, List.length_take]; omega
  by_cases k1 : m.1 = 1
  · simp only [k1, if_true]
    rw [if_neg (by decide)]; rw [List.length_append, List.length_append]; simp only [List.length_cons, List.length_nil, Int.toNat_natCast]; omega
  by_cases k3 : m.1 = 3
  · simp only [k3, if_true]
    rw [if_neg (by decide), List.length_append]
    omega
  simp only [k1, k3, if_false]; rw [List.length_append, List.length_append]; simp only [List.length_cons, List.length_nil]; omega
theorem W0 {α : Type} [Inhabited α] {l : List α} {k : Nat} (h : k < l.length) : l.getD k default ∈ l := by rw [N1 h]; exact List.getElem_mem h
theorem aj9 {A B : Option Addr} {ca cb : Nat} (p : List Str) (l : List Mk) (hp6 : p.length ≤ 6) (hl : l.length ≤ 12) (hV : MV p.length l) (hc : p.length ≤ ca) :
    Meets prog mN [.slice A p.length ca, .slice B l.length cb] { outSl (madeP p l) with LI := [Row A (rows p), Row B (rows l)] } := by
 refine i3 cj9 rfl q6 fun w0 => ?_; refine c7 (c3 rfl (n7 ?_)); refine A9 _ rfl rfl (fun _ => wF ..) (aJ rfl rfl fun gB => ?_); refine c3 rfl (n7 ?_); refine d5 zE rfl rfl (xY) l6 tK fun gM _ => ?_; refine c3 rfl (b8 (yR ?_)); refine bE (.swap _ _ _) ?_; refine i4 (b7 rfl ?_); refine l8 rfl l9 rfl ?_; refine b7 rfl (b8 (k6 ?_))
 refine y6 (β := Nat × OutC × Hp × List Str × Nat) ⟨fun ⟨k, o, og, ls, nx⟩ => k ≤ l.length ∧ (l.take k).foldl (stepP p) ([], 0) = (ls, nx) ∧ GrowS o ls og ∧ nx ≤ p.length ∧ ls.length ≤ 7 * k,
   fun ⟨k, o, og, ls, nx⟩ => [(0, .slice A p.length ca), (5, .pointer (k5 gB)), (6, .map (some gM)), (12, .slice B l.length cb), (13, int l.length), (14, int k)], fun ⟨k, o, og, ls, nx⟩ => pressO gB o ls nx :: (og ++ [(gM, mapO int deedsL 3)]), fun _ => [Row A (rows p), Row B (rows l)]⟩
   (fun x => l.length - x.1) (0, (none, 0), [], [], 0) ⟨Nat.zero_le _, rfl, Grow.nil _ _, Nat.zero_le _, Nat.le_refl _⟩ mC (.refl _) ⟨m0, m1, tK⟩ fun x hx => ?_
 obtain ⟨k, o, og, ls, nx⟩ := x; obtain ⟨hk, hst, hG, hn, hlen⟩ := hx; refine c7 (z8 rfl rfl rfl (b8 (c8 ?_)))
 first | refine k8 rfl (fun hb1 => ?_) (fun hb1 => ?_) | refine d9 rfl (fun hb1 => ?_) (fun hb1 => ?_)
 ·have hb1' := hb1; try simp at hb1'
  have hk2 : k < l.length := by omega
  refine d8 (d4 (c8 (k6 (c7 ?_)))); refine z5 (α := Mk) _ _ rfl l9 c6 rfl rfl rfl mB rfl (by omega) (by decide) (u3 rfl j0 c6 rfl rfl (q8 mB (s6 (by omega))) (y9 rfl (fun _ => r7 _) fun gA => u0 rfl rfl M6 c6 (by rfl) (by rfl) ?_)); refine b8 (c8 ?_); have hVm := hV _ (W0 hk2); have hst2 : (l.take (k + 1)).foldl (stepP p) ([], 0) = stepP p (ls, nx) (l.getD k default) := by rw [v7 l k hk2, List.foldl_append, hst]; rfl
  have hnext := qx9 (st := (ls, nx)) (k := k) hp6 hn hlen hVm; generalize hm : l.getD k default = m at *; obtain ⟨kd, at0, t⟩ := m; simp only at hVm; obtain ⟨at1, rfl⟩ := Int.eq_ofNat_of_zero_le hVm.2.2.1; refine bE (pm1 _ _ _ _) (R6 (og) ([_, _, _]) (.refl _) 19 [18] mixed (by decide) (by decide) (by decide) rfl rfl rfl (v0 rfl (v0 rfl (u9 (fun w1 => n0 rfl rfl (q_z rfl)) ?_))))
  apply q9 _ rfl rfl rfl
  ·intro w1
   first | refine b3 ⟨_, 0, none⟩ rfl rfl s8 rfl ?_ | refine b3 _ rfl rfl s8 rfl ?_
   refine d6 ?_; exact l3 rfl
  apply q9 _ rfl rfl rfl
  ·intro w1
   first | refine b6 rfl j1 rfl (j4 mB rfl) ?_ | refine b6 rfl j1 rfl (i5 mB rfl) ?_ | refine b6 rfl j1 rfl (i9 mB (d7 (by omega) rfl)) ?_ | refine b6 rfl j1 rfl (i7 mB (rows_get (by omega) rfl)) ?_
   refine d6 ?_; exact l3 rfl
  refine v0 rfl (v0 rfl (u9 (fun w1 => n0 rfl rfl (q_z rfl)) ?_))
  apply q9 _ rfl rfl rfl
  ·intro w1
   first | refine b3 ⟨_, 1, none⟩ rfl rfl s7 rfl ?_ | refine b3 _ rfl rfl s7 rfl ?_
   refine d6 ?_; exact l3 rfl
  apply q9 _ rfl rfl rfl
  ·intro w1
   first | refine b6 rfl a9 rfl (j4 mB rfl) ?_ | refine b6 rfl a9 rfl (i5 mB rfl) ?_ | refine b6 rfl a9 rfl (i9 mB (d7 (by omega) rfl)) ?_ | refine b6 rfl a9 rfl (i7 mB (rows_get (by omega) rfl)) ?_
   refine d6 ?_; exact l3 rfl
  refine v0 rfl (u9 (fun w1 => n0 rfl rfl (q_z rfl)) ?_)
  apply q9 _ rfl rfl rfl
  ·intro w1
   first | refine b3 ⟨_, 1, none⟩ rfl rfl s7 rfl ?_ | refine b3 _ rfl rfl s7 rfl ?_
   refine d6 ?_; exact l3 rfl
  apply q9 _ rfl rfl rfl
  ·intro w1
   first | refine b6 rfl a9 rfl (j4 mB rfl) ?_ | refine b6 rfl a9 rfl (i5 mB rfl) ?_ | refine b6 rfl a9 rfl (i9 mB (d7 (by omega) rfl)) ?_ | refine b6 rfl a9 rfl (i7 mB (rows_get (by omega) rfl)) ?_
   refine d6 ?_; exact l3 rfl
  apply q9 _ rfl rfl rfl
  ·intro w1
   first | refine b3 ⟨_, 1, none⟩ rfl rfl i8 rfl ?_ | refine b3 _ rfl rfl i8 rfl ?_
   refine d6 ?_; exact l3 rfl
  apply q9 _ rfl rfl rfl
  ·intro w1
   first | refine b6 rfl a9 rfl (j4 mB rfl) ?_ | refine b6 rfl a9 rfl (i5 mB rfl) ?_ | refine b6 rfl a9 rfl (i9 mB (d7 (by omega) rfl)) ?_ | refine b6 rfl a9 rfl (i7 mB (rows_get (by omega) rfl)) ?_
   refine d6 ?_; exact l3 rfl
  refine u9 (fun w1 => rj3 ((max nx at1 : Nat) : Int) rfl rfl rfl (by simp only; split <;> omega) (q_z rfl)) ?_; refine u9 (fun w1 => lz4 nx (max nx at1) rfl r5 z2 rfl rfl rfl rfl rfl (Nat.le_max_left _ _) (by omega) (q_z rfl)) ?_; refine sB ⟨OutC × Hp, fun x => GrowS x.1 (ls ++ (p.take (max nx at1)).drop nx) x.2, fun x => .slice x.1.1 (ls ++ (p.take (max nx at1)).drop nx).length x.1.2, fun _ => [], fun x => x.2⟩ rfl rfl rfl ?_ ?_
  ·intro w1; refine mj7 (p := p) (ca := ca) nx (max nx at1) m0 hc ?_; refine E7 (ls ++ (p.take (max nx at1)).drop nx).length (rows (ls ++ (p.take (max nx at1)).drop nx)) jV rfl rfl rfl hG (hp' := []) (by rw [List.append_nil]) (Src.row (news := rows ((p.take (max nx at1)).drop nx)) m0 (by rw [O9, List.length_drop, List.length_take, Nat.min_eq_left (by omega)]; rfl) (aW _) (by decide)) (by rw [List.length_append, List.length_drop, List.length_take]; omega) (z7 _ _).symm (by unfold maxLen; rw [List.length_append, List.length_drop, List.length_take]; omega) (by rw [List.length_append, List.length_drop, List.length_take]; omega) fun A' c' og' hG' => ?_; refine d6 ?_; exact X2 ((A', c'), og') hG' (fun _ => rfl) (List.sublist_append_left _ _) tK
  refine E8 ⟨rfl, ?_⟩; intro x hx; obtain ⟨o1, og1⟩ := x; have hG1 : GrowS o1 (ls ++ (p.take (max nx at1)).drop nx) og1 := hx; generalize hl1 : ls ++ (p.take (max nx at1)).drop nx = l1 at *; refine n0 rfl rfl ?_
  first | refine b3 ⟨_, 0, none⟩ rfl rfl s8 rfl ?_ | refine b3 _ rfl rfl s8 rfl ?_
  refine A4 rfl rfl (pm2 _ _ _ _) U1 (by rfl) (by rfl) ?_; refine b8 (c8 ?_); refine bE (pm3 _ _ _ _) (R6 (og1) ([_, _, _]) (.refl _) 8 [] mixed (by decide) (by decide) (by decide) rfl rfl rfl (v0 rfl (v0 rfl (u9 (fun w1 => n0 rfl rfl (q_z rfl)) ?_))))
  apply q9 _ rfl rfl rfl
  ·intro w1
   first | refine b3 ⟨_, 1, none⟩ rfl rfl s7 rfl ?_ | refine b3 _ rfl rfl s7 rfl ?_
   refine d6 ?_; exact l3 rfl
  apply q9 _ rfl rfl rfl
  ·intro w1
   first | refine b6 rfl a9 rfl (j4 mB rfl) ?_ | refine b6 rfl a9 rfl (i5 mB rfl) ?_ | refine b6 rfl a9 rfl (i9 mB (d7 (by omega) rfl)) ?_ | refine b6 rfl a9 rfl (i7 mB (rows_get (by omega) rfl)) ?_
   refine d6 ?_; exact l3 rfl
  apply q9 _ rfl rfl rfl
  ·intro w1
   first | refine b3 ⟨_, 1, none⟩ rfl rfl i8 rfl ?_ | refine b3 _ rfl rfl i8 rfl ?_
   refine d6 ?_; exact l3 rfl
  apply q9 _ rfl rfl rfl
  ·intro w1
   first | refine b6 rfl a9 rfl (j4 mB rfl) ?_ | refine b6 rfl a9 rfl (i5 mB rfl) ?_ | refine b6 rfl a9 rfl (i9 mB (d7 (by omega) rfl)) ?_ | refine b6 rfl a9 rfl (i7 mB (rows_get (by omega) rfl)) ?_
   refine d6 ?_; exact l3 rfl
  refine u9 (fun w1 => rj3 ((max nx at1 : Nat) : Int) rfl rfl rfl (by simp only; split <;> omega) (q_z rfl)) ?_; refine E8 ⟨rfl, ?_⟩; refine n0 rfl rfl ?_
  first | refine b3 ⟨_, 1, none⟩ rfl rfl s7 rfl ?_ | refine b3 _ rfl rfl s7 rfl ?_
  refine A4 rfl rfl (pm4 _ _ _ _) J2 (by rfl) (by rfl) (b8 (bE (pm5 _ _ _ _) ?_)); refine i4 (b7 rfl ?_)
  first | refine b3 ⟨_, 0, none⟩ rfl rfl j9 rfl ?_ | refine b3 _ rfl rfl j9 rfl ?_
  first | refine b6 rfl a9 rfl (i5 mB rfl) ?_ | refine b6 rfl a9 rfl (j4 mB rfl) ?_ | refine b6 rfl a9 rfl (i9 mB (d7 (by omega) rfl)) ?_ | refine b6 rfl a9 rfl (i7 mB (rows_get (by omega) rfl)) ?_
  refine iz8 (k := kd) K3 rfl z1 rfl rfl (V2 m1) (sq7 ⟨hVm.1, hVm.2.1⟩) (b7 rfl ?_)
  first | refine C8 rfl j0 c6 rfl mB (by rfl) ?_ | refine D6 rfl j0 c6 rfl mB (by rfl) ?_ | refine u3 rfl j0 c6 rfl rfl (q8 mB (s6 (by omega))) ?_
  have hl1n : l1.length ≤ 1000 := by rw [← hl1, List.length_append, List.length_drop, List.length_take]; omega
  refine hl_deed (m := (kd, (at1 : Int), t)) (o := o1) (og := og1) (lines := l1) (nx := (max nx at1 : Nat)) rfl rfl rfl ⟨hVm.1, hVm.2.1⟩ ⟨by simp only; omega, by simp only; omega⟩ hG1 hl1n (pm6 _ _ _ _) fun y hy => ?_; refine d6 (u7 (d4 (i4 ?_))); refine v6 _ rfl rfl rfl rfl r6 ?_; refine b7 rfl (d6 ?_); have hs : stepP p (ls, nx) (kd, (at1 : Int), t) = (deedL (kd, (at1 : Int), t) l1, (deedN (kd, (at1 : Int), t) (max nx at1 : Nat)).toNat) := by rw [← hl1]; rfl
  rw [hs] at hst2 hnext; have hN : (((deedN (kd, (at1 : Int), t) (max nx at1 : Nat)).toNat : Nat) : Int) = deedN (kd, (at1 : Int), t) (max nx at1 : Nat) := Int.toNat_of_nonneg (by unfold deedN; simp only; split <;> omega); refine again _ (k + 1, y.1, y.2, deedL (kd, (at1 : Int), t) l1, (deedN (kd, (at1 : Int), t) (max nx at1 : Nat)).toNat) ?_ ?_ ?_ ?_ ?_
  · exact ⟨by omega, hst2, hy, hnext.1, hnext.2⟩
  · show l.length - (k + 1) < l.length - k
    omega
  · exact mC
  · show (pressO gB y.1 _ (((deedN (kd, (at1 : Int), t) (max nx at1 : Nat)).toNat : Nat) : Int) :: (y.2 ++ [_])).Sublist _
    rw [hN]; exact ((List.Sublist.refl _).append (.cons _ (.refl _))).cons_cons _
  exact ⟨m0, m1, tK⟩
 have hb1' := hb1; try simp at hb1'
 have hk2 : k = l.length := by omega
 refine s9 (E4 (u6 (d4 (c8 ?_)))); refine V3 10 mixed (by decide) (by decide) rfl rfl (v0 rfl (u9 (fun w1 => n0 rfl rfl (q_z rfl)) ?_))
 apply q9 _ rfl rfl rfl
 ·intro w1
  first | refine b3 ⟨_, 0, none⟩ rfl rfl s8 rfl ?_ | refine b3 _ rfl rfl s8 rfl ?_
  refine d6 ?_; exact l3 rfl
 apply q9 _ rfl rfl rfl
 ·intro w1
  first | refine b6 rfl j1 rfl (j4 mB rfl) ?_ | refine b6 rfl j1 rfl (i5 mB rfl) ?_ | refine b6 rfl j1 rfl (i9 mB (d7 (by omega) rfl)) ?_ | refine b6 rfl j1 rfl (i7 mB (rows_get (by omega) rfl)) ?_
  refine d6 ?_; exact l3 rfl
 refine v0 rfl (v0 rfl (u9 (fun w1 => n0 rfl rfl (q_z rfl)) ?_))
 apply q9 _ rfl rfl rfl
 ·intro w1
  first | refine b3 ⟨_, 1, none⟩ rfl rfl s7 rfl ?_ | refine b3 _ rfl rfl s7 rfl ?_
  refine d6 ?_; exact l3 rfl
 apply q9 _ rfl rfl rfl
 ·intro w1
  first | refine b6 rfl a9 rfl (j4 mB rfl) ?_ | refine b6 rfl a9 rfl (i5 mB rfl) ?_ | refine b6 rfl a9 rfl (i9 mB (d7 (by omega) rfl)) ?_ | refine b6 rfl a9 rfl (i7 mB (rows_get (by omega) rfl)) ?_
  refine d6 ?_; exact l3 rfl
 refine u9 (fun w1 => dq5 nx rfl r5 z2 rfl rfl rfl hn (q_z rfl)) ?_; refine E8 ⟨rfl, ?_⟩; refine mj7 (p := p) (ca := ca) nx p.length m0 hc ?_; rw [List.take_length]; refine E7 (ls ++ p.drop nx).length (rows (ls ++ p.drop nx)) jV rfl rfl rfl hG (pm7 _ _ _) (Src.row (news := rows (p.drop nx)) m0 (by rw [O9, List.length_drop]; rfl) (aW _) (by decide)) (by rw [List.length_append, List.length_drop]) (z7 _ _).symm (by unfold maxLen; rw [List.length_append, List.length_drop]; omega) (by rw [List.length_append, List.length_drop]; omega) fun A' c' og' hG' => ?_; refine c3 rfl (b8 (l4 ?_)); subst hk2; rw [List.take_length] at hst; have e : madeP p l = ls ++ p.drop nx := by unfold madeP; rw [hst]
 rw [e]; refine dz2 hG' ?_; exact ret1 (A', c') rfl rfl rfl hG'.le nK ⟨m0, tK⟩
def inR (i : Nat) (st : List Str × Str × Bool) (m : Mk) : List Str × Str × Bool :=
  if ¬ m.2.1 = (i : Int) then st else if m.1 = 1 then (st.1 ++ [m.2.2], st.2) else if m.1 = 2 then (st.1, m.2.2, st.2.2) else (st.1, st.2.1, false)
def lineR (p : List Str) (i : Nat) : Str := if i < p.length then p.getD i default else []
def outR (p : List Str) (l : List Mk) (out : List Str) (i : Nat) : List Str :=
  if (l.foldl (inR i) (out, lineR p i, decide (i < p.length))).2.2 = true then (l.foldl (inR i) (out, lineR p i, decide (i < p.length))).1 ++ [(l.foldl (inR i) (out, lineR p i, decide (i < p.length))).2.1]
  else (l.foldl (inR i) (out, lineR p i, decide (i < p.length))).1
def madeR (p : List Str) (l : List Mk) : List Str := (List.range (p.length + 1)).foldl (outR p l) []
def applyP (p : List Str) (l : List Mk) : List Str × Int := if ¬ checkErr p l = 0 then ([], checkErr p l) else if 6 < (madeP p l).length then ([], 6) else (madeP p l, 0)
def applyR (p : List Str) (l : List Mk) : List Str × Int := if ¬ checkErr p l = 0 then ([], checkErr p l) else if 6 < (madeR p l).length then ([], 6) else (madeR p l, 0)
def outErr {α : Type} [El α] (r : List α × Int) : Con OutC := { inv := fun x => r.1.length ≤ x.2, val := fun x => .tuple #[.slice x.1 r.1.length x.2, int r.2], LO := fun x => [Row x.1 (rows r.1)] }
theorem gZ {p : List Str} {l : List Mk} (h : checkErr p l = 0) : p.length ≤ 6 ∧ l.length ≤ 12 ∧ MV p.length l := by
  unfold checkErr at h
  split at h
  · rename_i h1
    refine ⟨?_, kx8 h⟩; unfold pageErr at h1
    split at h1 <;> omega
  rename_i h1; exact absurd h h1
def costM (l : List Mk) : Nat := (l.filter fun m => decide (¬ m.1 = 3)).length
theorem mq5 {l : List Mk} {k : Nat} (h : k < l.length) : costM (l.take (k + 1)) = costM (l.take k) + (if (l.getD k default).1 = 3 then 0 else 1) := by
  rw [v7 l k h]; unfold costM; rw [List.filter_append, List.length_append]
  congr 1
  by_cases h3 : (l.getD k default).1 = 3
  · rw [if_pos h3, List.filter_cons_of_neg (by simpa using h3)]; rfl
  rw [if_neg h3, List.filter_cons_of_pos (by simpa using h3)]; rfl
theorem sx2 (l : List Mk) : costM l ≤ l.length := List.length_filter_le _ _
def costR (p : List Str) (l : List Mk) : Int × Int := if ¬ checkErr p l = 0 then (0, checkErr p l) else (costM l, 0)
theorem J6 {A B : Option Addr} {ca cb : Nat} (p : List Str) (l : List Mk) (hc : p.length ≤ ca) :
    Meets prog I8 [.slice A p.length ca, .slice B l.length cb] { outErr (applyP p l) with LI := [Row A (rows p), Row B (rows l)] } := by
 refine i3 az2 rfl q6 fun w0 => ?_; refine c7 (c3 rfl (c3 rfl (b8 (c8 (c7 (b7 rfl (b7 rfl ?_))))))); refine d5 Q9 rfl rfl (Q7 p l) (.refl _) ⟨m0, m1, tK⟩ fun _ _ => ?_; refine c3 rfl (n7 (b7 rfl (y5 rfl rfl rfl (b8 ?_))))
 first | refine k8 rfl (fun hb1 => ?_) (fun hb1 => ?_) | refine d9 rfl (fun hb1 => ?_) (fun hb1 => ?_)
 ·have hb1' := hb1; try simp at hb1'
  have e : applyP p l = ([], checkErr p l) := by rw [applyP, if_pos hb1]
  rw [e]; refine c7 (b7 rfl (c3 rfl (c3 rfl (b8 (D4 (uU ?_)))))); exact ret2 (none, 0) rfl rfl rfl rfl rfl (Nat.le_refl _) (.refl _) ⟨m0, tK⟩
 have hb1' := hb1; try simp at hb1'
 have h0 : checkErr p l = 0 := by omega
 obtain ⟨hp6, hl, hV⟩ := gZ h0; refine d8 (d4 (c7 (b7 rfl (b7 rfl ?_)))); refine d5 ax1 rfl rfl (aj9 p l hp6 hl hV hc) (.refl _) ⟨m0, m1, tK⟩ fun x hx => ?_; refine c3 rfl (b8 (c8 (c7 (b7 rfl ?_)))); refine l8 rfl r5 rfl ?_; refine M5 rfl rfl rfl (b8 ?_)
 first | refine k8 rfl (fun hb2 => ?_) (fun hb2 => ?_) | refine d9 rfl (fun hb2 => ?_) (fun hb2 => ?_)
 ·have hb2' := hb2; try simp at hb2'
  have e : applyP p l = ([], 6) := by rw [applyP, if_neg hb1, if_pos (by omega)]
  rw [e]; refine c7 (c3 rfl (c3 rfl (b8 (D4 (uU ?_))))); exact ret2 (none, 0) rfl rfl rfl rfl rfl (Nat.le_refl _) (.refl _) ⟨m0, tK⟩
 have hb2' := hb2; try simp at hb2'
 have e : applyP p l = (madeP p l, 0) := by rw [applyP, if_neg hb1, if_neg (by omega)]
 rw [e]; refine d8 (d4 (c7 (b7 rfl (c3 rfl (c3 rfl (b8 (l4 ?_))))))); exact ret2 x rfl rfl rfl rfl rfl hx (.refl _) ⟨m0, tK⟩
theorem nV {A B : Option Addr} {ca cb : Nat} (p : List Str) (l : List Mk) :
    Meets prog bA [.slice A p.length ca, .slice B l.length cb] { LI := [Row A (rows p), Row B (rows l)], val := fun _ : Unit => .tuple #[int (costR p l).1, int (costR p l).2] } := by
 refine i3 cq4 rfl q6 fun w0 => ?_; refine c7 (c3 rfl (c3 rfl (b8 (c8 (c7 (b7 rfl (b7 rfl ?_))))))); refine d5 Q9 rfl rfl (Q7 p l) (.refl _) ⟨m0, m1, tK⟩ fun _ _ => ?_; refine c3 rfl (n7 (b7 rfl (y5 rfl rfl rfl (b8 ?_))))
 first | refine k8 rfl (fun hb1 => ?_) (fun hb1 => ?_) | refine d9 rfl (fun hb1 => ?_) (fun hb1 => ?_)
 ·have hb1' := hb1; try simp at hb1'
  have e : costR p l = (0, checkErr p l) := by rw [costR, if_pos hb1]
  rw [e]; refine c7 (b7 rfl (c3 rfl (c3 rfl (b8 (D4 ?_))))); exact ret2 () rfl rfl rfl rfl rfl tK (.refl _) tK
 have hb1' := hb1; try simp at hb1'
 have h0 : checkErr p l = 0 := by omega
 obtain ⟨hp6, hl, hV⟩ := gZ h0; have e : costR p l = ((costM l : Int), 0) := by rw [costR, if_neg hb1]
 rw [e]; refine d8 (d4 (c7 (c3 rfl (b8 (c8 (c7 (b7 rfl ?_))))))); refine l8 rfl l9 rfl ?_; refine b7 rfl (b8 (k6 ?_)); refine y6 (β := Nat) ⟨fun k => k ≤ l.length, fun k => [(7, int (costM (l.take k))), (16, .slice B l.length cb), (17, int l.length), (18, int k)], fun _ => [], fun _ => [Row B (rows l)]⟩ (fun k => l.length - k) 0 (Nat.zero_le _) mC nK ⟨m1, tK⟩ fun k hk => ?_; simp only at hk; refine c7 (z8 rfl rfl rfl (b8 (c8 ?_)))
 first | refine k8 rfl (fun hb2 => ?_) (fun hb2 => ?_) | refine d9 rfl (fun hb2 => ?_) (fun hb2 => ?_)
 ·have hb2' := hb2; try simp at hb2'
  have hk2 : k < l.length := by omega
  have hct := mq5 hk2; have hcl := sx2 (l.take k); rw [List.length_take] at hcl; refine d8 (d4 (c8 (k6 (c7 ?_)))); refine z5 (α := Mk) _ _ rfl l9 c6 rfl rfl rfl mB rfl (by omega) (by decide) (u3 rfl j0 c6 rfl rfl (q8 mB (s6 (by omega))) (y9 rfl (fun _ => r7 _) fun gA => u0 rfl rfl M6 c6 (by rfl) (by rfl) (n7 ?_)))
  first | refine b3 ⟨_, 0, none⟩ rfl rfl j9 rfl ?_ | refine b3 _ rfl rfl j9 rfl ?_
  first | refine b6 rfl a9 rfl (i5 mB rfl) ?_ | refine b6 rfl a9 rfl (j4 mB rfl) ?_ | refine b6 rfl a9 rfl (i9 mB (d7 (by omega) rfl)) ?_ | refine b6 rfl a9 rfl (i7 mB (rows_get (by omega) rfl)) ?_
  refine y5 rfl rfl rfl (b8 ?_)
  first | refine k8 rfl (fun hb3 => ?_) (fun hb3 => ?_) | refine d9 rfl (fun hb3 => ?_) (fun hb3 => ?_)
  ·have hb3' := hb3; try simp at hb3'
   rw [if_neg hb3] at hct; refine i4 (b7 rfl ?_); refine v6 _ rfl rfl rfl rfl r6 ?_; refine c3 rfl (d6 (u7 (d4 (i4 ?_)))); refine v6 _ rfl rfl rfl rfl r6 ?_; refine b7 rfl (d6 ?_); refine again _ (k + 1) (by show k + 1 ≤ l.length; omega) (D5 (by omega)) ⟨?_, rfl, rfl, rfl, tK⟩ nK ⟨m0, tK⟩; show some (int ((costM (l.take k) : Int) + 1)) = some (int ((costM (l.take (k + 1)) : Nat) : Int)); rw [hct]; rfl
  have hb3' := hb3; try simp at hb3'
  rw [if_pos (Classical.not_not.1 hb3)] at hct; refine d8 (u7 (d4 (i4 ?_))); refine v6 _ rfl rfl rfl rfl r6 ?_; refine b7 rfl (d6 ?_); refine again _ (k + 1) (by show k + 1 ≤ l.length; omega) (D5 (by omega)) ⟨?_, rfl, rfl, rfl, tK⟩ nK ⟨m0, tK⟩; show some (int (costM (l.take k) : Int)) = some (int ((costM (l.take (k + 1)) : Nat) : Int)); rw [hct]; rfl
 have hb2' := hb2; try simp at hb2'
 have hk2 : k = l.length := by omega
 subst hk2; refine s9 (E4 (u6 (d4 (c7 (b7 rfl (c3 rfl (c3 rfl (b8 ?_)))))))); refine l4 ?_; exact ret2 () rfl (congrArg (fun s => some (int (costM s : Nat))) List.take_length) rfl rfl rfl tK (.refl _) tK
def cmpI (a b : Int) : Int := if a < b then -1 else if b < a then 1 else 0
def cmpS (a b : Str) : Int := if Op.bytesLess a b = true then -1 else if (!(Op.bytesLess a b || a == b)) = true then 1 else 0
def orL : List Int → Int
  | [] => 0
  | a :: l => if ¬ a = 0 then a else orL l
def cmpMk (a b : Mk) : Int := orL [cmpI a.2.1 b.2.1, cmpI a.1 b.1, cmpS a.2.2 b.2.2]
def cmpMs : List Mk → List Mk → Int
  | [], [] => 0
  | [], _ :: _ => -1
  | _ :: _, [] => 1
  | a :: l, b :: l' => if ¬ cmpMk a b = 0 then cmpMk a b else cmpMs l l'
abbrev Lst := Int × List Mk
def cmpL (a b : Lst) : Int := orL [cmpI a.1 b.1, cmpI a.2.length b.2.length, cmpMs a.2 b.2]
theorem jA (a : Int) : Meets prog gP [int a] { val := fun _ : Unit => .bool false } := by
 refine i3 xD rfl q6 fun w0 => ?_; refine c7 (c3 rfl (n7 (b7 rfl (b7 rfl (y5 rfl rfl rfl (c3 rfl (d6 ?_))))))); refine d4 (l4 ?_); exact ret1 () rfl (congrArg (fun b => some (Value.bool b)) (by simp)) rfl tK (.refl _) tK
theorem dJ (a : Str) : Meets prog aS [str a] { val := fun _ : Unit => .bool false } := by
 refine i3 sP rfl q6 fun w0 => ?_; refine c7 (c3 rfl (n7 (b7 rfl (b7 rfl (dq4 rfl rfl rfl (c3 rfl (d6 ?_))))))); refine d4 (l4 ?_); exact ret1 () rfl (congrArg (fun b => some (Value.bool b)) (by simp)) rfl tK (.refl _) tK
theorem N5 (a b : Int) : Meets prog bV [int a, int b] { val := fun _ : Unit => int (cmpI a b) } := by
 refine i3 uB rfl q6 fun w0 => ?_; refine c7 (c3 rfl (n7 (b7 rfl ?_))); refine d5 iZ rfl rfl (jA _) (.refl _) tK fun _ _ => ?_; refine c3 rfl (n7 (b7 rfl ?_)); refine d5 iZ rfl rfl (jA _) (.refl _) tK fun _ _ => ?_; refine c3 rfl (b8 (c8 (c7 (b7 rfl (b8 ?_))))); refine c_f rfl gq7 ?_; refine d8 (d4 (c8 (c7 (b7 rfl (b8 ?_))))); refine c_f rfl gq7 ?_; refine d8 (d4 (c8 (c7 (b7 rfl (b7 rfl (z8 rfl rfl rfl (b8 ?_)))))))
 first | refine k8 rfl (fun hb4 => ?_) (fun hb4 => ?_) | refine d9 rfl (fun hb4 => ?_) (fun hb4 => ?_)
 ·have hb4' := hb4; try simp at hb4'
  refine c7 (c3 rfl (b8 (D4 ?_))); exact ret1 () rfl (congrArg (fun n => some (int n)) (by rw [cmpI, if_pos hb4])) rfl tK nK tK
 have hb4' := hb4; try simp at hb4'
 refine d8 (d4 (c8 (c7 (b7 rfl (b7 rfl (M5 rfl rfl rfl (b8 ?_)))))))
 first | refine k8 rfl (fun hb5 => ?_) (fun hb5 => ?_) | refine d9 rfl (fun hb5 => ?_) (fun hb5 => ?_)
 ·have hb5' := hb5; try simp at hb5'
  refine c7 (c3 rfl (b8 (D4 ?_))); exact ret1 () rfl (congrArg (fun n => some (int n)) (by rw [cmpI, if_neg hb4, if_pos hb5])) rfl tK nK tK
 have hb5' := hb5; try simp at hb5'
 refine d8 (d4 (c7 (c3 rfl (b8 (l4 ?_))))); exact ret1 () rfl (congrArg (fun n => some (int n)) (by rw [cmpI, if_neg hb4, if_neg hb5])) rfl tK nK tK
theorem mY (a b : Str) : Meets prog X0 [str a, str b] { val := fun _ : Unit => int (cmpS a b) } := by
 refine i3 pS rfl q6 fun w0 => ?_; refine c7 (c3 rfl (n7 (b7 rfl ?_))); refine d5 dG rfl rfl (dJ _) (.refl _) tK fun _ _ => ?_; refine c3 rfl (n7 (b7 rfl ?_)); refine d5 dG rfl rfl (dJ _) (.refl _) tK fun _ _ => ?_; refine c3 rfl (b8 (c8 (c7 (b7 rfl (b8 ?_))))); refine c_f rfl gq7 ?_; refine d8 (d4 (c8 (c7 (b7 rfl (b8 ?_))))); refine c_f rfl gq7 ?_; refine d8 (d4 (c8 (c7 (b7 rfl (b7 rfl (r_slss rfl rfl rfl (b8 ?_)))))))
 first | refine k8 rfl (fun hb4 => ?_) (fun hb4 => ?_) | refine d9 rfl (fun hb4 => ?_) (fun hb4 => ?_)
 ·have hb4' := hb4; try simp at hb4'
  refine c7 (c3 rfl (b8 (D4 ?_))); exact ret1 () rfl (congrArg (fun n => some (int n)) (by rw [cmpS, if_pos hb4])) rfl tK nK tK
 have hb4' := hb4; try simp at hb4'
 refine d8 (d4 (c8 (c7 (b7 rfl (b7 rfl (r_sgtr rfl rfl rfl (b8 ?_)))))))
 first | refine k8 rfl (fun hb5 => ?_) (fun hb5 => ?_) | refine d9 rfl (fun hb5 => ?_) (fun hb5 => ?_)
 ·have hb5' := hb5; try simp at hb5'
  refine c7 (c3 rfl (b8 (D4 ?_))); exact ret1 () rfl (congrArg (fun n => some (int n)) (by rw [cmpS, if_neg (by rw [hb4]; decide), if_pos hb5])) rfl tK nK tK
 have hb5' := hb5; try simp at hb5'
 refine d8 (d4 (c7 (c3 rfl (b8 (l4 ?_))))); exact ret1 () rfl (congrArg (fun n => some (int n)) (by rw [cmpS, if_neg (by rw [hb4]; decide), if_neg (by rw [hb5]; decide)])) rfl tK nK tK
theorem rq6 {l : List Int} {k : Nat} (hk : k < l.length) : orL (l.drop k) = if ¬ l.getD k default = 0 then l.getD k default else orL (l.drop (k + 1)) := by
  rw [List.drop_eq_getElem_cons hk, orL, N1 hk]
theorem pT {A : Option Addr} {c : Nat} (l : List Int) (hl : l.length ≤ 1000000) : Meets prog mV [.slice A l.length c] { LI := [Row A (rows l)], val := fun _ : Unit => int (orL l) } := by
 refine i3 cx4 rfl q6 fun w0 => ?_; refine c7 (c3 rfl (n7 (c3 rfl (b8 (yR ?_))))); refine i4 (b7 rfl ?_); refine l8 rfl L8 rfl ?_; refine b7 rfl (b8 (k6 ?_)); refine y6 (β := Nat) ⟨fun k => k ≤ l.length ∧ orL l = orL (l.drop k), fun k => [(3, int 0), (6, .slice A l.length c), (7, int l.length), (8, int k)], fun _ => [], fun _ => [Row A (rows l)]⟩ (fun k => l.length - k) 0 ⟨Nat.zero_le _, rfl⟩ mC (.refl _) ⟨m0, tK⟩ fun k hk => ?_; obtain ⟨hk, ht⟩ := hk; refine c7 (z8 rfl rfl rfl (b8 (c8 ?_)))
 first | refine k8 rfl (fun hb1 => ?_) (fun hb1 => ?_) | refine d9 rfl (fun hb1 => ?_) (fun hb1 => ?_)
 ·have hb1' := hb1; try simp at hb1'
  have hk2 : k < l.length := by omega
  rw [rq6 hk2] at ht; refine d8 (d4 (c8 (k6 (c7 ?_)))); refine z5 (α := Int) _ _ rfl L8 J2 rfl rfl rfl mB rfl (by omega) (by decide) (b6 rfl a9 rfl (i9 mB (d7 (by omega) rfl)) ?_); refine c3 rfl (n7 (b7 rfl (b7 rfl (y5 rfl rfl rfl (b8 ?_)))))
  first | refine k8 rfl (fun hb2 => ?_) (fun hb2 => ?_) | refine d9 rfl (fun hb2 => ?_) (fun hb2 => ?_)
  ·have hb2' := hb2; try simp at hb2'
   rw [if_pos hb2] at ht; refine c7 (b7 rfl (c3 rfl (b8 (l4 (C7 (r9 (C7 ?_))))))); exact ret1 () rfl (congrArg (fun n => some (int n)) (by rw [ht])) rfl tK nK tK
  have hb2' := hb2; try simp at hb2'
  rw [if_neg hb2] at ht; refine d8 (u7 (d4 (i4 ?_))); refine v6 _ rfl rfl rfl rfl r6 ?_; refine b7 rfl (d6 ?_); exact again _ (k + 1) ⟨by omega, ht⟩ (D5 (by omega)) mC (.refl _) ⟨m0, tK⟩
 have hb1' := hb1; try simp at hb1'
 have hk2 : k = l.length := by omega
 refine s9 (E4 (u6 (d4 (c7 (b7 rfl (c3 rfl (b8 (l4 ?_)))))))); exact ret1 () rfl (congrArg (fun n => some (int n)) (by rw [ht, hk2, List.drop_length]; rfl)) rfl tK nK tK
theorem mH (a b : Mk) : Meets prog H1 [.agg #[int a.1, int a.2.1, str a.2.2], .agg #[int b.1, int b.2.1, str b.2.2]] { val := fun _ : Unit => int (cmpMk a b) } := by
 refine i3 pM rfl q6 fun w0 => c7 (aJ rfl rfl fun gB => aJ rfl rfl fun gB => ?_); refine c3 rfl (b8 (c8 ?_)); refine V3 14 mixed (by decide) (by decide) rfl rfl ?_
 apply q9 _ rfl rfl rfl
 ·intro w1
  first | refine b3 ⟨_, 1, none⟩ rfl rfl i8 rfl ?_ | refine b3 _ rfl rfl i8 rfl ?_
  refine d6 ?_; exact l3 rfl
 apply q9 _ rfl rfl rfl
 ·intro w1
  first | refine b6 rfl a9 rfl (j4 mB rfl) ?_ | refine b6 rfl a9 rfl (i5 mB rfl) ?_ | refine b6 rfl a9 rfl (i9 mB (d7 (by omega) rfl)) ?_ | refine b6 rfl a9 rfl (i7 mB (rows_get (by omega) rfl)) ?_
  refine d6 ?_; exact l3 rfl
 apply q9 _ rfl rfl rfl
 ·intro w1
  first | refine b3 ⟨_, 1, none⟩ rfl rfl i8 rfl ?_ | refine b3 _ rfl rfl i8 rfl ?_
  refine d6 ?_; exact l3 rfl
 apply q9 _ rfl rfl rfl
 ·intro w1
  first | refine b6 rfl a9 rfl (j4 mB rfl) ?_ | refine b6 rfl a9 rfl (i5 mB rfl) ?_ | refine b6 rfl a9 rfl (i9 mB (d7 (by omega) rfl)) ?_ | refine b6 rfl a9 rfl (i7 mB (rows_get (by omega) rfl)) ?_
  refine d6 ?_; exact l3 rfl
 refine u9 (fun w1 => d5 N4 rfl rfl (N5 _ _) (.refl _) tK fun _ _ => (q_z rfl)) ?_
 apply q9 _ rfl rfl rfl
 ·intro w1
  first | refine b3 ⟨_, 0, none⟩ rfl rfl j9 rfl ?_ | refine b3 _ rfl rfl j9 rfl ?_
  refine d6 ?_; exact l3 rfl
 apply q9 _ rfl rfl rfl
 ·intro w1
  first | refine b6 rfl a9 rfl (j4 mB rfl) ?_ | refine b6 rfl a9 rfl (i5 mB rfl) ?_ | refine b6 rfl a9 rfl (i9 mB (d7 (by omega) rfl)) ?_ | refine b6 rfl a9 rfl (i7 mB (rows_get (by omega) rfl)) ?_
  refine d6 ?_; exact l3 rfl
 apply q9 _ rfl rfl rfl
 ·intro w1
  first | refine b3 ⟨_, 0, none⟩ rfl rfl j9 rfl ?_ | refine b3 _ rfl rfl j9 rfl ?_
  refine d6 ?_; exact l3 rfl
 apply q9 _ rfl rfl rfl
 ·intro w1
  first | refine b6 rfl a9 rfl (j4 mB rfl) ?_ | refine b6 rfl a9 rfl (i5 mB rfl) ?_ | refine b6 rfl a9 rfl (i9 mB (d7 (by omega) rfl)) ?_ | refine b6 rfl a9 rfl (i7 mB (rows_get (by omega) rfl)) ?_
  refine d6 ?_; exact l3 rfl
 refine u9 (fun w1 => d5 N4 rfl rfl (N5 _ _) (.refl _) tK fun _ _ => (q_z rfl)) ?_
 apply q9 _ rfl rfl rfl
 ·intro w1
  first | refine b3 ⟨_, 2, none⟩ rfl rfl q7 rfl ?_ | refine b3 _ rfl rfl q7 rfl ?_
  refine d6 ?_; exact l3 rfl
 apply q9 _ rfl rfl rfl
 ·intro w1
  first | refine b6 rfl j5 rfl (j4 mB rfl) ?_ | refine b6 rfl j5 rfl (i5 mB rfl) ?_ | refine b6 rfl j5 rfl (i9 mB (d7 (by omega) rfl)) ?_ | refine b6 rfl j5 rfl (i7 mB (rows_get (by omega) rfl)) ?_
  refine d6 ?_; exact l3 rfl
 apply q9 _ rfl rfl rfl
 ·intro w1
  first | refine b3 ⟨_, 2, none⟩ rfl rfl q7 rfl ?_ | refine b3 _ rfl rfl q7 rfl ?_
  refine d6 ?_; exact l3 rfl
 apply q9 _ rfl rfl rfl
 ·intro w1
  first | refine b6 rfl j5 rfl (j4 mB rfl) ?_ | refine b6 rfl j5 rfl (i5 mB rfl) ?_ | refine b6 rfl j5 rfl (i9 mB (d7 (by omega) rfl)) ?_ | refine b6 rfl j5 rfl (i7 mB (rows_get (by omega) rfl)) ?_
  refine d6 ?_; exact l3 rfl
 refine E8 ⟨rfl, ?_⟩; refine d5 mW rfl rfl (mY _ _) (.refl _) tK fun _ _ => j8 _ rfl rfl (fun _ => cM ..) fun gS => v8 (rows [cmpI a.2.1 b.2.1, cmpI a.1 b.1, cmpS a.2.2 b.2.2]) ⟨[], List.append_nil _⟩ ?_; refine d5 pR rfl rfl (pT [cmpI a.2.1 b.2.1, cmpI a.1 b.1, cmpS a.2.2 b.2.2] (by simp)) l6 ⟨m0, tK⟩ fun _ _ => ?_; refine c3 rfl (b8 (l4 ?_)); exact ret1 () rfl rfl rfl tK nK tK
theorem jP {α : Type} [Inhabited α] {l : List α} {k : Nat} (hk : k < l.length) : l.drop k = l.getD k default :: l.drop (k + 1) := by rw [List.drop_eq_getElem_cons hk, N1 hk]
theorem mE {A B : Option Addr} {ca cb : Nat} (a b : List Mk) (ha : a.length ≤ 1000000) : Meets prog W9 [.slice A a.length ca, .slice B b.length cb, fnV H1] { LI := [Row A (rows a), Row B (rows b)], val := fun _ : Unit => int (cmpMs a b) } := by
 refine i3 pG rfl q6 fun w0 => ?_; refine c7 (c3 rfl (b8 (c8 (c7 (b7 rfl ?_))))); refine l8 rfl l9 rfl ?_; refine b7 rfl (b8 (k6 ?_)); refine y6 (β := Nat) ⟨fun k => k ≤ a.length ∧ k ≤ b.length ∧ cmpMs a b = cmpMs (a.drop k) (b.drop k), fun k => [(0, .slice A a.length ca), (1, .slice B b.length cb), (2, fnV H1), (11, .slice A a.length ca), (12, int a.length), (13, int k)], fun _ => [], fun _ => [Row A (rows a), Row B (rows b)]⟩ (fun k => a.length - k) 0 ⟨Nat.zero_le _, Nat.zero_le _, rfl⟩ mC (.refl _) ⟨m0, m1, tK⟩ fun k hk => ?_; obtain ⟨hka, hkb, ht⟩ := hk; refine c7 (z8 rfl rfl rfl (b8 (c8 ?_)))
 first | refine k8 rfl (fun hb1 => ?_) (fun hb1 => ?_) | refine d9 rfl (fun hb1 => ?_) (fun hb1 => ?_)
 ·have hb1' := hb1; try simp at hb1'
  have hk2 : k < a.length := by omega
  rw [jP hk2] at ht; refine d8 (d4 (c8 (k6 (c7 (b7 rfl ?_))))); refine z5 (α := Mk) _ _ rfl l9 c6 rfl rfl rfl mB rfl (by omega) (by decide) (u3 rfl j0 c6 rfl rfl (q8 mB (s6 (by omega))) (y9 rfl (fun _ => r7 _) fun gA => c3 rfl (u0 rfl rfl M6 c6 (by rfl) (by rfl) ?_))); refine b8 (c8 (c7 (b7 rfl (b7 rfl ?_)))); refine l8 rfl l9 rfl ?_; refine lN rfl rfl rfl (b8 ?_)
  first | refine k8 rfl (fun hb2 => ?_) (fun hb2 => ?_) | refine d9 rfl (fun hb2 => ?_) (fun hb2 => ?_)
  ·have hb2' := hb2; try simp at hb2'
   have hk3 : k = b.length := by omega
   refine c7 (c3 rfl (b8 (D4 (C7 (r9 (C7 ?_)))))); exact ret1 () rfl (congrArg (fun n => some (int n)) (by rw [ht, hk3, List.drop_length]; rfl)) rfl tK nK tK
  have hb2' := hb2; try simp at hb2'
  have hk3 : k < b.length := by omega
  rw [jP hk3, cmpMs] at ht; refine d8 (d4 (c7 (b7 rfl (b7 rfl ?_)))); refine z5 (α := Mk) _ _ rfl l9 c6 rfl rfl rfl mB rfl (by omega) (by decide) (u3 rfl j0 c6 rfl rfl (q8 mB (s6 (by omega))) (y9 rfl (fun _ => r7 _) fun gA => u0 rfl rfl M6 c6 (by rfl) (by rfl) ?_)); refine n7 (b7 rfl ?_)
  first | refine C8 rfl j0 c6 rfl mB (by rfl) ?_ | refine D6 rfl j0 c6 rfl mB (by rfl) ?_ | refine u3 rfl j0 c6 rfl rfl (q8 mB (s6 (by omega))) ?_
  first | refine C8 rfl j0 c6 rfl mB (by rfl) ?_ | refine D6 rfl j0 c6 rfl mB (by rfl) ?_ | refine u3 rfl j0 c6 rfl rfl (q8 mB (s6 (by omega))) ?_
  refine V9 (cap := []) mP rfl rfl rfl (mH (a.getD k default) (b.getD k default)) l6 tK fun _ _ => ?_; refine c3 rfl (n7 (b7 rfl (y5 rfl rfl rfl (b8 ?_))))
  first | refine k8 rfl (fun hb3 => ?_) (fun hb3 => ?_) | refine d9 rfl (fun hb3 => ?_) (fun hb3 => ?_)
  ·have hb3' := hb3; try simp at hb3'
   rw [if_pos hb3] at ht; refine c7 (b7 rfl (c3 rfl (b8 (l4 (C7 (r9 (C7 ?_))))))); exact ret1 () rfl (congrArg (fun n => some (int n)) (by rw [ht])) rfl tK nK tK
  have hb3' := hb3; try simp at hb3'
  rw [if_neg hb3] at ht; refine d8 (u7 (d4 (i4 ?_))); refine v6 _ rfl rfl rfl rfl r6 ?_; refine b7 rfl (d6 ?_); exact again _ (k + 1) ⟨by omega, by omega, ht⟩ (D5 (by omega)) mC nK ⟨m0, m1, tK⟩
 have hb1' := hb1; try simp at hb1'
 have hk2 : k = a.length := by omega
 refine s9 (E4 (u6 (d4 (c8 (c7 (b7 rfl ?_)))))); refine l8 rfl l9 rfl (b7 rfl (l8 rfl l9 rfl ?_)); refine z8 rfl rfl rfl (b8 ?_)
 first | refine k8 rfl (fun hb4 => ?_) (fun hb4 => ?_) | refine d9 rfl (fun hb4 => ?_) (fun hb4 => ?_)
 ·have hb4' := hb4; try simp at hb4'
  have h4 : k < b.length := by omega
  rw [hk2, List.drop_length, jP (by omega)] at ht; refine c7 (c3 rfl (b8 (D4 ?_))); exact ret1 () rfl (congrArg (fun n => some (int n)) (by rw [ht]; rfl)) rfl tK nK tK
 have hb4' := hb4; try simp at hb4'
 have h4 : k = b.length := by omega
 rw [hk2, List.drop_length, ← hk2, h4, List.drop_length] at ht; refine d8 (d4 (c7 (c3 rfl (b8 (l4 ?_))))); exact ret1 () rfl (congrArg (fun n => some (int n)) (by rw [ht]; rfl)) rfl tK nK tK
theorem mI {A B : Option Addr} {ca cb : Nat} (x y : Lst) (ha : x.2.length ≤ 1000000) (hb : y.2.length ≤ 1000000) : Meets prog C4 [.agg #[int x.1, .slice A x.2.length ca], .agg #[int y.1, .slice B y.2.length cb]] { LI := [Row A (rows x.2), Row B (rows y.2)], val := fun _ : Unit => int (cmpL x y) } := by
 refine i3 pN rfl q6 fun w0 => c7 (aJ rfl rfl fun gB => aJ rfl rfl fun gB => ?_); refine c3 rfl (b8 (c8 ?_)); refine V3 16 mixed (by decide) (by decide) rfl rfl ?_
 apply q9 _ rfl rfl rfl
 ·intro w1
  first | refine b3 ⟨_, 0, none⟩ rfl rfl A3 rfl ?_ | refine b3 _ rfl rfl A3 rfl ?_
  refine d6 ?_; exact l3 rfl
 apply q9 _ rfl rfl rfl
 ·intro w1
  first | refine b6 rfl a9 rfl (j4 mB rfl) ?_ | refine b6 rfl a9 rfl (i5 mB rfl) ?_ | refine b6 rfl a9 rfl (i9 mB (d7 (by omega) rfl)) ?_ | refine b6 rfl a9 rfl (i7 mB (rows_get (by omega) rfl)) ?_
  refine d6 ?_; exact l3 rfl
 apply q9 _ rfl rfl rfl
 ·intro w1
  first | refine b3 ⟨_, 0, none⟩ rfl rfl A3 rfl ?_ | refine b3 _ rfl rfl A3 rfl ?_
  refine d6 ?_; exact l3 rfl
 apply q9 _ rfl rfl rfl
 ·intro w1
  first | refine b6 rfl a9 rfl (j4 mB rfl) ?_ | refine b6 rfl a9 rfl (i5 mB rfl) ?_ | refine b6 rfl a9 rfl (i9 mB (d7 (by omega) rfl)) ?_ | refine b6 rfl a9 rfl (i7 mB (rows_get (by omega) rfl)) ?_
  refine d6 ?_; exact l3 rfl
 refine u9 (fun w1 => d5 N4 rfl rfl (N5 _ _) (.refl _) tK fun _ _ => (q_z rfl)) ?_
 apply q9 _ rfl rfl rfl
 ·intro w1
  first | refine b3 ⟨_, 1, none⟩ rfl rfl z9 rfl ?_ | refine b3 _ rfl rfl z9 rfl ?_
  refine d6 ?_; exact l3 rfl
 apply q9 _ rfl rfl rfl
 ·intro w1
  first | refine b6 rfl i6 rfl (j4 mB rfl) ?_ | refine b6 rfl i6 rfl (i5 mB rfl) ?_ | refine b6 rfl i6 rfl (i9 mB (d7 (by omega) rfl)) ?_ | refine b6 rfl i6 rfl (i7 mB (rows_get (by omega) rfl)) ?_
  refine d6 ?_; exact l3 rfl
 refine u9 (fun w1 => l8 rfl l9 rfl (q_z rfl)) ?_
 apply q9 _ rfl rfl rfl
 ·intro w1
  first | refine b3 ⟨_, 1, none⟩ rfl rfl z9 rfl ?_ | refine b3 _ rfl rfl z9 rfl ?_
  refine d6 ?_; exact l3 rfl
 apply q9 _ rfl rfl rfl
 ·intro w1
  first | refine b6 rfl i6 rfl (j4 mB rfl) ?_ | refine b6 rfl i6 rfl (i5 mB rfl) ?_ | refine b6 rfl i6 rfl (i9 mB (d7 (by omega) rfl)) ?_ | refine b6 rfl i6 rfl (i7 mB (rows_get (by omega) rfl)) ?_
  refine d6 ?_; exact l3 rfl
 refine u9 (fun w1 => l8 rfl l9 rfl (q_z rfl)) ?_; refine u9 (fun w1 => d5 N4 rfl rfl (N5 _ _) (.refl _) tK fun _ _ => (q_z rfl)) ?_
 apply q9 _ rfl rfl rfl
 ·intro w1
  first | refine b3 ⟨_, 1, none⟩ rfl rfl z9 rfl ?_ | refine b3 _ rfl rfl z9 rfl ?_
  refine d6 ?_; exact l3 rfl
 apply q9 _ rfl rfl rfl
 ·intro w1
  first | refine b6 rfl i6 rfl (j4 mB rfl) ?_ | refine b6 rfl i6 rfl (i5 mB rfl) ?_ | refine b6 rfl i6 rfl (i9 mB (d7 (by omega) rfl)) ?_ | refine b6 rfl i6 rfl (i7 mB (rows_get (by omega) rfl)) ?_
  refine d6 ?_; exact l3 rfl
 apply q9 _ rfl rfl rfl
 ·intro w1
  first | refine b3 ⟨_, 1, none⟩ rfl rfl z9 rfl ?_ | refine b3 _ rfl rfl z9 rfl ?_
  refine d6 ?_; exact l3 rfl
 apply q9 _ rfl rfl rfl
 ·intro w1
  first | refine b6 rfl i6 rfl (j4 mB rfl) ?_ | refine b6 rfl i6 rfl (i5 mB rfl) ?_ | refine b6 rfl i6 rfl (i9 mB (d7 (by omega) rfl)) ?_ | refine b6 rfl i6 rfl (i7 mB (rows_get (by omega) rfl)) ?_
  refine d6 ?_; exact l3 rfl
 refine E8 ⟨rfl, ?_⟩; refine d5 mM rfl rfl (mE x.2 y.2 ha) (.refl _) ⟨m0, m1, tK⟩ fun _ _ => j8 _ rfl rfl (fun _ => cM ..) fun gS => v8 (rows [cmpI x.1 y.1, cmpI x.2.length y.2.length, cmpMs x.2 y.2]) ⟨[], List.append_nil _⟩ ?_; refine d5 pR rfl rfl (pT [cmpI x.1 y.1, cmpI x.2.length y.2.length, cmpMs x.2 y.2] (by simp)) l6 ⟨m0, tK⟩ fun _ _ => ?_; refine c3 rfl (b8 (l4 ?_)); exact ret1 () rfl rfl rfl tK nK tK
abbrev LstV := Int × Sl Mk
instance : El LstV where
  default := (0, ⟨none, 0, []⟩)
  cells x := [int x.1, .slice x.2.a x.2.l.length x.2.c]
  sz := 2
  len _ := rfl
  one a u h := by simp at h; rcases h with h | h <;> subst h <;> rfl
def LstV.dat (x : LstV) : Lst := (x.1, x.2.l)
def LstV.row (x : LstV) : Fact := Row x.2.a (rows x.2.l)
def LstV.v (x : LstV) : Value := .agg #[int x.1, .slice x.2.a x.2.l.length x.2.c]
theorem lF (x y : LstV) (ha : x.2.l.length ≤ 1000000) (hb : y.2.l.length ≤ 1000000) : Meets prog C4 [x.v, y.v] { LI := [x.row, y.row], val := fun _ : Unit => int (cmpL x.dat y.dat) } :=
  mI (A := x.2.a) (B := y.2.a) (ca := x.2.c) (cb := y.2.c) (x.1, x.2.l) (y.1, y.2.l) ha hb
def leastV (f : LstV) (l : List LstV) : LstV := l.foldl (fun f x => if cmpL x.dat f.dat < 0 then x else f) f
theorem wO (f : LstV) (l : List LstV) : leastV f l ∈ f :: l := by
  unfold leastV
  induction l generalizing f with
  | nil => simp
  | cons x l ih =>
    rw [List.foldl_cons]; have := ih (if cmpL x.dat f.dat < 0 then x else f)
    rcases List.mem_cons.1 this with h | h
    · rw [h]; split <;> simp
    simp [h]
theorem kz0 {f : LstV} {l : List LstV} {k : Nat} (hk : k < l.length) : leastV f (l.take (k + 1)) = if cmpL (l.getD k default).dat (leastV f (l.take k)).dat < 0 then l.getD k default else leastV f (l.take k) := by
  rw [v7 l k hk]; unfold leastV; rw [List.foldl_append]
  rfl
theorem xX {B : Option Addr} {cb : Nat} (f : LstV) (l : List LstV) (hl : l.length ≤ 1000) (hs : ∀ x ∈ f :: l, x.2.l.length ≤ 1000000) :
    Meets prog kS [fnV C4, f.v, .slice B l.length cb] { LI := [Row B (rows l), Facts ((f :: l).map LstV.row)], val := fun _ : Unit => (leastV f l).v } := by
 unfold LstV.v; refine i3 ax2 rfl q6 fun w0 => c7 (aJ rfl rfl fun gB => y9 rfl (fun _ => H5 _) fun gA => ?_); refine b8 (yR ?_); refine bE (.swap _ _ _) ?_; refine i4 (b7 rfl ?_); refine l8 rfl X1 rfl ?_; refine b7 rfl (b8 (k6 ?_)); refine y6 (β := Nat) ⟨fun k => k ≤ l.length, fun k => [(0, fnV C4), (4, .pointer (k5 gB)), (6, .pointer (k5 gA)), (9, .slice B l.length cb), (10, int l.length), (11, int k)], fun k => [(gB, .cells (El.cells (leastV f (l.take k))).toArray u4 (0, 0)), (gA, .cells #[int 0, .slice none 0 0] u4 (0, 0))], fun _ => [Row B (rows l), Facts ((f :: l).map LstV.row)]⟩ (fun k => l.length - k) 0 (Nat.zero_le _) mC (.refl _) ⟨m0, m1, tK⟩ fun k hk => ?_; simp only at hk; refine c7 (z8 rfl rfl rfl (b8 (c8 ?_)))
 first | refine k8 rfl (fun hb1 => ?_) (fun hb1 => ?_) | refine d9 rfl (fun hb1 => ?_) (fun hb1 => ?_)
 ·have hb1' := hb1; try simp at hb1'
  have hk2 : k < l.length := by omega
  have hlt := kz0 (f := f) hk2
  have hmem : leastV f (l.take k) ∈ f :: l := by
    rcases List.mem_cons.1 (wO f (l.take k)) with h | h
    · simp [h]
    exact List.mem_cons_of_mem _ (List.mem_of_mem_take h)
  refine d8 (d4 (c8 (k6 (c7 ?_)))); refine z5 (α := _) _ _ rfl X1 j7 rfl rfl rfl mB rfl (by omega) (by decide) (u3 rfl k7 j7 rfl rfl (q8 mB (s6 (by omega))) (y9 rfl (fun _ => H5 _) fun gA => u0 rfl rfl M6 j7 (by rfl) (by rfl) ?_)); refine b8 (c8 ?_); have hx := List.mem_cons_of_mem f (W0 hk2); generalize hm : l.getD k default = x at *; refine i4 (b7 rfl ?_)
  first | refine C8 rfl k7 j7 rfl mB (by rfl) ?_ | refine D6 rfl k7 j7 rfl mB (by rfl) ?_ | refine u3 rfl k7 j7 rfl rfl (q8 mB (s6 (by omega))) ?_
  first | refine C8 rfl k7 j7 rfl mB (by rfl) ?_ | refine D6 rfl k7 j7 rfl mB (by rfl) ?_ | refine u3 rfl k7 j7 rfl rfl (q8 mB (s6 (by omega))) ?_
  refine cz8 (F := LstV.row x) m1 (List.mem_map.2 ⟨x, hx, rfl⟩) (cz8 (F := LstV.row (leastV f (l.take k))) m2 (List.mem_map.2 ⟨_, hmem, rfl⟩) (V9 (vs := [x.v, (leastV f (l.take k)).v]) (cap := []) mQ rfl rfl rfl (lF x (leastV f (l.take k)) (hs x hx) (hs _ hmem)) l6 ⟨m1, m0, tK⟩ fun _ _ => ?_)); refine z8 rfl rfl rfl (b8 ?_)
  first | refine k8 rfl (fun hb2 => ?_) (fun hb2 => ?_) | refine d9 rfl (fun hb2 => ?_) (fun hb2 => ?_)
  ·have hb2' := hb2; try simp at hb2'
   rw [if_pos hb2] at hlt; refine i4 ?_
   first | refine C8 rfl k7 j7 rfl mB (by rfl) ?_ | refine D6 rfl k7 j7 rfl mB (by rfl) ?_ | refine u3 rfl k7 j7 rfl rfl (q8 mB (s6 (by omega))) ?_
   refine u0 rfl rfl (.swap _ _ _) j7 (by rfl) (by rfl) ?_; refine d6 (u7 (d4 (i4 ?_))); refine v6 _ rfl rfl rfl rfl r6 ?_; refine b7 rfl (d6 ?_); refine again _ (k + 1) (by show k + 1 ≤ l.length; omega) (D5 (by omega)) mC ?_ ⟨m2, m3, tK⟩; show [(gB, Obj.cells (El.cells (leastV f (l.take (k + 1)))).toArray u4 (0, 0)), _].Sublist _; rw [hlt]; exact (List.sublist_cons_self _ _).cons_cons _
  have hb2' := hb2; try simp at hb2'
  rw [if_neg hb2] at hlt; refine d8 (u7 (d4 (i4 ?_))); refine v6 _ rfl rfl rfl rfl r6 ?_; refine b7 rfl (d6 ?_); refine again _ (k + 1) (by show k + 1 ≤ l.length; omega) (D5 (by omega)) mC ?_ ⟨m2, m3, tK⟩; show [(gB, Obj.cells (El.cells (leastV f (l.take (k + 1)))).toArray u4 (0, 0)), _].Sublist _; rw [hlt]; exact List.sublist_cons_self _ _
 have hb1' := hb1; try simp at hb1'
 have hk2 : k = l.length := by omega
 subst hk2; refine s9 (E4 (u6 (d4 (c7 ?_))))
 first | refine C8 rfl k7 j7 rfl mB (by rfl) ?_ | refine D6 rfl k7 j7 rfl mB (by rfl) ?_ | refine u3 rfl k7 j7 rfl rfl (q8 mB (s6 (by omega))) ?_
 refine u0 rfl rfl M6 j7 (by rfl) (by rfl) ?_; refine b8 (l4 ?_); refine lL () rfl rfl k7 j7 rfl m0 (by rw [List.take_length]; rfl) rfl tK nK tK
theorem R3 (x : LstV) (m : Mk) (hc : 0 ≤ x.1 ∧ x.1 ≤ 1000000) (hl : x.2.l.length ≤ 1000000) :
    Meets prog Z5 [x.v, .agg #[int m.1, int m.2.1, str m.2.2]] { LI := [x.row], inv := fun o : OutC => (m :: x.2.l).length ≤ o.2, val := fun o => LstV.v (if m.1 = 3 then x.1 else x.1 + 1, ⟨o.1, o.2, m :: x.2.l⟩), LO := fun o => [Row o.1 (rows (m :: x.2.l))] } := by
 unfold LstV.v LstV.row; refine i3 rH rfl q6 fun w0 => c7 (aJ rfl rfl fun gB => aJ rfl rfl fun gB => y9 rfl (fun _ => H5 _) fun gA => ?_); refine b8 (c8 ?_); refine R6 ([]) (_) l6 9 [8] mixed (by decide) (by decide) (by decide) rfl rfl rfl ?_
 apply q9 _ rfl rfl rfl
 ·intro w1
  first | refine b3 ⟨_, 0, none⟩ rfl rfl A3 rfl ?_ | refine b3 _ rfl rfl A3 rfl ?_
  refine d6 ?_; exact l3 rfl
 apply q9 _ rfl rfl rfl
 ·intro w1
  first | refine b6 rfl a9 rfl (j4 mB rfl) ?_ | refine b6 rfl a9 rfl (i5 mB rfl) ?_ | refine b6 rfl a9 rfl (i9 mB (d7 (by omega) rfl)) ?_ | refine b6 rfl a9 rfl (i7 mB (rows_get (by omega) rfl)) ?_
  refine d6 ?_; exact l3 rfl
 apply q9 _ rfl rfl rfl
 ·intro w1
  first | refine C8 rfl j0 c6 rfl mB (by rfl) ?_ | refine D6 rfl j0 c6 rfl mB (by rfl) ?_ | refine u3 rfl j0 c6 rfl rfl (q8 mB (s6 (by omega))) ?_
  refine d6 ?_; exact l3 rfl
 refine lT ⟨Nat, fun _ => True, fun g => .slice (k5 g) 1 1, fun g => [Row (k5 g) (rows [m])]⟩ rfl rfl rfl ?_ ?_
 ·intro w1; refine j8 _ rfl rfl (fun _ => r8 ..) fun gS => d6 (R5 (rows [m]) ⟨[], List.append_nil _⟩ ?_); exact X3 gS tK rfl ⟨m0, tK⟩
 apply q9 _ rfl rfl rfl
 ·intro w1
  first | refine b3 ⟨_, 1, none⟩ rfl rfl z9 rfl ?_ | refine b3 _ rfl rfl z9 rfl ?_
  refine d6 ?_; exact l3 rfl
 apply q9 _ rfl rfl rfl
 ·intro w1
  first | refine b6 rfl i6 rfl (j4 mB rfl) ?_ | refine b6 rfl i6 rfl (i5 mB rfl) ?_ | refine b6 rfl i6 rfl (i9 mB (d7 (by omega) rfl)) ?_ | refine b6 rfl i6 rfl (i7 mB (rows_get (by omega) rfl)) ?_
  refine d6 ?_; exact l3 rfl
 refine lT ⟨OutC, fun o => x.2.l.length + 1 ≤ o.2, fun o => .slice o.1 (x.2.l.length + 1) o.2, fun o => [Row o.1 (rows (m :: x.2.l))]⟩ rfl rfl rfl ?_ ?_
 ·intro g1 _; intro w1; refine gz4 (x.2.l.length + 1) (rows (m :: x.2.l)) H4 rfl rfl rfl m0 (O9 [m]) (Src.row (news := rows x.2.l) m1 (O9 _) (aW _) (by decide)) (by omega) rfl (by unfold maxLen; omega) (by omega) fun A' c' hc' => ?_; refine d6 ?_; exact X3 (A', c') hc' rfl ⟨m0, tK⟩
 refine lT ⟨OutC, fun o => x.2.l.length + 1 ≤ o.2, fun o => .agg #[int x.1, .slice o.1 (x.2.l.length + 1) o.2], fun o => [Row o.1 (rows (m :: x.2.l))]⟩ rfl rfl rfl ?_ ?_
 ·intro o ho; intro w1; refine A9 [(0, int x.1), (1, .slice o.1 (x.2.l.length + 1) o.2)] rfl rfl (fun _ => sX ..) (d6 ?_); exact X3 o ho rfl ⟨m0, tK⟩
 refine sB ⟨Nat, fun _ => True, fun g => .pointer (k5 g), fun _ => [], fun g => [(g, Obj.cells #[int 0, .slice none 0 0] u4 (0, 0))]⟩ rfl rfl rfl ?_ ?_
 ·intro w1; refine y9 rfl (fun _ => H5 _) fun gA => d6 ?_; exact X2 gA tK (fun _ => rfl) (.refl _) tK
 refine E8 ⟨rfl, ?_⟩; intro g1 _ o1 ho1 o ho g5 _; refine u0 rfl rfl M6 j7 (by rfl) (by rfl) ?_; refine b8 (c8 (c7 ?_))
 first | refine b3 ⟨_, 0, none⟩ rfl rfl j9 rfl ?_ | refine b3 _ rfl rfl j9 rfl ?_
 first | refine b6 rfl a9 rfl (i5 mB rfl) ?_ | refine b6 rfl a9 rfl (j4 mB rfl) ?_ | refine b6 rfl a9 rfl (i9 mB (d7 (by omega) rfl)) ?_ | refine b6 rfl a9 rfl (i7 mB (rows_get (by omega) rfl)) ?_
 refine y5 rfl rfl rfl (b8 ?_)
 first | refine k8 rfl (fun hb1 => ?_) (fun hb1 => ?_) | refine d9 rfl (fun hb1 => ?_) (fun hb1 => ?_)
 ·have hb1' := hb1; try simp at hb1'
  rw [if_neg hb1]; refine i4 ?_
  first | refine b3 ⟨_, 0, none⟩ rfl rfl A3 rfl ?_ | refine b3 _ rfl rfl A3 rfl ?_
  first | refine b6 rfl a9 rfl (i5 mB rfl) ?_ | refine b6 rfl a9 rfl (j4 mB rfl) ?_ | refine b6 rfl a9 rfl (i9 mB (d7 (by omega) rfl)) ?_ | refine b6 rfl a9 rfl (i7 mB (rows_get (by omega) rfl)) ?_
  refine v6 _ rfl rfl rfl rfl r6 ?_
  first | refine b3 ⟨_, 0, none⟩ rfl rfl A3 rfl ?_ | refine b3 _ rfl rfl A3 rfl ?_
  refine A4 rfl rfl M6 J2 (by rfl) (by rfl) (n7 ?_)
  first | refine C8 rfl k7 j7 rfl mB (by rfl) ?_ | refine D6 rfl k7 j7 rfl mB (by rfl) ?_ | refine u3 rfl k7 j7 rfl rfl (q8 mB (s6 (by omega))) ?_
  refine u0 rfl rfl (.swap _ _ _) j7 (by rfl) (by rfl) ?_; refine b8 (l4 ?_); refine lL o rfl rfl k7 j7 rfl m0 rfl rfl ho nK ⟨m0, tK⟩
 have hb1' := hb1; try simp at hb1'
 rw [if_pos (Classical.not_not.1 hb1)]; refine d8 (d4 (c7 ?_))
 first | refine C8 rfl k7 j7 rfl mB (by rfl) ?_ | refine D6 rfl k7 j7 rfl mB (by rfl) ?_ | refine u3 rfl k7 j7 rfl rfl (q8 mB (s6 (by omega))) ?_
 refine u0 rfl rfl (.swap _ _ _) j7 (by rfl) (by rfl) ?_; refine b8 (l4 ?_); refine lL o rfl rfl k7 j7 rfl m0 rfl rfl ho nK ⟨m0, tK⟩
end Go.Proofs.YtpfbbggmcbhboaaGreatDoor
end
