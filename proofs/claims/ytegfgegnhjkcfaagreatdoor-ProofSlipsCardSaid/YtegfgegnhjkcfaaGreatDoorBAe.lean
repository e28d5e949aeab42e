/- Texts of this claim, one behind another. -/
import Derived.Laws.Rows
import Derived.Deep.AppendSrc
import Derived.Deep.Upon
import Derived.Test.YtegfgegnhjkcfaaGreatDoorBAd
set_option linter.unusedVariables false
set_option linter.unusedSimpArgs false
section
namespace Go.W
open Go Go.RowKit
section
variable {c : Cx} {fr : Fr} {hp : Hp} {L : List Fact}
theorem Z4 {β : Type} {k : Con β} {fn : Func} {w0 : World} (x : β) {t : Tmp} {ty e : TypeId} {g n : Nat} {cs : Array Value} {fz : Nat × Nat} (hres : fn.results = #[.cell t ty]) (hv : lk fr t = some (.pointer (j4 g))) (ht : IsR c.P ty) (hz : Sz c.P ty n) (hn : cs.size = n)
    (hm : (g, Obj.cells cs e fz) ∈ hp) (hk : k.val x = .agg cs) (hb : c.b = k.entry w0) (hi : k.inv x) (h2 : (k.hpO x).Sublist hp) (h3 : LSub L (k.LO x)) (hD : c.D = [] := by rfl) : HQ c (bodyPost c.P fn (k.post w0)) .ret fr hp L :=
  V9 x (fun a w ha hw => by
    obtain ⟨dd, ht, hr⟩ := ht; have h1 := hw.own _ hm; simp only at h1
    have hl : (loadVar ty ⟨g, 0, none⟩).run c.P w = .ok (.agg cs) w := by
      have hagg : (isAgg ty).run c.P w = .ok true w := by
        unfold isAgg; rw [Sem.run_bind, run_underlying ht w]
        cases dd <;> simp_all [TypeDesc.isRow]
      have hc := run_loadCells_list (P := c.P) w ⟨g, 0, none⟩ cs.toList (fun j u hu => by rw [dB, Nat.zero_add]; simp at hu; simp [World.cell?, h1, hu]); have hs := R5 hz w; simp only [loadVar, Sem.run_bind, hagg, Result.andThen_ok, if_true, hs, ← hn]; have e : cs.size = cs.toList.length := by simp
      rw [e, hc]
      simp
    have hv' := ha.at_ _ _ hv; rw [hk]; unfold results; rw [hres]; have hv2 : a.tmps[t]?.getD undef = .pointer (j4 g) := by simpa using hv'
    simp [hv2, asAddr, hl]) hb hi h2 h3 hD
theorem t6 {β : Type} {k : Con β} {fn : Func} {w0 : World} (x : β) {t u : Tmp} {ty e : TypeId} {g n : Nat} {cs : Array Value} {fz : Nat × Nat} {v2 : Value} (hres : fn.results = #[.cell t ty, .tmp u]) (hv : lk fr t = some (.pointer (j4 g))) (hv2 : lk fr u = some v2) (ht : IsR c.P ty) (hz : Sz c.P ty n) (hn : cs.size = n)
    (hm : (g, Obj.cells cs e fz) ∈ hp) (hk : k.val x = .tuple #[.agg cs, v2]) (hb : c.b = k.entry w0) (hi : k.inv x) (h2 : (k.hpO x).Sublist hp) (h3 : LSub L (k.LO x)) (hD : c.D = [] := by rfl) : HQ c (bodyPost c.P fn (k.post w0)) .ret fr hp L :=
  V9 x (fun a w ha hw => by
    obtain ⟨dd, ht, hr⟩ := ht; have h1 := hw.own _ hm; simp only at h1
    have hl : (loadVar ty ⟨g, 0, none⟩).run c.P w = .ok (.agg cs) w := by
      have hagg : (isAgg ty).run c.P w = .ok true w := by
        unfold isAgg; rw [Sem.run_bind, run_underlying ht w]
        cases dd <;> simp_all [TypeDesc.isRow]
      have hc := run_loadCells_list (P := c.P) w ⟨g, 0, none⟩ cs.toList (fun j u hu => by rw [dB, Nat.zero_add]; simp at hu; simp [World.cell?, h1, hu]); have hs := R5 hz w; simp only [loadVar, Sem.run_bind, hagg, Result.andThen_ok, if_true, hs, ← hn]; have e : cs.size = cs.toList.length := by simp
      rw [e, hc]
      simp
    have hv' := ha.at_ _ _ hv; have hv2' := ha.at_ _ _ hv2; rw [hk]; unfold results; rw [hres]; have h5 : a.tmps[t]?.getD undef = .pointer (j4 g) := by simpa using hv'
    have h6 : a.tmps[u]?.getD undef = v2 := by simpa using hv2'
    simp [h5, h6, asAddr, hl]) hb hi h2 h3 hD
end
section
variable {c : Cx} {Q : Exit → Act → World → Prop} {fr : Fr} {hp : Hp} {L : List Fact} {ops : Array Oper} {rest : List Oper}
variable {d : Tmp} {ty : TypeId} {pos : String} {af : Array Edge}
theorem z2 {t e : TypeId} {x : Operand} {g : Nat} {cs : Array Value} {fz : Nat × Nat} {n : Nat} (hd : Nat.blt d c.n = true) (ht' : IsR c.P t) (hz' : Sz c.P t n) (hx : ev fr x = some (.pointer (j4 g))) (h : Blk g (Obj.cells cs e fz) ∈ L) (hn : cs.size = n)
    (k : HL c ops Q rest ((d, .agg cs) :: fr) hp L) : HL c ops Q (⟨some d, .load t x, ty, pos, af, none⟩ :: rest) fr hp L :=
  r8 (cs := cs.toList) hd ht' hz' hx (by simpa using hn) (az5 h (fun i u hu => by simpa using hu)) k
theorem tB {t e : TypeId} {x y : Operand} {sz bytes n m cp : Nat} {A B : Option Addr} {olds news : List Value} (n' : Nat) (xs' : List Value) (el : ElT c.P t e sz bytes) (hd : Nat.blt d c.n = true)
    (hx : ev fr x = some (.slice A n n)) (hy : ev fr y = some (.slice B m cp)) (hA : Row A olds ∈ L) (hlo : olds.length = n * sz) (hs : Src c.b hp L B m sz news) (hn' : n + m = n') (hxs : olds ++ news = xs') (hn : n' ≤ maxLen) (hby : n' * bytes ≤ 140737488355328)
    (k : ∀ A' cap', n' ≤ cap' → HL c ops Q rest ((d, .slice A' n' cap') :: fr) hp (Row A' xs' :: L)) :
    HL c ops Q (⟨some d, .call ⟨.builtin .append, #[x, y], #[t, t]⟩, ty, pos, af, none⟩ :: rest) fr hp L :=
  kL rfl rfl hd fun a w ha hw => by
    subst hn'; subst hxs; obtain ⟨i, z, hi, hz, hsz, hb, hzs⟩ := el.i; have hrow := hw.fs _ hA
    have hgs : Go.Src c.P i.size t (.slice B m cp) m news w := by
      rcases hs.2.2 with ⟨rfl, rfl⟩ | h
      · have : news = [] := List.eq_nil_of_length_eq_zero (by simpa using hs.1)
        subst this; exact Go.Src.ofNil w el.u cp
      obtain ⟨ad, rfl, hc⟩ := h w hw; exact Go.Src.ofSlice w el.u ad m cp news (by rw [hsz]; exact hs.1) hc hs.2.1
    by_cases hm : m = 0
    · subst hm
      have : news = [] := List.eq_nil_of_length_eq_zero (by simpa using hs.1); subst this; refine ⟨.slice A n n, w, hp, Row A (olds ++ []) :: L, ?_, hw.weak (.refl _) ?_ |>.add (by simpa using hrow) (fun p hp => by simpa using hw.ap _ hA p hp) (fun k hk => hw.al _ hA k (by simpa using hk)), k A n (Nat.le_refl _)⟩
      · have := run_append_nothing w t t ty e i el.u hi A n n (Nat.le_refl _) (.slice B 0 cp) hgs
        simp only [execOp, resolve, invoke, builtin, Sem.run_bind, Sem.run_pure, Result.andThen_ok, List.map_toArray, List.map_cons, List.map_nil, ha.ev hx, ha.ev hy, this]
      exact fun _ h => h
    have hold : (Builtin.firstCells i.size n (.slice A n n)).run c.P w.drew = .ok olds.toArray w.drew := by
      cases A with
      | none =>
        have : olds = [] := by
          cases olds with
          | nil => rfl
          | cons u r => obtain ⟨ad, e, _⟩ := hrow 0 u rfl; cases e
        subst this
        have hn0 : n = 0 := by
          have := el.pos; simp only [List.length_nil] at hlo
          rcases Nat.eq_zero_or_pos n with h | h
          · exact h
          have := Nat.mul_pos h this; omega
        subst hn0; exact run_firstCells_none _ _ _ _ _
      | some ad => exact run_firstCells_some _ _ _ _ _ _ olds (by rw [hsz]; exact hlo) (fun j u hu => by
          obtain ⟨ad', e, hc⟩ := hrow j u hu
          cases e
          simpa using hc)
    have hrun := run_append_grow_src w t t ty e i z el.u hi hz A n n olds hold (.slice B m cp) m news hgs (by omega) (by unfold maxLen at hn; omega) (growslice_fits (by omega) (by rw [hb]; exact hby)); have h2 := (hw.quiet (sM w)).alloc (.cells ((olds ++ news).toArray ++ Builtin.zeroCells z.cells (grownCap w (n + m) n e - (n + m))) e (0, 0)); refine ⟨_, w.drew.alloc (.cells ((olds ++ news).toArray ++ Builtin.zeroCells z.cells (grownCap w (n + m) n e - (n + m))) e), hp, Row (some ⟨w.heap.size, 0, none⟩) (olds ++ news) :: L, ?_, dO h2 ?_, k (some ⟨w.heap.size, 0, none⟩) (grownCap w (n + m) n e) (grownCap_ge w (n + m) n e)⟩
    · simp only [execOp, resolve, invoke, builtin, Sem.run_bind, Sem.run_pure, Result.andThen_ok, List.map_toArray, List.map_cons, List.map_nil, ha.ev hx, ha.ev hy, hrun]
    exact ⟨(Builtin.zeroCells z.cells (grownCap w (n + m) n e - (n + m))).toList, by simp⟩
end
section
variable {κ : Type} [DecidableEq κ] {enc : κ → Value} {kt e : TypeId}
variable {c : Cx} {Q : Exit → Act → World → Prop} {fr : Fr} {hp : Hp} {L : List Fact} {ops : Array Oper} {rest : List Oper}
variable {d : Tmp} {ty : TypeId} {pos : String} {af : Array Edge}
theorem aq5 {t : TypeId} {x y : Operand} {g : Nat} {l : List (Ment κ)} {clk : Nat} {k : κ} (z v : Value) (b : Bool) (K : KeyC c.P kt enc) (hd : Nat.blt d c.n = true) (ht : c.P.underlying t = some (.map kt e)) (hx : ev fr x = some (.map (some g))) (hy : ev fr y = some (enc k)) (hm : MapAt c.b hp L g (mapO enc l clk))
    (hz : ∀ w, (zeroValue e).run c.P w = .ok z w) (hv : (getM l k).getD z = v) (hb : (getM l k).isSome = b) (kk : HL c ops Q rest ((d, .tuple #[v, .bool b]) :: fr) hp L) : HL c ops Q (⟨some d, .lookup t x y true, ty, pos, af, none⟩ :: rest) fr hp L := by
  subst hv; subst hb
  cases hg : getM l k with
  | none => rw [hg] at kk; exact aq6 K hd ht hx hy hm hz hg kk
  | some u => rw [hg] at kk; exact bx2 K hd ht hx hy hm hg kk
theorem bx7 {l : List (Ment κ)} {k : κ} {v : Value} {clk : Nat} {p : Ment κ} (h : p ∈ putM l k v clk) : (p.1 = k ∧ p.2.1 = v) ∨ p ∈ l := by
  unfold putM at h
  cases hf : findM k l 0 with
  | none =>
    rw [hf] at h
    rcases List.mem_append.1 h with h | h
    · exact .inr h
    simp at h; subst h; exact .inl ⟨rfl, rfl⟩
  | some q =>
    obtain ⟨i, u⟩ := q; rw [hf] at h; simp only at h; obtain ⟨n, hn⟩ := List.getElem?_of_mem h; rw [List.getElem?_modify] at hn
    cases hl : l[n]? with
    | none => rw [hl] at hn; cases hn
    | some r =>
      rw [hl] at hn; simp only [Option.map_eq_map, Option.map_some, Option.some.injEq] at hn
      split at hn
      · subst hn; exact .inl ⟨rfl, rfl⟩
      subst hn; exact .inr (List.mem_of_getElem? hl)
theorem cq1 {l : List (Ment κ)} {k : κ} {v : Value} (h : getM l k = some v) : ∃ p ∈ l, p.1 = k ∧ p.2.1 = v := by
  unfold getM at h
  cases hf : findM k l 0 with
  | none => rw [hf] at h; cases h
  | some q =>
    obtain ⟨i, u⟩ := q; rw [hf] at h; simp only [Option.map_some, Option.some.injEq] at h; subst h; obtain ⟨m, p, _, h2, h3, h4⟩ := sI l 0 i u hf; exact ⟨p, List.mem_of_getElem? h2, h3, h4⟩
end
theorem vB {α : Type} {l' : List α} : ∀ {l : List α}, (∀ p : α → Bool, l'.countP p ≤ l.countP p) → ∃ r, l.Perm (l' ++ r) := by
  classical
  induction l' with
  | nil => intro l _; exact ⟨l, .refl _⟩
  | cons a t ih =>
    intro l h; have h1 := h (fun x => decide (x = a)); rw [List.countP_cons_of_pos (by simp)] at h1
    have ha : a ∈ l := by
      have : 0 < l.countP (fun x => decide (x = a)) := by omega
      obtain ⟨x, hx, e⟩ := List.countP_pos_iff.1 this
      simp at e
      exact e ▸ hx
    have hp := List.perm_cons_erase ha
    obtain ⟨r, hr⟩ := ih (l := l.erase a) (fun p => by
      have h2 := h p; have h3 := hp.countP_eq p; rw [List.countP_cons] at h2 h3
      omega)
    exact ⟨r, hp.trans (hr.cons a)⟩
theorem WI.count {b : Bx} {w : World} {hp hp' : Hp} {L L' : List Fact} (h : WI b w hp L) (hc : ∀ p : Nat × Obj → Bool, hp'.countP p ≤ hp.countP p) (h2 : ∀ F ∈ L', F ∈ L) : WI b w hp' L' := by
  obtain ⟨r, hr⟩ := vB hc; exact (h.perm hr).weak (List.sublist_append_left _ _) h2
section
variable {c : Cx} {Q : Exit → Act → World → Prop} {fr : Fr} {hp : Hp} {L : List Fact} {ops : Array Oper} {rest : List Oper}
theorem hT {β : Type} (s : Sta β) (z : β) (hz : s.inv z) (h1 : FrSub fr (s.fr z)) (h2 : ∀ p : Nat × Obj → Bool, (s.hp z).countP p ≤ hp.countP p) (h3 : LSub L (s.L z)) : HQ c (Exit.then (s.holds c) Q) .normal fr hp L :=
  fun _ _ ha hw => ⟨z, hz, ha.sub h1, hw.count h2 h3.mem⟩
end
section
variable {c : Cx} {Q : Exit → Act → World → Prop} {fr : Fr} {hp : Hp} {L : List Fact} {ops : Array Oper} {rest : List Oper}
theorem mS {b : Bx} {w : World} {g : Nat} {o : Obj} (h : WI b w ((g, o) :: hp) L) : WI b w hp (Blk g o :: L) := h.letgo (h.own (g, o) (by simp)) (fun k hk => hk)
theorem C9 {g : Nat} {o : Obj} {x : Code} (k : HC c x Q fr hp (Blk g o :: L)) : HC c x Q fr ((g, o) :: hp) L := fun a w ha hw => k a w ha (mS hw)
theorem ax6 {g : Nat} {o : Obj} (k : HL c ops Q rest fr hp (Blk g o :: L)) : HL c ops Q rest fr ((g, o) :: hp) L := fun a w ha hw => k a w ha (mS hw)
end
def Facts (Fs : List Fact) : Fact where
  P w := ∀ F ∈ Fs, F.P w
  fp k := ∃ F ∈ Fs, F.fp k
  st w w' h hP F hF := F.st w w' (fun k hk => h k ⟨F, hF, hk⟩) (hP F hF)
  lt w hP k hk := by obtain ⟨F, hF, hk⟩ := hk; exact F.lt w (hP F hF) k hk
section
variable {c : Cx} {Q : Exit → Act → World → Prop} {fr : Fr} {hp : Hp} {L : List Fact} {ops : Array Oper} {rest : List Oper}
theorem zM {b : Bx} {w : World} {Fs : List Fact} {F : Fact} (h : Facts Fs ∈ L) (hF : F ∈ Fs) (hw : WI b w hp L) : WI b w hp (F :: L) := R3 hw (hw.fs _ h F hF) (fun k hk => ⟨_, h, F, hF, hk⟩)
theorem wB {Fs : List Fact} {F : Fact} (h : Facts Fs ∈ L) (hF : F ∈ Fs) (k : HL c ops Q rest fr hp (F :: L)) : HL c ops Q rest fr hp L := fun a w ha hw => k a w ha (zM h hF hw)
theorem hq_pick {Fs : List Fact} {F : Fact} {x : Exit} (h : Facts Fs ∈ L) (hF : F ∈ Fs) (k : HQ c Q x fr hp (F :: L)) : HQ c Q x fr hp L := fun a w ha hw => k a w ha (zM h hF hw)
theorem qQ {b : Bx} {w : World} {Fs : List Fact} (h : ∀ F ∈ Fs, F ∈ L ∨ ∃ Gs, Facts Gs ∈ L ∧ F ∈ Gs) (hw : WI b w hp L) : WI b w hp (Facts Fs :: L) :=
  R3 hw (fun F hF => by
    rcases h F hF with h1 | ⟨Gs, h1, h2⟩
    · exact hw.fs _ h1
    · exact hw.fs _ h1 F h2) (fun k hk => by
    obtain ⟨F, hF, hk⟩ := hk
    rcases h F hF with h1 | ⟨Gs, h1, h2⟩
    · exact ⟨F, h1, hk⟩
    exact ⟨_, h1, F, h2, hk⟩)
theorem cj3 {Fs : List Fact} (h : ∀ F ∈ Fs, F ∈ L ∨ ∃ Gs, Facts Gs ∈ L ∧ F ∈ Gs) (k : HL c ops Q rest fr hp (Facts Fs :: L)) : HL c ops Q rest fr hp L := fun a w ha hw => k a w ha (qQ h hw)
theorem cj8 {Fs : List Fact} {x : Code} (h : ∀ F ∈ Fs, F ∈ L ∨ ∃ Gs, Facts Gs ∈ L ∧ F ∈ Gs) (k : HC c x Q fr hp (Facts Fs :: L)) : HC c x Q fr hp L := fun a w ha hw => k a w ha (qQ h hw)
theorem hB {Fs : List Fact} {x : Exit} (h : ∀ F ∈ Fs, F ∈ L ∨ ∃ Gs, Facts Gs ∈ L ∧ F ∈ Gs) (k : HQ c Q x fr hp (Facts Fs :: L)) : HQ c Q x fr hp L := fun a w ha hw => k a w ha (qQ h hw)
end
section
variable {c : Cx} {Q : Exit → Act → World → Prop} {fr : Fr} {hp : Hp} {L : List Fact} {ops : Array Oper} {rest : List Oper}
theorem A3 {e : Exit} {α : Type} [El α] (k : HQ c Q e fr hp (Row none (rows ([] : List α)) :: L)) : HQ c Q e fr hp L := zX (F := Row none (rows ([] : List α))) (fun w _ => Row.nil _ w) (fun k hk => by obtain ⟨_, e, _⟩ := hk; cases e) k
theorem ax5 {α : Type} [El α] (k : HL c ops Q rest fr hp (Row none (rows ([] : List α)) :: L)) : HL c ops Q rest fr hp L := zY (F := Row none (rows ([] : List α))) (fun w _ => Row.nil _ w) (fun k hk => by obtain ⟨_, e, _⟩ := hk; cases e) k
theorem mE {e : Exit} (k : HQ c Q e fr hp (Row none [] :: L)) : HQ c Q e fr hp L := zX (F := Row none []) (fun w _ => Row.nil _ w) (fun k hk => by obtain ⟨_, e, _⟩ := hk; cases e) k
end
end Go.W
end
section
namespace Go.Proofs.YtegfgegnhjkcfaaGreatDoor
open Go Go.W
set_option maxRecDepth 20000
attribute [local irreducible] HL HC HQ HB Row Rows2 Blk Facts
theorem u0 {α : Type} [Inhabited α] (l : List α) (k : Nat) (h : k < l.length) : l.take (k + 1) = l.take k ++ [l.getD k default] := by
  rw [List.take_succ_eq_append_getElem h]
  simp [List.getD_eq_getElem?_getD, h]
theorem hQ {α : Type} {a b : List α} {k : Nat} (h : a.take k = b.take k) (ha : a.length ≤ k) (hb : b.length ≤ k) : a = b := by
  rwa [List.take_of_length_le ha, List.take_of_length_le hb] at h
theorem bz6 {α : Type} [Inhabited α] {a b : List α} {k : Nat} (h : ¬ a.getD k default = b.getD k default) : ¬ a = b := fun e => h (by rw [e])
theorem iV {A B : Option Addr} {ca cb : Nat} (a b : List Str) (ha : a.length ≤ 9223372036854775806) :
    Meets Tryz.prog F.aM [.slice A a.length ca, .slice B b.length cb] { LI := [Row A (rows a), Row B (rows b)], val := fun _ : Unit => .bool (decide (a = b)) } := by
 refine c4 F.pU rfl l5 fun w0 => ?_; refine a9 (a8 rfl (a7 (b5 (a9 (a5 rfl ?_))))); refine j9 rfl T.u5 rfl (a5 rfl (j9 rfl T.u5 rfl ?_)); refine u9 rfl rfl rfl (a7 ?_)
 first | refine i8 rfl (fun hb1 => ?_) (fun hb1 => ?_) | refine b9 rfl (fun hb1 => ?_) (fun hb1 => ?_)
 ·have hb1' := hb1; try simp at hb1'
  have hb1 : ¬ a = b := fun e => by subst e; exact hb1 rfl
  refine a9 (a8 rfl (a7 (s6 ?_))); exact ret1 () rfl (by rw [decide_eq_false hb1]; rfl) rfl trivial (.refl _) trivial
 have hb1' := hb1; try simp at hb1'
 have hb1 : a.length = b.length := by omega
 refine c3 (b6 (b5 (a9 (a8 rfl (a7 (j0 ?_)))))); refine s9 (β := Nat) ⟨fun k => k ≤ a.length ∧ a.take k = b.take k, fun k => [(0, .slice A a.length ca), (1, .slice B b.length cb), (5, int k)], fun _ => [], fun _ => [Row A (rows a), Row B (rows b)]⟩ (fun k => a.length - k) 0 ⟨Nat.zero_le _, rfl⟩ mC (.refl _) ⟨m0, m1, trivial⟩ fun k hk => ?_; obtain ⟨hk, ht⟩ := hk; refine b5 (a9 (a5 rfl (a5 rfl ?_))); refine j9 rfl T.u5 rfl ?_; refine r6 rfl rfl rfl (a7 ?_)
 first | refine i8 rfl (fun hb2 => ?_) (fun hb2 => ?_) | refine b9 rfl (fun hb2 => ?_) (fun hb2 => ?_)
 ·have hb2' := hb2; try simp at hb2'
  have hb2 : k < a.length := by omega
  refine c3 (b6 (b5 (j0 (b5 ?_)))); refine z6 8 mixed (by decide) (by decide) rfl rfl (j5 (fun w1 => a5 rfl (q_z rfl)) (j5 (fun w1 => a5 rfl (q_z rfl)) (j5 (fun w1 => r7 (α := Str) _ _ rfl T.u5 T.v8 rfl rfl rfl mB rfl (by omega) (by decide) (q_z rfl)) (j5 (fun w1 => a4 rfl T.j1 rfl (c5 mB (b4 (by omega) rfl)) (q_z rfl)) (j5 (fun w1 => a5 rfl (q_z rfl)) (j5 (fun w1 => a5 rfl (q_z rfl)) (j5 (fun w1 => r7 (α := Str) _ _ rfl T.u5 T.v8 rfl rfl rfl mB rfl (by omega) (by decide) (q_z rfl)) ?_))))))); refine j5 (fun w1 => a4 rfl T.j1 rfl (c5 mB (b4 (by omega) rfl)) (q_z rfl)) ?_; refine v6 ⟨rfl, ?_⟩; refine jO rfl rfl rfl (a7 ?_)
  first | refine i8 rfl (fun hb3 => ?_) (fun hb3 => ?_) | refine b9 rfl (fun hb3 => ?_) (fun hb3 => ?_)
  ·have hb3' := hb3; try simp at hb3'
   have hb3 : ¬ a = b := bz6 (a := a) (b := b) (k := k) hb3; refine a9 (a8 rfl (a7 (i6 (t5 (l6 (t5 ?_)))))); exact ret1 () rfl (by rw [decide_eq_false hb3]; rfl) rfl trivial (.refl _) trivial
  have hb3' := hb3; try simp at hb3'
  have hb3 : a.getD k default = b.getD k default := Classical.not_not.1 hb3; refine c3 (q9 (b6 (c6 (a5 rfl ?_)))); refine p7 _ rfl rfl rfl rfl l9 ?_; refine a8 rfl (b3 ?_); exact again _ (k + 1) ⟨by omega, by rw [u0 a k hb2, u0 b k (by omega), ht, hb3]⟩ (by first | omega | (simp only; omega)) mC (.refl _) ⟨m0, m1, trivial⟩
 have hb2' := hb2; try simp at hb2'
 have hb2 : k = a.length := by omega
 refine n5 (y6 (n4 (b6 (a9 (a8 rfl (a7 (i6 ?_))))))); exact ret1 () rfl (by rw [decide_eq_true (hQ ht (by omega) (by omega))]; rfl) rfl trivial (.refl _) trivial
theorem bT {A B : Option Addr} {ca cb : Nat} (a b : List Int) (ha : a.length ≤ 9223372036854775806) :
    Meets Tryz.prog F.kI [.slice A a.length ca, .slice B b.length cb] { LI := [Row A (rows a), Row B (rows b)], val := fun _ : Unit => .bool (decide (a = b)) } := by
 refine c4 F.vX rfl l5 fun w0 => ?_; refine a9 (a8 rfl (a7 (b5 (a9 (a5 rfl ?_))))); refine j9 rfl T.L8 rfl (a5 rfl (j9 rfl T.L8 rfl ?_)); refine u9 rfl rfl rfl (a7 ?_)
 first | refine i8 rfl (fun hb1 => ?_) (fun hb1 => ?_) | refine b9 rfl (fun hb1 => ?_) (fun hb1 => ?_)
 ·have hb1' := hb1; try simp at hb1'
  have hb1 : ¬ a = b := fun e => by subst e; exact hb1 rfl
  refine a9 (a8 rfl (a7 (s6 ?_))); exact ret1 () rfl (by rw [decide_eq_false hb1]; rfl) rfl trivial (.refl _) trivial
 have hb1' := hb1; try simp at hb1'
 have hb1 : a.length = b.length := by omega
 refine c3 (b6 (b5 (a9 (a8 rfl (a7 (j0 ?_)))))); refine s9 (β := Nat) ⟨fun k => k ≤ a.length ∧ a.take k = b.take k, fun k => [(0, .slice A a.length ca), (1, .slice B b.length cb), (5, int k)], fun _ => [], fun _ => [Row A (rows a), Row B (rows b)]⟩ (fun k => a.length - k) 0 ⟨Nat.zero_le _, rfl⟩ mC (.refl _) ⟨m0, m1, trivial⟩ fun k hk => ?_; obtain ⟨hk, ht⟩ := hk; refine b5 (a9 (a5 rfl (a5 rfl ?_))); refine j9 rfl T.L8 rfl ?_; refine r6 rfl rfl rfl (a7 ?_)
 first | refine i8 rfl (fun hb2 => ?_) (fun hb2 => ?_) | refine b9 rfl (fun hb2 => ?_) (fun hb2 => ?_)
 ·have hb2' := hb2; try simp at hb2'
  have hb2 : k < a.length := by omega
  refine c3 (b6 (b5 (j0 (b5 ?_)))); refine z6 8 mixed (by decide) (by decide) rfl rfl (j5 (fun w1 => a5 rfl (q_z rfl)) (j5 (fun w1 => a5 rfl (q_z rfl)) (j5 (fun w1 => r7 (α := Int) _ _ rfl T.L8 T.D8 rfl rfl rfl mB rfl (by omega) (by decide) (q_z rfl)) (j5 (fun w1 => a4 rfl T.a6 rfl (c5 mB (b4 (by omega) rfl)) (q_z rfl)) (j5 (fun w1 => a5 rfl (q_z rfl)) (j5 (fun w1 => a5 rfl (q_z rfl)) (j5 (fun w1 => r7 (α := Int) _ _ rfl T.L8 T.D8 rfl rfl rfl mB rfl (by omega) (by decide) (q_z rfl)) ?_))))))); refine j5 (fun w1 => a4 rfl T.a6 rfl (c5 mB (b4 (by omega) rfl)) (q_z rfl)) ?_; refine v6 ⟨rfl, ?_⟩; refine u9 rfl rfl rfl (a7 ?_)
  first | refine i8 rfl (fun hb3 => ?_) (fun hb3 => ?_) | refine b9 rfl (fun hb3 => ?_) (fun hb3 => ?_)
  ·have hb3' := hb3; try simp at hb3'
   have hb3 : ¬ a = b := bz6 (a := a) (b := b) (k := k) hb3; refine a9 (a8 rfl (a7 (i6 (t5 (l6 (t5 ?_)))))); exact ret1 () rfl (by rw [decide_eq_false hb3]; rfl) rfl trivial (.refl _) trivial
  have hb3' := hb3; try simp at hb3'
  have hb3 : a.getD k default = b.getD k default := Classical.not_not.1 hb3; refine c3 (q9 (b6 (c6 (a5 rfl ?_)))); refine p7 _ rfl rfl rfl rfl l9 ?_; refine a8 rfl (b3 ?_); exact again _ (k + 1) ⟨by omega, by rw [u0 a k hb2, u0 b k (by omega), ht, hb3]⟩ (by first | omega | (simp only; omega)) mC (.refl _) ⟨m0, m1, trivial⟩
 have hb2' := hb2; try simp at hb2'
 have hb2 : k = a.length := by omega
 refine n5 (y6 (n4 (b6 (a9 (a8 rfl (a7 (i6 ?_))))))); exact ret1 () rfl (by rw [decide_eq_true (hQ ht (by omega) (by omega))]; rfl) rfl trivial (.refl _) trivial
theorem O7 {A B : Option Addr} {ca cb : Nat} (a b : List Mk) (ha : a.length ≤ 9223372036854775806) :
    Meets Tryz.prog F.gX [.slice A a.length ca, .slice B b.length cb] { LI := [Row A (rows a), Row B (rows b)], val := fun _ : Unit => .bool (decide (a = b)) } := by
 refine c4 F.tR rfl l5 fun w0 => ?_; refine a9 (a8 rfl (a7 (b5 (a9 (a5 rfl ?_))))); refine j9 rfl T.j3 rfl (a5 rfl (j9 rfl T.j3 rfl ?_)); refine u9 rfl rfl rfl (a7 ?_)
 first | refine i8 rfl (fun hb1 => ?_) (fun hb1 => ?_) | refine b9 rfl (fun hb1 => ?_) (fun hb1 => ?_)
 ·have hb1' := hb1; try simp at hb1'
  have hb1 : ¬ a = b := fun e => by subst e; exact hb1 rfl
  refine a9 (a8 rfl (a7 (s6 ?_))); exact ret1 () rfl (by rw [decide_eq_false hb1]; rfl) rfl trivial (.refl _) trivial
 have hb1' := hb1; try simp at hb1'
 have hb1 : a.length = b.length := by omega
 refine c3 (b6 (b5 (a9 (a8 rfl (a7 (j0 ?_)))))); refine s9 (β := Nat) ⟨fun k => k ≤ a.length ∧ a.take k = b.take k, fun k => [(0, .slice A a.length ca), (1, .slice B b.length cb), (5, int k)], fun _ => [], fun _ => [Row A (rows a), Row B (rows b)]⟩ (fun k => a.length - k) 0 ⟨Nat.zero_le _, rfl⟩ mC (.refl _) ⟨m0, m1, trivial⟩ fun k hk => ?_; obtain ⟨hk, ht⟩ := hk; refine b5 (a9 (a5 rfl (a5 rfl ?_))); refine j9 rfl T.j3 rfl ?_; refine r6 rfl rfl rfl (a7 ?_)
 first | refine i8 rfl (fun hb2 => ?_) (fun hb2 => ?_) | refine b9 rfl (fun hb2 => ?_) (fun hb2 => ?_)
 ·have hb2' := hb2; try simp at hb2'
  have hb2 : k < a.length := by omega
  refine c3 (b6 (b5 (j0 (b5 ?_)))); refine z6 8 mixed (by decide) (by decide) rfl rfl (j5 (fun w1 => a5 rfl (q_z rfl)) (j5 (fun w1 => a5 rfl (q_z rfl)) (j5 (fun w1 => r7 (α := Mk) _ _ rfl T.j3 T.c7 rfl rfl rfl mB rfl (by omega) (by decide) (q_z rfl)) (j5 (fun w1 => r8 rfl T.j2 T.c7 rfl rfl (n3 mB (q8 (by omega))) (q_z rfl)) (j5 (fun w1 => a5 rfl (q_z rfl)) (j5 (fun w1 => a5 rfl (q_z rfl)) (j5 (fun w1 => r7 (α := Mk) _ _ rfl T.j3 T.c7 rfl rfl rfl mB rfl (by omega) (by decide) (q_z rfl)) ?_))))))); refine j5 (fun w1 => r8 rfl T.j2 T.c7 rfl rfl (n3 mB (q8 (by omega))) (q_z rfl)) ?_; refine v6 ⟨rfl, ?_⟩; refine D2 _ rfl rfl rfl (fun _ => T.wI ..) (fun _ => T.vL ..) ?_; refine a7 ?_
  first | refine i8 rfl (fun hb3 => ?_) (fun hb3 => ?_) | refine b9 rfl (fun hb3 => ?_) (fun hb3 => ?_)
  ·have hb3' := hb3; try simp at hb3'
   have hb3 : ¬ a = b := bz6 (a := a) (b := b) (k := k) hb3; refine a9 (a8 rfl (a7 (i6 (t5 (l6 (t5 ?_)))))); exact ret1 () rfl (by rw [decide_eq_false hb3]; rfl) rfl trivial (.refl _) trivial
  have hb3' := hb3; try simp at hb3'
  have hb3 : a.getD k default = b.getD k default := Classical.not_not.1 hb3; refine c3 (q9 (b6 (c6 (a5 rfl ?_)))); refine p7 _ rfl rfl rfl rfl l9 ?_; refine a8 rfl (b3 ?_); exact again _ (k + 1) ⟨by omega, by rw [u0 a k hb2, u0 b k (by omega), ht, hb3]⟩ (by first | omega | (simp only; omega)) mC (.refl _) ⟨m0, m1, trivial⟩
 have hb2' := hb2; try simp at hb2'
 have hb2 : k = a.length := by omega
 refine n5 (y6 (n4 (b6 (a9 (a8 rfl (a7 (i6 ?_))))))); exact ret1 () rfl (by rw [decide_eq_true (hQ ht (by omega) (by omega))]; rfl) rfl trivial (.refl _) trivial
abbrev OutC := Option Addr × Nat
def outSl {α : Type} [El α] (l : List α) : Con OutC := { inv := fun x => l.length ≤ x.2, val := fun x => .slice x.1 l.length x.2, LO := fun x => [Row x.1 (rows l)] }
end Go.Proofs.YtegfgegnhjkcfaaGreatDoor
end
section
namespace Go.Proofs.YtegfgegnhjkcfaaGreatDoor
open Go Go.W
set_option maxRecDepth 20000
attribute [local irreducible] HL HC HQ HB Row Rows2 Blk Facts
def dice (g : Nat) (A : Option Addr) (c : Nat) (nums : List Int) (s : Int × Int) : Nat × Obj := (g, .cells #[.slice A nums.length c, int s.1, .int .u64 s.2] T.kT (0, 0))
def DOK (nums : List Int) (s : Int × Int) : Prop := 0 ≤ s.1 ∧ s.1 ≤ nums.length ∧ 0 ≤ s.2 ∧ s.2 < 18446744073709551616
def diceCon {β : Type} (g : Nat) (A : Option Addr) (c : Nat) (nums : List Int) (s : Int × Int) (inv : β → Prop) (val : β → Value) (LO : β → List Fact) : Con ((Int × Int) × β) :=
  { hpI := [dice g A c nums s], LI := [Row A (rows nums)], inv := fun x => DOK nums x.1 ∧ inv x.2, val := fun x => val x.2, hpO := fun x => [dice g A c nums x.1], LO := fun x => LO x.2 }
theorem kJ {g : Nat} {A : Option Addr} {c : Nat} {nums : List Int} {s : Int × Int} (hn : nums.length ≤ 9223372036854775807) (hs : DOK nums s) :
    Meets Tryz.prog F.cZ [.pointer (j4 g)] (diceCon g A c nums s (fun z : Int => 0 ≤ z ∧ z < 18446744073709551616) (fun z => .int .u64 z) (fun _ => [])) := by
 obtain ⟨p, q⟩ := s; obtain ⟨h1, h2, h3, h4⟩ := hs; simp only at h1 h2 h3 h4; obtain ⟨pn, rfl⟩ := Int.eq_ofNat_of_zero_le h1; refine c4 F.rW rfl l5 fun w0 => ?_; refine a9 (a8 rfl (a7 (b5 ?_))); refine z6 11 mixed (by decide) (by decide) rfl rfl (j5 (fun w1 => a5 rfl (q_z rfl)) (j5 (fun w1 => a5 rfl (q_z rfl)) (j5 (fun w1 => i5 rfl rfl (q_z rfl)) ?_)))
 apply k7 _ rfl rfl rfl
 ·intro w1
  first | refine a3 ⟨_, 2, none⟩ rfl rfl T.i4 rfl ?_ | refine a3 _ rfl rfl T.i4 rfl ?_
  refine b3 ?_; exact i3 rfl
 apply k7 _ rfl rfl rfl
 ·intro w1
  first | refine a4 rfl T.p6 rfl (c8 mB rfl) ?_ | refine a4 rfl T.p6 rfl (b7 mB rfl) ?_ | refine a4 rfl T.p6 rfl (c5 mB (b4 (by omega) rfl)) ?_ | refine a4 rfl T.p6 rfl (b8 mB (rows_get (by omega) rfl)) ?_
  refine b3 ?_; exact i3 rfl
 refine j5 (fun w1 => a5 rfl (q_z rfl)) (j5 (fun w1 => i5 rfl rfl (q_z rfl)) ?_)
 apply k7 _ rfl rfl rfl
 ·intro w1
  first | refine a3 ⟨_, 2, none⟩ rfl rfl T.i4 rfl ?_ | refine a3 _ rfl rfl T.i4 rfl ?_
  refine b3 ?_; exact i3 rfl
 apply k7 _ rfl rfl rfl
 ·intro w1
  first | refine a4 rfl T.p6 rfl (c8 mB rfl) ?_ | refine a4 rfl T.p6 rfl (b7 mB rfl) ?_ | refine a4 rfl T.p6 rfl (c5 mB (b4 (by omega) rfl)) ?_ | refine a4 rfl T.p6 rfl (b8 mB (rows_get (by omega) rfl)) ?_
  refine b3 ?_; exact i3 rfl
 refine j5 (fun w1 => D2 _ rfl rfl rfl (fun _ => rfl) (fun _ => rfl) (q_z rfl)) (j5 (fun w1 => D2 _ rfl rfl rfl (fun _ => rfl) (fun _ => rfl) (q_z rfl)) ?_); refine v6 ⟨rfl, ?_⟩; refine i5 rfl rfl ?_
 first | refine a3 ⟨_, 2, none⟩ rfl rfl T.i4 rfl ?_ | refine a3 _ rfl rfl T.i4 rfl ?_
 refine n7 rfl rfl (by first | exact .refl _ | exact perm2 _ _ _ | exact perm3 _ _ _ _ | exact perm4 _ _ _ _ _) T.vA (by rfl) (by rfl) ?_; refine a7 (b5 ?_); refine z6 11 mixed (by decide) (by decide) rfl rfl (j5 (fun w1 => a5 rfl (q_z rfl)) (j5 (fun w1 => a5 rfl (q_z rfl)) (j5 (fun w1 => i5 rfl rfl (q_z rfl)) ?_)))
 apply k7 _ rfl rfl rfl
 ·intro w1
  first | refine a3 ⟨_, 2, none⟩ rfl rfl T.i4 rfl ?_ | refine a3 _ rfl rfl T.i4 rfl ?_
  refine b3 ?_; exact i3 rfl
 apply k7 _ rfl rfl rfl
 ·intro w1
  first | refine a4 rfl T.p6 rfl (c8 mB rfl) ?_ | refine a4 rfl T.p6 rfl (b7 mB rfl) ?_ | refine a4 rfl T.p6 rfl (c5 mB (b4 (by omega) rfl)) ?_ | refine a4 rfl T.p6 rfl (b8 mB (rows_get (by omega) rfl)) ?_
  refine b3 ?_; exact i3 rfl
 refine j5 (fun w1 => a5 rfl (q_z rfl)) (j5 (fun w1 => i5 rfl rfl (q_z rfl)) ?_)
 apply k7 _ rfl rfl rfl
 ·intro w1
  first | refine a3 ⟨_, 2, none⟩ rfl rfl T.i4 rfl ?_ | refine a3 _ rfl rfl T.i4 rfl ?_
  refine b3 ?_; exact i3 rfl
 apply k7 _ rfl rfl rfl
 ·intro w1
  first | refine a4 rfl T.p6 rfl (c8 mB rfl) ?_ | refine a4 rfl T.p6 rfl (b7 mB rfl) ?_ | refine a4 rfl T.p6 rfl (c5 mB (b4 (by omega) rfl)) ?_ | refine a4 rfl T.p6 rfl (b8 mB (rows_get (by omega) rfl)) ?_
  refine b3 ?_; exact i3 rfl
 refine j5 (fun w1 => D2 _ rfl rfl rfl (fun _ => rfl) (fun _ => rfl) (q_z rfl)) (j5 (fun w1 => D2 _ rfl rfl rfl (fun _ => rfl) (fun _ => rfl) (q_z rfl)) ?_); refine v6 ⟨rfl, ?_⟩; refine i5 rfl rfl ?_
 first | refine a3 ⟨_, 2, none⟩ rfl rfl T.i4 rfl ?_ | refine a3 _ rfl rfl T.i4 rfl ?_
 refine n7 rfl rfl (by first | exact .refl _ | exact perm2 _ _ _ | exact perm3 _ _ _ _ | exact perm4 _ _ _ _ _) T.vA (by rfl) (by rfl) ?_; refine a7 (b5 ?_); refine z6 11 mixed (by decide) (by decide) rfl rfl (j5 (fun w1 => a5 rfl (q_z rfl)) (j5 (fun w1 => a5 rfl (q_z rfl)) (j5 (fun w1 => i5 rfl rfl (q_z rfl)) ?_)))
 apply k7 _ rfl rfl rfl
 ·intro w1
  first | refine a3 ⟨_, 2, none⟩ rfl rfl T.i4 rfl ?_ | refine a3 _ rfl rfl T.i4 rfl ?_
  refine b3 ?_; exact i3 rfl
 apply k7 _ rfl rfl rfl
 ·intro w1
  first | refine a4 rfl T.p6 rfl (c8 mB rfl) ?_ | refine a4 rfl T.p6 rfl (b7 mB rfl) ?_ | refine a4 rfl T.p6 rfl (c5 mB (b4 (by omega) rfl)) ?_ | refine a4 rfl T.p6 rfl (b8 mB (rows_get (by omega) rfl)) ?_
  refine b3 ?_; exact i3 rfl
 refine j5 (fun w1 => a5 rfl (q_z rfl)) (j5 (fun w1 => i5 rfl rfl (q_z rfl)) ?_)
 apply k7 _ rfl rfl rfl
 ·intro w1
  first | refine a3 ⟨_, 2, none⟩ rfl rfl T.i4 rfl ?_ | refine a3 _ rfl rfl T.i4 rfl ?_
  refine b3 ?_; exact i3 rfl
 apply k7 _ rfl rfl rfl
 ·intro w1
  first | refine a4 rfl T.p6 rfl (c8 mB rfl) ?_ | refine a4 rfl T.p6 rfl (b7 mB rfl) ?_ | refine a4 rfl T.p6 rfl (c5 mB (b4 (by omega) rfl)) ?_ | refine a4 rfl T.p6 rfl (b8 mB (rows_get (by omega) rfl)) ?_
  refine b3 ?_; exact i3 rfl
 refine j5 (fun w1 => D2 _ rfl rfl rfl (fun _ => rfl) (fun _ => rfl) (q_z rfl)) (j5 (fun w1 => D2 _ rfl rfl rfl (fun _ => rfl) (fun _ => rfl) (q_z rfl)) ?_); refine v6 ⟨rfl, ?_⟩; refine i5 rfl rfl ?_
 first | refine a3 ⟨_, 2, none⟩ rfl rfl T.i4 rfl ?_ | refine a3 _ rfl rfl T.i4 rfl ?_
 refine n7 rfl rfl (by first | exact .refl _ | exact perm2 _ _ _ | exact perm3 _ _ _ _ | exact perm4 _ _ _ _ _) T.vA (by rfl) (by rfl) ?_; refine a7 (kK ?_); refine z6 9 mixed (by decide) (by decide) rfl rfl (j5 (fun w1 => a5 rfl (q_z rfl)) (j5 (fun w1 => i5 rfl rfl (q_z rfl)) ?_))
 apply k7 _ rfl rfl rfl
 ·intro w1
  first | refine a3 ⟨_, 1, none⟩ rfl rfl T.s4 rfl ?_ | refine a3 _ rfl rfl T.s4 rfl ?_
  refine b3 ?_; exact i3 rfl
 apply k7 _ rfl rfl rfl
 ·intro w1
  first | refine a4 rfl T.a6 rfl (c8 mB rfl) ?_ | refine a4 rfl T.a6 rfl (b7 mB rfl) ?_ | refine a4 rfl T.a6 rfl (c5 mB (b4 (by omega) rfl)) ?_ | refine a4 rfl T.a6 rfl (b8 mB (rows_get (by omega) rfl)) ?_
  refine b3 ?_; exact i3 rfl
 refine j5 (fun w1 => a5 rfl (q_z rfl)) (j5 (fun w1 => i5 rfl rfl (q_z rfl)) ?_)
 apply k7 _ rfl rfl rfl
 ·intro w1
  first | refine a3 ⟨_, 0, none⟩ rfl rfl T.B2 rfl ?_ | refine a3 _ rfl rfl T.B2 rfl ?_
  refine b3 ?_; exact i3 rfl
 apply k7 _ rfl rfl rfl
 ·intro w1
  first | refine a4 rfl T.A4 rfl (c8 mB rfl) ?_ | refine a4 rfl T.A4 rfl (b7 mB rfl) ?_ | refine a4 rfl T.A4 rfl (c5 mB (b4 (by omega) rfl)) ?_ | refine a4 rfl T.A4 rfl (b8 mB (rows_get (by omega) rfl)) ?_
  refine b3 ?_; exact i3 rfl
 refine j5 (fun w1 => j9 rfl T.L8 rfl (q_z rfl)) ?_; refine v6 ⟨rfl, ?_⟩; refine r6 rfl rfl rfl (a7 ?_)
 first | refine i8 rfl (fun hb1 => ?_) (fun hb1 => ?_) | refine b9 rfl (fun hb1 => ?_) (fun hb1 => ?_)
 ·have hb1' := hb1; try simp at hb1'
  refine b5 ?_; refine z6 18 mixed (by decide) (by decide) rfl rfl (j5 (fun w1 => a5 rfl (q_z rfl)) (j5 (fun w1 => a5 rfl (q_z rfl)) (j5 (fun w1 => i5 rfl rfl (q_z rfl)) ?_)))
  apply k7 _ rfl rfl rfl
  ·intro w1
   first | refine a3 ⟨_, 2, none⟩ rfl rfl T.i4 rfl ?_ | refine a3 _ rfl rfl T.i4 rfl ?_
   refine b3 ?_; exact i3 rfl
  apply k7 _ rfl rfl rfl
  ·intro w1
   first | refine a4 rfl T.p6 rfl (c8 mB rfl) ?_ | refine a4 rfl T.p6 rfl (b7 mB rfl) ?_ | refine a4 rfl T.p6 rfl (c5 mB (b4 (by omega) rfl)) ?_ | refine a4 rfl T.p6 rfl (b8 mB (rows_get (by omega) rfl)) ?_
   refine b3 ?_; exact i3 rfl
  refine j5 (fun w1 => a5 rfl (q_z rfl)) (j5 (fun w1 => i5 rfl rfl (q_z rfl)) ?_)
  apply k7 _ rfl rfl rfl
  ·intro w1
   first | refine a3 ⟨_, 0, none⟩ rfl rfl T.B2 rfl ?_ | refine a3 _ rfl rfl T.B2 rfl ?_
   refine b3 ?_; exact i3 rfl
  apply k7 _ rfl rfl rfl
  ·intro w1
   first | refine a4 rfl T.A4 rfl (c8 mB rfl) ?_ | refine a4 rfl T.A4 rfl (b7 mB rfl) ?_ | refine a4 rfl T.A4 rfl (c5 mB (b4 (by omega) rfl)) ?_ | refine a4 rfl T.A4 rfl (b8 mB (rows_get (by omega) rfl)) ?_
   refine b3 ?_; exact i3 rfl
  refine j5 (fun w1 => a5 rfl (q_z rfl)) (j5 (fun w1 => i5 rfl rfl (q_z rfl)) ?_)
  apply k7 _ rfl rfl rfl
  ·intro w1
   first | refine a3 ⟨_, 1, none⟩ rfl rfl T.s4 rfl ?_ | refine a3 _ rfl rfl T.s4 rfl ?_
   refine b3 ?_; exact i3 rfl
  apply k7 _ rfl rfl rfl
  ·intro w1
   first | refine a4 rfl T.a6 rfl (c8 mB rfl) ?_ | refine a4 rfl T.a6 rfl (b7 mB rfl) ?_ | refine a4 rfl T.a6 rfl (c5 mB (b4 (by omega) rfl)) ?_ | refine a4 rfl T.a6 rfl (b8 mB (rows_get (by omega) rfl)) ?_
   refine b3 ?_; exact i3 rfl
  refine j5 (fun w1 => r7 (α := Int) _ pn rfl T.L8 T.D8 rfl rfl rfl m1 rfl (by omega) (by decide) (q_z rfl)) (j5 (fun w1 => a4 rfl T.a6 rfl (c5 mB (b4 (by omega) rfl)) (q_z rfl)) (j5 (fun w1 => mW _ rfl T.nY T.bj9 rfl rfl (q_z rfl)) (j5 (fun w1 => D2 _ rfl rfl rfl (fun _ => rfl) (fun _ => rfl) (q_z rfl)) (j5 (fun w1 => D2 _ rfl rfl rfl (fun _ => rfl) (fun _ => rfl) (q_z rfl)) ?_)))); refine v6 ⟨rfl, ?_⟩; refine i5 rfl rfl ?_
  first | refine a3 ⟨_, 2, none⟩ rfl rfl T.i4 rfl ?_ | refine a3 _ rfl rfl T.i4 rfl ?_
  refine n7 rfl rfl (by first | exact .refl _ | exact perm2 _ _ _ | exact perm3 _ _ _ _ | exact perm4 _ _ _ _ _) T.vA (by rfl) (by rfl) ?_; refine a7 (c6 (a5 rfl (i5 rfl rfl ?_)))
  first | refine a3 ⟨_, 1, none⟩ rfl rfl T.s4 rfl ?_ | refine a3 _ rfl rfl T.s4 rfl ?_
  first | refine a4 rfl T.a6 rfl (b7 mB rfl) ?_ | refine a4 rfl T.a6 rfl (c8 mB rfl) ?_ | refine a4 rfl T.a6 rfl (c5 mB (b4 (by omega) rfl)) ?_ | refine a4 rfl T.a6 rfl (b8 mB (rows_get (by omega) rfl)) ?_
  refine p7 _ rfl rfl rfl rfl l9 (i5 rfl rfl ?_)
  first | refine a3 ⟨_, 1, none⟩ rfl rfl T.s4 rfl ?_ | refine a3 _ rfl rfl T.s4 rfl ?_
  refine n7 rfl rfl (by first | exact .refl _ | exact perm2 _ _ _ | exact perm3 _ _ _ _ | exact perm4 _ _ _ _ _) T.D8 (by rfl) (by rfl) ?_; refine k9 (a5 rfl (i5 rfl rfl ?_))
  first | refine a3 ⟨_, 2, none⟩ rfl rfl T.i4 rfl ?_ | refine a3 _ rfl rfl T.i4 rfl ?_
  first | refine a4 rfl T.p6 rfl (b7 mB rfl) ?_ | refine a4 rfl T.p6 rfl (c8 mB rfl) ?_ | refine a4 rfl T.p6 rfl (c5 mB (b4 (by omega) rfl)) ?_ | refine a4 rfl T.p6 rfl (b8 mB (rows_get (by omega) rfl)) ?_
  refine a8 rfl (k9 (a5 rfl (a5 rfl ?_))); refine D2 _ rfl rfl rfl (fun _ => rfl) (fun _ => rfl) (D2 _ rfl rfl rfl (fun _ => rfl) (fun _ => rfl) (D2 _ rfl rfl rfl (fun _ => rfl) (fun _ => rfl) ?_)); refine a8 rfl (k9 (a5 rfl (a5 rfl ?_))); refine D2 _ rfl rfl rfl (fun _ => rfl) (fun _ => rfl) (D2 _ rfl rfl rfl (fun _ => rfl) (fun _ => rfl) ?_); refine a8 rfl (a7 (i6 ?_)); exact ret1 ((_, _), _) rfl rfl rfl ⟨⟨by simp only; omega, by simp only; omega, (wrapU _).1, (wrapU _).2⟩, wrapU _⟩ (.refl _) trivial
 have hb1' := hb1; try simp at hb1'
 refine c3 (b6 (a9 (a5 rfl (i5 rfl rfl ?_))))
 first | refine a3 ⟨_, 2, none⟩ rfl rfl T.i4 rfl ?_ | refine a3 _ rfl rfl T.i4 rfl ?_
 first | refine a4 rfl T.p6 rfl (b7 mB rfl) ?_ | refine a4 rfl T.p6 rfl (c8 mB rfl) ?_ | refine a4 rfl T.p6 rfl (c5 mB (b4 (by omega) rfl)) ?_ | refine a4 rfl T.p6 rfl (b8 mB (rows_get (by omega) rfl)) ?_
 refine a8 rfl (k9 (a5 rfl (a5 rfl ?_))); refine D2 _ rfl rfl rfl (fun _ => rfl) (fun _ => rfl) (D2 _ rfl rfl rfl (fun _ => rfl) (fun _ => rfl) (D2 _ rfl rfl rfl (fun _ => rfl) (fun _ => rfl) ?_)); refine a8 rfl (k9 (a5 rfl (a5 rfl ?_))); refine D2 _ rfl rfl rfl (fun _ => rfl) (fun _ => rfl) (D2 _ rfl rfl rfl (fun _ => rfl) (fun _ => rfl) ?_); refine a8 rfl (a7 (i6 ?_)); exact ret1 ((_, _), _) rfl rfl rfl ⟨⟨by simp only; omega, by simp only; omega, (wrapU _).1, (wrapU _).2⟩, wrapU _⟩ (.refl _) trivial
theorem aq8 {z n : Int} (hz : 0 ≤ z) (hn : 0 ≤ n) : 0 ≤ z.tmod (n + 1) ∧ z.tmod (n + 1) ≤ n := by
  have h1 := Int.tmod_nonneg (n + 1) hz; have h2 := Int.tmod_lt_of_pos z (show 0 < n + 1 by omega)
  omega
def ToInv (n z : Int) : Prop := 0 ≤ z ∧ (1 ≤ n → z ≤ n) ∧ (n < 1 → z = 0)
theorem O8 {g : Nat} {A : Option Addr} {c : Nat} {nums : List Int} {s : Int × Int} (n : Int) (hn : nums.length ≤ 9223372036854775807) (hs : DOK nums s) (hI : n ≤ 9223372036854775806) :
    Meets Tryz.prog F.gY [.pointer (j4 g), int n] (diceCon g A c nums s (ToInv n) (fun z => int z) (fun _ => [])) := by
 refine c4 F.tS rfl l5 fun w0 => ?_; refine a9 (a8 rfl (a7 (b5 (a9 (a5 rfl (r6 rfl rfl rfl (a7 ?_)))))))
 first | refine i8 rfl (fun hb1 => ?_) (fun hb1 => ?_) | refine b9 rfl (fun hb1 => ?_) (fun hb1 => ?_)
 ·have hb1' := hb1; try simp at hb1'
  refine a9 (a8 rfl (a7 (s6 ?_))); exact ret1 (s, 0) rfl rfl rfl ⟨hs, by omega, by intro; omega, by intro; rfl⟩ (.refl _) trivial
 have hb1' := hb1; try simp at hb1'
 refine c3 (b6 (a9 (a5 rfl ?_))); refine d6 F.pV rfl rfl (kJ hn hs) (.refl _) ⟨m0, trivial⟩ fun x hx => ?_; obtain ⟨s1, z⟩ := x; obtain ⟨hs1, hz⟩ := hx; simp only at hz; refine D2 _ rfl rfl rfl (fun _ => rfl) (fun _ => rfl) (a5 rfl (p7 _ rfl rfl rfl rfl l9 (mW (n + 1) rfl T.nY T.bj9 rfl (IntWalk.u64_in _ (by omega)) (r_rem rfl rfl rfl (by omega) ?_)))); have hm := aq8 (z := z.fdiv (2 ^ min (Int.toNat 16) IntKind.u64.bits)) (n := n) (Int.fdiv_nonneg hz.1 (by decide)) (by omega); refine mW ((z.fdiv (2 ^ min (Int.toNat 16) IntKind.u64.bits)).tmod (n + 1)) rfl T.bj9 T.nY rfl (IntWalk.i64_in ((z.fdiv (2 ^ min (Int.toNat 16) IntKind.u64.bits)).tmod (n + 1)) (by omega)) ?_; refine a8 rfl (a7 (i6 ?_)); exact ret1 (s1, _) rfl rfl rfl ⟨hs1, hm.1, fun _ => hm.2, fun h => by omega⟩ (.refl _) trivial
theorem iX {g : Nat} {A : Option Addr} {c : Nat} {nums : List Int} {s : Int × Int} (n : Int) (hn : nums.length ≤ 9223372036854775807) (hs : DOK nums s) (hI : 0 ≤ n ∧ n ≤ 9223372036854775806) :
    Meets Tryz.prog F.aO [.pointer (j4 g), int n] (diceCon g A c nums s (fun _ : Bool => True) (fun z => .bool z) (fun _ => [])) := by
 refine c4 F.pX rfl l5 fun w0 => ?_; refine a9 (a8 rfl (k9 (a5 rfl (a5 rfl ?_)))); refine Z5 _ rfl rfl rfl rfl l9 ?_; refine d6 F.Y6 rfl rfl (O8 (n - 1) hn hs (by omega)) (.refl _) ⟨m0, trivial⟩ fun x hx => ?_; obtain ⟨s1, z⟩ := x; obtain ⟨hs1, hz⟩ := hx; simp only [ToInv] at hz; refine t8 rfl rfl rfl (a8 rfl (a7 (i6 ?_))); exact ret1 (s1, _) rfl rfl rfl ⟨hs1, trivial⟩ (.refl _) trivial
theorem iW {g : Nat} {A B : Option Addr} {c cb : Nat} {nums : List Int} {s : Int × Int} (l : List Str) (hn : nums.length ≤ 9223372036854775807) (hs : DOK nums s) (hl : 0 < l.length) (hl2 : l.length ≤ 1000) :
    Meets Tryz.prog F.aN [.pointer (j4 g), .slice B l.length cb] { diceCon g A c nums s (fun x : Str => x ∈ l) (fun z => str z) (fun _ => []) with LI := [Row A (rows nums), Row B (rows l)] } := by
 refine c4 F.pW rfl l5 fun w0 => ?_; refine a9 (a8 rfl (k9 (a5 rfl (a5 rfl (a5 rfl ?_))))); refine j9 rfl T.u5 rfl (Z5 _ rfl rfl rfl rfl l9 ?_); refine d6 F.Y6 rfl rfl (O8 ((l.length : Int) - 1) hn hs (by omega)) (.refl _) ⟨m0, trivial⟩ fun x hx => ?_; obtain ⟨s1, z⟩ := x; obtain ⟨hs1, hz⟩ := hx; simp only [ToInv] at hz; obtain ⟨zn, rfl⟩ := Int.eq_ofNat_of_zero_le hz.1
 have hzl : zn < l.length := by
   by_cases h1 : 1 ≤ (l.length : Int) - 1
   · have := hz.2.1 h1; omega
   have := hz.2.2 (by omega); omega
 refine r7 (α := Str) _ _ rfl T.u5 T.v8 rfl rfl rfl mB rfl (by omega) (by decide) (a4 rfl T.j1 rfl (c5 mB (b4 (by omega) rfl)) ?_); refine a8 rfl (a7 (i6 ?_)); exact ret1 (s1, l.getD zn default) rfl rfl rfl ⟨hs1, by simp [List.getD_eq_getElem?_getD, hzl]⟩ (.refl _) trivial
def lineWords : List Str := [[97], [98], [99], [97, 110, 32, 49], [98, 101, 110], [99, 121, 100, 32, 49, 50]]
def PageOK (l : List Str) : Prop := ∀ s ∈ l, s ∈ lineWords
theorem bS {g : Nat} {A : Option Addr} {c : Nat} {nums : List Int} {s : Int × Int} (hn : nums.length ≤ 9223372036854775807) (hs : DOK nums s) :
    Meets Tryz.prog F.kH [.pointer (j4 g)] (diceCon g A c nums s (fun x : Str => x ∈ lineWords) (fun z => str z) (fun _ => [])) := by
 refine c4 F.vW rfl l5 fun w0 => ?_; refine a9 (a8 rfl (k9 (a5 rfl ?_))); refine j8 _ rfl rfl (fun _ => T.az6 ..) fun gS => ?_; refine J0 (rows lineWords) (List.prefix_refl _) ?_; refine d6 F.nL rfl rfl (iW lineWords hn hs (by decide) (by decide)) (.refl _) ⟨m1, m0, trivial⟩ fun x hx => ?_; obtain ⟨s1, z⟩ := x; obtain ⟨hs1, hz⟩ := hx; refine a8 rfl (a7 (i6 ?_)); exact ret1 (s1, z) rfl rfl rfl ⟨hs1, hz⟩ (.refl _) trivial
end Go.Proofs.YtegfgegnhjkcfaaGreatDoor
end
