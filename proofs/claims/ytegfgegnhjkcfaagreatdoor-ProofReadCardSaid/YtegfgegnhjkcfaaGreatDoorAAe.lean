/- Texts of this claim, one behind another. -/
import Derived.Laws.Rows
import Derived.Deep.AppendSrc
import Derived.Deep.Upon
import Derived.Test.YtegfgegnhjkcfaaGreatDoorAAd
set_option linter.unusedVariables false
set_option linter.unusedSimpArgs false
section
namespace Go.W
open Go Go.RowKit
section
variable {c : Cx} {fr : Fr} {hp : Hp} {L : List Fact}
theorem V2 {β : Type} {k : Con β} {fn : Func} {w0 : World} (x : β) {t : Tmp} {ty e : TypeId} {g n : Nat} {cs : Array Value} {fz : Nat × Nat} (hres : fn.results = #[.cell t ty]) (hv : lk fr t = some (.pointer (i5 g))) (ht : IsR c.P ty) (hz : Sz c.P ty n) (hn : cs.size = n)
    (hm : (g, Obj.cells cs e fz) ∈ hp) (hk : k.val x = .agg cs) (hb : c.b = k.entry w0) (hi : k.inv x) (h2 : (k.hpO x).Sublist hp) (h3 : LSub L (k.LO x)) (hD : c.D = [] := by rfl) : HQ c (bodyPost c.P fn (k.post w0)) .ret fr hp L :=
  R4 x (fun a w ha hw => by
    obtain ⟨dd, ht, hr⟩ := ht; have h1 := hw.own _ hm; simp only at h1
    have hl : (loadVar ty ⟨g, 0, none⟩).run c.P w = .ok (.agg cs) w := by
      have hagg : (isAgg ty).run c.P w = .ok true w := by
        unfold isAgg; rw [Sem.run_bind, run_underlying ht w]
        cases dd <;> simp_all [TypeDesc.isRow]
      have hc := run_loadCells_list (P := c.P) w ⟨g, 0, none⟩ cs.toList (fun j u hu => by rw [dF, Nat.zero_add]; simp at hu; simp [World.cell?, h1, hu]); have hs := O1 hz w; simp only [loadVar, Sem.run_bind, hagg, Result.andThen_ok, if_true, hs, ← hn]; have e : cs.size = cs.toList.length := by simp
      rw [e, hc]
      simp
    have hv' := ha.at_ _ _ hv; rw [hk]; unfold results; rw [hres]; have hv2 : a.tmps[t]?.getD undef = .pointer (i5 g) := by simpa using hv'
    simp [hv2, asAddr, hl]) hb hi h2 h3 hD
theorem w5 {β : Type} {k : Con β} {fn : Func} {w0 : World} (x : β) {t u : Tmp} {ty e : TypeId} {g n : Nat} {cs : Array Value} {fz : Nat × Nat} {v2 : Value} (hres : fn.results = #[.cell t ty, .tmp u]) (hv : lk fr t = some (.pointer (i5 g))) (hv2 : lk fr u = some v2) (ht : IsR c.P ty) (hz : Sz c.P ty n) (hn : cs.size = n)
    (hm : (g, Obj.cells cs e fz) ∈ hp) (hk : k.val x = .tuple #[.agg cs, v2]) (hb : c.b = k.entry w0) (hi : k.inv x) (h2 : (k.hpO x).Sublist hp) (h3 : LSub L (k.LO x)) (hD : c.D = [] := by rfl) : HQ c (bodyPost c.P fn (k.post w0)) .ret fr hp L :=
  R4 x (fun a w ha hw => by
    obtain ⟨dd, ht, hr⟩ := ht; have h1 := hw.own _ hm; simp only at h1
    have hl : (loadVar ty ⟨g, 0, none⟩).run c.P w = .ok (.agg cs) w := by
      have hagg : (isAgg ty).run c.P w = .ok true w := by
        unfold isAgg; rw [Sem.run_bind, run_underlying ht w]
        cases dd <;> simp_all [TypeDesc.isRow]
      have hc := run_loadCells_list (P := c.P) w ⟨g, 0, none⟩ cs.toList (fun j u hu => by rw [dF, Nat.zero_add]; simp at hu; simp [World.cell?, h1, hu]); have hs := O1 hz w; simp only [loadVar, Sem.run_bind, hagg, Result.andThen_ok, if_true, hs, ← hn]; have e : cs.size = cs.toList.length := by simp
      rw [e, hc]
      simp
    have hv' := ha.at_ _ _ hv; have hv2' := ha.at_ _ _ hv2; rw [hk]; unfold results; rw [hres]; have h5 : a.tmps[t]?.getD undef = .pointer (i5 g) := by simpa using hv'
    have h6 : a.tmps[u]?.getD undef = v2 := by simpa using hv2'
    simp [h5, h6, asAddr, hl]) hb hi h2 h3 hD
end
section
variable {c : Cx} {Q : Exit → Act → World → Prop} {fr : Fr} {hp : Hp} {L : List Fact} {ops : Array Oper} {rest : List Oper}
variable {d : Tmp} {ty : TypeId} {pos : String} {af : Array Edge}
theorem u4 {t e : TypeId} {x : Operand} {g : Nat} {cs : Array Value} {fz : Nat × Nat} {n : Nat} (hd : Nat.blt d c.n = true) (ht' : IsR c.P t) (hz' : Sz c.P t n) (hx : ev fr x = some (.pointer (i5 g))) (h : Blk g (Obj.cells cs e fz) ∈ L) (hn : cs.size = n)
    (k : HL c ops Q rest ((d, .agg cs) :: fr) hp L) : HL c ops Q (⟨some d, .load t x, ty, pos, af, none⟩ :: rest) fr hp L :=
  p6 (cs := cs.toList) hd ht' hz' hx (by simpa using hn) (yG h (fun i u hu => by simpa using hu)) k
theorem pU {t e : TypeId} {x y : Operand} {sz bytes n m cp : Nat} {A B : Option Addr} {olds news : List Value} (n' : Nat) (xs' : List Value) (el : ElT c.P t e sz bytes) (hd : Nat.blt d c.n = true)
    (hx : ev fr x = some (.slice A n n)) (hy : ev fr y = some (.slice B m cp)) (hA : Row A olds ∈ L) (hlo : olds.length = n * sz) (hs : Src c.b hp L B m sz news) (hn' : n + m = n') (hxs : olds ++ news = xs') (hn : n' ≤ maxLen) (hby : n' * bytes ≤ 140737488355328)
    (k : ∀ A' cap', n' ≤ cap' → HL c ops Q rest ((d, .slice A' n' cap') :: fr) hp (Row A' xs' :: L)) :
    HL c ops Q (⟨some d, .call ⟨.builtin .append, #[x, y], #[t, t]⟩, ty, pos, af, none⟩ :: rest) fr hp L :=
  iG rfl rfl hd fun a w ha hw => by
    subst hn'; subst hxs; obtain ⟨i, z, hi, hz, hsz, hb, hzs⟩ := el.i; have hrow := hw.fs _ hA
    have hgs : Go.Src c.P i.size t (.slice B m cp) m news w := by
      rcases hs.2.2 with ⟨rfl, rfl⟩ | h
      · have : news = [] := List.eq_nil_of_length_eq_zero (by simpa using hs.1)
        subst this; exact Go.Src.ofNil w el.u cp
      obtain ⟨ad, rfl, hc⟩ := h w hw; exact Go.Src.ofSlice w el.u ad m cp news (by rw [hsz]; exact hs.1) hc hs.2.1
    by_cases hm : m = 0
    · subst hm
      have : news = [] := List.eq_nil_of_length_eq_zero (by simpa using hs.1); subst this; refine ⟨.slice A n n, w, hp, Row A (olds ++ []) :: L, ?_, hw.weak (.refl _) ?_ |>.add (by simpa using hrow) (fun p hp => by simpa using hw.ap _ hA p hp) (fun k hk => hw.al _ hA k (by simpa using hk)), k A n (Nat.le_refl _)⟩
      · have := run_append_nothing w t t ty e i el.u hi A n n (Nat.le_refl _) (.slice B 0 cp) hgs
        simp only [execOp, resolve, invoke, builtin, Sem.run_bind, Sem.run_pure, Result.andThen_ok, List.map_toArray, List.map_cons, List.map_nil, ha.ev hx, ha.ev hy, this]
      exact fun _ h => h
    have hold : (Builtin.firstCells i.size n (.slice A n n)).run c.P w.drew = .ok olds.toArray w.drew := by
      cases A with
      | none =>
        have : olds = [] := by
          cases olds with
          | nil => rfl
          | cons u r => obtain ⟨ad, e, _⟩ := hrow 0 u rfl; cases e
        subst this
        have hn0 : n = 0 := by
          have := el.pos; simp only [List.length_nil] at hlo
          rcases Nat.eq_zero_or_pos n with h | h
          · exact h
          have := Nat.mul_pos h this; omega
        subst hn0; exact run_firstCells_none _ _ _ _ _
      | some ad => exact run_firstCells_some _ _ _ _ _ _ olds (by rw [hsz]; exact hlo) (fun j u hu => by
          obtain ⟨ad', e, hc⟩ := hrow j u hu
          cases e
          simpa using hc)
    have hrun := run_append_grow_src w t t ty e i z el.u hi hz A n n olds hold (.slice B m cp) m news hgs (by omega) (by unfold maxLen at hn; omega) (growslice_fits (by omega) (by rw [hb]; exact hby)); have h2 := (hw.quiet (pJ w)).alloc (.cells ((olds ++ news).toArray ++ Builtin.zeroCells z.cells (grownCap w (n + m) n e - (n + m))) e (0, 0)); refine ⟨_, w.drew.alloc (.cells ((olds ++ news).toArray ++ Builtin.zeroCells z.cells (grownCap w (n + m) n e - (n + m))) e), hp, Row (some ⟨w.heap.size, 0, none⟩) (olds ++ news) :: L, ?_, iM h2 ?_, k (some ⟨w.heap.size, 0, none⟩) (grownCap w (n + m) n e) (grownCap_ge w (n + m) n e)⟩
    · simp only [execOp, resolve, invoke, builtin, Sem.run_bind, Sem.run_pure, Result.andThen_ok, List.map_toArray, List.map_cons, List.map_nil, ha.ev hx, ha.ev hy, hrun]
    exact ⟨(Builtin.zeroCells z.cells (grownCap w (n + m) n e - (n + m))).toList, by simp⟩
end
section
variable {κ : Type} [DecidableEq κ] {enc : κ → Value} {kt e : TypeId}
variable {c : Cx} {Q : Exit → Act → World → Prop} {fr : Fr} {hp : Hp} {L : List Fact} {ops : Array Oper} {rest : List Oper}
variable {d : Tmp} {ty : TypeId} {pos : String} {af : Array Edge}
theorem xK {t : TypeId} {x y : Operand} {g : Nat} {l : List (Ment κ)} {clk : Nat} {k : κ} (z v : Value) (b : Bool) (K : KeyC c.P kt enc) (hd : Nat.blt d c.n = true) (ht : c.P.underlying t = some (.map kt e)) (hx : ev fr x = some (.map (some g))) (hy : ev fr y = some (enc k)) (hm : MapAt c.b hp L g (mapO enc l clk))
    (hz : ∀ w, (zeroValue e).run c.P w = .ok z w) (hv : (getM l k).getD z = v) (hb : (getM l k).isSome = b) (kk : HL c ops Q rest ((d, .tuple #[v, .bool b]) :: fr) hp L) : HL c ops Q (⟨some d, .lookup t x y true, ty, pos, af, none⟩ :: rest) fr hp L := by
  subst hv; subst hb
  cases hg : getM l k with
  | none => rw [hg] at kk; exact xL K hd ht hx hy hm hz hg kk
  | some u => rw [hg] at kk; exact zL K hd ht hx hy hm hg kk
theorem zQ {l : List (Ment κ)} {k : κ} {v : Value} {clk : Nat} {p : Ment κ} (h : p ∈ putM l k v clk) : (p.1 = k ∧ p.2.1 = v) ∨ p ∈ l := by
  unfold putM at h
  cases hf : findM k l 0 with
  | none =>
    rw [hf] at h
    rcases List.mem_append.1 h with h | h
    · exact .inr h
    simp at h; subst h; exact .inl ⟨rfl, rfl⟩
  | some q =>
    obtain ⟨i, u⟩ := q; rw [hf] at h; simp only at h; obtain ⟨n, hn⟩ := List.getElem?_of_mem h; rw [List.getElem?_modify] at hn
    cases hl : l[n]? with
    | none => rw [hl] at hn; cases hn
    | some r =>
      rw [hl] at hn; simp only [Option.map_eq_map, Option.map_some, Option.some.injEq] at hn
      split at hn
      · subst hn; exact .inl ⟨rfl, rfl⟩
      subst hn; exact .inr (List.mem_of_getElem? hl)
theorem aq2 {l : List (Ment κ)} {k : κ} {v : Value} (h : getM l k = some v) : ∃ p ∈ l, p.1 = k ∧ p.2.1 = v := by
  unfold getM at h
  cases hf : findM k l 0 with
  | none => rw [hf] at h; cases h
  | some q =>
    obtain ⟨i, u⟩ := q; rw [hf] at h; simp only [Option.map_some, Option.some.injEq] at h; subst h; obtain ⟨m, p, _, h2, h3, h4⟩ := pF l 0 i u hf; exact ⟨p, List.mem_of_getElem? h2, h3, h4⟩
end
theorem rR {α : Type} {l' : List α} : ∀ {l : List α}, (∀ p : α → Bool, l'.countP p ≤ l.countP p) → ∃ r, l.Perm (l' ++ r) := by
  classical
  induction l' with
  | nil => intro l _; exact ⟨l, .refl _⟩
  | cons a t ih =>
    intro l h; have h1 := h (fun x => decide (x = a)); rw [List.countP_cons_of_pos (by simp)] at h1
    have ha : a ∈ l := by
      have : 0 < l.countP (fun x => decide (x = a)) := by omega
      obtain ⟨x, hx, e⟩ := List.countP_pos_iff.1 this
      simp at e
      exact e ▸ hx
    have hp := List.perm_cons_erase ha
    obtain ⟨r, hr⟩ := ih (l := l.erase a) (fun p => by
      have h2 := h p; have h3 := hp.countP_eq p; rw [List.countP_cons] at h2 h3
      omega)
    exact ⟨r, hp.trans (hr.cons a)⟩
theorem WI.count {b : Bx} {w : World} {hp hp' : Hp} {L L' : List Fact} (h : WI b w hp L) (hc : ∀ p : Nat × Obj → Bool, hp'.countP p ≤ hp.countP p) (h2 : ∀ F ∈ L', F ∈ L) : WI b w hp' L' := by
  obtain ⟨r, hr⟩ := rR hc; exact (h.perm hr).weak (List.sublist_append_left _ _) h2
section
variable {c : Cx} {Q : Exit → Act → World → Prop} {fr : Fr} {hp : Hp} {L : List Fact} {ops : Array Oper} {rest : List Oper}
theorem dC {β : Type} (s : Sta β) (z : β) (hz : s.inv z) (h1 : FrSub fr (s.fr z)) (h2 : ∀ p : Nat × Obj → Bool, (s.hp z).countP p ≤ hp.countP p) (h3 : LSub L (s.L z)) : HQ c (Exit.then (s.holds c) Q) .normal fr hp L :=
  fun _ _ ha hw => ⟨z, hz, ha.sub h1, hw.count h2 h3.mem⟩
end
section
variable {c : Cx} {Q : Exit → Act → World → Prop} {fr : Fr} {hp : Hp} {L : List Fact} {ops : Array Oper} {rest : List Oper}
theorem kF {b : Bx} {w : World} {g : Nat} {o : Obj} (h : WI b w ((g, o) :: hp) L) : WI b w hp (Blk g o :: L) := h.letgo (h.own (g, o) (by simp)) (fun k hk => hk)
theorem z7 {g : Nat} {o : Obj} {x : Code} (k : HC c x Q fr hp (Blk g o :: L)) : HC c x Q fr ((g, o) :: hp) L := fun a w ha hw => k a w ha (kF hw)
theorem xW {g : Nat} {o : Obj} (k : HL c ops Q rest fr hp (Blk g o :: L)) : HL c ops Q rest fr ((g, o) :: hp) L := fun a w ha hw => k a w ha (kF hw)
end
def Facts (Fs : List Fact) : Fact where
  P w := ∀ F ∈ Fs, F.P w
  fp k := ∃ F ∈ Fs, F.fp k
  st w w' h hP F hF := F.st w w' (fun k hk => h k ⟨F, hF, hk⟩) (hP F hF)
  lt w hP k hk := by obtain ⟨F, hF, hk⟩ := hk; exact F.lt w (hP F hF) k hk
section
variable {c : Cx} {Q : Exit → Act → World → Prop} {fr : Fr} {hp : Hp} {L : List Fact} {ops : Array Oper} {rest : List Oper}
theorem wK {b : Bx} {w : World} {Fs : List Fact} {F : Fact} (h : Facts Fs ∈ L) (hF : F ∈ Fs) (hw : WI b w hp L) : WI b w hp (F :: L) := N9 hw (hw.fs _ h F hF) (fun k hk => ⟨_, h, F, hF, hk⟩)
theorem sR {Fs : List Fact} {F : Fact} (h : Facts Fs ∈ L) (hF : F ∈ Fs) (k : HL c ops Q rest fr hp (F :: L)) : HL c ops Q rest fr hp L := fun a w ha hw => k a w ha (wK h hF hw)
theorem hq_pick {Fs : List Fact} {F : Fact} {x : Exit} (h : Facts Fs ∈ L) (hF : F ∈ Fs) (k : HQ c Q x fr hp (F :: L)) : HQ c Q x fr hp L := fun a w ha hw => k a w ha (wK h hF hw)
theorem mW {b : Bx} {w : World} {Fs : List Fact} (h : ∀ F ∈ Fs, F ∈ L ∨ ∃ Gs, Facts Gs ∈ L ∧ F ∈ Gs) (hw : WI b w hp L) : WI b w hp (Facts Fs :: L) :=
  N9 hw (fun F hF => by
    rcases h F hF with h1 | ⟨Gs, h1, h2⟩
    · exact hw.fs _ h1
    · exact hw.fs _ h1 F h2) (fun k hk => by
    obtain ⟨F, hF, hk⟩ := hk
    rcases h F hF with h1 | ⟨Gs, h1, h2⟩
    · exact ⟨F, h1, hk⟩
    exact ⟨_, h1, F, h2, hk⟩)
theorem aj5 {Fs : List Fact} (h : ∀ F ∈ Fs, F ∈ L ∨ ∃ Gs, Facts Gs ∈ L ∧ F ∈ Gs) (k : HL c ops Q rest fr hp (Facts Fs :: L)) : HL c ops Q rest fr hp L := fun a w ha hw => k a w ha (mW h hw)
theorem aj9 {Fs : List Fact} {x : Code} (h : ∀ F ∈ Fs, F ∈ L ∨ ∃ Gs, Facts Gs ∈ L ∧ F ∈ Gs) (k : HC c x Q fr hp (Facts Fs :: L)) : HC c x Q fr hp L := fun a w ha hw => k a w ha (mW h hw)
theorem cW {Fs : List Fact} {x : Exit} (h : ∀ F ∈ Fs, F ∈ L ∨ ∃ Gs, Facts Gs ∈ L ∧ F ∈ Gs) (k : HQ c Q x fr hp (Facts Fs :: L)) : HQ c Q x fr hp L := fun a w ha hw => k a w ha (mW h hw)
end
section
variable {c : Cx} {Q : Exit → Act → World → Prop} {fr : Fr} {hp : Hp} {L : List Fact} {ops : Array Oper} {rest : List Oper}
theorem G6 {e : Exit} {α : Type} [El α] (k : HQ c Q e fr hp (Row none (rows ([] : List α)) :: L)) : HQ c Q e fr hp L := wT (F := Row none (rows ([] : List α))) (fun w _ => Row.nil _ w) (fun k hk => by obtain ⟨_, e, _⟩ := hk; cases e) k
theorem xV {α : Type} [El α] (k : HL c ops Q rest fr hp (Row none (rows ([] : List α)) :: L)) : HL c ops Q rest fr hp L := wU (F := Row none (rows ([] : List α))) (fun w _ => Row.nil _ w) (fun k hk => by obtain ⟨_, e, _⟩ := hk; cases e) k
theorem jS {e : Exit} (k : HQ c Q e fr hp (Row none [] :: L)) : HQ c Q e fr hp L := wT (F := Row none []) (fun w _ => Row.nil _ w) (fun k hk => by obtain ⟨_, e, _⟩ := hk; cases e) k
end
end Go.W
end
section
namespace Go.Proofs.YtegfgegnhjkcfaaGreatDoor
open Go Go.W
set_option maxRecDepth 20000
attribute [local irreducible] HL HC HQ HB Row Rows2 Blk Facts
theorem s6 {α : Type} [Inhabited α] (l : List α) (k : Nat) (h : k < l.length) : l.take (k + 1) = l.take k ++ [l.getD k default] := by
  rw [List.take_succ_eq_append_getElem h]
  simp [List.getD_eq_getElem?_getD, h]
theorem dA {α : Type} {a b : List α} {k : Nat} (h : a.take k = b.take k) (ha : a.length ≤ k) (hb : b.length ≤ k) : a = b := by
  rwa [List.take_of_length_le ha, List.take_of_length_le hb] at h
theorem zY {α : Type} [Inhabited α] {a b : List α} {k : Nat} (h : ¬ a.getD k default = b.getD k default) : ¬ a = b := fun e => h (by rw [e])
theorem gC {A B : Option Addr} {ca cb : Nat} (a b : List Str) (ha : a.length ≤ 9223372036854775806) :
    Meets Tryz.prog F.X0 [.slice A a.length ca, .slice B b.length cb] { LI := [Row A (rows a), Row B (rows b)], val := fun _ : Unit => .bool (decide (a = b)) } := by
 refine c1 F.lZ rfl j9 fun w0 => ?_; refine b7 (b4 rfl (a8 (b8 (b7 (a6 rfl ?_))))); refine j0 rfl T.t4 rfl (a6 rfl (j0 rfl T.t4 rfl ?_)); refine u5 rfl rfl rfl (a8 ?_)
 first | refine i4 rfl (fun hb1 => ?_) (fun hb1 => ?_) | refine c5 rfl (fun hb1 => ?_) (fun hb1 => ?_)
 ·have hb1' := hb1; try simp at hb1'
  have hb1 : ¬ a = b := fun e => by subst e; exact hb1 rfl
  refine b7 (b4 rfl (a8 (t5 ?_))); exact ret1 () rfl (by rw [decide_eq_false hb1]; rfl) rfl trivial (.refl _) trivial
 have hb1' := hb1; try simp at hb1'
 have hb1 : a.length = b.length := by omega
 refine c4 (c3 (b8 (b7 (b4 rfl (a8 (i8 ?_)))))); refine s9 (β := Nat) ⟨fun k => k ≤ a.length ∧ a.take k = b.take k, fun k => [(0, .slice A a.length ca), (1, .slice B b.length cb), (5, int k)], fun _ => [], fun _ => [Row A (rows a), Row B (rows b)]⟩ (fun k => a.length - k) 0 ⟨Nat.zero_le _, rfl⟩ mC (.refl _) ⟨m0, m1, trivial⟩ fun k hk => ?_; obtain ⟨hk, ht⟩ := hk; refine b8 (b7 (a6 rfl (a6 rfl ?_))); refine j0 rfl T.t4 rfl ?_; refine r9 rfl rfl rfl (a8 ?_)
 first | refine i4 rfl (fun hb2 => ?_) (fun hb2 => ?_) | refine c5 rfl (fun hb2 => ?_) (fun hb2 => ?_)
 ·have hb2' := hb2; try simp at hb2'
  have hb2 : k < a.length := by omega
  refine c4 (c3 (b8 (i8 (b8 ?_)))); refine A8 8 mixed (by decide) (by decide) rfl rfl (i7 (fun w1 => a6 rfl (q_z rfl)) (i7 (fun w1 => a6 rfl (q_z rfl)) (i7 (fun w1 => r6 (α := Str) _ _ rfl T.t4 T.u6 rfl rfl rfl mB rfl (by omega) (by decide) (q_z rfl)) (i7 (fun w1 => a4 rfl T.i3 rfl (b6 mB (a7 (by omega) rfl)) (q_z rfl)) (i7 (fun w1 => a6 rfl (q_z rfl)) (i7 (fun w1 => a6 rfl (q_z rfl)) (i7 (fun w1 => r6 (α := Str) _ _ rfl T.t4 T.u6 rfl rfl rfl mB rfl (by omega) (by decide) (q_z rfl)) ?_))))))); refine i7 (fun w1 => a4 rfl T.i3 rfl (b6 mB (a7 (by omega) rfl)) (q_z rfl)) ?_; refine t6 ⟨rfl, ?_⟩; refine nD rfl rfl rfl (a8 ?_)
  first | refine i4 rfl (fun hb3 => ?_) (fun hb3 => ?_) | refine c5 rfl (fun hb3 => ?_) (fun hb3 => ?_)
  ·have hb3' := hb3; try simp at hb3'
   have hb3 : ¬ a = b := zY (a := a) (b := b) (k := k) hb3; refine b7 (b4 rfl (a8 (g2 (s8 (k5 (s8 ?_)))))); exact ret1 () rfl (by rw [decide_eq_false hb3]; rfl) rfl trivial (.refl _) trivial
  have hb3' := hb3; try simp at hb3'
  have hb3 : a.getD k default = b.getD k default := Classical.not_not.1 hb3; refine c4 (q6 (c3 (c7 (a6 rfl ?_)))); refine p9 _ rfl rfl rfl rfl n3 ?_; refine b4 rfl (b5 ?_); exact again _ (k + 1) ⟨by omega, by rw [s6 a k hb2, s6 b k (by omega), ht, hb3]⟩ (by first | omega | (simp only; omega)) mC (.refl _) ⟨m0, m1, trivial⟩
 have hb2' := hb2; try simp at hb2'
 have hb2 : k = a.length := by omega
 refine n5 (A3 (n4 (c3 (b7 (b4 rfl (a8 (g2 ?_))))))); exact ret1 () rfl (by rw [decide_eq_true (dA ht (by omega) (by omega))]; rfl) rfl trivial (.refl _) trivial
theorem aD {A B : Option Addr} {ca cb : Nat} (a b : List Int) (ha : a.length ≤ 9223372036854775806) :
    Meets Tryz.prog F.iE [.slice A a.length ca, .slice B b.length cb] { LI := [Row A (rows a), Row B (rows b)], val := fun _ : Unit => .bool (decide (a = b)) } := by
 refine c1 F.sN rfl j9 fun w0 => ?_; refine b7 (b4 rfl (a8 (b8 (b7 (a6 rfl ?_))))); refine j0 rfl T.I6 rfl (a6 rfl (j0 rfl T.I6 rfl ?_)); refine u5 rfl rfl rfl (a8 ?_)
 first | refine i4 rfl (fun hb1 => ?_) (fun hb1 => ?_) | refine c5 rfl (fun hb1 => ?_) (fun hb1 => ?_)
 ·have hb1' := hb1; try simp at hb1'
  have hb1 : ¬ a = b := fun e => by subst e; exact hb1 rfl
  refine b7 (b4 rfl (a8 (t5 ?_))); exact ret1 () rfl (by rw [decide_eq_false hb1]; rfl) rfl trivial (.refl _) trivial
 have hb1' := hb1; try simp at hb1'
 have hb1 : a.length = b.length := by omega
 refine c4 (c3 (b8 (b7 (b4 rfl (a8 (i8 ?_)))))); refine s9 (β := Nat) ⟨fun k => k ≤ a.length ∧ a.take k = b.take k, fun k => [(0, .slice A a.length ca), (1, .slice B b.length cb), (5, int k)], fun _ => [], fun _ => [Row A (rows a), Row B (rows b)]⟩ (fun k => a.length - k) 0 ⟨Nat.zero_le _, rfl⟩ mC (.refl _) ⟨m0, m1, trivial⟩ fun k hk => ?_; obtain ⟨hk, ht⟩ := hk; refine b8 (b7 (a6 rfl (a6 rfl ?_))); refine j0 rfl T.I6 rfl ?_; refine r9 rfl rfl rfl (a8 ?_)
 first | refine i4 rfl (fun hb2 => ?_) (fun hb2 => ?_) | refine c5 rfl (fun hb2 => ?_) (fun hb2 => ?_)
 ·have hb2' := hb2; try simp at hb2'
  have hb2 : k < a.length := by omega
  refine c4 (c3 (b8 (i8 (b8 ?_)))); refine A8 8 mixed (by decide) (by decide) rfl rfl (i7 (fun w1 => a6 rfl (q_z rfl)) (i7 (fun w1 => a6 rfl (q_z rfl)) (i7 (fun w1 => r6 (α := Int) _ _ rfl T.I6 T.G8 rfl rfl rfl mB rfl (by omega) (by decide) (q_z rfl)) (i7 (fun w1 => a4 rfl T.a5 rfl (b6 mB (a7 (by omega) rfl)) (q_z rfl)) (i7 (fun w1 => a6 rfl (q_z rfl)) (i7 (fun w1 => a6 rfl (q_z rfl)) (i7 (fun w1 => r6 (α := Int) _ _ rfl T.I6 T.G8 rfl rfl rfl mB rfl (by omega) (by decide) (q_z rfl)) ?_))))))); refine i7 (fun w1 => a4 rfl T.a5 rfl (b6 mB (a7 (by omega) rfl)) (q_z rfl)) ?_; refine t6 ⟨rfl, ?_⟩; refine u5 rfl rfl rfl (a8 ?_)
  first | refine i4 rfl (fun hb3 => ?_) (fun hb3 => ?_) | refine c5 rfl (fun hb3 => ?_) (fun hb3 => ?_)
  ·have hb3' := hb3; try simp at hb3'
   have hb3 : ¬ a = b := zY (a := a) (b := b) (k := k) hb3; refine b7 (b4 rfl (a8 (g2 (s8 (k5 (s8 ?_)))))); exact ret1 () rfl (by rw [decide_eq_false hb3]; rfl) rfl trivial (.refl _) trivial
  have hb3' := hb3; try simp at hb3'
  have hb3 : a.getD k default = b.getD k default := Classical.not_not.1 hb3; refine c4 (q6 (c3 (c7 (a6 rfl ?_)))); refine p9 _ rfl rfl rfl rfl n3 ?_; refine b4 rfl (b5 ?_); exact again _ (k + 1) ⟨by omega, by rw [s6 a k hb2, s6 b k (by omega), ht, hb3]⟩ (by first | omega | (simp only; omega)) mC (.refl _) ⟨m0, m1, trivial⟩
 have hb2' := hb2; try simp at hb2'
 have hb2 : k = a.length := by omega
 refine n5 (A3 (n4 (c3 (b7 (b4 rfl (a8 (g2 ?_))))))); exact ret1 () rfl (by rw [decide_eq_true (dA ht (by omega) (by omega))]; rfl) rfl trivial (.refl _) trivial
theorem V9 {A B : Option Addr} {ca cb : Nat} (a b : List Mk) (ha : a.length ≤ 9223372036854775806) :
    Meets Tryz.prog F.cT [.slice A a.length ca, .slice B b.length cb] { LI := [Row A (rows a), Row B (rows b)], val := fun _ : Unit => .bool (decide (a = b)) } := by
 refine c1 F.qH rfl j9 fun w0 => ?_; refine b7 (b4 rfl (a8 (b8 (b7 (a6 rfl ?_))))); refine j0 rfl T.j2 rfl (a6 rfl (j0 rfl T.j2 rfl ?_)); refine u5 rfl rfl rfl (a8 ?_)
 first | refine i4 rfl (fun hb1 => ?_) (fun hb1 => ?_) | refine c5 rfl (fun hb1 => ?_) (fun hb1 => ?_)
 ·have hb1' := hb1; try simp at hb1'
  have hb1 : ¬ a = b := fun e => by subst e; exact hb1 rfl
  refine b7 (b4 rfl (a8 (t5 ?_))); exact ret1 () rfl (by rw [decide_eq_false hb1]; rfl) rfl trivial (.refl _) trivial
 have hb1' := hb1; try simp at hb1'
 have hb1 : a.length = b.length := by omega
 refine c4 (c3 (b8 (b7 (b4 rfl (a8 (i8 ?_)))))); refine s9 (β := Nat) ⟨fun k => k ≤ a.length ∧ a.take k = b.take k, fun k => [(0, .slice A a.length ca), (1, .slice B b.length cb), (5, int k)], fun _ => [], fun _ => [Row A (rows a), Row B (rows b)]⟩ (fun k => a.length - k) 0 ⟨Nat.zero_le _, rfl⟩ mC (.refl _) ⟨m0, m1, trivial⟩ fun k hk => ?_; obtain ⟨hk, ht⟩ := hk; refine b8 (b7 (a6 rfl (a6 rfl ?_))); refine j0 rfl T.j2 rfl ?_; refine r9 rfl rfl rfl (a8 ?_)
 first | refine i4 rfl (fun hb2 => ?_) (fun hb2 => ?_) | refine c5 rfl (fun hb2 => ?_) (fun hb2 => ?_)
 ·have hb2' := hb2; try simp at hb2'
  have hb2 : k < a.length := by omega
  refine c4 (c3 (b8 (i8 (b8 ?_)))); refine A8 8 mixed (by decide) (by decide) rfl rfl (i7 (fun w1 => a6 rfl (q_z rfl)) (i7 (fun w1 => a6 rfl (q_z rfl)) (i7 (fun w1 => r6 (α := Mk) _ _ rfl T.j2 T.d3 rfl rfl rfl mB rfl (by omega) (by decide) (q_z rfl)) (i7 (fun w1 => p6 rfl T.i6 T.d3 rfl rfl (k8 mB (n2 (by omega))) (q_z rfl)) (i7 (fun w1 => a6 rfl (q_z rfl)) (i7 (fun w1 => a6 rfl (q_z rfl)) (i7 (fun w1 => r6 (α := Mk) _ _ rfl T.j2 T.d3 rfl rfl rfl mB rfl (by omega) (by decide) (q_z rfl)) ?_))))))); refine i7 (fun w1 => p6 rfl T.i6 T.d3 rfl rfl (k8 mB (n2 (by omega))) (q_z rfl)) ?_; refine t6 ⟨rfl, ?_⟩; refine B6 _ rfl rfl rfl (fun _ => T.sX ..) (fun _ => T.sD ..) ?_; refine a8 ?_
  first | refine i4 rfl (fun hb3 => ?_) (fun hb3 => ?_) | refine c5 rfl (fun hb3 => ?_) (fun hb3 => ?_)
  ·have hb3' := hb3; try simp at hb3'
   have hb3 : ¬ a = b := zY (a := a) (b := b) (k := k) hb3; refine b7 (b4 rfl (a8 (g2 (s8 (k5 (s8 ?_)))))); exact ret1 () rfl (by rw [decide_eq_false hb3]; rfl) rfl trivial (.refl _) trivial
  have hb3' := hb3; try simp at hb3'
  have hb3 : a.getD k default = b.getD k default := Classical.not_not.1 hb3; refine c4 (q6 (c3 (c7 (a6 rfl ?_)))); refine p9 _ rfl rfl rfl rfl n3 ?_; refine b4 rfl (b5 ?_); exact again _ (k + 1) ⟨by omega, by rw [s6 a k hb2, s6 b k (by omega), ht, hb3]⟩ (by first | omega | (simp only; omega)) mC (.refl _) ⟨m0, m1, trivial⟩
 have hb2' := hb2; try simp at hb2'
 have hb2 : k = a.length := by omega
 refine n5 (A3 (n4 (c3 (b7 (b4 rfl (a8 (g2 ?_))))))); exact ret1 () rfl (by rw [decide_eq_true (dA ht (by omega) (by omega))]; rfl) rfl trivial (.refl _) trivial
abbrev OutC := Option Addr × Nat
def outSl {α : Type} [El α] (l : List α) : Con OutC := { inv := fun x => l.length ≤ x.2, val := fun x => .slice x.1 l.length x.2, LO := fun x => [Row x.1 (rows l)] }
end Go.Proofs.YtegfgegnhjkcfaaGreatDoor
end
section
namespace Go.Proofs.YtegfgegnhjkcfaaGreatDoor
open Go Go.W
set_option maxRecDepth 20000
attribute [local irreducible] HL HC HQ HB Row Rows2 Blk Facts
def dice (g : Nat) (A : Option Addr) (c : Nat) (nums : List Int) (s : Int × Int) : Nat × Obj := (g, .cells #[.slice A nums.length c, int s.1, .int .u64 s.2] T.iO (0, 0))
def DOK (nums : List Int) (s : Int × Int) : Prop := 0 ≤ s.1 ∧ s.1 ≤ nums.length ∧ 0 ≤ s.2 ∧ s.2 < 18446744073709551616
def diceCon {β : Type} (g : Nat) (A : Option Addr) (c : Nat) (nums : List Int) (s : Int × Int) (inv : β → Prop) (val : β → Value) (LO : β → List Fact) : Con ((Int × Int) × β) :=
  { hpI := [dice g A c nums s], LI := [Row A (rows nums)], inv := fun x => DOK nums x.1 ∧ inv x.2, val := fun x => val x.2, hpO := fun x => [dice g A c nums x.1], LO := fun x => LO x.2 }
theorem iF {g : Nat} {A : Option Addr} {c : Nat} {nums : List Int} {s : Int × Int} (hn : nums.length ≤ 9223372036854775807) (hs : DOK nums s) :
    Meets Tryz.prog F.bB [.pointer (i5 g)] (diceCon g A c nums s (fun z : Int => 0 ≤ z ∧ z < 18446744073709551616) (fun z => .int .u64 z) (fun _ => [])) := by
 obtain ⟨p, q⟩ := s; obtain ⟨h1, h2, h3, h4⟩ := hs; simp only at h1 h2 h3 h4; obtain ⟨pn, rfl⟩ := Int.eq_ofNat_of_zero_le h1; refine c1 F.nV rfl j9 fun w0 => ?_; refine b7 (b4 rfl (a8 (b8 ?_))); refine A8 11 mixed (by decide) (by decide) rfl rfl (i7 (fun w1 => a6 rfl (q_z rfl)) (i7 (fun w1 => a6 rfl (q_z rfl)) (i7 (fun w1 => d5 rfl rfl (q_z rfl)) ?_)))
 apply j4 _ rfl rfl rfl
 ·intro w1
  first | refine a3 ⟨_, 2, none⟩ rfl rfl T.d4 rfl ?_ | refine a3 _ rfl rfl T.d4 rfl ?_
  refine b5 ?_; exact d8 rfl
 apply j4 _ rfl rfl rfl
 ·intro w1
  first | refine a4 rfl T.l3 rfl (b9 mB rfl) ?_ | refine a4 rfl T.l3 rfl (a9 mB rfl) ?_ | refine a4 rfl T.l3 rfl (b6 mB (a7 (by omega) rfl)) ?_ | refine a4 rfl T.l3 rfl (b3 mB (rows_get (by omega) rfl)) ?_
  refine b5 ?_; exact d8 rfl
 refine i7 (fun w1 => a6 rfl (q_z rfl)) (i7 (fun w1 => d5 rfl rfl (q_z rfl)) ?_)
 apply j4 _ rfl rfl rfl
 ·intro w1
  first | refine a3 ⟨_, 2, none⟩ rfl rfl T.d4 rfl ?_ | refine a3 _ rfl rfl T.d4 rfl ?_
  refine b5 ?_; exact d8 rfl
 apply j4 _ rfl rfl rfl
 ·intro w1
  first | refine a4 rfl T.l3 rfl (b9 mB rfl) ?_ | refine a4 rfl T.l3 rfl (a9 mB rfl) ?_ | refine a4 rfl T.l3 rfl (b6 mB (a7 (by omega) rfl)) ?_ | refine a4 rfl T.l3 rfl (b3 mB (rows_get (by omega) rfl)) ?_
  refine b5 ?_; exact d8 rfl
 refine i7 (fun w1 => B6 _ rfl rfl rfl (fun _ => rfl) (fun _ => rfl) (q_z rfl)) (i7 (fun w1 => B6 _ rfl rfl rfl (fun _ => rfl) (fun _ => rfl) (q_z rfl)) ?_); refine t6 ⟨rfl, ?_⟩; refine d5 rfl rfl ?_
 first | refine a3 ⟨_, 2, none⟩ rfl rfl T.d4 rfl ?_ | refine a3 _ rfl rfl T.d4 rfl ?_
 refine n1 rfl rfl (by first | exact .refl _ | exact perm2 _ _ _ | exact perm3 _ _ _ _ | exact perm4 _ _ _ _ _) T.rQ (by rfl) (by rfl) ?_; refine a8 (b8 ?_); refine A8 11 mixed (by decide) (by decide) rfl rfl (i7 (fun w1 => a6 rfl (q_z rfl)) (i7 (fun w1 => a6 rfl (q_z rfl)) (i7 (fun w1 => d5 rfl rfl (q_z rfl)) ?_)))
 apply j4 _ rfl rfl rfl
 ·intro w1
  first | refine a3 ⟨_, 2, none⟩ rfl rfl T.d4 rfl ?_ | refine a3 _ rfl rfl T.d4 rfl ?_
  refine b5 ?_; exact d8 rfl
 apply j4 _ rfl rfl rfl
 ·intro w1
  first | refine a4 rfl T.l3 rfl (b9 mB rfl) ?_ | refine a4 rfl T.l3 rfl (a9 mB rfl) ?_ | refine a4 rfl T.l3 rfl (b6 mB (a7 (by omega) rfl)) ?_ | refine a4 rfl T.l3 rfl (b3 mB (rows_get (by omega) rfl)) ?_
  refine b5 ?_; exact d8 rfl
 refine i7 (fun w1 => a6 rfl (q_z rfl)) (i7 (fun w1 => d5 rfl rfl (q_z rfl)) ?_)
 apply j4 _ rfl rfl rfl
 ·intro w1
  first | refine a3 ⟨_, 2, none⟩ rfl rfl T.d4 rfl ?_ | refine a3 _ rfl rfl T.d4 rfl ?_
  refine b5 ?_; exact d8 rfl
 apply j4 _ rfl rfl rfl
 ·intro w1
  first | refine a4 rfl T.l3 rfl (b9 mB rfl) ?_ | refine a4 rfl T.l3 rfl (a9 mB rfl) ?_ | refine a4 rfl T.l3 rfl (b6 mB (a7 (by omega) rfl)) ?_ | refine a4 rfl T.l3 rfl (b3 mB (rows_get (by omega) rfl)) ?_
  refine b5 ?_; exact d8 rfl
 refine i7 (fun w1 => B6 _ rfl rfl rfl (fun _ => rfl) (fun _ => rfl) (q_z rfl)) (i7 (fun w1 => B6 _ rfl rfl rfl (fun _ => rfl) (fun _ => rfl) (q_z rfl)) ?_); refine t6 ⟨rfl, ?_⟩; refine d5 rfl rfl ?_
 first | refine a3 ⟨_, 2, none⟩ rfl rfl T.d4 rfl ?_ | refine a3 _ rfl rfl T.d4 rfl ?_
 refine n1 rfl rfl (by first | exact .refl _ | exact perm2 _ _ _ | exact perm3 _ _ _ _ | exact perm4 _ _ _ _ _) T.rQ (by rfl) (by rfl) ?_; refine a8 (b8 ?_); refine A8 11 mixed (by decide) (by decide) rfl rfl (i7 (fun w1 => a6 rfl (q_z rfl)) (i7 (fun w1 => a6 rfl (q_z rfl)) (i7 (fun w1 => d5 rfl rfl (q_z rfl)) ?_)))
 apply j4 _ rfl rfl rfl
 ·intro w1
  first | refine a3 ⟨_, 2, none⟩ rfl rfl T.d4 rfl ?_ | refine a3 _ rfl rfl T.d4 rfl ?_
  refine b5 ?_; exact d8 rfl
 apply j4 _ rfl rfl rfl
 ·intro w1
  first | refine a4 rfl T.l3 rfl (b9 mB rfl) ?_ | refine a4 rfl T.l3 rfl (a9 mB rfl) ?_ | refine a4 rfl T.l3 rfl (b6 mB (a7 (by omega) rfl)) ?_ | refine a4 rfl T.l3 rfl (b3 mB (rows_get (by omega) rfl)) ?_
  refine b5 ?_; exact d8 rfl
 refine i7 (fun w1 => a6 rfl (q_z rfl)) (i7 (fun w1 => d5 rfl rfl (q_z rfl)) ?_)
 apply j4 _ rfl rfl rfl
 ·intro w1
  first | refine a3 ⟨_, 2, none⟩ rfl rfl T.d4 rfl ?_ | refine a3 _ rfl rfl T.d4 rfl ?_
  refine b5 ?_; exact d8 rfl
 apply j4 _ rfl rfl rfl
 ·intro w1
  first | refine a4 rfl T.l3 rfl (b9 mB rfl) ?_ | refine a4 rfl T.l3 rfl (a9 mB rfl) ?_ | refine a4 rfl T.l3 rfl (b6 mB (a7 (by omega) rfl)) ?_ | refine a4 rfl T.l3 rfl (b3 mB (rows_get (by omega) rfl)) ?_
  refine b5 ?_; exact d8 rfl
 refine i7 (fun w1 => B6 _ rfl rfl rfl (fun _ => rfl) (fun _ => rfl) (q_z rfl)) (i7 (fun w1 => B6 _ rfl rfl rfl (fun _ => rfl) (fun _ => rfl) (q_z rfl)) ?_); refine t6 ⟨rfl, ?_⟩; refine d5 rfl rfl ?_
 first | refine a3 ⟨_, 2, none⟩ rfl rfl T.d4 rfl ?_ | refine a3 _ rfl rfl T.d4 rfl ?_
 refine n1 rfl rfl (by first | exact .refl _ | exact perm2 _ _ _ | exact perm3 _ _ _ _ | exact perm4 _ _ _ _ _) T.rQ (by rfl) (by rfl) ?_; refine a8 (mF ?_); refine A8 9 mixed (by decide) (by decide) rfl rfl (i7 (fun w1 => a6 rfl (q_z rfl)) (i7 (fun w1 => d5 rfl rfl (q_z rfl)) ?_))
 apply j4 _ rfl rfl rfl
 ·intro w1
  first | refine a3 ⟨_, 1, none⟩ rfl rfl T.n6 rfl ?_ | refine a3 _ rfl rfl T.n6 rfl ?_
  refine b5 ?_; exact d8 rfl
 apply j4 _ rfl rfl rfl
 ·intro w1
  first | refine a4 rfl T.a5 rfl (b9 mB rfl) ?_ | refine a4 rfl T.a5 rfl (a9 mB rfl) ?_ | refine a4 rfl T.a5 rfl (b6 mB (a7 (by omega) rfl)) ?_ | refine a4 rfl T.a5 rfl (b3 mB (rows_get (by omega) rfl)) ?_
  refine b5 ?_; exact d8 rfl
 refine i7 (fun w1 => a6 rfl (q_z rfl)) (i7 (fun w1 => d5 rfl rfl (q_z rfl)) ?_)
 apply j4 _ rfl rfl rfl
 ·intro w1
  first | refine a3 ⟨_, 0, none⟩ rfl rfl T.w4 rfl ?_ | refine a3 _ rfl rfl T.w4 rfl ?_
  refine b5 ?_; exact d8 rfl
 apply j4 _ rfl rfl rfl
 ·intro w1
  first | refine a4 rfl T.u9 rfl (b9 mB rfl) ?_ | refine a4 rfl T.u9 rfl (a9 mB rfl) ?_ | refine a4 rfl T.u9 rfl (b6 mB (a7 (by omega) rfl)) ?_ | refine a4 rfl T.u9 rfl (b3 mB (rows_get (by omega) rfl)) ?_
  refine b5 ?_; exact d8 rfl
 refine i7 (fun w1 => j0 rfl T.I6 rfl (q_z rfl)) ?_; refine t6 ⟨rfl, ?_⟩; refine r9 rfl rfl rfl (a8 ?_)
 first | refine i4 rfl (fun hb1 => ?_) (fun hb1 => ?_) | refine c5 rfl (fun hb1 => ?_) (fun hb1 => ?_)
 ·have hb1' := hb1; try simp at hb1'
  refine b8 ?_; refine A8 18 mixed (by decide) (by decide) rfl rfl (i7 (fun w1 => a6 rfl (q_z rfl)) (i7 (fun w1 => a6 rfl (q_z rfl)) (i7 (fun w1 => d5 rfl rfl (q_z rfl)) ?_)))
  apply j4 _ rfl rfl rfl
  ·intro w1
   first | refine a3 ⟨_, 2, none⟩ rfl rfl T.d4 rfl ?_ | refine a3 _ rfl rfl T.d4 rfl ?_
   refine b5 ?_; exact d8 rfl
  apply j4 _ rfl rfl rfl
  ·intro w1
   first | refine a4 rfl T.l3 rfl (b9 mB rfl) ?_ | refine a4 rfl T.l3 rfl (a9 mB rfl) ?_ | refine a4 rfl T.l3 rfl (b6 mB (a7 (by omega) rfl)) ?_ | refine a4 rfl T.l3 rfl (b3 mB (rows_get (by omega) rfl)) ?_
   refine b5 ?_; exact d8 rfl
  refine i7 (fun w1 => a6 rfl (q_z rfl)) (i7 (fun w1 => d5 rfl rfl (q_z rfl)) ?_)
  apply j4 _ rfl rfl rfl
  ·intro w1
   first | refine a3 ⟨_, 0, none⟩ rfl rfl T.w4 rfl ?_ | refine a3 _ rfl rfl T.w4 rfl ?_
   refine b5 ?_; exact d8 rfl
  apply j4 _ rfl rfl rfl
  ·intro w1
   first | refine a4 rfl T.u9 rfl (b9 mB rfl) ?_ | refine a4 rfl T.u9 rfl (a9 mB rfl) ?_ | refine a4 rfl T.u9 rfl (b6 mB (a7 (by omega) rfl)) ?_ | refine a4 rfl T.u9 rfl (b3 mB (rows_get (by omega) rfl)) ?_
   refine b5 ?_; exact d8 rfl
  refine i7 (fun w1 => a6 rfl (q_z rfl)) (i7 (fun w1 => d5 rfl rfl (q_z rfl)) ?_)
  apply j4 _ rfl rfl rfl
  ·intro w1
   first | refine a3 ⟨_, 1, none⟩ rfl rfl T.n6 rfl ?_ | refine a3 _ rfl rfl T.n6 rfl ?_
   refine b5 ?_; exact d8 rfl
  apply j4 _ rfl rfl rfl
  ·intro w1
   first | refine a4 rfl T.a5 rfl (b9 mB rfl) ?_ | refine a4 rfl T.a5 rfl (a9 mB rfl) ?_ | refine a4 rfl T.a5 rfl (b6 mB (a7 (by omega) rfl)) ?_ | refine a4 rfl T.a5 rfl (b3 mB (rows_get (by omega) rfl)) ?_
   refine b5 ?_; exact d8 rfl
  refine i7 (fun w1 => r6 (α := Int) _ pn rfl T.I6 T.G8 rfl rfl rfl m1 rfl (by omega) (by decide) (q_z rfl)) (i7 (fun w1 => a4 rfl T.a5 rfl (b6 mB (a7 (by omega) rfl)) (q_z rfl)) (i7 (fun w1 => rU _ rfl T.qS T.yV rfl rfl (q_z rfl)) (i7 (fun w1 => B6 _ rfl rfl rfl (fun _ => rfl) (fun _ => rfl) (q_z rfl)) (i7 (fun w1 => B6 _ rfl rfl rfl (fun _ => rfl) (fun _ => rfl) (q_z rfl)) ?_)))); refine t6 ⟨rfl, ?_⟩; refine d5 rfl rfl ?_
  first | refine a3 ⟨_, 2, none⟩ rfl rfl T.d4 rfl ?_ | refine a3 _ rfl rfl T.d4 rfl ?_
  refine n1 rfl rfl (by first | exact .refl _ | exact perm2 _ _ _ | exact perm3 _ _ _ _ | exact perm4 _ _ _ _ _) T.rQ (by rfl) (by rfl) ?_; refine a8 (c7 (a6 rfl (d5 rfl rfl ?_)))
  first | refine a3 ⟨_, 1, none⟩ rfl rfl T.n6 rfl ?_ | refine a3 _ rfl rfl T.n6 rfl ?_
  first | refine a4 rfl T.a5 rfl (a9 mB rfl) ?_ | refine a4 rfl T.a5 rfl (b9 mB rfl) ?_ | refine a4 rfl T.a5 rfl (b6 mB (a7 (by omega) rfl)) ?_ | refine a4 rfl T.a5 rfl (b3 mB (rows_get (by omega) rfl)) ?_
  refine p9 _ rfl rfl rfl rfl n3 (d5 rfl rfl ?_)
  first | refine a3 ⟨_, 1, none⟩ rfl rfl T.n6 rfl ?_ | refine a3 _ rfl rfl T.n6 rfl ?_
  refine n1 rfl rfl (by first | exact .refl _ | exact perm2 _ _ _ | exact perm3 _ _ _ _ | exact perm4 _ _ _ _ _) T.G8 (by rfl) (by rfl) ?_; refine j6 (a6 rfl (d5 rfl rfl ?_))
  first | refine a3 ⟨_, 2, none⟩ rfl rfl T.d4 rfl ?_ | refine a3 _ rfl rfl T.d4 rfl ?_
  first | refine a4 rfl T.l3 rfl (a9 mB rfl) ?_ | refine a4 rfl T.l3 rfl (b9 mB rfl) ?_ | refine a4 rfl T.l3 rfl (b6 mB (a7 (by omega) rfl)) ?_ | refine a4 rfl T.l3 rfl (b3 mB (rows_get (by omega) rfl)) ?_
  refine b4 rfl (j6 (a6 rfl (a6 rfl ?_))); refine B6 _ rfl rfl rfl (fun _ => rfl) (fun _ => rfl) (B6 _ rfl rfl rfl (fun _ => rfl) (fun _ => rfl) (B6 _ rfl rfl rfl (fun _ => rfl) (fun _ => rfl) ?_)); refine b4 rfl (j6 (a6 rfl (a6 rfl ?_))); refine B6 _ rfl rfl rfl (fun _ => rfl) (fun _ => rfl) (B6 _ rfl rfl rfl (fun _ => rfl) (fun _ => rfl) ?_); refine b4 rfl (a8 (g2 ?_)); exact ret1 ((_, _), _) rfl rfl rfl ⟨⟨by simp only; omega, by simp only; omega, (wrapU _).1, (wrapU _).2⟩, wrapU _⟩ (.refl _) trivial
 have hb1' := hb1; try simp at hb1'
 refine c4 (c3 (b7 (a6 rfl (d5 rfl rfl ?_))))
 first | refine a3 ⟨_, 2, none⟩ rfl rfl T.d4 rfl ?_ | refine a3 _ rfl rfl T.d4 rfl ?_
 first | refine a4 rfl T.l3 rfl (a9 mB rfl) ?_ | refine a4 rfl T.l3 rfl (b9 mB rfl) ?_ | refine a4 rfl T.l3 rfl (b6 mB (a7 (by omega) rfl)) ?_ | refine a4 rfl T.l3 rfl (b3 mB (rows_get (by omega) rfl)) ?_
 refine b4 rfl (j6 (a6 rfl (a6 rfl ?_))); refine B6 _ rfl rfl rfl (fun _ => rfl) (fun _ => rfl) (B6 _ rfl rfl rfl (fun _ => rfl) (fun _ => rfl) (B6 _ rfl rfl rfl (fun _ => rfl) (fun _ => rfl) ?_)); refine b4 rfl (j6 (a6 rfl (a6 rfl ?_))); refine B6 _ rfl rfl rfl (fun _ => rfl) (fun _ => rfl) (B6 _ rfl rfl rfl (fun _ => rfl) (fun _ => rfl) ?_); refine b4 rfl (a8 (g2 ?_)); exact ret1 ((_, _), _) rfl rfl rfl ⟨⟨by simp only; omega, by simp only; omega, (wrapU _).1, (wrapU _).2⟩, wrapU _⟩ (.refl _) trivial
theorem xO {z n : Int} (hz : 0 ≤ z) (hn : 0 ≤ n) : 0 ≤ z.tmod (n + 1) ∧ z.tmod (n + 1) ≤ n := by
  have h1 := Int.tmod_nonneg (n + 1) hz; have h2 := Int.tmod_lt_of_pos z (show 0 < n + 1 by omega)
  omega
def ToInv (n z : Int) : Prop := 0 ≤ z ∧ (1 ≤ n → z ≤ n) ∧ (n < 1 → z = 0)
theorem L7 {g : Nat} {A : Option Addr} {c : Nat} {nums : List Int} {s : Int × Int} (n : Int) (hn : nums.length ≤ 9223372036854775807) (hs : DOK nums s) (hI : n ≤ 9223372036854775806) :
    Meets Tryz.prog F.cU [.pointer (i5 g), int n] (diceCon g A c nums s (ToInv n) (fun z => int z) (fun _ => [])) := by
 refine c1 F.qI rfl j9 fun w0 => ?_; refine b7 (b4 rfl (a8 (b8 (b7 (a6 rfl (r9 rfl rfl rfl (a8 ?_)))))))
 first | refine i4 rfl (fun hb1 => ?_) (fun hb1 => ?_) | refine c5 rfl (fun hb1 => ?_) (fun hb1 => ?_)
 ·have hb1' := hb1; try simp at hb1'
  refine b7 (b4 rfl (a8 (t5 ?_))); exact ret1 (s, 0) rfl rfl rfl ⟨hs, by omega, by intro; omega, by intro; rfl⟩ (.refl _) trivial
 have hb1' := hb1; try simp at hb1'
 refine c4 (c3 (b7 (a6 rfl ?_))); refine c8 F.mA rfl rfl (iF hn hs) (.refl _) ⟨m0, trivial⟩ fun x hx => ?_; obtain ⟨s1, z⟩ := x; obtain ⟨hs1, hz⟩ := hx; simp only at hz; refine B6 _ rfl rfl rfl (fun _ => rfl) (fun _ => rfl) (a6 rfl (p9 _ rfl rfl rfl rfl n3 (rU (n + 1) rfl T.qS T.yV rfl (IntWalk.u64_in _ (by omega)) (r_rem rfl rfl rfl (by omega) ?_)))); have hm := xO (z := z.fdiv (2 ^ min (Int.toNat 16) IntKind.u64.bits)) (n := n) (Int.fdiv_nonneg hz.1 (by decide)) (by omega); refine rU ((z.fdiv (2 ^ min (Int.toNat 16) IntKind.u64.bits)).tmod (n + 1)) rfl T.yV T.qS rfl (IntWalk.i64_in ((z.fdiv (2 ^ min (Int.toNat 16) IntKind.u64.bits)).tmod (n + 1)) (by omega)) ?_; refine b4 rfl (a8 (g2 ?_)); exact ret1 (s1, _) rfl rfl rfl ⟨hs1, hm.1, fun _ => hm.2, fun h => by omega⟩ (.refl _) trivial
theorem gE {g : Nat} {A : Option Addr} {c : Nat} {nums : List Int} {s : Int × Int} (n : Int) (hn : nums.length ≤ 9223372036854775807) (hs : DOK nums s) (hI : 0 ≤ n ∧ n ≤ 9223372036854775806) :
    Meets Tryz.prog F.X2 [.pointer (i5 g), int n] (diceCon g A c nums s (fun _ : Bool => True) (fun z => .bool z) (fun _ => [])) := by
 refine c1 F.mE rfl j9 fun w0 => ?_; refine b7 (b4 rfl (j6 (a6 rfl (a6 rfl ?_)))); refine bE _ rfl rfl rfl rfl n3 ?_; refine c8 F.U4 rfl rfl (L7 (n - 1) hn hs (by omega)) (.refl _) ⟨m0, trivial⟩ fun x hx => ?_; obtain ⟨s1, z⟩ := x; obtain ⟨hs1, hz⟩ := hx; simp only [ToInv] at hz; refine t7 rfl rfl rfl (b4 rfl (a8 (g2 ?_))); exact ret1 (s1, _) rfl rfl rfl ⟨hs1, trivial⟩ (.refl _) trivial
theorem gD {g : Nat} {A B : Option Addr} {c cb : Nat} {nums : List Int} {s : Int × Int} (l : List Str) (hn : nums.length ≤ 9223372036854775807) (hs : DOK nums s) (hl : 0 < l.length) (hl2 : l.length ≤ 1000) :
    Meets Tryz.prog F.X1 [.pointer (i5 g), .slice B l.length cb] { diceCon g A c nums s (fun x : Str => x ∈ l) (fun z => str z) (fun _ => []) with LI := [Row A (rows nums), Row B (rows l)] } := by
 refine c1 F.mD rfl j9 fun w0 => ?_; refine b7 (b4 rfl (j6 (a6 rfl (a6 rfl (a6 rfl ?_))))); refine j0 rfl T.t4 rfl (bE _ rfl rfl rfl rfl n3 ?_); refine c8 F.U4 rfl rfl (L7 ((l.length : Int) - 1) hn hs (by omega)) (.refl _) ⟨m0, trivial⟩ fun x hx => ?_; obtain ⟨s1, z⟩ := x; obtain ⟨hs1, hz⟩ := hx; simp only [ToInv] at hz; obtain ⟨zn, rfl⟩ := Int.eq_ofNat_of_zero_le hz.1
 have hzl : zn < l.length := by
   by_cases h1 : 1 ≤ (l.length : Int) - 1
   · have := hz.2.1 h1; omega
   have := hz.2.2 (by omega); omega
 refine r6 (α := Str) _ _ rfl T.t4 T.u6 rfl rfl rfl mB rfl (by omega) (by decide) (a4 rfl T.i3 rfl (b6 mB (a7 (by omega) rfl)) ?_); refine b4 rfl (a8 (g2 ?_)); exact ret1 (s1, l.getD zn default) rfl rfl rfl ⟨hs1, by simp [List.getD_eq_getElem?_getD, hzl]⟩ (.refl _) trivial
def lineWords : List Str := [[97], [98], [99], [97, 110, 32, 49], [98, 101, 110], [99, 121, 100, 32, 49, 50]]
def PageOK (l : List Str) : Prop := ∀ s ∈ l, s ∈ lineWords
theorem aC {g : Nat} {A : Option Addr} {c : Nat} {nums : List Int} {s : Int × Int} (hn : nums.length ≤ 9223372036854775807) (hs : DOK nums s) :
    Meets Tryz.prog F.iD [.pointer (i5 g)] (diceCon g A c nums s (fun x : Str => x ∈ lineWords) (fun z => str z) (fun _ => [])) := by
 refine c1 F.sM rfl j9 fun w0 => ?_; refine b7 (b4 rfl (j6 (a6 rfl ?_))); refine j3 _ rfl rfl (fun _ => T.yH ..) fun gS => ?_; refine E9 (rows lineWords) (List.prefix_refl _) ?_; refine c8 F.kT rfl rfl (gD lineWords hn hs (by decide) (by decide)) (.refl _) ⟨m1, m0, trivial⟩ fun x hx => ?_; obtain ⟨s1, z⟩ := x; obtain ⟨hs1, hz⟩ := hx; refine b4 rfl (a8 (g2 ?_)); exact ret1 (s1, z) rfl rfl rfl ⟨hs1, hz⟩ (.refl _) trivial
end Go.Proofs.YtegfgegnhjkcfaaGreatDoor
end
