/- Texts. -/
import Derived.Laws.Rows
import Derived.Deep.AppendSrc
import Derived.Deep.Upon
import Derived.Test.YtpfbbggmcbhboaaGreatDoorAAe
set_option linter.unusedVariables false
set_option linter.unusedSimpArgs false
section
namespace Go.W
open Go Go.RowKit
section
variable {c : Cx} {fr : Fr} {hp : Hp} {L : List Fact}
theorem lL {β : Type} {k : Con β} {fn : Func} {w0 : World} (x : β) {t : Tmp} {ty e : TypeId} {g n : Nat} {cs : Array Value} {fz : Nat × Nat} (hres : fn.results = #[.cell t ty]) (hv : lk fr t = some (.pointer (k5 g))) (ht : IsR c.P ty) (hz : Sz c.P ty n) (hn : cs.size = n)
    (hm : (g, Obj.cells cs e fz) ∈ hp) (hk : k.val x = .agg cs) (hb : c.b = k.entry w0) (hi : k.inv x) (h2 : (k.hpO x).Sublist hp) (h3 : LSub L (k.LO x)) (hD : c.D = [] := by rfl) : HQ c (postB c.P fn (k.post w0)) .ret fr hp L :=
  gV x (fun a w ha hw => by
    obtain ⟨dd, ht, hr⟩ := ht; have h1 := hw.own _ hm; simp only at h1
    have hl : (loadVar ty ⟨g, 0, none⟩).run c.P w = .ok (.agg cs) w := by
      have hagg : (isAgg ty).run c.P w = .ok true w := by
        unfold isAgg; rw [Sem.run_bind, run_underlying ht w]
        cases dd <;> simp_all [TypeDesc.isRow]
      have hc := run_loadCells_list (P := c.P) w ⟨g, 0, none⟩ cs.toList (fun j u hu => by rw [iU, Nat.zero_add]; simp at hu; simp [World.cell?, h1, hu]); have hs := U8 hz w; simp only [loadVar, Sem.run_bind, hagg, Result.andThen_ok, if_true, hs, ← hn]; have e : cs.size = cs.toList.length := by simp
      rw [e, hc]
      simp
    have hv' := ha.at_ _ _ hv; rw [hk]; unfold results; rw [hres]; have hv2 : a.tmps[t]?.getD undef = .pointer (k5 g) := by simpa using hv'
    simp [hv2, asAddr, hl]) hb hi h2 h3 hD
theorem L6 {β : Type} {k : Con β} {fn : Func} {w0 : World} (x : β) {t u : Tmp} {ty e : TypeId} {g n : Nat} {cs : Array Value} {fz : Nat × Nat} {v2 : Value} (hres : fn.results = #[.cell t ty, .tmp u]) (hv : lk fr t = some (.pointer (k5 g))) (hv2 : lk fr u = some v2) (ht : IsR c.P ty) (hz : Sz c.P ty n) (hn : cs.size = n)
    (hm : (g, Obj.cells cs e fz) ∈ hp) (hk : k.val x = .tuple #[.agg cs, v2]) (hb : c.b = k.entry w0) (hi : k.inv x) (h2 : (k.hpO x).Sublist hp) (h3 : LSub L (k.LO x)) (hD : c.D = [] := by rfl) : HQ c (postB c.P fn (k.post w0)) .ret fr hp L :=
  gV x (fun a w ha hw => by
    obtain ⟨dd, ht, hr⟩ := ht; have h1 := hw.own _ hm; simp only at h1
    have hl : (loadVar ty ⟨g, 0, none⟩).run c.P w = .ok (.agg cs) w := by
      have hagg : (isAgg ty).run c.P w = .ok true w := by
        unfold isAgg; rw [Sem.run_bind, run_underlying ht w]
        cases dd <;> simp_all [TypeDesc.isRow]
      have hc := run_loadCells_list (P := c.P) w ⟨g, 0, none⟩ cs.toList (fun j u hu => by rw [iU, Nat.zero_add]; simp at hu; simp [World.cell?, h1, hu]); have hs := U8 hz w; simp only [loadVar, Sem.run_bind, hagg, Result.andThen_ok, if_true, hs, ← hn]; have e : cs.size = cs.toList.length := by simp
      rw [e, hc]
      simp
    have hv' := ha.at_ _ _ hv; have hv2' := ha.at_ _ _ hv2; rw [hk]; unfold results; rw [hres]; have h5 : a.tmps[t]?.getD undef = .pointer (k5 g) := by simpa using hv'
    have h6 : a.tmps[u]?.getD undef = v2 := by simpa using hv2'
    simp [h5, h6, asAddr, hl]) hb hi h2 h3 hD
end
section
variable {c : Cx} {Q : Exit → Act → World → Prop} {fr : Fr} {hp : Hp} {L : List Fact} {ops : Array Oper} {rest : List Oper}
variable {d : Tmp} {ty : TypeId} {pos : String} {af : Array Edge}
theorem D6 {t e : TypeId} {x : Operand} {g : Nat} {cs : Array Value} {fz : Nat × Nat} {n : Nat} (hd : Nat.blt d c.n = true) (ht' : IsR c.P t) (hz' : Sz c.P t n) (hx : ev fr x = some (.pointer (k5 g))) (h : Blk g (Obj.cells cs e fz) ∈ L) (hn : cs.size = n)
    (k : HL c ops Q rest ((d, .agg cs) :: fr) hp L) : HL c ops Q (⟨some d, .load t x, ty, pos, af, none⟩ :: rest) fr hp L :=
  u3 (cs := cs.toList) hd ht' hz' hx (by simpa using hn) (pU h (fun i u hu => by simpa using hu)) k
theorem gz4 {t e : TypeId} {x y : Operand} {sz bytes n m cp : Nat} {A B : Option Addr} {olds news : List Value} (n' : Nat) (xs' : List Value) (el : ElT c.P t e sz bytes) (hd : Nat.blt d c.n = true)
    (hx : ev fr x = some (.slice A n n)) (hy : ev fr y = some (.slice B m cp)) (hA : Row A olds ∈ L) (hlo : olds.length = n * sz) (hs : Src c.b hp L B m sz news) (hn' : n + m = n') (hxs : olds ++ news = xs') (hn : n' ≤ maxLen) (hby : n' * bytes ≤ 140737488355328)
    (k : ∀ A' cap', n' ≤ cap' → HL c ops Q rest ((d, .slice A' n' cap') :: fr) hp (Row A' xs' :: L)) :
    HL c ops Q (⟨some d, .call ⟨.builtin .append, #[x, y], #[t, t]⟩, ty, pos, af, none⟩ :: rest) fr hp L :=
  tP rfl rfl hd fun a w ha hw => by
    subst hn'; subst hxs; obtain ⟨i, z, hi, hz, hsz, hb, hzs⟩ := el.i; have hrow := hw.fs _ hA
    have hgs : Go.Src c.P i.size t (.slice B m cp) m news w := by
      rcases hs.2.2 with ⟨rfl, rfl⟩ | h
      · have : news = [] := List.eq_nil_of_length_eq_zero (by simpa using hs.1)
        subst this; exact Go.Src.ofNil w el.u cp
      obtain ⟨ad, rfl, hc⟩ := h w hw; exact Go.Src.ofSlice w el.u ad m cp news (by rw [hsz]; exact hs.1) hc hs.2.1
    by_cases hm : m = 0
    · subst hm
      have : news = [] := List.eq_nil_of_length_eq_zero (by simpa using hs.1); subst this; refine ⟨.slice A n n, w, hp, Row A (olds ++ []) :: L, ?_, hw.weak (.refl _) ?_ |>.add (by simpa using hrow) (fun p hp => by simpa using hw.ap _ hA p hp) (fun k hk => hw.al _ hA k (by simpa using hk)), k A n (Nat.le_refl _)⟩
      · have := run_append_nothing w t t ty e i el.u hi A n n (Nat.le_refl _) (.slice B 0 cp) hgs
        simp only [execOp, resolve, invoke, builtin, Sem.run_bind, Sem.run_pure, Result.andThen_ok, List.map_toArray, List.map_cons, List.map_nil, ha.ev hx, ha.ev hy, this]
      exact fun _ h => h
    have hold : (Builtin.firstCells i.size n (.slice A n n)).run c.P w.drew = .ok olds.toArray w.drew := by
      cases A with
      | none =>
        have : olds = [] := by
          cases olds with
          | nil => rfl
          | cons u r => obtain ⟨ad, e, _⟩ := hrow 0 u rfl; cases e
        subst this
        have hn0 : n = 0 := by
          have := el.pos; simp only [List.length_nil] at hlo
          rcases Nat.eq_zero_or_pos n with h | h
          · exact h
          have := Nat.mul_pos h this; omega
        subst hn0; exact run_firstCells_none _ _ _ _ _
      | some ad => exact run_firstCells_some _ _ _ _ _ _ olds (by rw [hsz]; exact hlo) (fun j u hu => by
          obtain ⟨ad', e, hc⟩ := hrow j u hu
          cases e
          simpa using hc)
    have hrun := run_append_grow_src w t t ty e i z el.u hi hz A n n olds hold (.slice B m cp) m news hgs (by omega) (by unfold maxLen at hn; omega) (growslice_fits (by omega) (by rw [hb]; exact hby)); have h2 := (hw.quiet (gj5 w)).alloc (.cells ((olds ++ news).toArray ++ Builtin.zeroCells z.cells (grownCap w (n + m) n e - (n + m))) e (0, 0)); refine ⟨_, w.drew.alloc (.cells ((olds ++ news).toArray ++ Builtin.zeroCells z.cells (grownCap w (n + m) n e - (n + m))) e), hp, Row (some ⟨w.heap.size, 0, none⟩) (olds ++ news) :: L, ?_, sR h2 ?_, k (some ⟨w.heap.size, 0, none⟩) (grownCap w (n + m) n e) (grownCap_ge w (n + m) n e)⟩
    · simp only [execOp, resolve, invoke, builtin, Sem.run_bind, Sem.run_pure, Result.andThen_ok, List.map_toArray, List.map_cons, List.map_nil, ha.ev hx, ha.ev hy, hrun]
    exact ⟨(Builtin.zeroCells z.cells (grownCap w (n + m) n e - (n + m))).toList, by simp⟩
end
section
variable {κ : Type} [DecidableEq κ] {enc : κ → Value} {kt e : TypeId}
variable {c : Cx} {Q : Exit → Act → World → Prop} {fr : Fr} {hp : Hp} {L : List Fact} {ops : Array Oper} {rest : List Oper}
variable {d : Tmp} {ty : TypeId} {pos : String} {af : Array Edge}
theorem hz8 {t : TypeId} {x y : Operand} {g : Nat} {l : List (Ment κ)} {clk : Nat} {k : κ} (z v : Value) (b : Bool) (K : KeyC c.P kt enc) (hd : Nat.blt d c.n = true) (ht : c.P.underlying t = some (.map kt e)) (hx : ev fr x = some (.map (some g))) (hy : ev fr y = some (enc k)) (hm : MapAt c.b hp L g (mapO enc l clk))
    (hz : ∀ w, (zeroValue e).run c.P w = .ok z w) (hv : (getM l k).getD z = v) (hb : (getM l k).isSome = b) (kk : HL c ops Q rest ((d, .tuple #[v, .bool b]) :: fr) hp L) : HL c ops Q (⟨some d, .lookup t x y true, ty, pos, af, none⟩ :: rest) fr hp L := by
  subst hv; subst hb
  cases hg : getM l k with
  | none => rw [hg] at kk; exact nz5 K hd ht hx hy hm hz hg kk
  | some u => rw [hg] at kk; exact rj4 K hd ht hx hy hm hg kk
theorem rj9 {l : List (Ment κ)} {k : κ} {v : Value} {clk : Nat} {p : Ment κ} (h : p ∈ putM l k v clk) : (p.1 = k ∧ p.2.1 = v) ∨ p ∈ l := by
  unfold putM at h
  cases hf : findM k l 0 with
  | none =>
    rw [hf] at h
    rcases List.mem_append.1 h with h | h
    · exact .inr h
    simp at h; subst h; exact .inl ⟨rfl, rfl⟩
  | some q =>
    obtain ⟨i, u⟩ := q; rw [hf] at h; simp only at h; obtain ⟨n, hn⟩ := List.getElem?_of_mem h; rw [List.getElem?_modify] at hn
    cases hl : l[n]? with
    | none => rw [hl] at hn; cases hn
    | some r =>
      rw [hl] at hn; simp only [Option.map_eq_map, Option.map_some, Option.some.injEq] at hn
      split at hn
      · subst hn; exact .inl ⟨rfl, rfl⟩
      subst hn; exact .inr (List.mem_of_getElem? hl)
theorem lj0 {l : List (Ment κ)} {k : κ} {v : Value} (h : getM l k = some v) : ∃ p ∈ l, p.1 = k ∧ p.2.1 = v := by
  unfold getM at h
  cases hf : findM k l 0 with
  | none => rw [hf] at h; cases h
  | some q =>
    obtain ⟨i, u⟩ := q; rw [hf] at h; simp only [Option.map_some, Option.some.injEq] at h; subst h; obtain ⟨m, p, _, h2, h3, h4⟩ := zQ l 0 i u hf; exact ⟨p, List.mem_of_getElem? h2, h3, h4⟩
end
theorem iz0 {α : Type} {l' : List α} : ∀ {l : List α}, (∀ p : α → Bool, l'.countP p ≤ l.countP p) → ∃ r, l.Perm (l' ++ r) := by
  classical
  induction l' with
  | nil => intro l _; exact ⟨l, .refl _⟩
  | cons a t ih =>
    intro l h; have h1 := h (fun x => decide (x = a)); rw [List.countP_cons_of_pos (by simp)] at h1
    have ha : a ∈ l := by
      have : 0 < l.countP (fun x => decide (x = a)) := by omega
      obtain ⟨x, hx, e⟩ := List.countP_pos_iff.1 this
      simp at e
      exact e ▸ hx
    have hp := List.perm_cons_erase ha
    obtain ⟨r, hr⟩ := ih (l := l.erase a) (fun p => by
      have h2 := h p; have h3 := hp.countP_eq p; rw [List.countP_cons] at h2 h3
      omega)
    exact ⟨r, hp.trans (hr.cons a)⟩
theorem WI.count {b : Bx} {w : World} {hp hp' : Hp} {L L' : List Fact} (h : WI b w hp L) (hc : ∀ p : Nat × Obj → Bool, hp'.countP p ≤ hp.countP p) (h2 : ∀ F ∈ L', F ∈ L) : WI b w hp' L' := by
  obtain ⟨r, hr⟩ := iz0 hc; exact (h.perm hr).weak (List.sublist_append_left _ _) h2
section
variable {c : Cx} {Q : Exit → Act → World → Prop} {fr : Fr} {hp : Hp} {L : List Fact} {ops : Array Oper} {rest : List Oper}
theorem uH {β : Type} (s : Sta β) (z : β) (hz : s.inv z) (h1 : FrSub fr (s.fr z)) (h2 : ∀ p : Nat × Obj → Bool, (s.hp z).countP p ≤ hp.countP p) (h3 : LSub L (s.L z)) : HQ c (Exit.then (s.holds c) Q) .normal fr hp L :=
  fun _ _ ha hw => ⟨z, hz, ha.sub h1, hw.count h2 h3.mem⟩
end
section
variable {c : Cx} {Q : Exit → Act → World → Prop} {fr : Fr} {hp : Hp} {L : List Fact} {ops : Array Oper} {rest : List Oper}
theorem bW {b : Bx} {w : World} {g : Nat} {o : Obj} (h : WI b w ((g, o) :: hp) L) : WI b w hp (Blk g o :: L) := h.letgo (h.own (g, o) (by simp)) (fun k hk => hk)
theorem O6 {g : Nat} {o : Obj} {x : Code} (k : HC c x Q fr hp (Blk g o :: L)) : HC c x Q fr ((g, o) :: hp) L := fun a w ha hw => k a w ha (bW hw)
theorem pq7 {g : Nat} {o : Obj} (k : HL c ops Q rest fr hp (Blk g o :: L)) : HL c ops Q rest fr ((g, o) :: hp) L := fun a w ha hw => k a w ha (bW hw)
end
def Facts (Fs : List Fact) : Fact where
  P w := ∀ F ∈ Fs, F.P w
  fp k := ∃ F ∈ Fs, F.fp k
  st w w' h hP F hF := F.st w w' (fun k hk => h k ⟨F, hF, hk⟩) (hP F hF)
  lt w hP k hk := by obtain ⟨F, hF, hk⟩ := hk; exact F.lt w (hP F hF) k hk
section
variable {c : Cx} {Q : Exit → Act → World → Prop} {fr : Fr} {hp : Hp} {L : List Fact} {ops : Array Oper} {rest : List Oper}
theorem mx7 {b : Bx} {w : World} {Fs : List Fact} {F : Fact} (h : Facts Fs ∈ L) (hF : F ∈ Fs) (hw : WI b w hp L) : WI b w hp (F :: L) := cH hw (hw.fs _ h F hF) (fun k hk => ⟨_, h, F, hF, hk⟩)
theorem cz8 {Fs : List Fact} {F : Fact} (h : Facts Fs ∈ L) (hF : F ∈ Fs) (k : HL c ops Q rest fr hp (F :: L)) : HL c ops Q rest fr hp L := fun a w ha hw => k a w ha (mx7 h hF hw)
theorem hq_pick {Fs : List Fact} {F : Fact} {x : Exit} (h : Facts Fs ∈ L) (hF : F ∈ Fs) (k : HQ c Q x fr hp (F :: L)) : HQ c Q x fr hp L := fun a w ha hw => k a w ha (mx7 h hF hw)
theorem xI {b : Bx} {w : World} {Fs : List Fact} (h : ∀ F ∈ Fs, F ∈ L ∨ ∃ Gs, Facts Gs ∈ L ∧ F ∈ Gs) (hw : WI b w hp L) : WI b w hp (Facts Fs :: L) :=
  cH hw (fun F hF => by
    rcases h F hF with h1 | ⟨Gs, h1, h2⟩
    · exact hw.fs _ h1
    · exact hw.fs _ h1 F h2) (fun k hk => by
    obtain ⟨F, hF, hk⟩ := hk
    rcases h F hF with h1 | ⟨Gs, h1, h2⟩
    · exact ⟨F, h1, hk⟩
    exact ⟨_, h1, F, h2, hk⟩)
theorem rz4 {Fs : List Fact} (h : ∀ F ∈ Fs, F ∈ L ∨ ∃ Gs, Facts Gs ∈ L ∧ F ∈ Gs) (k : HL c ops Q rest fr hp (Facts Fs :: L)) : HL c ops Q rest fr hp L := fun a w ha hw => k a w ha (xI h hw)
theorem sj0 {Fs : List Fact} {x : Code} (h : ∀ F ∈ Fs, F ∈ L ∨ ∃ Gs, Facts Gs ∈ L ∧ F ∈ Gs) (k : HC c x Q fr hp (Facts Fs :: L)) : HC c x Q fr hp L := fun a w ha hw => k a w ha (xI h hw)
theorem tN {Fs : List Fact} {x : Exit} (h : ∀ F ∈ Fs, F ∈ L ∨ ∃ Gs, Facts Gs ∈ L ∧ F ∈ Gs) (k : HQ c Q x fr hp (Facts Fs :: L)) : HQ c Q x fr hp L := fun a w ha hw => k a w ha (xI h hw)
end
section
variable {c : Cx} {Q : Exit → Act → World → Prop} {fr : Fr} {hp : Hp} {L : List Fact} {ops : Array Oper} {rest : List Oper}
theorem M0 {e : Exit} {α : Type} [El α] (k : HQ c Q e fr hp (Row none (rows ([] : List α)) :: L)) : HQ c Q e fr hp L := nj5 (F := Row none (rows ([] : List α))) (fun w _ => Row.nil _ w) (fun k hk => by obtain ⟨_, e, _⟩ := hk; cases e) k
theorem pq6 {α : Type} [El α] (k : HL c ops Q rest fr hp (Row none (rows ([] : List α)) :: L)) : HL c ops Q rest fr hp L := nj6 (F := Row none (rows ([] : List α))) (fun w _ => Row.nil _ w) (fun k hk => by obtain ⟨_, e, _⟩ := hk; cases e) k
theorem uU {e : Exit} (k : HQ c Q e fr hp (Row none [] :: L)) : HQ c Q e fr hp L := nj5 (F := Row none []) (fun w _ => Row.nil _ w) (fun k hk => by obtain ⟨_, e, _⟩ := hk; cases e) k
end
end Go.W
end
section
namespace Go.Proofs.YtpfbbggmcbhboaaGreatDoor
open Go Go.W Tryz T F
set_option maxRecDepth 20000
attribute [local irreducible] HL HC HQ HB Row Rows2 Blk Facts
theorem v7 {α : Type} [Inhabited α] (l : List α) (k : Nat) (h : k < l.length) : l.take (k + 1) = l.take k ++ [l.getD k default] := by
  rw [List.take_succ_eq_append_getElem h]
  simp [List.getD_eq_getElem?_getD, h]
theorem mA {α : Type} {a b : List α} {k : Nat} (h : a.take k = b.take k) (ha : a.length ≤ k) (hb : b.length ≤ k) : a = b := by
  rwa [List.take_of_length_le ha, List.take_of_length_le hb] at h
theorem nj1 {α : Type} [Inhabited α] {a b : List α} {k : Nat} (h : ¬ a.getD k default = b.getD k default) : ¬ a = b := fun e => h (by rw [e])
theorem iW {A B : Option Addr} {ca cb : Nat} (a b : List Str) (ha : a.length ≤ 9223372036854775806) :
    Meets prog gN [.slice A a.length ca, .slice B b.length cb] { LI := [Row A (rows a), Row B (rows b)], val := fun _ : Unit => .bool (decide (a = b)) } := by
 refine i3 xB rfl q6 fun w0 => ?_; refine c7 (c3 rfl (b8 (c8 (c7 (b7 rfl ?_))))); refine l8 rfl r5 rfl (b7 rfl (l8 rfl r5 rfl ?_)); refine y5 rfl rfl rfl (b8 ?_)
 first | refine k8 rfl (fun hb1 => ?_) (fun hb1 => ?_) | refine d9 rfl (fun hb1 => ?_) (fun hb1 => ?_)
 ·have hb1' := hb1; try simp at hb1'
  have hb1 : ¬ a = b := fun e => by subst e; exact hb1 rfl
  refine c7 (c3 rfl (b8 (D4 ?_))); exact ret1 () rfl (by rw [decide_eq_false hb1]; rfl) rfl tK (.refl _) tK
 have hb1' := hb1; try simp at hb1'
 have hb1 : a.length = b.length := by omega
 refine d8 (d4 (c8 (c7 (c3 rfl (b8 (k6 ?_)))))); refine y6 (β := Nat) ⟨fun k => k ≤ a.length ∧ a.take k = b.take k, fun k => [(0, .slice A a.length ca), (1, .slice B b.length cb), (5, int k)], fun _ => [], fun _ => [Row A (rows a), Row B (rows b)]⟩ (fun k => a.length - k) 0 ⟨Nat.zero_le _, rfl⟩ mC (.refl _) ⟨m0, m1, tK⟩ fun k hk => ?_; obtain ⟨hk, ht⟩ := hk; refine c8 (c7 (b7 rfl (b7 rfl ?_))); refine l8 rfl r5 rfl ?_; refine z8 rfl rfl rfl (b8 ?_)
 first | refine k8 rfl (fun hb2 => ?_) (fun hb2 => ?_) | refine d9 rfl (fun hb2 => ?_) (fun hb2 => ?_)
 ·have hb2' := hb2; try simp at hb2'
  have hb2 : k < a.length := by omega
  refine d8 (d4 (c8 (k6 (c8 ?_)))); refine V3 8 mixed (by decide) (by decide) rfl rfl (v0 rfl (v0 rfl (u9 (fun w1 => z5 (α := Str) _ _ rfl r5 z2 rfl rfl rfl mB rfl (by omega) (by decide) (q_z rfl)) (u9 (fun w1 => b6 rfl j5 rfl (i9 mB (d7 (by omega) rfl)) (q_z rfl)) (v0 rfl (v0 rfl (u9 (fun w1 => z5 (α := Str) _ _ rfl r5 z2 rfl rfl rfl mB rfl (by omega) (by decide) (q_z rfl)) (u9 (fun w1 => b6 rfl j5 rfl (i9 mB (d7 (by omega) rfl)) (q_z rfl)) ?_)))))))); refine E8 ⟨rfl, ?_⟩; refine dq4 rfl rfl rfl (b8 ?_)
  first | refine k8 rfl (fun hb3 => ?_) (fun hb3 => ?_) | refine d9 rfl (fun hb3 => ?_) (fun hb3 => ?_)
  ·have hb3' := hb3; try simp at hb3'
   have hb3 : ¬ a = b := nj1 (a := a) (b := b) (k := k) hb3; refine c7 (c3 rfl (b8 (l4 (C7 (r9 (C7 ?_)))))); exact ret1 () rfl (by rw [decide_eq_false hb3]; rfl) rfl tK (.refl _) tK
  have hb3' := hb3; try simp at hb3'
  have hb3 : a.getD k default = b.getD k default := Classical.not_not.1 hb3; refine d8 (u7 (d4 (i4 (b7 rfl ?_)))); refine v6 _ rfl rfl rfl rfl r6 ?_; refine c3 rfl (d6 ?_); exact again _ (k + 1) ⟨by omega, by rw [v7 a k hb2, v7 b k (by omega), ht, hb3]⟩ (by first | omega | (simp only; omega)) mC (.refl _) ⟨m0, m1, tK⟩
 have hb2' := hb2; try simp at hb2'
 have hb2 : k = a.length := by omega
 refine s9 (E4 (u6 (d4 (c7 (c3 rfl (b8 (l4 ?_))))))); exact ret1 () rfl (by rw [decide_eq_true (mA ht (by omega) (by omega))]; rfl) rfl tK (.refl _) tK
theorem aG {A B : Option Addr} {ca cb : Nat} (a b : List Int) (ha : a.length ≤ 9223372036854775806) :
    Meets prog mU [.slice A a.length ca, .slice B b.length cb] { LI := [Row A (rows a), Row B (rows b)], val := fun _ : Unit => .bool (decide (a = b)) } := by
 refine i3 cx2 rfl q6 fun w0 => ?_; refine c7 (c3 rfl (b8 (c8 (c7 (b7 rfl ?_))))); refine l8 rfl L8 rfl (b7 rfl (l8 rfl L8 rfl ?_)); refine y5 rfl rfl rfl (b8 ?_)
 first | refine k8 rfl (fun hb1 => ?_) (fun hb1 => ?_) | refine d9 rfl (fun hb1 => ?_) (fun hb1 => ?_)
 ·have hb1' := hb1; try simp at hb1'
  have hb1 : ¬ a = b := fun e => by subst e; exact hb1 rfl
  refine c7 (c3 rfl (b8 (D4 ?_))); exact ret1 () rfl (by rw [decide_eq_false hb1]; rfl) rfl tK (.refl _) tK
 have hb1' := hb1; try simp at hb1'
 have hb1 : a.length = b.length := by omega
 refine d8 (d4 (c8 (c7 (c3 rfl (b8 (k6 ?_)))))); refine y6 (β := Nat) ⟨fun k => k ≤ a.length ∧ a.take k = b.take k, fun k => [(0, .slice A a.length ca), (1, .slice B b.length cb), (5, int k)], fun _ => [], fun _ => [Row A (rows a), Row B (rows b)]⟩ (fun k => a.length - k) 0 ⟨Nat.zero_le _, rfl⟩ mC (.refl _) ⟨m0, m1, tK⟩ fun k hk => ?_; obtain ⟨hk, ht⟩ := hk; refine c8 (c7 (b7 rfl (b7 rfl ?_))); refine l8 rfl L8 rfl ?_; refine z8 rfl rfl rfl (b8 ?_)
 first | refine k8 rfl (fun hb2 => ?_) (fun hb2 => ?_) | refine d9 rfl (fun hb2 => ?_) (fun hb2 => ?_)
 ·have hb2' := hb2; try simp at hb2'
  have hb2 : k < a.length := by omega
  refine d8 (d4 (c8 (k6 (c8 ?_)))); refine V3 8 mixed (by decide) (by decide) rfl rfl (v0 rfl (v0 rfl (u9 (fun w1 => z5 (α := Int) _ _ rfl L8 J2 rfl rfl rfl mB rfl (by omega) (by decide) (q_z rfl)) (u9 (fun w1 => b6 rfl a9 rfl (i9 mB (d7 (by omega) rfl)) (q_z rfl)) (v0 rfl (v0 rfl (u9 (fun w1 => z5 (α := Int) _ _ rfl L8 J2 rfl rfl rfl mB rfl (by omega) (by decide) (q_z rfl)) (u9 (fun w1 => b6 rfl a9 rfl (i9 mB (d7 (by omega) rfl)) (q_z rfl)) ?_)))))))); refine E8 ⟨rfl, ?_⟩; refine y5 rfl rfl rfl (b8 ?_)
  first | refine k8 rfl (fun hb3 => ?_) (fun hb3 => ?_) | refine d9 rfl (fun hb3 => ?_) (fun hb3 => ?_)
  ·have hb3' := hb3; try simp at hb3'
   have hb3 : ¬ a = b := nj1 (a := a) (b := b) (k := k) hb3; refine c7 (c3 rfl (b8 (l4 (C7 (r9 (C7 ?_)))))); exact ret1 () rfl (by rw [decide_eq_false hb3]; rfl) rfl tK (.refl _) tK
  have hb3' := hb3; try simp at hb3'
  have hb3 : a.getD k default = b.getD k default := Classical.not_not.1 hb3; refine d8 (u7 (d4 (i4 (b7 rfl ?_)))); refine v6 _ rfl rfl rfl rfl r6 ?_; refine c3 rfl (d6 ?_); exact again _ (k + 1) ⟨by omega, by rw [v7 a k hb2, v7 b k (by omega), ht, hb3]⟩ (by first | omega | (simp only; omega)) mC (.refl _) ⟨m0, m1, tK⟩
 have hb2' := hb2; try simp at hb2'
 have hb2 : k = a.length := by omega
 refine s9 (E4 (u6 (d4 (c7 (c3 rfl (b8 (l4 ?_))))))); exact ret1 () rfl (by rw [decide_eq_true (mA ht (by omega) (by omega))]; rfl) rfl tK (.refl _) tK
theorem X4 {A B : Option Addr} {ca cb : Nat} (a b : List Mk) (ha : a.length ≤ 9223372036854775806) :
    Meets prog kX [.slice A a.length ca, .slice B b.length cb] { LI := [Row A (rows a), Row B (rows b)], val := fun _ : Unit => .bool (decide (a = b)) } := by
 refine i3 az4 rfl q6 fun w0 => ?_; refine c7 (c3 rfl (b8 (c8 (c7 (b7 rfl ?_))))); refine l8 rfl l9 rfl (b7 rfl (l8 rfl l9 rfl ?_)); refine y5 rfl rfl rfl (b8 ?_)
 first | refine k8 rfl (fun hb1 => ?_) (fun hb1 => ?_) | refine d9 rfl (fun hb1 => ?_) (fun hb1 => ?_)
 ·have hb1' := hb1; try simp at hb1'
  have hb1 : ¬ a = b := fun e => by subst e; exact hb1 rfl
  refine c7 (c3 rfl (b8 (D4 ?_))); exact ret1 () rfl (by rw [decide_eq_false hb1]; rfl) rfl tK (.refl _) tK
 have hb1' := hb1; try simp at hb1'
 have hb1 : a.length = b.length := by omega
 refine d8 (d4 (c8 (c7 (c3 rfl (b8 (k6 ?_)))))); refine y6 (β := Nat) ⟨fun k => k ≤ a.length ∧ a.take k = b.take k, fun k => [(0, .slice A a.length ca), (1, .slice B b.length cb), (5, int k)], fun _ => [], fun _ => [Row A (rows a), Row B (rows b)]⟩ (fun k => a.length - k) 0 ⟨Nat.zero_le _, rfl⟩ mC (.refl _) ⟨m0, m1, tK⟩ fun k hk => ?_; obtain ⟨hk, ht⟩ := hk; refine c8 (c7 (b7 rfl (b7 rfl ?_))); refine l8 rfl l9 rfl ?_; refine z8 rfl rfl rfl (b8 ?_)
 first | refine k8 rfl (fun hb2 => ?_) (fun hb2 => ?_) | refine d9 rfl (fun hb2 => ?_) (fun hb2 => ?_)
 ·have hb2' := hb2; try simp at hb2'
  have hb2 : k < a.length := by omega
  refine d8 (d4 (c8 (k6 (c8 ?_)))); refine V3 8 mixed (by decide) (by decide) rfl rfl (v0 rfl (v0 rfl (u9 (fun w1 => z5 (α := Mk) _ _ rfl l9 c6 rfl rfl rfl mB rfl (by omega) (by decide) (q_z rfl)) (u9 (fun w1 => u3 rfl j0 c6 rfl rfl (q8 mB (s6 (by omega))) (q_z rfl)) (v0 rfl (v0 rfl (u9 (fun w1 => z5 (α := Mk) _ _ rfl l9 c6 rfl rfl rfl mB rfl (by omega) (by decide) (q_z rfl)) (u9 (fun w1 => u3 rfl j0 c6 rfl rfl (q8 mB (s6 (by omega))) (q_z rfl)) ?_)))))))); refine E8 ⟨rfl, ?_⟩; refine vS _ rfl rfl rfl (fun _ => rU ..) (fun _ => rS ..) (b8 ?_)
  first | refine k8 rfl (fun hb3 => ?_) (fun hb3 => ?_) | refine d9 rfl (fun hb3 => ?_) (fun hb3 => ?_)
  ·have hb3' := hb3; try simp at hb3'
   have hb3 : ¬ a = b := nj1 (a := a) (b := b) (k := k) hb3; refine c7 (c3 rfl (b8 (l4 (C7 (r9 (C7 ?_)))))); exact ret1 () rfl (by rw [decide_eq_false hb3]; rfl) rfl tK (.refl _) tK
  have hb3' := hb3; try simp at hb3'
  have hb3 : a.getD k default = b.getD k default := Classical.not_not.1 hb3; refine d8 (u7 (d4 (i4 (b7 rfl ?_)))); refine v6 _ rfl rfl rfl rfl r6 ?_; refine c3 rfl (d6 ?_); exact again _ (k + 1) ⟨by omega, by rw [v7 a k hb2, v7 b k (by omega), ht, hb3]⟩ (by first | omega | (simp only; omega)) mC (.refl _) ⟨m0, m1, tK⟩
 have hb2' := hb2; try simp at hb2'
 have hb2 : k = a.length := by omega
 refine s9 (E4 (u6 (d4 (c7 (c3 rfl (b8 (l4 ?_))))))); exact ret1 () rfl (by rw [decide_eq_true (mA ht (by omega) (by omega))]; rfl) rfl tK (.refl _) tK
abbrev OutC := Option Addr × Nat
def outSl {α : Type} [El α] (l : List α) : Con OutC := { inv := fun x => l.length ≤ x.2, val := fun x => .slice x.1 l.length x.2, LO := fun x => [Row x.1 (rows l)] }
def DOK (nums : List Int) (s : Int × Int) : Prop := 0 ≤ s.1 ∧ s.1 ≤ nums.length ∧ 0 ≤ s.2 ∧ s.2 < 18446744073709551616
def ToInv (n z : Int) : Prop := 0 ≤ z ∧ (1 ≤ n → z ≤ n) ∧ (n < 1 → z = 0)
def lineWords : List Str := [[97], [98], [99], [97, 110, 32, 49], [98, 101, 110], [99, 121, 100, 32, 49, 50]]
def PageOK (l : List Str) : Prop := ∀ s ∈ l, s ∈ lineWords
def lineBad (u : UInt8) : Bool := (decide ((u.toNat : Int) < 97) || decide (122 < (u.toNat : Int))) && (decide ((u.toNat : Int) < 48) || decide (57 < (u.toNat : Int))) && decide (¬ (u.toNat : Int) = 32)
def lineErr (s : Str) : Int := if s.length = 0 then 7 else if 10 < s.length then 10 else if s.any lineBad then 2 else if s.take 1 = [32] ∨ s.drop (s.length - 1) = [32] then 2 else 0
def firstErr {α : Type} (f : α → Int) : List α → Int
  | [] => 0
  | a :: l => if f a = 0 then firstErr f l else f a
def pageErr (p : List Str) : Int := if 6 < p.length then 6 else firstErr lineErr p
theorem mX {α : Type} {f : α → Int} {l : List α} {k : Nat} (hk : k < l.length) (h : firstErr f (l.take k) = 0) : firstErr f (l.take (k + 1)) = f l[k] := by
  induction l generalizing k with
  | nil => simp at hk
  | cons a l ih =>
    cases k with
    | zero => simp [firstErr]; intro h; exact h.symm
    | succ k =>
      simp only [List.take_succ_cons, firstErr] at h ⊢
      split at h
      · rename_i h0
        rw [if_pos h0]; exact ih (by simpa using hk) h
      rename_i h0; exact absurd h h0
theorem aA {α : Type} {f : α → Int} {l : List α} {k : Nat} (hk : k < l.length) (h : firstErr f (l.take k) = 0) (h1 : ¬ f l[k] = 0) : firstErr f l = f l[k] := by
  induction l generalizing k with
  | nil => simp at hk
  | cons a l ih =>
    cases k with
    | zero => simp at h1; simp [firstErr, h1]
    | succ k =>
      simp only [List.take_succ_cons, firstErr] at h ⊢
      split at h
      · rename_i h0
        rw [if_pos h0]; exact ih (by simpa using hk) h (by simpa using h1)
      rename_i h0; exact absurd h h0
theorem sx9 {α : Type} {f : α → Bool} {l : List α} {k : Nat} (hk : k < l.length) (h : (l.take k).any f = false) (h1 : f l[k] = false) : (l.take (k + 1)).any f = false := by
  rw [List.take_succ_eq_append_getElem hk, List.any_append, h]; simp [h1]
theorem any_at {α : Type} {f : α → Bool} {l : List α} {k : Nat} (hk : k < l.length) (h1 : f l[k] = true) : l.any f = true := List.any_eq_true.2 ⟨_, List.getElem_mem hk, h1⟩
theorem N1 {α : Type} [Inhabited α] {l : List α} {k : Nat} (hk : k < l.length) : l.getD k default = l[k] := by simp [List.getD_eq_getElem?_getD, hk]
theorem byte_eq {u : UInt8} {n : Nat} (hn : n < 256) : (u.toNat : Int) = (n : Int) ↔ u = UInt8.ofNat n := by
  constructor
  · intro h
    have : u.toNat = n := by omega
    rw [← this]; simp
  intro h; subst h
  simp; omega
theorem aL (s p : Str) (hs : s.length ≤ 1000000) (hp : p.length ≤ 1000000) :
    Meets prog G1 [str s, str p] { val := fun _ : Unit => .bool (decide (p.length ≤ s.length ∧ s.take p.length = p)) } := by
 refine i3 bD rfl q6 fun w0 => ?_; refine c7 (c3 rfl (n7 (b7 rfl ?_))); refine A7 rfl l7 rfl (b7 rfl (A7 rfl l7 rfl ?_)); refine lN rfl rfl rfl (b7 rfl ?_); refine n6 rfl rfl ?_ ?_
 ·intro hg1; have hg1' := hg1; try simp at hg1'
  have hle : p.length ≤ s.length := by simpa using hg1
  refine k9 hg1 (b7 rfl (k9 hg1 (b7 rfl (k9 hg1 ?_)))); refine A7 rfl l7 rfl (k9 hg1 (tD p.length rfl l7 rfl rfl rfl (by omega) ?_)); refine k9 hg1 (b7 rfl (k9 hg1 (mF rfl rfl rfl ?_))); refine p_t rfl rfl (bt1 hg1) rfl ?_; refine c3 rfl (b8 (l4 ?_)); exact ret1 () rfl (congrArg (fun b => some (Value.bool b)) (by simp [hle])) rfl tK (.refl _) tK
 intro hg1; have hg1' := hg1; try simp at hg1'
 have hle : ¬ p.length ≤ s.length := by simpa using hg1
 refine u2 hg1 (u2 hg1 (u2 hg1 (u2 hg1 (u2 hg1 (u2 hg1 ?_))))); refine p_f rfl rfl (bf2 hg1) rfl ?_; refine c3 rfl (b8 (l4 ?_)); exact ret1 () rfl (congrArg (fun b => some (Value.bool b)) (by simp [hle])) rfl tK (.refl _) tK
theorem nG (s p : Str) (hs : s.length ≤ 1000000) (hp : p.length ≤ 1000000) :
    Meets prog Y9 [str s, str p] { val := fun _ : Unit => .bool (decide (p.length ≤ s.length ∧ s.take p.length = p)) } := by
 refine i3 qY rfl q6 fun w0 => ?_; refine c7 (c3 rfl (n7 (b7 rfl (b7 rfl ?_)))); refine d5 aR rfl rfl (aL s p hs hp) (.refl _) tK fun _ _ => ?_; refine c3 rfl (b8 (l4 ?_)); exact ret1 () rfl rfl rfl tK (.refl _) tK
theorem aK (s p : Str) (hs : s.length ≤ 1000000) (hp : p.length ≤ 1000000) :
    Meets prog G0 [str s, str p] { val := fun _ : Unit => .bool (decide (p.length ≤ s.length ∧ s.drop (s.length - p.length) = p)) } := by
 refine i3 bC rfl q6 fun w0 => ?_; refine c7 (c3 rfl (n7 (b7 rfl ?_))); refine A7 rfl l7 rfl (b7 rfl (A7 rfl l7 rfl ?_)); refine lN rfl rfl rfl (b7 rfl ?_); refine n6 rfl rfl ?_ ?_
 ·intro hg1; have hg1' := hg1; try simp at hg1'
  have hle : p.length ≤ s.length := by simpa using hg1
  refine k9 hg1 (b7 rfl (k9 hg1 (b7 rfl (k9 hg1 ?_)))); refine A7 rfl l7 rfl ?_; refine k9 hg1 (b7 rfl (k9 hg1 ?_)); refine A7 rfl l7 rfl (k9 hg1 (iF ((s.length - p.length : Nat) : Int) rfl rfl rfl (by omega) r6 (k9 hg1 (lM (s.length - p.length) rfl l7 rfl rfl (by omega) (by omega) ?_)))); refine k9 hg1 (b7 rfl (k9 hg1 (mF rfl rfl rfl ?_))); refine p_t rfl rfl (bt1 hg1) rfl ?_; refine c3 rfl (b8 (l4 ?_)); exact ret1 () rfl (congrArg (fun b => some (Value.bool b)) (by simp [hle])) rfl tK (.refl _) tK
 intro hg1; have hg1' := hg1; try simp at hg1'
 have hle : ¬ p.length ≤ s.length := by simpa using hg1
 refine u2 hg1 (u2 hg1 (u2 hg1 (u2 hg1 (u2 hg1 (u2 hg1 (u2 hg1 (u2 hg1 (u2 hg1 ?_)))))))); refine p_f rfl rfl (bf2 hg1) rfl ?_; refine c3 rfl (b8 (l4 ?_)); exact ret1 () rfl (congrArg (fun b => some (Value.bool b)) (by simp [hle])) rfl tK (.refl _) tK
theorem nF (s p : Str) (hs : s.length ≤ 1000000) (hp : p.length ≤ 1000000) :
    Meets prog Y8 [str s, str p] { val := fun _ : Unit => .bool (decide (p.length ≤ s.length ∧ s.drop (s.length - p.length) = p)) } := by
 refine i3 qX rfl q6 fun w0 => ?_; refine c7 (c3 rfl (n7 (b7 rfl (b7 rfl ?_)))); refine d5 aQ rfl rfl (aK s p hs hp) (.refl _) tK fun _ _ => ?_; refine c3 rfl (b8 (l4 ?_)); exact ret1 () rfl rfl rfl tK (.refl _) tK
theorem dQ (s : Str) :
    Meets prog bT [str s] { val := fun _ : Unit => int (lineErr s) } := by
 refine i3 tY rfl q6 fun w0 => ?_; refine c7 (c3 rfl (b8 (c8 (c7 (b7 rfl ?_))))); refine A7 rfl l7 rfl ?_; refine E3 rfl rfl rfl (b8 ?_)
 first | refine k8 rfl (fun hb1 => ?_) (fun hb1 => ?_) | refine d9 rfl (fun hb1 => ?_) (fun hb1 => ?_)
 ·have hb1' := hb1; try simp at hb1'
  have hb1 : s.length = 0 := by omega
  refine c7 (c3 rfl (b8 (D4 ?_))); exact ret1 () rfl (congrArg (fun b => some (int b)) (by simp [lineErr, hb1])) rfl tK (.refl _) tK
 have hb1' := hb1; try simp at hb1'
 have hb1 : ¬ s.length = 0 := by omega
 refine d8 (d4 (c8 (c7 (b7 rfl ?_)))); refine A7 rfl l7 rfl ?_; refine M5 rfl rfl rfl (b8 ?_)
 first | refine k8 rfl (fun hb2 => ?_) (fun hb2 => ?_) | refine d9 rfl (fun hb2 => ?_) (fun hb2 => ?_)
 ·have hb2' := hb2; try simp at hb2'
  have hb2 : 10 < s.length := by omega
  refine c7 (c3 rfl (b8 (D4 ?_))); exact ret1 () rfl (congrArg (fun b => some (int b)) (by simp [lineErr, hb1, hb2])) rfl tK (.refl _) tK
 have hb2' := hb2; try simp at hb2'
 have hb2 : ¬ 10 < s.length := by omega
 refine d8 (d4 (c8 (c7 (b7 rfl ?_)))); refine cz4 rfl l7 A5 pZ rfl fun gb cap => l8 rfl A5 rfl ?_; refine b7 rfl (b8 (k6 ?_)); refine y6 (β := Nat) ⟨fun k => k ≤ s.length ∧ (s.take k).any lineBad = false, fun k => [(0, str s), (12, .slice (k5 gb) s.length cap), (13, int s.length), (14, int k)], fun _ => [], fun _ => [Row (k5 gb) (rows s)]⟩ (fun k => s.length - k) 0 ⟨Nat.zero_le _, rfl⟩ mC (.refl _) ⟨m0, tK⟩ fun k hk => ?_; obtain ⟨hk, ht⟩ := hk; refine c7 (z8 rfl rfl rfl (b8 (c8 ?_)))
 first | refine k8 rfl (fun hb3 => ?_) (fun hb3 => ?_) | refine d9 rfl (fun hb3 => ?_) (fun hb3 => ?_)
 ·have hb3' := hb3; try simp at hb3'
  have hb3 : k < s.length := by omega
  refine d8 (d4 (c8 (k6 (c7 ?_)))); refine z5 (α := UInt8) _ _ rfl A5 xM rfl rfl rfl mB rfl (by omega) (by decide) ?_; refine b6 rfl qC rfl (i9 m0 (d7 hb3 (by rw [N1 hb3]; rfl))) ?_; refine c3 rfl (b8 ?_); refine dz6 ⟨fun _ : Unit => True, fun _ => [(0, str s), (12, .slice (k5 gb) s.length cap), (13, int s.length), (14, int k), (35, .bool (lineBad s[k]))], fun _ => [], fun _ => [Row (k5 gb) (rows s)]⟩ ?_ ?_
  ·skip
   refine i4 (b7 rfl (z8 rfl rfl rfl (b7 rfl ?_))); refine n6 rfl rfl ?_ ?_
   ·intro hg1; have hg1' := hg1; try simp at hg1'
    refine k9 hg1 (b7 rfl (k9 hg1 (M5 rfl rfl rfl ?_))); refine p_f rfl rfl (bf1 hg1) rfl (b7 rfl ?_); refine n6 rfl rfl ?_ ?_
    ·intro hg2; have hg2' := hg2; try simp at hg2'
     refine k9 hg2 (b7 rfl (k9 hg2 (z8 rfl rfl rfl (k9 hg2 (b7 rfl ?_))))); refine n6 rfl rfl ?_ ?_
     ·intro hg3; have hg3' := hg3; try simp at hg3'
      refine k9 hg3 (b7 rfl (k9 hg3 (M5 rfl rfl rfl (k9 hg2 ?_)))); refine p_f rfl rfl (bf1 hg3) rfl (p_t rfl rfl (bt1 hg2) rfl (b7 rfl ?_)); refine n6 rfl rfl ?_ ?_
      ·intro hg4; have hg4' := hg4; try simp at hg4'
       refine k9 hg4 (b7 rfl (k9 hg4 (y5 rfl rfl rfl ?_))); refine p_t rfl rfl (bt1 hg4) rfl (d6 ?_); exact gq4 _ () tK ⟨rfl, rfl, rfl, rfl, congrArg (fun b => some (Value.bool b)) (by simp only [lineBad]; simp [*, Int.not_le, Int.not_lt, Int.not_lt.2, Int.not_le.2]), tK⟩ (.refl _) ⟨m0, tK⟩
      intro hg4; have hg4' := hg4; try simp at hg4'
      refine u2 hg4 (u2 hg4 ?_); refine p_f rfl rfl (bf2 hg4) rfl (d6 ?_); exact gq4 _ () tK ⟨rfl, rfl, rfl, rfl, congrArg (fun b => some (Value.bool b)) (by simp only [lineBad]; simp [*, Int.not_le, Int.not_lt, Int.not_lt.2, Int.not_le.2]), tK⟩ (.refl _) ⟨m0, tK⟩
     intro hg3; have hg3' := hg3; try simp at hg3'
     refine u2 hg3 (u2 hg3 (k9 hg2 ?_)); refine p_t rfl rfl (bt2 hg3) rfl (p_t rfl rfl (bt1 hg2) rfl ?_); refine b7 rfl (Y6 rfl rfl rfl (b7 rfl (Y6 rfl rfl rfl (y5 rfl rfl rfl (p_t rfl rfl rfl rfl (d6 ?_)))))); exact gq4 _ () tK ⟨rfl, rfl, rfl, rfl, congrArg (fun b => some (Value.bool b)) (by simp only [lineBad]; simp [*, Int.not_le, Int.not_lt, Int.not_lt.2, Int.not_le.2]), tK⟩ (.refl _) ⟨m0, tK⟩
    intro hg2; have hg2' := hg2; try simp at hg2'
    refine u2 hg2 (u2 hg2 (u2 hg2 (vW rfl rfl rfl rfl rfl rfl (vW rfl rfl rfl rfl rfl rfl (u2 hg2 ?_))))); refine p_f rfl rfl (bf2 hg2) rfl ?_; refine b7 rfl (mL rfl rfl rfl rfl rfl rfl (mL rfl rfl rfl rfl rfl rfl (p_f rfl rfl rfl rfl (d6 ?_)))); exact gq4 _ () tK ⟨rfl, rfl, rfl, rfl, congrArg (fun b => some (Value.bool b)) (by simp only [lineBad]; simp [*, Int.not_le, Int.not_lt, Int.not_lt.2, Int.not_le.2]), tK⟩ (.refl _) ⟨m0, tK⟩
   intro hg1; have hg1' := hg1; try simp at hg1'
   refine u2 hg1 (u2 hg1 ?_); refine p_t rfl rfl (bt2 hg1) rfl ?_; refine b7 rfl (Y6 rfl rfl rfl (b7 rfl (Y6 rfl rfl rfl (z8 rfl rfl rfl (Y6 rfl rfl rfl (b7 rfl ?_)))))); refine n6 rfl rfl ?_ ?_
   ·intro hg5; have hg5' := hg5; try simp at hg5'
    refine k9 hg5 (b7 rfl (k9 hg5 (M5 rfl rfl rfl (Y6 rfl rfl rfl ?_)))); refine p_f rfl rfl (bf1 hg5) rfl ?_; refine p_t rfl rfl rfl rfl (b7 rfl ?_); refine n6 rfl rfl ?_ ?_
    ·intro hg6; have hg6' := hg6; try simp at hg6'
     refine k9 hg6 (b7 rfl (k9 hg6 (y5 rfl rfl rfl ?_))); refine p_t rfl rfl (bt1 hg6) rfl (d6 ?_); exact gq4 _ () tK ⟨rfl, rfl, rfl, rfl, congrArg (fun b => some (Value.bool b)) (by simp only [lineBad]; simp [*, Int.not_le, Int.not_lt, Int.not_lt.2, Int.not_le.2]), tK⟩ (.refl _) ⟨m0, tK⟩
    intro hg6; have hg6' := hg6; try simp at hg6'
    refine u2 hg6 (u2 hg6 ?_); refine p_f rfl rfl (bf2 hg6) rfl (d6 ?_); exact gq4 _ () tK ⟨rfl, rfl, rfl, rfl, congrArg (fun b => some (Value.bool b)) (by simp only [lineBad]; simp [*, Int.not_le, Int.not_lt, Int.not_lt.2, Int.not_le.2]), tK⟩ (.refl _) ⟨m0, tK⟩
   intro hg5; have hg5' := hg5; try simp at hg5'
   refine u2 hg5 (u2 hg5 (Y6 rfl rfl rfl ?_)); refine p_t rfl rfl (bt2 hg5) rfl ?_; refine p_t rfl rfl rfl rfl (b7 rfl (Y6 rfl rfl rfl (b7 rfl (Y6 rfl rfl rfl (y5 rfl rfl rfl (p_t rfl rfl rfl rfl (d6 ?_))))))); exact gq4 _ () tK ⟨rfl, rfl, rfl, rfl, congrArg (fun b => some (Value.bool b)) (by simp only [lineBad]; simp [*, Int.not_le, Int.not_lt, Int.not_lt.2, Int.not_le.2]), tK⟩ (.refl _) ⟨m0, tK⟩
  refine fun _ _ => ?_
  first | refine k8 rfl (fun hb4 => ?_) (fun hb4 => ?_) | refine d9 rfl (fun hb4 => ?_) (fun hb4 => ?_)
  ·have hb4' := hb4; try simp at hb4'
   refine c7 (c3 rfl (b8 (l4 (C7 (r9 (C7 ?_)))))); exact ret1 () rfl (congrArg (fun b => some (int b)) (by simp [lineErr, hb1, hb2, any_at hb3 hb4])) rfl tK (.refl _) tK
  have hb4' := hb4; try simp at hb4'
  refine d8 (u7 (d4 (i4 ?_))); refine v6 _ rfl rfl rfl rfl r6 ?_; refine b7 rfl (d6 ?_); exact again _ (k + 1) ⟨by omega, sx9 hb3 ht hb4⟩ (D5 (by omega)) mC (.refl _) ⟨m0, tK⟩
 have hb3' := hb3; try simp at hb3'
 have hb3 : k = s.length := by omega
 subst hb3; rw [List.take_length] at ht; refine s9 (E4 (u6 (d4 (c8 (c7 (b7 rfl ?_)))))); refine d5 pD rfl rfl (nG s [32] (by omega) (by decide)) (.refl _) tK fun _ _ => b7 rfl ?_; refine n6 rfl rfl ?_ ?_
 ·intro hg7; have hg7' := hg7; try simp at hg7'
  have hp1 := of_decide_eq_false (bf1 hg7); simp only [List.length_cons, List.length_nil] at hp1; have hp1 : ¬ s.take 1 = [32] := fun e => hp1 ⟨by omega, e⟩; refine k9 hg7 (b7 rfl (k9 hg7 ?_)); refine d5 pC rfl rfl (nF s [32] (by omega) (by decide)) (.refl _) tK fun _ _ => p_f rfl rfl (bf1 hg7) rfl (b8 ?_)
  first | refine k8 rfl (fun hb5 => ?_) (fun hb5 => ?_) | refine d9 rfl (fun hb5 => ?_) (fun hb5 => ?_)
  ·have hb5' := hb5; try simp at hb5'
   have h5 := hb5; simp only [List.length_cons, List.length_nil] at h5; refine c7 (c3 rfl (b8 (D4 ?_))); exact ret1 () rfl (congrArg (fun b => some (int b)) (by simp [lineErr, hb1, hb2, ht, h5.2])) rfl tK (.refl _) tK
  have hb5' := hb5; try simp at hb5'
  have h5 := hb5; simp only [List.length_cons, List.length_nil] at h5; have h5 : ¬ s.drop (s.length - 1) = [32] := fun e => h5 ⟨by omega, e⟩; refine d8 (d4 (c7 (c3 rfl (b8 (l4 ?_))))); exact ret1 () rfl (congrArg (fun b => some (int b)) (by simp only [lineErr]; rw [if_neg hb1, if_neg hb2, ht, if_neg (by simp), if_neg (by simp [hp1, h5])])) rfl tK (.refl _) tK
 intro hg7; have hg7' := hg7; try simp at hg7'
 have hp1 := of_decide_eq_true (bt2 hg7); simp only [List.length_cons, List.length_nil] at hp1; refine u2 hg7 (u2 hg7 ?_); refine p_t rfl rfl (bt2 hg7) rfl ?_; refine b8 (c_t rfl rfl (c7 (c3 rfl (b8 (D4 ?_))))); exact ret1 () rfl (congrArg (fun b => some (int b)) (by simp [lineErr, hb1, hb2, ht, hp1.2])) rfl tK (.refl _) tK
theorem uC {α : Type} [Inhabited α] {f : α → Int} {l : List α} {k : Nat} (hk : k < l.length) (h : firstErr f (l.take k) = 0) : firstErr f (l.take (k + 1)) = f (l.getD k default) := by rw [mX hk h, N1 hk]
theorem zP {α : Type} [Inhabited α] {f : α → Int} {l : List α} {k : Nat} (hk : k < l.length) (h : firstErr f (l.take k) = 0) (h1 : ¬ f (l.getD k default) = 0) : firstErr f l = f (l.getD k default) := by
  rw [N1 hk] at h1 ⊢; exact aA hk h h1
def textErr (m : Mk) : Int := if ¬ m.1 = 3 then lineErr m.2.2 else if ¬ m.2.2 = [] then 2 else 0
def mErr (n : Nat) (m : Mk) (k : Nat) (b : Mk) : Int :=
  if m.1 < 1 ∨ 3 < m.1 then 8 else if m.2.1 < 0 ∨ (n : Int) - 1 + (if m.1 = 1 then 1 else 0) < m.2.1 then 3 else if ¬ textErr m = 0 then textErr m else if k = 0 then 0 else
  if m.2.1 < b.2.1 then 5 else if b.2.1 < m.2.1 ∨ b.1 = 1 then 0 else if m.1 = 1 then 5 else 4
def markErr (n : Nat) (l : List Mk) (k : Nat) : Int := mErr n (l.getD k default) k (l.getD (k - 1) default)
def marksErr (n : Nat) (l : List Mk) : Int := if 12 < l.length then 6 else firstErr (markErr n l) (List.range l.length)
theorem gE {n : Nat} {l : List Mk} {k : Nat} (ht : firstErr (markErr n l) (List.range k) = 0) (h0 : mErr n (l.getD k default) k (l.getD (k - 1) default) = 0) : firstErr (markErr n l) (List.range (k + 1)) = 0 := by
  have h1 : (List.range (k + 1)).take k = List.range k := by rw [List.take_range]; simp
  have := mX (f := markErr n l) (l := List.range (k + 1)) (k := k) (by simp) (by rw [h1]; exact ht); rw [List.take_of_length_le (by simp)] at this; rw [this]
  simpa [markErr] using h0
theorem P0 {n : Nat} {l : List Mk} {k : Nat} {e : Int} (h12 : ¬ 12 < l.length) (hk : k < l.length) (ht : firstErr (markErr n l) (List.range k) = 0) (h0 : mErr n (l.getD k default) k (l.getD (k - 1) default) = e) (he : ¬ e = 0) : marksErr n l = e := by
  have h1 : (List.range l.length).take k = List.range k := by rw [List.take_range, Nat.min_eq_left (Nat.le_of_lt hk)]
  have := aA (f := markErr n l) (l := List.range l.length) (k := k) (by simpa using hk) (by rw [h1]; exact ht) (by simp only [List.getElem_range]; unfold markErr; rw [h0]; exact he); rw [marksErr, if_neg h12, this]; simp only [List.getElem_range]; exact h0
theorem nz8 {n : Nat} {l : List Mk} {k : Nat} (h12 : ¬ 12 < l.length) (hk : k = l.length) (ht : firstErr (markErr n l) (List.range k) = 0) : marksErr n l = 0 := by
  subst hk; rw [marksErr, if_neg h12, ht]
def checkErr (p : List Str) (l : List Mk) : Int := if pageErr p = 0 then marksErr p.length l else pageErr p
theorem B3 {A : Option Addr} {c : Nat} (p : List Str) :
    Meets prog M8 [.slice A p.length c] { LI := [Row A (rows p)], val := fun _ : Unit => int (pageErr p) } := by
 refine i3 az0 rfl q6 fun w0 => ?_; refine c7 (c3 rfl (b8 (c8 (c7 (b7 rfl ?_))))); refine l8 rfl r5 rfl ?_; refine M5 rfl rfl rfl (b8 ?_)
 first | refine k8 rfl (fun hb1 => ?_) (fun hb1 => ?_) | refine d9 rfl (fun hb1 => ?_) (fun hb1 => ?_)
 ·have hb1' := hb1; try simp at hb1'
  have hb1 : 6 < p.length := by omega
  refine c7 (c3 rfl (b8 (D4 ?_))); exact ret1 () rfl (congrArg (fun b => some (int b)) (by rw [pageErr, if_pos hb1])) rfl tK nK tK
 have hb1' := hb1; try simp at hb1'
 have hb1 : ¬ 6 < p.length := by omega
 refine d8 (d4 (c8 (c7 (b7 rfl ?_)))); refine l8 rfl r5 rfl ?_; refine b7 rfl (b8 (k6 ?_)); refine y6 (β := Nat) ⟨fun k => k ≤ p.length ∧ firstErr lineErr (p.take k) = 0, fun k => [(9, .slice A p.length c), (10, int p.length), (11, int k)], fun _ => [], fun _ => [Row A (rows p)]⟩ (fun k => p.length - k) 0 ⟨Nat.zero_le _, rfl⟩ mC (.refl _) ⟨m0, tK⟩ fun k hk => ?_; obtain ⟨hk, ht⟩ := hk; refine c7 (z8 rfl rfl rfl (b8 (c8 ?_)))
 first | refine k8 rfl (fun hb2 => ?_) (fun hb2 => ?_) | refine d9 rfl (fun hb2 => ?_) (fun hb2 => ?_)
 ·have hb2' := hb2; try simp at hb2'
  have hb2 : k < p.length := by omega
  refine d8 (d4 (c8 (k6 (c7 ?_)))); refine z5 (α := Str) _ _ rfl r5 z2 rfl rfl rfl mB rfl (by omega) (by decide) (b6 rfl j5 rfl (i9 mB (d7 (by omega) rfl)) ?_); refine c3 rfl (n7 (b7 rfl ?_)); refine d5 dS rfl rfl (dQ (p.getD k default)) (.refl _) tK fun _ _ => ?_; refine c3 rfl (n7 (b7 rfl (y5 rfl rfl rfl (b8 ?_))))
  first | refine k8 rfl (fun hb3 => ?_) (fun hb3 => ?_) | refine d9 rfl (fun hb3 => ?_) (fun hb3 => ?_)
  ·have hb3' := hb3; try simp at hb3'
   refine c7 (b7 rfl (c3 rfl (b8 (l4 (C7 (r9 (C7 ?_))))))); exact ret1 () rfl (congrArg (fun b => some (int b)) (by rw [pageErr, if_neg hb1, zP hb2 ht hb3])) rfl tK nK tK
  have hb3' := hb3; try simp at hb3'
  refine d8 (u7 (d4 (i4 ?_))); refine v6 _ rfl rfl rfl rfl r6 ?_; refine b7 rfl (d6 ?_); exact again _ (k + 1) ⟨by omega, by rw [uC hb2 ht]; omega⟩ (D5 (by omega)) mC (.refl _) ⟨m0, tK⟩
 have hb2' := hb2; try simp at hb2'
 have hb2 : k = p.length := by omega
 subst hb2; rw [List.take_length] at ht; refine s9 (E4 (u6 (d4 (c7 (c3 rfl (b8 (l4 ?_))))))); exact ret1 () rfl (congrArg (fun b => some (int b)) (by rw [pageErr, if_neg hb1, ht])) rfl tK nK tK
theorem N0 (m : Mk) : Meets prog bQ [.agg #[int m.1, int m.2.1, str m.2.2]] { val := fun _ : Unit => int (textErr m) } := by
 refine i3 tV rfl q6 fun w0 => c7 (aJ rfl rfl fun gB => ?_); refine c3 rfl (b8 (c8 (c7 ?_)))
 first | refine b3 ⟨_, 0, none⟩ rfl rfl j9 rfl ?_ | refine b3 _ rfl rfl j9 rfl ?_
 first | refine b6 rfl a9 rfl (i5 mB rfl) ?_ | refine b6 rfl a9 rfl (j4 mB rfl) ?_ | refine b6 rfl a9 rfl (i9 mB (d7 (by omega) rfl)) ?_ | refine b6 rfl a9 rfl (i7 mB (rows_get (by omega) rfl)) ?_
 refine y5 rfl rfl rfl (b8 ?_)
 first | refine k8 rfl (fun hb1 => ?_) (fun hb1 => ?_) | refine d9 rfl (fun hb1 => ?_) (fun hb1 => ?_)
 ·have hb1' := hb1; try simp at hb1'
  refine c7 ?_
  first | refine b3 ⟨_, 2, none⟩ rfl rfl q7 rfl ?_ | refine b3 _ rfl rfl q7 rfl ?_
  first | refine b6 rfl j5 rfl (i5 mB rfl) ?_ | refine b6 rfl j5 rfl (j4 mB rfl) ?_ | refine b6 rfl j5 rfl (i9 mB (d7 (by omega) rfl)) ?_ | refine b6 rfl j5 rfl (i7 mB (rows_get (by omega) rfl)) ?_
  refine d5 dS rfl rfl (dQ m.2.2) l6 tK fun _ _ => ?_; refine c3 rfl (b8 (D4 ?_)); exact ret1 () rfl (congrArg (fun b => some (int b)) (by rw [textErr, if_pos hb1])) rfl tK nK tK
 have hb1' := hb1; try simp at hb1'
 refine d8 (d4 (c8 (c7 ?_)))
 first | refine b3 ⟨_, 2, none⟩ rfl rfl q7 rfl ?_ | refine b3 _ rfl rfl q7 rfl ?_
 first | refine b6 rfl j5 rfl (i5 mB rfl) ?_ | refine b6 rfl j5 rfl (j4 mB rfl) ?_ | refine b6 rfl j5 rfl (i9 mB (d7 (by omega) rfl)) ?_ | refine b6 rfl j5 rfl (i7 mB (rows_get (by omega) rfl)) ?_
 refine dq4 rfl rfl rfl (b8 ?_)
 first | refine k8 rfl (fun hb2 => ?_) (fun hb2 => ?_) | refine d9 rfl (fun hb2 => ?_) (fun hb2 => ?_)
 ·have hb2' := hb2; try simp at hb2'
  refine c7 (c3 rfl (b8 (D4 ?_))); exact ret1 () rfl (congrArg (fun b => some (int b)) (by rw [textErr, if_neg hb1, if_pos hb2])) rfl tK nK tK
 have hb2' := hb2; try simp at hb2'
 refine d8 (d4 (c7 (c3 rfl (b8 (l4 ?_))))); exact ret1 () rfl (congrArg (fun b => some (int b)) (by rw [textErr, if_neg hb1, if_neg hb2])) rfl tK nK tK
theorem cP {A B : Option Addr} {n ca cb : Nat} (l : List Mk) (hn : n ≤ 1000000) :
    Meets prog aO [.slice A n ca, .slice B l.length cb] { LI := [Row B (rows l)], val := fun _ : Unit => int (marksErr n l) } := by
 refine i3 sL rfl q6 fun w0 => ?_; refine c7 (c3 rfl (b8 (c8 (c7 (b7 rfl ?_))))); refine l8 rfl l9 rfl ?_; refine M5 rfl rfl rfl (b8 ?_)
 first | refine k8 rfl (fun hb1 => ?_) (fun hb1 => ?_) | refine d9 rfl (fun hb1 => ?_) (fun hb1 => ?_)
 ·have hb1' := hb1; try simp at hb1'
  have h12 : 12 < l.length := by omega
  refine c7 (c3 rfl (b8 (D4 ?_))); exact ret1 () rfl (congrArg (fun b => some (int b)) (by rw [marksErr, if_pos h12])) rfl tK nK tK
 have hb1' := hb1; try simp at hb1'
 have h12 : ¬ 12 < l.length := by omega
 refine d8 (d4 (c8 (c7 (b7 rfl ?_)))); refine l8 rfl l9 rfl ?_; refine b7 rfl (b8 (k6 ?_)); refine y6 (β := Nat) ⟨fun k => k ≤ l.length ∧ firstErr (markErr n l) (List.range k) = 0, fun k => [(0, .slice A n ca), (1, .slice B l.length cb), (13, .slice B l.length cb), (14, int l.length), (15, int k)], fun _ => [], fun _ => [Row B (rows l)]⟩ (fun k => l.length - k) 0 ⟨Nat.zero_le _, rfl⟩ mC (.refl _) ⟨m0, tK⟩ fun k hk => ?_; obtain ⟨hk, ht⟩ := hk; refine c7 (z8 rfl rfl rfl (b8 (c8 ?_)))
 first | refine k8 rfl (fun hb2 => ?_) (fun hb2 => ?_) | refine d9 rfl (fun hb2 => ?_) (fun hb2 => ?_)
 ·have hb2' := hb2; try simp at hb2'
  have hk2 : k < l.length := by omega
  refine d8 (d4 (c8 (k6 (c7 (b7 rfl ?_))))); refine z5 (α := Mk) _ _ rfl l9 c6 rfl rfl rfl mB rfl (by omega) (by decide) (u3 rfl j0 c6 rfl rfl (q8 mB (s6 (by omega))) (y9 rfl (fun _ => r7 _) fun gA => c3 rfl (u0 rfl rfl M6 c6 (by rfl) (by rfl) ?_))); refine b8 (yR ?_); generalize hm : l.getD k default = m; refine i4 ?_
  first | refine b3 ⟨_, 0, none⟩ rfl rfl j9 rfl ?_ | refine b3 _ rfl rfl j9 rfl ?_
  first | refine b6 rfl a9 rfl (i5 mB rfl) ?_ | refine b6 rfl a9 rfl (j4 mB rfl) ?_ | refine b6 rfl a9 rfl (i9 mB (d7 (by omega) rfl)) ?_ | refine b6 rfl a9 rfl (i7 mB (rows_get (by omega) rfl)) ?_
  refine z8 rfl rfl rfl (b7 rfl ?_); refine n6 rfl rfl ?_ ?_
  ·intro hg1; have hg1' := hg1; try simp at hg1'
   refine k9 hg1 ?_
   first | refine b3 ⟨_, 0, none⟩ rfl rfl j9 rfl ?_ | refine b3 _ rfl rfl j9 rfl ?_
   refine k9 hg1 ?_
   first | refine b6 rfl a9 rfl (i5 mB rfl) ?_ | refine b6 rfl a9 rfl (j4 mB rfl) ?_ | refine b6 rfl a9 rfl (i9 mB (d7 (by omega) rfl)) ?_ | refine b6 rfl a9 rfl (i7 mB (rows_get (by omega) rfl)) ?_
   refine k9 hg1 (M5 rfl rfl rfl ?_); refine p_f rfl rfl (bf1 hg1) rfl (b8 ?_)
   first | refine k8 rfl (fun hb3 => ?_) (fun hb3 => ?_) | refine d9 rfl (fun hb3 => ?_) (fun hb3 => ?_)
   ·have hb3' := hb3; try simp at hb3'
    refine c7 (c3 rfl (b8 (D4 (C7 (r9 (C7 ?_)))))); exact ret1 () rfl (congrArg (fun b => some (int b)) (by refine (P0 h12 hk2 ht (e := 8) (by first | (exfalso; omega) | (rw [hm]; (try rw [hm2]); unfold mErr; (repeat (first | rw [if_pos (by omega)] | rw [if_neg (by omega)])); done)) (by omega)).symm)) rfl tK nK tK
   have hb3' := hb3; try simp at hb3'
   refine d8 (d4 (c7 (b7 rfl ?_))); refine l8 rfl r5 rfl (iF _ rfl rfl rfl rfl r6 ?_); refine c3 rfl (b8 (c8 (c7 ?_)))
   first | refine b3 ⟨_, 0, none⟩ rfl rfl j9 rfl ?_ | refine b3 _ rfl rfl j9 rfl ?_
   first | refine b6 rfl a9 rfl (i5 mB rfl) ?_ | refine b6 rfl a9 rfl (j4 mB rfl) ?_ | refine b6 rfl a9 rfl (i9 mB (d7 (by omega) rfl)) ?_ | refine b6 rfl a9 rfl (i7 mB (rows_get (by omega) rfl)) ?_
   refine E3 rfl rfl rfl (b8 ?_)
   first | refine k8 rfl (fun hb4 => ?_) (fun hb4 => ?_) | refine d9 rfl (fun hb4 => ?_) (fun hb4 => ?_)
   ·have hb4' := hb4; try simp at hb4'
    refine i4 (b7 rfl ?_); refine v6 _ rfl rfl rfl rfl r6 ?_; refine c3 rfl (b8 (c8 (c7 ?_)))
    first | refine b3 ⟨_, 1, none⟩ rfl rfl i8 rfl ?_ | refine b3 _ rfl rfl i8 rfl ?_
    first | refine b6 rfl a9 rfl (i5 mB rfl) ?_ | refine b6 rfl a9 rfl (j4 mB rfl) ?_ | refine b6 rfl a9 rfl (i9 mB (d7 (by omega) rfl)) ?_ | refine b6 rfl a9 rfl (i7 mB (rows_get (by omega) rfl)) ?_
    refine z8 rfl rfl rfl (b7 rfl ?_); refine n6 rfl rfl ?_ ?_
    ·intro hg2; have hg2' := hg2; try simp at hg2'
     refine k9 hg2 ?_
     first | refine b3 ⟨_, 1, none⟩ rfl rfl i8 rfl ?_ | refine b3 _ rfl rfl i8 rfl ?_
     refine k9 hg2 ?_
     first | refine b6 rfl a9 rfl (i5 mB rfl) ?_ | refine b6 rfl a9 rfl (j4 mB rfl) ?_ | refine b6 rfl a9 rfl (i9 mB (d7 (by omega) rfl)) ?_ | refine b6 rfl a9 rfl (i7 mB (rows_get (by omega) rfl)) ?_
     refine k9 hg2 (b7 rfl (k9 hg2 (M5 rfl rfl rfl ?_))); refine p_f rfl rfl (bf1 hg2) rfl (b8 ?_)
     first | refine k8 rfl (fun hb5 => ?_) (fun hb5 => ?_) | refine d9 rfl (fun hb5 => ?_) (fun hb5 => ?_)
     ·have hb5' := hb5; try simp at hb5'
      refine c7 (c3 rfl (b8 (D4 (C7 (r9 (C7 ?_)))))); exact ret1 () rfl (congrArg (fun b => some (int b)) (by refine (P0 h12 hk2 ht (e := 3) (by first | (exfalso; omega) | (rw [hm]; (try rw [hm2]); unfold mErr; (repeat (first | rw [if_pos (by omega)] | rw [if_neg (by omega)])); done)) (by omega)).symm)) rfl tK nK tK
     have hb5' := hb5; try simp at hb5'
     refine d8 (d4 (c8 (c7 ?_)))
     first | refine C8 rfl j0 c6 rfl mB (by rfl) ?_ | refine D6 rfl j0 c6 rfl mB (by rfl) ?_ | refine u3 rfl j0 c6 rfl rfl (q8 mB (s6 (by omega))) ?_
     refine d5 N2 rfl rfl (N0 m) l6 tK fun _ _ => ?_; refine c3 rfl (n7 (b7 rfl (y5 rfl rfl rfl (b8 ?_))))
     first | refine k8 rfl (fun hb6 => ?_) (fun hb6 => ?_) | refine d9 rfl (fun hb6 => ?_) (fun hb6 => ?_)
     ·have hb6' := hb6; try simp at hb6'
      refine c7 (b7 rfl (c3 rfl (b8 (D4 (C7 (r9 (P3 ?_))))))); refine r9 ?_; exact ret1 () rfl (congrArg (fun b => some (int b)) (by refine (P0 h12 hk2 ht (e := textErr m) (by first | (exfalso; omega) | (rw [hm]; (try rw [hm2]); unfold mErr; (repeat (first | rw [if_pos (by omega)] | rw [if_neg (by omega)])); done)) (by omega)).symm)) rfl tK nK tK
     have hb6' := hb6; try simp at hb6'
     refine d8 (d4 (c8 (c7 (b7 rfl (E3 rfl rfl rfl (b8 ?_))))))
     first | refine k8 rfl (fun hb7 => ?_) (fun hb7 => ?_) | refine d9 rfl (fun hb7 => ?_) (fun hb7 => ?_)
     ·have hb7' := hb7; try simp at hb7'
      refine s9 (H6 (u6 (d4 (i4 ?_)))); refine v6 _ rfl rfl rfl rfl r6 ?_; refine b7 rfl (d6 ?_); exact again _ (k + 1) ⟨by omega, gE ht (by first | (exfalso; omega) | (rw [hm]; (try rw [hm2]); unfold mErr; (repeat (first | rw [if_pos (by omega)] | rw [if_neg (by omega)])); done))⟩ (D5 (by omega)) mC nK ⟨m0, tK⟩
     have hb7' := hb7; try simp at hb7'
     refine d8 (d4 (c7 (b7 rfl (b7 rfl ?_)))); refine iF ((k - 1 : Nat) : Int) rfl rfl rfl (by omega) r6 (z5 (α := Mk) _ _ rfl l9 c6 rfl rfl rfl mB rfl (by omega) (by decide) (u3 rfl j0 c6 rfl rfl (q8 mB (s6 (by omega))) (y9 rfl (fun _ => r7 _) fun gA => u0 rfl rfl M6 c6 (by rfl) (by rfl) ?_))); refine b8 (k6 (c8 ?_)); generalize hm2 : l.getD (k - 1) default = m2; refine i4 ?_
     first | refine b3 ⟨_, 1, none⟩ rfl rfl i8 rfl ?_ | refine b3 _ rfl rfl i8 rfl ?_
     first | refine b6 rfl a9 rfl (i5 mB rfl) ?_ | refine b6 rfl a9 rfl (j4 mB rfl) ?_ | refine b6 rfl a9 rfl (i9 mB (d7 (by omega) rfl)) ?_ | refine b6 rfl a9 rfl (i7 mB (rows_get (by omega) rfl)) ?_
     first | refine b3 ⟨_, 1, none⟩ rfl rfl i8 rfl ?_ | refine b3 _ rfl rfl i8 rfl ?_
     first | refine b6 rfl a9 rfl (i5 mB rfl) ?_ | refine b6 rfl a9 rfl (j4 mB rfl) ?_ | refine b6 rfl a9 rfl (i9 mB (d7 (by omega) rfl)) ?_ | refine b6 rfl a9 rfl (i7 mB (rows_get (by omega) rfl)) ?_
     refine z8 rfl rfl rfl (c3 rfl (b8 ?_))
     first | refine k8 rfl (fun hb8 => ?_) (fun hb8 => ?_) | refine d9 rfl (fun hb8 => ?_) (fun hb8 => ?_)
     ·have hb8' := hb8; try simp at hb8'
      refine c7 (c3 rfl (b8 (l4 (P3 (C7 (r9 (C7 ?_))))))); exact ret1 () rfl (congrArg (fun b => some (int b)) (by refine (P0 h12 hk2 ht (e := 5) (by first | (exfalso; omega) | (rw [hm]; (try rw [hm2]); unfold mErr; (repeat (first | rw [if_pos (by omega)] | rw [if_neg (by omega)])); done)) (by omega)).symm)) rfl tK nK tK
     have hb8' := hb8; try simp at hb8'
     refine c7 ?_
     first | refine b3 ⟨_, 1, none⟩ rfl rfl i8 rfl ?_ | refine b3 _ rfl rfl i8 rfl ?_
     first | refine b6 rfl a9 rfl (i5 mB rfl) ?_ | refine b6 rfl a9 rfl (j4 mB rfl) ?_ | refine b6 rfl a9 rfl (i9 mB (d7 (by omega) rfl)) ?_ | refine b6 rfl a9 rfl (i7 mB (rows_get (by omega) rfl)) ?_
     first | refine b3 ⟨_, 1, none⟩ rfl rfl i8 rfl ?_ | refine b3 _ rfl rfl i8 rfl ?_
     first | refine b6 rfl a9 rfl (i5 mB rfl) ?_ | refine b6 rfl a9 rfl (j4 mB rfl) ?_ | refine b6 rfl a9 rfl (i9 mB (d7 (by omega) rfl)) ?_ | refine b6 rfl a9 rfl (i7 mB (rows_get (by omega) rfl)) ?_
     refine M5 rfl rfl rfl (b7 rfl ?_); refine n6 rfl rfl ?_ ?_
     ·intro hg3; have hg3' := hg3; try simp at hg3'
      refine k9 hg3 ?_
      first | refine b3 ⟨_, 0, none⟩ rfl rfl j9 rfl ?_ | refine b3 _ rfl rfl j9 rfl ?_
      refine k9 hg3 ?_
      first | refine b6 rfl a9 rfl (i5 mB rfl) ?_ | refine b6 rfl a9 rfl (j4 mB rfl) ?_ | refine b6 rfl a9 rfl (i9 mB (d7 (by omega) rfl)) ?_ | refine b6 rfl a9 rfl (i7 mB (rows_get (by omega) rfl)) ?_
      refine k9 hg3 (E3 rfl rfl rfl ?_); refine p_f rfl rfl (bf1 hg3) rfl ?_; refine c3 rfl (b8 ?_)
      first | refine k8 rfl (fun hb9 => ?_) (fun hb9 => ?_) | refine d9 rfl (fun hb9 => ?_) (fun hb9 => ?_)
      ·have hb9' := hb9; try simp at hb9'
       refine d8 (u7 (u7 (d4 (i4 ?_)))); refine v6 _ rfl rfl rfl rfl r6 ?_; refine b7 rfl (d6 ?_); exact again _ (k + 1) ⟨by omega, gE ht (by first | (exfalso; omega) | (rw [hm]; (try rw [hm2]); unfold mErr; (repeat (first | rw [if_pos (by omega)] | rw [if_neg (by omega)])); done))⟩ (D5 (by omega)) mC nK ⟨m0, tK⟩
      have hb9' := hb9; try simp at hb9'
      refine c7 ?_
      first | refine b3 ⟨_, 0, none⟩ rfl rfl j9 rfl ?_ | refine b3 _ rfl rfl j9 rfl ?_
      first | refine b6 rfl a9 rfl (i5 mB rfl) ?_ | refine b6 rfl a9 rfl (j4 mB rfl) ?_ | refine b6 rfl a9 rfl (i9 mB (d7 (by omega) rfl)) ?_ | refine b6 rfl a9 rfl (i7 mB (rows_get (by omega) rfl)) ?_
      refine E3 rfl rfl rfl (c3 rfl (b8 ?_))
      first | refine k8 rfl (fun hb10 => ?_) (fun hb10 => ?_) | refine d9 rfl (fun hb10 => ?_) (fun hb10 => ?_)
      ·have hb10' := hb10; try simp at hb10'
       refine c7 (c3 rfl (b8 (l4 (P3 (C7 (r9 (C7 ?_))))))); exact ret1 () rfl (congrArg (fun b => some (int b)) (by refine (P0 h12 hk2 ht (e := 5) (by first | (exfalso; omega) | (rw [hm]; (try rw [hm2]); unfold mErr; (repeat (first | rw [if_pos (by omega)] | rw [if_neg (by omega)])); done)) (by omega)).symm)) rfl tK nK tK
      have hb10' := hb10; try simp at hb10'
      refine c7 (c3 rfl (b8 (l4 (P3 (C7 (r9 (C7 ?_))))))); exact ret1 () rfl (congrArg (fun b => some (int b)) (by refine (P0 h12 hk2 ht (e := 4) (by first | (exfalso; omega) | (rw [hm]; (try rw [hm2]); unfold mErr; (repeat (first | rw [if_pos (by omega)] | rw [if_neg (by omega)])); done)) (by omega)).symm)) rfl tK nK tK
     intro hg3; have hg3' := hg3; try simp at hg3'
     refine u2 hg3 (u2 hg3 (u2 hg3 ?_)); refine p_t rfl rfl (bt2 hg3) rfl ?_; refine c3 rfl (b8 (c_t rfl rfl (d8 (u7 (u7 (d4 (i4 ?_))))))); refine v6 _ rfl rfl rfl rfl r6 ?_; refine b7 rfl (d6 ?_); exact again _ (k + 1) ⟨by omega, gE ht (by first | (exfalso; omega) | (rw [hm]; (try rw [hm2]); unfold mErr; (repeat (first | rw [if_pos (by omega)] | rw [if_neg (by omega)])); done))⟩ (D5 (by omega)) mC nK ⟨m0, tK⟩
    intro hg2; have hg2' := hg2; try simp at hg2'
    refine u2 hg2 (u2 hg2 (u2 hg2 (u2 hg2 ?_))); refine p_t rfl rfl (bt2 hg2) rfl ?_; refine b8 (c_t rfl rfl (c7 (c3 rfl (b8 (D4 (C7 ?_)))))); refine r9 (C7 ?_); exact ret1 () rfl (congrArg (fun b => some (int b)) (by refine (P0 h12 hk2 ht (e := 3) (by first | (exfalso; omega) | (rw [hm]; (try rw [hm2]); unfold mErr; (repeat (first | rw [if_pos (by omega)] | rw [if_neg (by omega)])); done)) (by omega)).symm)) rfl tK nK tK
   have hb4' := hb4; try simp at hb4'
   refine d8 (d4 (c8 (c7 ?_)))
   first | refine b3 ⟨_, 1, none⟩ rfl rfl i8 rfl ?_ | refine b3 _ rfl rfl i8 rfl ?_
   first | refine b6 rfl a9 rfl (i5 mB rfl) ?_ | refine b6 rfl a9 rfl (j4 mB rfl) ?_ | refine b6 rfl a9 rfl (i9 mB (d7 (by omega) rfl)) ?_ | refine b6 rfl a9 rfl (i7 mB (rows_get (by omega) rfl)) ?_
   refine z8 rfl rfl rfl (b7 rfl ?_); refine n6 rfl rfl ?_ ?_
   ·intro hg4; have hg4' := hg4; try simp at hg4'
    refine k9 hg4 ?_
    first | refine b3 ⟨_, 1, none⟩ rfl rfl i8 rfl ?_ | refine b3 _ rfl rfl i8 rfl ?_
    refine k9 hg4 ?_
    first | refine b6 rfl a9 rfl (i5 mB rfl) ?_ | refine b6 rfl a9 rfl (j4 mB rfl) ?_ | refine b6 rfl a9 rfl (i9 mB (d7 (by omega) rfl)) ?_ | refine b6 rfl a9 rfl (i7 mB (rows_get (by omega) rfl)) ?_
    refine k9 hg4 (b7 rfl (k9 hg4 (M5 rfl rfl rfl ?_))); refine p_f rfl rfl (bf1 hg4) rfl (b8 ?_)
    first | refine k8 rfl (fun hb5 => ?_) (fun hb5 => ?_) | refine d9 rfl (fun hb5 => ?_) (fun hb5 => ?_)
    ·have hb5' := hb5; try simp at hb5'
     refine c7 (c3 rfl (b8 (D4 (C7 (r9 (C7 ?_)))))); exact ret1 () rfl (congrArg (fun b => some (int b)) (by refine (P0 h12 hk2 ht (e := 3) (by first | (exfalso; omega) | (rw [hm]; (try rw [hm2]); unfold mErr; (repeat (first | rw [if_pos (by omega)] | rw [if_neg (by omega)])); done)) (by omega)).symm)) rfl tK nK tK
    have hb5' := hb5; try simp at hb5'
    refine d8 (d4 (c8 (c7 ?_)))
    first | refine C8 rfl j0 c6 rfl mB (by rfl) ?_ | refine D6 rfl j0 c6 rfl mB (by rfl) ?_ | refine u3 rfl j0 c6 rfl rfl (q8 mB (s6 (by omega))) ?_
    refine d5 N2 rfl rfl (N0 m) l6 tK fun _ _ => ?_; refine c3 rfl (n7 (b7 rfl (y5 rfl rfl rfl (b8 ?_))))
    first | refine k8 rfl (fun hb6 => ?_) (fun hb6 => ?_) | refine d9 rfl (fun hb6 => ?_) (fun hb6 => ?_)
    ·have hb6' := hb6; try simp at hb6'
     refine c7 (b7 rfl (c3 rfl (b8 (D4 (C7 (r9 (P3 ?_))))))); refine r9 ?_; exact ret1 () rfl (congrArg (fun b => some (int b)) (by refine (P0 h12 hk2 ht (e := textErr m) (by first | (exfalso; omega) | (rw [hm]; (try rw [hm2]); unfold mErr; (repeat (first | rw [if_pos (by omega)] | rw [if_neg (by omega)])); done)) (by omega)).symm)) rfl tK nK tK
    have hb6' := hb6; try simp at hb6'
    refine d8 (d4 (c8 (c7 (b7 rfl (E3 rfl rfl rfl (b8 ?_))))))
    first | refine k8 rfl (fun hb7 => ?_) (fun hb7 => ?_) | refine d9 rfl (fun hb7 => ?_) (fun hb7 => ?_)
    ·have hb7' := hb7; try simp at hb7'
     refine s9 (H6 (u6 (d4 (i4 ?_)))); refine v6 _ rfl rfl rfl rfl r6 ?_; refine b7 rfl (d6 ?_); exact again _ (k + 1) ⟨by omega, gE ht (by first | (exfalso; omega) | (rw [hm]; (try rw [hm2]); unfold mErr; (repeat (first | rw [if_pos (by omega)] | rw [if_neg (by omega)])); done))⟩ (D5 (by omega)) mC nK ⟨m0, tK⟩
    have hb7' := hb7; try simp at hb7'
    refine d8 (d4 (c7 (b7 rfl (b7 rfl ?_)))); refine iF ((k - 1 : Nat) : Int) rfl rfl rfl (by omega) r6 (z5 (α := Mk) _ _ rfl l9 c6 rfl rfl rfl mB rfl (by omega) (by decide) (u3 rfl j0 c6 rfl rfl (q8 mB (s6 (by omega))) (y9 rfl (fun _ => r7 _) fun gA => u0 rfl rfl M6 c6 (by rfl) (by rfl) ?_))); refine b8 (k6 (c8 ?_)); generalize hm2 : l.getD (k - 1) default = m2; refine i4 ?_
    first | refine b3 ⟨_, 1, none⟩ rfl rfl i8 rfl ?_ | refine b3 _ rfl rfl i8 rfl ?_
    first | refine b6 rfl a9 rfl (i5 mB rfl) ?_ | refine b6 rfl a9 rfl (j4 mB rfl) ?_ | refine b6 rfl a9 rfl (i9 mB (d7 (by omega) rfl)) ?_ | refine b6 rfl a9 rfl (i7 mB (rows_get (by omega) rfl)) ?_
    first | refine b3 ⟨_, 1, none⟩ rfl rfl i8 rfl ?_ | refine b3 _ rfl rfl i8 rfl ?_
    first | refine b6 rfl a9 rfl (i5 mB rfl) ?_ | refine b6 rfl a9 rfl (j4 mB rfl) ?_ | refine b6 rfl a9 rfl (i9 mB (d7 (by omega) rfl)) ?_ | refine b6 rfl a9 rfl (i7 mB (rows_get (by omega) rfl)) ?_
    refine z8 rfl rfl rfl (c3 rfl (b8 ?_))
    first | refine k8 rfl (fun hb8 => ?_) (fun hb8 => ?_) | refine d9 rfl (fun hb8 => ?_) (fun hb8 => ?_)
    ·have hb8' := hb8; try simp at hb8'
     refine c7 (c3 rfl (b8 (l4 (P3 (C7 (r9 (C7 ?_))))))); exact ret1 () rfl (congrArg (fun b => some (int b)) (by refine (P0 h12 hk2 ht (e := 5) (by first | (exfalso; omega) | (rw [hm]; (try rw [hm2]); unfold mErr; (repeat (first | rw [if_pos (by omega)] | rw [if_neg (by omega)])); done)) (by omega)).symm)) rfl tK nK tK
    have hb8' := hb8; try simp at hb8'
    refine c7 ?_
    first | refine b3 ⟨_, 1, none⟩ rfl rfl i8 rfl ?_ | refine b3 _ rfl rfl i8 rfl ?_
    first | refine b6 rfl a9 rfl (i5 mB rfl) ?_ | refine b6 rfl a9 rfl (j4 mB rfl) ?_ | refine b6 rfl a9 rfl (i9 mB (d7 (by omega) rfl)) ?_ | refine b6 rfl a9 rfl (i7 mB (rows_get (by omega) rfl)) ?_
    first | refine b3 ⟨_, 1, none⟩ rfl rfl i8 rfl ?_ | refine b3 _ rfl rfl i8 rfl ?_
    first | refine b6 rfl a9 rfl (i5 mB rfl) ?_ | refine b6 rfl a9 rfl (j4 mB rfl) ?_ | refine b6 rfl a9 rfl (i9 mB (d7 (by omega) rfl)) ?_ | refine b6 rfl a9 rfl (i7 mB (rows_get (by omega) rfl)) ?_
    refine M5 rfl rfl rfl (b7 rfl ?_); refine n6 rfl rfl ?_ ?_
    ·intro hg5; have hg5' := hg5; try simp at hg5'
     refine k9 hg5 ?_
     first | refine b3 ⟨_, 0, none⟩ rfl rfl j9 rfl ?_ | refine b3 _ rfl rfl j9 rfl ?_
     refine k9 hg5 ?_
     first | refine b6 rfl a9 rfl (i5 mB rfl) ?_ | refine b6 rfl a9 rfl (j4 mB rfl) ?_ | refine b6 rfl a9 rfl (i9 mB (d7 (by omega) rfl)) ?_ | refine b6 rfl a9 rfl (i7 mB (rows_get (by omega) rfl)) ?_
     refine k9 hg5 (E3 rfl rfl rfl ?_); refine p_f rfl rfl (bf1 hg5) rfl ?_; refine c3 rfl (b8 ?_)
     first | refine k8 rfl (fun hb9 => ?_) (fun hb9 => ?_) | refine d9 rfl (fun hb9 => ?_) (fun hb9 => ?_)
     ·have hb9' := hb9; try simp at hb9'
      refine d8 (u7 (u7 (d4 (i4 ?_)))); refine v6 _ rfl rfl rfl rfl r6 ?_; refine b7 rfl (d6 ?_); exact again _ (k + 1) ⟨by omega, gE ht (by first | (exfalso; omega) | (rw [hm]; (try rw [hm2]); unfold mErr; (repeat (first | rw [if_pos (by omega)] | rw [if_neg (by omega)])); done))⟩ (D5 (by omega)) mC nK ⟨m0, tK⟩
     have hb9' := hb9; try simp at hb9'
     refine c7 ?_
     first | refine b3 ⟨_, 0, none⟩ rfl rfl j9 rfl ?_ | refine b3 _ rfl rfl j9 rfl ?_
     first | refine b6 rfl a9 rfl (i5 mB rfl) ?_ | refine b6 rfl a9 rfl (j4 mB rfl) ?_ | refine b6 rfl a9 rfl (i9 mB (d7 (by omega) rfl)) ?_ | refine b6 rfl a9 rfl (i7 mB (rows_get (by omega) rfl)) ?_
     refine E3 rfl rfl rfl (c3 rfl (b8 ?_))
     first | refine k8 rfl (fun hb10 => ?_) (fun hb10 => ?_) | refine d9 rfl (fun hb10 => ?_) (fun hb10 => ?_)
     ·have hb10' := hb10; try simp at hb10'
      refine c7 (c3 rfl (b8 (l4 (P3 (C7 (r9 (C7 ?_))))))); exact ret1 () rfl (congrArg (fun b => some (int b)) (by refine (P0 h12 hk2 ht (e := 5) (by first | (exfalso; omega) | (rw [hm]; (try rw [hm2]); unfold mErr; (repeat (first | rw [if_pos (by omega)] | rw [if_neg (by omega)])); done)) (by omega)).symm)) rfl tK nK tK
     have hb10' := hb10; try simp at hb10'
     refine c7 (c3 rfl (b8 (l4 (P3 (C7 (r9 (C7 ?_))))))); exact ret1 () rfl (congrArg (fun b => some (int b)) (by refine (P0 h12 hk2 ht (e := 4) (by first | (exfalso; omega) | (rw [hm]; (try rw [hm2]); unfold mErr; (repeat (first | rw [if_pos (by omega)] | rw [if_neg (by omega)])); done)) (by omega)).symm)) rfl tK nK tK
    intro hg5; have hg5' := hg5; try simp at hg5'
    refine u2 hg5 (u2 hg5 (u2 hg5 ?_)); refine p_t rfl rfl (bt2 hg5) rfl ?_; refine c3 rfl (b8 (c_t rfl rfl (d8 (u7 (u7 (d4 (i4 ?_))))))); refine v6 _ rfl rfl rfl rfl r6 ?_; refine b7 rfl (d6 ?_); exact again _ (k + 1) ⟨by omega, gE ht (by first | (exfalso; omega) | (rw [hm]; (try rw [hm2]); unfold mErr; (repeat (first | rw [if_pos (by omega)] | rw [if_neg (by omega)])); done))⟩ (D5 (by omega)) mC nK ⟨m0, tK⟩
   intro hg4; have hg4' := hg4; try simp at hg4'
   refine u2 hg4 (u2 hg4 (u2 hg4 (u2 hg4 ?_))); refine p_t rfl rfl (bt2 hg4) rfl ?_; refine b8 (c_t rfl rfl (c7 (c3 rfl (b8 (D4 (C7 ?_)))))); refine r9 (C7 ?_); exact ret1 () rfl (congrArg (fun b => some (int b)) (by refine (P0 h12 hk2 ht (e := 3) (by first | (exfalso; omega) | (rw [hm]; (try rw [hm2]); unfold mErr; (repeat (first | rw [if_pos (by omega)] | rw [if_neg (by omega)])); done)) (by omega)).symm)) rfl tK nK tK
  intro hg1; have hg1' := hg1; try simp at hg1'
  refine u2 hg1 (u2 hg1 (u2 hg1 ?_)); refine p_t rfl rfl (bt2 hg1) rfl ?_; refine b8 (c_t rfl rfl (c7 (c3 rfl (b8 (D4 (C7 ?_)))))); refine r9 (C7 ?_); exact ret1 () rfl (congrArg (fun b => some (int b)) (by refine (P0 h12 hk2 ht (e := 8) (by first | (exfalso; omega) | (rw [hm]; (try rw [hm2]); unfold mErr; (repeat (first | rw [if_pos (by omega)] | rw [if_neg (by omega)])); done)) (by omega)).symm)) rfl tK nK tK
 have hb2' := hb2; try simp at hb2'
 have hk2 : k = l.length := by omega
 refine s9 (E4 (u6 (d4 (c7 (c3 rfl (b8 (l4 ?_))))))); exact ret1 () rfl (congrArg (fun b => some (int b)) (by rw [nz8 h12 hk2 ht])) rfl tK nK tK
theorem Q7 {A B : Option Addr} {ca cb : Nat} (p : List Str) (l : List Mk) :
    Meets prog gJ [.slice A p.length ca, .slice B l.length cb] { LI := [Row A (rows p), Row B (rows l)], val := fun _ : Unit => int (checkErr p l) } := by
 refine i3 wX rfl q6 fun w0 => ?_; refine c7 (c3 rfl (b8 (c8 (c7 (b7 rfl ?_))))); refine d5 B4 rfl rfl (B3 p) (.refl _) ⟨m0, tK⟩ fun _ _ => ?_; refine c3 rfl (n7 (b7 rfl (y5 rfl rfl rfl (b8 ?_))))
 first | refine k8 rfl (fun hb1 => ?_) (fun hb1 => ?_) | refine d9 rfl (fun hb1 => ?_) (fun hb1 => ?_)
 ·have hb1' := hb1; try simp at hb1'
  refine c7 (b7 rfl (c3 rfl (b8 (D4 ?_)))); exact ret1 () rfl (congrArg (fun b => some (int b)) (by rw [checkErr, if_neg hb1])) rfl tK nK tK
 have hb1' := hb1; try simp at hb1'
 have h6 : pageErr p = 0 := by omega
 have hp : p.length ≤ 1000000 := by unfold pageErr at h6; split at h6 <;> omega
 refine d8 (d4 (c7 (b7 rfl (b7 rfl ?_)))); refine d5 cZ rfl rfl (cP l hp) (.refl _) ⟨m1, tK⟩ fun _ _ => ?_; refine c3 rfl (b8 (l4 ?_)); exact ret1 () rfl (congrArg (fun b => some (int b)) (by rw [checkErr, if_pos h6])) rfl tK nK tK
end Go.Proofs.YtpfbbggmcbhboaaGreatDoor
end
