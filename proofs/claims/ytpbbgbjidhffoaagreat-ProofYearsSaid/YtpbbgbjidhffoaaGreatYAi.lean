/- Texts of this claim, one behind another. -/
import Derived.RangeFuncLeaves
import Derived.RangeFuncRecord
import Derived.Scope
import Derived.Laws.Cover3
import Derived.Lib.SliceRun
import Derived.Laws.AppendOwn
import Derived.Laws.MakeOwn
import Derived.Test.YtpbbgbjidhffoaaGreatYAd
import Derived.Test.YtpbbgbjidhffoaaGreatYAh
set_option linter.unusedVariables false
set_option linter.unusedSimpArgs false
section
namespace Go.W
open Go Go.RowKit
/-! ### The first of a list of slices -/
theorem rows2_take {α : Type} [El α] {b : Bx} {hp : Hp} {L : List Fact} {w : World} {A : Option Addr} {ps : List (Sl α)} (n : Nat) (h : Rows2 A ps ∈ L) (hw : WI b w hp L) : WI b w hp (Rows2 A (ps.take n) :: L) := by
  have h1 := hw.fs _ h; refine wi_more hw ⟨fun j u hu => ?_, fun p hp => h1.2 p (List.mem_of_mem_take hp)⟩ (fun k hk => ⟨_, h, ?_⟩)
  · refine h1.1 j u ?_
    rw [← rows_take] at hu; rw [List.getElem?_take] at hu
    split at hu
    · exact hu
    · cases hu
  · rcases hk with ⟨ad, e, hb, hne⟩ | ⟨p, hp, hk⟩
    · exact .inl ⟨ad, e, hb, fun e => hne (by rw [← rows_take, e]; simp)⟩
    · exact .inr ⟨p, List.mem_of_mem_take hp, hk⟩
theorem hl_take2 {α : Type} [El α] {c : Cx} {Q : Exit → Act → World → Prop} {fr : Fr} {hp : Hp} {L : List Fact} {ops : Array Oper} {rest : List Oper} {A : Option Addr} {ps : List (Sl α)} (n : Nat) (h : Rows2 A ps ∈ L) (k : HL c ops Q rest fr hp (Rows2 A (ps.take n) :: L)) : HL c ops Q rest fr hp L := fun a w ha hw => k a w ha (rows2_take n h hw)
theorem wi_rows2 {α : Type} [El α] {b : Bx} {hp : Hp} {L : List Fact} {w : World} {A : Option Addr} {ps : List (Sl α)} (h : Row A (rows ps) ∈ L) (h2 : ∀ p ∈ ps, Row p.a (rows p.l) ∈ L) (hw : WI b w hp L) : WI b w hp (Rows2 A ps :: L) :=
  wi_more hw ⟨hw.fs _ h, fun p hp => hw.fs _ (h2 p hp)⟩ (fun k hk => by
    rcases hk with hk | ⟨p, hp, hk⟩
    · exact ⟨_, h, hk⟩
    · exact ⟨_, h2 p hp, hk⟩)
section
variable {α : Type} [El α] {c : Cx} {Q : Exit → Act → World → Prop} {fr : Fr} {hp : Hp} {L : List Fact} {ops : Array Oper} {rest : List Oper} {A : Option Addr} {ps : List (Sl α)}
theorem hq_rows2F {e : Exit} (h : Row A (rows ps) ∈ L) (h2 : Facts (ps.map fun p => Row p.a (rows p.l)) ∈ L) (k : HQ c Q e fr hp (Rows2 A ps :: L)) : HQ c Q e fr hp L := fun a w ha hw =>
  k a w ha (wi_more hw ⟨hw.fs _ h, fun p hp => hw.fs _ h2 _ (List.mem_map.2 ⟨p, hp, rfl⟩)⟩ (fun k hk => by
    rcases hk with hk | ⟨p, hp, hk⟩
    · exact ⟨_, h, hk⟩
    · exact ⟨_, h2, _, List.mem_map.2 ⟨p, hp, rfl⟩, hk⟩))
theorem hc_rows2 {x : Code} (h : Row A (rows ps) ∈ L) (h2 : ∀ p ∈ ps, Row p.a (rows p.l) ∈ L) (k : HC c x Q fr hp (Rows2 A ps :: L)) : HC c x Q fr hp L := fun a w ha hw => k a w ha (wi_rows2 h h2 hw)
theorem hq_rows2 {e : Exit} (h : Row A (rows ps) ∈ L) (h2 : ∀ p ∈ ps, Row p.a (rows p.l) ∈ L) (k : HQ c Q e fr hp (Rows2 A ps :: L)) : HQ c Q e fr hp L := fun a w ha hw => k a w ha (wi_rows2 h h2 hw)
end
/-! ### Facts that follow from the world; nil -/
section
variable {c : Cx} {Q : Exit → Act → World → Prop} {fr : Fr} {hp : Hp} {L : List Fact} {ops : Array Oper} {rest : List Oper}
theorem hc_pure {φ : Prop} {x : Code} (h : ∀ w, WI c.b w hp L → φ) (k : φ → HC c x Q fr hp L) : HC c x Q fr hp L := fun a w ha hw => k (h w hw) a w ha hw
theorem hq_letgoB {g : Nat} {o : Obj} {e : Exit} (k : HQ c Q e fr hp (Blk g o :: L)) : HQ c Q e fr ((g, o) :: hp) L := fun a w ha hw => k a w ha (wi_letgoB hw)
theorem row_none {α : Type} [El α] {l : List α} {w : World} (h0 : 0 < El.sz α) (h : (Row none (rows l)).P w) : l = [] := by
  cases l with
  | nil => rfl
  | cons a l =>
    have hl : 0 < (rows (a :: l)).length := by rw [rows_len]; exact Nat.mul_pos (by simp) h0
    obtain ⟨ad, e, _⟩ := h 0 _ (List.getElem?_eq_getElem hl)
    cases e
variable {d : Tmp} {ty : TypeId} {pos : String} {af : Array Edge}
theorem r_eqlnil {t e yt : TypeId} {x y : Operand} {A : Option Addr} {n cp : Nat} (hd : Nat.blt d c.n = true) (ht : c.P.underlying t = some (.slice e)) (hx : ev fr x = some (.slice A n cp)) (hy : ev fr y = some (.slice none 0 0)) (k : HL c ops Q rest ((d, .bool A.isNone) :: fr) hp L) :
    HL c ops Q (⟨some d, .binOp .eql t x y yt, ty, pos, af, none⟩ :: rest) fr hp L :=
  r_bin _ hd hx hy (fun _ => rfl) (fun w => by
    show ((do pure (Value.bool (← Op.equal t (.slice A n cp) (.slice none 0 0)))) : Sem Value).run c.P w = _
    simp only [Sem.run_bind, run_equal_slice_nil w t e A n cp ht, Result.andThen_ok, Sem.run_pure]) k
end
/-! ### A store into a slice of the call's own -/
theorem Grow.open_ {e : TypeId} {sz n cap : Nat} {A : Option Addr} {xs : List Value} {og : Hp} (h : Grow e sz A n cap xs og) (hn : 0 < n) : ∃ g cur, A = some ⟨g, 0, none⟩ ∧ og = [(g, Obj.cells cur e (0, 0))] ∧ n ≤ cap ∧ cap ≤ maxLen ∧ cur.size = cap * sz ∧ cur.toList.take (n * sz) = xs ∧ xs.length = n * sz := by
  rcases h with ⟨hl, ⟨_, h, _⟩ | ⟨g, cur, h1, h2, h3, h4, h5, h6⟩⟩
  · omega
  · exact ⟨g, cur, h1, h2, h3, h4, h5, h6, hl⟩
theorem rows_set1 {α : Type} [El α] (h1 : El.sz α = 1) (v : Value) (a : α) (hv : El.cells a = [v]) : ∀ (l : List α) (k : Nat), (rows l).set k v = rows (l.set k a)
  | [], k => by simp [rows_nil]
  | b :: l, 0 => by
    have hb : ∃ u, El.cells b = [u] := by
      have := El.len b; rw [h1] at this; exact List.length_eq_one_iff.1 this
    obtain ⟨u, hu⟩ := hb; rw [List.set_cons_zero, rows_cons, rows_cons, hu, hv]
    rfl
  | b :: l, k + 1 => by
    have hb : ∃ u, El.cells b = [u] := by
      have := El.len b; rw [h1] at this; exact List.length_eq_one_iff.1 this
    obtain ⟨u, hu⟩ := hb; rw [List.set_cons_succ, rows_cons, rows_cons, hu, ← rows_set1 h1 v a hv l k]
    rfl
theorem Grow.set {α : Type} [El α] {e : TypeId} {cap g k : Nat} {cur : Array Value} {l : List α} {v : Value} {a : α} (h1 : El.sz α = 1) (hv : El.cells a = [v]) (h3 : l.length ≤ cap) (h4 : cap ≤ maxLen) (h5 : cur.size = cap * 1) (h6 : cur.toList.take (l.length * 1) = rows l) :
    Grow e 1 (some ⟨g, 0, none⟩) l.length cap (rows (l.set k a)) [(g, Obj.cells (cur.setIfInBounds k v) e (0, 0))] := by
  refine ⟨by rw [rows_len, h1, List.length_set], .inr ⟨g, _, rfl, rfl, h3, h4, by simpa using h5, ?_⟩⟩; rw [← rows_set1 h1 v a hv, ← h6, Array.toList_setIfInBounds, List.take_set]
/-! ### make -/
/-! ### Scopes and labels -/
section
variable {Q : Exit → Act → World → Prop} {fr : Fr} {hp : Hp} {L : List Fact}
theorem hc_scope {P : Program} {n : Nat} {b : Bx} {D : List Deferred} {x : Code} (h : HC ⟨P, n, b, D, none⟩ x (Exit.noGoto Q) fr hp L) : HC ⟨P, n, b, D, none⟩ (.scope x) Q fr hp L :=
  fun a w ha hw => wpIn_wide.2 (wp_scope_straight (wpIn_wide.1 (h a w ha hw)))
theorem ng_ret {c : Cx} (h : HQ c Q .ret fr hp L) : HQ c (Exit.noGoto Q) .ret fr hp L := fun a w ha hw => h a w ha hw
theorem hc_label {c : Cx} {l : Nat} (h : HQ c Q .normal fr hp L) : HC c (.label l) Q fr hp L := fun a w ha hw => wpIn_label (h a w ha hw)
end
/-! ### A loop's yield -/
def recL (fn : FuncId) (tmps : Array Value) (ps : Array Tmp) (assign body : Code) (d : Nat) (j : Option Code) : Loop := { state := if j.isNone then .ready else .done, pending := j, fn, tmps, params := ps, assign, body, defers := d }
def recB (fn : FuncId) (tmps : Array Value) (ps : Array Tmp) (assign body : Code) (d : Nat) : Loop := { state := .busy, pending := none, fn, tmps, params := ps, assign, body, defers := d }
def yieldV (l : Nat) : Value := .func (.yield l) #[] #[]
def MeetsY (P : Program) (l : Nat) (args : List Value) {β : Type} (k : Con β) : Prop :=
  ∀ w, WI (k.entry w) w k.hpI k.LI → ∃ f tmps assign body, (Instr.yield l args.toArray).run P w = .ok (.round l f tmps assign body) w ∧ RoundIn Fence.wide 0 P l f tmps assign body w (k.post w)
theorem evals {n : Cx} {a : Act} {fr : Fr} (ha : Ok n a fr) : ∀ (xs : List Operand) (vs : List Value), xs.mapM (ev fr) = some vs → xs.map a.eval = vs := by
  intro xs
  induction xs with
  | nil => intro vs h; simpa using h
  | cons x xs ih =>
    intro vs h; simp only [List.mapM_cons, Option.bind_eq_bind, Option.bind_eq_some_iff, Option.pure_def, Option.some.injEq] at h; obtain ⟨v, hv, us, hus, rfl⟩ := h; rw [List.map_cons, ha.ev hv, ih us hus]
section
variable {c : Cx} {Q : Exit → Act → World → Prop} {fr : Fr} {hp : Hp} {L : List Fact} {ops : Array Oper} {rest : List Oper}
variable {d : Tmp} {ty : TypeId} {pos : String} {af : Array Edge}
theorem hl_yield {l : Nat} {x : Operand} {aS9 : Array Operand} {ats : Array TypeId} {vs : List Value} {β : Type} {k : Con β} {hpR : Hp} (hd : Nat.blt d c.n = true) (hf : ev fr x = some (yieldV l)) (hx : aS9.toList.mapM (ev fr) = some vs)
    (hm : MeetsY c.P l vs k) (h1 : hp.Perm (k.hpI ++ hpR)) (h2 : LSub L k.LI) (kk : ∀ x, k.inv x → HL c ops Q rest ((d, k.val x) :: fr) (k.hpO x ++ hpR) (k.LO x ++ L)) :
    HL c ops Q (⟨some d, .call ⟨.value x, aS9, ats⟩, ty, pos, af, none⟩ :: rest) fr hp L := by
  intro a w ha hw; refine wpL_plainO rfl (.inr ⟨rfl, ?_⟩); have e1 : aS9.map a.eval = vs.toArray := by apply Array.ext'; simpa using evals ha _ _ hx
  obtain ⟨f, tmps, assign, body, h3, h4⟩ := hm w (hw.entry h1 h2.mem); refine ⟨l, f, tmps, assign, body, ?_, h4.mono fun e w' hp => ?_⟩
  · show ((do let dd ← resolve a.eval ⟨.value x, aS9, ats⟩ ty; invoke dd.target dd.args) : Sem Next).run c.P w = _
    simp only [resolve, ha.ev hf, yieldV, e1, Deferred.ofValue, Sem.run_bind, Sem.run_pure, Result.andThen_ok, invoke]
    simpa using h3
  · obtain ⟨x, rfl, hi, hwi⟩ := hp
    exact ⟨_, rfl, kk x hi _ _ (ha.put (by simpa using hd) _) (hw.back h1 h2.mem hwi)⟩
end
def setAll (ps : List (Tmp × Value)) (fr : Fr) : Fr := ps.foldl (fun fr p => p :: fr) fr
theorem setAll_ok : ∀ (ps : List (Tmp × Value)) (tmps : Array Value) (fr : Fr), (∀ p ∈ ps, p.1 < tmps.size) → (∀ t v, lk fr t = some v → tmps.getD t undef = v) →
    (ps.foldl (fun tmps p => tmps.setIfInBounds p.1 p.2) tmps).size = tmps.size ∧ ∀ t v, lk (setAll ps fr) t = some v → (ps.foldl (fun tmps p => tmps.setIfInBounds p.1 p.2) tmps).getD t undef = v
  | [], tmps, fr, _, h => ⟨rfl, h⟩
  | (p, u) :: ps, tmps, fr, hlt, h => by
    have h1 := setAll_ok ps (tmps.setIfInBounds p u) ((p, u) :: fr) (fun q hq => by simpa using hlt q (by simp [hq])) (fun t v hv => by
      rw [lk_cons] at hv; have hp : p < tmps.size := hlt (p, u) (by simp)
      by_cases e : p = t
      · subst e
        simp at hv
        subst hv
        simp [hp]
      · rw [if_neg e] at hv
        have := h t v hv
        simpa [Array.getElem?_setIfInBounds_ne e] using this)
    exact ⟨by simpa using h1.1, h1.2⟩
def BeginQ (c : Cx) (l : Nat) (body : Code) (Q : Exit → Act → World → Prop) (a : Act) (w : World) : Prop :=
  ∃ w2, (Instr.beginRound l).run c.P w = .ok () w2 ∧ body.wpIn (FF c.rd) 0 c.P Q a w2
theorem WI.putObj {b : Bx} {w : World} {hp : Hp} {L : List Fact} {g : Nat} {o : Obj} (o' : Obj) (h : WI b w ((g, o) :: hp) L) : WI b (w.putObj g o') ((g, o') :: hp) L :=
  h.write ⟨rfl, rfl, rfl, by simp, fun k _ hn => World.putObj_heap_other (by simpa using hn), Nat.le_refl _⟩ (World.putObj_heap_same (lt_of_own (h.own (g, o) (by simp))))
section
variable {c : Cx} {fr : Fr} {hp : Hp} {L : List Fact} {fn : FuncId} {tmps : Array Value} {ps : Array Tmp} {assign body : Code} {d l : Nat} {β : Type} {k : Con β} {w0 : World}
theorem then_begin {Q : Exit → Act → World → Prop} {hp' : Hp} (hpp : hp.Perm ((l, .loop (recL fn tmps ps assign body d none)) :: hp')) (h : HC c body Q fr ((l, .loop (recB fn tmps ps assign body d)) :: hp') L) : HQ c (Exit.then (BeginQ c l body Q) (fun _ _ _ => False)) .normal fr hp L := by
  intro a w ha hw; have hw' := hw.perm hpp; have hl := hw'.own (l, .loop (recL fn tmps ps assign body d none)) (by simp); exact ⟨_, run_beginRound hl rfl, h a _ ha (hw'.putObj _)⟩
theorem rp_end {hp' : Hp} (x : β) (j : Option Code) (hpp : hp.Perm ((l, .loop (recB fn tmps ps assign body d)) :: hp')) (hb : c.b = k.entry w0) (hv : k.val x = .bool j.isNone) (hi : k.inv x) (h2 : (k.hpO x).Sublist ((l, .loop (recL fn tmps ps assign body d j)) :: hp')) (h3 : LSub L (k.LO x)) {a : Act} {w : World} (hw : WI c.b w hp L) :
    ∃ v w', (Instr.endRound l j).run c.P w = .ok v w' ∧ (k.post w0) (.returned v) w' := by
  have hw' := hw.perm hpp; have hl := hw'.own (l, .loop (recB fn tmps ps assign body d)) (by simp); exact ⟨_, _, run_endRound j hl, x, by rw [hv], hi, hb ▸ (hw'.putObj _).weak h2 h3.mem⟩
theorem rp_n {hp' : Hp} (x : β) (hpp : hp.Perm ((l, .loop (recB fn tmps ps assign body d)) :: hp')) (hb : c.b = k.entry w0) (hv : k.val x = .bool true) (hi : k.inv x) (h2 : (k.hpO x).Sublist ((l, .loop (recL fn tmps ps assign body d none)) :: hp')) (h3 : LSub L (k.LO x)) : HQ c (roundPost c.P l (k.post w0)) .normal fr hp L :=
  fun a w _ hw => rp_end (a := a) x none hpp hb hv hi h2 h3 hw
theorem rp_ret {hp' : Hp} (x : β) (hpp : hp.Perm ((l, .loop (recB fn tmps ps assign body d)) :: hp')) (hb : c.b = k.entry w0) (hv : k.val x = .bool false) (hi : k.inv x) (h2 : (k.hpO x).Sublist ((l, .loop (recL fn tmps ps assign body d (some .ret))) :: hp')) (h3 : LSub L (k.LO x)) : HQ c (roundPost c.P l (k.post w0)) .ret fr hp L :=
  fun a w _ hw => rp_end (a := a) x (some .ret) hpp hb hv hi h2 h3 hw
end
theorem meetsY_intro {β : Type} {P : Program} {l n d : Nat} {args : List Value} {k : Con β} {fn : FuncId} {tmps : Array Value} {ps : Array Tmp} {assign body : Code} {fr : Fr} (hI : (l, Obj.loop (recL fn tmps ps assign body d none)) ∈ k.hpI)
    (hsz : tmps.size = n) (hfr : ∀ t v, lk fr t = some v → tmps.getD t undef = v) (hlen : args.length = ps.size) (hps : ∀ t ∈ ps, t < n)
    (h : ∀ w, HC ⟨P, n, k.entry w, [], some l⟩ assign (Exit.then (BeginQ ⟨P, n, k.entry w, [], some l⟩ l body (roundPost P l (k.post w))) (fun _ _ _ => False)) (setAll (ps.toList.zip args) fr) k.hpI k.LI) : MeetsY P l args k := by
  intro w hw; have hl := hw.own _ hI; refine ⟨_, _, _, _, run_yield hl (by simpa [recL] using hlen), ?_⟩
  have h1 := setAll_ok (ps.toList.zip args) tmps fr (fun p hp => by
    have := List.of_mem_zip hp; rw [hsz]
    exact hps _ (by simpa using this.1)) hfr
  have e : ((ps.zip args.toArray).foldl (fun tmps (x : Tmp × Value) => tmps.setIfInBounds x.1 x.2) tmps) = (ps.toList.zip args).foldl (fun tmps p => tmps.setIfInBounds p.1 p.2) tmps := by
    rw [← Array.foldl_toList]
    simp
  refine roundIn_of_wpIn trivial ?_; refine h w _ w ⟨rfl, ?_, fun t v hv => ?_⟩ hw
  · exact (congrArg Array.size e).trans (h1.1.trans hsz)
  · have := h1.2 t v hv
    rw [← e] at this; exact this
/-! ### The statement -/
def markOf (d : Nat) : Deferred := { target := .collected d, args := #[] }
theorem hc_rangeFunc {P : Program} {n : Nat} {b : Bx} {D : List Deferred} {Q : Exit → Act → World → Prop} {fr : Fr} {hp hpR : Hp} {L : List Fact} {g : Operand} {ps : Array Tmp} {assign body : Code} {f : Nat} {cap : List Value} {β : Type}
    (R : Hp) (LI : List Fact) (inv : β → Prop) (val : β → Value) (pend : β → Option Code) (RO : β → Hp) (LO : β → List Fact)
    (hg : ev fr g = some (.func (.func f) #[] cap.toArray)) (hcb : Callable P f) (hpp : hp.Perm (R ++ hpR)) (hL : LSub L LI)
    (hm : ∀ l d fn tmps, tmps.size = n → (∀ t v, lk fr t = some v → tmps.getD t undef = v) →
      Meets P f (yieldV l :: cap) ({ hpI := (l, .loop (recL fn tmps ps assign body d none)) :: R, LI := LI, inv := inv, val := val, hpO := fun x => (l, .loop (recL fn tmps ps assign body d (pend x))) :: RO x, LO := LO } : Con β))
    (k1 : ∀ x d, inv x → pend x = none → HQ ⟨P, n, b, markOf d :: D, none⟩ Q .normal fr ((d, .deferred (some [])) :: (RO x ++ hpR)) (LO x ++ L))
    (k2 : ∀ x d j, inv x → pend x = some j → HC ⟨P, n, b, markOf d :: D, none⟩ j Q fr ((d, .deferred (some [])) :: (RO x ++ hpR)) (LO x ++ L)) :
    HC ⟨P, n, b, D, none⟩ (.rangeFunc g ps assign body) Q fr hp L := by
  intro a w ha hw; have hsz : a.tmps.size = n := ha.sz; have hwa := (hw.perm hpp).alloc (.deferred (some [])); refine wpIn_rangeFunc fun fn _ => ?_; have hwb := hwa.alloc (.loop (recL fn a.tmps ps assign body w.heap.size none)); have hs1 : (w.alloc (.deferred (some []))).heap.size = w.heap.size + 1 := by simp
  rw [hs1] at hwb; have hno : (FF none).depth.isSome = true → 1 ≤ 0 := fun h => by cases h
  let W2 := (w.alloc (.deferred (some []))).alloc (.loop (recL fn a.tmps ps assign body w.heap.size none))
  refine ⟨w.heap.size + 1, [markOf w.heap.size], W2, ⟨.fn (.func f) cap.toArray, #[] ++ #[yieldV (w.heap.size + 1)]⟩, W2, f, #[yieldV (w.heap.size + 1)] ++ cap.toArray, W2, run_enterLoop_outer fn a.tmps ps assign body, ?_, fun _ _ => trivial, ?_, hno, ?_⟩
  · have e1 := ha.ev hg
    have e2 : a.eval (.const (.func (.yield (w.heap.size + 1)) #[] #[])) = yieldV (w.heap.size + 1) := rfl; simp only [rangeCall, resolve, e1, e2, Deferred.ofValue, List.map_toArray, List.map_cons, List.map_nil, Sem.run_pure]
  · have e3 : (#[] ++ #[yieldV (w.heap.size + 1)] ++ cap.toArray : Array Value) = #[yieldV (w.heap.size + 1)] ++ cap.toArray := by simp
    simp only [invoke, e3]; exact hcb.run _ _
  · have hmm := hm (w.heap.size + 1) w.heap.size fn a.tmps hsz ha.at_
    let kk : Con β := { hpI := (w.heap.size + 1, .loop (recL fn a.tmps ps assign body w.heap.size none)) :: R, LI := LI, inv := inv, val := val, hpO := fun x => (w.heap.size + 1, .loop (recL fn a.tmps ps assign body w.heap.size (pend x))) :: RO x, LO := LO }
    have hperm : ((w.heap.size + 1, Obj.loop (recL fn a.tmps ps assign body w.heap.size none)) :: (w.heap.size, Obj.deferred (some [])) :: (R ++ hpR)).Perm (kk.hpI ++ ((w.heap.size, Obj.deferred (some [])) :: hpR)) := by
      refine perm_of fun p => ?_; simp only [kk, List.cons_append, List.countP_cons, List.countP_append]
      omega
    have hc := hmm _ (WI.entry (k := kk) hwb hperm hL.mem); have e4 : (#[yieldV (w.heap.size + 1)] ++ cap.toArray : Array Value) = (yieldV (w.heap.size + 1) :: cap).toArray := by simp
    rw [e4]; refine calls_in (hc.mono fun e w3 hpo => ?_); obtain ⟨x, rfl, hi, hwi⟩ := hpo; have hwi2 := WI.back (k := kk) (x := x) hwb hperm hL.mem hwi; have hl := hwi2.own (w.heap.size + 1, .loop (recL fn a.tmps ps assign body w.heap.size (pend x))) (by simp [kk])
    have hwi3 : WI b (w3.putObj (w.heap.size + 1) (.loop { recL fn a.tmps ps assign body w.heap.size (pend x) with state := .exhausted })) ((w.heap.size, .deferred (some [])) :: (RO x ++ hpR)) (LO x ++ L) := by
      have h5 := WI.putObj (.loop { recL fn a.tmps ps assign body w.heap.size (pend x) with state := .exhausted }) (by simpa [kk] using hwi2); refine (h5.weak (List.sublist_cons_self _ _) (fun _ h => h)).perm (perm_of fun p => ?_); simp only [List.countP_cons, List.countP_append]
      omega
    have hend : (Instr.endLoop (w.heap.size + 1)).run P w3 = .ok (pend x) _ := run_endLoop hl (by show (if (pend x).isNone = true then LoopState.ready else LoopState.done) ≠ .busy; split <;> simp); refine ⟨pend x, _, hend, ?_⟩; have hok : Ok ⟨P, n, b, markOf w.heap.size :: D, none⟩ { a with defers := [markOf w.heap.size] ++ a.defers } fr := ⟨by show markOf w.heap.size :: a.defers = _; rw [ha.d], ha.sz, ha.at_⟩
    cases hpx : pend x with
    | none =>
      rw [hpx] at hwi3; exact k1 x w.heap.size hi hpx _ _ hok hwi3
    | some j =>
      rw [hpx] at hwi3; exact k2 x w.heap.size j hi hpx _ _ hok hwi3
/-! ### Functions that leave with marks -/
theorem meetsM_intro {β : Type} {P : Program} {f : Nat} {args : List Value} {k : Con β} {fn : Func} {code : Code} (hf : P.funcs[f]? = some fn) (hb : fn.body = some code) (hn : args.length ≤ fn.ntmps)
    (h : ∀ w, HC ⟨P, fn.ntmps, k.entry w, [], none⟩ code (bodyPostM Fence.wide 0 P fn (k.post w)) (argFr 0 args) k.hpI k.LI) : Meets P f args k := by
  intro w hw; refine callsIn_wide.1 (callsIn_of_wp_marks (n := 0) hf hb trivial (h w _ w ⟨rfl, by simp; omega, fun t v hv => ?_⟩ hw)); obtain ⟨_, h2⟩ := lk_argFr args 0 t v hv; simp only [Nat.sub_zero] at h2
  have hlt : t < args.length := by
    rcases Nat.lt_or_ge t args.length with h' | h'
    · exact h'
    · rw [List.getElem?_eq_none h'] at h2; cases h2
  rw [List.getElem?_eq_getElem hlt] at h2
  injection h2 with h2
  simp [Array.getElem?_append, hlt, h2]
def shutM (ds : List Nat) : Hp := ds.map fun d => (d, Obj.deferred (some []))
theorem leaves_marks {c : Cx} {β : Type} {k : Con β} {fn : Func} {w0 : World} {tmps : Array Value} {hp' : Hp} {L : List Fact} (x : β)
    (hr : ∀ w, WI c.b w hp' L → (results fn tmps).run c.P w = .ok (k.val x) w) (hb : c.b = k.entry w0) (hi : k.inv x) (h2 : (k.hpO x).Sublist hp') (h3 : LSub L (k.LO x)) :
    ∀ (ds : List Nat) (w : World), WI c.b w (shutM ds ++ hp') L → LeavesInM Fence.wide 0 c.P fn tmps (k.post w0) (ds.map markOf) .returning w
  | [], w, hw => ⟨k.val x, hr w hw, x, rfl, hi, hb ▸ hw.weak h2 h3.mem⟩
  | d :: ds, w, hw => by
    have hw' : WI c.b w ((d, Obj.deferred (some [])) :: (shutM ds ++ hp')) L := hw; have ho := hw'.own (d, Obj.deferred (some [])) (by simp); refine ⟨by simp, .inl ⟨d, _, rfl, run_takeDeferred ho, ?_⟩⟩; exact leaves_marks x hr hb hi h2 h3 ds _ ((hw'.putObj _).weak (List.sublist_cons_self _ _) fun _ h => h)
theorem ret_marks {c : Cx} {fr : Fr} {hp hp' : Hp} {L : List Fact} {β : Type} {k : Con β} {fn : Func} {w0 : World} (ds : List Nat) (x : β) (hD : c.D = ds.map markOf) (hpp : hp.Perm (shutM ds ++ hp'))
    (hr : ∀ (a : Act) w, a.tmps.size = c.n → (∀ t v, lk fr t = some v → a.tmps.getD t undef = v) → WI c.b w hp' L → (results fn a.tmps).run c.P w = .ok (k.val x) w) (hb : c.b = k.entry w0) (hi : k.inv x) (h2 : (k.hpO x).Sublist hp') (h3 : LSub L (k.LO x)) :
    HQ c (bodyPostM Fence.wide 0 c.P fn (k.post w0)) .ret fr hp L := fun a w ha hw => by
  show LeavesInM Fence.wide 0 c.P fn a.tmps (k.post w0) a.defers .returning w; rw [ha.d, hD]; exact leaves_marks x (fun w hw => hr a w ha.sz ha.at_ hw) hb hi h2 h3 ds w (hw.perm hpp)
theorem res_cells2 {c : Cx} {fr : Fr} {hp : Hp} {L : List Fact} {fn : Func} {t u : Tmp} {ty tz : TypeId} {p q : Addr} {v1 v2 : Value} (hres : fn.results = #[.cell t ty, .cell u tz]) (hv : lk fr t = some (.pointer (some p))) (hv2 : lk fr u = some (.pointer (some q))) (ht : NoR c.P ty) (hz : NoR c.P tz)
    (h1 : Cell c.b hp L p v1) (h2 : Cell c.b hp L q v2) (a : Act) (w : World) (hsz : a.tmps.size = c.n) (hfr : ∀ t v, lk fr t = some v → a.tmps.getD t undef = v) (hw : WI c.b w hp L) : (results fn a.tmps).run c.P w = .ok (.tuple #[v1, v2]) w := by
  have hload : ∀ {ty : TypeId} {p : Addr} {v : Value}, NoR c.P ty → Cell c.b hp L p v → (loadVar ty p).run c.P w = .ok v w := by
    intro ty p v ht hc; obtain ⟨dd, ht, hr⟩ := ht
    have hagg : (isAgg ty).run c.P w = .ok false w := by
      unfold isAgg; rw [Sem.run_bind, run_underlying ht w]
      cases dd <;> simp_all [TypeDesc.isRow]
    simp only [loadVar, Sem.run_bind, hagg, Result.andThen_ok, Bool.false_eq_true, if_false, run_load, hc w hw]
  have h5 : a.tmps[t]?.getD undef = .pointer (some p) := by simpa using hfr _ _ hv
  have h6 : a.tmps[u]?.getD undef = .pointer (some q) := by simpa using hfr _ _ hv2
  unfold results; rw [hres]
  simp [h5, h6, asAddr, hload ht h1, hload hz h2]
end Go.W
end
section
namespace Go.Proofs.YtpbbgbjidhffoaaGreat
open Go Go.W
set_option maxRecDepth 20000
attribute [local irreducible] HL HC HQ HB Row Rows2 Blk Facts
def stockN (ps : List (Sl Str)) (s : Str) : Nat := ps.foldl (fun n p => max n (countN p.l s)) 0
theorem stockN_take {ps : List (Sl Str)} {s : Str} {k : Nat} (h : k < ps.length) : stockN (ps.take (k + 1)) s = max (stockN (ps.take k) s) (countN (ps.getD k default).l s) := by
  rw [take_succ_getD ps k h]; unfold stockN; rw [List.foldl_append]
  rfl
theorem originN_take {ps : List (Sl Str)} {s : Str} {n : Nat} : ∀ k, k ≤ n → n ≤ ps.length → originN (ps.take n) s k = originN ps s k
  | 0, _, _ => rfl
  | k + 1, h, h2 => by
    have : (ps.take n).getD k default = ps.getD k default := by
      rw [getD_at (by rw [List.length_take]; omega), getD_at (by omega), List.getElem_take]
    rw [originN, originN, this, originN_take k (by omega) h2]
theorem origin_take_meets {A : Option Addr} {c : Nat} {ps : List (Sl Str)} (s : Str) {n : Nat} (hn : n ≤ ps.length) (hl : ps.length ≤ 1000000) (hp : ∀ p ∈ ps, p.l.length ≤ 1000000) : Meets Tryz.prog F.proof_origin [.slice A n c, str s] { LI := [Rows2 A (ps.take n)], val := fun _ : Unit => int (originN ps s n) } := by
  have h := proof_origin_meets (A := A) (c := c) (ps.take n) s (by rw [List.length_take]; omega) (fun q hq => hp q (List.mem_of_mem_take hq)); rw [List.length_take, Nat.min_eq_left hn, originN_take _ (Nat.le_refl _) hn] at h; exact h
theorem applyP_len (p : List Str) (l : List Mk) : (applyP p l).1.length ≤ 6 := by
  unfold applyP
  split
  · simp
  · split
    · simp
    · simp only; omega
def lastP (ps : List (Sl Str)) : Sl Str := ps.getD (ps.length - 1) default
def flawP (ps : List (Sl Str)) (r : List Str) (m : Mk) : Int × Int := (if m.1 = 3 then 1 else if ¬ m.2.2 ∈ r ∧ 0 ≤ originN ps m.2.2 (ps.length - 1) then 2 else 3, m.2.1)
def flawR (ps : List (Sl Str)) (r : List Str) (m : Mk) : Int × Int := (if m.1 = 3 then 1 else if countN r m.2.2 = 0 ∧ 0 < stockN (ps.take (ps.length - 1)) m.2.2 then 2 else 3, m.2.1)
def lookP (ps : List (Sl Str)) (l : List Mk) (p : List Str) : (Int × Int) × Int :=
  if ¬ yearsErr (years ps) = 0 then ((0, 0), yearsErr (years ps)) else if ps.length = 0 then ((0, 0), 7)
  else if ¬ (applyP (lastP ps).l l).2 = 0 then ((0, 0), (applyP (lastP ps).l l).2) else if ¬ pageErr p = 0 then ((0, 0), pageErr p)
  else if (diffP (applyP (lastP ps).l l).1 p 0 0).2.length = 0 then ((0, 0), 0)
  else (flawP ps (applyP (lastP ps).l l).1 ((diffP (applyP (lastP ps).l l).1 p 0 0).2.getD 0 default), 0)
def lookR (ps : List (Sl Str)) (l : List Mk) (p : List Str) : (Int × Int) × Int :=
  if ¬ yearsErr (years ps) = 0 then ((0, 0), yearsErr (years ps)) else if ps.length = 0 then ((0, 0), 7)
  else if ¬ (applyR (lastP ps).l l).2 = 0 then ((0, 0), (applyR (lastP ps).l l).2)
  else if ¬ (diffE (applyR (lastP ps).l l).1 p (diffR (applyR (lastP ps).l l).1 p 0 0)).2 = 0 then ((0, 0), (diffE (applyR (lastP ps).l l).1 p (diffR (applyR (lastP ps).l l).1 p 0 0)).2)
  else if (diffE (applyR (lastP ps).l l).1 p (diffR (applyR (lastP ps).l l).1 p 0 0)).1.length = 0 then ((0, 0), 0)
  else (flawR ps (applyR (lastP ps).l l).1 ((diffE (applyR (lastP ps).l l).1 p (diffR (applyR (lastP ps).l l).1 p 0 0)).1.getD 0 default), 0)
def lookV (r : (Int × Int) × Int) : Value := .tuple #[.agg #[int r.1.1, int r.1.2], int r.2]
theorem ref07_stock_meets {A : Option Addr} {c : Nat} (ps : List (Sl Str)) (s : Str) (hl : ps.length ≤ 1000000) (hp : ∀ p ∈ ps, p.l.length ≤ 1000000) : Meets Tryz.prog F.ref07_stock [.slice A ps.length c, str s] { LI := [Rows2 A ps], val := fun _ : Unit => int (stockN ps s) } := by
 refine meets_intro F.ref07_stock_f rfl (Nat.le_of_ble_eq_true rfl) fun w0 => ?_; refine hc_seq (hc_outer m0 (hc_region (r_assign rfl rfl (hl_nil (then_n (hc_seq (hc_region (r_assign rfl rfl (hl_nil (then_n (hc_seq ?_))))))))))); refine hc_seq (hc_region (r_assign rfl rfl (hl_nil (then_n (hc_block ?_))))); refine hc_loop (β := Nat) ⟨fun k => k ≤ ps.length, fun k => [(0, .slice A ps.length c), (1, str s), (5, int (stockN (ps.take k) s)), (6, int k)], fun _ => [], fun _ => [Row A (rows ps), Rows2 A ps]⟩ (fun k => ps.length - k) 0 (Nat.zero_le _) ⟨rfl, rfl, rfl, rfl, trivial⟩ (.refl _) ⟨m0, m1, trivial⟩ fun k hk => ?_; simp only at hk; refine hc_seq (hc_seq (hc_region (r_move rfl rfl (r_move rfl rfl ?_)))); refine r_len_sl rfl T.u_pages rfl ?_; refine r_lss rfl rfl rfl (hl_nil (then_n ?_))
 first | refine c_dec rfl (fun hb1 => ?_) (fun hb1 => ?_) | refine hc_cond rfl (fun hb1 => ?_) (fun hb1 => ?_)
 ·have hb1' := hb1; try simp at hb1'
  have hk2 : k < ps.length := by omega
  have hst := stockN_take (s := s) hk2; have hmem := getD_mem hk2; refine hc_skip (then_n (hc_seq (hc_block (hc_region (r_move rfl rfl (r_move rfl rfl (r_move rfl rfl ?_))))))); refine r_elem (α := (Sl Str)) _ _ rfl T.u_pages T.sz_strs rfl rfl rfl mB rfl (by omega) (by decide) ?_; refine r_load rfl T.cell_strs rfl (cell_row mB (rows_get0 (by omega) rfl)) ?_; refine r_move rfl rfl ?_; refine hl_inner (p := ps.getD k default) m1 hmem ?_; refine hl_call F.ref07_count_cb rfl rfl (ref07_count_meets (ps.getD k default).l s (hp _ hmem)) (List.Perm.refl _) ⟨m0, trivial⟩ fun _ _ => ?_; refine r_max (stockN (ps.take (k + 1)) s) rfl rfl rfl (by rw [hst]; show (if ((countN (ps.getD k default).l s : Nat) : Int) > (stockN (ps.take k) s : Nat) then ((countN (ps.getD k default).l s : Nat) : Int) else (stockN (ps.take k) s : Nat)) = _; split <;> omega) ?_; refine r_assign rfl rfl (hl_nil (inb_n (then_n (hc_region (r_move rfl rfl ?_))))); refine r_add _ rfl rfl rfl rfl (by unfold I64; omega) ?_; refine r_assign rfl rfl (hl_nil ?_); exact again _ (k + 1) (by show k + 1 ≤ ps.length; omega) (by show ps.length - (k + 1) < ps.length - k; omega) ⟨rfl, rfl, rfl, rfl, trivial⟩ (.refl _) ⟨m1, m2, trivial⟩
 ·have hb1' := hb1; try simp at hb1'
  have hk2 : k = ps.length := by omega
  subst hk2; refine hc_exit (then_exit (then_exit (inb_hit (then_n (hc_seq (hc_region (r_move rfl rfl (r_assign rfl rfl (hl_nil (then_n (hc_ret ?_))))))))))); exact ret1 () rfl (congrArg (fun t => some (int (stockN t s : Nat))) List.take_length) rfl trivial (.refl _) trivial
theorem proof_Look_meets {A B C : Option Addr} {ca cb cc : Nat} (ps : List (Sl Str)) (l : List Mk) (p : List Str) (hca : ps.length ≤ ca) (hcap : ∀ q ∈ ps, q.l.length ≤ q.c) : Meets Tryz.prog F.proof_Look [.slice A ps.length ca, .slice B l.length cb, .slice C p.length cc] { LI := [Rows2 A ps, Row B (rows l), Row C (rows p)], val := fun _ : Unit => lookV (lookP ps l p) } := by
 refine meets_intro F.proof_Look_f rfl (Nat.le_of_ble_eq_true rfl) fun w0 => ?_; refine hc_seq (hc_region ?_); refine r_alloc rfl (fun _ => T.al_api_Flaw _) fun gA => ?_; refine r_assign rfl rfl (hl_nil (then_n (hc_seq (hc_seq (hc_region (r_move rfl rfl ?_)))))); refine hl_call F.proof_yearsError_cb rfl rfl (proof_yearsError_meets ps) (List.Perm.refl _) ⟨m0, trivial⟩ fun _ _ => ?_; refine r_assign rfl rfl (hl_nil (then_n (hc_seq (hc_region (r_move rfl rfl (r_neq rfl rfl rfl (hl_nil (then_n ?_))))))))
 first | refine c_dec rfl (fun hb1 => ?_) (fun hb1 => ?_) | refine hc_cond rfl (fun hb1 => ?_) (fun hb1 => ?_)
 ·have hb1' := hb1; try simp at hb1'
  have e : lookP ps l p = ((0, 0), yearsErr (years ps)) := by rw [lookP, if_pos hb1]
  rw [e]; refine hc_seq (hc_region ?_); refine r_build _ rfl rfl (fun _ => T.bd_api_Flaw_ ..) ?_; refine r_move rfl rfl ?_; refine r_storeS rfl rfl (by first | exact .refl _ | exact perm2 _ _ _ | exact perm3 _ _ _ _ | exact perm4 _ _ _ _ _) T.sz_api_Flaw (by rfl) (by rfl) ?_; refine r_assign rfl rfl (hl_nil (then_n (hc_ret (then_ret ?_)))); exact ret_row_tmp () rfl rfl rfl T.row_api_Flaw T.sz_api_Flaw rfl m0 rfl rfl trivial (List.nil_sublist _) trivial
 ·have hb1' := hb1; try simp at hb1'
  obtain ⟨h3, h4⟩ := yearsErr_zero (Classical.not_not.1 hb1); refine hc_skip (then_n (hc_seq (hc_seq (hc_region (r_move rfl rfl ?_))))); refine r_len_sl rfl T.u_pages rfl ?_; refine r_eql rfl rfl rfl (hl_nil (then_n ?_))
  first | refine c_dec rfl (fun hb2 => ?_) (fun hb2 => ?_) | refine hc_cond rfl (fun hb2 => ?_) (fun hb2 => ?_)
  ·have hb2' := hb2; try simp at hb2'
   have e : lookP ps l p = ((0, 0), 7) := by rw [lookP, if_neg hb1, if_pos (by omega)]
   rw [e]; refine hc_seq (hc_region ?_); refine r_build _ rfl rfl (fun _ => T.bd_api_Flaw_ ..) ?_; refine r_storeS rfl rfl (by first | exact .refl _ | exact perm2 _ _ _ | exact perm3 _ _ _ _ | exact perm4 _ _ _ _ _) T.sz_api_Flaw (by rfl) (by rfl) ?_; refine r_assign rfl rfl (hl_nil (then_n (hc_ret (then_ret ?_)))); exact ret_row_tmp () rfl rfl rfl T.row_api_Flaw T.sz_api_Flaw rfl m0 rfl rfl trivial (List.nil_sublist _) trivial
  ·have hb2' := hb2; try simp at hb2'
   have hb2 : ¬ ps.length = 0 := by omega
   have hmem : lastP ps ∈ ps := getD_mem (by omega); refine hc_skip (then_n (hc_seq (hc_region (r_move rfl rfl ?_)))); refine r_len_sl rfl T.u_pages rfl ?_; refine r_sub ((ps.length - 1 : Nat) : Int) rfl rfl rfl (by omega) (by unfold I64; omega) ?_; refine r_assign rfl rfl (hl_nil (then_n (hc_seq (hc_outer m0 (hc_region (r_move rfl rfl (r_move rfl rfl ?_))))))); refine r_elem (α := Sl Str) ps (ps.length - 1) rfl T.u_pages T.sz_strs rfl rfl rfl m0 rfl (by omega) (by decide) ?_; refine r_load rfl T.cell_strs rfl (cell_row mB (rows_get0 (by omega) rfl)) ?_; refine r_move rfl rfl ?_; refine hl_inner (p := lastP ps) m1 hmem ?_; refine hl_call F.proof_Apply_cb rfl rfl (proof_Apply_meets (lastP ps).l l (hcap _ hmem)) (List.Perm.refl _) ⟨m0, m3, trivial⟩ fun x hx => ?_; have hx : (applyP (lastP ps).l l).1.length ≤ x.2 := hx; have hal := applyP_len (lastP ps).l l; refine r_move rfl rfl (r_extract rfl rfl rfl (r_extract rfl rfl rfl (r_assign rfl rfl (r_assign rfl rfl (hl_nil (then_n (hc_seq (hc_seq (hc_region (r_move rfl rfl (r_neq rfl rfl rfl ?_))))))))))); refine hl_nil (then_n ?_)
   first | refine c_dec rfl (fun hb3 => ?_) (fun hb3 => ?_) | refine hc_cond rfl (fun hb3 => ?_) (fun hb3 => ?_)
   ·have hb3' := hb3; try simp at hb3'
    have e : lookP ps l p = ((0, 0), (applyP (lastP ps).l l).2) := by rw [lookP, if_neg hb1, if_neg hb2, if_pos hb3]
    rw [e]; refine hc_seq (hc_region ?_); refine r_build _ rfl rfl (fun _ => T.bd_api_Flaw_ ..) ?_; refine r_move rfl rfl ?_; refine r_storeS rfl rfl (by first | exact .refl _ | exact perm2 _ _ _ | exact perm3 _ _ _ _ | exact perm4 _ _ _ _ _) T.sz_api_Flaw (by rfl) (by rfl) ?_; refine r_assign rfl rfl (hl_nil (then_n (hc_ret (then_ret ?_)))); exact ret_row_tmp () rfl rfl rfl T.row_api_Flaw T.sz_api_Flaw rfl m0 rfl rfl trivial (List.nil_sublist _) trivial
   ·have hb3' := hb3; try simp at hb3'
    refine hc_skip (then_n (hc_seq (hc_seq (hc_region (r_move rfl rfl ?_))))); refine hl_call F.proof_Check_cb rfl rfl (proof_Check_meets p) (List.Perm.refl _) ⟨m5, trivial⟩ fun _ _ => ?_; refine r_assign rfl rfl (hl_nil (then_n (hc_seq (hc_region (r_move rfl rfl (r_neq rfl rfl rfl (hl_nil (then_n ?_))))))))
    first | refine c_dec rfl (fun hb4 => ?_) (fun hb4 => ?_) | refine hc_cond rfl (fun hb4 => ?_) (fun hb4 => ?_)
    ·have hb4' := hb4; try simp at hb4'
     have e : lookP ps l p = ((0, 0), pageErr p) := by rw [lookP, if_neg hb1, if_neg hb2, if_neg hb3, if_pos hb4]
     rw [e]; refine hc_seq (hc_region ?_); refine r_build _ rfl rfl (fun _ => T.bd_api_Flaw_ ..) ?_; refine r_move rfl rfl ?_; refine r_storeS rfl rfl (by first | exact .refl _ | exact perm2 _ _ _ | exact perm3 _ _ _ _ | exact perm4 _ _ _ _ _) T.sz_api_Flaw (by rfl) (by rfl) ?_; refine r_assign rfl rfl (hl_nil (then_n (hc_ret (then_ret ?_)))); exact ret_row_tmp () rfl rfl rfl T.row_api_Flaw T.sz_api_Flaw rfl m0 rfl rfl trivial (List.nil_sublist _) trivial
    ·have hb4' := hb4; try simp at hb4'
     have hp6 := pageErr_zero (Classical.not_not.1 hb4); refine hc_skip (then_n (hc_seq (hc_region (r_move rfl rfl (r_move rfl rfl ?_))))); refine hl_call F.proof_diff_cb rfl rfl (proof_diff_meets (applyP (lastP ps).l l).1 p (by omega) (by omega)) (List.Perm.refl _) ⟨m0, m5, trivial⟩ fun y _ => ?_; refine r_assign rfl rfl (hl_nil (then_n (hc_seq (hc_seq (hc_region (r_move rfl rfl ?_)))))); refine r_len_sl rfl T.u_L_api_Mark rfl ?_; refine r_eql rfl rfl rfl (hl_nil (then_n ?_))
     first | refine c_dec rfl (fun hb5 => ?_) (fun hb5 => ?_) | refine hc_cond rfl (fun hb5 => ?_) (fun hb5 => ?_)
     ·have hb5' := hb5; try simp at hb5'
      have e : lookP ps l p = ((0, 0), 0) := by rw [lookP, if_neg hb1, if_neg hb2, if_neg hb3, if_neg hb4, if_pos (by omega)]
      rw [e]; refine hc_seq (hc_region ?_); refine r_build _ rfl rfl (fun _ => T.bd_api_Flaw_ ..) ?_; refine r_storeS rfl rfl (by first | exact .refl _ | exact perm2 _ _ _ | exact perm3 _ _ _ _ | exact perm4 _ _ _ _ _) T.sz_api_Flaw (by rfl) (by rfl) ?_; refine r_assign rfl rfl (hl_nil (then_n (hc_ret (then_ret ?_)))); exact ret_row_tmp () rfl rfl rfl T.row_api_Flaw T.sz_api_Flaw rfl m0 rfl rfl trivial (List.nil_sublist _) trivial
     ·have hb5' := hb5; try simp at hb5'
      have hb5 : ¬ (diffP (applyP (lastP ps).l l).1 p 0 0).2.length = 0 := by omega
      have e : lookP ps l p = (flawP ps (applyP (lastP ps).l l).1 ((diffP (applyP (lastP ps).l l).1 p 0 0).2.getD 0 default), 0) := by rw [lookP, if_neg hb1, if_neg hb2, if_neg hb3, if_neg hb4, if_neg hb5]
      rw [e]; refine hc_skip (then_n (hc_seq (hc_region (r_move rfl rfl ?_)))); refine r_elem (α := Mk) (diffP (applyP (lastP ps).l l).1 p 0 0).2 0 rfl T.u_L_api_Mark T.sz_api_Mark rfl rfl rfl m0 rfl (by omega) (by decide) ?_; refine r_loadS rfl T.row_api_Mark T.sz_api_Mark rfl rfl (cells_row m0 (rows_all (l := (diffP (applyP (lastP ps).l l).1 p 0 0).2) (i := 0) (by omega))) ?_; refine r_alloc rfl (fun _ => T.al_api_Mark _) fun gA => ?_; refine r_storeS rfl rfl (by first | exact .refl _ | exact perm2 _ _ _ | exact perm3 _ _ _ _ | exact perm4 _ _ _ _ _) T.sz_api_Mark (by rfl) (by rfl) ?_; refine hl_nil (then_n (hc_seq (hc_region (r_assign rfl rfl (hl_nil (then_n (hc_seq (hc_block (hc_seq ?_))))))))); generalize ((diffP (applyP (lastP ps).l l).1 p 0 0).2.getD 0 default) = m at *; generalize (applyP (lastP ps).l l) = r at *; obtain ⟨mk, ma, mt⟩ := m; refine hc_region ?_
      first | refine r_fieldAddr ⟨_, 0, none⟩ rfl rfl T.fa_api_Mark_0 rfl ?_ | refine r_fieldAddr _ rfl rfl T.fa_api_Mark_0 rfl ?_
      first | refine r_load rfl T.cell_int rfl (cell_own mB rfl) ?_ | refine r_load rfl T.cell_int rfl (cell_blk mB rfl) ?_ | refine r_load rfl T.cell_int rfl (cell_row mB (rows_get0 (by omega) rfl)) ?_ | refine r_load rfl T.cell_int rfl (cell_row_f mB (rows_get (by omega) rfl)) ?_
      refine r_eql rfl rfl rfl (r_assign rfl rfl (hl_nil (then_n ?_)))
      first | refine c_dec rfl (fun hb6 => ?_) (fun hb6 => ?_) | refine hc_cond rfl (fun hb6 => ?_) (fun hb6 => ?_)
      ·have hb6' := hb6; try simp at hb6'
       simp only at hb6; refine hc_region (r_assign rfl rfl (hl_nil (inb_n (then_n (hc_seq (hc_region (r_move rfl rfl ?_)))))))
       first | refine r_fieldAddr ⟨_, 1, none⟩ rfl rfl T.fa_api_Mark_1 rfl ?_ | refine r_fieldAddr _ rfl rfl T.fa_api_Mark_1 rfl ?_
       first | refine r_load rfl T.cell_int rfl (cell_own mB rfl) ?_ | refine r_load rfl T.cell_int rfl (cell_blk mB rfl) ?_ | refine r_load rfl T.cell_int rfl (cell_row mB (rows_get0 (by omega) rfl)) ?_ | refine r_load rfl T.cell_int rfl (cell_row_f mB (rows_get (by omega) rfl)) ?_
       refine r_build _ rfl rfl (fun _ => T.bd_api_Flaw_0_1 ..) ?_; refine r_storeS rfl rfl (by first | exact .refl _ | exact perm2 _ _ _ | exact perm3 _ _ _ _ | exact perm4 _ _ _ _ _) T.sz_api_Flaw (by rfl) (by rfl) ?_; refine r_assign rfl rfl (hl_nil (then_n (hc_ret ?_))); exact ret_row_tmp () rfl rfl rfl T.row_api_Flaw T.sz_api_Flaw rfl m0 (by rw [lookV, flawP, if_pos hb6]) rfl trivial (List.nil_sublist _) trivial
      ·have hb6' := hb6; try simp at hb6'
       refine hc_seq ?_; refine hc_draw 11 mixed (by decide) (by decide) rfl rfl ?_; refine hb_ex _ rfl rfl rfl (fun w1 => r_move rfl rfl (hl_nil (qe_done rfl))) ?_
       apply hb_ex _ rfl rfl rfl
       ·intro w1
        first | refine r_fieldAddr ⟨_, 2, none⟩ rfl rfl T.fa_api_Mark_2 rfl ?_ | refine r_fieldAddr _ rfl rfl T.fa_api_Mark_2 rfl ?_
        refine hl_nil ?_; exact qe_done rfl
       apply hb_ex _ rfl rfl rfl
       ·intro w1
        first | refine r_load rfl T.cell_string rfl (cell_blk mB rfl) ?_ | refine r_load rfl T.cell_string rfl (cell_own mB rfl) ?_ | refine r_load rfl T.cell_string rfl (cell_row mB (rows_get0 (by omega) rfl)) ?_ | refine r_load rfl T.cell_string rfl (cell_row_f mB (rows_get (by omega) rfl)) ?_
        refine hl_nil ?_; exact qe_done rfl
       refine hb_ex _ rfl rfl rfl (fun w1 => hl_call F.slices_Contains_strs_cb rfl rfl (slices_Contains_strs_meets r.1 mt (by omega)) (List.Perm.refl _) ⟨m3, trivial⟩ fun _ _ => (hl_nil (qe_done rfl))) ?_; refine hb_ex _ rfl rfl rfl (fun w1 => r_not rfl rfl (hl_nil (qe_done rfl))) ?_; refine hb_ex _ rfl rfl rfl (fun w1 => r_move rfl rfl (hl_nil (qe_done rfl))) ?_; refine hb_split (t := 68) (want := true) rfl ?_ ?_
       ·intro hg1; have hg1' := hg1; try simp at hg1'
        apply hb_ex _ rfl rfl rfl
        ·intro w1; refine g_yes rfl rfl hg1 (r_move rfl rfl (hl_nil ?_)); exact qe_done rfl
        apply hb_ex _ rfl rfl rfl
        ·intro w1; refine g_yes rfl rfl hg1 (r_move rfl rfl (hl_nil ?_)); exact qe_done rfl
        apply hb_ex _ rfl rfl rfl
        ·intro w1; refine g_yes rfl rfl hg1 ?_; refine r_slice_hi (ps.length - 1) rfl T.u_pages T.sz_strs rfl rfl rfl (by omega) ?_; refine hl_nil ?_; exact qe_done rfl
        apply hb_ex _ rfl rfl rfl
        ·intro w1; refine g_yes rfl rfl hg1 ?_
         first | refine r_fieldAddr ⟨_, 2, none⟩ rfl rfl T.fa_api_Mark_2 rfl ?_ | refine r_fieldAddr _ rfl rfl T.fa_api_Mark_2 rfl ?_
         refine hl_nil ?_; exact qe_done rfl
        apply hb_ex _ rfl rfl rfl
        ·intro w1; refine g_yes rfl rfl hg1 ?_
         first | refine r_load rfl T.cell_string rfl (cell_blk mB rfl) ?_ | refine r_load rfl T.cell_string rfl (cell_own mB rfl) ?_ | refine r_load rfl T.cell_string rfl (cell_row mB (rows_get0 (by omega) rfl)) ?_ | refine r_load rfl T.cell_string rfl (cell_row_f mB (rows_get (by omega) rfl)) ?_
         refine hl_nil ?_; exact qe_done rfl
        refine hb_nil ⟨rfl, ?_⟩; refine g_yes rfl rfl hg1 ?_; refine hl_take2 (A := A) (ps := ps) (ps.length - 1) m4 ?_; refine hl_call (vs := [.slice A (ps.length - 1) ca, str mt]) F.proof_origin_cb rfl rfl (origin_take_meets mt (by omega) (by omega) (fun q hq => by have := h4 q hq; omega)) (List.Perm.refl _) ⟨m0, trivial⟩ fun _ _ => ?_; refine g_yes rfl rfl hg1 (r_geq rfl rfl rfl ?_); refine p_t rfl rfl (bt1 hg1) rfl ?_; refine r_assign rfl rfl (hl_nil (then_n ?_))
        first | refine c_dec rfl (fun hb7 => ?_) (fun hb7 => ?_) | refine hc_cond rfl (fun hb7 => ?_) (fun hb7 => ?_)
        ·have hb7' := hb7; try simp at hb7'
         refine hc_region (r_assign rfl rfl (hl_nil (inb_n (then_n (hc_seq (hc_region (r_move rfl rfl ?_)))))))
         first | refine r_fieldAddr ⟨_, 1, none⟩ rfl rfl T.fa_api_Mark_1 rfl ?_ | refine r_fieldAddr _ rfl rfl T.fa_api_Mark_1 rfl ?_
         first | refine r_load rfl T.cell_int rfl (cell_own mB rfl) ?_ | refine r_load rfl T.cell_int rfl (cell_blk mB rfl) ?_ | refine r_load rfl T.cell_int rfl (cell_row mB (rows_get0 (by omega) rfl)) ?_ | refine r_load rfl T.cell_int rfl (cell_row_f mB (rows_get (by omega) rfl)) ?_
         refine r_build _ rfl rfl (fun _ => T.bd_api_Flaw_0_1 ..) ?_; refine r_storeS rfl rfl (by first | exact .refl _ | exact perm2 _ _ _ | exact perm3 _ _ _ _ | exact perm4 _ _ _ _ _) T.sz_api_Flaw (by rfl) (by rfl) ?_; refine r_assign rfl rfl (hl_nil (then_n (hc_ret ?_))); exact ret_row_tmp () rfl rfl rfl T.row_api_Flaw T.sz_api_Flaw rfl m0 (by rw [lookV, flawP, if_neg hb6, if_pos (by simpa using ⟨hg1', hb7⟩)]) rfl trivial (List.nil_sublist _) trivial
        ·have hb7' := hb7; try simp at hb7'
         refine hc_skip (inb_n (then_n (hc_seq (hc_region (r_move rfl rfl ?_)))))
         first | refine r_fieldAddr ⟨_, 1, none⟩ rfl rfl T.fa_api_Mark_1 rfl ?_ | refine r_fieldAddr _ rfl rfl T.fa_api_Mark_1 rfl ?_
         first | refine r_load rfl T.cell_int rfl (cell_own mB rfl) ?_ | refine r_load rfl T.cell_int rfl (cell_blk mB rfl) ?_ | refine r_load rfl T.cell_int rfl (cell_row mB (rows_get0 (by omega) rfl)) ?_ | refine r_load rfl T.cell_int rfl (cell_row_f mB (rows_get (by omega) rfl)) ?_
         refine r_build _ rfl rfl (fun _ => T.bd_api_Flaw_0_1 ..) ?_; refine r_storeS rfl rfl (by first | exact .refl _ | exact perm2 _ _ _ | exact perm3 _ _ _ _ | exact perm4 _ _ _ _ _) T.sz_api_Flaw (by rfl) (by rfl) ?_; refine r_assign rfl rfl (hl_nil (then_n (hc_ret ?_))); exact ret_row_tmp () rfl rfl rfl T.row_api_Flaw T.sz_api_Flaw rfl m0 (by rw [lookV, flawP, if_neg hb6, if_neg (by simp_all)]) rfl trivial (List.nil_sublist _) trivial
       ·intro hg1; have hg1' := hg1; try simp at hg1'
        refine hb_ex _ rfl rfl rfl (fun w1 => g_no rfl rfl rfl rfl rfl hg1 (hl_nil (qe_done rfl))) ?_; refine hb_ex _ rfl rfl rfl (fun w1 => g_no rfl rfl rfl rfl rfl hg1 (hl_nil (qe_done rfl))) ?_; refine hb_ex _ rfl rfl rfl (fun w1 => g_no rfl rfl rfl rfl rfl hg1 (hl_nil (qe_done rfl))) ?_; refine hb_ex _ rfl rfl rfl (fun w1 => g_no rfl rfl rfl rfl rfl hg1 (hl_nil (qe_done rfl))) ?_; refine hb_ex _ rfl rfl rfl (fun w1 => g_no rfl rfl rfl rfl rfl hg1 (hl_nil (qe_done rfl))) ?_; refine hb_nil ⟨rfl, ?_⟩; refine g_no rfl rfl rfl rfl rfl hg1 (g_no rfl rfl rfl rfl rfl hg1 ?_); refine p_f rfl rfl (bf2 hg1) rfl ?_; refine r_assign rfl rfl (hl_nil (then_n (c_f rfl rfl (hc_skip (inb_n (then_n (hc_seq (hc_region (r_move rfl rfl ?_)))))))))
        first | refine r_fieldAddr ⟨_, 1, none⟩ rfl rfl T.fa_api_Mark_1 rfl ?_ | refine r_fieldAddr _ rfl rfl T.fa_api_Mark_1 rfl ?_
        first | refine r_load rfl T.cell_int rfl (cell_own mB rfl) ?_ | refine r_load rfl T.cell_int rfl (cell_blk mB rfl) ?_ | refine r_load rfl T.cell_int rfl (cell_row mB (rows_get0 (by omega) rfl)) ?_ | refine r_load rfl T.cell_int rfl (cell_row_f mB (rows_get (by omega) rfl)) ?_
        refine r_build _ rfl rfl (fun _ => T.bd_api_Flaw_0_1 ..) ?_; refine r_storeS rfl rfl (by first | exact .refl _ | exact perm2 _ _ _ | exact perm3 _ _ _ _ | exact perm4 _ _ _ _ _) T.sz_api_Flaw (by rfl) (by rfl) ?_; refine r_assign rfl rfl (hl_nil (then_n (hc_ret ?_))); exact ret_row_tmp () rfl rfl rfl T.row_api_Flaw T.sz_api_Flaw rfl m0 (by rw [lookV, flawP, if_neg hb6, if_neg (by simp_all)]) rfl trivial (List.nil_sublist _) trivial
end Go.Proofs.YtpbbgbjidhffoaaGreat
end
section
namespace Go.W
open Go Go.RowKit
section
variable {c : Cx} {Q : Exit → Act → World → Prop} {fr : Fr} {hp : Hp} {L : List Fact} {ops : Array Oper} {rest : List Oper}
theorem hc_nilrow {x : Code} {α : Type} [El α] (k : HC c x Q fr hp (Row none (rows ([] : List α)) :: L)) : HC c x Q fr hp L := hc_more (F := Row none (rows ([] : List α))) (fun w _ => Row.nil _ w) (fun k hk => by obtain ⟨_, e, _⟩ := hk; cases e) k
variable {α : Type} [El α]
abbrev innerF (ps : List (Sl α)) : Fact := Facts (ps.map fun p => Row p.a (rows p.l))
end
end Go.W
end
section
namespace Go.W
open Go Go.RowKit
def notI (dd : TypeDesc) : Bool := match dd with | .interface _ => false | _ => true
def NoI (P : Program) (t : TypeId) : Prop := ∃ dd, P.underlying t = some dd ∧ notI dd = true
section
variable {c : Cx} {Q : Exit → Act → World → Prop} {fr : Fr} {hp : Hp} {L : List Fact} {ops : Array Oper} {rest : List Oper}
variable {d : Tmp} {ty : TypeId} {pos : String} {af : Array Edge}
/-! ### Interfaces -/
/-! ### Three results -/
/-! ### Strings that are ranged over -/
abbrev iter (s : Str) (p : Nat) : Obj := .stringIter ⟨s.toArray⟩ p
def nextV (s : Str) (p : Nat) : Value := if p < s.length then .tuple #[.bool true, int p, .int .i32 ((Utf8.decode ⟨s.toArray⟩ p).1 : Nat)] else .tuple #[.bool false]
def nextP (s : Str) (p : Nat) : Nat := if p < s.length then p + (Utf8.decode ⟨s.toArray⟩ p).2 else p
end
/-! ### Small sets of bits -/
def u8 (m : Nat) : Value := .int .u8 (m : Int)
section
variable {c : Cx} {Q : Exit → Act → World → Prop} {fr : Fr} {hp : Hp} {L : List Fact} {ops : Array Oper} {rest : List Oper}
variable {d : Tmp} {ty : TypeId} {pos : String} {af : Array Edge}
def diff8 (a b : Nat) : Nat := a &&& (255 - b)
end
/-! ### Rows whose elements have facts of their own -/
def RowsF {α : Type} [El α] (A : Option Addr) (ps : List α) (f : α → Fact) : Fact where
  P w := (Row A (rows ps)).P w ∧ ∀ p ∈ ps, (f p).P w
  fp k := (Row A (rows ps)).fp k ∨ ∃ p ∈ ps, (f p).fp k
  st w w' h hP := ⟨(Row A (rows ps)).st w w' (fun k hk => h k (.inl hk)) hP.1, fun p hp => (f p).st w w' (fun k hk => h k (.inr ⟨p, hp, hk⟩)) (hP.2 p hp)⟩
  lt w hP k hk := by
    rcases hk with hk | ⟨p, hp, hk⟩
    · exact (Row A (rows ps)).lt w hP.1 k hk
    · exact (f p).lt w (hP.2 p hp) k hk
section
variable {c : Cx} {Q : Exit → Act → World → Prop} {fr : Fr} {hp : Hp} {L : List Fact} {ops : Array Oper} {rest : List Oper}
variable {α : Type} [El α] {A : Option Addr} {ps : List α} {f : α → Fact}
abbrev innersF (ps : List α) (f : α → Fact) : Fact := Facts (ps.map f)
end
theorem wi_takerow {α : Type} [El α] {A : Option Addr} {ps : List α} {hp : Hp} {L : List Fact} {b : Bx} {w : World} (n : Nat) (h : Row A (rows ps) ∈ L) (hw : WI b w hp L) : WI b w hp (Row A (rows (ps.take n)) :: L) := by
  have h0 := hw.fs _ h; obtain ⟨r, hr⟩ : ∃ r, rows ps = rows (ps.take n) ++ r := ⟨rows (ps.drop n), by rw [← rows_append, List.take_append_drop]⟩; refine wi_more hw (fun j u hj => h0 j u ?_) (fun k hk => ⟨_, h, ?_⟩)
  · rw [hr, List.getElem?_append, if_pos (List.getElem?_eq_some_iff.1 hj).1]; exact hj
  · obtain ⟨ad, e, h1, h2⟩ := hk
    exact ⟨ad, e, h1, fun h3 => h2 (by rw [h3] at hr; exact (List.append_eq_nil_iff.1 hr.symm).1)⟩
theorem hl_takerow {α : Type} [El α] {A : Option Addr} {ps : List α} {hp : Hp} {L : List Fact} {c : Cx} {Q : Exit → Act → World → Prop} {fr : Fr} {ops : Array Oper} {rest : List Oper} (n : Nat) (h : Row A (rows ps) ∈ L) (k : HL c ops Q rest fr hp (Row A (rows (ps.take n)) :: L)) : HL c ops Q rest fr hp L := fun a w ha hw => k a w ha (wi_takerow n h hw)
end Go.W
end
section
namespace Go.W
open Go Go.RowKit
section
variable {c : Cx} {Q : Exit → Act → World → Prop} {fr : Fr} {hp : Hp} {L : List Fact} {ops : Array Oper} {rest : List Oper}
variable {d : Tmp} {ty : TypeId} {pos : String} {af : Array Edge}
theorem hl_eff {o : Oper} (ho : o.dst = none) (hg : o.guard = none)
    (h : ∀ a w, Ok c a fr → WI c.b w hp L → ∃ v w' hp' L', (execOp a.eval o).run c.P w = .ok (.value v) w' ∧ WI c.b w' hp' L' ∧ HL c ops Q rest fr hp' L') : HL c ops Q (o :: rest) fr hp L := by
  intro a w ha hw; obtain ⟨v, w', hp', L', hr, hw', hk⟩ := h a w ha hw; refine wpL_plain hg fun K hK => ?_; unfold Oper.wp; rw [hr, Oper.upon_value, ho]; exact hK _ _ (hk _ _ ha hw')
/-! ### Loops that leave marks -/
def AgainM {β : Type} (s : Sta β) (ds : β → List Nat) (μ : β → Nat) (m : Nat) (P : Program) (n : Nat) (b : Bx) (a : Act) (w : World) : Prop := ∃ y, s.inv y ∧ μ y < m ∧ Ok ⟨P, n, b, (ds y).map markOf, none⟩ a (s.fr y) ∧ WI b w (shutM (ds y) ++ s.hp y) (s.L y)
end
end Go.W
end
section
namespace Go.W
open Go Go.RowKit
section
variable {κ : Type} [DecidableEq κ]
def updF (f : κ → Nat) (k : κ) (n : Nat) : κ → Nat := fun x => if x = k then n else f x
structure MapIs (l : List (Ment κ)) (clk : Nat) (f : κ → Nat) : Prop where
  bs : (l.map (·.2.2)).Pairwise (· < ·)
  lt : ∀ p ∈ l, p.2.2 < clk
  nd : (l.map (·.1)).Nodup
  vl : ∀ p ∈ l, p.2.1 = int (f p.1) ∧ 0 < f p.1
  al : ∀ k, 0 < f k → k ∈ l.map (·.1)
theorem MapIs.nil : MapIs ([] : List (Ment κ)) 0 (fun _ => 0) := ⟨.nil, by simp, by simp, by simp, fun k h => by omega⟩
theorem getM_none {l : List (Ment κ)} {k : κ} : getM l k = none ↔ k ∉ l.map (·.1) := by
  induction l with
  | nil => simp [getM, findM]
  | cons p l ih =>
    rw [getM_cons]
    by_cases h : p.1 = k
    · rw [if_pos h]; simp [h]
    · rw [if_neg h, ih, List.map_cons, List.mem_cons]
      simp only [not_or]; exact ⟨fun e => ⟨fun e2 => h e2.symm, e⟩, fun e => e.2⟩
theorem MapIs.get {l : List (Ment κ)} {clk : Nat} {f : κ → Nat} (h : MapIs l clk f) (k : κ) : getM l k = if f k = 0 then none else some (int (f k)) := by
  split
  · rename_i e
    refine getM_none.2 fun hm => ?_; obtain ⟨p, hp, rfl⟩ := List.mem_map.1 hm; have := (h.vl p hp).2
    omega
  · rename_i e
    cases hg : getM l k with
    | none => exact absurd (h.al k (by omega)) (getM_none.1 hg)
    | some v =>
      obtain ⟨p, hp, e1, e2⟩ := getM_mem hg; rw [← e2, (h.vl p hp).1, e1]
theorem putM_cons (p : Ment κ) (l : List (Ment κ)) (k : κ) (v : Value) (clk : Nat) : putM (p :: l) k v clk = if p.1 = k then (k, v, p.2.2) :: l else p :: putM l k v clk := by
  by_cases h : p.1 = k
  · simp [putM, findM, h]
  · simp only [putM, findM, h, if_false]
    rw [findM_succ]
    cases hf : findM k l 0 with
    | none => simp
    | some q => simp
theorem findM_none {l : List (Ment κ)} {k : κ} : findM k l 0 = none ↔ k ∉ l.map (·.1) := by
  rw [← getM_none]; unfold getM
  cases findM k l 0 <;> simp
theorem clkM_eq (l : List (Ment κ)) (k : κ) (clk : Nat) : clkM l k clk = if k ∈ l.map (·.1) then clk else clk + 1 := by
  unfold clkM
  cases hf : findM k l 0 with
  | none => rw [if_neg (findM_none.1 hf)]; rfl
  | some q =>
    have h1 : k ∈ l.map (·.1) := Classical.byContradiction fun h => by rw [findM_none.2 h] at hf; cases hf
    rw [if_pos h1]
    rfl
theorem putM_keys (l : List (Ment κ)) (k : κ) (v : Value) (clk : Nat) : (putM l k v clk).map (·.1) = if k ∈ l.map (·.1) then l.map (·.1) else l.map (·.1) ++ [k] := by
  induction l with
  | nil => simp [putM, findM]
  | cons p l ih =>
    rw [putM_cons]
    by_cases h : p.1 = k
    · rw [if_pos h, if_pos (by simp [h])]
      simp [h]
    · rw [if_neg h, List.map_cons, ih, List.map_cons]
      by_cases h2 : k ∈ l.map (·.1)
      · rw [if_pos h2, if_pos (List.mem_cons_of_mem _ h2)]
      · rw [if_neg h2, if_neg (by rw [List.mem_cons, not_or]; exact ⟨fun e => h e.symm, h2⟩)]
        rfl
theorem putM_borns (l : List (Ment κ)) (k : κ) (v : Value) (clk : Nat) : (putM l k v clk).map (·.2.2) = if k ∈ l.map (·.1) then l.map (·.2.2) else l.map (·.2.2) ++ [clk] := by
  induction l with
  | nil => simp [putM, findM]
  | cons p l ih =>
    rw [putM_cons]
    by_cases h : p.1 = k
    · rw [if_pos h, if_pos (by simp [h])]
      simp
    · rw [if_neg h, List.map_cons, ih, List.map_cons, List.map_cons]
      by_cases h2 : k ∈ l.map (·.1)
      · rw [if_pos h2, if_pos (List.mem_cons_of_mem _ h2)]
      · rw [if_neg h2, if_neg (by rw [List.mem_cons, not_or]; exact ⟨fun e => h e.symm, h2⟩)]
        rfl
theorem putM_in {l : List (Ment κ)} {k : κ} {v : Value} {clk : Nat} (hn : (l.map (·.1)).Nodup) {p : Ment κ} (h : p ∈ putM l k v clk) : (p.1 = k ∧ p.2.1 = v) ∨ (p ∈ l ∧ p.1 ≠ k) := by
  induction l with
  | nil => simp [putM, findM] at h; subst h; exact .inl ⟨rfl, rfl⟩
  | cons q l ih =>
    rw [putM_cons] at h; rw [List.map_cons, List.nodup_cons] at hn
    by_cases e : q.1 = k
    · rw [if_pos e] at h
      rcases List.mem_cons.1 h with rfl | h
      · exact .inl ⟨rfl, rfl⟩
      · refine .inr ⟨List.mem_cons_of_mem _ h, fun e2 => hn.1 ?_⟩
        rw [e, ← e2]; exact List.mem_map_of_mem h
    · rw [if_neg e] at h
      rcases List.mem_cons.1 h with rfl | h
      · exact .inr ⟨List.mem_cons_self, e⟩
      · exact (ih hn.2 h).imp id fun h => ⟨List.mem_cons_of_mem _ h.1, h.2⟩
theorem MapIs.put {l : List (Ment κ)} {clk : Nat} {f : κ → Nat} (h : MapIs l clk f) (k : κ) {n : Nat} (hn : 0 < n) : MapIs (putM l k (int n) clk) (clkM l k clk) (updF f k n) where
  bs := by
    rw [putM_borns]
    split
    · exact h.bs
    · refine List.pairwise_append.2 ⟨h.bs, by simp, fun a ha b hb => ?_⟩
      obtain ⟨p, hp, rfl⟩ := List.mem_map.1 ha; rw [List.mem_singleton.1 hb]; exact h.lt p hp
  lt p hp := by
    have h1 : p.2.2 ∈ (putM l k (int n) clk).map (·.2.2) := List.mem_map_of_mem hp; rw [putM_borns] at h1; rw [clkM_eq]
    split at h1
    · rename_i e
      rw [if_pos e]; obtain ⟨q, hq, e2⟩ := List.mem_map.1 h1; rw [← e2]; exact h.lt q hq
    · rename_i e
      rw [if_neg e]
      rcases List.mem_append.1 h1 with h1 | h1
      · obtain ⟨q, hq, e2⟩ := List.mem_map.1 h1
        have := h.lt q hq
        omega
      · rw [List.mem_singleton.1 h1]; omega
  nd := by
    rw [putM_keys]
    split
    · exact h.nd
    · rename_i e
      refine List.nodup_append.2 ⟨h.nd, by simp, fun a ha b hb e2 => e ?_⟩; rw [← List.mem_singleton.1 hb, ← e2]; exact ha
  vl p hp := by
    unfold updF
    rcases putM_in h.nd hp with ⟨e1, e2⟩ | ⟨e1, e2⟩
    · rw [if_pos e1]; exact ⟨e2, hn⟩
    · rw [if_neg e2]; exact h.vl p e1
  al x hx := by
    rw [putM_keys]; unfold updF at hx
    by_cases e : x = k
    · subst e
      split
      · assumption
      · simp
    · rw [if_neg e] at hx
      have := h.al x hx
      split
      · exact this
      · exact List.mem_append_left _ this
def delM (l : List (Ment κ)) (k : κ) : List (Ment κ) := match findM k l 0 with | some (i, _) => l.eraseIdx i | none => l
theorem delM_eq (l : List (Ment κ)) (k : κ) : delM l k = l.eraseP fun p => decide (p.1 = k) := by
  induction l with
  | nil => rfl
  | cons p l ih =>
    unfold delM; rw [List.eraseP_cons]
    by_cases h : p.1 = k
    · simp [findM, h]
    · simp only [findM, h, if_false, decide_false]
      rw [findM_succ]; unfold delM at ih
      cases hf : findM k l 0 with
      | none => rw [hf] at ih; simp only [Option.map_none]; rw [← ih]; rfl
      | some q => rw [hf] at ih; simp only [Option.map_some, List.eraseIdx_cons_succ]; rw [← ih]; rfl
theorem MapIs.del {l : List (Ment κ)} {clk : Nat} {f : κ → Nat} (h : MapIs l clk f) (k : κ) : MapIs (delM l k) clk (updF f k 0) := by
  have hs : (delM l k).Sublist l := by rw [delM_eq]; exact List.eraseP_sublist
  have hk : ∀ p ∈ delM l k, p.1 ≠ k := by
    rw [delM_eq]; have h1 := h.nd; clear hs h
    induction l with
    | nil => intro p hp; cases hp
    | cons q l ih =>
      rw [List.map_cons, List.nodup_cons] at h1; intro p hp e; rw [List.eraseP_cons] at hp
      by_cases e1 : q.1 = k
      · rw [decide_eq_true e1] at hp
        exact h1.1 (by rw [e1, ← e]; exact List.mem_map_of_mem hp)
      · rw [decide_eq_false e1] at hp
        rcases List.mem_cons.1 hp with rfl | hp
        · exact e1 e
        · exact ih h1.2 p hp e
  refine ⟨h.bs.sublist (hs.map _), fun p hp => h.lt p (hs.subset hp), h.nd.sublist (hs.map _), fun p hp => ?_, fun x hx => ?_⟩
  · unfold updF
    rw [if_neg (hk p hp)]; exact h.vl p (hs.subset hp)
  · unfold updF at hx
    by_cases e : x = k
    · rw [if_pos e] at hx; omega
    · rw [if_neg e] at hx
      obtain ⟨p, hp, e2⟩ := List.mem_map.1 (h.al x hx); refine List.mem_map.2 ⟨p, ?_, e2⟩; rw [delM_eq]; exact (List.mem_eraseP_of_neg (by rw [decide_eq_true_eq, e2]; exact e)).2 hp
omit [DecidableEq κ] in
theorem MapIs.congr {l : List (Ment κ)} {clk : Nat} {f g : κ → Nat} (h : MapIs l clk f) (e : ∀ k, f k = g k) : MapIs l clk g := by
  have : f = g := funext e; exact this ▸ h
theorem nodup_len {α : Type} [DecidableEq α] : ∀ {l K : List α}, l.Nodup → (∀ x ∈ l, x ∈ K) → l.length ≤ K.length
  | [], K, _, _ => Nat.zero_le _
  | x :: l, K, hn, h => by
    rw [List.nodup_cons] at hn; have h1 := h x List.mem_cons_self; have h2 := nodup_len (K := K.erase x) hn.2 fun y hy => (List.mem_erase_of_ne (fun e : y = x => hn.1 (by rw [← e]; exact hy))).2 (h y (List.mem_cons_of_mem _ hy)); rw [List.length_erase_of_mem h1] at h2; have := List.length_pos_of_mem h1; rw [List.length_cons]
    omega
theorem eraseIdx_mp {α β : Type} (f : α → β) : ∀ (l : List α) (i : Nat), (l.map f).eraseIdx i = (l.eraseIdx i).map f
  | [], i => rfl
  | x :: l, 0 => rfl
  | x :: l, i + 1 => by rw [List.map_cons, List.eraseIdx_cons_succ, List.eraseIdx_cons_succ, List.map_cons, eraseIdx_mp f l i]
theorem MapIs.len {l : List (Ment κ)} {clk : Nat} {f : κ → Nat} (h : MapIs l clk f) {K : List κ} (hK : ∀ k, 0 < f k → k ∈ K) : l.length ≤ K.length := by
  have h2 := nodup_len (K := K) h.nd fun k hk => by
    obtain ⟨p, hp, rfl⟩ := List.mem_map.1 hk; exact hK _ (h.vl p hp).2
  rwa [List.length_map] at h2
end
structure Vis {κ : Type} (l vis : List (Ment κ)) : Prop where
  sub : ∀ p ∈ vis, p ∈ l
  nd : (vis.map (·.2.2)).Nodup
theorem Vis.nil {κ : Type} (l : List (Ment κ)) : Vis l [] := ⟨by simp, by simp⟩
theorem Vis.snoc {κ : Type} {l vis : List (Ment κ)} (h : Vis l vis) {p : Ment κ} (hp : p ∈ l) (hn : p.2.2 ∉ vis.map (·.2.2)) : Vis l (vis ++ [p]) := by
  refine ⟨fun q hq => ?_, ?_⟩
  · rcases List.mem_append.1 hq with hq | hq
    · exact h.sub q hq
    · rw [List.mem_singleton.1 hq]; exact hp
  · rw [List.map_append]
    refine List.nodup_append.2 ⟨h.nd, by simp, fun a ha b hb e => hn ?_⟩; have h1 : b = p.2.2 := by simpa using hb
    rw [← h1, ← e]; exact ha
theorem Vis.len {κ : Type} {l vis : List (Ment κ)} (h : Vis l vis) : vis.length ≤ l.length := by
  have h2 := nodup_len (K := l.map (·.2.2)) h.nd fun b hb => by
    obtain ⟨p, hp, rfl⟩ := List.mem_map.1 hb; exact List.mem_map_of_mem (h.sub p hp)
  rwa [List.length_map, List.length_map] at h2
theorem Vis.lt {κ : Type} {l vis : List (Ment κ)} (h : Vis l vis) {p : Ment κ} (hp : p ∈ l) (hn : p.2.2 ∉ vis.map (·.2.2)) : vis.length < l.length := by
  have := (h.snoc hp hn).len
  simp at this
  omega
theorem MapIs.born {κ : Type} {l : List (Ment κ)} (h : (l.map (·.2.2)).Pairwise (· < ·)) {p q : Ment κ} (hp : p ∈ l) (hq : q ∈ l) (e : p.2.2 = q.2.2) : p = q := by
  induction l with
  | nil => cases hp
  | cons x l ih =>
    rw [List.map_cons, List.pairwise_cons] at h
    rcases List.mem_cons.1 hp with h1 | h1 <;> rcases List.mem_cons.1 hq with h2 | h2
    · rw [h1, h2]
    · have := h.1 _ (List.mem_map_of_mem h2); rw [h1] at e; omega
    · have := h.1 _ (List.mem_map_of_mem h1); rw [h2] at e; omega
    · exact ih h.2 h1 h2
theorem MapIs.key {κ : Type} {l : List (Ment κ)} (h : (l.map (·.1)).Nodup) {p q : Ment κ} (hp : p ∈ l) (hq : q ∈ l) (e : p.1 = q.1) : p = q := by
  induction l with
  | nil => cases hp
  | cons x l ih =>
    rw [List.map_cons, List.nodup_cons] at h
    rcases List.mem_cons.1 hp with h1 | h1 <;> rcases List.mem_cons.1 hq with h2 | h2
    · rw [h1, h2]
    · exact absurd (by rw [← h1, e]; exact List.mem_map_of_mem h2) h.1
    · exact absurd (by rw [← h2, ← e]; exact List.mem_map_of_mem h1) h.1
    · exact ih h.2 h1 h2
theorem MapIs.newKey {κ : Type} [DecidableEq κ] {l vis : List (Ment κ)} {clk : Nat} {f : κ → Nat} (h : MapIs l clk f) (hv : Vis l vis) {p : Ment κ} (hp : p ∈ l) (hn : p.2.2 ∉ vis.map (·.2.2)) : p.1 ∉ vis.map (·.1) := fun hm => by
  obtain ⟨q, hq, e⟩ := List.mem_map.1 hm; have := MapIs.key h.nd (hv.sub q hq) hp e; subst this; exact hn (List.mem_map_of_mem hq)
theorem MapIs.allVis {κ : Type} [DecidableEq κ] {l vis : List (Ment κ)} {clk : Nat} {f : κ → Nat} (h : MapIs l clk f) (hv : Vis l vis) (ha : ∀ p ∈ l, p.2.2 ∈ vis.map (·.2.2)) {k : κ} (hk : 0 < f k) : k ∈ vis.map (·.1) := by
  obtain ⟨p, hp, rfl⟩ := List.mem_map.1 (h.al k hk); obtain ⟨q, hq, e⟩ := List.mem_map.1 (ha p hp); have := MapIs.born h.bs (hv.sub q hq) hp e; subst this; exact List.mem_map_of_mem hq
section
variable {κ : Type} [DecidableEq κ] {enc : κ → Value} {kt e : TypeId}
variable {c : Cx} {Q : Exit → Act → World → Prop} {fr : Fr} {hp : Hp} {L : List Fact} {ops : Array Oper} {rest : List Oper}
variable {d : Tmp} {ty : TypeId} {pos : String} {af : Array Edge}
theorem r_lookN {t : TypeId} {x y : Operand} {g : Nat} {l : List (Ment κ)} {clk : Nat} {k : κ} {f : κ → Nat} (K : KeyC c.P kt enc) (hd : Nat.blt d c.n = true) (ht : c.P.underlying t = some (.map kt e)) (hx : ev fr x = some (.map (some g))) (hy : ev fr y = some (enc k)) (hm : MapAt c.b hp L g (mapO enc l clk))
    (hz : ∀ w, (zeroValue e).run c.P w = .ok (int 0) w) (h : MapIs l clk f) (kk : HL c ops Q rest ((d, int (f k)) :: fr) hp L) : HL c ops Q (⟨some d, .lookup t x y false, ty, pos, af, none⟩ :: rest) fr hp L := by
  have hg := h.get k
  by_cases e0 : f k = 0
  · rw [if_pos e0] at hg
    rw [e0] at kk; exact r_look0 K hd ht hx hy hm hz hg kk
  · rw [if_neg e0] at hg
    exact r_look K hd ht hx hy hm hg kk
theorem r_delete {t u : TypeId} {x y : Operand} {g : Nat} {l : List (Ment κ)} {clk : Nat} {k : κ} {hp' : Hp} (K : KeyC c.P kt enc) (ht : c.P.underlying t = some (.map kt e)) (hx : ev fr x = some (.map (some g))) (hy : ev fr y = some (enc k))
    (hpp : hp.Perm ((g, mapO enc l clk) :: hp')) (kk : HL c ops Q rest fr ((g, mapO enc (delM l k) clk) :: hp') L) : HL c ops Q (⟨none, .call ⟨.builtin .delete, #[x, y], #[t, u]⟩, ty, pos, af, none⟩ :: rest) fr hp L :=
  hl_eff rfl rfl fun a w ha hw => by
    have hw' := hw.perm hpp; have hg := hw'.own (g, mapO enc l clk) (by simp); have hg' : w.heap[g]? = some (.map (l.map (entOf enc)).toArray clk) := hg; have hf := K.find k l w
    have hrun : (Builtin.delete_ #[t, u] ty #[.map (some g), enc k]).run c.P w = .ok (.tuple #[]) { w with heap := w.heap.setIfInBounds g (mapO enc (delM l k) clk) } := by
      unfold delM
      cases hr : findM k l 0 with
      | none =>
        rw [hr] at hf
        simp [Builtin.delete_, run_underlying ht, MapKept.run_getObj_map hg', K.chk, hf, MapKept.run_setObj_map _ hg', mapO]
      | some p =>
        obtain ⟨i, u⟩ := p; rw [hr] at hf
        have e1 : (l.map (entOf enc)).toArray.eraseIdxIfInBounds i = ((l.eraseIdx i).map (entOf enc)).toArray := by
          apply Array.ext'
          simp [eraseIdx_mp]
        simp [Builtin.delete_, run_underlying ht, MapKept.run_getObj_map hg', K.chk, hf, MapKept.run_setObj_map _ hg', mapO, eraseIdx_mp]
    refine ⟨.tuple #[], { w with heap := w.heap.setIfInBounds g (mapO enc (delM l k) clk) }, _, L, ?_, hw'.write (o' := mapO enc (delM l k) clk) ⟨rfl, rfl, rfl, by simp, fun j hj hn => by simp only [List.mem_singleton] at hn; simp [Array.getElem?_setIfInBounds_ne (Ne.symm hn)], Nat.le_refl _⟩ ?_, kk⟩
    · simp only [execOp, resolve, invoke, builtin, Sem.run_bind, Sem.run_pure, Result.andThen_ok, List.map_toArray, List.map_cons, List.map_nil, ha.ev hx, ha.ev hy, hrun]
    · have := lt_of_own hg
      simp only at this
      simp [this]
/-! ### A map that is ranged over -/
def iterM (g clk : Nat) (vis : List (Ment κ)) : Obj := .mapIter (some g) clk (vis.map (·.2.2)).toArray clk
def nextMV (enc : κ → Value) : Option (Ment κ) → Value
  | none => .tuple #[.bool false]
  | some p => .tuple #[.bool true, enc p.1, p.2.1]
omit [DecidableEq κ] in
theorem r_rangeM {t : TypeId} {x : Operand} {g : Nat} {l : List (Ment κ)} {clk : Nat} (hd : Nat.blt d c.n = true) (ht : c.P.underlying t = some (.map kt e)) (hx : ev fr x = some (.map (some g))) (hm : MapAt c.b hp L g (mapO enc l clk)) (k : ∀ gi, HL c ops Q rest ((d, .pointer (some ⟨gi, 0, none⟩)) :: fr) ((gi, iterM g clk ([] : List (Ment κ))) :: hp) L) : HL c ops Q (⟨some d, .range t x, ty, pos, af, none⟩ :: rest) fr hp L :=
  hl_new (iterM g clk ([] : List (Ment κ))) (fun g => .pointer (some ⟨g, 0, none⟩)) rfl rfl hd (fun a w ha hw => by
    have hg : w.heap[g]? = some (.map (l.map (entOf enc)).toArray clk) := hm w hw; simp only [execOp, ha.ev hx, Instr.range, Sem.run_bind, run_underlying ht, Result.andThen_ok, MapKept.run_getObj_map hg]
    simp [run_newObj_alloc, iterM]) k
theorem run_mapNext (P : Program) (n : Nat) (w : World) : ∃ j w', (choose (.mapNext n)).run P w = .ok j w' ∧ (0 < n → j < n) ∧ (n ≤ 1 → j = 0) ∧ Ext [] w w' ∧ w'.heap = w.heap := by
  by_cases h : n ≤ 1
  · refine ⟨0, w, ?_, fun h => h, fun _ => rfl, Ext.refl _ _, rfl⟩
    have hf : (Question.mapNext n).forced = true := decide_eq_true h; show Sem.run P (Sem.choose (.mapNext n) Sem.pure) w = _; simp only [Sem.run, hf, if_true]
  · refine ⟨(w.tape w.drawn (.mapNext n)) % n, w.drew, ?_, ?_, fun h2 => absurd h2 h, ext_drew w, rfl⟩
    · have hf : (Question.mapNext n).forced = false := decide_eq_false h
      show Sem.run P (Sem.choose (.mapNext n) Sem.pure) w = _; simp only [Sem.run, hf, Bool.false_eq_true, if_false]
      rfl
    · exact fun h0 => Nat.mod_lt _ h0
omit [DecidableEq κ] in
theorem run_getMI {P : Program} {w : World} {r : Nat} {m : Option Nat} {a z : Nat} {s : Array Nat} (hb : w.heap[r]? = some (.mapIter m a s z)) : (getObj r).run P w = .ok (.mapIter m a s z) w := by simp [getObj, Sem.run, hb]
omit [DecidableEq κ] in
theorem run_setMI {P : Program} {w : World} {r : Nat} {m : Option Nat} {a z : Nat} {s : Array Nat} (o : Obj) (hb : w.heap[r]? = some (.mapIter m a s z)) : (setObj r o).run P w = .ok () { w with heap := w.heap.setIfInBounds r o } := by simp [setObj, Sem.run, hb]
def restM (l vis : List (Ment κ)) : List (Ment κ) := l.filter fun p => !(vis.map (·.2.2)).contains p.2.2
omit [DecidableEq κ] in
theorem r_nextM {x : Operand} {gi g : Nat} {l vis : List (Ment κ)} {clk : Nat} {hp' : Hp} (hd : Nat.blt d c.n = true) (hx : ev fr x = some (.pointer (some ⟨gi, 0, none⟩))) (hm : MapAt c.b hp L g (mapO enc l clk)) (hlt : ∀ p ∈ l, p.2.2 < clk) (hpp : hp.Perm ((gi, iterM g clk vis) :: hp'))
    (kk : ∀ x : Option (Ment κ), (x = none → ∀ p ∈ l, p.2.2 ∈ vis.map (·.2.2)) → (∀ p, x = some p → p ∈ l ∧ p.2.2 ∉ vis.map (·.2.2)) → HL c ops Q rest ((d, nextMV enc x) :: fr) ((gi, iterM g clk (vis ++ x.toList)) :: hp') L) :
    HL c ops Q (⟨some d, .next x false, ty, pos, af, none⟩ :: rest) fr hp L :=
  hl_gen rfl rfl hd fun a w ha hw => by
    have hw' := hw.perm hpp; have hg : w.heap[g]? = some (.map (l.map (entOf enc)).toArray clk) := hm w hw; have hi : w.heap[gi]? = some (.mapIter (some g) clk (vis.map (·.2.2)).toArray clk) := hw'.own (gi, iterM g clk vis) (by simp); obtain ⟨j, w1, hch, hj, hj0, hext, hheap⟩ := run_mapNext c.P ((if (restM l vis).isEmpty then 1 else 0) + (restM l vis).length) w; have hi1 : w1.heap[gi]? = some (.mapIter (some g) clk (vis.map (·.2.2)).toArray clk) := by rw [hheap]; exact hi
    have hcond : (!(vis.map (·.2.2)).toArray.isEmpty && !(l.map (entOf enc)).toArray.isEmpty && (l.map (entOf enc)).toArray.all (fun e => decide (e.born ≥ clk))) = false := by
      cases l with
      | nil => simp
      | cons p l =>
        have := hlt p List.mem_cons_self
        simp [entOf]
        intro _ h
        omega
    have hleft : (l.map (entOf enc)).toArray.filter (fun e => !(vis.map (·.2.2)).toArray.contains e.born) = ((restM l vis).map (entOf enc)).toArray := by
      simp only [List.filter_toArray, List.filter_map, restM]
      congr 2
      apply List.filter_congr
      intro p _; show (!(vis.map (·.2.2)).toArray.contains p.2.2) = !(vis.map (·.2.2)).contains p.2.2; rw [List.contains_toArray]
    have hold : ((restM l vis).map (entOf enc)).toArray.filter (fun e => decide (e.born < clk)) = ((restM l vis).map (entOf enc)).toArray := by
      simp only [List.filter_toArray]
      congr 1
      rw [List.filter_eq_self]; intro e he; obtain ⟨p, hp, rfl⟩ := List.mem_map.1 he; exact decide_eq_true (show p.2.2 < clk from hlt p (List.mem_filter.1 hp).1)
    have hnew : ((restM l vis).map (entOf enc)).toArray.filter (fun e => decide (e.born ≥ clk)) = #[] := by
      simp only [List.filter_toArray]
      congr 1
      rw [List.filter_eq_nil_iff]; intro e he; obtain ⟨p, hp, rfl⟩ := List.mem_map.1 he; have := hlt p (List.mem_filter.1 hp).1
      simp [entOf]
      omega
    cases hr : restM l vis with
    | nil =>
      have hall : ∀ p ∈ l, p.2.2 ∈ vis.map (·.2.2) := by
        intro p hp; have := (List.filter_eq_nil_iff.1 hr) p hp
        simpa using this
      rw [hr] at hch hj0 hleft hold hnew; have hj0' := hj0 (by simp); subst hj0'; refine ⟨nextMV enc none, w1, hp, L, ?_, hw.quiet hext, ?_⟩
      · simp only [execOp, ha.ev hx, Instr.next, Sem.run_bind, run_getMI hi, Result.andThen_ok, MapKept.run_getObj_map hg, hcond, Bool.false_eq_true, if_false, Sem.run_pure, hleft, hold, hnew]
        simp at hch
        simp [hch, nextMV]
      · have k0 := kk none (fun _ => hall) (fun p h => by cases h)
        simp only [Option.toList_none, List.append_nil] at k0; exact fun a w ha hw => k0 a w ha (hw.perm hpp)
    | cons p0 r0 =>
      have hjl : j < (restM l vis).length := by
        have := hj (by rw [hr]; simp); rw [hr] at this ⊢
        simpa using this
      have hmem := List.getElem_mem hjl; have hin := List.mem_filter.1 hmem
      have hni : ((restM l vis)[j]).2.2 ∉ vis.map (·.2.2) := by
        have := hin.2
        simpa using this
      have hne : ((restM l vis).map (entOf enc)).toArray.isEmpty = false := by rw [hr]; simp
      rw [show (restM l vis).isEmpty = false by rw [hr]; rfl] at hch; simp only [Bool.false_eq_true, if_false, Nat.zero_add] at hch; have hcs : ((((restM l vis).map (entOf enc)).toArray ++ #[]).map some).size = (restM l vis).length := by simp
      have hce : ((((restM l vis).map (entOf enc)).toArray ++ #[]).map some)[j]? = some (some (entOf enc (restM l vis)[j])) := by simp [hjl]
      refine ⟨nextMV enc (some (restM l vis)[j]), { w1 with heap := w1.heap.setIfInBounds gi (iterM g clk (vis ++ [(restM l vis)[j]])) }, (gi, iterM g clk (vis ++ [(restM l vis)[j]])) :: hp', L, ?_, ((hw'.quiet hext).write (o' := iterM g clk (vis ++ [(restM l vis)[j]])) ⟨rfl, rfl, rfl, by simp, fun q _ hn => by simp only [List.mem_singleton] at hn; simp [Array.getElem?_setIfInBounds_ne (Ne.symm hn)], Nat.le_refl _⟩ ?_), kk (some (restM l vis)[j]) (fun h => by cases h) (fun p h => by cases h; exact ⟨hin.1, hni⟩)⟩
      · simp only [execOp, ha.ev hx, Instr.next, Sem.run_bind, run_getMI hi, Result.andThen_ok, MapKept.run_getObj_map hg, hcond, Bool.false_eq_true, if_false, Sem.run_pure, hleft, hold, hnew, hne, Array.empty_append, hcs, hch, hce, run_setMI _ hi1]
        simp [entOf, nextMV, iterM]
      · have := lt_of_own hi1
        simp [this]
omit [DecidableEq κ] in
theorem r_entry {x : Operand} {gi g : Nat} {l vis : List (Ment κ)} {p : Ment κ} {clk : Nat} (hd : Nat.blt d c.n = true) (hx : ev fr x = some (.pointer (some ⟨gi, 0, none⟩))) (hm : MapAt c.b hp L g (mapO enc l clk)) (hi : MapAt c.b hp L gi (iterM g clk (vis ++ [p]))) (hp' : p ∈ l) (hb : (l.map (·.2.2)).Pairwise (· < ·))
    (kk : HL c ops Q rest ((d, .tuple #[enc p.1, p.2.1]) :: fr) hp L) : HL c ops Q (⟨some d, .entry x, ty, pos, af, none⟩ :: rest) fr hp L :=
  hl_val _ rfl rfl hd (fun a w ha hw => by
    have hg : w.heap[g]? = some (.map (l.map (entOf enc)).toArray clk) := hm w hw; have hit : w.heap[gi]? = some (.mapIter (some g) clk ((vis ++ [p]).map (·.2.2)).toArray clk) := hi w hw
    have hfind : (l.map (entOf enc)).toArray.find? (fun e => e.born == p.2.2) = some (entOf enc p) := by
      rw [List.find?_toArray]; clear hw hg hit hi hm
      induction l with
      | nil => cases hp'
      | cons q l ih =>
        rw [List.map_cons, List.pairwise_cons] at hb; rw [List.map_cons, List.find?_cons]
        rcases List.mem_cons.1 hp' with rfl | h
        · simp [entOf]
        · have := hb.1 _ (List.mem_map_of_mem h)
          rw [show ((entOf enc q).born == p.2.2) = false by simp [entOf]; omega]; exact ih h hb.2
    have hback : ((vis ++ [p]).map (·.2.2)).toArray.back? = some p.2.2 := by simp
    simp only [execOp, ha.ev hx, Instr.entry, Sem.run_bind, run_getMI hit, Result.andThen_ok, hback, MapKept.run_getObj_map hg, bne_self_eq_false, Bool.false_eq_true, if_false, Sem.run_pure, hfind]
    rfl) kk
omit [DecidableEq κ] in
theorem r_mext0 {x : Operand} {o : Option (Ment κ)} (hd : Nat.blt d c.n = true) (hx : ev fr x = some (nextMV enc o)) (k : HL c ops Q rest ((d, .bool o.isSome) :: fr) hp L) : HL c ops Q (⟨some d, .extract x 0, ty, pos, af, none⟩ :: rest) fr hp L := by
  cases o with
  | none => exact r_extract hd hx rfl k
  | some p => exact r_extract hd hx rfl k
end
end Go.W
end
section
namespace Go.Proofs.YtpbbgbjidhffoaaGreat
open Go Go.W
set_option maxRecDepth 20000
attribute [local irreducible] HL HC HQ HB Row Rows2 Blk Facts
theorem stock_foldT (s : Str) : ∀ (ps : List (Sl Str)) (n : Nat), 0 < ps.foldl (fun n p => max n (countN p.l s)) n ↔ 0 < n ∨ ∃ p ∈ ps, s ∈ p.l
  | [], n => by simp
  | p :: ps, n => by
    rw [List.foldl_cons, stock_foldT s ps]
    have h1 : 0 < countN p.l s ↔ s ∈ p.l := by
      unfold countN; rw [List.length_pos_iff_exists_mem]
      simp
    constructor
    · rintro (h | ⟨q, hq, hs⟩)
      · by_cases h2 : 0 < n
        · exact .inl h2
        · exact .inr ⟨p, List.mem_cons_self, h1.1 (by omega)⟩
      · exact .inr ⟨q, List.mem_cons_of_mem _ hq, hs⟩
    · rintro (h | ⟨q, hq, hs⟩)
      · left; omega
      · rcases List.mem_cons.1 hq with rfl | hq
        · left; have := h1.2 hs; omega
        · exact .inr ⟨q, hq, hs⟩
def freshN (f : Str → Nat) : List Str → Nat
  | [] => 0
  | s :: r => if f s = 0 then 1 + freshN f r else freshN (updF f s (f s - 1)) r
def sumN (K : List Str) (g : Str → Nat) : Nat := (K.map g).sum
theorem fresh_congr {f g : Str → Nat} (h : ∀ s, f s = g s) (p : List Str) : freshN f p = freshN g p := by rw [funext h]
-- the stock
theorem stock_pos {ps : List (Sl Str)} {s : Str} : 0 < stockN ps s ↔ ∃ p ∈ ps, s ∈ p.l := by
  unfold stockN; rw [stock_foldT]
  simp
def linesOf (ps : List (Sl Str)) : List Str := ps.flatMap (·.l)
theorem lines_len {ps : List (Sl Str)} {m : Nat} (h : ∀ p ∈ ps, p.l.length ≤ m) : (linesOf ps).length ≤ ps.length * m := by
  unfold linesOf
  induction ps with
  | nil => simp
  | cons p ps ih =>
    have h1 := h p List.mem_cons_self; have h2 := ih fun q hq => h q (List.mem_cons_of_mem _ hq); rw [List.flatMap_cons, List.length_append, List.length_cons, Nat.add_mul]
    omega
theorem stock_lines {ps : List (Sl Str)} {s : Str} (h : 0 < stockN ps s) : s ∈ linesOf ps := by
  obtain ⟨p, hp, hs⟩ := stock_pos.1 h; exact List.mem_flatMap.2 ⟨p, hp, hs⟩
abbrev Ty := Str × Int
structure StockIs (ps : List (Sl Str)) (ts : List Ty) : Prop where
  asc : ts.Pairwise fun a b => a.1 < b.1
  mem : ∀ s n, (s, n) ∈ ts ↔ 0 < stockN ps s ∧ n = (stockN ps s : Int)
theorem lt_irr (a : Str) : ¬ a < a := List.lt_irrefl a
theorem lt_asm {a b : Str} (h : a < b) : ¬ b < a := List.lt_asymm h
theorem asc_uniq : ∀ {a b : List Ty}, a.Pairwise (fun x y => x.1 < y.1) → b.Pairwise (fun x y => x.1 < y.1) → (∀ x, x ∈ a ↔ x ∈ b) → a = b
  | [], [], _, _, _ => rfl
  | [], y :: b, _, _, h => by have := (h y).2 List.mem_cons_self; cases this
  | x :: a, [], _, _, h => by have := (h x).1 List.mem_cons_self; cases this
  | x :: a, y :: b, ha, hb, h => by
    rw [List.pairwise_cons] at ha hb
    have e : x = y := by
      rcases List.mem_cons.1 ((h x).1 List.mem_cons_self) with e | e
      · exact e
      · rcases List.mem_cons.1 ((h y).2 List.mem_cons_self) with e2 | e2
        · exact e2.symm
        · exact absurd (ha.1 y e2) (lt_asm (hb.1 x e))
    subst e
    congr 1
    refine asc_uniq ha.2 hb.2 fun z => ?_; have hz := h z; rw [List.mem_cons, List.mem_cons] at hz
    constructor
    · intro hm
      rcases hz.1 (.inr hm) with e | e
      · subst e; exact absurd (ha.1 z hm) (lt_irr _)
      · exact e
    · intro hm
      rcases hz.2 (.inr hm) with e | e
      · subst e; exact absurd (hb.1 z hm) (lt_irr _)
      · exact e
theorem StockIs.uniq {ps : List (Sl Str)} {a b : List Ty} (ha : StockIs ps a) (hb : StockIs ps b) : a = b :=
  asc_uniq ha.asc hb.asc fun x => by obtain ⟨s, n⟩ := x; rw [ha.mem, hb.mem]
theorem StockIs.nodup {ps : List (Sl Str)} {ts : List Ty} (h : StockIs ps ts) : (ts.map (·.1)).Nodup := by
  rw [List.Nodup, List.pairwise_map]; exact h.asc.imp fun {a b} (h1 : a.1 < b.1) (e : a.1 = b.1) => lt_irr b.1 (by rw [e] at h1; exact h1)
theorem StockIs.all {ps : List (Sl Str)} {ts : List Ty} (h : StockIs ps ts) {s : Str} (hs : 0 < stockN ps s) : s ∈ ts.map (·.1) := List.mem_map.2 ⟨(s, _), (h.mem s _).2 ⟨hs, rfl⟩, rfl⟩
theorem StockIs.at {ps : List (Sl Str)} {ts : List Ty} (h : StockIs ps ts) {t : Ty} (ht : t ∈ ts) : t.2 = (stockN ps t.1 : Int) ∧ 0 < stockN ps t.1 := by
  have := (h.mem t.1 t.2).1 ht; exact ⟨this.2, this.1⟩
theorem StockIs.sum {ps : List (Sl Str)} {ts : List Ty} (h : StockIs ps ts) : (ts.map (·.2)).sum = (sumN (ts.map (·.1)) (stockN ps) : Int) := by
  have h1 : ∀ l : List Ty, (∀ t ∈ l, t.2 = (stockN ps t.1 : Int)) → (l.map (·.2)).sum = (sumN (l.map (·.1)) (stockN ps) : Int) := by
    intro l
    induction l with
    | nil => intro _; rfl
    | cons t l ih =>
      intro hl; unfold sumN at ih ⊢; rw [List.map_cons, List.sum_cons, List.map_cons, List.map_cons, List.sum_cons, ih fun t ht => hl t (List.mem_cons_of_mem _ ht), hl t List.mem_cons_self]
      push_cast
      rfl
  exact h1 ts fun t ht => (h.at ht).1
theorem StockIs.len {ps : List (Sl Str)} {ts : List Ty} (h : StockIs ps ts) {m : Nat} (hp : ∀ p ∈ ps, p.l.length ≤ m) : ts.length ≤ ps.length * m := by
  have h2 := nodup_len (K := linesOf ps) h.nodup fun s hs => by
    obtain ⟨t, ht, rfl⟩ := List.mem_map.1 hs; exact stock_lines (h.at ht).2
  rw [List.length_map] at h2; exact Nat.le_trans h2 (lines_len hp)
end Go.Proofs.YtpbbgbjidhffoaaGreat
end
