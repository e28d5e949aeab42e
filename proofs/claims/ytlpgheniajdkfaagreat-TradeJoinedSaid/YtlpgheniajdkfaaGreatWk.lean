/- Ranges over functions; scopes; functions that leave with marks. -/
import Derived.Test.YtlpgheniajdkfaaGreatWj
import Derived.RangeFuncLeaves
import Derived.RangeFuncRecord
import Derived.Scope
import Derived.Laws.Cover3
namespace Go.W
open Go Go.RowKit
set_option linter.unusedVariables false
set_option linter.unusedSimpArgs false

/-! ### The first of a list of slices -/

theorem wi_rows2 {α : Type} [El α] {b : Bx} {hp : Hp} {L : List Fact} {w : World} {A : Option Addr} {ps : List (Sl α)} (h : Row A (rows ps) ∈ L) (h2 : ∀ p ∈ ps, Row p.a (rows p.l) ∈ L) (hw : WI b w hp L) : WI b w hp (Rows2 A ps :: L) :=
  wi_more hw ⟨hw.fs _ h, fun p hp => hw.fs _ (h2 p hp)⟩ (fun k hk => by
    rcases hk with hk | ⟨p, hp, hk⟩
    · exact ⟨_, h, hk⟩
    · exact ⟨_, h2 p hp, hk⟩)
section
variable {α : Type} [El α] {c : Cx} {Q : Exit → Act → World → Prop} {fr : Fr} {hp : Hp} {L : List Fact} {ops : Array Oper} {rest : List Oper} {A : Option Addr} {ps : List (Sl α)}
theorem hq_rows2F {e : Exit} (h : Row A (rows ps) ∈ L) (h2 : Facts (ps.map fun p => Row p.a (rows p.l)) ∈ L) (k : HQ c Q e fr hp (Rows2 A ps :: L)) : HQ c Q e fr hp L := fun a w ha hw =>
  k a w ha (wi_more hw ⟨hw.fs _ h, fun p hp => hw.fs _ h2 _ (List.mem_map.2 ⟨p, hp, rfl⟩)⟩ (fun k hk => by
    rcases hk with hk | ⟨p, hp, hk⟩
    · exact ⟨_, h, hk⟩
    · exact ⟨_, h2, _, List.mem_map.2 ⟨p, hp, rfl⟩, hk⟩))
theorem hl_rows2 (h : Row A (rows ps) ∈ L) (h2 : ∀ p ∈ ps, Row p.a (rows p.l) ∈ L) (k : HL c ops Q rest fr hp (Rows2 A ps :: L)) : HL c ops Q rest fr hp L := fun a w ha hw => k a w ha (wi_rows2 h h2 hw)
theorem hq_rows2 {e : Exit} (h : Row A (rows ps) ∈ L) (h2 : ∀ p ∈ ps, Row p.a (rows p.l) ∈ L) (k : HQ c Q e fr hp (Rows2 A ps :: L)) : HQ c Q e fr hp L := fun a w ha hw => k a w ha (wi_rows2 h h2 hw)
end

/-! ### Facts that follow from the world; nil -/
section
variable {c : Cx} {Q : Exit → Act → World → Prop} {fr : Fr} {hp : Hp} {L : List Fact} {ops : Array Oper} {rest : List Oper}
theorem hc_pure {φ : Prop} {x : Code} (h : ∀ w, WI c.b w hp L → φ) (k : φ → HC c x Q fr hp L) : HC c x Q fr hp L := fun a w ha hw => k (h w hw) a w ha hw
theorem hq_letgoB {g : Nat} {o : Obj} {e : Exit} (k : HQ c Q e fr hp (Blk g o :: L)) : HQ c Q e fr ((g, o) :: hp) L := fun a w ha hw => k a w ha (wi_letgoB hw)
theorem row_none {α : Type} [El α] {l : List α} {w : World} (h0 : 0 < El.sz α) (h : (Row none (rows l)).P w) : l = [] := by
  cases l with
  | nil => rfl
  | cons a l =>
    have hl : 0 < (rows (a :: l)).length := by rw [rows_len]; exact Nat.mul_pos (by simp) h0
    obtain ⟨ad, e, _⟩ := h 0 _ (List.getElem?_eq_getElem hl)
    cases e
variable {d : Tmp} {ty : TypeId} {pos : String} {af : Array Edge}
theorem r_eqlnil {t e yt : TypeId} {x y : Operand} {A : Option Addr} {n cp : Nat} (hd : Nat.blt d c.n = true) (ht : c.P.underlying t = some (.slice e)) (hx : ev fr x = some (.slice A n cp)) (hy : ev fr y = some (.slice none 0 0)) (k : HL c ops Q rest ((d, .bool A.isNone) :: fr) hp L) :
    HL c ops Q (⟨some d, .binOp .eql t x y yt, ty, pos, af, none⟩ :: rest) fr hp L :=
  r_bin _ hd hx hy (fun _ => rfl) (fun w => by
    show ((do pure (Value.bool (← Op.equal t (.slice A n cp) (.slice none 0 0)))) : Sem Value).run c.P w = _
    simp only [Sem.run_bind, run_equal_slice_nil w t e A n cp ht, Result.andThen_ok, Sem.run_pure]) k
end

/-! ### A store into a slice of the call's own -/
theorem Grow.open_ {e : TypeId} {sz n cap : Nat} {A : Option Addr} {xs : List Value} {og : Hp} (h : Grow e sz A n cap xs og) (hn : 0 < n) : ∃ g cur, A = some ⟨g, 0, none⟩ ∧ og = [(g, Obj.cells cur e (0, 0))] ∧ n ≤ cap ∧ cap ≤ maxLen ∧ cur.size = cap * sz ∧ cur.toList.take (n * sz) = xs ∧ xs.length = n * sz := by
  rcases h with ⟨hl, ⟨_, h, _⟩ | ⟨g, cur, h1, h2, h3, h4, h5, h6⟩⟩
  · omega
  · exact ⟨g, cur, h1, h2, h3, h4, h5, h6, hl⟩
theorem rows_set1 {α : Type} [El α] (h1 : El.sz α = 1) (v : Value) (a : α) (hv : El.cells a = [v]) : ∀ (l : List α) (k : Nat), (rows l).set k v = rows (l.set k a)
  | [], k => by simp [rows_nil]
  | b :: l, 0 => by
    have hb : ∃ u, El.cells b = [u] := by
      have := El.len b
      rw [h1] at this
      exact List.length_eq_one_iff.1 this
    obtain ⟨u, hu⟩ := hb
    rw [List.set_cons_zero, rows_cons, rows_cons, hu, hv]
    rfl
  | b :: l, k + 1 => by
    have hb : ∃ u, El.cells b = [u] := by
      have := El.len b
      rw [h1] at this
      exact List.length_eq_one_iff.1 this
    obtain ⟨u, hu⟩ := hb
    rw [List.set_cons_succ, rows_cons, rows_cons, hu, ← rows_set1 h1 v a hv l k]
    rfl
theorem Grow.set {α : Type} [El α] {e : TypeId} {cap g k : Nat} {cur : Array Value} {l : List α} {v : Value} {a : α} (h1 : El.sz α = 1) (hv : El.cells a = [v]) (h3 : l.length ≤ cap) (h4 : cap ≤ maxLen) (h5 : cur.size = cap * 1) (h6 : cur.toList.take (l.length * 1) = rows l) :
    Grow e 1 (some ⟨g, 0, none⟩) l.length cap (rows (l.set k a)) [(g, Obj.cells (cur.setIfInBounds k v) e (0, 0))] := by
  refine ⟨by rw [rows_len, h1, List.length_set], .inr ⟨g, _, rfl, rfl, h3, h4, by simpa using h5, ?_⟩⟩
  rw [← rows_set1 h1 v a hv, ← h6, Array.toList_setIfInBounds, List.take_set]

/-! ### make -/
/-- A whole row of one-cell elements that is owned: an element's address, a load, a store. -/
theorem rows_arr {α : Type} [El α] (h1 : El.sz α = 1) (l : List α) (k : Nat) (v : Value) (a : α) (hv : El.cells a = [v]) : (rows l).toArray.setIfInBounds k v = (rows (l.set k a)).toArray := by
  rw [← rows_set1 h1 v a hv]; simp
theorem rows_at {α : Type} [El α] (h1 : El.sz α = 1) {l : List α} {k : Nat} {v : Value} (hk : k < l.length) (hv : El.cells (l.getD k default) = [v]) : (rows l).toArray[k]? = some v := by
  have := rows_get (l := l) (i := k) (j := 0) (v := v) hk (by rw [hv]; rfl)
  rw [h1] at this
  simpa using this

/-! ### Scopes and labels -/
section
variable {Q : Exit → Act → World → Prop} {fr : Fr} {hp : Hp} {L : List Fact}
theorem hc_scope {P : Program} {n : Nat} {b : Bx} {D : List Deferred} {x : Code} (h : HC ⟨P, n, b, D, none⟩ x (Exit.noGoto Q) fr hp L) : HC ⟨P, n, b, D, none⟩ (.scope x) Q fr hp L :=
  fun a w ha hw => wpIn_wide.2 (wp_scope_straight (wpIn_wide.1 (h a w ha hw)))
theorem ng_ret {c : Cx} (h : HQ c Q .ret fr hp L) : HQ c (Exit.noGoto Q) .ret fr hp L := fun a w ha hw => h a w ha hw
theorem hc_label {c : Cx} {l : Nat} (h : HQ c Q .normal fr hp L) : HC c (.label l) Q fr hp L := fun a w ha hw => wpIn_label (h a w ha hw)
end

/-! ### A loop's yield -/
def recL (fn : FuncId) (tmps : Array Value) (ps : Array Tmp) (assign body : Code) (d : Nat) (j : Option Code) : Loop := { state := if j.isNone then .ready else .done, pending := j, fn, tmps, params := ps, assign, body, defers := d }
def recB (fn : FuncId) (tmps : Array Value) (ps : Array Tmp) (assign body : Code) (d : Nat) : Loop := { state := .busy, pending := none, fn, tmps, params := ps, assign, body, defers := d }
def yieldV (l : Nat) : Value := .func (.yield l) #[] #[]
def MeetsY (P : Program) (l : Nat) (args : List Value) {β : Type} (k : Con β) : Prop :=
  ∀ w, WI (k.entry w) w k.hpI k.LI → ∃ f tmps assign body, (Instr.yield l args.toArray).run P w = .ok (.round l f tmps assign body) w ∧ RoundIn Fence.wide 0 P l f tmps assign body w (k.post w)
theorem evals {n : Cx} {a : Act} {fr : Fr} (ha : Ok n a fr) : ∀ (xs : List Operand) (vs : List Value), xs.mapM (ev fr) = some vs → xs.map a.eval = vs := by
  intro xs
  induction xs with
  | nil => intro vs h; simpa using h
  | cons x xs ih =>
    intro vs h
    simp only [List.mapM_cons, Option.bind_eq_bind, Option.bind_eq_some_iff, Option.pure_def, Option.some.injEq] at h
    obtain ⟨v, hv, us, hus, rfl⟩ := h
    rw [List.map_cons, ha.ev hv, ih us hus]
section
variable {c : Cx} {Q : Exit → Act → World → Prop} {fr : Fr} {hp : Hp} {L : List Fact} {ops : Array Oper} {rest : List Oper}
variable {d : Tmp} {ty : TypeId} {pos : String} {af : Array Edge}
theorem hl_yield {l : Nat} {x : Operand} {as : Array Operand} {ats : Array TypeId} {vs : List Value} {β : Type} {k : Con β} {hpR : Hp} (hd : Nat.blt d c.n = true) (hf : ev fr x = some (yieldV l)) (hx : as.toList.mapM (ev fr) = some vs)
    (hm : MeetsY c.P l vs k) (h1 : hp.Perm (k.hpI ++ hpR)) (h2 : LSub L k.LI) (kk : ∀ x, k.inv x → HL c ops Q rest ((d, k.val x) :: fr) (k.hpO x ++ hpR) (k.LO x ++ L)) :
    HL c ops Q (⟨some d, .call ⟨.value x, as, ats⟩, ty, pos, af, none⟩ :: rest) fr hp L := by
  intro a w ha hw
  refine wpL_plainO rfl (.inr ⟨rfl, ?_⟩)
  have e1 : as.map a.eval = vs.toArray := by apply Array.ext'; simpa using evals ha _ _ hx
  obtain ⟨f, tmps, assign, body, h3, h4⟩ := hm w (hw.entry h1 h2.mem)
  refine ⟨l, f, tmps, assign, body, ?_, h4.mono fun e w' hp => ?_⟩
  · show ((do let dd ← resolve a.eval ⟨.value x, as, ats⟩ ty; invoke dd.target dd.args) : Sem Next).run c.P w = _
    simp only [resolve, ha.ev hf, yieldV, e1, Deferred.ofValue, Sem.run_bind, Sem.run_pure, Result.andThen_ok, invoke]
    simpa using h3
  · obtain ⟨x, rfl, hi, hwi⟩ := hp
    exact ⟨_, rfl, kk x hi _ _ (ha.put (by simpa using hd) _) (hw.back h1 h2.mem hwi)⟩
end

/-- A round's frame: yield's arguments in the parameters. -/
def setAll (ps : List (Tmp × Value)) (fr : Fr) : Fr := ps.foldl (fun fr p => p :: fr) fr
theorem setAll_ok : ∀ (ps : List (Tmp × Value)) (tmps : Array Value) (fr : Fr), (∀ p ∈ ps, p.1 < tmps.size) → (∀ t v, lk fr t = some v → tmps.getD t undef = v) →
    (ps.foldl (fun tmps p => tmps.setIfInBounds p.1 p.2) tmps).size = tmps.size ∧ ∀ t v, lk (setAll ps fr) t = some v → (ps.foldl (fun tmps p => tmps.setIfInBounds p.1 p.2) tmps).getD t undef = v
  | [], tmps, fr, _, h => ⟨rfl, h⟩
  | (p, u) :: ps, tmps, fr, hlt, h => by
    have h1 := setAll_ok ps (tmps.setIfInBounds p u) ((p, u) :: fr) (fun q hq => by simpa using hlt q (by simp [hq])) (fun t v hv => by
      rw [lk_cons] at hv
      have hp : p < tmps.size := hlt (p, u) (by simp)
      by_cases e : p = t
      · subst e
        simp at hv
        subst hv
        simp [hp]
      · rw [if_neg e] at hv
        have := h t v hv
        simpa [Array.getElem?_setIfInBounds_ne e] using this)
    exact ⟨by simpa using h1.1, h1.2⟩

def BeginQ (c : Cx) (l : Nat) (body : Code) (Q : Exit → Act → World → Prop) (a : Act) (w : World) : Prop :=
  ∃ w2, (Instr.beginRound l).run c.P w = .ok () w2 ∧ body.wpIn (FF c.rd) 0 c.P Q a w2
theorem WI.putObj {b : Bx} {w : World} {hp : Hp} {L : List Fact} {g : Nat} {o : Obj} (o' : Obj) (h : WI b w ((g, o) :: hp) L) : WI b (w.putObj g o') ((g, o') :: hp) L :=
  h.write ⟨rfl, rfl, rfl, by simp, fun k _ hn => World.putObj_heap_other (by simpa using hn)⟩ (World.putObj_heap_same (lt_of_own (h.own (g, o) (by simp))))
section
variable {c : Cx} {fr : Fr} {hp : Hp} {L : List Fact} {fn : FuncId} {tmps : Array Value} {ps : Array Tmp} {assign body : Code} {d l : Nat} {β : Type} {k : Con β} {w0 : World}
theorem then_begin {Q : Exit → Act → World → Prop} {hp' : Hp} (hpp : hp.Perm ((l, .loop (recL fn tmps ps assign body d none)) :: hp')) (h : HC c body Q fr ((l, .loop (recB fn tmps ps assign body d)) :: hp') L) : HQ c (Exit.then (BeginQ c l body Q) (fun _ _ _ => False)) .normal fr hp L := by
  intro a w ha hw
  have hw' := hw.perm hpp
  have hl := hw'.own (l, .loop (recL fn tmps ps assign body d none)) (by simp)
  exact ⟨_, run_beginRound hl rfl, h a _ ha (hw'.putObj _)⟩
theorem rp_end {hp' : Hp} (x : β) (j : Option Code) (hpp : hp.Perm ((l, .loop (recB fn tmps ps assign body d)) :: hp')) (hb : c.b = k.entry w0) (hv : k.val x = .bool j.isNone) (hi : k.inv x) (h2 : (k.hpO x).Sublist ((l, .loop (recL fn tmps ps assign body d j)) :: hp')) (h3 : LSub L (k.LO x)) {a : Act} {w : World} (hw : WI c.b w hp L) :
    ∃ v w', (Instr.endRound l j).run c.P w = .ok v w' ∧ (k.post w0) (.returned v) w' := by
  have hw' := hw.perm hpp
  have hl := hw'.own (l, .loop (recB fn tmps ps assign body d)) (by simp)
  exact ⟨_, _, run_endRound j hl, x, by rw [hv], hi, hb ▸ (hw'.putObj _).weak h2 h3.mem⟩
theorem rp_n {hp' : Hp} (x : β) (hpp : hp.Perm ((l, .loop (recB fn tmps ps assign body d)) :: hp')) (hb : c.b = k.entry w0) (hv : k.val x = .bool true) (hi : k.inv x) (h2 : (k.hpO x).Sublist ((l, .loop (recL fn tmps ps assign body d none)) :: hp')) (h3 : LSub L (k.LO x)) : HQ c (roundPost c.P l (k.post w0)) .normal fr hp L :=
  fun a w _ hw => rp_end (a := a) x none hpp hb hv hi h2 h3 hw
theorem rp_exit {hp' : Hp} {id : Nat} (x : β) (hpp : hp.Perm ((l, .loop (recB fn tmps ps assign body d)) :: hp')) (hb : c.b = k.entry w0) (hv : k.val x = .bool false) (hi : k.inv x) (h2 : (k.hpO x).Sublist ((l, .loop (recL fn tmps ps assign body d (some (.exit id)))) :: hp')) (h3 : LSub L (k.LO x)) : HQ c (roundPost c.P l (k.post w0)) (.exit id) fr hp L :=
  fun a w _ hw => rp_end (a := a) x (some (.exit id)) hpp hb hv hi h2 h3 hw
end
/-- A yield's contract out of the walks of the assignment and of the body. -/
theorem meetsY_intro {β : Type} {P : Program} {l n d : Nat} {args : List Value} {k : Con β} {fn : FuncId} {tmps : Array Value} {ps : Array Tmp} {assign body : Code} {fr : Fr} (hI : (l, Obj.loop (recL fn tmps ps assign body d none)) ∈ k.hpI)
    (hsz : tmps.size = n) (hfr : ∀ t v, lk fr t = some v → tmps.getD t undef = v) (hlen : args.length = ps.size) (hps : ∀ t ∈ ps, t < n)
    (h : ∀ w, HC ⟨P, n, k.entry w, [], some l⟩ assign (Exit.then (BeginQ ⟨P, n, k.entry w, [], some l⟩ l body (roundPost P l (k.post w))) (fun _ _ _ => False)) (setAll (ps.toList.zip args) fr) k.hpI k.LI) : MeetsY P l args k := by
  intro w hw
  have hl := hw.own _ hI
  refine ⟨_, _, _, _, run_yield hl (by simpa [recL] using hlen), ?_⟩
  have h1 := setAll_ok (ps.toList.zip args) tmps fr (fun p hp => by
    have := List.of_mem_zip hp
    rw [hsz]
    exact hps _ (by simpa using this.1)) hfr
  have e : ((ps.zip args.toArray).foldl (fun tmps (x : Tmp × Value) => tmps.setIfInBounds x.1 x.2) tmps) = (ps.toList.zip args).foldl (fun tmps p => tmps.setIfInBounds p.1 p.2) tmps := by
    rw [← Array.foldl_toList]
    simp
  refine roundIn_of_wpIn trivial ?_
  refine h w _ w ⟨rfl, ?_, fun t v hv => ?_⟩ hw
  · exact (congrArg Array.size e).trans (h1.1.trans hsz)
  · have := h1.2 t v hv
    rw [← e] at this
    exact this

/-! ### The statement -/
def markOf (d : Nat) : Deferred := { target := .collected d, args := #[] }
theorem hc_rangeFunc {P : Program} {n : Nat} {b : Bx} {D : List Deferred} {Q : Exit → Act → World → Prop} {fr : Fr} {hp hpR : Hp} {L : List Fact} {g : Operand} {ps : Array Tmp} {assign body : Code} {f : Nat} {cap : List Value} {β : Type}
    (R : Hp) (LI : List Fact) (inv : β → Prop) (val : β → Value) (pend : β → Option Code) (RO : β → Hp) (LO : β → List Fact)
    (hg : ev fr g = some (.func (.func f) #[] cap.toArray)) (hcb : Callable P f) (hpp : hp.Perm (R ++ hpR)) (hL : LSub L LI)
    (hm : ∀ l d fn tmps, tmps.size = n → (∀ t v, lk fr t = some v → tmps.getD t undef = v) →
      Meets P f (yieldV l :: cap) ({ hpI := (l, .loop (recL fn tmps ps assign body d none)) :: R, LI := LI, inv := inv, val := val, hpO := fun x => (l, .loop (recL fn tmps ps assign body d (pend x))) :: RO x, LO := LO } : Con β))
    (k1 : ∀ x d, inv x → pend x = none → HQ ⟨P, n, b, markOf d :: D, none⟩ Q .normal fr ((d, .deferred (some [])) :: (RO x ++ hpR)) (LO x ++ L))
    (k2 : ∀ x d j, inv x → pend x = some j → HC ⟨P, n, b, markOf d :: D, none⟩ j Q fr ((d, .deferred (some [])) :: (RO x ++ hpR)) (LO x ++ L)) :
    HC ⟨P, n, b, D, none⟩ (.rangeFunc g ps assign body) Q fr hp L := by
  intro a w ha hw
  have hsz : a.tmps.size = n := ha.sz
  have hwa := (hw.perm hpp).alloc (.deferred (some []))
  refine wpIn_rangeFunc fun fn _ => ?_
  have hwb := hwa.alloc (.loop (recL fn a.tmps ps assign body w.heap.size none))
  have hs1 : (w.alloc (.deferred (some []))).heap.size = w.heap.size + 1 := by simp
  rw [hs1] at hwb
  have hno : (FF none).depth.isSome = true → 1 ≤ 0 := fun h => by cases h
  let W2 := (w.alloc (.deferred (some []))).alloc (.loop (recL fn a.tmps ps assign body w.heap.size none))
  refine ⟨w.heap.size + 1, [markOf w.heap.size], W2, ⟨.fn (.func f) cap.toArray, #[] ++ #[yieldV (w.heap.size + 1)]⟩, W2, f, #[yieldV (w.heap.size + 1)] ++ cap.toArray, W2, run_enterLoop_outer fn a.tmps ps assign body, ?_, fun _ _ => trivial, ?_, hno, ?_⟩
  · have e1 := ha.ev hg
    have e2 : a.eval (.const (.func (.yield (w.heap.size + 1)) #[] #[])) = yieldV (w.heap.size + 1) := rfl
    simp only [rangeCall, resolve, e1, e2, Deferred.ofValue, List.map_toArray, List.map_cons, List.map_nil, Sem.run_pure]
  · have e3 : (#[] ++ #[yieldV (w.heap.size + 1)] ++ cap.toArray : Array Value) = #[yieldV (w.heap.size + 1)] ++ cap.toArray := by simp
    simp only [invoke, e3]
    exact hcb.run _ _
  · have hmm := hm (w.heap.size + 1) w.heap.size fn a.tmps hsz ha.at_
    let kk : Con β := { hpI := (w.heap.size + 1, .loop (recL fn a.tmps ps assign body w.heap.size none)) :: R, LI := LI, inv := inv, val := val, hpO := fun x => (w.heap.size + 1, .loop (recL fn a.tmps ps assign body w.heap.size (pend x))) :: RO x, LO := LO }
    have hperm : ((w.heap.size + 1, Obj.loop (recL fn a.tmps ps assign body w.heap.size none)) :: (w.heap.size, Obj.deferred (some [])) :: (R ++ hpR)).Perm (kk.hpI ++ ((w.heap.size, Obj.deferred (some [])) :: hpR)) := by
      refine perm_of fun p => ?_
      simp only [kk, List.cons_append, List.countP_cons, List.countP_append]
      omega
    have hc := hmm _ (WI.entry (k := kk) hwb hperm hL.mem)
    have e4 : (#[yieldV (w.heap.size + 1)] ++ cap.toArray : Array Value) = (yieldV (w.heap.size + 1) :: cap).toArray := by simp
    rw [e4]
    refine calls_in (hc.mono fun e w3 hpo => ?_)
    obtain ⟨x, rfl, hi, hwi⟩ := hpo
    have hwi2 := WI.back (k := kk) (x := x) hwb hperm hL.mem hwi
    have hl := hwi2.own (w.heap.size + 1, .loop (recL fn a.tmps ps assign body w.heap.size (pend x))) (by simp [kk])
    have hwi3 : WI b (w3.putObj (w.heap.size + 1) (.loop { recL fn a.tmps ps assign body w.heap.size (pend x) with state := .exhausted })) ((w.heap.size, .deferred (some [])) :: (RO x ++ hpR)) (LO x ++ L) := by
      have h5 := WI.putObj (.loop { recL fn a.tmps ps assign body w.heap.size (pend x) with state := .exhausted }) (by simpa [kk] using hwi2)
      refine (h5.weak (List.sublist_cons_self _ _) (fun _ h => h)).perm (perm_of fun p => ?_)
      simp only [List.countP_cons, List.countP_append]
      omega
    have hend : (Instr.endLoop (w.heap.size + 1)).run P w3 = .ok (pend x) _ := run_endLoop hl (by show (if (pend x).isNone = true then LoopState.ready else LoopState.done) ≠ .busy; split <;> simp)
    refine ⟨pend x, _, hend, ?_⟩
    have hok : Ok ⟨P, n, b, markOf w.heap.size :: D, none⟩ { a with defers := [markOf w.heap.size] ++ a.defers } fr := ⟨by show markOf w.heap.size :: a.defers = _; rw [ha.d], ha.sz, ha.at_⟩
    cases hpx : pend x with
    | none =>
      rw [hpx] at hwi3
      exact k1 x w.heap.size hi hpx _ _ hok hwi3
    | some j =>
      rw [hpx] at hwi3
      exact k2 x w.heap.size j hi hpx _ _ hok hwi3

/-! ### Functions that leave with marks -/
theorem meetsM_intro {β : Type} {P : Program} {f : Nat} {args : List Value} {k : Con β} {fn : Func} {code : Code} (hf : P.funcs[f]? = some fn) (hb : fn.body = some code) (hn : args.length ≤ fn.ntmps)
    (h : ∀ w, HC ⟨P, fn.ntmps, k.entry w, [], none⟩ code (bodyPostM Fence.wide 0 P fn (k.post w)) (argFr 0 args) k.hpI k.LI) : Meets P f args k := by
  intro w hw
  refine callsIn_wide.1 (callsIn_of_wp_marks (n := 0) hf hb trivial (h w _ w ⟨rfl, by simp; omega, fun t v hv => ?_⟩ hw))
  obtain ⟨_, h2⟩ := lk_argFr args 0 t v hv
  simp only [Nat.sub_zero] at h2
  have hlt : t < args.length := by
    rcases Nat.lt_or_ge t args.length with h' | h'
    · exact h'
    · rw [List.getElem?_eq_none h'] at h2; cases h2
  rw [List.getElem?_eq_getElem hlt] at h2
  injection h2 with h2
  simp [Array.getElem?_append, hlt, h2]
def shutM (ds : List Nat) : Hp := ds.map fun d => (d, Obj.deferred (some []))
theorem leaves_marks {c : Cx} {β : Type} {k : Con β} {fn : Func} {w0 : World} {tmps : Array Value} {hp' : Hp} {L : List Fact} (x : β)
    (hr : ∀ w, WI c.b w hp' L → (results fn tmps).run c.P w = .ok (k.val x) w) (hb : c.b = k.entry w0) (hi : k.inv x) (h2 : (k.hpO x).Sublist hp') (h3 : LSub L (k.LO x)) :
    ∀ (ds : List Nat) (w : World), WI c.b w (shutM ds ++ hp') L → LeavesInM Fence.wide 0 c.P fn tmps (k.post w0) (ds.map markOf) .returning w
  | [], w, hw => ⟨k.val x, hr w hw, x, rfl, hi, hb ▸ hw.weak h2 h3.mem⟩
  | d :: ds, w, hw => by
    have hw' : WI c.b w ((d, Obj.deferred (some [])) :: (shutM ds ++ hp')) L := hw
    have ho := hw'.own (d, Obj.deferred (some [])) (by simp)
    refine ⟨by simp, .inl ⟨d, _, rfl, run_takeDeferred ho, ?_⟩⟩
    exact leaves_marks x hr hb hi h2 h3 ds _ ((hw'.putObj _).weak (List.sublist_cons_self _ _) fun _ h => h)
theorem ret_marks {c : Cx} {fr : Fr} {hp hp' : Hp} {L : List Fact} {β : Type} {k : Con β} {fn : Func} {w0 : World} (ds : List Nat) (x : β) (hD : c.D = ds.map markOf) (hpp : hp.Perm (shutM ds ++ hp'))
    (hr : ∀ (a : Act) w, a.tmps.size = c.n → (∀ t v, lk fr t = some v → a.tmps.getD t undef = v) → WI c.b w hp' L → (results fn a.tmps).run c.P w = .ok (k.val x) w) (hb : c.b = k.entry w0) (hi : k.inv x) (h2 : (k.hpO x).Sublist hp') (h3 : LSub L (k.LO x)) :
    HQ c (bodyPostM Fence.wide 0 c.P fn (k.post w0)) .ret fr hp L := fun a w ha hw => by
  show LeavesInM Fence.wide 0 c.P fn a.tmps (k.post w0) a.defers .returning w
  rw [ha.d, hD]
  exact leaves_marks x (fun w hw => hr a w ha.sz ha.at_ hw) hb hi h2 h3 ds w (hw.perm hpp)
end Go.W
