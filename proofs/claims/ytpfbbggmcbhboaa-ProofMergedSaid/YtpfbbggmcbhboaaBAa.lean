/- Texts. -/
import Derived.WalkKit
import Derived.Orders
import Derived.Conc.Beside
import Derived.Conc.CrowdComm
import Derived.Conc.Listed
import Derived.Conc.Own5
import Derived.Conc.CompanyDraw
import Derived.AtR
import Derived.RangeFuncRecord
import Derived.Conc.TokenWalk
import Derived.Conc.CrowdSel

set_option linter.unusedVariables false
set_option linter.unusedSimpArgs false
section
namespace Go.W
open Go Go.Conc
open Go.ConcN (sumTo upd sumTo_upd upd_ne upd_same)
def noS : Loc → Prop := fun _ => False
def Calm (e : Event) : Prop := e.loc ≠ .mark .disable ∧ e.loc ≠ .mark .enable
theorem low_one (x : MemAct) : ∃ B, x.low B := by
  cases x with
  | access e =>
    obtain ⟨l, wr, sy⟩ := e
    cases l with
    | cell a => exact ⟨a.block + 1, Nat.lt_succ_self _⟩
    | obj r => exact ⟨r + 1, Nat.lt_succ_self _⟩
    | output => exact ⟨0, trivial⟩
    | goroutines => exact ⟨0, trivial⟩
    | mark m => exact ⟨0, trivial⟩
  | mark m =>
    cases m with
    | acquire a => exact ⟨a.block + 1, Nat.lt_succ_self _⟩
    | release a => exact ⟨a.block + 1, Nat.lt_succ_self _⟩
    | releaseMerge a => exact ⟨a.block + 1, Nat.lt_succ_self _⟩
    | read a => exact ⟨a.block + 1, Nat.lt_succ_self _⟩
    | write a => exact ⟨a.block + 1, Nat.lt_succ_self _⟩
    | disable => exact ⟨0, trivial⟩
    | enable => exact ⟨0, trivial⟩
    | extern f => exact ⟨0, trivial⟩
    | noRoom => exact ⟨0, trivial⟩
  | go _ => exact ⟨0, trivial⟩
  | start => exact ⟨0, trivial⟩
  | send c _ => exact ⟨c + 1, Nat.lt_succ_self _⟩
  | sendDone c _ => exact ⟨c + 1, Nat.lt_succ_self _⟩
  | recv c _ _ => exact ⟨c + 1, Nat.lt_succ_self _⟩
  | recvDone c _ => exact ⟨c + 1, Nat.lt_succ_self _⟩
  | close c => exact ⟨c + 1, Nat.lt_succ_self _⟩
  | recvClosed c => exact ⟨c + 1, Nat.lt_succ_self _⟩
theorem low_ops (B : Nat) (l : List MemAct) : ∃ B', B ≤ B' ∧ ∀ x ∈ l, x.low B' := by
  induction l with
  | nil => exact ⟨B, Nat.le_refl _, by simp⟩
  | cons x l ih =>
    obtain ⟨B1, h1, h2⟩ := ih; obtain ⟨B2, h3⟩ := low_one x; refine ⟨max B1 B2, by omega, fun y hy => ?_⟩
    rcases List.mem_cons.1 hy with rfl | hy
    · exact MemAct.low_mono (Nat.le_max_right _ _) h3
    · exact MemAct.low_mono (Nat.le_max_left _ _) (h2 y hy)
theorem low_all (B : Nat) (es : Array Event) : ∃ B', B ≤ B' ∧ ∀ e ∈ es, (MemAct.ofEvent e).low B' := by
  obtain ⟨B', h1, h2⟩ := low_ops B (es.toList.map MemAct.ofEvent); exact ⟨B', h1, fun e he => h2 _ (List.mem_map.2 ⟨e, by simpa using he, rfl⟩)⟩
theorem runNT_two {P : Program} {K : Nat} {m' : Machine} {t' : Trace} : ∀ {N : Nat} {m : Machine} {t : Trace}, runNT P N m t = (.next m', t') → runNT P (N + K) m t = runNT P K m' t'
  | 0, m, t, h => by
    simp only [runNT, Prod.mk.injEq] at h; obtain ⟨h1, rfl⟩ := h
    cases h1
    rw [Nat.zero_add]
  | N + 1, m, t, h => by
    have e : N + 1 + K = (N + K) + 1 := by omega
    rw [e]; simp only [runNT] at h ⊢; generalize stepT P m = r at h ⊢; obtain ⟨r, ops⟩ := r
    cases r with
    | next m1 => exact runNT_two h
    | ended o w => simp at h
section
variable {P : Program}
def Co (P : Program) (g : Goroutine) (w : World) (Goal : Goroutine → World → Prop) : Prop :=
  ∀ (d : Nat) (gs : Array Goroutine) (sl : Option (Nat × Nat)) (t : Trace) (q : Nat → Nat) (B : Nat), gs[0]? = some g → Leavers P t gs q → Past noS B t →
    ∃ (N : Nat) (gs' : Array Goroutine) (g' : Goroutine) (w' : World) (sl' : Option (Nat × Nat)) (t' : Trace) (q' : Nat → Nat) (B' : Nat),
      runNT P N (crowd gs (w.at d) sl) t = (.next (crowd gs' w' sl'), t') ∧ gs'[0]? = some g' ∧ Leavers P t' gs' q' ∧ Past noS B' t' ∧ Goal g' w'
variable {g g' : Goroutine} {w : World} {Goal Goal' : Goroutine → World → Prop}
theorem co_at (h : Co P g w Goal) (d : Nat) : Co P g (w.at d) Goal := fun d' => h d'
theorem co_done (h : ∀ d, Goal g (w.at d)) : Co P g w Goal := fun d gs sl t q B h0 hL hP => ⟨0, gs, g, w.at d, sl, t, q, B, rfl, h0, hL, hP, h d⟩
theorem beside_turn {gs : Array Goroutine} {sl : Option (Nat × Nat)} {t : Trace} {q : Nat → Nat} {B : Nat} (hrun : g.status = .running) (h0 : gs[0]? = some g) (hL : Leavers P t gs q) (hP : Past noS B t) :
    (∃ d sl', stepT P (crowd gs w sl) = runT P (crowd gs (w.at d) sl') 0) ∨
    ∃ d gs' sl' ops q', stepT P (crowd gs w sl) = (.next (crowd gs' (w.at d) sl'), ops) ∧ gs'.size = gs.size ∧ gs'[0]? = some g ∧ Leavers P (t ++ ops) gs' q' ∧ Past noS B (t ++ ops) ∧ sumTo gs'.size q' < sumTo gs.size q := by
  have haw : ∀ g ∈ gs, awake g := by
    intro g' hg; obtain ⟨i, hi, rfl⟩ := Array.mem_iff_getElem.1 hg
    rcases Nat.eq_zero_or_pos i with rfl | hpos
    · have : gs[0] = g := by simpa [Array.getElem?_eq_getElem hi] using h0
      rw [this]; exact awake_of (.inl hrun)
    · exact awake_of ((hL.old i _ hpos (Array.getElem?_eq_getElem hi)).status.elim .inl fun x => .inr (.inr x))
  obtain ⟨i, gi, d, sl', hi, hg, hst⟩ := crowd_pick (P := P) (w := w) (sl := sl) haw ⟨0, g, h0, hrun⟩
  rcases Nat.eq_zero_or_pos i with rfl | hpos
  · exact .inl ⟨d, sl', hst⟩
  · refine .inr ?_
    have hq := hL.old i gi hpos hi; have hi0 : (i == 0) = false := by simp; omega
    have hlt : i < gs.size := (Array.getElem?_eq_some_iff.1 hi).1
    cases hqi : q i with
    | zero => rw [hqi] at hq; rw [hq.1] at hg; cases hg
    | succ k =>
      rw [hqi] at hq
      rcases hq with ⟨hf, _⟩ | ⟨_, g', es, hm, hstp, hq'⟩
      · rw [hf] at hg; cases hg
      have hrunT := runT_crowd_go (P := P) (sl := sl') (i := i) hi (by rw [hi0]; exact hstp (w.at d)); have hsz : ((gs.map (woken P gi g' (w.at d))).setIfInBounds i g').size = gs.size := by simp
      have hsum : sumTo gs.size (upd q i k) + (k + 1) = sumTo gs.size q + k := by
        have := sumTo_upd q k id hlt
        simpa [hqi] using this
      refine ⟨d, (gs.map (woken P gi g' (w.at d))).setIfInBounds i g', sl', _, upd q i k, hst.trans hrunT, hsz, ?_, ⟨fun j x hj hx => ?_, fun j hj => ?_⟩, hP.mute (by omega) hm, by rw [hsz]; omega⟩
      · have hne : i ≠ 0 := by omega
        rw [Array.getElem?_setIfInBounds_ne hne, Array.getElem?_map, h0]
        simp [woken_run hrun]
      · by_cases hji : i = j
        · subst hji
          rw [Array.getElem?_setIfInBounds_self_of_lt (by simpa using hlt)] at hx; obtain rfl := Option.some.inj hx; rw [upd_same, Deaf_own]; exact hq'
        · rw [Array.getElem?_setIfInBounds_ne hji, Array.getElem?_map] at hx
          obtain ⟨y, hy, rfl⟩ := Option.map_eq_some_iff.1 hx; have hqj := hL.old j y hj hy; rw [woken_quitsD hqj, upd_ne q k (Ne.symm hji), Deaf_other t hji _ (fun op hop => by obtain ⟨e, _, rfl⟩ := Go.Conc.mem_ofEvents hop; rfl)]; exact hqj
      · rw [Deaf_other t (g' := i) (by simp at hj; omega) _ (fun op hop => by obtain ⟨e, _, rfl⟩ := Go.Conc.mem_ofEvents hop; rfl)]
        exact hL.above j (by simpa using hj)
def Turn (P : Program) (g : Goroutine) (w : World) (Goal : Goroutine → World → Prop) (d : Nat) : Prop :=
  ∀ (gs : Array Goroutine) (sl : Option (Nat × Nat)) (t : Trace) (q : Nat → Nat) (B : Nat), gs[0]? = some g → Leavers P t gs q → Past noS B t →
    ∃ (gs' : Array Goroutine) (g' : Goroutine) (w' : World) (ops : Array MemOp) (q' : Nat → Nat) (B' : Nat) (sl' : Option (Nat × Nat)),
      runT P (crowd gs (w.at d) sl) 0 = (.next (crowd gs' w' sl'), ops) ∧ gs'[0]? = some g' ∧ Leavers P (t ++ ops) gs' q' ∧ Past noS B' (t ++ ops) ∧ Co P g' w' Goal
theorem co_turn (hrun : g.status = .running) (h : ∀ d, Turn P g w Goal d) : Co P g w Goal := by
  intro d gs sl t q B h0 hL hP
  have key : ∀ (M d : Nat) (gs : Array Goroutine) (sl : Option (Nat × Nat)) (t : Trace) (q : Nat → Nat), sumTo gs.size q ≤ M → gs[0]? = some g → Leavers P t gs q → Past noS B t →
      ∃ (N : Nat) (gs' : Array Goroutine) (g' : Goroutine) (w' : World) (sl' : Option (Nat × Nat)) (t' : Trace) (q' : Nat → Nat) (B' : Nat),
        runNT P N (crowd gs (w.at d) sl) t = (.next (crowd gs' w' sl'), t') ∧ gs'[0]? = some g' ∧ Leavers P t' gs' q' ∧ Past noS B' t' ∧ Goal g' w' := by
    intro M
    induction M with
    | zero =>
      intro d gs sl t q hM h0 hL hP
      rcases beside_turn (w := w.at d) (sl := sl) hrun h0 hL hP with ⟨d', sl', hst⟩ | ⟨d', gs', sl', ops, q', hst, hsz, h0', hL', hP', hlt⟩
      · obtain ⟨gs1, g1, w1, ops, q1, B1, sl1, hr, h1, L1, P1, hk⟩ := h d' gs sl' t q B h0 hL hP
        obtain ⟨N, gs2, g2, w2, sl2, t2, q2, B2, r2, h2, L2, P2, hg2⟩ := hk w1.drawn gs1 sl1 _ q1 B1 h1 L1 P1; exact ⟨N + 1, gs2, g2, w2, sl2, t2, q2, B2, by simp only [runNT, hst]; rw [show (w.at d).at d' = w.at d' from rfl, hr]; exact r2, h2, L2, P2, hg2⟩
      · omega
    | succ M ih =>
      intro d gs sl t q hM h0 hL hP
      rcases beside_turn (w := w.at d) (sl := sl) hrun h0 hL hP with ⟨d', sl', hst⟩ | ⟨d', gs', sl', ops, q', hst, hsz, h0', hL', hP', hlt⟩
      · obtain ⟨gs1, g1, w1, ops, q1, B1, sl1, hr, h1, L1, P1, hk⟩ := h d' gs sl' t q B h0 hL hP
        obtain ⟨N, gs2, g2, w2, sl2, t2, q2, B2, r2, h2, L2, P2, hg2⟩ := hk w1.drawn gs1 sl1 _ q1 B1 h1 L1 P1; exact ⟨N + 1, gs2, g2, w2, sl2, t2, q2, B2, by simp only [runNT, hst]; rw [show (w.at d).at d' = w.at d' from rfl, hr]; exact r2, h2, L2, P2, hg2⟩
      · obtain ⟨N, gs2, g2, w2, sl2, t2, q2, B2, r2, h2, L2, P2, hg2⟩ := ih d' gs' sl' (t ++ ops) q' (by omega) h0' hL' hP'
        exact ⟨N + 1, gs2, g2, w2, sl2, t2, q2, B2, by simp only [runNT, hst]; exact r2, h2, L2, P2, hg2⟩
  exact key _ d gs sl t q (Nat.le_refl _) h0 hL hP
theorem turn_go {d : Nat} {w' : World} {es : Array Event} (hgo : stepG P true g (w.at d) = .go g' w' es) (hes : ∀ e ∈ es, Calm e) (hco : Co P g' w' Goal) : Turn P g w Goal d := by
  intro gs sl t q B h0 hL hP; have hrunT := runT_crowd_go (P := P) (sl := sl) (i := 0) h0 (show stepG P (0 == 0) g (w.at d) = _ from hgo); have hlt : 0 < gs.size := (Array.getElem?_eq_some_iff.1 h0).1; obtain ⟨B', hB, hlow⟩ := low_all B es; refine ⟨(gs.map (woken P g g' w')).setIfInBounds 0 g', g', w', _, q, B', sl, hrunT, by simp [hlt], ⟨fun j x hj hx => ?_, fun j hj => ?_⟩, (hP.mono hB).own fun e he => ⟨fun x _ hs => hs.elim, (hes e he).1, (hes e he).2, hlow e he⟩, hco⟩
  · have hne : 0 ≠ j := by omega
    rw [Array.getElem?_setIfInBounds_ne hne, Array.getElem?_map] at hx; obtain ⟨y, hy, rfl⟩ := Option.map_eq_some_iff.1 hx; have hq := hL.old j y hj hy; rw [woken_quitsD hq, Deaf_other t (by omega) _ (fun op hop => by obtain ⟨e, _, rfl⟩ := Go.Conc.mem_ofEvents hop; rfl)]; exact hq
  · rw [Deaf_other t (g' := 0) (by simp at hj; omega) _ (fun op hop => by obtain ⟨e, _, rfl⟩ := Go.Conc.mem_ofEvents hop; rfl)]
    exact hL.above j (by simpa using hj)
theorem co_step (hrun : g.status = .running)
    (h : ∀ d, ∃ g' w' es, stepG P true g (w.at d) = .go g' w' es ∧ (∀ e ∈ es, Calm e) ∧ Co P g' w' Goal) : Co P g w Goal :=
  co_turn hrun fun d => by obtain ⟨a', w', es, hgo, hes, hco⟩ := h d; exact turn_go hgo hes hco
theorem co_ctl (hrun : g.status = .running) (h : ∀ w, stepG P true g w = .go g' w) (k : Co P g' w Goal) : Co P g w Goal :=
  co_step hrun fun d => ⟨g', w.at d, #[], h _, by simp, co_at k d⟩
end
/-! ### What says nothing of deafness -/
def Quiet {α : Type} : Sem α → Prop
  | .pure _ => True
  | .load _ _ k => ∀ v, Quiet (k v)
  | .store _ _ _ k => Quiet k
  | .new _ k => ∀ r, Quiet (k r)
  | .shape _ k => ∀ s, Quiet (k s)
  | .freeze _ _ k => Quiet k
  | .frozen _ k => ∀ b, Quiet (k b)
  | .getObj _ k => ∀ o, Quiet (k o)
  | .setObj _ _ k => Quiet k
  | .choose _ k => ∀ n, Quiet (k n)
  | .sys _ k => ∀ r, Quiet (k r)
  | .program k => ∀ p, Quiet (k p)
  | .mark m k => (m ≠ .disable ∧ m ≠ .enable) ∧ Quiet k
  | .halt _ => True
theorem calm_push {es : Array Event} (h : ∀ e ∈ es, Calm e) {e : Event} (he : Calm e) : ∀ x ∈ es.push e, Calm x := fun x hx => by
  rcases Array.mem_push.1 hx with hx | rfl
  · exact h x hx
  · exact he
theorem calm_app {es us : Array Event} (h : ∀ e ∈ es, Calm e) (hu : ∀ e ∈ us, Calm e) : ∀ x ∈ es ++ us, Calm x := fun x hx => (Array.mem_append.1 hx).elim (h x) (hu x)
theorem calm_cell (a : Addr) (wr sy : Bool) : Calm ⟨.cell a, wr, sy⟩ := ⟨by simp, by simp⟩
theorem calm_cells (l : List Addr) (wr sy : Bool) : ∀ e ∈ l.toArray.map (fun a => (⟨.cell a, wr, sy⟩ : Event)), Calm e := fun e he => by
  obtain ⟨a, _, rfl⟩ := Array.mem_map.1 he; exact calm_cell a wr sy
theorem quiet_runT {α : Type} {P : Program} (s : Sem α) : Quiet s → ∀ (w : World) (es : Array Event), (∀ e ∈ es, Calm e) → ∀ e ∈ (s.runT P w es).2, Calm e := by
  induction s with
  | pure a => intro _ w es h; exact h
  | load m a k ih =>
    intro hq w es h; simp only [Sem.runT]
    split
    · exact ih _ (hq _) _ _ (calm_push h (calm_cell _ _ _))
    · split
      · exact ih _ (hq _) _ _ (calm_app h (calm_cells _ _ _))
      · exact h
  | store m a v k ih =>
    intro hq w es h; have hq' : Quiet k := hq
    cases v <;> simp only [Sem.runT] <;> first
      | exact h
      | (split
         · split
           · exact h
           · exact ih hq' _ _ (calm_push h (calm_cell _ _ _))
         · split
           · exact ih hq' _ _ (calm_app h (calm_cells _ _ _))
           · exact h)
  | new o k ih => intro hq w es h; exact ih _ (hq _) _ _ h
  | shape r k ih => intro hq w es h; exact ih _ (hq _) _ _ h
  | freeze a n k ih => intro hq w es h; exact ih hq _ _ h
  | frozen a k ih => intro hq w es h; exact ih _ (hq _) _ _ h
  | getObj r k ih =>
    intro hq w es h; simp only [Sem.runT]
    split
    · exact h
    · exact ih _ (hq _) _ _ (calm_push h ⟨by simp, by simp⟩)
    · exact h
  | setObj r o k ih =>
    intro hq w es h; simp only [Sem.runT]
    split
    · exact h
    · exact ih hq _ _ (calm_push h ⟨by simp, by simp⟩)
    · exact h
  | choose q k ih =>
    intro hq w es h; simp only [Sem.runT]
    split
    · exact ih _ (hq _) _ _ h
    · exact ih _ (hq _) _ _ h
  | sys c k ih => intro hq w es h; exact ih _ (hq _) _ _ (calm_push h ⟨by simp, by simp⟩)
  | program k ih => intro hq w es h; exact ih _ (hq _) _ _ h
  | mark m k ih =>
    intro hq w es h; exact ih hq.2 _ _ (calm_push h ⟨fun e => hq.1.1 (Loc.mark.inj e), fun e => hq.1.2 (Loc.mark.inj e)⟩)
  | halt h => intro _ w es h; exact h
theorem quiet_events {α : Type} {P : Program} {s : Sem α} (h : Quiet s) (w : World) : ∀ e ∈ s.events P w #[], Calm e := quiet_runT s h w #[] (by simp)
theorem quiet_bind {α β : Type} {s : Sem α} {f : α → Sem β} (hs : Quiet s) (hf : ∀ a, Quiet (f a)) : Quiet (s >>= f) := by
  show Quiet (s.bind f)
  induction s with
  | pure a => exact hf a
  | load m a k ih => exact fun v => ih v (hs v)
  | store m a v k ih => exact ih hs
  | new o k ih => exact fun v => ih v (hs v)
  | shape r k ih => exact fun v => ih v (hs v)
  | freeze a n k ih => exact ih hs
  | frozen a k ih => exact fun v => ih v (hs v)
  | getObj r k ih => exact fun v => ih v (hs v)
  | setObj r o k ih => exact ih hs
  | choose q k ih => exact fun v => ih v (hs v)
  | sys c k ih => exact fun v => ih v (hs v)
  | program k ih => exact fun v => ih v (hs v)
  | mark m k ih => exact ⟨hs.1, ih hs.2⟩
  | halt h => trivial
theorem calm_seen {P : Program} {fn : FuncId} {es : Array Event} (h : ∀ e ∈ es, Calm e) : ∀ e ∈ seen P fn es, Calm e := by
  intro e he; rw [seen_def] at he
  rcases seen_fold_sub _ _ _ _ _ he with h1 | h1
  · simp at h1
  · exact h e (by simpa using h1)
/-! ### A frame that leaves -/
theorem quiet_mapM_list {α β : Type} {f : α → Sem β} (hf : ∀ a, Quiet (f a)) : ∀ l : List α, Quiet (l.mapM f)
  | [] => by simp only [List.mapM_nil]; exact trivial
  | a :: l => by
    simp only [List.mapM_cons]; exact quiet_bind (hf a) fun b => quiet_bind (quiet_mapM_list hf l) fun _ => trivial
theorem quiet_map {α β : Type} {f : α → β} {s : Sem α} (h : Quiet s) : Quiet (f <$> s) := quiet_bind h fun _ => trivial
theorem quiet_mapM {α β : Type} {f : α → Sem β} (hf : ∀ a, Quiet (f a)) (l : Array α) : Quiet (l.mapM f) := by
  rw [Array.mapM_eq_mapM_toList]; exact quiet_map (quiet_mapM_list hf _)
theorem quiet_stuck {α : Type} (s : String) : Quiet (stuck s : Sem α) := trivial
theorem quiet_unsupported {α : Type} (u : Unsupported) : Quiet (unsupported u : Sem α) := trivial
theorem quiet_typeInfo (t : TypeId) : Quiet (typeInfo t) := by unfold typeInfo; refine quiet_bind (fun _ => trivial) fun _ => ?_; split <;> trivial
theorem quiet_underlying (t : TypeId) : Quiet (underlying t) := by unfold underlying; refine quiet_bind (fun _ => trivial) fun _ => ?_; split <;> trivial
theorem quiet_sizeOf (t : TypeId) : Quiet (sizeOf t) := by unfold sizeOf; exact quiet_bind (quiet_typeInfo t) fun _ => trivial
theorem quiet_isAgg (t : TypeId) : Quiet (isAgg t) := by unfold isAgg; refine quiet_bind (quiet_underlying t) fun _ => ?_; split <;> trivial
theorem quiet_load (a : Addr) (m : Mode) : Quiet (load a m) := fun _ => trivial
theorem quiet_store (a : Addr) (v : Value) (m : Mode) : Quiet (store a v m) := trivial
theorem quiet_loadCellsFrom (a : Addr) : ∀ (n i : Nat) (acc : Array Value), Quiet (loadCellsFrom a i n acc)
  | 0, i, acc => by unfold loadCellsFrom; trivial
  | n + 1, i, acc => by unfold loadCellsFrom; exact quiet_bind (quiet_load _ _) fun _ => quiet_loadCellsFrom a n _ _
theorem quiet_loadCells (a : Addr) (n : Nat) : Quiet (loadCells a n) := quiet_loadCellsFrom a n 0 #[]
theorem quiet_loadVar (t : TypeId) (a : Addr) : Quiet (loadVar t a) := by
  unfold loadVar; refine quiet_bind (quiet_isAgg t) fun b => ?_
  split
  · exact quiet_bind (quiet_sizeOf t) fun n => quiet_bind (quiet_loadCells a n) fun _ => trivial
  · exact quiet_load _ _
theorem quiet_runtimePanic {α : Type} (e : RuntimeError) : Quiet (runtimePanic e : Sem α) := by
  have he : ∀ t, Quiet (elemOf t) := fun t => by
    unfold elemOf; refine quiet_bind (quiet_underlying t) fun _ => ?_
    split <;> trivial
  have hn : ∀ t v, Quiet (newVar t v) := fun t v _ => trivial; unfold runtimePanic; refine quiet_bind (fun _ => trivial) fun p => ?_
  cases e <;> first | trivial | exact quiet_bind (quiet_bind (he _) fun _ => hn _ _) fun _ => trivial | exact quiet_bind (he _) fun _ => quiet_bind (hn _ _) fun _ => trivial
theorem quiet_asAddr (v : Value) : Quiet (asAddr v) := by unfold asAddr; split <;> first | trivial | exact quiet_runtimePanic _
theorem quiet_results (fn : Func) (tmps : Array Value) : Quiet (results fn tmps) := by
  unfold results; refine quiet_bind (quiet_mapM (fun r => ?_) _) fun _ => trivial
  split
  · trivial
  · exact quiet_bind (quiet_asAddr _) fun _ => quiet_loadVar _ _
end Go.W
end
section
namespace Go.W
open Go Go.Conc
def notDef (o : Oper) : Bool := match o.op with | .defer _ => false | _ => true
def nd : Code → Bool
  | .region _ ops _ => ops.all notDef
  | .seq x y => nd x && nd y
  | .cond _ x y => nd x && nd y
  | .block _ x => nd x
  | .loop x => nd x
  | .scope x => nd x
  | .rangeFunc .. => false
  | _ => true
section
variable {P : Program} {main : Bool} {b : Frame} {a : Act} {k : List Item} {cs : List Frame} {w : World}
theorem sR_skip : stepG P main (G (b.atR a (.code .skip :: k)) cs) w = .go (G (b.atR a k) cs) w := by simp [G, stepG, stepG.exec, Frame.atR]
theorem sR_label {l : Nat} : stepG P main (G (b.atR a (.code (.label l) :: k)) cs) w = .go (G (b.atR a k) cs) w := by simp [G, stepG, stepG.exec, Frame.atR]
theorem sR_inBlock {id : Nat} : stepG P main (G (b.atR a (.inBlock id :: k)) cs) w = .go (G (b.atR a k) cs) w := by simp [G, stepG, stepG.exec, Frame.atR]
theorem sR_inScope {c : Code} : stepG P main (G (b.atR a (.inScope c :: k)) cs) w = .go (G (b.atR a k) cs) w := by simp [G, stepG, stepG.exec, Frame.atR]
theorem sR_scope {c : Code} : stepG P main (G (b.atR a (.code (.scope c) :: k)) cs) w = .go (G (b.atR a (.code c :: .inScope c :: k)) cs) w := by simp [G, stepG, stepG.exec, Frame.atR]
theorem sR_seq {x y : Code} : stepG P main (G (b.atR a (.code (.seq x y) :: k)) cs) w = .go (G (b.atR a (.code x :: .code y :: k)) cs) w := by simp [G, stepG, stepG.exec, Frame.atR]
theorem sR_cond {c : Operand} {x y : Code} {t : Bool} (h : a.eval c = .bool t) :
    stepG P main (G (b.atR a (.code (.cond c x y) :: k)) cs) w = .go (G (b.atR a (.code (if t then x else y) :: k)) cs) w := by
  have h' : (b.atR a (.code (.cond c x y) :: k)).eval c = .bool t := by rw [Frame.eval_atR]; exact h
  simp only [Frame.atR] at h'
  simp [G, stepG, stepG.exec, Frame.atR, h']
theorem sR_block {id : Nat} {c : Code} : stepG P main (G (b.atR a (.code (.block id c) :: k)) cs) w = .go (G (b.atR a (.code c :: .inBlock id :: k)) cs) w := by simp [G, stepG, stepG.exec, Frame.atR]
theorem sR_loop {c : Code} : stepG P main (G (b.atR a (.code (.loop c) :: k)) cs) w = .go (G (b.atR a (.code c :: .inLoop c :: k)) cs) w := by simp [G, stepG, stepG.exec, Frame.atR]
theorem sR_inLoop {c : Code} : stepG P main (G (b.atR a (.inLoop c :: k)) cs) w = .go (G (b.atR a (.code c :: .inLoop c :: k)) cs) w := by simp [G, stepG, stepG.exec, Frame.atR]
theorem sR_exit {id : Nat} {k' : List Item} (h : exitTo id k = some k') : stepG P main (G (b.atR a (.code (.exit id) :: k)) cs) w = .go (G (b.atR a k') cs) w := by simp [G, stepG, stepG.exec, Frame.atR, h]
theorem sR_region {id : Nat} {ops : Array Oper} : stepG P main (G (b.atR a (.code (.region id ops false) :: k)) cs) w = .go (G (b.atR a (.inRegion ops (List.range ops.size) :: k)) cs) w := by simp [G, stepG, stepG.exec, Frame.atR]
theorem sR_region_end {ops : Array Oper} : stepG P main (G (b.atR a (.inRegion ops [] :: k)) cs) w = .go (G (b.atR a k) cs) w := by simp [G, stepG, stepG.exec, Frame.atR]
theorem sR_region_draw {id : Nat} {ops : Array Oper} : stepG P main (G (b.atR a (.code (.region id ops true) :: k)) cs) w = .go (G (b.atR a (.inRegion ops (Region.schedule (P.follows .mixedOrders) ops (w.tape w.drawn (.order b.fn id))) :: k)) cs) { w with drawn := w.drawn + 1 } := by
  simp [G, stepG, stepG.exec, Frame.atR, choose, Sem.run, Question.forced, Question.cut]
theorem sR_oper {ops : Array Oper} {i : Nat} {rest : List Nat} {o : Oper} (ho : ops[i]? = some o) (hw : Region.wanted o (yielded ops a.tmps) = true) (hnd : b.roundOf = none ∨ notDef o = true) :
    stepG P main (G (b.atR a (.inRegion ops (i :: rest) :: k)) cs) w = stepG.apply P true (b.atR a (.inRegion ops (i :: rest) :: k)) cs none (execOp a.eval o) w := by
  have he := Frame.eval_atR b a (.inRegion ops (i :: rest) :: k); simp only [Frame.atR] at he
  have e2 : stepG P main (G (b.atR a (.inRegion ops (i :: rest) :: k)) cs) w = stepG.apply P true (b.atR a (.inRegion ops (i :: rest) :: k)) cs none (o.semAt b.roundOf a.eval) w := by
    simp only [G, stepG, stepG.exec, stepG.oper, Frame.oper?, Frame.atR, ho, hw, he, Option.map_some, Option.getD_some, if_true, Oper.semAt]
    cases b.roundOf <;> cases o.op <;> rfl
  rw [e2]
  rcases hnd with h | h
  · rw [h, Oper.semAt_none]
  · rw [Oper.semAt_eq _ _ _ fun c hc => by unfold notDef at h; rw [hc] at h; cases h]
theorem fR_at {ops : Array Oper} {i : Nat} {rest : List Nat} {o : Oper} (ho : ops[i]? = some o) (v : Value) : (b.atR a (.inRegion ops (i :: rest) :: k)).finish v = b.atR (a.put o.dst v) (.inRegion ops rest :: k) := by rw [Frame.finish_atR, ho]; rfl
variable {ops : Array Oper} {i : Nat} {rest : List Nat} {o : Oper} {v : Value} {w' : World}
theorem sR_value (ho : ops[i]? = some o) (hw : Region.wanted o (yielded ops a.tmps) = true) (hk : b.kind ≠ .early) (hnd : b.roundOf = none ∨ notDef o = true) (hr : (execOp a.eval o).run P w = .ok (.value v) w') :
    stepG P main (G (b.atR a (.inRegion ops (i :: rest) :: k)) cs) w = .go (G (b.atR (a.put o.dst v) (.inRegion ops rest :: k)) cs) w' (listed P b.fn a o w) := by
  have hk' : (b.kind == CallKind.early) = false := by simpa using hk
  rw [sR_oper ho hw hnd, ← fR_at ho]
  simp [stepG.apply, hr, G, Frame.atR, hk', GStep.after, listed]
theorem sR_none (ho : ops[i]? = some o) (hw : Region.wanted o (yielded ops a.tmps) = true) (hk : b.kind ≠ .early) (hnd : b.roundOf = none ∨ notDef o = true) (hr : (execOp a.eval o).run P w = .ok .skip w') :
    stepG P main (G (b.atR a (.inRegion ops (i :: rest) :: k)) cs) w = .go (G (b.atR (a.put o.dst undef) (.inRegion ops rest :: k)) cs) w' (listed P b.fn a o w) := by
  have hk' : (b.kind == CallKind.early) = false := by simpa using hk
  rw [sR_oper ho hw hnd, ← fR_at ho]
  simp [stepG.apply, hr, G, Frame.atR, hk', GStep.after, listed]
theorem sR_comm {cases : Array CommCase} {blocking : Bool} {shape : CommShape} (ho : ops[i]? = some o) (hw : Region.wanted o (yielded ops a.tmps) = true) (hk : b.kind ≠ .early) (hnd : b.roundOf = none ∨ notDef o = true) (hr : (execOp a.eval o).run P w = .ok (.comm cases blocking shape) w') :
    stepG P main (G (b.atR a (.inRegion ops (i :: rest) :: k)) cs) w = .comm (G (b.atR a (.inRegion ops (i :: rest) :: k)) cs) cases blocking shape w' (listed P b.fn a o w) := by
  have hk' : (b.kind == CallKind.early) = false := by simpa using hk
  rw [sR_oper ho hw hnd]
  simp [stepG.apply, hr, G, Frame.atR, hk', GStep.after, listed]
theorem sR_enter {f : FuncId} {args : Array Value} (ho : ops[i]? = some o) (hw : Region.wanted o (yielded ops a.tmps) = true) (hk : b.kind ≠ .early) (hnd : b.roundOf = none ∨ notDef o = true) (hr : (execOp a.eval o).run P w = .ok (.enter f args) w') :
    stepG P main (G (b.atR a (.inRegion ops (i :: rest) :: k)) cs) w = .go (G (Frame.enter P f args .normal) (b.atR a (.inRegion ops (i :: rest) :: k) :: cs)) w' (listed P b.fn a o w) := by
  have hk' : (b.kind == CallKind.early) = false := by simpa using hk
  rw [sR_oper ho hw hnd]
  simp [stepG.apply, hr, G, Frame.atR, hk', GStep.after, listed]
theorem sR_round {l : Nat} {f : FuncId} {tmps : Array Value} {assign body : Code} (ho : ops[i]? = some o) (hw : Region.wanted o (yielded ops a.tmps) = true) (hk : b.kind ≠ .early) (hnd : b.roundOf = none ∨ notDef o = true) (hr : (execOp a.eval o).run P w = .ok (.round l f tmps assign body) w') :
    stepG P main (G (b.atR a (.inRegion ops (i :: rest) :: k)) cs) w = .go (G (Frame.round l f tmps assign body .normal) (b.atR a (.inRegion ops (i :: rest) :: k) :: cs)) w' (listed P b.fn a o w) := by
  have hk' : (b.kind == CallKind.early) = false := by simpa using hk
  rw [sR_oper ho hw hnd]
  simp [stepG.apply, hr, G, Frame.atR, hk', GStep.after, listed]
theorem sR_unwanted (ho : ops[i]? = some o) (hw : Region.wanted o (yielded ops a.tmps) = false) :
    stepG P main (G (b.atR a (.inRegion ops (i :: rest) :: k)) cs) w = .go (G (b.atR (a.put o.dst undef) (.inRegion ops rest :: k)) cs) w #[] := by
  rw [← fR_at ho]
  simp [G, stepG, stepG.exec, Frame.atR, ho, hw]
end
end Go.W
end
section
namespace Go.W
open Go Go.Conc
section
variable {P : Program} {b : Frame} {a : Act} {k : List Item} {cs : List Frame} {w : World} {Goal : Goroutine → World → Prop}
/-! ### Calls -/
def Lv (P : Program) (fr : Frame) (w : World) (v : Value) : Prop :=
  fr.mode = .returning ∧ fr.defers = [] ∧ fr.kind = .normal ∧ ∃ fn, P.funcs[fr.fn]? = some fn ∧ ∀ d, (results fn fr.tmps).run P (w.at d) = .ok v (w.at d)
def CallsB (P : Program) (f : FuncId) (args : Array Value) (w : World) (R : Value → World → Prop) : Prop :=
  ∀ (cs : List Frame) (Goal : Goroutine → World → Prop), (∀ fr v w', fr.fn = f → R v w' → Lv P fr w' v → Co P (G fr cs) w' Goal) → Co P (G (Frame.enter P f args .normal) cs) w Goal
theorem CallsB.mono {f : FuncId} {args : Array Value} {R R' : Value → World → Prop} (h : CallsB P f args w R) (hr : ∀ v w', R v w' → R' v w') : CallsB P f args w R' :=
  fun cs Goal k => h cs Goal fun fr v w' h0 h1 h2 => k fr v w' h0 (hr _ _ h1) h2
theorem CallsB.at {f : FuncId} {args : Array Value} {R : Value → World → Prop} (h : CallsB P f args w R) (d : Nat) : CallsB P f args (w.at d) R := fun cs Goal k => co_at (h cs Goal k) d
def Pn (P : Program) (fr : Frame) (ch : List PanicEntry) : Prop := fr.mode = .panicking ch ∧ fr.defers = [] ∧ fr.kind = .normal ∧ ∃ fn, P.funcs[fr.fn]? = some fn
def CallsE (P : Program) (f : FuncId) (args : Array Value) (w : World) (R : Value → World → Prop) (D : List PanicEntry → World → Prop) : Prop :=
  ∀ (cs : List Frame) (Goal : Goroutine → World → Prop), (∀ fr v w', fr.fn = f → R v w' → Lv P fr w' v → Co P (G fr cs) w' Goal) → (∀ fr ch w', D ch w' → Pn P fr ch → Co P (G fr cs) w' Goal) → Co P (G (Frame.enter P f args .normal) cs) w Goal
theorem CallsE.mono {f : FuncId} {args : Array Value} {R R' : Value → World → Prop} {D D' : List PanicEntry → World → Prop} (h : CallsE P f args w R D) (hr : ∀ v w', R v w' → R' v w') (hd : ∀ ch w', D ch w' → D' ch w') : CallsE P f args w R' D' :=
  fun cs Goal k k2 => h cs Goal (fun fr v w' h0 h1 h2 => k fr v w' h0 (hr _ _ h1) h2) fun fr ch w' h1 h2 => k2 fr ch w' (hd _ _ h1) h2
theorem CallsB.E {f : FuncId} {args : Array Value} {R : Value → World → Prop} {D : List PanicEntry → World → Prop} (h : CallsB P f args w R) : CallsE P f args w R D := fun cs Goal k _ => h cs Goal k
theorem CallsE.B {f : FuncId} {args : Array Value} {R : Value → World → Prop} (h : CallsE P f args w R fun _ _ => False) : CallsB P f args w R := fun cs Goal k => h cs Goal k fun _ _ _ h => h.elim
def RoundB (P : Program) (l : Nat) (f : FuncId) (tmps : Array Value) (assign body : Code) (w : World) (R : Value → World → Prop) : Prop :=
  ∀ (c : Frame) (cs : List Frame) (Goal : Goroutine → World → Prop), (∀ v w', R v w' → Co P (G (c.finish v) cs) w' Goal) → Co P (G (Frame.round l f tmps assign body .normal) (c :: cs)) w Goal
theorem RoundB.mono {l : Nat} {f : FuncId} {tmps : Array Value} {assign body : Code} {R R' : Value → World → Prop} (h : RoundB P l f tmps assign body w R) (hr : ∀ v w', R v w' → R' v w') : RoundB P l f tmps assign body w R' :=
  fun c cs Goal k => h c cs Goal fun v w' h1 => k v w' (hr _ _ h1)
theorem co_die {fr c : Frame} {ch : List PanicEntry} (h : Pn P fr ch) (hk : Co P (G (c.raise ch) cs) w Goal) : Co P (G fr (c :: cs)) w Goal := by
  obtain ⟨hm, hd, hn, fn, hf⟩ := h; refine co_step rfl fun d => ⟨_, w.at d, #[], ?_, by simp, co_at hk d⟩
  simp [G, stepG, unwind, Frame.catches, hm, hd, hf]
theorem co_leave {fr c : Frame} {v : Value} (h : Lv P fr w v) (hk : Co P (G (c.finish v) cs) w Goal) : Co P (G fr (c :: cs)) w Goal := by
  obtain ⟨hm, hd, hn, fn, hf, hr⟩ := h; refine co_step rfl fun d => ⟨_, w.at d, seen P fr.fn ((results fn fr.tmps).events P (w.at d) #[]), ?_, calm_seen (quiet_events (quiet_results fn fr.tmps) _), co_at hk d⟩
  simp [G, stepG, unwind, doReturn, hn, hd, hm, hf, hr d, GStep.after]
/-! ### Operations -/
def CommOk (cases : Array CommCase) (shape : CommShape) (w : World) (K : Value → World → Prop) : Prop :=
  (∃ c v z cap buf s r tm, cases = #[scase c v z] ∧ shape = .send ∧ w.heap[c]? = some (.chan cap buf false s r tm) ∧ buf.size < cap ∧
    K undef { w with heap := w.heap.setIfInBounds c (.chan cap (buf.push v) false (s + 1) r tm) }) ∨
  (∃ c z ok cap buf cl s r tm, cases = #[rcase c z] ∧ shape = .recv ok ∧ w.heap[c]? = some (.chan cap buf cl s r tm) ∧ 0 < buf.size ∧
    K (if ok then .tuple #[buf.getD 0 undef, .bool true] else buf.getD 0 undef) { w with heap := w.heap.setIfInBounds c (.chan cap (buf.extract 1 buf.size) cl s (r + 1) tm) })
theorem CommOk.mono {cases : Array CommCase} {shape : CommShape} {K K' : Value → World → Prop} (h : CommOk cases shape w K) (hk : ∀ v w', K v w' → K' v w') : CommOk cases shape w K' := by
  rcases h with ⟨c, v, z, cap, buf, s, r, tm, h1, h2, h3, h4, h5⟩ | ⟨c, z, ok, cap, buf, cl, s, r, tm, h1, h2, h3, h4, h5⟩
  · exact .inl ⟨c, v, z, cap, buf, s, r, tm, h1, h2, h3, h4, hk _ _ h5⟩
  · exact .inr ⟨c, z, ok, cap, buf, cl, s, r, tm, h1, h2, h3, h4, hk _ _ h5⟩
def uponB (P : Program) (o : Oper) (a : Act) (K : Act → World → Prop) (Q : Exit → Act → World → Prop) : Result Next → Prop
  | .ok (.value v) w' => K (a.put o.dst v) w'
  | .ok .skip w' => K (a.put o.dst undef) w'
  | .ok (.defer d) w' => K ({ a with defers := d :: a.defers }.put o.dst undef) w'
  | .ok (.enter f args) w' => CallsE P f args w' (fun v w'' => K (a.put o.dst v) w'') fun ch w'' => Q (.panic ch) a w''
  | .ok (.round l f tmps assign body) w' => RoundB P l f tmps assign body w' fun v w'' => K (a.put o.dst v) w''
  | .ok (.comm cases blocking shape) w' => CommOk cases shape w' fun v w'' => K (a.put o.dst v) w''
  | .halt (.panic v) w' => Q (.panic [{ v, recovered := false }]) a w'
  | _ => False
section
variable {Q Q' : Exit → Act → World → Prop}
theorem uponB_value (o : Oper) (K : Act → World → Prop) (v : Value) : uponB P o a K Q (.ok (.value v) w) = K (a.put o.dst v) w := rfl
theorem uponB_skip (o : Oper) (K : Act → World → Prop) : uponB P o a K Q (.ok .skip w) = K (a.put o.dst undef) w := rfl
theorem uponB_enter (o : Oper) (K : Act → World → Prop) (f : FuncId) (args : Array Value) : uponB P o a K Q (.ok (.enter f args) w) = CallsE P f args w (fun v w'' => K (a.put o.dst v) w'') fun ch w'' => Q (.panic ch) a w'' := rfl
theorem uponB_mono {o : Oper} {K K' : Act → World → Prop} (h : ∀ a w, K a w → K' a w) (hq : ∀ ch a w, Q (.panic ch) a w → Q' (.panic ch) a w) {r : Result Next} (hh : uponB P o a K Q r) : uponB P o a K' Q' r := by
  cases r with
  | ok n w' =>
    cases n with
    | value v => exact h _ _ hh
    | skip => exact h _ _ hh
    | defer d => exact h _ _ hh
    | enter f args => exact CallsE.mono (R := fun v w'' => K (a.put o.dst v) w'') (D := fun ch w'' => Q (.panic ch) a w'') hh (fun _ _ hk => h _ _ hk) fun _ _ hk => hq _ _ _ hk
    | round l f tmps assign body => exact RoundB.mono (R := fun v w'' => K (a.put o.dst v) w'') hh fun _ _ hk => h _ _ hk
    | comm cs b s => exact CommOk.mono (K := fun v w'' => K (a.put o.dst v) w'') hh fun _ _ hk => h _ _ hk
    | _ => exact hh
  | halt x w' => cases x <;> first | exact hq _ _ _ hh | exact hh
def owp (P : Program) (o : Oper) (a : Act) (w : World) (K : Act → World → Prop) (Q : Exit → Act → World → Prop) : Prop :=
  ∀ d, (∀ e ∈ (execOp a.eval o).events P (w.at d) #[], Calm e) ∧ uponB P o a K Q ((execOp a.eval o).run P (w.at d))
theorem owp_monoQ {o : Oper} {K K' : Act → World → Prop} (h : ∀ a w, K a w → K' a w) (hq : ∀ ch a w, Q (.panic ch) a w → Q' (.panic ch) a w) (hh : owp P o a w K Q) : owp P o a w K' Q' := fun d => ⟨(hh d).1, uponB_mono h hq (hh d).2⟩
theorem owp_mono {o : Oper} {K K' : Act → World → Prop} (h : ∀ a w, K a w → K' a w) (hh : owp P o a w K Q) : owp P o a w K' Q := owp_monoQ h (fun _ _ _ h => h) hh
end
theorem calm_listed {fn : FuncId} {o : Oper} (h : ∀ e ∈ (execOp a.eval o).events P w #[], Calm e) : ∀ e ∈ listed P fn a o w, Calm e := calm_seen h
theorem partners_none {gs : Array Goroutine} {c : Nat} {send : Bool} (h : ∀ g ∈ gs, g.status ≠ .blocked) : partners gs c send = [] := by
  unfold partners; rw [List.flatMap_eq_nil_iff]; rintro ⟨g, i⟩ hm
  have hg : g ∈ gs := by
    rw [Array.mem_toList_iff] at hm; obtain ⟨j, hj, e⟩ := Array.mem_iff_getElem.1 hm; simp only [Array.getElem_zipIdx, Prod.mk.injEq] at e; rw [← e.1]; exact Array.getElem_mem _
  have := h g hg
  simp only
  split
  · rename_i h1 _; exact absurd h1 this
  · rfl
theorem turn_comm {g g₂ g' : Goroutine} {d : Nat} {w₁ w' : World} {cases : Array CommCase} {bl : Bool} {sh : CommShape} {acts : List MemAct} {es : Array Event}
    (hst : stepG P true g (w.at d) = .comm g₂ cases bl sh w₁ es) (hes : ∀ e ∈ es, Calm e)
    (ha : ∀ x ∈ acts, x.touch? = none ∧ x ≠ .mark .disable ∧ x ≠ .mark .enable)
    (hm : ∀ (rest : Rest) (gs : Array Goroutine), (∀ g ∈ gs, g.status ≠ .blocked) → communicate P rest gs 0 g₂ cases bl sh w₁ = (.next { world := w', gs := gs.setIfInBounds 0 g', rest }, (acts.map fun x => ({ g := 0, fn := g₂.frame.fn, pos := g₂.frame.place, act := x } : MemOp)).toArray))
    (k : Co P g' w' Goal) : Turn P g w Goal d := by
  intro gs sl t q B h0 hL hP; have hlt : 0 < gs.size := (Array.getElem?_eq_some_iff.1 h0).1; have hr := runT_crowd_comm (P := P) (sl := sl) h0 (show stepG P (0 == 0) g (w.at d) = _ from hst)
  have hnb : ∀ x ∈ gs.setIfInBounds 0 ph, x.status ≠ .blocked := by
    intro x hx; obtain ⟨j, hj, rfl⟩ := Array.mem_iff_getElem.1 hx
    by_cases h00 : 0 = j
    · subst h00; simp [ph]
    · have hj' : j < gs.size := by simpa using hj
      have e1 : (gs.setIfInBounds 0 ph)[j] = gs[j] := Array.getElem_setIfInBounds_ne hj' h00; rw [e1]
      rcases (hL.old j gs[j] (by omega) (Array.getElem?_eq_getElem hj')).status with h1 | h1 <;> rw [h1] <;> simp
  rw [hm _ _ hnb] at hr
  have hset : (gs.setIfInBounds 0 ph).setIfInBounds 0 g' = gs.setIfInBounds 0 g' := by
    apply Array.ext_getElem?
    intro j
    by_cases hj : 0 = j
    · subst hj; simp [hlt]
    · simp [Array.getElem?_setIfInBounds_ne hj]
  rw [hset] at hr
  let u : Array MemOp := (acts.map fun x => ({ g := 0, fn := g₂.frame.fn, pos := g₂.frame.place, act := x } : MemOp)).toArray
  obtain ⟨B1, hB1, hlow1⟩ := low_all B es; obtain ⟨B2, hB2, hlow2⟩ := low_ops B1 acts
  have hu : ∀ op ∈ u, ∃ x ∈ acts, op = { g := 0, fn := g₂.frame.fn, pos := g₂.frame.place, act := x } := by
    intro op hop; simp only [u, List.mem_toArray, List.mem_map] at hop; obtain ⟨x, hx, rfl⟩ := hop; exact ⟨x, hx, rfl⟩
  have hP1 : Past noS B1 (t ++ MemOp.ofEvents 0 g.frame.fn g.frame.place es) := (hP.mono hB1).own fun e he => ⟨fun x _ hs => hs.elim, (hes e he).1, (hes e he).2, hlow1 e he⟩
  have hdeaf : ∀ (t : Trace), Deaf (t ++ u) 0 = Deaf t 0 := by
    intro t
    have hstep : ∀ (l : List MemAct), (∀ x ∈ l, x ≠ .mark .disable ∧ x ≠ .mark .enable) → ∀ d0, (l.map fun x => ({ g := 0, fn := g₂.frame.fn, pos := g₂.frame.place, act := x } : MemOp)).foldl (deafStep 0) d0 = d0 := by
      intro l
      induction l with
      | nil => intro _ d0; rfl
      | cons x l ih =>
        intro hl d0; have hx := hl x (by simp)
        have e1 : deafStep 0 d0 { g := 0, fn := g₂.frame.fn, pos := g₂.frame.place, act := x } = d0 := by
          unfold deafStep
          split
          · rename_i h1; exact absurd h1 hx.1
          · rename_i h1; exact absurd h1 hx.2
          · rfl
        rw [List.map_cons, List.foldl_cons, e1]; exact ih (fun y hy => hl y (by simp [hy])) d0
    show Deaf (t ++ (acts.map _).toArray) 0 = _; rw [Deaf_append]; exact hstep acts (fun x hx => (ha x hx).2) _
  have hP2 : Past noS B2 ((t ++ MemOp.ofEvents 0 g.frame.fn g.frame.place es) ++ u) := (hP1.mono hB2).app0 (fun op hop => by obtain ⟨x, _, rfl⟩ := hu op hop; rfl) (fun op hop b hb hs => hs.elim) (hdeaf _) (fun op hop => by obtain ⟨x, hx, rfl⟩ := hu op hop; exact hlow2 x hx); refine ⟨gs.setIfInBounds 0 g', g', w', _, q, B2, sl, hr, by simp [hlt], ⟨fun j x hj hx => ?_, fun j hj => ?_⟩, by rw [← Array.append_assoc]; exact hP2, k⟩
  · have hne : 0 ≠ j := by omega
    rw [Array.getElem?_setIfInBounds_ne hne] at hx
    rw [Deaf_other t (g' := 0) hne _ (fun op hop => by
      rcases Array.mem_append.1 hop with hop | hop
      · obtain ⟨e, _, rfl⟩ := Go.Conc.mem_ofEvents hop; rfl
      · obtain ⟨x, _, rfl⟩ := hu op hop; rfl)]
    exact hL.old j x hj hx
  · rw [Deaf_other t (g' := 0) (by simp at hj; omega) _ (fun op hop => by
      rcases Array.mem_append.1 hop with hop | hop
      · obtain ⟨e, _, rfl⟩ := Go.Conc.mem_ofEvents hop; rfl
      · obtain ⟨x, _, rfl⟩ := hu op hop; rfl)]
    exact hL.above j (by simpa using hj)
theorem comm_send {rest : Rest} {gs : Array Goroutine} {fr : Frame} {c cap s r : Nat} {buf : Array Value} {v z : Value} {tm bl : Bool} (hn : ∀ g ∈ gs, g.status ≠ .blocked) (hc : w.heap[c]? = some (.chan cap buf false s r tm)) (hroom : buf.size < cap) :
    communicate P rest gs 0 (G fr cs) #[scase c v z] bl .send w = (.next { world := { w with heap := w.heap.setIfInBounds c (.chan cap (buf.push v) false (s + 1) r tm) }, gs := gs.setIfInBounds 0 (G (fr.finish undef) cs), rest },
      ([.send c s, .sendDone c s].map fun x => ({ g := 0, fn := (G fr cs).frame.fn, pos := (G fr cs).frame.place, act := x } : MemOp)).toArray) := by
  have hp := partners_none (c := c) (send := false) hn
  simp [G, communicate, ways, scase, hc, hp, hroom, choose, Sem.run, Question.forced, bind, Sem.bind, pure, Goroutine.finishComm, commResult]
theorem comm_recv {rest : Rest} {gs : Array Goroutine} {fr : Frame} {c cap s r : Nat} {buf : Array Value} {z : Value} {tm bl cl ok : Bool} (hn : ∀ g ∈ gs, g.status ≠ .blocked) (hc : w.heap[c]? = some (.chan cap buf cl s r tm)) (hsome : 0 < buf.size) :
    communicate P rest gs 0 (G fr cs) #[rcase c z] bl (.recv ok) w = (.next { world := { w with heap := w.heap.setIfInBounds c (.chan cap (buf.extract 1 buf.size) cl s (r + 1) tm) }, gs := gs.setIfInBounds 0 (G (fr.finish (if ok then .tuple #[buf.getD 0 undef, .bool true] else buf.getD 0 undef)) cs), rest },
      ([.recv c r cap, .recvDone c r].map fun x => ({ g := 0, fn := (G fr cs).frame.fn, pos := (G fr cs).frame.place, act := x } : MemOp)).toArray) := by
  have hp := partners_none (c := c) (send := true) hn
  cases ok <;> simp [G, communicate, ways, rcase, hc, hp, hsome, choose, Sem.run, Question.forced, bind, Sem.bind, pure, Goroutine.finishComm, commResult]
theorem fin_at {ops : Array Oper} {i : Nat} {rest : List Nat} {o : Oper} (ho : ops[i]? = some o) (v : Value) : (b.atR a (.inRegion ops (i :: rest) :: k)).finish v = b.atR (a.put o.dst v) (.inRegion ops rest :: k) := by rw [Frame.finish_atR, ho]; rfl
theorem co_op {ops : Array Oper} {i : Nat} {rest : List Nat} {o : Oper} {K : Act → World → Prop} {Q : Exit → Act → World → Prop} (hk : b.kind ≠ .early) (hnd : b.roundOf = none ∨ notDef o = true) (ho : ops[i]? = some o) (hw : Region.wanted o (yielded ops a.tmps) = true)
    (h : owp P o a w K Q) (next : ∀ a' w', K a' w' → Co P (G (b.atR a' (.inRegion ops rest :: k)) cs) w' Goal)
    (dies : ∀ ch w', Q (.panic ch) a w' → Co P (G ((b.atR a (.inRegion ops (i :: rest) :: k)).raise ch) cs) w' Goal) : Co P (G (b.atR a (.inRegion ops (i :: rest) :: k)) cs) w Goal := by
  have hk' : b.kind ≠ .early := hk; refine co_turn rfl fun d => ?_; obtain ⟨hev, hup⟩ := h d; generalize hr : (execOp a.eval o).run P (w.at d) = r at hup
  cases r with
  | halt x w' =>
    cases x with
    | panic v =>
      refine turn_go (g' := G ((b.atR a (.inRegion ops (i :: rest) :: k)).raise [{ v, recovered := false }]) cs) (w' := w') (es := listed P b.fn a o (w.at d)) ?_ (calm_listed hev) (dies _ _ hup); have h1 : (b.kind == CallKind.early) = false := by simpa using hk'
      rw [sR_oper ho hw hnd]
      simp [stepG.apply, hr, G, Frame.atR, h1, GStep.after, listed]
    | _ => exact hup.elim
  | ok n w' =>
    cases n with
    | value v => exact turn_go (sR_value ho hw hk' hnd hr) (calm_listed hev) (next _ _ hup)
    | skip => exact turn_go (sR_none ho hw hk' hnd hr) (calm_listed hev) (next _ _ hup)
    | defer dd =>
      have hK : K (Act.put { tmps := a.tmps, defers := dd :: a.defers } o.dst undef) w' := hup; refine turn_go (g' := G (b.atR ({ a with defers := dd :: a.defers }.put o.dst undef) (.inRegion ops rest :: k)) cs) (w' := w') (es := listed P b.fn a o (w.at d)) ?_ (calm_listed hev) (next _ _ hK); have h1 : (b.kind == CallKind.early) = false := by simpa using hk'
      have h2 : ({ b.atR a (.inRegion ops (i :: rest) :: k) with defers := dd :: a.defers } : Frame).finish undef = b.atR ({ a with defers := dd :: a.defers }.put o.dst undef) (.inRegion ops rest :: k) := by
        have := Frame.finish_atR b { a with defers := dd :: a.defers } ops i rest k undef; rw [ho] at this; exact this
      rw [sR_oper ho hw hnd, ← h2]
      simp [stepG.apply, hr, G, Frame.atR, h1, GStep.after, listed]
    | enter f args =>
      refine turn_go (sR_enter ho hw hk' hnd hr) (calm_listed hev) (hup _ _ (fun fr v w'' hfr hK hl => ?_) fun fr ch w'' hD hp => ?_)
      · refine co_leave hl ?_
        rw [fin_at ho]; exact next _ _ hK
      · exact co_die hp (dies _ _ hD)
    | round l f tmps assign body =>
      refine turn_go (sR_round ho hw hk' hnd hr) (calm_listed hev) (hup _ _ _ fun v w'' hK => ?_); rw [fin_at ho]; exact next _ _ hK
    | comm cases bl sh =>
      have hst := sR_comm (P := P) (main := true) (b := b) (a := a) (k := k) (cs := cs) (rest := rest) ho hw hk' hnd hr
      rcases hup with ⟨c, v, z, cap, buf, s, r, tm, rfl, rfl, hc, hroom, hK⟩ | ⟨c, z, ok, cap, buf, cl, s, r, tm, rfl, rfl, hc, hsome, hK⟩
      · refine turn_comm (acts := [.send c s, .sendDone c s]) hst (calm_listed hev) (by simp [MemAct.touch?]) (fun rest gs hn => comm_send hn hc hroom) ?_
        rw [fin_at ho]; exact next _ _ hK
      · refine turn_comm (acts := [.recv c r cap, .recvDone c r]) hst (calm_listed hev) (by simp [MemAct.touch?]) (fun rest gs hn => comm_recv hn hc hsome) ?_
        rw [fin_at ho]; exact next _ _ hK
    | _ => exact hup.elim
theorem co_op_skip {ops : Array Oper} {i : Nat} {rest : List Nat} {o : Oper} (ho : ops[i]? = some o) (hw : Region.wanted o (yielded ops a.tmps) = false)
    (next : Co P (G (b.atR (a.put o.dst undef) (.inRegion ops rest :: k)) cs) w Goal) : Co P (G (b.atR a (.inRegion ops (i :: rest) :: k)) cs) w Goal :=
  co_ctl rfl (fun w => sR_unwanted ho hw) next
theorem co_op_none {ops : Array Oper} {i : Nat} {rest : List Nat} (ho : ops[i]? = none) (next : Co P (G (b.atR a (.inRegion ops rest :: k)) cs) w Goal) : Co P (G (b.atR a (.inRegion ops (i :: rest) :: k)) cs) w Goal := by
  refine co_ctl (g' := G (b.atR a (.inRegion ops rest :: k)) cs) rfl (fun w => ?_) next
  have hfin : (b.atR a (.inRegion ops (i :: rest) :: k)).finish undef = b.atR a (.inRegion ops rest :: k) := by rw [Frame.finish_atR, ho]; rfl
  rw [← hfin]
  simp [G, stepG, stepG.exec, Frame.atR, ho]
/-! ### Lists of operations -/
def wpO (P : Program) (ops : Array Oper) (Q : Exit → Act → World → Prop) (i : Nat) (K : Act → World → Prop) (a : Act) (w : World) : Prop :=
  match ops[i]? with
  | none => K a w
  | some o => if Region.wanted o (yielded ops a.tmps) then owp P o a w K Q else K (a.put o.dst undef) w
theorem wpO_mono {ops : Array Oper} {Q : Exit → Act → World → Prop} {i : Nat} {K K' : Act → World → Prop} (h : ∀ a w, K a w → K' a w) (hh : wpO P ops Q i K a w) : wpO P ops Q i K' a w := by
  unfold wpO at *
  split
  · rename_i ho; simp only [ho] at hh; exact h _ _ hh
  · rename_i o ho
    simp only [ho] at hh
    split
    · rename_i hw; rw [if_pos hw] at hh; exact owp_mono h hh
    · rename_i hw; rw [if_neg hw] at hh; exact h _ _ hh
def wpI (P : Program) (ops : Array Oper) (Q : Exit → Act → World → Prop) : List Nat → Act → World → Prop
  | [], a, w => Q .normal a w
  | i :: rest, a, w => wpO P ops Q i (wpI P ops Q rest) a w
def wpL (P : Program) (ops : Array Oper) (Q : Exit → Act → World → Prop) : List Oper → Act → World → Prop
  | [], a, w => Q .normal a w
  | o :: rest, a, w => if Region.wanted o (yielded ops a.tmps) then owp P o a w (wpL P ops Q rest) Q else wpL P ops Q rest (a.put o.dst undef) w
def wpX (P : Program) (md : Region.Mode) (ops : Array Oper) (Q : Exit → Act → World → Prop) : Nat → Array Bool → Act → World → Prop
  | 0, listed, a, w => Region.ready md ops listed = [] ∧ Q .normal a w
  | fuel + 1, listed, a, w =>
    (Region.ready md ops listed = [] → Q .normal a w) ∧
    ∀ i ∈ Region.ready md ops listed, wpO P ops Q i (wpX P md ops Q fuel (listed.setIfInBounds i true)) a w
theorem wpX_sound {md : Region.Mode} {ops : Array Oper} {Q : Exit → Act → World → Prop} : ∀ (fuel t : Nat) (listed : Array Bool) (a : Act) (w : World), wpX P md ops Q fuel listed a w →
    wpI P ops Q (Region.linearise.go md ops fuel t listed []) a w := by
  intro fuel
  induction fuel with
  | zero => intro t listed a w h; simpa [Region.linearise.go, wpI] using h.2
  | succ fuel ih =>
    intro t listed a w h; obtain ⟨h₀, h₁⟩ := h; simp only [Region.linearise.go]
    change wpI P ops Q (match (Region.ready md ops listed)[t % (Region.ready md ops listed).length]? with
      | some i => Region.linearise.go md ops fuel (t / (Region.ready md ops listed).length) (listed.setIfInBounds i true) [i]
      | none => [].reverse) a w
    cases hi : (Region.ready md ops listed)[t % (Region.ready md ops listed).length]? with
    | none =>
      have hnil : Region.ready md ops listed = [] := by
        cases hr : Region.ready md ops listed with
        | nil => rfl
        | cons x xs =>
          rw [hr] at hi; have hlt : t % (x :: xs).length < (x :: xs).length := Nat.mod_lt _ (by simp)
          simp at hi
          simp at hlt
          omega
      simpa [wpI] using h₀ hnil
    | some i =>
      simp only []; rw [linearise_go_acc, List.reverse_singleton, List.singleton_append]; exact wpO_mono (fun a w => ih _ _ a w) (h₁ i (List.mem_of_getElem? hi))
theorem wpL_I {ops : Array Oper} {Q : Exit → Act → World → Prop} : ∀ (l : List Oper) (i : Nat) (a : Act) (w : World), ops.toList.drop i = l → wpL P ops Q l a w → wpI P ops Q (List.range' i l.length) a w
  | [], i, a, w, _, h => h
  | o :: l, i, a, w, hl, h => by
    have ho : ops[i]? = some o := by
      rw [← Array.getElem?_toList, ← List.head?_drop, hl]; rfl
    have hl' : ops.toList.drop (i + 1) = l := by rw [← List.tail_drop, hl]; rfl
    rw [List.length_cons, List.range'_succ]; show wpO P ops Q i (wpI P ops Q (List.range' (i + 1) l.length)) a w; unfold wpO; simp only [ho]; unfold wpL at h
    split
    · rename_i hw; rw [if_pos hw] at h; exact owp_mono (fun a w h => wpL_I l (i + 1) a w hl' h) h
    · rename_i hw; rw [if_neg hw] at h; exact wpL_I l (i + 1) _ w hl' h
/-! ### Code -/
def Conts (P : Program) (b : Frame) (k : List Item) (cs : List Frame) (Goal : Goroutine → World → Prop) : Exit → Act → World → Prop
  | .normal, a, w => Co P (G (b.atR a k) cs) w Goal
  | .exit id, a, w => ∀ k₁, exitTo id k₁ = exitTo id k → Co P (G (b.atR a (.code (.exit id) :: k₁)) cs) w Goal
  | .goto l, a, w => ∀ k₁, gotoIn l k₁ = gotoIn l k → Co P (G (b.atR a (.code (.goto l) :: k₁)) cs) w Goal
  | .ret, a, w => ∀ k₁, Co P (G (b.atR a (.code .ret :: k₁)) cs) w Goal
  | .panic ch, a, w => ∀ k₁, Co P (G ((b.atR a k₁).raise ch) cs) w Goal
  | .outgrown, _, _ => True
def cwp (rd : Option Nat) (P : Program) (code : Code) (Q : Exit → Act → World → Prop) (a : Act) (w : World) : Prop :=
  ∀ (b : Frame) (k : List Item) (cs : List Frame) (Goal : Goroutine → World → Prop), b.kind ≠ .early → (b.roundOf = rd ∧ (rd = none ∨ nd code = true)) → (∀ e a' w', Q e a' w' → Conts P b k cs Goal e a' w') → Co P (G (b.atR a (.code code :: k)) cs) w Goal
variable {Q Q' : Exit → Act → World → Prop} {rd : Option Nat}
theorem ok_l {x y : Code} (h : b.roundOf = rd ∧ (rd = none ∨ nd (.seq x y) = true)) : b.roundOf = rd ∧ (rd = none ∨ nd x = true) := ⟨h.1, h.2.imp id fun h => by simp [nd] at h; exact h.1⟩
theorem ok_r {x y : Code} (h : b.roundOf = rd ∧ (rd = none ∨ nd (.seq x y) = true)) : b.roundOf = rd ∧ (rd = none ∨ nd y = true) := ⟨h.1, h.2.imp id fun h => by simp [nd] at h; exact h.2⟩
theorem ok_c {c : Operand} {x y : Code} {t : Bool} (h : b.roundOf = rd ∧ (rd = none ∨ nd (.cond c x y) = true)) : b.roundOf = rd ∧ (rd = none ∨ nd (if t then x else y) = true) := ⟨h.1, h.2.imp id fun h => by
  simp [nd] at h
  cases t
  · exact h.2
  · exact h.1⟩
theorem ok_ops {id : Nat} {ops : Array Oper} {dr : Bool} (h : b.roundOf = rd ∧ (rd = none ∨ nd (.region id ops dr) = true)) : b.roundOf = none ∨ ops.all notDef = true := h.2.imp (fun e => h.1.trans e) fun h => h
theorem cwp_mono {c : Code} (h : cwp rd P c Q a w) (hq : ∀ e a w, Q e a w → Q' e a w) : cwp rd P c Q' a w := fun b k cs Goal hk ho hc => h b k cs Goal hk ho fun e a' w' hh => hc e a' w' (hq _ _ _ hh)
theorem cwp_skip (h : Q .normal a w) : cwp rd P .skip Q a w := fun b k cs Goal hk ho hc => co_ctl rfl (fun _ => sR_skip) (hc .normal a w h)
theorem cwp_label {l : Nat} (h : Q .normal a w) : cwp rd P (.label l) Q a w := fun b k cs Goal hk ho hc => co_ctl rfl (fun _ => sR_label) (hc .normal a w h)
theorem cwp_exit {id : Nat} (h : Q (.exit id) a w) : cwp rd P (.exit id) Q a w := fun b k cs Goal hk ho hc => hc (.exit id) a w h k rfl
theorem cwp_ret (h : Q .ret a w) : cwp rd P .ret Q a w := fun b k cs Goal hk ho hc => hc .ret a w h k
theorem cwp_seq {x y : Code} (h : cwp rd P x (Exit.then (cwp rd P y Q) Q) a w) : cwp rd P (.seq x y) Q a w := fun b k cs Goal hk ho hc =>
  co_ctl rfl (fun _ => sR_seq) (h b (.code y :: k) cs Goal hk (ok_l ho) fun e a' w' hq => by
    cases e with
    | normal => exact hq b k cs Goal hk (ok_r ho) hc
    | exit id => exact fun k₁ h1 => hc (.exit id) a' w' hq k₁ (h1.trans (by simp [exitTo]))
    | goto l => exact fun k₁ h1 => hc (.goto l) a' w' hq k₁ (h1.trans (by simp [gotoIn]))
    | ret => exact hc .ret a' w' hq
    | panic ch => exact hc (.panic ch) a' w' hq
    | outgrown => trivial)
theorem cwp_cond {c : Operand} {x y : Code} {t : Bool} (hc : a.eval c = .bool t) (h : cwp rd P (if t then x else y) Q a w) : cwp rd P (.cond c x y) Q a w := fun b k cs Goal hk ho hq =>
  co_ctl rfl (fun _ => sR_cond hc) (h b k cs Goal hk (ok_c ho) hq)
theorem cwp_cond_split {c : Operand} {x y : Code} {t : Bool} (hc : a.eval c = .bool t) (ht : t = true → cwp rd P x Q a w) (hf : t = false → cwp rd P y Q a w) : cwp rd P (.cond c x y) Q a w := by
  cases t
  · exact cwp_cond hc (hf rfl)
  · exact cwp_cond hc (ht rfl)
theorem cwp_block {id : Nat} {c : Code} (h : cwp rd P c (Exit.inBlock id Q) a w) : cwp rd P (.block id c) Q a w := fun b k cs Goal hk ho hc =>
  co_ctl rfl (fun _ => sR_block) (h b (.inBlock id :: k) cs Goal hk ho fun e a' w' hq => by
    cases e with
    | normal => exact co_ctl rfl (fun _ => sR_inBlock) (hc .normal a' w' hq)
    | exit id' =>
      intro k₁ h1
      by_cases hid : id' = id
      · subst hid
        simp only [Exit.inBlock, if_true] at hq; refine co_ctl rfl (fun _ => sR_exit (h1.trans (show exitTo id' (.inBlock id' :: k) = some k by simp [exitTo]))) (hc .normal a' w' hq)
      · simp only [Exit.inBlock, hid, if_false] at hq
        have : (id == id') = false := by simp; exact fun h => hid h.symm
        exact hc (.exit id') a' w' hq k₁ (h1.trans (by simp [exitTo, this]))
    | goto l => exact fun k₁ h1 => hc (.goto l) a' w' hq k₁ (h1.trans (by simp [gotoIn]))
    | ret => exact hc .ret a' w' hq
    | panic ch => exact hc (.panic ch) a' w' hq
    | outgrown => trivial)
theorem cwp_loop {c : Code} (I : Nat → Act → World → Prop) (m₀ : Nat) (h₀ : I m₀ a w) (round : ∀ m a w, I m a w → cwp rd P c (Exit.then (fun a' w' => ∃ m', m' < m ∧ I m' a' w') Q) a w) : cwp rd P (.loop c) Q a w := fun b k cs Goal hk ho hc => by
  refine co_ctl rfl (fun _ => sR_loop) ?_
  have key : ∀ n m a w, m = n → I m a w → Co P (G (b.atR a (.code c :: .inLoop c :: k)) cs) w Goal := by
    intro n
    induction n using Nat.strongRecOn with
    | _ n ih =>
      rintro m a w rfl hI; refine round m a w hI b (.inLoop c :: k) cs Goal hk ho fun e a' w' hq => ?_
      cases e with
      | normal =>
        obtain ⟨m', hlt, hI'⟩ := hq; exact co_ctl rfl (fun _ => sR_inLoop) (ih m' hlt m' a' w' rfl hI')
      | exit id => exact fun k₁ h1 => hc (.exit id) a' w' hq k₁ (h1.trans (by simp [exitTo]))
      | goto l => exact fun k₁ h1 => hc (.goto l) a' w' hq k₁ (h1.trans (by simp [gotoIn]))
      | ret => exact hc .ret a' w' hq
      | panic ch => exact hc (.panic ch) a' w' hq
      | outgrown => trivial
  exact key _ _ a w rfl h₀
def inScope (l : Nat) (J : Act → World → Prop) (Q : Exit → Act → World → Prop) : Exit → Act → World → Prop
  | .goto l', a, w => l' = l ∧ J a w
  | e, a, w => Q e a w
theorem cwp_scope0 {body : Code} (h : cwp rd P body (fun e a w => (∀ l, e ≠ .goto l) ∧ Q e a w) a w) : cwp rd P (.scope body) Q a w := fun b k cs Goal hk ho hc => by
  refine co_ctl rfl (fun _ => sR_scope) (h b (.inScope body :: k) cs Goal hk ho fun e a' w' hq => ?_)
  cases e with
  | normal => exact co_ctl rfl (fun _ => sR_inScope) (hc .normal a' w' hq.2)
  | exit id => exact fun k₁ h1 => hc (.exit id) a' w' hq.2 k₁ (h1.trans (by simp [exitTo]))
  | goto l' => exact (hq.1 l' rfl).elim
  | ret => exact hc .ret a' w' hq.2
  | panic ch => exact hc (.panic ch) a' w' hq.2
  | outgrown => trivial
theorem co_idx {ops : Array Oper} (hk : b.kind ≠ .early) (hno : b.roundOf = none ∨ ops.all notDef = true) (hc : ∀ e a' w', Q e a' w' → Conts P b k cs Goal e a' w') : ∀ (l : List Nat) (a : Act) (w : World), wpI P ops Q l a w → Co P (G (b.atR a (.inRegion ops l :: k)) cs) w Goal
  | [], a, w, h => co_ctl rfl (fun _ => sR_region_end) (hc .normal a w h)
  | i :: rest, a, w, h => by
    have h' : wpO P ops Q i (wpI P ops Q rest) a w := h; unfold wpO at h'
    cases ho : ops[i]? with
    | none => rw [ho] at h'; exact co_op_none ho (co_idx hk hno hc rest a w h')
    | some o =>
      rw [ho] at h'; simp only at h'
      by_cases hw : Region.wanted o (yielded ops a.tmps) = true
      · rw [if_pos hw] at h'
        exact co_op hk (hno.imp id fun h => by
          rw [Array.all_eq_true_iff_forall_mem] at h
          exact h o (Array.mem_of_getElem? ho)) ho hw h' (fun a' w' hh => co_idx hk hno hc rest a' w' hh) fun ch w' hq => hc (.panic ch) a w' hq _
      · rw [if_neg hw] at h'
        exact co_op_skip ho (by simpa using hw) (co_idx hk hno hc rest _ w h')
theorem cwp_region {id : Nat} {l : List Oper} (h : wpL P l.toArray Q l a w) : cwp rd P (.region id l.toArray false) Q a w := fun b k cs Goal hk ho hc => by
  refine co_ctl rfl (fun _ => sR_region) (co_idx hk (ok_ops ho) hc _ a w ?_); have e : List.range l.toArray.size = List.range' 0 l.length := by simp [List.range_eq_range']
  rw [e]; exact wpL_I l 0 a w rfl h
theorem cwp_region_any {id : Nat} {ops : Array Oper} (hm : P.follows .mixedOrders = true) (h : ∀ d, wpX P .any ops Q ops.size (Array.replicate ops.size false) a (w.at d)) : cwp rd P (.region id ops true) Q a w := fun b k cs Goal hk ho hc => by
  refine co_step rfl fun d => ⟨_, _, #[], sR_region_draw, by simp, ?_⟩; simp only [Region.schedule, hm, Bool.true_or, if_true]; exact co_idx hk (ok_ops ho) hc _ a _ (wpX_sound ops.size _ _ a _ (h (d + 1)))
/-! ### A function's body -/
def postB (P : Program) (fn : Func) (R : Value → World → Prop) : Exit → Act → World → Prop
  | .normal, a, w | .ret, a, w => a.defers = [] ∧ ∃ v, (∀ d, (results fn a.tmps).run P (w.at d) = .ok v (w.at d)) ∧ R v w
  | _, _, _ => False
theorem callsB_of {f : FuncId} {fn : Func} {c : Code} {args : Array Value} {R : Value → World → Prop} (hf : P.funcs[f]? = some fn) (hb : fn.body = some c)
    (h : cwp none P c (postB P fn R) { tmps := args ++ Array.replicate (fn.ntmps - args.size) undef, defers := [] } w) : CallsB P f args w R := by
  intro cs Goal hk; rw [enter_at args hf hb, ← Frame.atR_of_none (b := base f) rfl]; refine h (base f) [] cs Goal (by simp [base]) ⟨rfl, .inl rfl⟩ fun e a' w' hq => ?_
  cases e with
  | normal =>
    obtain ⟨hd, v, hr, hR⟩ := hq; exact co_ctl rfl (fun _ => stepG_end) (hk _ v w' rfl hR ⟨rfl, hd, rfl, fn, hf, hr⟩)
  | ret =>
    obtain ⟨hd, v, hr, hR⟩ := hq; exact fun k₁ => co_ctl rfl (fun _ => stepG_ret') (hk _ v w' rfl hR ⟨rfl, hd, rfl, fn, hf, hr⟩)
  | exit id => exact hq.elim
  | goto l => exact hq.elim
  | panic ch => exact hq.elim
  | outgrown => trivial
end
end Go.W
end
section
namespace Go.W
open Go Go.Conc
open Go.ConcN (sumTo upd sumTo_upd upd_ne upd_same)
structure Dh where
  P : Program
  W : World
  o : List Nat
  v : Nat → Nat → Value
  n : Nat → Nat
  z : Value
  BW : Nat
abbrev Hq := List (Nat × Obj)
def Held (hp : Hq) (w : World) : Prop := ∀ q ∈ hp, w.heap[q.1]? = some q.2
def Has (hp : Hq) (k : Nat) : Prop := ∃ q ∈ hp, q.1 = k
structure Sur (p : Dh) (w : World) : Prop where
  os : w.os = p.W.os
  tape : w.tape = p.W.tape
  output : w.output = p.W.output
  size : p.W.heap.size ≤ w.heap.size
  block : ∀ k, k < p.W.heap.size → k ∉ p.o → w.heap[k]? = p.W.heap[k]?
def blk : Loc → Option Nat
  | .cell a => some a.block
  | .obj r => some r
  | _ => none
theorem blk_mem {l : Loc} (h : l.isMemory = true) : ∃ k, blk l = some k := by
  cases l <;> first | exact ⟨_, rfl⟩ | cases h
def RdT (p : Dh) (ro : Hq) (k : Nat) : Prop := (k < p.W.heap.size ∧ k ∉ p.o) ∨ Has ro k
def EvIn (p : Dh) (ro hp : Hq) (e : Event) : Prop :=
  Calm e ∧ ∀ x, (MemAct.ofEvent e).touch? = some x → x.loc.isMemory = true → ∀ k, blk x.loc = some k → (x.write = false ∧ RdT p ro k) ∨ Has hp k
structure Trn (w w' : World) (hp hp' : Hq) : Prop where
  os : w'.os = w.os
  tape : w'.tape = w.tape
  output : w'.output = w.output
  size : w.heap.size ≤ w'.heap.size
  keep : ∀ k, k < w.heap.size → ¬ Has hp k → w'.heap[k]? = w.heap[k]?
  held : Held hp' w'
  new : ∀ q ∈ hp', Has hp q.1 ∨ w.heap.size ≤ q.1
def FolS (p : Dh) (j c : Nat) (ro : Hq) : Nat → Nat → Frame → List Frame → Hq → Prop
  | 0, _, _, _, _ => False
  | B + 1, i, fr, cs, hp => ∀ w, Sur p w → Held hp w → Held ro w →
      (∃ fr' cs' w' es hp', stepG p.P false (G fr cs) w = .go (G fr' cs') w' es ∧ (∀ e ∈ es, EvIn p ro hp e) ∧ Trn w w' hp hp' ∧ FolS p j c ro B i fr' cs' hp') ∨
      (i < p.n j ∧ ∃ zz, stepG p.P false (G fr cs) w = .comm (G fr cs) #[scase c (p.v j i) zz] true .send w #[] ∧ FolS p j c ro B (i + 1) (fr.finish undef) cs hp) ∨
      (i = p.n j ∧ mayWake p.P (G fr cs) = true ∧ ∃ fr' cs', (∀ s tm, w.heap[c]? = some (.chan 0 #[] false s s tm) → stepG p.P false (G fr cs) w = .go (G fr' cs') (w.setChan c 0 #[] true s s tm) (closeEvents c)) ∧ QuitsD p.P B 0 (G fr' cs'))
inductive Ms where
  | s0
  | s1 (c : Nat)
  | ga (c d : Nat) (i j : Nat) (a b : Bool)
def selc (a : Bool) (c : Nat) (z : Value) : CommCase := if a = true then { chan := .chan none, send := none, zero := z } else rcase c z
def FolM (p : Dh) (Goal : Goroutine → World → Prop) : Nat → Ms → Hq → Frame → List Frame → Hq → Prop
  | 0, _, _, _, _, _ => False
  | B + 1, ms, ro, fr, cs, hp => ∀ w, Sur p w → Held hp w → Held ro w →
      (∃ fr' cs' w' es hp', stepG p.P true (G fr cs) w = .go (G fr' cs') w' es ∧ (∀ e ∈ es, EvIn p ro hp e) ∧ Trn w w' hp hp' ∧ FolM p Goal B ms ro fr' cs' hp') ∨
      (match ms with
       | .s0 => ∃ fr' cs' fc c tm r1 h2, stepG p.P true (G fr cs) w = .spawn (G fr' cs') (G fc []) w #[] ∧
           (c, Obj.chan 0 #[] false 0 0 tm) ∈ hp ∧ (∀ q ∈ r1, q ∈ hp) ∧ (∀ q ∈ h2, q ∈ hp) ∧ (∀ k, Has r1 k → ¬ Has h2 k) ∧ ¬ Has r1 c ∧ ¬ Has h2 c ∧
           FolS p 0 c (r1 ++ ro) p.BW 0 fc [] [] ∧ FolM p Goal B (.s1 c) (r1 ++ ro) fr' cs' h2
       | .s1 c0 => ∃ fr' cs' fc c tm r1 h2, stepG p.P true (G fr cs) w = .spawn (G fr' cs') (G fc []) w #[] ∧
           (c, Obj.chan 0 #[] false 0 0 tm) ∈ hp ∧ (∀ q ∈ r1, q ∈ hp) ∧ (∀ q ∈ h2, q ∈ hp) ∧ (∀ k, Has r1 k → ¬ Has h2 k) ∧ ¬ Has r1 c ∧ ¬ Has h2 c ∧
           FolS p 1 c (r1 ++ ro) p.BW 0 fc [] [] ∧ FolM p Goal B (.ga c0 c 0 0 false false) (r1 ++ ro) fr' cs' h2
       | .ga c d i j a b => stepG p.P true (G fr cs) w = .comm (G fr cs) #[selc a c p.z, selc b d p.z] true .select w #[] ∧
           (a = false → i < p.n 0 → FolM p Goal B (.ga c d (i + 1) j a b) ro (fr.finish (.tuple #[goInt 0, .bool true, p.v 0 i, p.z])) cs hp) ∧
           (b = false → j < p.n 1 → FolM p Goal B (.ga c d i (j + 1) a b) ro (fr.finish (.tuple #[goInt 1, .bool true, p.z, p.v 1 j])) cs hp) ∧
           (a = false → i = p.n 0 → b = false → FolM p Goal B (.ga c d i j true b) ro (fr.finish (.tuple #[goInt 0, .bool false, p.z, p.z])) cs hp) ∧
           (b = false → j = p.n 1 → a = false → FolM p Goal B (.ga c d i j a true) ro (fr.finish (.tuple #[goInt 1, .bool false, p.z, p.z])) cs hp) ∧
           (a = false → i = p.n 0 → b = true → j = p.n 1 → ∀ w', Sur p w' → Held hp w' → Held ro w' → Co p.P (G (fr.finish (.tuple #[goInt 0, .bool false, p.z, p.z])) cs) w' Goal) ∧
           (b = false → j = p.n 1 → a = true → i = p.n 0 → ∀ w', Sur p w' → Held hp w' → Held ro w' → Co p.P (G (fr.finish (.tuple #[goInt 1, .bool false, p.z, p.z])) cs) w' Goal))
/-! ### The trace -/
structure TV (t : Trace) (τ n : Nat) (own rdb : Nat → Nat → Prop) (live : Nat → Prop) : Prop where
  τle : τ ≤ t.size
  clean : ∀ said, ¬ Race said t
  pre : ∀ g, live g → ∀ i a, i < τ → touchAt t i = some a → a.loc.isMemory = true → Knows t g i
  own_ : ∀ g k, own g k → ∀ i a, τ ≤ i → touchAt t i = some a → blk a.loc = some k → Knows t g i
  rd : ∀ g k, rdb g k → ∀ i a, τ ≤ i → touchAt t i = some a → a.write = true → blk a.loc = some k → Knows t g i
  low : ∀ i a k, τ ≤ i → touchAt t i = some a → blk a.loc = some k → k < n
  hears : ∀ g, live g → Deaf t g = 0
def Mild (u : Trace) : Prop := ∀ op ∈ u, op.act.touch? = none ∧ op.act ≠ .mark .disable ∧ op.act ≠ .mark .enable
theorem deaf_mild {t u : Trace} (hu : ∀ op ∈ u, op.act ≠ .mark .disable ∧ op.act ≠ .mark .enable) (g : Nat) : Deaf (t ++ u) g = Deaf t g := by
  obtain ⟨l⟩ := u; rw [Deaf_append]
  have : ∀ (l : List MemOp) d, (∀ op ∈ l, op.act ≠ .mark .disable ∧ op.act ≠ .mark .enable) → l.foldl (deafStep g) d = d := by
    intro l
    induction l with
    | nil => intro d _; rfl
    | cons y l ih =>
      intro d hl; have hy := hl y (by simp)
      have e1 : deafStep g d y = d := by
        unfold deafStep
        split
        · rename_i h1; exact absurd h1 hy.1
        · rename_i h1; exact absurd h1 hy.2
        · rfl
      rw [List.foldl_cons, e1]; exact ih d fun op hop => hl op (by simp [hop])
  exact this l _ fun op hop => hu op (by simpa using hop)
section
variable {t u : Trace} {τ n : Nat} {own rdb : Nat → Nat → Prop} {live : Nat → Prop}
theorem touch_app {i : Nat} {a : Touch} (ha : touchAt (t ++ u) i = some a) : (i < t.size ∧ touchAt t i = some a) ∨ (t.size ≤ i ∧ ∃ op ∈ u, (t ++ u)[i]? = some op ∧ op.act.touch? = some a) := by
  obtain ⟨x, hx, hxa⟩ := touch_of ha
  rcases getElem?_append_cases hx with ⟨hi, hx'⟩ | ⟨hi, hxu⟩
  · exact .inl ⟨hi, by rw [touchAt_of hx']; exact hxa⟩
  · exact .inr ⟨hi, x, hxu, hx, hxa⟩
theorem TV.step (h : TV t τ n own rdb live) {g n' : Nat} (hg : live g) (hn : n ≤ n') (hu : ∀ op ∈ u, op.g = g) (hm : ∀ op ∈ u, op.act ≠ .mark .disable ∧ op.act ≠ .mark .enable)
    (hx : ∀ op ∈ u, ∀ x, op.act.touch? = some x → x.loc.isMemory = true → ∀ k, blk x.loc = some k → (x.write = false ∧ rdb g k) ∨ own g k)
    (d1 : ∀ g' k, own g k → own g' k → g = g') (d2 : ∀ g' g'' k, own g' k → ¬ rdb g'' k) (d3 : ∀ k, own g k ∨ rdb g k → k < n') : TV (t ++ u) τ n' own rdb live := by
  have hmem : ∀ op ∈ u, ∀ x k, op.act.touch? = some x → blk x.loc = some k → (x.write = false ∧ rdb g k) ∨ own g k := by
    intro op hop x k h1 h2; refine hx op hop x h1 ?_ k h2
    cases hl : x.loc <;> rw [hl] at h2 <;> first | rfl | cases h2
  refine ⟨by simp; have := h.τle; omega, fun said => noRace_append (h.clean said) hu fun i a ha op hop b hb hc => ?_, fun g' hg' i a hi ha hmm => ?_, fun g' k ho i a hi ha hb => ?_, fun g' k ho i a hi ha hw hb => ?_, fun i a k hi ha hb => ?_, fun g' hg' => ?_⟩
  · obtain ⟨e1, e2, e3, _⟩ := hc
    obtain ⟨k, hk⟩ := blk_mem e2; have hkb : blk b.loc = some k := by rw [← e1]; exact hk
    by_cases hiτ : i < τ
    · exact h.pre g hg i a hiτ ha e2
    · rcases hmem op hop b k hb hkb with ⟨hw, hr⟩ | ho
      · rcases e3 with e3 | e3
        · exact h.rd g k hr i a (by omega) ha e3 hk
        · rw [hw] at e3; cases e3
      · exact h.own_ g k ho i a (by omega) ha hk
  · rcases touch_app ha with ⟨_, ha'⟩ | ⟨hi', _⟩
    · exact (h.pre g' hg' i a hi ha' hmm).app u
    · have := h.τle; omega
  · rcases touch_app ha with ⟨_, ha'⟩ | ⟨hi', op, hop, hat, hoa⟩
    · exact (h.own_ g' k ho i a hi ha' hb).app u
    · rcases hmem op hop a k hoa hb with ⟨_, hr⟩ | ho'
      · exact absurd hr (d2 g' g k ho)
      · obtain rfl := d1 g' k ho' ho
        have := knows_own hat
        rwa [hu op hop] at this
  · rcases touch_app ha with ⟨_, ha'⟩ | ⟨hi', op, hop, hat, hoa⟩
    · exact (h.rd g' k ho i a hi ha' hw hb).app u
    · rcases hmem op hop a k hoa hb with ⟨hw', _⟩ | ho'
      · rw [hw] at hw'; cases hw'
      · exact absurd ho (d2 g g' k ho')
  · rcases touch_app ha with ⟨_, ha'⟩ | ⟨hi', op, hop, hat, hoa⟩
    · have := h.low i a k hi ha' hb; omega
    · rcases hmem op hop a k hoa hb with ⟨_, hr⟩ | ho'
      · have := d3 k (.inr hr); omega
      · have := d3 k (.inl ho'); omega
  · rw [deaf_mild hm]; exact h.hears g' hg'
theorem TV.mild (h : TV t τ n own rdb live) (hu : Mild u) : TV (t ++ u) τ n own rdb live := by
  have no : ∀ op ∈ u, ∀ a, op.act.touch? = some a → False := fun op hop a ha => by rw [(hu op hop).1] at ha; cases ha
  refine ⟨by simp; have := h.τle; omega, fun said => ?_, fun g' hg' i a hi ha hmm => ?_, fun g' k ho i a hi ha hb => ?_, fun g' k ho i a hi ha hw hb => ?_, fun i a k hi ha hb => ?_, fun g' hg' => ?_⟩
  · rintro ⟨i, j, hij, ⟨a, b, ha, hb, hc⟩, n1, n2⟩
    rcases touch_app (show touchAt (t ++ u) i = some a from ha) with ⟨hi, ha'⟩ | ⟨_, op, hop, _, hoa⟩
    · rcases touch_app (show touchAt (t ++ u) j = some b from hb) with ⟨hj, hb'⟩ | ⟨_, op, hop, _, hoa⟩
      · exact h.clean said ⟨i, j, hij, ⟨a, b, ha', hb', hc⟩, fun e => n1 (hb_app u e), fun e => n2 (hb_app u e)⟩
      · exact no op hop _ hoa
    · exact no op hop _ hoa
  · rcases touch_app ha with ⟨_, ha'⟩ | ⟨_, op, hop, _, hoa⟩
    · exact (h.pre g' hg' i a hi ha' hmm).app u
    · exact (no op hop _ hoa).elim
  · rcases touch_app ha with ⟨_, ha'⟩ | ⟨_, op, hop, _, hoa⟩
    · exact (h.own_ g' k ho i a hi ha' hb).app u
    · exact (no op hop _ hoa).elim
  · rcases touch_app ha with ⟨_, ha'⟩ | ⟨_, op, hop, _, hoa⟩
    · exact (h.rd g' k ho i a hi ha' hw hb).app u
    · exact (no op hop _ hoa).elim
  · rcases touch_app ha with ⟨_, ha'⟩ | ⟨_, op, hop, _, hoa⟩
    · exact h.low i a k hi ha' hb
    · exact (no op hop _ hoa).elim
  · rw [deaf_mild fun op hop => (hu op hop).2]; exact h.hears g' hg'
theorem TV.weak {own' rdb' : Nat → Nat → Prop} {live' : Nat → Prop} {n' : Nat} (h : TV t τ n own rdb live) (ho : ∀ g k, own' g k → own g k) (hr : ∀ g k, rdb' g k → rdb g k) (hl : ∀ g, live' g → live g) (hn : n ≤ n') : TV t τ n' own' rdb' live' :=
  ⟨h.τle, h.clean, fun g hg => h.pre g (hl g hg), fun g k hk => h.own_ g k (ho g k hk), fun g k hk => h.rd g k (hr g k hk), fun i a k a1 a2 a3 => Nat.lt_of_lt_of_le (h.low i a k a1 a2 a3) hn, fun g hg => h.hears g (hl g hg)⟩
theorem TV.fresh {own' : Nat → Nat → Prop} (h : TV t τ n own rdb live) (ho : ∀ g k, own' g k → own g k ∨ n ≤ k) : TV t τ n own' rdb live :=
  ⟨h.τle, h.clean, h.pre, fun g k hk i a hi ha hb => (ho g k hk).elim (fun h1 => h.own_ g k h1 i a hi ha hb) (fun h1 => by have := h.low i a k hi ha hb; omega), h.rd, h.low, h.hears⟩
theorem heard_of {g i : Nat} {op : MemOp} (hop : t[i]? = some op) (hg : op.g = g) (h : t.deaf g i = 0) : t.heard i := ⟨g, by simp [Trace.g?, hop, hg], h⟩
theorem deaf_at {g : Nat} (hd : Deaf t g = 0) (hu : ∀ op ∈ u, op.act ≠ .mark .disable ∧ op.act ≠ .mark .enable) {i : Nat} (h1 : t.size ≤ i) (h2 : i ≤ (t ++ u).size) : (t ++ u).deaf g i = 0 := by
  have e : (t ++ u).deaf g i = (t ++ u.extract 0 (i - t.size)).deaf g i := by
    have e2 : t ++ u = (t ++ u.extract 0 (i - t.size)) ++ u.extract (i - t.size) u.size := by
      rw [Array.append_assoc, Array.extract_append_extract]; have : max (i - t.size) u.size = u.size := by simp at h2; omega
      simp [this]
    rw [e2, deaf_old]
    simp at h2 ⊢
    omega
  rw [e]; have hs : (t ++ u.extract 0 (i - t.size)).size = i := by simp at h2 ⊢; omega
  have := deaf_mild (t := t) (u := u.extract 0 (i - t.size)) (fun op hop => hu op (by
    obtain ⟨j, hj, rfl⟩ := Array.mem_iff_getElem.1 hop; rw [Array.getElem_extract]
    exact Array.getElem_mem _)) g
  unfold Deaf at this hd; rw [hs] at this; rw [this]; exact hd
end
end Go.W
end
section
namespace Go.W
open Go Go.Conc
open Go.ConcN (sumTo upd sumTo_upd upd_ne upd_same le_sumTo sumTo_congr)
inductive Role where
  | quit (n : Nat)
  | run (B j i c : Nat) (ro : Hq) (fr : Frame) (cs : List Frame) (hp : Hq)
  | park (B j i c : Nat) (ro : Hq) (fr : Frame) (cs : List Frame) (hp : Hq)
inductive Tag where
  | quit | run (j i c : Nat) | park (j i c : Nat)
def Role.tag : Role → Tag
  | .quit _ => .quit | .run _ j i c .. => .run j i c | .park _ j i c .. => .park j i c
def Role.wt : Role → Nat
  | .quit n => 2 * n | .run B .. => 2 * B + 2 | .park B .. => 2 * B + 3
def Role.hp : Role → Hq
  | .quit _ => [] | .run _ _ _ _ _ _ _ hp => hp | .park _ _ _ _ _ _ _ hp => hp
def Role.ro : Role → Hq
  | .quit _ => [] | .run _ _ _ _ ro .. => ro | .park _ _ _ _ ro .. => ro
def RoleOK (p : Dh) (d : Nat) (g : Goroutine) : Role → Prop
  | .quit n => QuitsD p.P n d g
  | .run B j i c ro fr cs hp => d = 0 ∧ g = G fr cs ∧ FolS p j c ro B i fr cs hp
  | .park B j i c ro fr cs hp => d = 0 ∧ (∃ zz, g = parked (G fr cs) #[scase c (p.v j i) zz] .send) ∧ i < p.n j ∧ FolS p j c ro B (i + 1) (fr.finish undef) cs hp
inductive MR where
  | run (B : Nat) (ms : Ms) (ro : Hq) (fr : Frame) (cs : List Frame) (hp : Hq)
  | park (B : Nat) (c d i j : Nat) (a b : Bool) (ro : Hq) (fr : Frame) (cs : List Frame) (hp : Hq)
def MR.wt : MR → Nat
  | .run B .. => 2 * B + 2
  | .park B .. => 2 * B + 3
def MR.hp : MR → Hq
  | .run _ _ _ _ _ hp => hp
  | .park _ _ _ _ _ _ _ _ _ _ hp => hp
def MR.ro : MR → Hq
  | .run _ _ ro .. => ro
  | .park _ _ _ _ _ _ _ ro .. => ro
def MR.st : MR → Ms
  | .run _ ms .. => ms
  | .park _ c d i j a b .. => .ga c d i j a b
def MR.waits : MR → Bool
  | .run .. => false
  | .park .. => true
def Like (g : Goroutine) (fr : Frame) (cs : List Frame) : Prop := g.status = .running ∧ g.frame = fr ∧ g.callers = cs ∧ g.dying = none
theorem Like.step {P : Program} {main : Bool} {g : Goroutine} {fr : Frame} {cs : List Frame} (h : Like g fr cs) (w : World) : stepG P main g w = stepG P main (G fr cs) w := stepG_same h.2.1 h.2.2.1 h.2.2.2 w
def MainOK (p : Dh) (Goal : Goroutine → World → Prop) (g : Goroutine) : MR → Prop
  | .run B ms ro fr cs hp => Like g fr cs ∧ FolM p Goal B ms ro fr cs hp
  | .park B c d i j a b ro fr cs hp => g = parked (G fr cs) #[selc a c p.z, selc b d p.z] .select ∧ FolM p Goal (B + 1) (.ga c d i j a b) ro fr cs hp ∧
      (a = false → i < p.n 0 → FolM p Goal B (.ga c d (i + 1) j a b) ro (fr.finish (.tuple #[goInt 0, .bool true, p.v 0 i, p.z])) cs hp) ∧
      (b = false → j < p.n 1 → FolM p Goal B (.ga c d i (j + 1) a b) ro (fr.finish (.tuple #[goInt 1, .bool true, p.z, p.v 1 j])) cs hp)
def nsp : Ms → Nat
  | .s0 => 0 | .s1 _ => 1 | .ga .. => 2
def ch : Ms → Nat → Nat
  | .s0, _ => 0 | .s1 c, _ => c | .ga c d .., j => if j = 0 then c else d
def rcv : Ms → Nat → Nat
  | .ga _ _ i k _ _, j => if j = 0 then i else k
  | _, _ => 0
def hrd : Ms → Nat → Bool
  | .ga _ _ _ _ a b, j => if j = 0 then a else b
  | _, _ => false
def unb (p : Dh) : Ms → Nat
  | .s0 => 2 * (2 * p.BW + 3) | .s1 _ => 2 * p.BW + 3 | .ga .. => 0
structure Cmb (p : Dh) (m : Nat) (c : Nat → Tag) (st : Ms) (wt : Bool) (cl : Nat → Bool) : Prop where
  m0 : 0 < m
  old : ∀ i, 0 < i → i < m → c i = .quit
  sd : ∀ j, j < nsp st → (c (m + j) = .quit ∧ cl j = true ∧ rcv st j = p.n j) ∨ (cl j = false ∧ hrd st j = false ∧ (c (m + j) = .run j (rcv st j) (ch st j) ∨ c (m + j) = .park j (rcv st j) (ch st j)))
  nb : ¬ (hrd st 0 = true ∧ hrd st 1 = true)
  wt_ : wt = true → ∀ j, j < nsp st → hrd st j = false → cl j = false ∧ c (m + j) = .run j (rcv st j) (ch st j)
def ownOf (M : MR) (ρ : Nat → Role) (g k : Nat) : Prop := (g = 0 ∧ Has M.hp k) ∨ (0 < g ∧ Has (ρ g).hp k)
def rdOf (p : Dh) (M : MR) (ρ : Nat → Role) (g k : Nat) : Prop := (g = 0 ∧ RdT p M.ro k) ∨ (0 < g ∧ RdT p (ρ g).ro k)
def rdx (p : Dh) (m : Nat) (M : MR) (ρ : Nat → Role) (g k : Nat) : Prop := rdOf p M ρ g k ∨ ∃ j, j < nsp M.st ∧ g = m + j ∧ k = ch M.st j
def liveOf (m n : Nat) (ρ : Nat → Role) (g : Nat) : Prop := g = 0 ∨ (m ≤ g ∧ g < n ∧ (ρ g).tag ≠ .quit)
def Root (t : Trace) (live : Nat → Prop) (st : Ms) (cl : Nat → Bool) (q : Nat) : Prop :=
  ∃ op, t[q]? = some op ∧ (live op.g ∨ ∃ j, j < nsp st ∧ op.act = .close (ch st j) ∧ cl j = true ∧ hrd st j = false ∧ t.heard q)
structure InvD (p : Dh) (Goal : Goroutine → World → Prop) (m τ : Nat) (ρ : Nat → Role) (M : MR) (t : Trace) (gs : Array Goroutine) (w : World) (cl : Nat → Bool) : Prop where
  cmb : Cmb p m (fun i => (ρ i).tag) M.st M.waits cl
  size : gs.size = m + nsp M.st
  main : ∃ g, gs[0]? = some g ∧ MainOK p Goal g M
  roles : ∀ i g, 0 < i → gs[i]? = some g → RoleOK p (Deaf t i) g (ρ i)
  chs : ∀ j, j < nsp M.st → ∃ f tm, w.heap[ch M.st j]? = some (.chan 0 #[] (cl j) f f tm)
  chn : ∀ j, j < nsp M.st → ∀ g, ¬ ownOf M ρ g (ch M.st j) ∧ ¬ rdOf p M ρ g (ch M.st j)
  chd : nsp M.st = 2 → ch M.st 0 ≠ ch M.st 1
  env : Sur p w
  heldM : Held M.hp w ∧ Held M.ro w
  held : ∀ i, 0 < i → i < gs.size → Held (ρ i).hp w ∧ Held (ρ i).ro w
  far : ∀ i, gs.size ≤ i → (ρ i).hp = [] ∧ (ρ i).ro = []
  d1 : ∀ g g' k, ownOf M ρ g k → ownOf M ρ g' k → g = g'
  d2 : ∀ g g' k, ownOf M ρ g k → ¬ rdOf p M ρ g' k
  ti : TV t τ w.heap.size (ownOf M ρ) (rdx p m M ρ) (liveOf m gs.size ρ)
  kn : ∀ i a, touchAt t i = some a → a.loc.isMemory = true → ∃ q, Before t i q ∧ Root t (liveOf m gs.size ρ) M.st cl q
  seen : ∃ B, ∀ op ∈ t, op.act.low B
  above : ∀ j, gs.size ≤ j → Deaf t j = 0
def Wt (p : Dh) (n : Nat) (ρ : Nat → Role) (M : MR) : Nat := M.wt + unb p M.st + sumTo n (fun i => if i = 0 then 0 else (ρ i).wt)
section
variable {p : Dh} {Goal : Goroutine → World → Prop} {m τ : Nat} {ρ : Nat → Role} {M : MR} {t u : Trace} {gs : Array Goroutine} {w : World} {cl : Nat → Bool}
theorem Sur.at (h : Sur p w) (d : Nat) : Sur p (w.at d) := ⟨h.os, h.tape, h.output, h.size, h.block⟩
theorem InvD.at (h : InvD p Goal m τ ρ M t gs w cl) (d : Nat) : InvD p Goal m τ ρ M t gs (w.at d) cl :=
  { h with env := h.env.at d, chs := h.chs, heldM := h.heldM, held := h.held, ti := h.ti }
theorem InvD.pos (h : InvD p Goal m τ ρ M t gs w cl) : 0 < gs.size := by rw [h.size]; have := h.cmb.m0; omega
theorem held_lt {hp : Hq} (h : Held hp w) {k : Nat} (hk : Has hp k) : k < w.heap.size := by
  obtain ⟨q, hq, rfl⟩ := hk; have := h q hq
  rcases Nat.lt_or_ge q.1 w.heap.size with h' | h'
  · exact h'
  · rw [Array.getElem?_eq_none h'] at this; cases this
theorem InvD.own_lt (h : InvD p Goal m τ ρ M t gs w cl) {g k : Nat} (ho : ownOf M ρ g k) : k < w.heap.size := by
  rcases ho with ⟨_, hk⟩ | ⟨hg, hk⟩
  · exact held_lt h.heldM.1 hk
  · rcases Nat.lt_or_ge g gs.size with hlt | hge
    · exact held_lt (h.held g hg hlt).1 hk
    · rw [(h.far g hge).1] at hk; obtain ⟨q, hq, _⟩ := hk; cases hq
theorem InvD.rd_lt (h : InvD p Goal m τ ρ M t gs w cl) {g k : Nat} (hr : rdOf p M ρ g k) : k < w.heap.size := by
  rcases hr with ⟨_, hk | hk⟩ | ⟨hg, hk | hk⟩
  · exact Nat.lt_of_lt_of_le hk.1 h.env.size
  · exact held_lt h.heldM.2 hk
  · exact Nat.lt_of_lt_of_le hk.1 h.env.size
  · rcases Nat.lt_or_ge g gs.size with hlt | hge
    · exact held_lt (h.held g hg hlt).2 hk
    · rw [(h.far g hge).2] at hk; obtain ⟨q, hq, _⟩ := hk; cases hq
theorem InvD.chlt (h : InvD p Goal m τ ρ M t gs w cl) {j : Nat} (hj : j < nsp M.st) : ch M.st j < w.heap.size := by
  obtain ⟨f, tm, hc⟩ := h.chs j hj
  rcases Nat.lt_or_ge (ch M.st j) w.heap.size with h' | h'
  · exact h'
  · rw [Array.getElem?_eq_none h'] at hc; cases hc
theorem InvD.dx (h : InvD p Goal m τ ρ M t gs w cl) {g g' k : Nat} (ho : ownOf M ρ g k) : ¬ rdx p m M ρ g' k := by
  rintro (hr | ⟨j, hj, _, rfl⟩)
  · exact h.d2 _ _ _ ho hr
  · exact (h.chn j hj g).1 ho
theorem InvD.rdx_lt (h : InvD p Goal m τ ρ M t gs w cl) {g k : Nat} (hr : rdx p m M ρ g k) : k < w.heap.size := by
  rcases hr with hr | ⟨j, hj, _, rfl⟩
  · exact h.rd_lt hr
  · exact h.chlt hj
theorem InvD.base (h : InvD p Goal m τ ρ M t gs w cl) {k : Nat} (hk : k < p.W.heap.size ∧ k ∉ p.o) (g : Nat) : rdOf p M ρ g k := by
  rcases Nat.eq_zero_or_pos g with rfl | hg
  · exact .inl ⟨rfl, .inl hk⟩
  · exact .inr ⟨hg, .inl hk⟩
theorem InvD.lt_nsp (h : InvD p Goal m τ ρ M t gs w cl) {i : Nat} {x : Goroutine} (hi : gs[i]? = some x) : i < m + nsp M.st := by rw [← h.size]; exact (Array.getElem?_eq_some_iff.1 hi).1
theorem Cmb.idx {c : Nat → Tag} {st : Ms} {wt : Bool} (h : Cmb p m c st wt cl) {i : Nat} (hpos : 0 < i) (hi : i < m + nsp st) (hne : c i ≠ .quit) : ∃ j, i = m + j ∧ j < nsp st ∧ cl j = false ∧ hrd st j = false ∧ (c i = .run j (rcv st j) (ch st j) ∨ c i = .park j (rcv st j) (ch st j)) := by
  have hm : m ≤ i := by
    rcases Nat.lt_or_ge i m with h1 | h1
    · exact absurd (h.old i hpos h1) hne
    · exact h1
  obtain ⟨j, rfl⟩ : ∃ j, i = m + j := ⟨i - m, by omega⟩
  rcases h.sd j (by omega) with ⟨h1, _⟩ | ⟨h1, h2, h3⟩
  · exact absurd h1 hne
  · exact ⟨j, rfl, by omega, h1, h2, h3⟩
theorem nsp_le (st : Ms) : nsp st ≤ 2 := by cases st <;> simp [nsp]
theorem InvD.live_of (h : InvD p Goal m τ ρ M t gs w cl) {i : Nat} {g : Goroutine} (hpos : 0 < i) (hi : gs[i]? = some g) (hne : (ρ i).tag ≠ .quit) : liveOf m gs.size ρ i := by
  refine .inr ⟨?_, (Array.getElem?_eq_some_iff.1 hi).1, hne⟩
  rcases Nat.lt_or_ge i m with h1 | h1
  · exact absurd (h.cmb.old i hpos h1) hne
  · exact h1
theorem again_sel {g : Goroutine} {a b : Bool} {c d : Nat} {z : Value} {w : World} (h0 : a = false → ∃ f tm, w.heap[c]? = some (.chan 0 #[] false f f tm)) (h1 : b = false → ∃ f tm, w.heap[d]? = some (.chan 0 #[] false f f tm)) : (parked g #[selc a c z, selc b d z] .select).again w = parked g #[selc a c z, selc b d z] .select := by
  cases a with
  | true =>
    cases b with
    | true => simp [Goroutine.again, parked, selc]
    | false => obtain ⟨f, tm, hc⟩ := h1 rfl; simp [Goroutine.again, parked, selc, rcase, hc]
  | false =>
    obtain ⟨f, tm, hc⟩ := h0 rfl
    cases b with
    | true => simp [Goroutine.again, parked, selc, rcase, hc]
    | false => obtain ⟨f', tm', hd⟩ := h1 rfl; simp [Goroutine.again, parked, selc, rcase, hc, hd]
theorem InvD.still (h : InvD p Goal m τ ρ M t gs w cl) {w₁ : World} (hF : ∀ j, j < nsp M.st → w₁.heap[ch M.st j]? = w.heap[ch M.st j]?) (a a' : Goroutine) {i : Nat} {g : Goroutine} (hi : gs[i]? = some g) : woken p.P a a' w₁ g = g := by
  have key : g.again w₁ = g := by
    rcases Nat.eq_zero_or_pos i with rfl | hpos
    · obtain ⟨g0, h0, hm⟩ := h.main
      rw [h0] at hi; obtain rfl := Option.some.inj hi
      cases M with
      | run B ms ro fr cs hp => exact again_running _ (.inl hm.1.1)
      | park B c d i j a b ro fr cs hp =>
        obtain ⟨rfl, _⟩ := hm; refine again_sel (fun e => ?_) fun e => ?_
        · have hcl := (h.cmb.wt_ rfl 0 (by simp [MR.st, nsp]) (by simp [MR.st, hrd, e])).1
          obtain ⟨f, tm, hc⟩ := h.chs 0 (by simp [MR.st, nsp]); rw [hcl] at hc; exact ⟨f, tm, (hF 0 (by simp [MR.st, nsp])).trans hc⟩
        · have hcl := (h.cmb.wt_ rfl 1 (by simp [MR.st, nsp]) (by simp [MR.st, hrd, e])).1
          obtain ⟨f, tm, hc⟩ := h.chs 1 (by simp [MR.st, nsp]); rw [hcl] at hc; exact ⟨f, tm, (hF 1 (by simp [MR.st, nsp])).trans hc⟩
    · have hr := h.roles i g hpos hi
      cases hρ : ρ i with
      | quit n => rw [hρ] at hr; exact again_running _ (QuitsD.status hr)
      | run B j i c ro fr cs hp => rw [hρ] at hr; obtain ⟨_, rfl, _⟩ := hr; exact again_running _ (.inl rfl)
      | park B j i' c ro fr cs hp =>
        rw [hρ] at hr; obtain ⟨_, ⟨zz, rfl⟩, _⟩ := hr; obtain ⟨j', _, hj, hcl, _, ht⟩ := h.cmb.idx hpos (h.lt_nsp hi) (by show (ρ i).tag ≠ _; rw [hρ]; simp [Role.tag]); have ht' : (ρ i).tag = .run j' (rcv M.st j') (ch M.st j') ∨ (ρ i).tag = .park j' (rcv M.st j') (ch M.st j') := ht; rw [hρ] at ht'; simp only [Role.tag] at ht'
        rcases ht' with e | e
        · cases e
        · obtain ⟨rfl, rfl, rfl⟩ := Tag.park.inj e
          obtain ⟨f, tm, hc⟩ := h.chs j hj; rw [hcl] at hc; exact again_send_open ((hF j hj).trans hc)
  unfold woken
  split
  · exact key
  · rfl
theorem Root.app {live live' : Nat → Prop} {st st' : Ms} {cl cl' : Nat → Bool} {q : Nat} (h : Root t live st cl q) (hl : ∀ g, live g → live' g) (hc : ∀ j, j < nsp st → cl j = true → hrd st j = false → j < nsp st' ∧ ch st' j = ch st j ∧ cl' j = true ∧ hrd st' j = false) : Root (t ++ u) live' st' cl' q := by
  obtain ⟨op, hop, h1⟩ := h; have hlt : q < t.size := lt_size_of_getElem? hop; refine ⟨op, by rw [getElem?_append_old hlt]; exact hop, ?_⟩
  rcases h1 with h1 | ⟨j, h1, h2, h3, h4, h5⟩
  · exact .inl (hl _ h1)
  · obtain ⟨a1, a2, a3, a4⟩ := hc j h1 h3 h4
    exact .inr ⟨j, a1, by rw [a2]; exact h2, a3, a4, (heard_old hlt).2 h5⟩
theorem seen_more (h : ∃ B, ∀ op ∈ t, op.act.low B) (hu : ∃ B, ∀ op ∈ u, op.act.low B) : ∃ B, ∀ op ∈ t ++ u, op.act.low B := by
  obtain ⟨B1, h1⟩ := h; obtain ⟨B2, h2⟩ := hu; exact ⟨max B1 B2, fun op hop => (Array.mem_append.1 hop).elim (fun hh => MemAct.low_mono (Nat.le_max_left _ _) (h1 op hh)) (fun hh => MemAct.low_mono (Nat.le_max_right _ _) (h2 op hh))⟩
theorem seen_ops (u : Trace) : ∃ B, ∀ op ∈ u, op.act.low B := by
  obtain ⟨B, _, h⟩ := low_ops 0 (u.toList.map (·.act)); exact ⟨B, fun op hop => h _ (List.mem_map.2 ⟨op, by simpa using hop, rfl⟩)⟩
theorem ownOf.ne0 {g k : Nat} (h : ownOf M ρ g k) (hg : g ≠ 0) : Has (ρ g).hp k := h.elim (fun x => absurd x.1 hg) fun x => x.2
theorem ownOf.at0 {k : Nat} (h : ownOf M ρ 0 k) : Has M.hp k := h.elim (fun x => x.2) fun x => absurd x.1 (Nat.lt_irrefl 0)
theorem InvD.act (h : InvD p Goal m τ ρ M t gs w cl) {a : Nat} (hlive : liveOf m gs.size ρ a) {hp hp' : Hq} (hhp : ∀ k, Has hp k → ownOf M ρ a k) {M' : MR} {ρ' : Nat → Role} {gs' : Array Goroutine} {w' : World}
    (hst : M'.st = M.st) (hwt : M'.waits = M.waits) (htag : ∀ k, (ρ' k).tag = (ρ k).tag) (hroM : M'.ro = M.ro) (hro : ∀ k, (ρ' k).ro = (ρ k).ro)
    (hM0 : a ≠ 0 → M'.hp = M.hp) (hρk : ∀ k, 0 < k → k ≠ a → (ρ' k).hp = (ρ k).hp) (hM1 : a = 0 → M'.hp = hp') (hρ1 : a ≠ 0 → (ρ' a).hp = hp')
    (ht : Trn w w' hp hp') (hug : ∀ op ∈ u, op.g = a) (hum : ∀ op ∈ u, op.act ≠ .mark .disable ∧ op.act ≠ .mark .enable)
    (hux : ∀ op ∈ u, ∀ x, op.act.touch? = some x → x.loc.isMemory = true → ∀ k, blk x.loc = some k → (x.write = false ∧ rdOf p M ρ a k) ∨ Has hp k)
    (hsz : gs'.size = gs.size) (hmain : ∃ g, gs'[0]? = some g ∧ MainOK p Goal g M') (hroles : ∀ i g, 0 < i → gs'[i]? = some g → RoleOK p (Deaf t i) g (ρ' i)) :
    InvD p Goal m τ ρ' M' (t ++ u) gs' w' cl := by
  have etag : (fun k => (ρ' k).tag) = fun k => (ρ k).tag := funext htag
  have elive : liveOf m gs.size ρ' = liveOf m gs.size ρ := by
    funext k
    simp only [liveOf, htag]
  have hdeaf : ∀ k, Deaf (t ++ u) k = Deaf t k := fun k => deaf_mild hum k
  have erd : rdOf p M' ρ' = rdOf p M ρ := by
    funext g k
    simp only [rdOf, hroM, hro]
  have erdx : rdx p m M' ρ' = rdx p m M ρ := by
    funext g k
    simp only [rdx, erd, hst]
  have halt : a < gs.size := by
    rcases hlive with rfl | ⟨_, h2, _⟩
    · exact h.pos
    · exact h2
  have own_new : ∀ g k, ownOf M' ρ' g k → ownOf M ρ g k ∨ (g = a ∧ w.heap.size ≤ k) := by
    have new : ∀ k, Has hp' k → ownOf M ρ a k ∨ w.heap.size ≤ k := by
      rintro k ⟨q, hq, rfl⟩
      rcases ht.new q hq with h1 | h1
      · exact .inl (hhp _ h1)
      · exact .inr h1
    rintro g k (⟨rfl, hk⟩ | ⟨hg, hk⟩)
    · by_cases ha : a = 0
      · rw [hM1 ha] at hk
        subst ha; exact (new k hk).imp id fun x => ⟨rfl, x⟩
      · rw [hM0 ha] at hk; exact .inl (.inl ⟨rfl, hk⟩)
    · by_cases hga : g = a
      · subst hga
        rw [hρ1 (by omega)] at hk; exact (new k hk).imp id fun x => ⟨rfl, x⟩
      · rw [hρk g hg hga] at hk; exact .inl (.inr ⟨hg, hk⟩)
  have own_has : ∀ k, ownOf M' ρ' a k → Has hp' k := by
    intro k hk
    by_cases ha : a = 0
    · subst ha; rw [← hM1 rfl]; exact hk.at0
    · rw [← hρ1 ha]; exact hk.ne0 ha
  have keepN : ∀ k, k < w.heap.size → ¬ ownOf M ρ a k → w'.heap[k]? = w.heap[k]? := fun k hk hn => ht.keep k hk fun hh => hn (hhp k hh); have keepO : ∀ g k, g ≠ a → ownOf M ρ g k → w'.heap[k]? = w.heap[k]? := fun g k hg ho => keepN k (h.own_lt ho) fun hk => hg (h.d1 _ _ _ ho hk); have keepR : ∀ g k, rdOf p M ρ g k → w'.heap[k]? = w.heap[k]? := fun g k hr => keepN k (h.rd_lt hr) fun hk => h.d2 _ _ _ hk hr; have keepC : ∀ j, j < nsp M.st → w'.heap[ch M.st j]? = w.heap[ch M.st j]? := fun j hj => keepN _ (h.chlt hj) (h.chn j hj a).1; refine { cmb := by rw [etag, hst, hwt]; exact h.cmb, size := by rw [hsz, hst]; exact h.size, main := hmain, roles := fun i g hi hg => by rw [hdeaf]; exact hroles i g hi hg, chs := ?_, chn := ?_, chd := by rw [hst]; exact h.chd, env := ?_, heldM := ?_, held := ?_, far := ?_, d1 := ?_, d2 := ?_, ti := ?_, kn := ?_, seen := seen_more h.seen (seen_ops u), above := fun j hj => by rw [hdeaf]; exact h.above j (hsz ▸ hj) }
  · rw [hst]; intro j hj
    obtain ⟨f, tm, hc⟩ := h.chs j hj; exact ⟨f, tm, (keepC j hj).trans hc⟩
  · rw [hst, erd]; intro j hj g
    refine ⟨fun ho => ?_, (h.chn j hj g).2⟩
    rcases own_new g _ ho with h1 | ⟨_, h1⟩
    · exact (h.chn j hj g).1 h1
    · have := h.chlt hj; omega
  · refine ⟨ht.os.trans h.env.os, ht.tape.trans h.env.tape, ht.output.trans h.env.output, Nat.le_trans h.env.size ht.size, fun k hk h1 => ?_⟩
    exact (keepR 0 k (h.base ⟨hk, h1⟩ 0)).trans (h.env.block k hk h1)
  · refine ⟨?_, fun q hq => ?_⟩
    · by_cases ha : a = 0
      · rw [hM1 ha]; exact ht.held
      · rw [hM0 ha]; exact fun q hq => (keepO 0 q.1 (Ne.symm ha) (.inl ⟨rfl, q, hq, rfl⟩)).trans (h.heldM.1 q hq)
    · rw [hroM] at hq
      exact (keepR 0 q.1 (.inl ⟨rfl, .inr ⟨q, hq, rfl⟩⟩)).trans (h.heldM.2 q hq)
  · intro k hk hlt
    rw [hsz] at hlt; refine ⟨?_, fun q hq => ?_⟩
    · by_cases hka : k = a
      · subst hka; rw [hρ1 (by omega)]; exact ht.held
      · rw [hρk k hk hka]; exact fun q hq => (keepO k q.1 hka (.inr ⟨hk, q, hq, rfl⟩)).trans ((h.held k hk hlt).1 q hq)
    · rw [hro] at hq
      exact (keepR k q.1 (.inr ⟨hk, .inr ⟨q, hq, rfl⟩⟩)).trans ((h.held k hk hlt).2 q hq)
  · intro k hk
    rw [hsz] at hk; rw [hro, hρk k (by have := h.pos; omega) (by omega)]; exact h.far k hk
  · intro g1 g2 k h1 h2
    rcases own_new g1 k h1 with ha | ⟨ea, ha⟩
    · rcases own_new g2 k h2 with hb | ⟨eb, hb⟩
      · exact h.d1 _ _ _ ha hb
      · have := h.own_lt ha; omega
    · rcases own_new g2 k h2 with hb | ⟨eb, hb⟩
      · have := h.own_lt hb; omega
      · rw [ea, eb]
  · rw [erd]; intro g g' k h1 h2
    rcases own_new g k h1 with ha | ⟨_, ha⟩
    · exact h.d2 _ _ _ ha h2
    · have := h.rd_lt h2; omega
  · rw [hsz, elive, erdx]
    let own2 : Nat → Nat → Prop := fun g k => ownOf M ρ g k ∨ ownOf M' ρ' g k
    have h2 : TV t τ w.heap.size own2 (rdx p m M ρ) (liveOf m gs.size ρ) := h.ti.fresh fun g k hk => hk.elim .inl fun hk => (own_new g k hk).imp id fun x => x.2; have own2' : ∀ g k, own2 g k → ownOf M ρ g k ∨ (g = a ∧ w.heap.size ≤ k) := fun g k hk => hk.elim .inl (own_new g k)
    have h3 := h2.step (u := u) (g := a) (n' := w'.heap.size) hlive ht.size hug hum (fun op hop x hx hm k hk => (hux op hop x hx hm k hk).imp (fun q => ⟨q.1, .inl q.2⟩) fun hh => .inl (hhp k hh)) (fun g' k ha hb => by
        rcases own2' _ _ ha with ha | ⟨_, ha⟩
        · rcases own2' _ _ hb with hb | ⟨rfl, hb⟩
          · exact h.d1 _ _ _ ha hb
          · rfl
        · rcases own2' _ _ hb with hb | ⟨rfl, hb⟩
          · have := h.own_lt hb; omega
          · rfl) (fun g' g'' k ha hr => by
        rcases own2' _ _ ha with ha | ⟨_, ha⟩
        · exact h.dx ha hr
        · have := h.rdx_lt hr; omega) (fun k hk => by
        rcases hk with hk | hk
        · rcases hk with hk | hk
          · have := h.own_lt hk; have := ht.size; omega
          · exact held_lt ht.held (own_has k hk)
        · have := h.rdx_lt hk; have := ht.size; omega)
    exact h3.weak (fun g k hk => .inr hk) (fun g k hk => hk) (fun g hg => hg) (Nat.le_refl _)
  · intro j b hb hm
    rw [hsz, elive, hst]
    rcases touch_app hb with ⟨_, hb'⟩ | ⟨hj, op, hop, hat, _⟩
    · obtain ⟨q, hq, hr⟩ := h.kn j b hb' hm
      exact ⟨q, hq.app u, hr.app (fun _ h => h) fun j h1 h2 h3 => ⟨h1, rfl, h2, h3⟩⟩
    · exact ⟨j, .inl rfl, op, hat, .inl (by rw [hug op hop]; exact hlive)⟩
theorem InvD.slip (h : InvD p Goal m τ ρ M t gs w cl) {i n : Nat} (hpos : 0 < i) {g g' : Goroutine} (hi : gs[i]? = some g) (hρ : ρ i = .quit (n + 1)) (hug : ∀ op ∈ u, op.g = i) (hn : ∀ op ∈ u, op.act.touch? = none)
    (hok : QuitsD p.P n (Deaf (t ++ u) i) g') : InvD p Goal m τ (upd ρ i (.quit n)) M (t ++ u) (gs.setIfInBounds i g') w cl := by
  have hilt : i < gs.size := (Array.getElem?_eq_some_iff.1 hi).1
  have same : ∀ k, (upd ρ i (.quit n) k).tag = (ρ k).tag ∧ (upd ρ i (.quit n) k).hp = (ρ k).hp ∧ (upd ρ i (.quit n) k).ro = (ρ k).ro := fun k => by
    by_cases hk : k = i
    · subst hk; rw [upd_same, hρ]; exact ⟨rfl, rfl, rfl⟩
    · rw [upd_ne ρ _ hk]; exact ⟨rfl, rfl, rfl⟩
  have etag : (fun k => (upd ρ i (.quit n) k).tag) = fun k => (ρ k).tag := funext fun k => (same k).1; have ehp : ∀ k, (upd ρ i (.quit n) k).hp = (ρ k).hp := fun k => (same k).2.1; have ero : ∀ k, (upd ρ i (.quit n) k).ro = (ρ k).ro := fun k => (same k).2.2
  have elive : liveOf m gs.size (upd ρ i (.quit n)) = liveOf m gs.size ρ := by
    funext k
    have := congrFun etag k; simp only [liveOf, this]
  have eown : ownOf M (upd ρ i (.quit n)) = ownOf M ρ := by
    funext g k
    simp only [ownOf, ehp]
  have erd : rdOf p M (upd ρ i (.quit n)) = rdOf p M ρ := by
    funext g k
    simp only [rdOf, ero]
  have erdx : rdx p m M (upd ρ i (.quit n)) = rdx p m M ρ := by
    funext g k
    simp only [rdx, erd]
  have hdeaf : ∀ k, k ≠ i → Deaf (t ++ u) k = Deaf t k := fun k hk => Deaf_other t (Ne.symm hk) u hug
  have hnl : ¬ liveOf m gs.size ρ i := by
    rintro (h0 | ⟨_, _, h1⟩)
    · omega
    · rw [hρ] at h1; exact h1 rfl
  refine { cmb := by rw [etag]; exact h.cmb, size := by simp [h.size], main := ?_, roles := ?_, chs := h.chs, chn := by rw [eown, erd]; exact h.chn, chd := h.chd, env := h.env, heldM := h.heldM, held := ?_, far := ?_, d1 := by rw [eown]; exact h.d1, d2 := by rw [eown, erd]; exact h.d2, ti := ?_, kn := ?_, seen := seen_more h.seen (seen_ops u), above := ?_ }
  · obtain ⟨g0, h0, hm⟩ := h.main
    exact ⟨g0, by rw [Array.getElem?_setIfInBounds_ne (by omega)]; exact h0, hm⟩
  · intro k x hk hx
    by_cases hki : i = k
    · subst hki
      rw [Array.getElem?_setIfInBounds_self_of_lt hilt] at hx; obtain rfl := Option.some.inj hx; rw [upd_same]; exact hok
    · rw [Array.getElem?_setIfInBounds_ne hki] at hx
      rw [upd_ne ρ _ (Ne.symm hki), hdeaf k (Ne.symm hki)]; exact h.roles k x hk hx
  · intro k hk hlt
    rw [Array.size_setIfInBounds] at hlt; rw [ehp, ero]; exact h.held k hk hlt
  · intro k hk
    rw [Array.size_setIfInBounds] at hk; rw [ehp, ero]; exact h.far k hk
  · rw [Array.size_setIfInBounds, elive, eown, erdx]
    have no : ∀ op ∈ u, ∀ a, op.act.touch? = some a → False := fun op hop a ha => by rw [hn op hop] at ha; cases ha
    have ht := h.ti; refine ⟨by simp; have := ht.τle; omega, fun said => ?_, fun g' hg' i a hi ha hmm => ?_, fun g' k ho i a hi ha hb => ?_, fun g' k ho i a hi ha hw hb => ?_, fun i a k hi ha hb => ?_, fun g' hg' => ?_⟩
    · exact noRace_append (ht.clean said) hug fun j a ha op hop b hb _ => (no op hop b hb).elim
    · rcases touch_app ha with ⟨_, ha'⟩ | ⟨_, op, hop, _, hoa⟩
      · exact (ht.pre g' hg' i a hi ha' hmm).app u
      · exact (no op hop _ hoa).elim
    · rcases touch_app ha with ⟨_, ha'⟩ | ⟨_, op, hop, _, hoa⟩
      · exact (ht.own_ g' k ho i a hi ha' hb).app u
      · exact (no op hop _ hoa).elim
    · rcases touch_app ha with ⟨_, ha'⟩ | ⟨_, op, hop, _, hoa⟩
      · exact (ht.rd g' k ho i a hi ha' hw hb).app u
      · exact (no op hop _ hoa).elim
    · rcases touch_app ha with ⟨_, ha'⟩ | ⟨_, op, hop, _, hoa⟩
      · exact ht.low i a k hi ha' hb
      · exact (no op hop _ hoa).elim
    · have hgi : g' ≠ i := by rintro rfl; exact hnl hg'
      rw [hdeaf g' hgi]; exact ht.hears g' hg'
  · intro j a ha hm
    rw [Array.size_setIfInBounds, elive]
    rcases touch_app ha with ⟨_, ha'⟩ | ⟨_, op, hop, _, hoa⟩
    · obtain ⟨q, hq, hr⟩ := h.kn j a ha' hm
      exact ⟨q, hq.app u, hr.app (fun _ h => h) fun j h1 h2 h3 => ⟨h1, rfl, h2, h3⟩⟩
    · rw [hn op hop] at hoa; cases hoa
  · intro j hj
    rw [Array.size_setIfInBounds] at hj; rw [hdeaf j (by omega)]; exact h.above j hj
end
end Go.W
end
