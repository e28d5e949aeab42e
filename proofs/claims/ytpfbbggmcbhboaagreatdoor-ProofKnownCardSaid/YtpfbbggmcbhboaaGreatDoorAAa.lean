/- Texts. -/
import Derived.WalkKit
import Derived.Orders
import Derived.Conc.Beside
import Derived.Conc.CrowdComm
import Derived.Conc.Listed
import Derived.Conc.Own5
import Derived.Conc.CompanyDraw
import Derived.AtR
import Derived.RangeFuncRecord

set_option linter.unusedVariables false
set_option linter.unusedSimpArgs false
section
namespace Go.W
open Go Go.Conc
open Go.ConcN (sumTo upd sumTo_upd upd_ne upd_same)
def noS : Loc → Prop := fun _ => False
def Calm (e : Event) : Prop := e.loc ≠ .mark .disable ∧ e.loc ≠ .mark .enable
theorem low_one (x : MemAct) : ∃ B, x.low B := by
  cases x with
  | access e =>
    obtain ⟨l, wr, sy⟩ := e
    cases l with
    | cell a => exact ⟨a.block + 1, Nat.lt_succ_self _⟩
    | obj r => exact ⟨r + 1, Nat.lt_succ_self _⟩
    | output => exact ⟨0, trivial⟩
    | goroutines => exact ⟨0, trivial⟩
    | mark m => exact ⟨0, trivial⟩
  | mark m =>
    cases m with
    | acquire a => exact ⟨a.block + 1, Nat.lt_succ_self _⟩
    | release a => exact ⟨a.block + 1, Nat.lt_succ_self _⟩
    | releaseMerge a => exact ⟨a.block + 1, Nat.lt_succ_self _⟩
    | read a => exact ⟨a.block + 1, Nat.lt_succ_self _⟩
    | write a => exact ⟨a.block + 1, Nat.lt_succ_self _⟩
    | disable => exact ⟨0, trivial⟩
    | enable => exact ⟨0, trivial⟩
    | extern f => exact ⟨0, trivial⟩
    | noRoom => exact ⟨0, trivial⟩
  | go _ => exact ⟨0, trivial⟩
  | start => exact ⟨0, trivial⟩
  | send c _ => exact ⟨c + 1, Nat.lt_succ_self _⟩
  | sendDone c _ => exact ⟨c + 1, Nat.lt_succ_self _⟩
  | recv c _ _ => exact ⟨c + 1, Nat.lt_succ_self _⟩
  | recvDone c _ => exact ⟨c + 1, Nat.lt_succ_self _⟩
  | close c => exact ⟨c + 1, Nat.lt_succ_self _⟩
  | recvClosed c => exact ⟨c + 1, Nat.lt_succ_self _⟩
theorem jj7 (B : Nat) (l : List MemAct) : ∃ B', B ≤ B' ∧ ∀ x ∈ l, x.low B' := by
  induction l with
  | nil => exact ⟨B, Nat.le_refl _, by simp⟩
  | cons x l ih =>
    obtain ⟨B1, h1, h2⟩ := ih; obtain ⟨B2, h3⟩ := low_one x; refine ⟨max B1 B2, by omega, fun y hy => ?_⟩
    rcases List.mem_cons.1 hy with rfl | hy
    · exact MemAct.low_mono (Nat.le_max_right _ _) h3
    exact MemAct.low_mono (Nat.le_max_left _ _) (h2 y hy)
theorem nj2 (B : Nat) (es : Array Event) : ∃ B', B ≤ B' ∧ ∀ e ∈ es, (MemAct.ofEvent e).low B' := by
  obtain ⟨B', h1, h2⟩ := jj7 B (es.toList.map MemAct.ofEvent); exact ⟨B', h1, fun e he => h2 _ (List.mem_map.2 ⟨e, by simpa using he, rfl⟩)⟩
theorem hz3 {P : Program} {K : Nat} {m' : Machine} {t' : Trace} : ∀ {N : Nat} {m : Machine} {t : Trace}, runNT P N m t = (.next m', t') → runNT P (N + K) m t = runNT P K m' t'
  | 0, m, t, h => by
    simp only [runNT, Prod.mk.injEq] at h; obtain ⟨h1, rfl⟩ := h
    cases h1
    rw [Nat.zero_add]
  | N + 1, m, t, h => by
    have e : N + 1 + K = (N + K) + 1 := by omega
    rw [e]; simp only [runNT] at h ⊢; generalize stepT P m = r at h ⊢; obtain ⟨r, ops⟩ := r
    cases r with
    | next m1 => exact hz3 h
    | ended o w => simp at h
section
variable {P : Program}
def Co (P : Program) (g : Goroutine) (w : World) (Goal : Goroutine → World → Prop) : Prop :=
  ∀ (d : Nat) (gs : Array Goroutine) (sl : Option (Nat × Nat)) (t : Trace) (q : Nat → Nat) (B : Nat), gs[0]? = some g → Leavers P t gs q → Past noS B t →
    ∃ (N : Nat) (gs' : Array Goroutine) (g' : Goroutine) (w' : World) (sl' : Option (Nat × Nat)) (t' : Trace) (q' : Nat → Nat) (B' : Nat),
      runNT P N (crowd gs (w.at d) sl) t = (.next (crowd gs' w' sl'), t') ∧ gs'[0]? = some g' ∧ Leavers P t' gs' q' ∧ Past noS B' t' ∧ Goal g' w'
variable {g g' : Goroutine} {w : World} {Goal Goal' : Goroutine → World → Prop}
theorem lC (h : Co P g w Goal) (d : Nat) : Co P g (w.at d) Goal := fun d' => h d'
theorem co_done (h : ∀ d, Goal g (w.at d)) : Co P g w Goal := fun d gs sl t q B h0 hL hP => ⟨0, gs, g, w.at d, sl, t, q, B, rfl, h0, hL, hP, h d⟩
theorem bx4 {gs : Array Goroutine} {sl : Option (Nat × Nat)} {t : Trace} {q : Nat → Nat} {B : Nat} (hrun : g.status = .running) (h0 : gs[0]? = some g) (hL : Leavers P t gs q) (hP : Past noS B t) :
    (∃ d sl', stepT P (crowd gs w sl) = runT P (crowd gs (w.at d) sl') 0) ∨
    ∃ d gs' sl' ops q', stepT P (crowd gs w sl) = (.next (crowd gs' (w.at d) sl'), ops) ∧ gs'.size = gs.size ∧ gs'[0]? = some g ∧ Leavers P (t ++ ops) gs' q' ∧ Past noS B (t ++ ops) ∧ sumTo gs'.size q' < sumTo gs.size q := by
  have haw : ∀ g ∈ gs, awake g := by
    intro g' hg; obtain ⟨i, hi, rfl⟩ := Array.mem_iff_getElem.1 hg
    rcases Nat.eq_zero_or_pos i with rfl | hpos
    · have : gs[0] = g := by simpa [Array.getElem?_eq_getElem hi] using h0
      rw [this]; exact awake_of (.inl hrun)
    exact awake_of ((hL.old i _ hpos (Array.getElem?_eq_getElem hi)).status.elim .inl fun x => .inr (.inr x))
  obtain ⟨i, gi, d, sl', hi, hg, hst⟩ := crowd_pick (P := P) (w := w) (sl := sl) haw ⟨0, g, h0, hrun⟩
  rcases Nat.eq_zero_or_pos i with rfl | hpos
  · exact .inl ⟨d, sl', hst⟩
  refine .inr ?_; have hq := hL.old i gi hpos hi; have hi0 : (i == 0) = false := by simp; omega
  have hlt : i < gs.size := (Array.getElem?_eq_some_iff.1 hi).1
  cases hqi : q i with
  | zero => rw [hqi] at hq; rw [hq.1] at hg; cases hg
  | succ k =>
    rw [hqi] at hq
    rcases hq with ⟨hf, _⟩ | ⟨_, g', es, hm, hstp, hq'⟩
    · rw [hf] at hg; cases hg
    have hrunT := runT_crowd_go (P := P) (sl := sl') (i := i) hi (by rw [hi0]; exact hstp (w.at d)); have hsz : ((gs.map (woken P gi g' (w.at d))).setIfInBounds i g').size = gs.size := by simp
    have hsum : sumTo gs.size (upd q i k) + (k + 1) = sumTo gs.size q + k := by
      have := sumTo_upd q k id hlt
      simpa [hqi] using this
    refine ⟨d, (gs.map (woken P gi g' (w.at d))).setIfInBounds i g', sl', _, upd q i k, hst.trans hrunT, hsz, ?_, ⟨fun j x hj hx => ?_, fun j hj => ?_⟩, hP.mute (by omega) hm, by rw [hsz]; omega⟩
    · have hne : i ≠ 0 := by omega
      rw [Array.getElem?_setIfInBounds_ne hne, Array.getElem?_map, h0]
      simp [woken_run hrun]
    · by_cases hji : i = j
      · subst hji
        rw [Array.getElem?_setIfInBounds_self_of_lt (by simpa using hlt)] at hx; obtain rfl := Option.some.inj hx; rw [upd_same, Deaf_own]; exact hq'
      rw [Array.getElem?_setIfInBounds_ne hji, Array.getElem?_map] at hx; obtain ⟨y, hy, rfl⟩ := Option.map_eq_some_iff.1 hx; have hqj := hL.old j y hj hy; rw [woken_quitsD hqj, upd_ne q k (Ne.symm hji), Deaf_other t hji _ (fun op hop => by obtain ⟨e, _, rfl⟩ := Go.Conc.mem_ofEvents hop; rfl)]; exact hqj
    rw [Deaf_other t (g' := i) (by simp at hj; omega) _ (fun op hop => by obtain ⟨e, _, rfl⟩ := Go.Conc.mem_ofEvents hop; rfl)]; exact hL.above j (by simpa using hj)
def Turn (P : Program) (g : Goroutine) (w : World) (Goal : Goroutine → World → Prop) (d : Nat) : Prop :=
  ∀ (gs : Array Goroutine) (sl : Option (Nat × Nat)) (t : Trace) (q : Nat → Nat) (B : Nat), gs[0]? = some g → Leavers P t gs q → Past noS B t →
    ∃ (gs' : Array Goroutine) (g' : Goroutine) (w' : World) (ops : Array MemOp) (q' : Nat → Nat) (B' : Nat) (sl' : Option (Nat × Nat)),
      runT P (crowd gs (w.at d) sl) 0 = (.next (crowd gs' w' sl'), ops) ∧ gs'[0]? = some g' ∧ Leavers P (t ++ ops) gs' q' ∧ Past noS B' (t ++ ops) ∧ Co P g' w' Goal
theorem nq0 (hrun : g.status = .running) (h : ∀ d, Turn P g w Goal d) : Co P g w Goal := by
  intro d gs sl t q B h0 hL hP
  have key : ∀ (M d : Nat) (gs : Array Goroutine) (sl : Option (Nat × Nat)) (t : Trace) (q : Nat → Nat), sumTo gs.size q ≤ M → gs[0]? = some g → Leavers P t gs q → Past noS B t →
      ∃ (N : Nat) (gs' : Array Goroutine) (g' : Goroutine) (w' : World) (sl' : Option (Nat × Nat)) (t' : Trace) (q' : Nat → Nat) (B' : Nat),
        runNT P N (crowd gs (w.at d) sl) t = (.next (crowd gs' w' sl'), t') ∧ gs'[0]? = some g' ∧ Leavers P t' gs' q' ∧ Past noS B' t' ∧ Goal g' w' := by
    intro M
    induction M with
    | zero =>
      intro d gs sl t q hM h0 hL hP
      rcases bx4 (w := w.at d) (sl := sl) hrun h0 hL hP with ⟨d', sl', hst⟩ | ⟨d', gs', sl', ops, q', hst, hsz, h0', hL', hP', hlt⟩
      · obtain ⟨gs1, g1, w1, ops, q1, B1, sl1, hr, h1, L1, P1, hk⟩ := h d' gs sl' t q B h0 hL hP
        obtain ⟨N, gs2, g2, w2, sl2, t2, q2, B2, r2, h2, L2, P2, hg2⟩ := hk w1.drawn gs1 sl1 _ q1 B1 h1 L1 P1; exact ⟨N + 1, gs2, g2, w2, sl2, t2, q2, B2, by simp only [runNT, hst]; rw [show (w.at d).at d' = w.at d' from rfl, hr]; exact r2, h2, L2, P2, hg2⟩
      omega
    | succ M ih =>
      intro d gs sl t q hM h0 hL hP
      rcases bx4 (w := w.at d) (sl := sl) hrun h0 hL hP with ⟨d', sl', hst⟩ | ⟨d', gs', sl', ops, q', hst, hsz, h0', hL', hP', hlt⟩
      · obtain ⟨gs1, g1, w1, ops, q1, B1, sl1, hr, h1, L1, P1, hk⟩ := h d' gs sl' t q B h0 hL hP
        obtain ⟨N, gs2, g2, w2, sl2, t2, q2, B2, r2, h2, L2, P2, hg2⟩ := hk w1.drawn gs1 sl1 _ q1 B1 h1 L1 P1; exact ⟨N + 1, gs2, g2, w2, sl2, t2, q2, B2, by simp only [runNT, hst]; rw [show (w.at d).at d' = w.at d' from rfl, hr]; exact r2, h2, L2, P2, hg2⟩
      obtain ⟨N, gs2, g2, w2, sl2, t2, q2, B2, r2, h2, L2, P2, hg2⟩ := ih d' gs' sl' (t ++ ops) q' (by omega) h0' hL' hP'; exact ⟨N + 1, gs2, g2, w2, sl2, t2, q2, B2, by simp only [runNT, hst]; exact r2, h2, L2, P2, hg2⟩
  exact key _ d gs sl t q (Nat.le_refl _) h0 hL hP
theorem pY {d : Nat} {w' : World} {es : Array Event} (hgo : stepG P true g (w.at d) = .go g' w' es) (hes : ∀ e ∈ es, Calm e) (hco : Co P g' w' Goal) : Turn P g w Goal d := by
  intro gs sl t q B h0 hL hP; have hrunT := runT_crowd_go (P := P) (sl := sl) (i := 0) h0 (show stepG P (0 == 0) g (w.at d) = _ from hgo); have hlt : 0 < gs.size := (Array.getElem?_eq_some_iff.1 h0).1; obtain ⟨B', hB, hlow⟩ := nj2 B es; refine ⟨(gs.map (woken P g g' w')).setIfInBounds 0 g', g', w', _, q, B', sl, hrunT, by simp [hlt], ⟨fun j x hj hx => ?_, fun j hj => ?_⟩, (hP.mono hB).own fun e he => ⟨fun x _ hs => hs.elim, (hes e he).1, (hes e he).2, hlow e he⟩, hco⟩
  · have hne : 0 ≠ j := by omega
    rw [Array.getElem?_setIfInBounds_ne hne, Array.getElem?_map] at hx; obtain ⟨y, hy, rfl⟩ := Option.map_eq_some_iff.1 hx; have hq := hL.old j y hj hy; rw [woken_quitsD hq, Deaf_other t (by omega) _ (fun op hop => by obtain ⟨e, _, rfl⟩ := Go.Conc.mem_ofEvents hop; rfl)]; exact hq
  rw [Deaf_other t (g' := 0) (by simp at hj; omega) _ (fun op hop => by obtain ⟨e, _, rfl⟩ := Go.Conc.mem_ofEvents hop; rfl)]; exact hL.above j (by simpa using hj)
theorem X9 (hrun : g.status = .running)
    (h : ∀ d, ∃ g' w' es, stepG P true g (w.at d) = .go g' w' es ∧ (∀ e ∈ es, Calm e) ∧ Co P g' w' Goal) : Co P g w Goal :=
  nq0 hrun fun d => by obtain ⟨a', w', es, hgo, hes, hco⟩ := h d; exact pY hgo hes hco
theorem E0 (hrun : g.status = .running) (h : ∀ w, stepG P true g w = .go g' w) (k : Co P g' w Goal) : Co P g w Goal :=
  X9 hrun fun d => ⟨g', w.at d, #[], h _, by simp, lC k d⟩
end
/-! ### What says nothing of deafness -/
def Quiet {α : Type} : Sem α → Prop
  | .pure _ => True
  | .load _ _ k => ∀ v, Quiet (k v)
  | .store _ _ _ k => Quiet k
  | .new _ k => ∀ r, Quiet (k r)
  | .shape _ k => ∀ s, Quiet (k s)
  | .freeze _ _ k => Quiet k
  | .frozen _ k => ∀ b, Quiet (k b)
  | .getObj _ k => ∀ o, Quiet (k o)
  | .setObj _ _ k => Quiet k
  | .choose _ k => ∀ n, Quiet (k n)
  | .sys _ k => ∀ r, Quiet (k r)
  | .program k => ∀ p, Quiet (k p)
  | .mark m k => (m ≠ .disable ∧ m ≠ .enable) ∧ Quiet k
  | .halt _ => True
theorem jQ {es : Array Event} (h : ∀ e ∈ es, Calm e) {e : Event} (he : Calm e) : ∀ x ∈ es.push e, Calm x := fun x hx => by
  rcases Array.mem_push.1 hx with hx | rfl
  · exact h x hx
  exact he
theorem lq2 {es us : Array Event} (h : ∀ e ∈ es, Calm e) (hu : ∀ e ∈ us, Calm e) : ∀ x ∈ es ++ us, Calm x := fun x hx => (Array.mem_append.1 hx).elim (h x) (hu x)
theorem bj3 (a : Addr) (wr sy : Bool) : Calm ⟨.cell a, wr, sy⟩ := ⟨by simp, by simp⟩
theorem gq6 (l : List Addr) (wr sy : Bool) : ∀ e ∈ l.toArray.map (fun a => (⟨.cell a, wr, sy⟩ : Event)), Calm e := fun e he => by
  obtain ⟨a, _, rfl⟩ := Array.mem_map.1 he; exact bj3 a wr sy
theorem lz7 {α : Type} {P : Program} (s : Sem α) : Quiet s → ∀ (w : World) (es : Array Event), (∀ e ∈ es, Calm e) → ∀ e ∈ (s.runT P w es).2, Calm e := by
  induction s with
  | pure a => intro _ w es h; exact h
  | load m a k ih =>
    intro hq w es h; simp only [Sem.runT]
    split
    · exact ih _ (hq _) _ _ (jQ h (bj3 _ _ _))
    split
    · exact ih _ (hq _) _ _ (lq2 h (gq6 _ _ _))
    exact h
  | store m a v k ih =>
    intro hq w es h; have hq' : Quiet k := hq
    cases v <;> simp only [Sem.runT] <;> first
      | exact h
      | (split
         · split
           · exact h
           exact ih hq' _ _ (jQ h (bj3 _ _ _))
         split
         · exact ih hq' _ _ (lq2 h (gq6 _ _ _))
         exact h)
  | new o k ih => intro hq w es h; exact ih _ (hq _) _ _ h
  | shape r k ih => intro hq w es h; exact ih _ (hq _) _ _ h
  | freeze a n k ih => intro hq w es h; exact ih hq _ _ h
  | frozen a k ih => intro hq w es h; exact ih _ (hq _) _ _ h
  | getObj r k ih =>
    intro hq w es h; simp only [Sem.runT]
    split
    · exact h
    · exact ih _ (hq _) _ _ (jQ h ⟨by simp, by simp⟩)
    exact h
  | setObj r o k ih =>
    intro hq w es h; simp only [Sem.runT]
    split
    · exact h
    · exact ih hq _ _ (jQ h ⟨by simp, by simp⟩)
    exact h
  | choose q k ih =>
    intro hq w es h; simp only [Sem.runT]
    split
    · exact ih _ (hq _) _ _ h
    exact ih _ (hq _) _ _ h
  | sys c k ih => intro hq w es h; exact ih _ (hq _) _ _ (jQ h ⟨by simp, by simp⟩)
  | program k ih => intro hq w es h; exact ih _ (hq _) _ _ h
  | mark m k ih =>
    intro hq w es h; exact ih hq.2 _ _ (jQ h ⟨fun e => hq.1.1 (Loc.mark.inj e), fun e => hq.1.2 (Loc.mark.inj e)⟩)
  | halt h => intro _ w es h; exact h
theorem D7 {α : Type} {P : Program} {s : Sem α} (h : Quiet s) (w : World) : ∀ e ∈ s.events P w #[], Calm e := lz7 s h w #[] (by simp)
theorem n9 {α β : Type} {s : Sem α} {f : α → Sem β} (hs : Quiet s) (hf : ∀ a, Quiet (f a)) : Quiet (s >>= f) := by
  show Quiet (s.bind f)
  induction s with
  | pure a => exact hf a
  | load m a k ih => exact fun v => ih v (hs v)
  | store m a v k ih => exact ih hs
  | new o k ih => exact fun v => ih v (hs v)
  | shape r k ih => exact fun v => ih v (hs v)
  | freeze a n k ih => exact ih hs
  | frozen a k ih => exact fun v => ih v (hs v)
  | getObj r k ih => exact fun v => ih v (hs v)
  | setObj r o k ih => exact ih hs
  | choose q k ih => exact fun v => ih v (hs v)
  | sys c k ih => exact fun v => ih v (hs v)
  | program k ih => exact fun v => ih v (hs v)
  | mark m k ih => exact ⟨hs.1, ih hs.2⟩
  | halt h => trivial
theorem S9 {P : Program} {fn : FuncId} {es : Array Event} (h : ∀ e ∈ es, Calm e) : ∀ e ∈ seen P fn es, Calm e := by
  intro e he; rw [seen_def] at he
  rcases seen_fold_sub _ _ _ _ _ he with h1 | h1
  · simp at h1
  exact h e (by simpa using h1)
/-! ### A frame that leaves -/
theorem rX {α β : Type} {f : α → Sem β} (hf : ∀ a, Quiet (f a)) : ∀ l : List α, Quiet (l.mapM f)
  | [] => by simp only [List.mapM_nil]; exact trivial
  | a :: l => by
    simp only [List.mapM_cons]; exact n9 (hf a) fun b => n9 (rX hf l) fun _ => trivial
theorem dX {α β : Type} {f : α → β} {s : Sem α} (h : Quiet s) : Quiet (f <$> s) := n9 h fun _ => trivial
theorem bN {α β : Type} {f : α → Sem β} (hf : ∀ a, Quiet (f a)) (l : Array α) : Quiet (l.mapM f) := by
  rw [Array.mapM_eq_mapM_toList]; exact dX (rX hf _)
theorem kx1 {α : Type} (s : String) : Quiet (stuck s : Sem α) := trivial
theorem xU {α : Type} (u : Unsupported) : Quiet (unsupported u : Sem α) := trivial
theorem tF (t : TypeId) : Quiet (typeInfo t) := by unfold typeInfo; refine n9 (fun _ => trivial) fun _ => ?_; split <;> trivial
theorem dW (t : TypeId) : Quiet (underlying t) := by unfold underlying; refine n9 (fun _ => trivial) fun _ => ?_; split <;> trivial
theorem xV (t : TypeId) : Quiet (sizeOf t) := by unfold sizeOf; exact n9 (tF t) fun _ => trivial
theorem bq4 (t : TypeId) : Quiet (isAgg t) := by unfold isAgg; refine n9 (dW t) fun _ => ?_; split <;> trivial
theorem qP (a : Addr) (m : Mode) : Quiet (load a m) := fun _ => trivial
theorem bq3 (a : Addr) (v : Value) (m : Mode) : Quiet (store a v m) := trivial
theorem iV (a : Addr) : ∀ (n i : Nat) (acc : Array Value), Quiet (loadCellsFrom a i n acc)
  | 0, i, acc => by unfold loadCellsFrom; trivial
  | n + 1, i, acc => by unfold loadCellsFrom; exact n9 (qP _ _) fun _ => iV a n _ _
theorem rY (a : Addr) (n : Nat) : Quiet (loadCells a n) := iV a n 0 #[]
theorem vT (t : TypeId) (a : Addr) : Quiet (loadVar t a) := by
  unfold loadVar; refine n9 (bq4 t) fun b => ?_
  split
  · exact n9 (xV t) fun n => n9 (rY a n) fun _ => trivial
  exact qP _ _
theorem kG {α : Type} (e : RuntimeError) : Quiet (runtimePanic e : Sem α) := by
  have he : ∀ t, Quiet (elemOf t) := fun t => by
    unfold elemOf; refine n9 (dW t) fun _ => ?_
    split <;> trivial
  have hn : ∀ t v, Quiet (newVar t v) := fun t v _ => trivial; unfold runtimePanic; refine n9 (fun _ => trivial) fun p => ?_
  cases e <;> first | trivial | exact n9 (n9 (he _) fun _ => hn _ _) fun _ => trivial | exact n9 (he _) fun _ => n9 (hn _ _) fun _ => trivial
theorem xW (v : Value) : Quiet (asAddr v) := by unfold asAddr; split <;> first | trivial | exact kG _
theorem mG (fn : Func) (tmps : Array Value) : Quiet (results fn tmps) := by
  unfold results; refine n9 (bN (fun r => ?_) _) fun _ => trivial
  split
  · trivial
  exact n9 (xW _) fun _ => vT _ _
end Go.W
end
section
namespace Go.W
open Go Go.Conc
def notDef (o : Oper) : Bool := match o.op with | .defer _ => false | _ => true
def nd : Code → Bool
  | .region _ ops _ => ops.all notDef
  | .seq x y => nd x && nd y
  | .cond _ x y => nd x && nd y
  | .block _ x => nd x
  | .loop x => nd x
  | .scope x => nd x
  | .rangeFunc .. => false
  | _ => true
section
variable {P : Program} {main : Bool} {b : Frame} {a : Act} {k : List Item} {cs : List Frame} {w : World}
theorem sR_skip : stepG P main (G (b.atR a (.code .skip :: k)) cs) w = .go (G (b.atR a k) cs) w := by simp [G, stepG, stepG.exec, Frame.atR]
theorem qz3 {l : Nat} : stepG P main (G (b.atR a (.code (.label l) :: k)) cs) w = .go (G (b.atR a k) cs) w := by simp [G, stepG, stepG.exec, Frame.atR]
theorem lz0 {id : Nat} : stepG P main (G (b.atR a (.inBlock id :: k)) cs) w = .go (G (b.atR a k) cs) w := by simp [G, stepG, stepG.exec, Frame.atR]
theorem lx9 {c : Code} : stepG P main (G (b.atR a (.inScope c :: k)) cs) w = .go (G (b.atR a k) cs) w := by simp [G, stepG, stepG.exec, Frame.atR]
theorem qz1 {c : Code} : stepG P main (G (b.atR a (.code (.scope c) :: k)) cs) w = .go (G (b.atR a (.code c :: .inScope c :: k)) cs) w := by simp [G, stepG, stepG.exec, Frame.atR]
theorem sR_seq {x y : Code} : stepG P main (G (b.atR a (.code (.seq x y) :: k)) cs) w = .go (G (b.atR a (.code x :: .code y :: k)) cs) w := by simp [G, stepG, stepG.exec, Frame.atR]
theorem sR_cond {c : Operand} {x y : Code} {t : Bool} (h : a.eval c = .bool t) :
    stepG P main (G (b.atR a (.code (.cond c x y) :: k)) cs) w = .go (G (b.atR a (.code (if t then x else y) :: k)) cs) w := by
  have h' : (b.atR a (.code (.cond c x y) :: k)).eval c = .bool t := by rw [Frame.eval_atR]; exact h
  simp only [Frame.atR] at h'
  simp [G, stepG, stepG.exec, Frame.atR, h']
theorem qz5 {id : Nat} {c : Code} : stepG P main (G (b.atR a (.code (.block id c) :: k)) cs) w = .go (G (b.atR a (.code c :: .inBlock id :: k)) cs) w := by simp [G, stepG, stepG.exec, Frame.atR]
theorem sR_loop {c : Code} : stepG P main (G (b.atR a (.code (.loop c) :: k)) cs) w = .go (G (b.atR a (.code c :: .inLoop c :: k)) cs) w := by simp [G, stepG, stepG.exec, Frame.atR]
theorem nx7 {c : Code} : stepG P main (G (b.atR a (.inLoop c :: k)) cs) w = .go (G (b.atR a (.code c :: .inLoop c :: k)) cs) w := by simp [G, stepG, stepG.exec, Frame.atR]
theorem sR_exit {id : Nat} {k' : List Item} (h : exitTo id k = some k') : stepG P main (G (b.atR a (.code (.exit id) :: k)) cs) w = .go (G (b.atR a k') cs) w := by simp [G, stepG, stepG.exec, Frame.atR, h]
theorem nx6 {id : Nat} {ops : Array Oper} : stepG P main (G (b.atR a (.code (.region id ops false) :: k)) cs) w = .go (G (b.atR a (.inRegion ops (List.range ops.size) :: k)) cs) w := by simp [G, stepG, stepG.exec, Frame.atR]
theorem gz1 {ops : Array Oper} : stepG P main (G (b.atR a (.inRegion ops [] :: k)) cs) w = .go (G (b.atR a k) cs) w := by simp [G, stepG, stepG.exec, Frame.atR]
theorem dq1 {id : Nat} {ops : Array Oper} : stepG P main (G (b.atR a (.code (.region id ops true) :: k)) cs) w = .go (G (b.atR a (.inRegion ops (Region.schedule (P.follows .mixedOrders) ops (w.tape w.drawn (.order b.fn id))) :: k)) cs) { w with drawn := w.drawn + 1 } := by
  simp [G, stepG, stepG.exec, Frame.atR, choose, Sem.run, Question.forced, Question.cut]
theorem qL {ops : Array Oper} {i : Nat} {rest : List Nat} {o : Oper} (ho : ops[i]? = some o) (hw : Region.wanted o (yielded ops a.tmps) = true) (hnd : b.roundOf = none ∨ notDef o = true) :
    stepG P main (G (b.atR a (.inRegion ops (i :: rest) :: k)) cs) w = stepG.apply P true (b.atR a (.inRegion ops (i :: rest) :: k)) cs none (execOp a.eval o) w := by
  have he := Frame.eval_atR b a (.inRegion ops (i :: rest) :: k); simp only [Frame.atR] at he
  have e2 : stepG P main (G (b.atR a (.inRegion ops (i :: rest) :: k)) cs) w = stepG.apply P true (b.atR a (.inRegion ops (i :: rest) :: k)) cs none (o.semAt b.roundOf a.eval) w := by
    simp only [G, stepG, stepG.exec, stepG.oper, Frame.oper?, Frame.atR, ho, hw, he, Option.map_some, Option.getD_some, if_true, Oper.semAt]
    cases b.roundOf <;> cases o.op <;> rfl
  rw [e2]
  rcases hnd with h | h
  · rw [h, Oper.semAt_none]
  rw [Oper.semAt_eq _ _ _ fun c hc => by unfold notDef at h; rw [hc] at h; cases h]
theorem sj3 {ops : Array Oper} {i : Nat} {rest : List Nat} {o : Oper} (ho : ops[i]? = some o) (v : Value) : (b.atR a (.inRegion ops (i :: rest) :: k)).finish v = b.atR (a.put o.dst v) (.inRegion ops rest :: k) := by rw [Frame.finish_atR, ho]; rfl
variable {ops : Array Oper} {i : Nat} {rest : List Nat} {o : Oper} {v : Value} {w' : World}
theorem qz0 (ho : ops[i]? = some o) (hw : Region.wanted o (yielded ops a.tmps) = true) (hk : b.kind ≠ .early) (hnd : b.roundOf = none ∨ notDef o = true) (hr : (execOp a.eval o).run P w = .ok (.value v) w') :
    stepG P main (G (b.atR a (.inRegion ops (i :: rest) :: k)) cs) w = .go (G (b.atR (a.put o.dst v) (.inRegion ops rest :: k)) cs) w' (listed P b.fn a o w) := by
  have hk' : (b.kind == CallKind.early) = false := by simpa using hk
  rw [qL ho hw hnd, ← sj3 ho]
  simp [stepG.apply, hr, G, Frame.atR, hk', GStep.after, listed]
theorem sR_none (ho : ops[i]? = some o) (hw : Region.wanted o (yielded ops a.tmps) = true) (hk : b.kind ≠ .early) (hnd : b.roundOf = none ∨ notDef o = true) (hr : (execOp a.eval o).run P w = .ok .skip w') :
    stepG P main (G (b.atR a (.inRegion ops (i :: rest) :: k)) cs) w = .go (G (b.atR (a.put o.dst undef) (.inRegion ops rest :: k)) cs) w' (listed P b.fn a o w) := by
  have hk' : (b.kind == CallKind.early) = false := by simpa using hk
  rw [qL ho hw hnd, ← sj3 ho]
  simp [stepG.apply, hr, G, Frame.atR, hk', GStep.after, listed]
theorem sR_comm {cases : Array CommCase} {blocking : Bool} {shape : CommShape} (ho : ops[i]? = some o) (hw : Region.wanted o (yielded ops a.tmps) = true) (hk : b.kind ≠ .early) (hnd : b.roundOf = none ∨ notDef o = true) (hr : (execOp a.eval o).run P w = .ok (.comm cases blocking shape) w') :
    stepG P main (G (b.atR a (.inRegion ops (i :: rest) :: k)) cs) w = .comm (G (b.atR a (.inRegion ops (i :: rest) :: k)) cs) cases blocking shape w' (listed P b.fn a o w) := by
  have hk' : (b.kind == CallKind.early) = false := by simpa using hk
  rw [qL ho hw hnd]
  simp [stepG.apply, hr, G, Frame.atR, hk', GStep.after, listed]
theorem qz4 {f : FuncId} {args : Array Value} (ho : ops[i]? = some o) (hw : Region.wanted o (yielded ops a.tmps) = true) (hk : b.kind ≠ .early) (hnd : b.roundOf = none ∨ notDef o = true) (hr : (execOp a.eval o).run P w = .ok (.enter f args) w') :
    stepG P main (G (b.atR a (.inRegion ops (i :: rest) :: k)) cs) w = .go (G (Frame.enter P f args .normal) (b.atR a (.inRegion ops (i :: rest) :: k) :: cs)) w' (listed P b.fn a o w) := by
  have hk' : (b.kind == CallKind.early) = false := by simpa using hk
  rw [qL ho hw hnd]
  simp [stepG.apply, hr, G, Frame.atR, hk', GStep.after, listed]
theorem qz2 {l : Nat} {f : FuncId} {tmps : Array Value} {assign body : Code} (ho : ops[i]? = some o) (hw : Region.wanted o (yielded ops a.tmps) = true) (hk : b.kind ≠ .early) (hnd : b.roundOf = none ∨ notDef o = true) (hr : (execOp a.eval o).run P w = .ok (.round l f tmps assign body) w') :
    stepG P main (G (b.atR a (.inRegion ops (i :: rest) :: k)) cs) w = .go (G (Frame.round l f tmps assign body .normal) (b.atR a (.inRegion ops (i :: rest) :: k) :: cs)) w' (listed P b.fn a o w) := by
  have hk' : (b.kind == CallKind.early) = false := by simpa using hk
  rw [qL ho hw hnd]
  simp [stepG.apply, hr, G, Frame.atR, hk', GStep.after, listed]
theorem kq2 (ho : ops[i]? = some o) (hw : Region.wanted o (yielded ops a.tmps) = false) :
    stepG P main (G (b.atR a (.inRegion ops (i :: rest) :: k)) cs) w = .go (G (b.atR (a.put o.dst undef) (.inRegion ops rest :: k)) cs) w #[] := by
  rw [← sj3 ho]
  simp [G, stepG, stepG.exec, Frame.atR, ho, hw]
end
end Go.W
end
section
namespace Go.W
open Go Go.Conc
section
variable {P : Program} {b : Frame} {a : Act} {k : List Item} {cs : List Frame} {w : World} {Goal : Goroutine → World → Prop}
/-! ### Calls -/
def Lv (P : Program) (fr : Frame) (w : World) (v : Value) : Prop :=
  fr.mode = .returning ∧ fr.defers = [] ∧ fr.kind = .normal ∧ ∃ fn, P.funcs[fr.fn]? = some fn ∧ ∀ d, (results fn fr.tmps).run P (w.at d) = .ok v (w.at d)
def CallsB (P : Program) (f : FuncId) (args : Array Value) (w : World) (R : Value → World → Prop) : Prop :=
  ∀ (cs : List Frame) (Goal : Goroutine → World → Prop), (∀ fr v w', fr.fn = f → R v w' → Lv P fr w' v → Co P (G fr cs) w' Goal) → Co P (G (Frame.enter P f args .normal) cs) w Goal
theorem CallsB.mono {f : FuncId} {args : Array Value} {R R' : Value → World → Prop} (h : CallsB P f args w R) (hr : ∀ v w', R v w' → R' v w') : CallsB P f args w R' :=
  fun cs Goal k => h cs Goal fun fr v w' h0 h1 h2 => k fr v w' h0 (hr _ _ h1) h2
theorem CallsB.at {f : FuncId} {args : Array Value} {R : Value → World → Prop} (h : CallsB P f args w R) (d : Nat) : CallsB P f args (w.at d) R := fun cs Goal k => lC (h cs Goal k) d
def Pn (P : Program) (fr : Frame) (ch : List PanicEntry) : Prop := fr.mode = .panicking ch ∧ fr.defers = [] ∧ fr.kind = .normal ∧ ∃ fn, P.funcs[fr.fn]? = some fn
def CallsE (P : Program) (f : FuncId) (args : Array Value) (w : World) (R : Value → World → Prop) (D : List PanicEntry → World → Prop) : Prop :=
  ∀ (cs : List Frame) (Goal : Goroutine → World → Prop), (∀ fr v w', fr.fn = f → R v w' → Lv P fr w' v → Co P (G fr cs) w' Goal) → (∀ fr ch w', D ch w' → Pn P fr ch → Co P (G fr cs) w' Goal) → Co P (G (Frame.enter P f args .normal) cs) w Goal
theorem CallsE.mono {f : FuncId} {args : Array Value} {R R' : Value → World → Prop} {D D' : List PanicEntry → World → Prop} (h : CallsE P f args w R D) (hr : ∀ v w', R v w' → R' v w') (hd : ∀ ch w', D ch w' → D' ch w') : CallsE P f args w R' D' :=
  fun cs Goal k k2 => h cs Goal (fun fr v w' h0 h1 h2 => k fr v w' h0 (hr _ _ h1) h2) fun fr ch w' h1 h2 => k2 fr ch w' (hd _ _ h1) h2
theorem CallsB.E {f : FuncId} {args : Array Value} {R : Value → World → Prop} {D : List PanicEntry → World → Prop} (h : CallsB P f args w R) : CallsE P f args w R D := fun cs Goal k _ => h cs Goal k
theorem CallsE.B {f : FuncId} {args : Array Value} {R : Value → World → Prop} (h : CallsE P f args w R fun _ _ => False) : CallsB P f args w R := fun cs Goal k => h cs Goal k fun _ _ _ h => h.elim
def RoundB (P : Program) (l : Nat) (f : FuncId) (tmps : Array Value) (assign body : Code) (w : World) (R : Value → World → Prop) : Prop :=
  ∀ (c : Frame) (cs : List Frame) (Goal : Goroutine → World → Prop), (∀ v w', R v w' → Co P (G (c.finish v) cs) w' Goal) → Co P (G (Frame.round l f tmps assign body .normal) (c :: cs)) w Goal
theorem RoundB.mono {l : Nat} {f : FuncId} {tmps : Array Value} {assign body : Code} {R R' : Value → World → Prop} (h : RoundB P l f tmps assign body w R) (hr : ∀ v w', R v w' → R' v w') : RoundB P l f tmps assign body w R' :=
  fun c cs Goal k => h c cs Goal fun v w' h1 => k v w' (hr _ _ h1)
theorem co_die {fr c : Frame} {ch : List PanicEntry} (h : Pn P fr ch) (hk : Co P (G (c.raise ch) cs) w Goal) : Co P (G fr (c :: cs)) w Goal := by
  obtain ⟨hm, hd, hn, fn, hf⟩ := h; refine X9 rfl fun d => ⟨_, w.at d, #[], ?_, by simp, lC hk d⟩
  simp [G, stepG, unwind, Frame.catches, hm, hd, hf]
theorem lj8 {fr c : Frame} {v : Value} (h : Lv P fr w v) (hk : Co P (G (c.finish v) cs) w Goal) : Co P (G fr (c :: cs)) w Goal := by
  obtain ⟨hm, hd, hn, fn, hf, hr⟩ := h; refine X9 rfl fun d => ⟨_, w.at d, seen P fr.fn ((results fn fr.tmps).events P (w.at d) #[]), ?_, S9 (D7 (mG fn fr.tmps) _), lC hk d⟩
  simp [G, stepG, unwind, doReturn, hn, hd, hm, hf, hr d, GStep.after]
/-! ### Operations -/
def CommOk (cases : Array CommCase) (shape : CommShape) (w : World) (K : Value → World → Prop) : Prop :=
  (∃ c v z cap buf s r tm, cases = #[scase c v z] ∧ shape = .send ∧ w.heap[c]? = some (.chan cap buf false s r tm) ∧ buf.size < cap ∧
    K undef { w with heap := w.heap.setIfInBounds c (.chan cap (buf.push v) false (s + 1) r tm) }) ∨
  (∃ c z ok cap buf cl s r tm, cases = #[rcase c z] ∧ shape = .recv ok ∧ w.heap[c]? = some (.chan cap buf cl s r tm) ∧ 0 < buf.size ∧
    K (if ok then .tuple #[buf.getD 0 undef, .bool true] else buf.getD 0 undef) { w with heap := w.heap.setIfInBounds c (.chan cap (buf.extract 1 buf.size) cl s (r + 1) tm) })
theorem CommOk.mono {cases : Array CommCase} {shape : CommShape} {K K' : Value → World → Prop} (h : CommOk cases shape w K) (hk : ∀ v w', K v w' → K' v w') : CommOk cases shape w K' := by
  rcases h with ⟨c, v, z, cap, buf, s, r, tm, h1, h2, h3, h4, h5⟩ | ⟨c, z, ok, cap, buf, cl, s, r, tm, h1, h2, h3, h4, h5⟩
  · exact .inl ⟨c, v, z, cap, buf, s, r, tm, h1, h2, h3, h4, hk _ _ h5⟩
  exact .inr ⟨c, z, ok, cap, buf, cl, s, r, tm, h1, h2, h3, h4, hk _ _ h5⟩
def uponB (P : Program) (o : Oper) (a : Act) (K : Act → World → Prop) (Q : Exit → Act → World → Prop) : Result Next → Prop
  | .ok (.value v) w' => K (a.put o.dst v) w'
  | .ok .skip w' => K (a.put o.dst undef) w'
  | .ok (.defer d) w' => K ({ a with defers := d :: a.defers }.put o.dst undef) w'
  | .ok (.enter f args) w' => CallsE P f args w' (fun v w'' => K (a.put o.dst v) w'') fun ch w'' => Q (.panic ch) a w''
  | .ok (.round l f tmps assign body) w' => RoundB P l f tmps assign body w' fun v w'' => K (a.put o.dst v) w''
  | .ok (.comm cases blocking shape) w' => CommOk cases shape w' fun v w'' => K (a.put o.dst v) w''
  | .halt (.panic v) w' => Q (.panic [{ v, recovered := false }]) a w'
  | _ => False
section
variable {Q Q' : Exit → Act → World → Prop}
theorem sT (o : Oper) (K : Act → World → Prop) (v : Value) : uponB P o a K Q (.ok (.value v) w) = K (a.put o.dst v) w := rfl
theorem lq7 (o : Oper) (K : Act → World → Prop) : uponB P o a K Q (.ok .skip w) = K (a.put o.dst undef) w := rfl
theorem jz9 (o : Oper) (K : Act → World → Prop) (d : Deferred) : uponB P o a K Q (.ok (.defer d) w) = K ({ a with defers := d :: a.defers }.put o.dst undef) w := rfl
theorem sU (o : Oper) (K : Act → World → Prop) (f : FuncId) (args : Array Value) : uponB P o a K Q (.ok (.enter f args) w) = CallsE P f args w (fun v w'' => K (a.put o.dst v) w'') fun ch w'' => Q (.panic ch) a w'' := rfl
theorem jz8 (o : Oper) (K : Act → World → Prop) (v : Value) : uponB P o a K Q (.halt (.panic v) w) = Q (.panic [{ v, recovered := false }]) a w := rfl
theorem lq8 {o : Oper} {K K' : Act → World → Prop} (h : ∀ a w, K a w → K' a w) (hq : ∀ ch a w, Q (.panic ch) a w → Q' (.panic ch) a w) {r : Result Next} (hh : uponB P o a K Q r) : uponB P o a K' Q' r := by
  cases r with
  | ok n w' =>
    cases n with
    | value v => exact h _ _ hh
    | skip => exact h _ _ hh
    | defer d => exact h _ _ hh
    | enter f args => exact CallsE.mono (R := fun v w'' => K (a.put o.dst v) w'') (D := fun ch w'' => Q (.panic ch) a w'') hh (fun _ _ hk => h _ _ hk) fun _ _ hk => hq _ _ _ hk
    | round l f tmps assign body => exact RoundB.mono (R := fun v w'' => K (a.put o.dst v) w'') hh fun _ _ hk => h _ _ hk
    | comm cs b s => exact CommOk.mono (K := fun v w'' => K (a.put o.dst v) w'') hh fun _ _ hk => h _ _ hk
    | _ => exact hh
  | halt x w' => cases x <;> first | exact hq _ _ _ hh | exact hh
def owp (P : Program) (o : Oper) (a : Act) (w : World) (K : Act → World → Prop) (Q : Exit → Act → World → Prop) : Prop :=
  ∀ d, (∀ e ∈ (execOp a.eval o).events P (w.at d) #[], Calm e) ∧ uponB P o a K Q ((execOp a.eval o).run P (w.at d))
theorem aq1 {o : Oper} {K K' : Act → World → Prop} (h : ∀ a w, K a w → K' a w) (hq : ∀ ch a w, Q (.panic ch) a w → Q' (.panic ch) a w) (hh : owp P o a w K Q) : owp P o a w K' Q' := fun d => ⟨(hh d).1, lq8 h hq (hh d).2⟩
theorem yB {o : Oper} {K K' : Act → World → Prop} (h : ∀ a w, K a w → K' a w) (hh : owp P o a w K Q) : owp P o a w K' Q := aq1 h (fun _ _ _ h => h) hh
end
theorem U0 {fn : FuncId} {o : Oper} (h : ∀ e ∈ (execOp a.eval o).events P w #[], Calm e) : ∀ e ∈ listed P fn a o w, Calm e := S9 h
theorem vV {gs : Array Goroutine} {c : Nat} {send : Bool} (h : ∀ g ∈ gs, g.status ≠ .blocked) : partners gs c send = [] := by
  unfold partners; rw [List.flatMap_eq_nil_iff]; rintro ⟨g, i⟩ hm
  have hg : g ∈ gs := by
    rw [Array.mem_toList_iff] at hm; obtain ⟨j, hj, e⟩ := Array.mem_iff_getElem.1 hm; simp only [Array.getElem_zipIdx, Prod.mk.injEq] at e; rw [← e.1]; exact Array.getElem_mem _
  have := h g hg
  simp only
  split
  · rename_i h1 _; exact absurd h1 this
  rfl
theorem hq6 {g g₂ g' : Goroutine} {d : Nat} {w₁ w' : World} {cases : Array CommCase} {bl : Bool} {sh : CommShape} {acts : List MemAct} {es : Array Event}
    (hst : stepG P true g (w.at d) = .comm g₂ cases bl sh w₁ es) (hes : ∀ e ∈ es, Calm e)
    (ha : ∀ x ∈ acts, x.touch? = none ∧ x ≠ .mark .disable ∧ x ≠ .mark .enable)
    (hm : ∀ (rest : Rest) (gs : Array Goroutine), (∀ g ∈ gs, g.status ≠ .blocked) → communicate P rest gs 0 g₂ cases bl sh w₁ = (.next { world := w', gs := gs.setIfInBounds 0 g', rest }, (acts.map fun x => ({ g := 0, fn := g₂.frame.fn, pos := g₂.frame.place, act := x } : MemOp)).toArray))
    (k : Co P g' w' Goal) : Turn P g w Goal d := by
  intro gs sl t q B h0 hL hP; have hlt : 0 < gs.size := (Array.getElem?_eq_some_iff.1 h0).1; have hr := runT_crowd_comm (P := P) (sl := sl) h0 (show stepG P (0 == 0) g (w.at d) = _ from hst)
  have hnb : ∀ x ∈ gs.setIfInBounds 0 ph, x.status ≠ .blocked := by
    intro x hx; obtain ⟨j, hj, rfl⟩ := Array.mem_iff_getElem.1 hx
    by_cases h00 : 0 = j
    · subst h00; simp [ph]
    have hj' : j < gs.size := by simpa using hj
    have e1 : (gs.setIfInBounds 0 ph)[j] = gs[j] := Array.getElem_setIfInBounds_ne hj' h00; rw [e1]
    rcases (hL.old j gs[j] (by omega) (Array.getElem?_eq_getElem hj')).status with h1 | h1 <;> rw [h1] <;> simp
  rw [hm _ _ hnb] at hr
  have hset : (gs.setIfInBounds 0 ph).setIfInBounds 0 g' = gs.setIfInBounds 0 g' := by
    apply Array.ext_getElem?
    intro j
    by_cases hj : 0 = j
    · subst hj; simp [hlt]
    simp [Array.getElem?_setIfInBounds_ne hj]
  rw [hset] at hr
  let u : Array MemOp := (acts.map fun x => ({ g := 0, fn := g₂.frame.fn, pos := g₂.frame.place, act := x } : MemOp)).toArray
  obtain ⟨B1, hB1, hlow1⟩ := nj2 B es; obtain ⟨B2, hB2, hlow2⟩ := jj7 B1 acts
  have hu : ∀ op ∈ u, ∃ x ∈ acts, op = { g := 0, fn := g₂.frame.fn, pos := g₂.frame.place, act := x } := by
    intro op hop; simp only [u, List.mem_toArray, List.mem_map] at hop; obtain ⟨x, hx, rfl⟩ := hop; exact ⟨x, hx, rfl⟩
  have hP1 : Past noS B1 (t ++ MemOp.ofEvents 0 g.frame.fn g.frame.place es) := (hP.mono hB1).own fun e he => ⟨fun x _ hs => hs.elim, (hes e he).1, (hes e he).2, hlow1 e he⟩
  have hdeaf : ∀ (t : Trace), Deaf (t ++ u) 0 = Deaf t 0 := by
    intro t
    have hstep : ∀ (l : List MemAct), (∀ x ∈ l, x ≠ .mark .disable ∧ x ≠ .mark .enable) → ∀ d0, (l.map fun x => ({ g := 0, fn := g₂.frame.fn, pos := g₂.frame.place, act := x } : MemOp)).foldl (deafStep 0) d0 = d0 := by
      intro l
      induction l with
      | nil => intro _ d0; rfl
      | cons x l ih =>
        intro hl d0; have hx := hl x (by simp)
        have e1 : deafStep 0 d0 { g := 0, fn := g₂.frame.fn, pos := g₂.frame.place, act := x } = d0 := by
          unfold deafStep
          split
          · rename_i h1; exact absurd h1 hx.1
          · rename_i h1; exact absurd h1 hx.2
          rfl
        rw [List.map_cons, List.foldl_cons, e1]; exact ih (fun y hy => hl y (by simp [hy])) d0
    show Deaf (t ++ (acts.map _).toArray) 0 = _; rw [Deaf_append]; exact hstep acts (fun x hx => (ha x hx).2) _
  have hP2 : Past noS B2 ((t ++ MemOp.ofEvents 0 g.frame.fn g.frame.place es) ++ u) := (hP1.mono hB2).app0 (fun op hop => by obtain ⟨x, _, rfl⟩ := hu op hop; rfl) (fun op hop b hb hs => hs.elim) (hdeaf _) (fun op hop => by obtain ⟨x, hx, rfl⟩ := hu op hop; exact hlow2 x hx); refine ⟨gs.setIfInBounds 0 g', g', w', _, q, B2, sl, hr, by simp [hlt], ⟨fun j x hj hx => ?_, fun j hj => ?_⟩, by rw [← Array.append_assoc]; exact hP2, k⟩
  · have hne : 0 ≠ j := by omega
    rw [Array.getElem?_setIfInBounds_ne hne] at hx
    rw [Deaf_other t (g' := 0) hne _ (fun op hop => by
      rcases Array.mem_append.1 hop with hop | hop
      · obtain ⟨e, _, rfl⟩ := Go.Conc.mem_ofEvents hop; rfl
      obtain ⟨x, _, rfl⟩ := hu op hop; rfl)]
    exact hL.old j x hj hx
  rw [Deaf_other t (g' := 0) (by simp at hj; omega) _ (fun op hop => by
    rcases Array.mem_append.1 hop with hop | hop
    · obtain ⟨e, _, rfl⟩ := Go.Conc.mem_ofEvents hop; rfl
    obtain ⟨x, _, rfl⟩ := hu op hop; rfl)]
  exact hL.above j (by simpa using hj)
theorem pz1 {rest : Rest} {gs : Array Goroutine} {fr : Frame} {c cap s r : Nat} {buf : Array Value} {v z : Value} {tm bl : Bool} (hn : ∀ g ∈ gs, g.status ≠ .blocked) (hc : w.heap[c]? = some (.chan cap buf false s r tm)) (hroom : buf.size < cap) :
    communicate P rest gs 0 (G fr cs) #[scase c v z] bl .send w = (.next { world := { w with heap := w.heap.setIfInBounds c (.chan cap (buf.push v) false (s + 1) r tm) }, gs := gs.setIfInBounds 0 (G (fr.finish undef) cs), rest },
      ([.send c s, .sendDone c s].map fun x => ({ g := 0, fn := (G fr cs).frame.fn, pos := (G fr cs).frame.place, act := x } : MemOp)).toArray) := by
  have hp := vV (c := c) (send := false) hn
  simp [G, communicate, ways, scase, hc, hp, hroom, choose, Sem.run, Question.forced, bind, Sem.bind, pure, Goroutine.finishComm, commResult]
theorem pz2 {rest : Rest} {gs : Array Goroutine} {fr : Frame} {c cap s r : Nat} {buf : Array Value} {z : Value} {tm bl cl ok : Bool} (hn : ∀ g ∈ gs, g.status ≠ .blocked) (hc : w.heap[c]? = some (.chan cap buf cl s r tm)) (hsome : 0 < buf.size) :
    communicate P rest gs 0 (G fr cs) #[rcase c z] bl (.recv ok) w = (.next { world := { w with heap := w.heap.setIfInBounds c (.chan cap (buf.extract 1 buf.size) cl s (r + 1) tm) }, gs := gs.setIfInBounds 0 (G (fr.finish (if ok then .tuple #[buf.getD 0 undef, .bool true] else buf.getD 0 undef)) cs), rest },
      ([.recv c r cap, .recvDone c r].map fun x => ({ g := 0, fn := (G fr cs).frame.fn, pos := (G fr cs).frame.place, act := x } : MemOp)).toArray) := by
  have hp := vV (c := c) (send := true) hn
  cases ok <;> simp [G, communicate, ways, rcase, hc, hp, hsome, choose, Sem.run, Question.forced, bind, Sem.bind, pure, Goroutine.finishComm, commResult]
theorem fin_at {ops : Array Oper} {i : Nat} {rest : List Nat} {o : Oper} (ho : ops[i]? = some o) (v : Value) : (b.atR a (.inRegion ops (i :: rest) :: k)).finish v = b.atR (a.put o.dst v) (.inRegion ops rest :: k) := by rw [Frame.finish_atR, ho]; rfl
theorem co_op {ops : Array Oper} {i : Nat} {rest : List Nat} {o : Oper} {K : Act → World → Prop} {Q : Exit → Act → World → Prop} (hk : b.kind ≠ .early) (hnd : b.roundOf = none ∨ notDef o = true) (ho : ops[i]? = some o) (hw : Region.wanted o (yielded ops a.tmps) = true)
    (h : owp P o a w K Q) (next : ∀ a' w', K a' w' → Co P (G (b.atR a' (.inRegion ops rest :: k)) cs) w' Goal)
    (dies : ∀ ch w', Q (.panic ch) a w' → Co P (G ((b.atR a (.inRegion ops (i :: rest) :: k)).raise ch) cs) w' Goal) : Co P (G (b.atR a (.inRegion ops (i :: rest) :: k)) cs) w Goal := by
  have hk' : b.kind ≠ .early := hk; refine nq0 rfl fun d => ?_; obtain ⟨hev, hup⟩ := h d; generalize hr : (execOp a.eval o).run P (w.at d) = r at hup
  cases r with
  | halt x w' =>
    cases x with
    | panic v =>
      refine pY (g' := G ((b.atR a (.inRegion ops (i :: rest) :: k)).raise [{ v, recovered := false }]) cs) (w' := w') (es := listed P b.fn a o (w.at d)) ?_ (U0 hev) (dies _ _ hup); have h1 : (b.kind == CallKind.early) = false := by simpa using hk'
      rw [qL ho hw hnd]
      simp [stepG.apply, hr, G, Frame.atR, h1, GStep.after, listed]
    | _ => exact hup.elim
  | ok n w' =>
    cases n with
    | value v => exact pY (qz0 ho hw hk' hnd hr) (U0 hev) (next _ _ hup)
    | skip => exact pY (sR_none ho hw hk' hnd hr) (U0 hev) (next _ _ hup)
    | defer dd =>
      have hK : K (Act.put { tmps := a.tmps, defers := dd :: a.defers } o.dst undef) w' := hup; refine pY (g' := G (b.atR ({ a with defers := dd :: a.defers }.put o.dst undef) (.inRegion ops rest :: k)) cs) (w' := w') (es := listed P b.fn a o (w.at d)) ?_ (U0 hev) (next _ _ hK); have h1 : (b.kind == CallKind.early) = false := by simpa using hk'
      have h2 : ({ b.atR a (.inRegion ops (i :: rest) :: k) with defers := dd :: a.defers } : Frame).finish undef = b.atR ({ a with defers := dd :: a.defers }.put o.dst undef) (.inRegion ops rest :: k) := by
        have := Frame.finish_atR b { a with defers := dd :: a.defers } ops i rest k undef; rw [ho] at this; exact this
      rw [qL ho hw hnd, ← h2]
      simp [stepG.apply, hr, G, Frame.atR, h1, GStep.after, listed]
    | enter f args =>
      refine pY (qz4 ho hw hk' hnd hr) (U0 hev) (hup _ _ (fun fr v w'' hfr hK hl => ?_) fun fr ch w'' hD hp => ?_)
      · refine lj8 hl ?_
        rw [fin_at ho]; exact next _ _ hK
      exact co_die hp (dies _ _ hD)
    | round l f tmps assign body =>
      refine pY (qz2 ho hw hk' hnd hr) (U0 hev) (hup _ _ _ fun v w'' hK => ?_); rw [fin_at ho]; exact next _ _ hK
    | comm cases bl sh =>
      have hst := sR_comm (P := P) (main := true) (b := b) (a := a) (k := k) (cs := cs) (rest := rest) ho hw hk' hnd hr
      rcases hup with ⟨c, v, z, cap, buf, s, r, tm, rfl, rfl, hc, hroom, hK⟩ | ⟨c, z, ok, cap, buf, cl, s, r, tm, rfl, rfl, hc, hsome, hK⟩
      · refine hq6 (acts := [.send c s, .sendDone c s]) hst (U0 hev) (by simp [MemAct.touch?]) (fun rest gs hn => pz1 hn hc hroom) ?_
        rw [fin_at ho]; exact next _ _ hK
      refine hq6 (acts := [.recv c r cap, .recvDone c r]) hst (U0 hev) (by simp [MemAct.touch?]) (fun rest gs hn => pz2 hn hc hsome) ?_; rw [fin_at ho]; exact next _ _ hK
    | _ => exact hup.elim
theorem mq9 {ops : Array Oper} {i : Nat} {rest : List Nat} {o : Oper} (ho : ops[i]? = some o) (hw : Region.wanted o (yielded ops a.tmps) = false)
    (next : Co P (G (b.atR (a.put o.dst undef) (.inRegion ops rest :: k)) cs) w Goal) : Co P (G (b.atR a (.inRegion ops (i :: rest) :: k)) cs) w Goal :=
  E0 rfl (fun w => kq2 ho hw) next
theorem mx0 {ops : Array Oper} {i : Nat} {rest : List Nat} (ho : ops[i]? = none) (next : Co P (G (b.atR a (.inRegion ops rest :: k)) cs) w Goal) : Co P (G (b.atR a (.inRegion ops (i :: rest) :: k)) cs) w Goal := by
  refine E0 (g' := G (b.atR a (.inRegion ops rest :: k)) cs) rfl (fun w => ?_) next
  have hfin : (b.atR a (.inRegion ops (i :: rest) :: k)).finish undef = b.atR a (.inRegion ops rest :: k) := by rw [Frame.finish_atR, ho]; rfl
  rw [← hfin]
  simp [G, stepG, stepG.exec, Frame.atR, ho]
/-! ### Lists of operations -/
def wpO (P : Program) (ops : Array Oper) (Q : Exit → Act → World → Prop) (i : Nat) (K : Act → World → Prop) (a : Act) (w : World) : Prop :=
  match ops[i]? with
  | none => K a w
  | some o => if Region.wanted o (yielded ops a.tmps) then owp P o a w K Q else K (a.put o.dst undef) w
theorem qq0 {ops : Array Oper} {Q : Exit → Act → World → Prop} {i : Nat} {K K' : Act → World → Prop} (h : ∀ a w, K a w → K' a w) (hh : wpO P ops Q i K a w) : wpO P ops Q i K' a w := by
  unfold wpO at *
  split
  · rename_i ho; simp only [ho] at hh; exact h _ _ hh
  rename_i o ho
  simp only [ho] at hh
  split
  · rename_i hw; rw [if_pos hw] at hh; exact yB h hh
  rename_i hw; rw [if_neg hw] at hh; exact h _ _ hh
def wpI (P : Program) (ops : Array Oper) (Q : Exit → Act → World → Prop) : List Nat → Act → World → Prop
  | [], a, w => Q .normal a w
  | i :: rest, a, w => wpO P ops Q i (wpI P ops Q rest) a w
def wpL (P : Program) (ops : Array Oper) (Q : Exit → Act → World → Prop) : List Oper → Act → World → Prop
  | [], a, w => Q .normal a w
  | o :: rest, a, w => if Region.wanted o (yielded ops a.tmps) then owp P o a w (wpL P ops Q rest) Q else wpL P ops Q rest (a.put o.dst undef) w
def wpX (P : Program) (md : Region.Mode) (ops : Array Oper) (Q : Exit → Act → World → Prop) : Nat → Array Bool → Act → World → Prop
  | 0, listed, a, w => Region.ready md ops listed = [] ∧ Q .normal a w
  | fuel + 1, listed, a, w =>
    (Region.ready md ops listed = [] → Q .normal a w) ∧
    ∀ i ∈ Region.ready md ops listed, wpO P ops Q i (wpX P md ops Q fuel (listed.setIfInBounds i true)) a w
theorem nq3 {md : Region.Mode} {ops : Array Oper} {Q : Exit → Act → World → Prop} : ∀ (fuel t : Nat) (listed : Array Bool) (a : Act) (w : World), wpX P md ops Q fuel listed a w →
    wpI P ops Q (Region.linearise.go md ops fuel t listed []) a w := by
  intro fuel
  induction fuel with
  | zero => intro t listed a w h; simpa [Region.linearise.go, wpI] using h.2
  | succ fuel ih =>
    intro t listed a w h; obtain ⟨h₀, h₁⟩ := h; simp only [Region.linearise.go]
    change wpI P ops Q (match (Region.ready md ops listed)[t % (Region.ready md ops listed).length]? with
      | some i => Region.linearise.go md ops fuel (t / (Region.ready md ops listed).length) (listed.setIfInBounds i true) [i]
      | none => [].reverse) a w
    cases hi : (Region.ready md ops listed)[t % (Region.ready md ops listed).length]? with
    | none =>
      have hnil : Region.ready md ops listed = [] := by
        cases hr : Region.ready md ops listed with
        | nil => rfl
        | cons x xs =>
          rw [hr] at hi; have hlt : t % (x :: xs).length < (x :: xs).length := Nat.mod_lt _ (by simp)
          simp at hi
          simp at hlt
          omega
      simpa [wpI] using h₀ hnil
    | some i =>
      simp only []; rw [linearise_go_acc, List.reverse_singleton, List.singleton_append]; exact qq0 (fun a w => ih _ _ a w) (h₁ i (List.mem_of_getElem? hi))
theorem jz6 {ops : Array Oper} {Q : Exit → Act → World → Prop} : ∀ (l : List Oper) (i : Nat) (a : Act) (w : World), ops.toList.drop i = l → wpL P ops Q l a w → wpI P ops Q (List.range' i l.length) a w
  | [], i, a, w, _, h => h
  | o :: l, i, a, w, hl, h => by
    have ho : ops[i]? = some o := by
      rw [← Array.getElem?_toList, ← List.head?_drop, hl]; rfl
    have hl' : ops.toList.drop (i + 1) = l := by rw [← List.tail_drop, hl]; rfl
    rw [List.length_cons, List.range'_succ]; show wpO P ops Q i (wpI P ops Q (List.range' (i + 1) l.length)) a w; unfold wpO; simp only [ho]; unfold wpL at h
    split
    · rename_i hw; rw [if_pos hw] at h; exact yB (fun a w h => jz6 l (i + 1) a w hl' h) h
    rename_i hw; rw [if_neg hw] at h; exact jz6 l (i + 1) _ w hl' h
/-! ### Code -/
def Conts (P : Program) (b : Frame) (k : List Item) (cs : List Frame) (Goal : Goroutine → World → Prop) : Exit → Act → World → Prop
  | .normal, a, w => Co P (G (b.atR a k) cs) w Goal
  | .exit id, a, w => ∀ k₁, exitTo id k₁ = exitTo id k → Co P (G (b.atR a (.code (.exit id) :: k₁)) cs) w Goal
  | .goto l, a, w => ∀ k₁, gotoIn l k₁ = gotoIn l k → Co P (G (b.atR a (.code (.goto l) :: k₁)) cs) w Goal
  | .ret, a, w => ∀ k₁, Co P (G (b.atR a (.code .ret :: k₁)) cs) w Goal
  | .panic ch, a, w => ∀ k₁, Co P (G ((b.atR a k₁).raise ch) cs) w Goal
  | .outgrown, _, _ => True
def cwp (rd : Option Nat) (P : Program) (code : Code) (Q : Exit → Act → World → Prop) (a : Act) (w : World) : Prop :=
  ∀ (b : Frame) (k : List Item) (cs : List Frame) (Goal : Goroutine → World → Prop), b.kind ≠ .early → (b.roundOf = rd ∧ (rd = none ∨ nd code = true)) → (∀ e a' w', Q e a' w' → Conts P b k cs Goal e a' w') → Co P (G (b.atR a (.code code :: k)) cs) w Goal
variable {Q Q' : Exit → Act → World → Prop} {rd : Option Nat}
theorem ok_l {x y : Code} (h : b.roundOf = rd ∧ (rd = none ∨ nd (.seq x y) = true)) : b.roundOf = rd ∧ (rd = none ∨ nd x = true) := ⟨h.1, h.2.imp id fun h => by simp [nd] at h; exact h.1⟩
theorem ok_r {x y : Code} (h : b.roundOf = rd ∧ (rd = none ∨ nd (.seq x y) = true)) : b.roundOf = rd ∧ (rd = none ∨ nd y = true) := ⟨h.1, h.2.imp id fun h => by simp [nd] at h; exact h.2⟩
theorem ok_c {c : Operand} {x y : Code} {t : Bool} (h : b.roundOf = rd ∧ (rd = none ∨ nd (.cond c x y) = true)) : b.roundOf = rd ∧ (rd = none ∨ nd (if t then x else y) = true) := ⟨h.1, h.2.imp id fun h => by
  simp [nd] at h
  cases t
  · exact h.2
  exact h.1⟩
theorem rq7 {id : Nat} {ops : Array Oper} {dr : Bool} (h : b.roundOf = rd ∧ (rd = none ∨ nd (.region id ops dr) = true)) : b.roundOf = none ∨ ops.all notDef = true := h.2.imp (fun e => h.1.trans e) fun h => h
theorem gq2 {c : Code} (h : cwp rd P c Q a w) (hq : ∀ e a w, Q e a w → Q' e a w) : cwp rd P c Q' a w := fun b k cs Goal hk ho hc => h b k cs Goal hk ho fun e a' w' hh => hc e a' w' (hq _ _ _ hh)
theorem sq8 (h : Q .normal a w) : cwp rd P .skip Q a w := fun b k cs Goal hk ho hc => E0 rfl (fun _ => sR_skip) (hc .normal a w h)
theorem px5 {l : Nat} (h : Q .normal a w) : cwp rd P (.label l) Q a w := fun b k cs Goal hk ho hc => E0 rfl (fun _ => qz3) (hc .normal a w h)
theorem sx0 {id : Nat} (h : Q (.exit id) a w) : cwp rd P (.exit id) Q a w := fun b k cs Goal hk ho hc => hc (.exit id) a w h k rfl
theorem cwp_ret (h : Q .ret a w) : cwp rd P .ret Q a w := fun b k cs Goal hk ho hc => hc .ret a w h k
theorem nj8 {x y : Code} (h : cwp rd P x (Exit.then (cwp rd P y Q) Q) a w) : cwp rd P (.seq x y) Q a w := fun b k cs Goal hk ho hc =>
  E0 rfl (fun _ => sR_seq) (h b (.code y :: k) cs Goal hk (ok_l ho) fun e a' w' hq => by
    cases e with
    | normal => exact hq b k cs Goal hk (ok_r ho) hc
    | exit id => exact fun k₁ h1 => hc (.exit id) a' w' hq k₁ (h1.trans (by simp [exitTo]))
    | goto l => exact fun k₁ h1 => hc (.goto l) a' w' hq k₁ (h1.trans (by simp [gotoIn]))
    | ret => exact hc .ret a' w' hq
    | panic ch => exact hc (.panic ch) a' w' hq
    | outgrown => trivial)
theorem zS {c : Operand} {x y : Code} {t : Bool} (hc : a.eval c = .bool t) (h : cwp rd P (if t then x else y) Q a w) : cwp rd P (.cond c x y) Q a w := fun b k cs Goal hk ho hq =>
  E0 rfl (fun _ => sR_cond hc) (h b k cs Goal hk (ok_c ho) hq)
theorem gq3 {c : Operand} {x y : Code} {t : Bool} (hc : a.eval c = .bool t) (ht : t = true → cwp rd P x Q a w) (hf : t = false → cwp rd P y Q a w) : cwp rd P (.cond c x y) Q a w := by
  cases t
  · exact zS hc (hf rfl)
  exact zS hc (ht rfl)
theorem px6 {id : Nat} {c : Code} (h : cwp rd P c (Exit.inBlock id Q) a w) : cwp rd P (.block id c) Q a w := fun b k cs Goal hk ho hc =>
  E0 rfl (fun _ => qz5) (h b (.inBlock id :: k) cs Goal hk ho fun e a' w' hq => by
    cases e with
    | normal => exact E0 rfl (fun _ => lz0) (hc .normal a' w' hq)
    | exit id' =>
      intro k₁ h1
      by_cases hid : id' = id
      · subst hid
        simp only [Exit.inBlock, if_true] at hq; refine E0 rfl (fun _ => sR_exit (h1.trans (show exitTo id' (.inBlock id' :: k) = some k by simp [exitTo]))) (hc .normal a' w' hq)
      simp only [Exit.inBlock, hid, if_false] at hq; have : (id == id') = false := by simp; exact fun h => hid h.symm
      exact hc (.exit id') a' w' hq k₁ (h1.trans (by simp [exitTo, this]))
    | goto l => exact fun k₁ h1 => hc (.goto l) a' w' hq k₁ (h1.trans (by simp [gotoIn]))
    | ret => exact hc .ret a' w' hq
    | panic ch => exact hc (.panic ch) a' w' hq
    | outgrown => trivial)
theorem sq9 {c : Code} (I : Nat → Act → World → Prop) (m₀ : Nat) (h₀ : I m₀ a w) (round : ∀ m a w, I m a w → cwp rd P c (Exit.then (fun a' w' => ∃ m', m' < m ∧ I m' a' w') Q) a w) : cwp rd P (.loop c) Q a w := fun b k cs Goal hk ho hc => by
  refine E0 rfl (fun _ => sR_loop) ?_
  have key : ∀ n m a w, m = n → I m a w → Co P (G (b.atR a (.code c :: .inLoop c :: k)) cs) w Goal := by
    intro n
    induction n using Nat.strongRecOn with
    | _ n ih =>
      rintro m a w rfl hI; refine round m a w hI b (.inLoop c :: k) cs Goal hk ho fun e a' w' hq => ?_
      cases e with
      | normal =>
        obtain ⟨m', hlt, hI'⟩ := hq; exact E0 rfl (fun _ => nx7) (ih m' hlt m' a' w' rfl hI')
      | exit id => exact fun k₁ h1 => hc (.exit id) a' w' hq k₁ (h1.trans (by simp [exitTo]))
      | goto l => exact fun k₁ h1 => hc (.goto l) a' w' hq k₁ (h1.trans (by simp [gotoIn]))
      | ret => exact hc .ret a' w' hq
      | panic ch => exact hc (.panic ch) a' w' hq
      | outgrown => trivial
  exact key _ _ a w rfl h₀
def inScope (l : Nat) (J : Act → World → Prop) (Q : Exit → Act → World → Prop) : Exit → Act → World → Prop
  | .goto l', a, w => l' = l ∧ J a w
  | e, a, w => Q e a w
theorem mq3 {body : Code} (h : cwp rd P body (fun e a w => (∀ l, e ≠ .goto l) ∧ Q e a w) a w) : cwp rd P (.scope body) Q a w := fun b k cs Goal hk ho hc => by
  refine E0 rfl (fun _ => qz1) (h b (.inScope body :: k) cs Goal hk ho fun e a' w' hq => ?_)
  cases e with
  | normal => exact E0 rfl (fun _ => lx9) (hc .normal a' w' hq.2)
  | exit id => exact fun k₁ h1 => hc (.exit id) a' w' hq.2 k₁ (h1.trans (by simp [exitTo]))
  | goto l' => exact (hq.1 l' rfl).elim
  | ret => exact hc .ret a' w' hq.2
  | panic ch => exact hc (.panic ch) a' w' hq.2
  | outgrown => trivial
theorem xF {ops : Array Oper} (hk : b.kind ≠ .early) (hno : b.roundOf = none ∨ ops.all notDef = true) (hc : ∀ e a' w', Q e a' w' → Conts P b k cs Goal e a' w') : ∀ (l : List Nat) (a : Act) (w : World), wpI P ops Q l a w → Co P (G (b.atR a (.inRegion ops l :: k)) cs) w Goal
  | [], a, w, h => E0 rfl (fun _ => gz1) (hc .normal a w h)
  | i :: rest, a, w, h => by
    have h' : wpO P ops Q i (wpI P ops Q rest) a w := h; unfold wpO at h'
    cases ho : ops[i]? with
    | none => rw [ho] at h'; exact mx0 ho (xF hk hno hc rest a w h')
    | some o =>
      rw [ho] at h'; simp only at h'
      by_cases hw : Region.wanted o (yielded ops a.tmps) = true
      · rw [if_pos hw] at h'
        exact co_op hk (hno.imp id fun h => by
          rw [Array.all_eq_true_iff_forall_mem] at h
          exact h o (Array.mem_of_getElem? ho)) ho hw h' (fun a' w' hh => xF hk hno hc rest a' w' hh) fun ch w' hq => hc (.panic ch) a w' hq _
      rw [if_neg hw] at h'; exact mq9 ho (by simpa using hw) (xF hk hno hc rest _ w h')
theorem mq4 {id : Nat} {l : List Oper} (h : wpL P l.toArray Q l a w) : cwp rd P (.region id l.toArray false) Q a w := fun b k cs Goal hk ho hc => by
  refine E0 rfl (fun _ => nx6) (xF hk (rq7 ho) hc _ a w ?_); have e : List.range l.toArray.size = List.range' 0 l.length := by simp [List.range_eq_range']
  rw [e]; exact jz6 l 0 a w rfl h
theorem gq1 {id : Nat} {ops : Array Oper} (hm : P.follows .mixedOrders = true) (h : ∀ d, wpX P .any ops Q ops.size (Array.replicate ops.size false) a (w.at d)) : cwp rd P (.region id ops true) Q a w := fun b k cs Goal hk ho hc => by
  refine X9 rfl fun d => ⟨_, _, #[], dq1, by simp, ?_⟩; simp only [Region.schedule, hm, Bool.true_or, if_true]; exact xF hk (rq7 ho) hc _ a _ (nq3 ops.size _ _ a _ (h (d + 1)))
/-! ### A function's body -/
def postB (P : Program) (fn : Func) (R : Value → World → Prop) : Exit → Act → World → Prop
  | .normal, a, w | .ret, a, w => a.defers = [] ∧ ∃ v, (∀ d, (results fn a.tmps).run P (w.at d) = .ok v (w.at d)) ∧ R v w
  | _, _, _ => False
theorem qj0 {f : FuncId} {fn : Func} {c : Code} {args : Array Value} {R : Value → World → Prop} (hf : P.funcs[f]? = some fn) (hb : fn.body = some c)
    (h : cwp none P c (postB P fn R) { tmps := args ++ Array.replicate (fn.ntmps - args.size) undef, defers := [] } w) : CallsB P f args w R := by
  intro cs Goal hk; rw [enter_at args hf hb, ← Frame.atR_of_none (b := base f) rfl]; refine h (base f) [] cs Goal (by simp [base]) ⟨rfl, .inl rfl⟩ fun e a' w' hq => ?_
  cases e with
  | normal =>
    obtain ⟨hd, v, hr, hR⟩ := hq; exact E0 rfl (fun _ => stepG_end) (hk _ v w' rfl hR ⟨rfl, hd, rfl, fn, hf, hr⟩)
  | ret =>
    obtain ⟨hd, v, hr, hR⟩ := hq; exact fun k₁ => E0 rfl (fun _ => stepG_ret') (hk _ v w' rfl hR ⟨rfl, hd, rfl, fn, hf, hr⟩)
  | exit id => exact hq.elim
  | goto l => exact hq.elim
  | panic ch => exact hq.elim
  | outgrown => trivial
end
end Go.W
end
section
namespace Go.W
open Go Go.Conc
set_option maxRecDepth 4000
class QC {α : Type} (s : Sem α) : Prop where
  out : Quiet s
instance {α : Type} (s : String) : QC (stuck s : Sem α) := ⟨kx1 _⟩
instance {α : Type} (s : Unsupported) : QC (unsupported s : Sem α) := ⟨xU _⟩
instance (a : Addr) (m : Mode) : QC (load a m) := ⟨qP _ _⟩
instance (a : Addr) (v : Value) (m : Mode) : QC (store a v m) := ⟨bq3 _ _ _⟩
instance (t : TypeId) : QC (typeInfo t) := ⟨tF _⟩
instance (t : TypeId) : QC (underlying t) := ⟨dW _⟩
instance (t : TypeId) : QC (sizeOf t) := ⟨xV _⟩
instance (t : TypeId) : QC (isAgg t) := ⟨bq4 _⟩
instance (t : TypeId) (a : Addr) : QC (loadVar t a) := ⟨vT _ _⟩
instance (fn : Func) (tmps : Array Value) : QC (results fn tmps) := ⟨mG _ _⟩
theorem aF {α : Type} {c : Prop} [Decidable c] {s t : Sem α} (hs : Quiet s) (ht : Quiet t) : Quiet (if c then s else t) := by
  split
  · exact hs
  exact ht
theorem U9 {α β : Type} {f : α → β → Sem (ForInStep β)} (hf : ∀ a b, Quiet (f a b)) : ∀ (l : List α) (b : β), Quiet (forIn l b f)
  | [], b => by rw [List.forIn_nil]; trivial
  | a :: l, b => by
    rw [List.forIn_cons]; refine n9 (hf a b) fun r => ?_
    cases r with
    | done b => trivial
    | yield b => exact U9 hf l b
theorem dZ {α β : Type} {f : α → β → Sem (ForInStep β)} (hf : ∀ a b, Quiet (f a b)) (l : Array α) (b : β) : Quiet (forIn l b f) := by
  rw [← Array.forIn_toList]; exact U9 hf _ _
theorem dY {β : Type} {f : Nat → β → Sem (ForInStep β)} (hf : ∀ a b, Quiet (f a b)) (r : Std.Legacy.Range) (b : β) : Quiet (forIn r b f) := by
  rw [Std.Legacy.Range.forIn_eq_forIn_range']; exact U9 hf _ _
theorem Y4 {α β : Type} {f : β → α → Sem β} (hf : ∀ b a, Quiet (f b a)) : ∀ (l : List α) (b : β), Quiet (l.foldlM f b)
  | [], b => by rw [List.foldlM_nil]; trivial
  | a :: l, b => by rw [List.foldlM_cons]; exact n9 (hf b a) fun b => Y4 hf l b
theorem k4 {α : Type} {s : Sem α} (h : Quiet s := by repeat' (first | exact trivial | assumption | exact fun _ => trivial | exact QC.out | refine aF ?_ ?_ | refine n9 ?_ fun _ => ?_ | refine dX ?_ | refine bN (fun _ => ?_) _ | refine U9 (fun _ _ => ?_) _ _ | refine dZ (fun _ _ => ?_) _ _ | refine dY (fun _ _ => ?_) _ _ | refine Y4 (fun _ _ => ?_) _ _ | (intro _; done) | split | (show Quiet _; dsimp only))) : Quiet s := h
theorem gz7 {α : Type} (v : Value) : Quiet (goPanic v : Sem α) := by
  trivial
instance {α : Type} (v : Value) : QC (goPanic v : Sem α) := ⟨gz7 _⟩
instance (t : TypeId) : QC (zeroValue t) := ⟨by unfold zeroValue; exact k4⟩
instance (o : Obj) : QC (newObj o) := ⟨by unfold newObj; exact k4⟩
instance (r : Nat) : QC (shape r) := ⟨by unfold shape; exact k4⟩
instance (a : Addr) (n : Nat) : QC (freeze a n) := ⟨by unfold freeze; exact k4⟩
instance (a : Addr) : QC (frozen a) := ⟨by unfold frozen; exact k4⟩
instance (r : Nat) : QC (getObj r) := ⟨by unfold getObj; exact k4⟩
instance (r : Nat) (o : Obj) : QC (setObj r o) := ⟨by unfold setObj; exact k4⟩
instance (q : Question) : QC (choose q) := ⟨by unfold choose; exact k4⟩
instance  : QC (program) := ⟨by unfold program; exact k4⟩
instance (e : TypeId) (cs : Array Value) : QC (newRow e cs) := ⟨by unfold newRow; exact k4⟩
instance (e : TypeId) (v : Value) : QC (newVar e v) := ⟨by unfold newVar; exact k4⟩
instance (t : TypeId) : QC (elemOf t) := ⟨by unfold elemOf; exact k4⟩
instance (t : TypeId) (cs : Array Value) (o : Nat) : QC (part t cs o) := ⟨by unfold part; exact k4⟩
instance {α : Type} (e : RuntimeError) : QC (runtimePanic e : Sem α) := ⟨kG _⟩
instance {α : Type} (k : IntKind) (x y : Int) (c : BoundsCode) : QC (boundsPanic k x y c : Sem α) := ⟨by unfold boundsPanic; exact k4⟩
instance (v : Value) : QC (asIntOf v) := ⟨by unfold asIntOf; exact k4⟩
instance (v : Value) : QC (asInt v) := ⟨by unfold asInt; exact k4⟩
instance (v : Value) : QC (asBool v) := ⟨by unfold asBool; exact k4⟩
instance (v : Value) : QC (asString v) := ⟨by unfold asString; exact k4⟩
instance (v : Value) : QC (asAgg v) := ⟨by unfold asAgg; exact k4⟩
instance (v : Value) : QC (asAddr v) := ⟨xW _⟩
theorem gz8 (n : Nat) : Quiet (askRoom n) := by
  unfold askRoom
  split
  · exact ⟨⟨by simp, by simp⟩, trivial⟩
  trivial
instance (n : Nat) : QC (askRoom n) := ⟨gz8 _⟩
theorem nN (a : Addr) : ∀ (vs : List Value) (i : Nat), Quiet (storeCells a vs i)
  | [], _ => by unfold storeCells; trivial
  | v :: vs, i => by unfold storeCells; exact n9 (bq3 _ _ _) fun _ => nN a vs _
instance (a : Addr) (vs : List Value) (i : Nat) : QC (storeCells a vs i) := ⟨nN _ _ _⟩
instance (a : Addr) (n : Nat) : QC (loadCells a n) := ⟨rY _ _⟩
instance (t : TypeId) (a : Addr) (v : Value) : QC (storeVar t a v) := ⟨by unfold storeVar; exact k4⟩
instance (r : Nat) : QC (viewAt r) := ⟨by unfold viewAt; exact k4⟩
instance (a : Addr) : QC (noView a) := ⟨by unfold noView; exact k4⟩
instance (r : Nat) : QC (numberAt r) := ⟨by unfold numberAt; exact k4⟩
instance (a : Addr) : QC (behindNumber a) := ⟨by unfold behindNumber; exact k4⟩
instance (a : Addr) (l : Bool) : QC (asNumber a l) := ⟨by unfold asNumber; exact k4⟩
instance (a : Addr) : QC (stringish a) := ⟨by unfold stringish; exact k4⟩
instance (a b : Addr) : QC (mayBeOne a b) := ⟨by unfold mayBeOne; exact k4⟩
instance (a b : Addr) : QC (sameAddr a b) := ⟨by unfold sameAddr; exact k4⟩
instance (a b : Option Addr) : QC (samePointer a b) := ⟨by unfold samePointer; exact k4⟩
instance (t : TypeId) : QC (typeStr t) := ⟨by unfold typeStr; exact k4⟩
instance (a : Addr) : QC (byteOf a) := ⟨by unfold byteOf; exact k4⟩
instance (a : Addr) (n m : Nat) : QC (partAt a n m) := ⟨by unfold partAt; exact k4⟩
instance (a : Addr) (f : Field) : QC (fieldPlace a f) := ⟨by unfold fieldPlace; exact k4⟩
instance (v : Value) : QC (Instr.sureAddr v) := ⟨by unfold Instr.sureAddr; exact k4⟩
instance (t : TypeId) (v : Value) : QC (Instr.loadAt t v) := ⟨by unfold Instr.loadAt; exact k4⟩
instance (t : TypeId) (v x : Value) : QC (Instr.storeAt t v x) := ⟨by unfold Instr.storeAt; exact k4⟩
instance (t : TypeId) (v : Value) (n : Nat) : QC (Instr.fieldAt t v n) := ⟨by unfold Instr.fieldAt; exact k4⟩
instance (t : TypeId) (v x : Value) : QC (Instr.indexAt t v x) := ⟨by unfold Instr.indexAt; exact k4⟩
instance (x : Value) (y : Nat) (c : BoundsCode) : QC (Instr.sliceBound x y c) := ⟨by unfold Instr.sliceBound; exact k4⟩
instance (b : Bool) (m n : Nat) (x y z : Option Value) : QC (Instr.sliceBounds b m n x y z) := ⟨by unfold Instr.sliceBounds; exact k4⟩
instance (t : TypeId) (x : Value) (l h m : Option Value) : QC (Instr.slice t x l h m) := ⟨by unfold Instr.slice; exact k4⟩
instance (t : TypeId) (x : Value) (l h m : Option Value) : QC (Instr.sliceAt t x l h m) := ⟨by unfold Instr.sliceAt; exact k4⟩
instance (t : TypeId) (b : Bool) (v : Value) : QC (Instr.alloc t b v) := ⟨by unfold Instr.alloc; exact k4⟩
instance (t : TypeId) (v : Value) : QC (Instr.box t v) := ⟨by unfold Instr.box; exact k4⟩
instance (t : TypeId) (p : Array (Nat × Value)) : QC (Instr.build t p) := ⟨by unfold Instr.build; exact k4⟩
instance (t : TypeId) (n : Nat) (p : Array (Nat × Value)) : QC (Instr.buildSlice t n p) := ⟨by unfold Instr.buildSlice; exact k4⟩
instance (v : Value) : QC (Instr.entry v) := ⟨by unfold Instr.entry; exact k4⟩
instance (v : Value) (n : Nat) : QC (Instr.extract v n) := ⟨by unfold Instr.extract; exact k4⟩
instance (t : TypeId) (v : Value) (n : Nat) : QC (Instr.field t v n) := ⟨by unfold Instr.field; exact k4⟩
instance (t : TypeId) (v x : Value) : QC (Instr.index t v x) := ⟨by unfold Instr.index; exact k4⟩
theorem vU : ∀ (n : Nat) (t : TypeId) (x y : Value), Quiet (Op.equalIn n t x y)
  | 0, t, x, y => by unfold Op.equalIn; trivial
  | n + 1, t, x, y => by
    have ih := vU n; unfold Op.equalIn
    repeat' (first | exact trivial | exact ih _ _ _ | exact fun _ => trivial | exact QC.out | refine aF ?_ ?_ | refine n9 ?_ fun _ => ?_ | refine dX ?_ | refine bN (fun _ => ?_) _ | refine U9 (fun _ _ => ?_) _ _ | refine dZ (fun _ _ => ?_) _ _ | refine dY (fun _ _ => ?_) _ _ | refine Y4 (fun _ _ => ?_) _ _ | (intro _; done) | split | (show Quiet _; dsimp only))
instance (n : Nat) (t : TypeId) (x y : Value) : QC (Op.equalIn n t x y) := ⟨vU _ _ _ _⟩
instance (t : TypeId) (x y : Value) : QC (Op.equal t x y) := ⟨by unfold Op.equal; exact k4⟩
theorem sA : ∀ (n : Nat) (t : TypeId) (x y : Value), Quiet (Op.eqGuardIn n t x y)
  | 0, t, x, y => by unfold Op.eqGuardIn; trivial
  | n + 1, t, x, y => by
    have ih := sA n; unfold Op.eqGuardIn
    repeat' (first | exact trivial | exact ih _ _ _ | exact fun _ => trivial | exact QC.out | refine aF ?_ ?_ | refine n9 ?_ fun _ => ?_ | refine dX ?_ | refine bN (fun _ => ?_) _ | refine U9 (fun _ _ => ?_) _ _ | refine dZ (fun _ _ => ?_) _ _ | refine dY (fun _ _ => ?_) _ _ | refine Y4 (fun _ _ => ?_) _ _ | (intro _; done) | split | (show Quiet _; dsimp only))
instance (n : Nat) (t : TypeId) (x y : Value) : QC (Op.eqGuardIn n t x y) := ⟨sA _ _ _ _⟩
instance (op : BinOp) (t : TypeId) (x y : Operand) (a b : Value) : QC (eqGuard op t x y a b) := ⟨by unfold eqGuard; exact k4⟩
theorem tH (e : Bool) : ∀ (n : Nat) (t : TypeId) (v : Value), Quiet (Instr.checkKey e n t v)
  | 0, t, v => by unfold Instr.checkKey; trivial
  | n + 1, t, v => by
    have ih := tH e n; unfold Instr.checkKey
    repeat' (first | exact trivial | exact ih _ _ | exact fun _ => trivial | exact QC.out | refine aF ?_ ?_ | refine n9 ?_ fun _ => ?_ | refine dX ?_ | refine bN (fun _ => ?_) _ | refine U9 (fun _ _ => ?_) _ _ | refine dZ (fun _ _ => ?_) _ _ | refine dY (fun _ _ => ?_) _ _ | refine Y4 (fun _ _ => ?_) _ _ | (intro _; done) | split | (show Quiet _; dsimp only))
instance (e : Bool) (n : Nat) (t : TypeId) (v : Value) : QC (Instr.checkKey e n t v) := ⟨tH _ _ _ _⟩
theorem nO (t : TypeId) (k : Value) : ∀ (l : List MapEntry) (i : Nat), Quiet (Instr.findAsking t k l i)
  | [], i => by unfold Instr.findAsking; trivial
  | e :: l, i => by
    have ih := nO t k l; unfold Instr.findAsking
    repeat' (first | exact trivial | exact ih _ | exact fun _ => trivial | exact QC.out | refine aF ?_ ?_ | refine n9 ?_ fun _ => ?_ | refine dX ?_ | refine bN (fun _ => ?_) _ | refine U9 (fun _ _ => ?_) _ _ | refine dZ (fun _ _ => ?_) _ _ | refine dY (fun _ _ => ?_) _ _ | refine Y4 (fun _ _ => ?_) _ _ | (intro _; done) | split | (show Quiet _; dsimp only))
instance (t : TypeId) (k : Value) (l : List MapEntry) (i : Nat) : QC (Instr.findAsking t k l i) := ⟨nO _ _ _ _⟩
instance (t : TypeId) (k : Value) (l : List MapEntry) : QC (Instr.findKey t k l) := ⟨by unfold Instr.findKey; exact k4⟩
instance (t : TypeId) (x i : Value) (b : Bool) : QC (Instr.lookup t x i b) := ⟨by unfold Instr.lookup; exact k4⟩
instance (t : TypeId) (v : Value) : QC (Instr.makeChan t v) := ⟨by unfold Instr.makeChan; exact k4⟩
instance (f : Fn) (x y : Array Value) : QC (Instr.makeFunc f x y) := ⟨by unfold Instr.makeFunc; exact k4⟩
instance (t : TypeId) (v : Value) : QC (Instr.makeInterface t v) := ⟨by unfold Instr.makeInterface; exact k4⟩
instance (t : TypeId) (v : Option Value) : QC (Instr.makeMap t v) := ⟨by unfold Instr.makeMap; exact k4⟩
instance (t : TypeId) (l c : Value) : QC (Instr.makeSlice t l c) := ⟨by unfold Instr.makeSlice; exact k4⟩
instance (x y : Value) : QC (Instr.keyThatStays x y) := ⟨by unfold Instr.keyThatStays; exact k4⟩
instance (t : TypeId) (m k x : Value) : QC (Instr.mapUpdate t m k x) := ⟨by unfold Instr.mapUpdate; exact k4⟩
instance (t : TypeId) (m k : Value) : QC (Instr.mapEntry t m k) := ⟨by unfold Instr.mapEntry; exact k4⟩
instance (t : TypeId) (m k x : Value) : QC (Instr.entryStore t m k x) := ⟨by unfold Instr.entryStore; exact k4⟩
instance (v : Value) (b : Bool) (t : TypeId) : QC (Instr.next v b t) := ⟨by unfold Instr.next; exact k4⟩
instance (t : TypeId) (v : Value) : QC (Instr.range t v) := ⟨by unfold Instr.range; exact k4⟩
instance (x : Value) (t u : TypeId) (b : Bool) : QC (Instr.typeAssert x t u b) := ⟨by unfold Instr.typeAssert; exact k4⟩
instance (n : Nat) : QC (Instr.ready n) := ⟨by unfold Instr.ready; exact k4⟩
instance (n : Nat) : QC (Instr.waits n) := ⟨by unfold Instr.waits; exact k4⟩
instance (a : Addr) (n : Nat) : QC (Builtin.holdsCells a n) := ⟨by unfold Builtin.holdsCells; exact k4⟩
instance (s l n : Nat) (b : Option Addr) (x : Value) : QC (Builtin.mayShare s l n b x) := ⟨by unfold Builtin.mayShare; exact k4⟩
instance (x : Value) : QC (Builtin.lenOf x) := ⟨by unfold Builtin.lenOf; exact k4⟩
instance (s n : Nat) (x : Value) : QC (Builtin.firstCells s n x) := ⟨by unfold Builtin.firstCells; exact k4⟩
theorem jj2 : Quiet (mark .noRoom) := ⟨⟨by simp, by simp⟩, trivial⟩
instance  : QC (mark .noRoom) := ⟨jj2 ⟩
instance (ts : Array TypeId) (t : TypeId) (vs : Array Value) : QC (Builtin.append_ ts t vs) := ⟨by unfold Builtin.append_; exact k4⟩
instance (ts : Array TypeId) (t : TypeId) (vs : Array Value) : QC (Builtin.cap_ ts t vs) := ⟨by unfold Builtin.cap_; exact k4⟩
instance (ts : Array TypeId) (t : TypeId) (vs : Array Value) : QC (Builtin.clear_ ts t vs) := ⟨by unfold Builtin.clear_; exact k4⟩
instance (ts : Array TypeId) (t : TypeId) (vs : Array Value) : QC (Builtin.copy_ ts t vs) := ⟨by unfold Builtin.copy_; exact k4⟩
instance (ts : Array TypeId) (t : TypeId) (vs : Array Value) : QC (Builtin.delete_ ts t vs) := ⟨by unfold Builtin.delete_; exact k4⟩
instance (ts : Array TypeId) (t : TypeId) (vs : Array Value) : QC (Builtin.len_ ts t vs) := ⟨by unfold Builtin.len_; exact k4⟩
theorem wI (t : TypeId) (x y : Value) : Quiet (Builtin.unsafeAdd_ #[] t #[x, y]) := by
  unfold Builtin.unsafeAdd_
  cases x <;> (repeat' (first | exact trivial | assumption | exact fun _ => trivial | exact QC.out | refine aF ?_ ?_ | refine n9 ?_ fun _ => ?_ | refine dX ?_ | refine bN (fun _ => ?_) _ | refine U9 (fun _ _ => ?_) _ _ | refine dZ (fun _ _ => ?_) _ _ | refine dY (fun _ _ => ?_) _ _ | refine Y4 (fun _ _ => ?_) _ _ | (intro _; done) | split | (show Quiet _; dsimp only)))
instance (t : TypeId) (x y : Value) : QC (Builtin.unsafeAdd_ #[] t #[x, y]) := ⟨wI _ _ _⟩
instance (t : TypeId) (x y : Value) : QC (movedNumber t x y) := ⟨by unfold movedNumber; exact k4⟩
instance (t : TypeId) (x y : Value) : QC (movedPointer t x y) := ⟨by unfold movedPointer; exact k4⟩
instance (op : BinOp) (k : IntKind) (x y : Int) : QC (Op.intArith op k x y) := ⟨by unfold Op.intArith; exact k4⟩
instance (op : BinOp) (k : IntKind) (x y : Int) : QC (Op.intDiv op k x y) := ⟨by unfold Op.intDiv; exact k4⟩
instance (op : BinOp) (k : IntKind) (x y : Int) : QC (Op.intBits op k x y) := ⟨by unfold Op.intBits; exact k4⟩
instance (op : BinOp) (k : IntKind) (x : Int) (k2 : IntKind) (y : Int) : QC (Op.shift op k x k2 y) := ⟨by unfold Op.shift; exact k4⟩
instance (op : BinOp) (x y : Int) : QC (Op.intCmp op x y) := ⟨by unfold Op.intCmp; exact k4⟩
instance (op : BinOp) (x y : ByteArray) : QC (Op.stringOp op x y) := ⟨by unfold Op.stringOp; exact k4⟩
instance (op : BinOp) (k : FloatKind) (x y : Nat) : QC (Op.floatArith op k x y) := ⟨by unfold Op.floatArith; exact k4⟩
instance (op : BinOp) (k : FloatKind) (x y : Nat) : QC (Op.floatCmp op k x y) := ⟨by unfold Op.floatCmp; exact k4⟩
instance (k : FloatKind) (x : Nat) (l : FloatKind) : QC (Conv.floatToFloat k x l) := ⟨by unfold Conv.floatToFloat; exact k4⟩
instance (op : BinOp) (k : FloatKind) (x y : Nat) : QC (Op.Complex.arith op k x y) := ⟨by unfold Op.Complex.arith; exact k4⟩
instance (op : BinOp) (k : FloatKind) (x y : Nat) : QC (Op.Complex.cmp op k x y) := ⟨by unfold Op.Complex.cmp; exact k4⟩
instance (k : FloatKind) (x : Nat) (l : FloatKind) : QC (Op.Complex.conv k x l) := ⟨by unfold Op.Complex.conv; exact k4⟩
instance (x y : Nat) : QC (Op.Complex.add x y) := ⟨by unfold Op.Complex.add; exact k4⟩
instance (x y : Nat) : QC (Op.Complex.sub x y) := ⟨by unfold Op.Complex.sub; exact k4⟩
instance (x y : Nat) : QC (Op.Complex.mul x y) := ⟨by unfold Op.Complex.mul; exact k4⟩
instance (x y : Nat) : QC (Op.Complex.quo x y) := ⟨by unfold Op.Complex.quo; exact k4⟩
instance (a b c d : Nat) : QC (Op.Complex.product a b c d) := ⟨by unfold Op.Complex.product; exact k4⟩
instance (s a b c d : Nat) : QC (Op.Complex.corrected s a b c d) := ⟨by unfold Op.Complex.corrected; exact k4⟩
instance (a b c d : Nat) : QC (Op.Complex.quotient a b c d) := ⟨by unfold Op.Complex.quotient; exact k4⟩
instance (op : BinOp) (k : FloatKind) (a b c d : Nat) : QC (Op.complexOp op k a b c d) := ⟨by unfold Op.complexOp; exact k4⟩
instance (a b : Addr) : QC (Op.twoPlaces a b) := ⟨by unfold Op.twoPlaces; exact k4⟩
instance (k : IntKind) (a b : Addr) : QC (Op.addrSub k a b) := ⟨by unfold Op.addrSub; exact k4⟩
instance (op : BinOp) (a b : Addr) : QC (Op.addrCmp op a b) := ⟨by unfold Op.addrCmp; exact k4⟩
instance (k : IntKind) (a : Addr) (n : Int) : QC (Op.addrMod k a n) := ⟨by unfold Op.addrMod; exact k4⟩
instance (a : Addr) : QC (markStringish a) := ⟨by unfold markStringish; exact k4⟩
instance (k : IntKind) (n : Int) : QC (Conv.intToInt k n) := ⟨by unfold Conv.intToInt; exact k4⟩
instance (k : FloatKind) (n : Int) : QC (Conv.intToFloat k n) := ⟨by unfold Conv.intToFloat; exact k4⟩
instance (k : FloatKind) (n : Nat) (l : IntKind) : QC (Conv.floatToInt k n l) := ⟨by unfold Conv.floatToInt; exact k4⟩
instance (k : FloatKind) (x y : Nat) (l : FloatKind) : QC (Conv.complexToComplex k x y l) := ⟨by unfold Conv.complexToComplex; exact k4⟩
instance (n : Int) : QC (Conv.intToString n) := ⟨by unfold Conv.intToString; exact k4⟩
instance (t : TypeId) (s : ByteArray) : QC (Conv.stringToBytes t s) := ⟨by unfold Conv.stringToBytes; exact k4⟩
instance (t : TypeId) (s : ByteArray) : QC (Conv.stringToRunes t s) := ⟨by unfold Conv.stringToRunes; exact k4⟩
instance (v : Value) : QC (Conv.bytesToString v) := ⟨by unfold Conv.bytesToString; exact k4⟩
instance (v : Value) : QC (Conv.runesToString v) := ⟨by unfold Conv.runesToString; exact k4⟩
instance (r : Nat) : QC (cellsIn r) := ⟨by unfold cellsIn; exact k4⟩
instance (a : Addr) (u : TypeId) (n : Nat) : QC (variablesAt a u n) := ⟨by unfold variablesAt; exact k4⟩
instance (a : Addr) : QC (Conv.seenAt a) := ⟨by unfold Conv.seenAt; exact k4⟩
instance (s t : TypeId) (v : Value) : QC (Conv.unsafePointer s t v) := ⟨by unfold Conv.unsafePointer; exact k4⟩
instance (s t : TypeId) (v : Value) : QC (convert s t v) := ⟨by unfold convert; exact k4⟩
instance (op : BinOp) (t : TypeId) (x y : Value) : QC (binOp op t x y) := ⟨by unfold binOp; exact k4⟩
instance (op : UnOp) (x : Value) : QC (Op.unary op x) := ⟨by unfold Op.unary; exact k4⟩
instance (x y : Value) : QC (Builtin.max2 x y) := ⟨by unfold Builtin.max2; exact k4⟩
instance (x y : Value) : QC (Builtin.min2 x y) := ⟨by unfold Builtin.min2; exact k4⟩
instance (a : Addr) (u : TypeId) (n : Nat) : QC (variablesAt a u n) := ⟨by unfold variablesAt; exact k4⟩
theorem rZ : ∀ (n : Nat) (a : Addr) (b : ByteArray), Quiet (loadBytes a b n)
  | 0, a, b => by unfold loadBytes; trivial
  | n + 1, a, b => by
    have ih := rZ n; unfold loadBytes; refine n9 (qP _ _) fun _ => ?_
    split <;> first | exact ih _ _ | trivial
instance (a : Addr) (b : ByteArray) (n : Nat) : QC (loadBytes a b n) := ⟨rZ _ _ _⟩
instance (ts : Array TypeId) (t : TypeId) (vs : Array Value) : QC (Builtin.unsafeSliceData_ ts t vs) := ⟨by
  unfold Builtin.unsafeSliceData_; obtain ⟨l⟩ := vs
  rcases l with _ | ⟨v, _ | ⟨u, l⟩⟩
  · exact k4
  · cases v with
    | slice p n c => cases p <;> exact k4
    | _ => exact k4
  cases v with
  | slice p n c => cases p <;> exact k4
  | _ => exact k4⟩
instance (ts : Array TypeId) (t : TypeId) (vs : Array Value) : QC (Builtin.unsafeString_ ts t vs) := ⟨by
  unfold Builtin.unsafeString_
  split
  · obtain ⟨l⟩ := vs
    rcases l with _ | ⟨v, _ | ⟨u, _ | ⟨x, l⟩⟩⟩
    · exact k4
    · cases v <;> exact k4
    · cases v with
      | pointer p => cases p <;> exact k4
      | _ => exact k4
    cases v <;> exact k4
  obtain ⟨l⟩ := vs
  rcases l with _ | ⟨v, _ | ⟨u, _ | ⟨x, l⟩⟩⟩
  · exact k4
  · cases v <;> exact k4
  · cases v <;> exact k4
  cases v <;> exact k4⟩
instance (ts : Array TypeId) (t : TypeId) (vs : Array Value) : QC (Builtin.max_ ts t vs) := ⟨by unfold Builtin.max_; exact k4⟩
instance (ts : Array TypeId) (t : TypeId) (vs : Array Value) : QC (Builtin.min_ ts t vs) := ⟨by unfold Builtin.min_; exact k4⟩
theorem dq9 (t : TypeId) (x : Place) : Quiet (x.get t) := by
  unfold Place.get
  split <;> first | trivial | exact QC.out
instance (t : TypeId) (x : Place) : QC (x.get t) := ⟨dq9 _ _⟩
theorem lO : ∀ (l : List FieldStep) (t : TypeId) (x : Option Value), Quiet (followBlind l t x)
  | [], t, x => by unfold followBlind; trivial
  | s :: l, t, x => by
    have ih := lO l; unfold followBlind
    repeat' (first | exact trivial | exact ih _ _ | exact QC.out | refine aF ?_ ?_ | refine n9 ?_ fun _ => ?_ | split)
theorem tG : ∀ (n : Nat) (t : TypeId) (v : Value) (s : String), Quiet (nilAhead n t v s)
  | 0, t, v, s => by unfold nilAhead; trivial
  | n + 1, t, v, s => by
    have ih := tG n; unfold nilAhead
    repeat' (first | exact trivial | exact ih _ _ _ | exact QC.out | exact lO _ _ _ | refine aF ?_ ?_ | refine n9 ?_ fun _ => ?_ | split)
def okB : Builtin → Bool
  | .append | .cap | .clear | .copy | .delete | .len | .max | .min | .unsafeSliceData | .unsafeString => true
  | _ => false
def okOp (o : Oper) : Bool :=
  match o.op with
  | .move _ | .assign _ | .nilCheck _ | .pick .. | .alloc _ | .box .. | .build .. | .buildSlice .. | .load .. | .store .. | .binOp .. | .unOp .. | .convert .. | .makeInterface .. | .makeFunc .. | .makeMap .. | .makeChan .. | .makeSlice .. | .slice ..
  | .fieldAddr .. | .field .. | .indexAddr .. | .index .. | .lookup .. | .mapUpdate .. | .insert .. | .mapEntry .. | .entryStore .. | .range .. | .next .. | .entry .. | .typeAssert .. | .extract .. | .send .. | .recv .. | .defer _ | .ready _ | .waits _ => true
  | .call ⟨.builtin b, _, _⟩ => okB b
  | _ => false
theorem gz6 (f : Value) (args : Array Value) : Quiet (Deferred.ofValue f args) := by unfold Deferred.ofValue; split <;> trivial
theorem gz5 (ρ : Operand → Value) (c : Call) (t : TypeId) : Quiet (resolve ρ c t) := by
  unfold resolve
  split <;> first | trivial | exact gz6 _ _
theorem cz5 {s : Sem Value} (h : Quiet s) : Quiet (do pure (.value (← s)) : Sem Next) := n9 h fun _ => trivial
theorem quiet_u {s : Sem Unit} (h : Quiet s) : Quiet (do s; pure .skip : Sem Next) := n9 h fun _ => trivial
theorem lz8 (ρ : Operand → Value) (o : Oper) (h : okOp o = true) : Quiet (execOp ρ o) := by
  obtain ⟨dst, op, ty, pos, af, g⟩ := o
  cases op with
  | call c =>
    obtain ⟨cal, aS9, ats⟩ := c
    cases cal with
    | builtin b =>
      show Quiet (do let d ← resolve ρ ⟨.builtin b, aS9, ats⟩ ty; invoke d.target d.args); show Quiet (builtin b ats ty _ _)
      cases b <;> first | exact cz5 QC.out | (simp [okOp, okB] at h; done)
    | _ => simp [okOp] at h
  | move x => trivial
  | assign x => trivial
  | pick a b c => exact n9 QC.out fun _ => trivial
  | makeFunc f x y => exact cz5 QC.out
  | nilCheck x =>
    simp only [execOp]
    repeat' (first | exact trivial | exact QC.out | exact tG _ _ _ _ | refine aF ?_ ?_ | refine n9 ?_ fun _ => ?_ | split)
  | binOp op t x y u => exact cz5 (n9 QC.out fun _ => QC.out)
  | send a b => trivial
  | recv t c b =>
    refine n9 QC.out fun _ => ?_
    split
    · exact n9 QC.out fun _ => trivial
    trivial
  | defer c => exact n9 (gz5 _ _ _) fun _ => trivial
  | _ => first | exact cz5 QC.out | exact quiet_u QC.out | (simp [okOp] at h; done)
theorem bj2 {P : Program} {ρ : Operand → Value} {o : Oper} (h : okOp o = true) (w : World) : ∀ e ∈ (execOp ρ o).events P w #[], Calm e := D7 (lz8 ρ o h) w
end Go.W
end
