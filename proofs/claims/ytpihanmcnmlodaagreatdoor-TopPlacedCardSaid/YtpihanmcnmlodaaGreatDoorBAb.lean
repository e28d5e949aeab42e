/- Texts. -/
import Derived.Orders
import Derived.Test.YtpihanmcnmlodaaGreatDoorBAa
set_option linter.unusedVariables false
set_option linter.unusedSimpArgs false
section
namespace Go.W
open Go Go.RowKit
/-! ### The order of operations -/
def edgesOf (ops : Array Oper) (i : Nat) : List Nat := ((ops[i]?).map fun o => (o.after.toList.filter (Region.binds .any)).map (·.on)).getD []
def deps (ops : Array Oper) : Nat → Nat → Nat → Bool
  | 0, _, _ => false
  | f + 1, i, j => (edgesOf ops i).contains j || (edgesOf ops i).any fun k => deps ops f k j
def noSelect (o : Oper) : Bool := match o.op with | .select .. => false | _ => true
def chk (ops : Array Oper) (m : Nat) : Bool :=
  (List.range ops.size).all (fun i => (edgesOf ops i).all (fun j => Nat.blt j i)) &&
  (List.range m).all (fun i => match ops[i]? with
    | none => false
    | some o => noSelect o && (o.looksAt ops).all (fun t => Nat.blt t 1000000) && (match o.dst with
      | none => true
      | some d => Nat.blt d 1000000 && !(o.looksAt ops).contains d && (List.range m).all (fun j => match ops[j]? with
        | none => false
        | some o' => (Nat.beq i j) || (!(o'.dst == some d) && (if (o'.looksAt ops).contains d then (if Nat.blt i j then deps ops ops.size j i else deps ops ops.size i j) else true))))) &&
  (List.range ops.size).all (fun k => Nat.blt k m || (List.range m).all (fun i => deps ops ops.size k i))
def Closed (ops : Array Oper) (l : Array Bool) : Prop := ∀ i, l.getD i false = true → ∀ j ∈ edgesOf ops i, l.getD j false = true
theorem I3 {ops : Array Oper} {l : Array Bool} (hc : Closed ops l) : ∀ (f i j : Nat), (∀ k ∈ edgesOf ops i, l.getD k false = true) → deps ops f i j = true → l.getD j false = true
  | 0, i, j, _, h => by simp [deps] at h
  | f + 1, i, j, hi, h => by
    rw [deps, Bool.or_eq_true, List.any_eq_true] at h
    rcases h with h | ⟨k, hk, h⟩
    · exact hi j (by simpa using h)
    exact I3 hc f k j (hc k (hi k hk)) h
structure VS where
  β : Type
  inv : β → Prop
  val : β → Value
  L : β → List Fact
structure WS where
  β : Type
  inv : β → Prop
  val : β → Value
  L : β → List Fact
  hp : β → Hp
def Good (b : Bx) (hp : Hp) (w : World) (F : Fact) : Prop := F.P w ∧ (∀ p ∈ hp, ¬ F.fp p.1) ∧ ∀ k, F.fp k → b.w0.heap.size ≤ k ∨ k ∈ b.S0 ∨ b.A0 k
theorem Good.stay {b : Bx} {hp : Hp} {w w' : World} {F : Fact} (h : Good b hp w F) (e : Ext [] w w') : Good b hp w' F :=
  ⟨F.st w w' (fun k hk => e.block k (F.lt w h.1 k hk) (by simp)) h.1, h.2⟩
inductive OS where
  | ex (v : Value)
  | vs (s : VS) (rd : Bool)
  | ws (s : WS) (un : Bool) (lks : List (Tmp × Nat))
  /-- one that only adds blocks -/
  | ad (s : WS)
def ptrOf (hp : Hp) (k : Nat) : Value := .pointer (some ⟨(hp.map (·.1)).getD k 0, 0, none⟩)
def LinkV (ρ : Tmp → Value) (hp : Hp) (lks : List (Tmp × Nat)) : Prop := ∀ p ∈ lks, ρ p.1 = ptrOf hp p.2
def OS.holds (b : Bx) (hp : Hp) (w : World) : OS → Value → Prop
  | .ex v, u => u = v
  | .vs s _, u => ∃ x, s.inv x ∧ u = s.val x ∧ ∀ F ∈ s.L x, Good b hp w F
  | .ad _, _ => True
  | .ws s un _, u => un = false → ∃ x, s.inv x ∧ u = s.val x ∧ ∀ F ∈ s.L x, Good b hp w F
theorem OS.turn {b : Bx} {hp hp' : Hp} {w w' : World} {s : OS} {u : Value} (h : s.holds b hp w u) (e : ∀ F, Good b hp w F → Good b hp' w' F) : s.holds b hp' w' u := by
  cases s with
  | ex v => exact h
  | vs s rd =>
    obtain ⟨x, h1, h2, h3⟩ := h; exact ⟨x, h1, h2, fun F hF => e F (h3 F hF)⟩
  | ad s => trivial
  | ws s un lks =>
    intro hu; obtain ⟨x, h1, h2, h3⟩ := h hu; exact ⟨x, h1, h2, fun F hF => e F (h3 F hF)⟩
def OS.isUn : OS → Bool
  | .ws _ un _ => un
  | _ => false
def DstOK (o : Oper) (d : Tmp) (s : OS) (i : Nat) : Prop := (o.dst = some d ∧ s.isUn = false) ∨ (o.dst = none ∧ s.isUn = true ∧ d = 1000000 + i)
theorem OS.stay {b : Bx} {hp : Hp} {w w' : World} {s : OS} {u : Value} (h : s.holds b hp w u) (e : Ext [] w w') : s.holds b hp w' u := OS.turn h fun F hF => hF.stay e
abbrev Env := List (Tmp × OS)
def lkE : Env → Tmp → Option OS
  | [], _ => none
  | (k, s) :: r, t => if k = t then some s else lkE r t
def Seen (b : Bx) (hp : Hp) (fr : Fr) (E : Env) (w : World) (t : Tmp) (u : Value) : Prop :=
  match lkE E t with
  | some s => s.holds b hp w u
  | none => ∀ v, lk fr t = some v → u = v
structure EnvB (n : Nat) (u : List Tmp) (E : Env) : Prop where
  lt : ∀ p ∈ E, p.2.isUn = false → p.1 < n
  un : ∀ p ∈ E, p.2.isUn = true → 1000000 ≤ p.1
  lk : ∀ t ∈ u, t < 1000000
def StepOK (c : Cx) (ops : Array Oper) (fr : Fr) (hp : Hp) (L : List Fact) (E : Env) (o : Oper) (s : OS) : Prop :=
  ∀ a w, (∀ t v, lk fr t = some v → t < c.n) → EnvB c.n (o.looksAt ops) E → (E.map (·.1)).Nodup → WI c.b w hp L → a.defers = c.D → a.tmps.size = c.n → (∀ t ∈ o.looksAt ops, Seen c.b hp fr E w t (a.tmps.getD t undef)) →
    if Region.wanted o (yielded ops a.tmps) then owp c.P o a w (fun a' w' => ∃ v, a' = a.put o.dst v ∧ Ext [] w w' ∧ s.holds c.b hp w' v) (fun _ _ _ => False) else s.holds c.b hp w undef
def firstW : Env → Option (Tmp × WS × Bool × List (Tmp × Nat))
  | [] => none
  | (d, .ws s un lks) :: _ => some (d, s, un, lks)
  | (_, .ex _) :: E => firstW E
  | (_, .vs _ _) :: E => firstW E
  | (_, .ad _) :: E => firstW E
def TokE (b : Bx) (O0 hp : Hp) (E : Env) (a : Act) (w : World) (O : Hp) : Prop :=
  match firstW E with
  | none => O = O0
  | some (d, s, un, lks) => ∃ x, s.inv x ∧ (un = false → a.tmps.getD d undef = s.val x) ∧ LinkV (fun t => a.tmps.getD t undef) (s.hp x) lks ∧ (∀ F ∈ s.L x, Good b (O ++ hp) w F) ∧ O = s.hp x
def PostW (c : Cx) (O hp : Hp) (L : List Fact) (ρ : Tmp → Value) (lks : List (Tmp × Nat)) (w : World) (s : WS) (un : Bool) (v : Value) (w' : World) : Prop :=
  ∃ x, s.inv x ∧ (un = false → v = s.val x) ∧ LinkV ρ (s.hp x) lks ∧ WI c.b w' (s.hp x ++ hp) L ∧ (∀ F ∈ s.L x, Good c.b (s.hp x ++ hp) w' F) ∧ ∀ F, Good c.b (O ++ hp) w F → Good c.b (s.hp x ++ hp) w' F
def StepW (c : Cx) (ops : Array Oper) (fr : Fr) (O0 hp : Hp) (L : List Fact) (E : Env) (o : Oper) (s : WS) (un : Bool) (lks : List (Tmp × Nat)) : Prop :=
  (∀ p ∈ lks, ∃ s' un' l', (p.1, OS.ws s' un' l') ∈ E) ∧ ∀ a w O, (∀ t v, lk fr t = some v → t < c.n) → EnvB c.n (o.looksAt ops) E → (E.map (·.1)).Nodup → WI c.b w (O ++ hp) L → a.defers = c.D → a.tmps.size = c.n → (∀ t ∈ o.looksAt ops, Seen c.b (O ++ hp) fr E w t (a.tmps.getD t undef)) → TokE c.b O0 hp E a w O →
    if Region.wanted o (yielded ops a.tmps) then owp c.P o a w (fun a' w' => ∃ v, a' = a.put o.dst v ∧ PostW c O hp L (fun t => a.tmps.getD t undef) lks w s un v w') (fun _ _ _ => False) else PostW c O hp L (fun t => a.tmps.getD t undef) lks w s un undef w
def PostA (c : Cx) (O hp : Hp) (L : List Fact) (w : World) (s : WS) (v : Value) (w' : World) : Prop :=
  ∃ x, s.inv x ∧ v = s.val x ∧ WI c.b w' (O ++ (s.hp x ++ hp)) L ∧ ∀ F, Good c.b (O ++ hp) w F → Good c.b (O ++ (s.hp x ++ hp)) w' F
def StepA (c : Cx) (ops : Array Oper) (fr : Fr) (hp : Hp) (L : List Fact) (E : Env) (o : Oper) (s : WS) : Prop :=
  ∀ O a w, (∀ t v, lk fr t = some v → t < c.n) → EnvB c.n (o.looksAt ops) E → (E.map (·.1)).Nodup → WI c.b w (O ++ hp) L → a.defers = c.D → a.tmps.size = c.n → (∀ t ∈ o.looksAt ops, Seen c.b (O ++ hp) fr E w t (a.tmps.getD t undef)) →
    if Region.wanted o (yielded ops a.tmps) then owp c.P o a w (fun a' w' => ∃ v, a' = a.put o.dst v ∧ PostA c O hp L w s v w') (fun _ _ _ => False) else PostA c O hp L w s undef w
def StepX (c : Cx) (ops : Array Oper) (fr : Fr) (O0 hp : Hp) (L : List Fact) (E : Env) (o : Oper) : OS → Prop
  | .ex v => ∀ O, StepOK c ops fr (O ++ hp) L E o (.ex v)
  | .vs s rd => ∀ O, (rd = true → O = O0) → StepOK c ops fr (O ++ hp) L E o (.vs s rd)
  | .ws s un lks => StepW c ops fr O0 hp L E o s un lks
  | .ad s => StepA c ops fr hp L E o s
def HB (c : Cx) (ops : Array Oper) (fr : Fr) (O0 hp : Hp) (L : List Fact) (K : Env → Prop) : List Oper → Env → Prop
  | [], E => K E
  | o :: r, E => ∃ d s, DstOK o d s E.length ∧ (∀ A : Hp, StepX c ops fr O0 (A ++ hp) L E o s) ∧ HB c ops fr O0 hp L K r ((d, s) :: E)
theorem HB.specs {c : Cx} {ops : Array Oper} {fr : Fr} {O0 hp : Hp} {L : List Fact} {K : Env → Prop} : ∀ (l : List Oper) (E : Env), HB c ops fr O0 hp L K l E →
    ∃ S : List (Tmp × OS), S.length = l.length ∧ (∀ i o, l[i]? = some o → ∃ d s, S[i]? = some (d, s) ∧ DstOK o d s (E.length + i) ∧ ∀ A : Hp, StepX c ops fr O0 (A ++ hp) L ((S.take i).reverse ++ E) o s) ∧ K (S.reverse ++ E)
  | [], E, h => ⟨[], rfl, by simp, by simpa [HB] using h⟩
  | o :: r, E, h => by
    obtain ⟨d, s, hd, hs, hr⟩ := h; obtain ⟨S, h1, h2, h3⟩ := HB.specs r _ hr; refine ⟨(d, s) :: S, by simp [h1], fun i o' hi => ?_, by simpa using h3⟩
    cases i with
    | zero =>
      simp at hi
      subst hi; exact ⟨d, s, rfl, hd, by simpa using hs⟩
    | succ i =>
      obtain ⟨d', s', q1, q2, q3⟩ := h2 i o' (by simpa using hi); exact ⟨d', s', by simpa using q1, by rwa [List.length_cons, Nat.add_right_comm] at q2, by simpa using q3⟩
theorem tR {E : Env} {t : Tmp} (h : ∀ p ∈ E, p.1 ≠ t) : lkE E t = none := by
  induction E with
  | nil => rfl
  | cons p r ih => rw [lkE, if_neg (h p (by simp))]; exact ih fun q hq => h q (by simp [hq])
theorem tS {E : Env} {t : Tmp} {s : OS} (h : (t, s) ∈ E) (hn : ∀ p ∈ E, p.1 = t → p.2 = s) : lkE E t = some s := by
  induction E with
  | nil => simp at h
  | cons p r ih =>
    rw [lkE]
    split
    · rename_i e; rw [hn p (by simp) e]
    rename_i e
    rcases List.mem_cons.1 h with rfl | h
    · exact absurd rfl e
    exact ih h fun q hq => hn q (by simp [hq])
theorem hZ {l : Array Bool} {i : Nat} (h : l.getD i true = false) : l.getD i false = false := by
  simp only [Array.getD_eq_getD_getElem?] at *
  cases hx : l[i]? <;> simp_all
theorem hq5 {l : Array Bool} {i : Nat} (h : l.getD i true = false) : i < l.size := by
  rcases Nat.lt_or_ge i l.size with h' | h'
  · exact h'
  simp [Array.getD_eq_getD_getElem?, Array.getElem?_eq_none h'] at h
def unl (l : Array Bool) : Nat := l.toList.countP (fun b => !b)
theorem ij2 {l : Array Bool} {i : Nat} (h : l.getD i true = false) : unl (l.setIfInBounds i true) + 1 = unl l := by
  have hi := hq5 h; have hv : l[i] = false := by simpa [Array.getD_eq_getD_getElem?, hi] using h
  unfold unl; rw [Array.toList_setIfInBounds]; have hlen : i < l.toList.length := by simpa using hi
  have e : l.toList = l.toList.take i ++ l.toList[i] :: l.toList.drop (i + 1) := by
    rw [List.getElem_cons_drop, List.take_append_drop]
  have e2 : l.toList.set i true = l.toList.take i ++ true :: l.toList.drop (i + 1) := List.set_eq_take_append_cons_drop .. |>.trans (by rw [if_pos hlen]); rw [e2]
  conv => rhs; rw [e]
  simp [List.countP_append, List.countP_cons, hv]
  omega
theorem qA {ops : Array Oper} {l : Array Bool} {i : Nat} : i ∈ Region.ready .any ops l ↔ i < ops.size ∧ l.getD i true = false ∧ ∀ j ∈ edgesOf ops i, l.getD j false = true := by
  unfold Region.ready edgesOf; simp only [List.mem_filter, List.mem_range, Bool.and_eq_true, Bool.not_eq_true']
  constructor
  · rintro ⟨h1, h2, h3⟩
    refine ⟨h1, h2, fun j hj => ?_⟩; rw [Array.getElem?_eq_getElem h1] at h3 hj; simp only [Option.map_some, Option.getD_some, List.mem_map, List.mem_filter, Array.mem_toList_iff] at h3 hj; obtain ⟨e, ⟨he, hb⟩, rfl⟩ := hj; have := (Array.all_eq_true_iff_forall_mem.1 h3) e he
    simpa [hb] using this
  rintro ⟨h1, h2, h3⟩; refine ⟨h1, h2, ?_⟩; rw [Array.getElem?_eq_getElem h1] at h3 ⊢; simp only [Option.map_some, Option.getD_some, List.mem_map, List.mem_filter, Array.mem_toList_iff] at h3 ⊢; refine Array.all_eq_true_iff_forall_mem.2 fun e he => ?_
  cases hb : Region.binds .any e
  · simp
  simpa [hb] using h3 e.on ⟨e, ⟨he, hb⟩, rfl⟩
theorem kx1 {P : Program} {o : Oper} {a : Act} {w : World} {K K' : Act → World → Prop} {Q : Exit → Act → World → Prop} (hk : ∀ a' w', K a' w' → K' a' w') (h : o.wp P a w K (fun _ _ _ => False)) : o.wp P a w K' Q := by
  unfold Oper.wp at *; generalize (execOp a.eval o).run P w = r at *
  cases r with
  | ok n w' =>
    cases n <;> simp only [Oper.upon] at h ⊢
    case value => exact hk _ _ h
    case skip => exact hk _ _ h
    case defer => exact hk _ _ h
    case row => exact Rows.mono h fun _ _ he => hk _ _ he
    case enter =>
      refine Calls.mono h fun e w'' he => ?_
      cases e with
      | returned v => exact hk _ _ he
      | panicked ch => exact he.elim
      | outgrown => obtain ⟨_, _, he⟩ := he; exact he.elim
  | halt x w' => cases x <;> simp only [Oper.upon] at h
theorem cE {P : Program} {o : Oper} {a : Act} {w : World} {K K' : Act → World → Prop} {Q : Exit → Act → World → Prop} (hk : ∀ a' w', K a' w' → K' a' w') (h : owp P o a w K (fun _ _ _ => False)) : owp P o a w K' Q := by
  rcases h with h | ⟨h0, l, f, tmps, assign, body, h1, h2⟩
  · exact .inl (kx1 hk h)
  exact .inr ⟨h0, l, f, tmps, assign, body, h1, h2.mono fun e w' ⟨v, e1, h⟩ => ⟨v, e1, hk _ _ h⟩⟩
theorem H4 {l : Array Bool} {i j : Nat} (hi : i < l.size) : (l.setIfInBounds i true).getD j false = if i = j then true else l.getD j false := by
  simp only [Array.getD_eq_getD_getElem?, Array.getElem?_setIfInBounds]
  split
  · subst_vars
    simp [hi]
  rfl
theorem pF {a : Act} {d t : Nat} {v : Value} (hd : d < a.tmps.size) : (a.put (some d) v).tmps.getD t undef = if d = t then v else a.tmps.getD t undef := by
  simp only [Act.put, Array.getD_eq_getD_getElem?, Array.getElem?_setIfInBounds]
  split
  · subst_vars
    simp [hd]
  rfl
theorem gj4 {S : List (Tmp × OS)} {i : Nat} (h : firstW (S.take i).reverse = none) : ∀ (j : Nat) d s un lks, j < i → S[j]? ≠ some (d, OS.ws s un lks) := by
  induction i with
  | zero => intro j d s un lks hj; omega
  | succ i ih =>
    rcases Nat.lt_or_ge i S.length with hi | hi
    · rw [List.take_succ_eq_append_getElem hi, List.reverse_append] at h
      simp only [List.reverse_cons, List.reverse_nil, List.nil_append, List.cons_append] at h; intro j d s un lks hj
      rcases Nat.lt_or_ge j i with h1 | h1
      · refine ih ?_ j d s un lks h1
        cases hx : S[i] with
        | mk d' s' => rw [hx] at h; cases s' <;> first | exact h | cases h
      have : j = i := by omega
      subst this; intro e; rw [List.getElem?_eq_getElem hi] at e
      injection e with e
      rw [e] at h
      cases h
    rw [List.take_of_length_le (by omega)] at h; rw [List.take_of_length_le (by omega)] at ih; intro j d s un lks hj e; have := (List.getElem?_eq_some_iff.1 e).1; exact ih h j d s un lks (by omega) e
theorem gj3 {S : List (Tmp × OS)} {i : Nat} {d : Tmp} {s : WS} {un : Bool} {lks : List (Tmp × Nat)} (h : firstW (S.take i).reverse = some (d, s, un, lks)) : ∃ j, j < i ∧ S[j]? = some (d, OS.ws s un lks) ∧ ∀ (j' : Nat) d' s' un' l', j' < i → S[j']? = some (d', OS.ws s' un' l') → j' ≤ j := by
  induction i with
  | zero => simp [firstW] at h
  | succ i ih =>
    rcases Nat.lt_or_ge i S.length with hi | hi
    · rw [List.take_succ_eq_append_getElem hi, List.reverse_append] at h
      simp only [List.reverse_cons, List.reverse_nil, List.nil_append, List.cons_append] at h
      have old : (∀ d' s' un' l', S[i]? ≠ some (d', OS.ws s' un' l')) → firstW (S.take i).reverse = some (d, s, un, lks) → ∃ j, j < i + 1 ∧ S[j]? = some (d, OS.ws s un lks) ∧ ∀ (j' : Nat) d' s' un' l', j' < i + 1 → S[j']? = some (d', OS.ws s' un' l') → j' ≤ j := by
        intro hne h; obtain ⟨j, h1, h2, h3⟩ := ih h; refine ⟨j, by omega, h2, fun j' d' s' un' l' hj' e => ?_⟩
        rcases Nat.lt_or_ge j' i with h4 | h4
        · exact h3 j' d' s' un' l' h4 e
        have : j' = i := by omega
        subst this; exact absurd e (hne d' s' un' l')
      cases hx : S[i] with
      | mk d' s' =>
        rw [hx] at h
        cases s' with
        | ex v => exact old (by intro d' s' un' l' e; rw [List.getElem?_eq_getElem hi, hx] at e; cases e) h
        | vs v _ => exact old (by intro d' s' un' l' e; rw [List.getElem?_eq_getElem hi, hx] at e; cases e) h
        | ad v => exact old (by intro d' s' un' l' e; rw [List.getElem?_eq_getElem hi, hx] at e; cases e) h
        | ws v u lv =>
          simp only [firstW, Option.some.injEq, Prod.mk.injEq] at h; obtain ⟨rfl, rfl, rfl, rfl⟩ := h; exact ⟨i, by omega, by rw [List.getElem?_eq_getElem hi, hx], fun j' _ _ _ _ hj' _ => by omega⟩
    rw [List.take_of_length_le (by omega)] at h; rw [List.take_of_length_le (by omega)] at ih; obtain ⟨j, h1, h2, h3⟩ := ih h; refine ⟨j, by omega, h2, fun j' d' s' un' l' hj' e => ?_⟩; have := (List.getElem?_eq_some_iff.1 e).1; exact h3 j' d' s' un' l' (by omega) e
def TokI (b : Bx) (O0 hp : Hp) (S : List (Tmp × OS)) (l : Array Bool) (a : Act) (w : World) (O : Hp) : Prop :=
  ((∀ (i : Nat) d s un lks, l.getD i false = true → S[i]? ≠ some (d, OS.ws s un lks)) ∧ O = O0) ∨
    ∃ (i : Nat) (d : Tmp) (s : WS) (un : Bool) (lks : List (Tmp × Nat)) (x : s.β), l.getD i false = true ∧ S[i]? = some (d, OS.ws s un lks) ∧ (∀ (j : Nat) d' s' un' l', l.getD j false = true → S[j]? = some (d', OS.ws s' un' l') → j ≤ i) ∧ (∀ p ∈ lks, ∃ (j : Nat) (s' : OS), S[j]? = some (p.1, s') ∧ l.getD j false = true) ∧ s.inv x ∧ (un = false → a.tmps.getD d undef = s.val x) ∧ LinkV (fun t => a.tmps.getD t undef) (s.hp x) lks ∧ (∀ F ∈ s.L x, Good b (O ++ hp) w F) ∧ O = s.hp x
theorem bz1 {b : Bx} {O0 hp O : Hp} {S : List (Tmp × OS)} {l : Array Bool} {a : Act} {w : World} {i : Nat} (h : TokI b O0 hp S l a w O) (h1 : ∀ (j : Nat) d s un lks, j < i → S[j]? = some (d, OS.ws s un lks) → l.getD j false = true)
    (h2 : ∀ (j : Nat) d s un lks, l.getD j false = true → S[j]? = some (d, OS.ws s un lks) → j < i) : TokE b O0 hp (S.take i).reverse a w O := by
  unfold TokE
  cases hf : firstW (S.take i).reverse with
  | none =>
    have hn := gj4 hf
    rcases h with ⟨_, h⟩ | ⟨k, d, s, un, lks, x, hk, hs, _⟩
    · exact h
    exact absurd hs (hn k d s un lks (h2 k d s un lks hk hs))
  | some p =>
    obtain ⟨d, s, un, lks⟩ := p; obtain ⟨j, hj, hs, hmax⟩ := gj3 hf
    rcases h with ⟨h, _⟩ | ⟨k, d', s', un', l', x, hk, hs', hm, _, h3⟩
    · exact absurd hs (h j d s un lks (h1 j d s un lks hj hs))
    have e1 := hmax k d' s' un' l' (h2 k d' s' un' l' hk hs') hs'; have e2 := hm j d s un lks (h1 j d s un lks hj hs) hs; have : k = j := by omega
    subst this; rw [hs] at hs'; simp only [Option.some.injEq, Prod.mk.injEq, OS.ws.injEq] at hs'; obtain ⟨rfl, rfl, rfl, rfl⟩ := hs'; exact ⟨x, h3⟩
def AddE (l : Array Bool) (a : Act) : Env → Hp → Prop
  | [], A => A = []
  | (d, .ad s) :: E, A => if l.getD E.length false = true then ∃ x A', s.inv x ∧ a.tmps.getD d undef = s.val x ∧ AddE l a E A' ∧ A.Perm (s.hp x ++ A') else AddE l a E A
  | (_, .ex _) :: E, A => AddE l a E A
  | (_, .vs _ _) :: E, A => AddE l a E A
  | (_, .ws _ _ _) :: E, A => AddE l a E A
theorem aF {l l' : Array Bool} {a a' : Act} : ∀ (E : Env) (A : Hp), (∀ i, i < E.length → (∃ d s, E[E.length - 1 - i]? = some (d, OS.ad s)) → l'.getD i false = l.getD i false) → (∀ p ∈ E, (∃ s, p.2 = OS.ad s) → a'.tmps.getD p.1 undef = a.tmps.getD p.1 undef) → AddE l a E A → AddE l' a' E A
  | [], A, _, _, h => h
  | (d, o) :: E, A, h1, h2, h => by
    have h1' : ∀ i, i < E.length → (∃ d s, E[E.length - 1 - i]? = some (d, OS.ad s)) → l'.getD i false = l.getD i false := fun i hi ⟨d', s', hs⟩ => h1 i (by simp; omega) ⟨d', s', by
      rw [show ((d, o) :: E).length - 1 - i = (E.length - 1 - i) + 1 by simp; omega, List.getElem?_cons_succ]; exact hs⟩
    have h2' : ∀ p ∈ E, (∃ s, p.2 = OS.ad s) → a'.tmps.getD p.1 undef = a.tmps.getD p.1 undef := fun p hp => h2 p (by simp [hp])
    cases o with
    | ad s =>
      have e := h1 E.length (by simp) ⟨d, s, by simp⟩; unfold AddE at h ⊢; rw [e]
      split at h
      · rename_i hl
        rw [if_pos hl]; obtain ⟨x, A', q1, q2, q3, q4⟩ := h; exact ⟨x, A', q1, by rw [h2 (d, .ad s) (by simp) ⟨s, rfl⟩]; exact q2, aF E A' h1' h2' q3, q4⟩
      rename_i hl
      rw [if_neg hl]; exact aF E A h1' h2' h
    | ex v => exact aF E A h1' h2' h
    | vs s r => exact aF E A h1' h2' h
    | ws s u lks => exact aF E A h1' h2' h
theorem kP {l l' : Array Bool} {a a' : Act} {i : Nat} {d0 : Tmp} {s0 : WS} {x0 : s0.β} (hx : s0.inv x0) (hv : a'.tmps.getD d0 undef = s0.val x0) (hli : l.getD i false = false) (hli' : l'.getD i false = true) (hl : ∀ j, j ≠ i → l'.getD j false = l.getD j false) : ∀ (E : Env) (A : Hp), i < E.length → E[E.length - 1 - i]? = some (d0, OS.ad s0) → (∀ p ∈ E, p.1 ≠ d0 → a'.tmps.getD p.1 undef = a.tmps.getD p.1 undef) → (E.map (·.1)).Nodup → AddE l a E A → AddE l' a' E (s0.hp x0 ++ A)
  | [], A, hi, _, _, _, h => by simp at hi
  | (d, o) :: E, A, hi, hs, h2, hnd, h => by
    have hnd2 := List.nodup_cons.1 hnd
    by_cases e : i = E.length
    · subst e
      simp at hs
      obtain ⟨rfl, rfl⟩ := hs; unfold AddE at h ⊢; rw [if_pos hli']; rw [if_neg (by rw [hli]; decide)] at h; refine ⟨x0, A, hx, hv, aF E A (fun j hj _ => hl j (by omega)) (fun p hp _ => h2 p (by simp [hp]) (fun e => hnd2.1 (List.mem_map.2 ⟨p, hp, e⟩))) h, List.Perm.refl _⟩
    have hi' : i < E.length := by simp at hi; omega
    have hs' : E[E.length - 1 - i]? = some (d0, OS.ad s0) := by
      rw [show ((d, o) :: E).length - 1 - i = (E.length - 1 - i) + 1 by simp; omega, List.getElem?_cons_succ] at hs; exact hs
    have h2' : ∀ p ∈ E, p.1 ≠ d0 → a'.tmps.getD p.1 undef = a.tmps.getD p.1 undef := fun p hp => h2 p (by simp [hp]); have hne : d ≠ d0 := fun e => hnd2.1 (e ▸ List.mem_map.2 ⟨_, List.mem_of_getElem? hs', rfl⟩)
    cases o with
    | ad s =>
      unfold AddE at h ⊢; rw [hl E.length (fun h => e h.symm)]
      split at h
      · rename_i hll
        rw [if_pos hll]; obtain ⟨x, A', q1, q2, q3, q4⟩ := h; refine ⟨x, s0.hp x0 ++ A', q1, by rw [h2 (d, .ad s) (by simp) hne]; exact q2, kP hx hv hli hli' hl E A' hi' hs' h2' hnd2.2 q3, ?_⟩; refine (List.Perm.append_left _ q4).trans ?_; rw [← List.append_assoc, ← List.append_assoc]; exact List.Perm.append_right _ List.perm_append_comm
      rename_i hll
      rw [if_neg hll]; exact kP hx hv hli hli' hl E A hi' hs' h2' hnd2.2 h
    | ex v => exact kP hx hv hli hli' hl E A hi' hs' h2' hnd2.2 h
    | vs s r => exact kP hx hv hli hli' hl E A hi' hs' h2' hnd2.2 h
    | ws s u lks => exact kP hx hv hli hli' hl E A hi' hs' h2' hnd2.2 h
structure Inv (c : Cx) (ops : Array Oper) (m : Nat) (fr : Fr) (O0 hp : Hp) (L : List Fact) (S : List (Tmp × OS)) (l : Array Bool) (a : Act) (w : World) (O : Hp) : Prop where
  sz : l.size = ops.size
  cl : Closed ops l
  lm : ∀ i, l.getD i false = true → i < m
  wi : WI c.b w (O ++ hp) L
  tk : TokI c.b O0 hp S l a w O
  df : a.defers = c.D
  ts : a.tmps.size = c.n
  old : ∀ t v, (∀ i d s, l.getD i false = true → S[i]? = some (d, s) → d ≠ t) → lk fr t = some v → a.tmps.getD t undef = v
  new : ∀ i d s, l.getD i false = true → S[i]? = some (d, s) → s.holds c.b (O ++ hp) w (a.tmps.getD d undef)
structure ChkF (ops : Array Oper) (m : Nat) (S : List (Tmp × OS)) : Prop where
  back : ∀ i, i < ops.size → ∀ j ∈ edgesOf ops i, j < i
  tail : ∀ k, m ≤ k → k < ops.size → ∀ i, i < m → deps ops ops.size k i = true
  own : ∀ (i : Nat) (d : Tmp) (s : OS) (o : Oper), S[i]? = some (d, s) → ops[i]? = some o → d ∉ o.looksAt ops
  dist : ∀ (i j : Nat) (d : Tmp) (s s' : OS), S[i]? = some (d, s) → S[j]? = some (d, s') → i = j
  use : ∀ (i j : Nat) (d : Tmp) (s : OS) (o : Oper), i < m → j < m → S[i]? = some (d, s) → ops[j]? = some o → d ∈ o.looksAt ops → i ≠ j → (if i < j then deps ops ops.size j i = true else deps ops ops.size i j = true)
  sel : ∀ (i : Nat) (o : Oper), i < m → ops[i]? = some o → noSelect o = true
  le : m ≤ ops.size
  lb : ∀ (i : Nat) (o : Oper), i < m → ops[i]? = some o → ∀ t ∈ o.looksAt ops, t < 1000000
  un : ∀ p ∈ S, p.2.isUn = true → 1000000 ≤ p.1
theorem cx3 {d i : Nat} (h : d < 1000000) (e : d = 1000000 + i) : False := by omega
theorem big_inj {d i j : Nat} (h : d = 1000000 + i) (e : d = 1000000 + j) : i = j := by omega
theorem chkF {ops : Array Oper} {m : Nat} {S : List (Tmp × OS)} (h : chk ops m = true) (hS : S.length = m) (hd : ∀ i o, i < m → ops[i]? = some o → ∃ d s, S[i]? = some (d, s) ∧ DstOK o d s i) : ChkF ops m S := by
  unfold chk at h; simp only [Bool.and_eq_true, List.all_eq_true, List.mem_range] at h; obtain ⟨⟨h1, h2⟩, h3⟩ := h
  have key : ∀ i, i < m → ∃ o, ops[i]? = some o ∧ noSelect o = true ∧ (∀ t ∈ o.looksAt ops, t < 1000000) ∧ ∀ d, o.dst = some d → d < 1000000 ∧ d ∉ o.looksAt ops ∧ ∀ j, j < m → ∃ o', ops[j]? = some o' ∧ (i = j ∨ (o'.dst ≠ some d ∧ (d ∈ o'.looksAt ops → if i < j then deps ops ops.size j i = true else deps ops ops.size i j = true))) := by
    intro i hi; have q := h2 i hi
    cases ho : ops[i]? with
    | none => simp [ho] at q
    | some o =>
      simp only [ho, Bool.and_eq_true, List.all_eq_true] at q; refine ⟨o, rfl, q.1.1, fun t ht => by simpa using q.1.2 t ht, fun d hdo => ?_⟩; have q2 := q.2; simp only [hdo, Bool.and_eq_true, List.all_eq_true, List.mem_range, Bool.not_eq_true', List.contains_eq_mem, decide_eq_false_iff_not] at q2; refine ⟨by simpa using q2.1.1, q2.1.2, fun j hj => ?_⟩; have q3 := q2.2 j hj
      cases ho' : ops[j]? with
      | none => simp [ho'] at q3
      | some o' =>
        refine ⟨o', rfl, ?_⟩; simp only [ho', Bool.or_eq_true, Bool.and_eq_true] at q3
        rcases q3 with q3 | ⟨q4, q5⟩
        · exact .inl (Nat.eq_of_beq_eq_true q3)
        refine .inr ⟨by simpa using q4, fun hu => ?_⟩; rw [if_pos (by simpa using hu)] at q5
        split at q5
        · rename_i hlt
          rw [if_pos (by simpa using hlt)]; exact q5
        rename_i hlt
        rw [if_neg (by simpa using hlt)]; exact q5
  have hle : m ≤ ops.size := by
    rcases Nat.lt_or_ge ops.size m with hlt | hge
    · obtain ⟨o, ho, _⟩ := key ops.size hlt
      simp at ho
    exact hge
  have hSi : ∀ i d s, S[i]? = some (d, s) → i < m ∧ ∃ o, ops[i]? = some o ∧ DstOK o d s i := by
    intro i d s hi
    have hlt : i < m := by
      have := (List.getElem?_eq_some_iff.1 hi).1
      omega
    obtain ⟨o, ho, _⟩ := key i hlt; obtain ⟨d2, s2, hs2, hd2⟩ := hd i o hlt ho; rw [hi] at hs2; simp only [Option.some.injEq, Prod.mk.injEq] at hs2; obtain ⟨rfl, rfl⟩ := hs2; exact ⟨hlt, o, ho, hd2⟩
  refine ⟨fun i hi j hj => ?_, fun k hk hk' i hi => ?_, ?_, ?_, ?_, fun i o hi ho => ?_, hle, fun i o hi ho => ?_, fun p hp hu => ?_⟩
  · have := h1 i hi j hj
    simpa using this
  · have := h3 k hk'
    rw [Bool.or_eq_true, List.all_eq_true] at this
    rcases this with h | h
    · simp at h; omega
    exact h i (by simpa using hi)
  · intro i d s o hs ho
    obtain ⟨hlt, o1, ho1, hd1⟩ := hSi i d s hs; obtain ⟨o', ho', _, hb, hn⟩ := key i hlt; rw [ho] at ho' ho1
    cases ho'
    cases ho1
    rcases hd1 with ⟨hd1, _⟩ | ⟨_, _, hd1⟩
    · exact (hn d hd1).2.1
    intro hm; exact cx3 (hb d hm) hd1
  · intro i j d s s' hi hj
    obtain ⟨hlt, o1, ho1, hd1⟩ := hSi i d s hi; obtain ⟨hlt', o2, ho2, hd2⟩ := hSi j d s' hj; obtain ⟨o', ho', _, _, hall⟩ := key i hlt; obtain ⟨o2', ho2', _, _, hall2⟩ := key j hlt'; rw [ho1] at ho'
    cases ho'
    rw [ho2] at ho2'
    cases ho2'
    rcases hd1 with ⟨hd1, _⟩ | ⟨_, _, e1⟩
    · rcases hd2 with ⟨hd2, _⟩ | ⟨_, _, e2⟩
      · obtain ⟨o3, ho3, h | ⟨h, _⟩⟩ := (hall d hd1).2.2 j hlt'
        · exact h
        rw [ho2] at ho3
        cases ho3
        exact absurd hd2 h
      exact (cx3 (hall d hd1).1 e2).elim
    rcases hd2 with ⟨hd2, _⟩ | ⟨_, _, e2⟩
    · exact (cx3 (hall2 d hd2).1 e1).elim
    exact big_inj e1 e2
  · intro i j d s o hi hj hs ho hu hne
    obtain ⟨_, o1, ho1, hd1⟩ := hSi i d s hs; obtain ⟨o', ho', _, _, hall⟩ := key i hi; obtain ⟨o2', ho2', _, hb, _⟩ := key j hj; rw [ho1] at ho'
    cases ho'
    rw [ho] at ho2'
    cases ho2'
    rcases hd1 with ⟨hd1, _⟩ | ⟨_, _, e1⟩
    · obtain ⟨o3, ho3, h | ⟨_, h⟩⟩ := (hall d hd1).2.2 j hj
      · exact absurd h hne
      rw [ho] at ho3
      cases ho3
      exact h hu
    exact (cx3 (hb d hu) e1).elim
  · obtain ⟨o', ho', hn, _⟩ := key i hi
    rw [ho] at ho'
    cases ho'
    exact hn
  · obtain ⟨o', ho', _, hb, _⟩ := key i hi
    rw [ho] at ho'
    cases ho'
    exact hb
  obtain ⟨i, hi⟩ := List.getElem?_of_mem hp; obtain ⟨_, o, _, h⟩ := hSi i p.1 p.2 hi
  rcases h with ⟨_, h⟩ | ⟨_, _, h⟩
  · rw [h] at hu; cases hu
  rw [h]; exact Nat.le_add_right _ _
theorem uZ {ops : Array Oper} {l : Array Bool} (hb : ∀ i, i < ops.size → ∀ j ∈ edgesOf ops i, j < i) (hsz : l.size = ops.size) {i : Nat} (hi : i < ops.size) (hn : l.getD i false = false) : ∃ k, k ∈ Region.ready .any ops l := by
  induction i using Nat.strongRecOn with
  | _ i ih =>
    by_cases hall : ∀ j ∈ edgesOf ops i, l.getD j false = true
    · refine ⟨i, qA.2 ⟨hi, ?_, hall⟩⟩
      have : i < l.size := by omega
      simpa [Array.getD_eq_getD_getElem?, this] using hn
    simp only [Classical.not_forall] at hall; obtain ⟨j, hj, hf⟩ := hall; have hlt := hb i hi j hj; exact ih j hlt (by omega) (by simpa using hf)
def firstM (n m : Nat) : Array Bool := ((List.range n).map fun i => decide (i < m)).toArray
theorem O8 (n m i : Nat) : (firstM n m).getD i false = decide (i < n ∧ i < m) := by
  simp only [firstM, Array.getD_eq_getD_getElem?]
  by_cases h : i < n <;> simp [h]
theorem wU {l : Array Bool} {n m : Nat} (hsz : l.size = n) (h : ∀ i, i < n → (l.getD i false = true ↔ i < m)) : l = firstM n m := by
  apply Array.ext
  · simp [firstM, hsz]
  intro i h1 h2; have := h i (by omega); have e1 : l.getD i false = l[i] := by simp [h1]
  rw [e1] at this; simp only [firstM, List.getElem_toArray, List.getElem_map, List.getElem_range]
  cases hx : l[i] <;> simp_all
theorem unl_eq {l : Array Bool} {n m : Nat} (h : l = firstM n m) (hm : m ≤ n) : unl l = n - m := by
  subst h; unfold unl firstM; simp only [List.countP_map]
  have : ∀ n, m ≤ n → (List.range n).countP ((fun b => !b) ∘ fun i => decide (i < m)) = n - m := by
    intro n
    induction n with
    | zero => intro h; simp
    | succ n ih =>
      intro h; rw [List.range_succ, List.countP_append]
      by_cases e : m ≤ n
      · rw [ih e]
        simp [List.countP_cons, Nat.not_lt.2 e]
        omega
      have e' : m = n + 1 := by omega
      subst e'
      have : (List.range n).countP ((fun b => !b) ∘ fun i => decide (i < n + 1)) = 0 := by
        rw [List.countP_eq_zero]; intro x hx
        simp at hx ⊢
        omega
      simp [this, List.countP_cons]
  exact this n hm
theorem kq0 {c : Cx} {ops : Array Oper} {m : Nat} {fr : Fr} {O0 hp : Hp} {L : List Fact} {S : List (Tmp × OS)} {Q : Exit → Act → World → Prop} (ck : ChkF ops m S) (hS : S.length = m) (hwr : ∀ (i j : Nat) d d' s s' un un' lks l', S[i]? = some (d, OS.ws s un lks) → S[j]? = some (d', OS.ws s' un' l') → i < j → deps ops ops.size j i = true)
    (hrd : ∀ (i j : Nat) d d' s s' un' l', S[i]? = some (d, OS.vs s true) → S[j]? = some (d', OS.ws s' un' l') → deps ops ops.size j i = true)
    (hspec : ∀ i o, i < m → ops[i]? = some o → ∃ d s, S[i]? = some (d, s) ∧ DstOK o d s i ∧ ∀ A : Hp, StepX c ops fr O0 (A ++ hp) L (S.take i).reverse o s)
    (hend : ∀ a w O A, AddE (firstM ops.size m) a S.reverse A → WI c.b w (O ++ (A ++ hp)) L → a.defers = c.D → a.tmps.size = c.n → (∀ t, Seen c.b (O ++ (A ++ hp)) fr S.reverse w t (a.tmps.getD t undef)) → TokE c.b O0 (A ++ hp) S.reverse a w O → wpX c.P .any ops Q (ops.size - m) (firstM ops.size m) a w)
    (hdn : ∀ p ∈ S, p.2.isUn = false → p.1 < c.n) (hfn : ∀ t v, lk fr t = some v → t < c.n) :
    ∀ (fuel : Nat) (l : Array Bool) (a : Act) (w : World) (O A : Hp), AddE l a S.reverse A → Inv c ops m fr O0 (A ++ hp) L S l a w O → unl l = fuel → wpX c.P .any ops Q fuel l a w := by
  have memS : ∀ i d s, S[i]? = some (d, s) → i < m := fun i d s h => by
    have := (List.getElem?_eq_some_iff.1 h).1
    omega
  have nodupS : ∀ i, ((S.take i).reverse.map (·.1)).Nodup := by
    intro i; rw [List.map_reverse, (List.reverse_perm _).nodup_iff]
    have : (S.map (·.1)).Nodup := by
      unfold List.Nodup; rw [List.pairwise_iff_getElem]; intro p q hp hq hpq e; simp only [List.length_map] at hp hq; simp only [List.getElem_map] at e; have := ck.dist p q S[p].1 S[p].2 S[q].2 (List.getElem?_eq_getElem hp) (by rw [e]; exact List.getElem?_eq_getElem hq)
      omega
    exact this.sublist ((List.take_sublist i S).map _)
  intro fuel
  induction fuel with
  | zero =>
    intro l a w O A hA hI hf
    have hall : ∀ i, i < ops.size → l.getD i false = true := by
      intro i hi
      cases hx : l.getD i false
      · have h2 : l.getD i true = false := by
          have : i < l.size := by have := hI.sz; omega
          simpa [Array.getD_eq_getD_getElem?, this] using hx
        have := ij2 h2
        omega
      rfl
    have hm : m = ops.size := by
      have := ck.le
      rcases Nat.lt_or_ge m ops.size with h | h
      · have := hI.lm m (hall m h); omega
      omega
    have hl : l = firstM ops.size m := wU hI.sz fun i hi => ⟨fun _ => by omega, fun _ => hall i hi⟩
    have htk : TokE c.b O0 (A ++ hp) S.reverse a w O := by
      have := bz1 (i := m) hI.tk (fun j d s _ _ hj _ => hall j (by omega)) (fun j d s _ _ hl _ => hI.lm j hl)
      rwa [List.take_of_length_le (by omega)] at this
    have := hend a w O A (hl ▸ hA) hI.wi hI.df hI.ts (fun t => ?_) htk
    · rw [hm, Nat.sub_self] at this
      rw [hl, hm]; exact this
    unfold Seen
    cases hx : lkE S.reverse t with
    | none =>
      intro v hv; refine hI.old t v (fun i d s hi hs e => ?_) hv; subst e; have hmem : (d, s) ∈ S.reverse := by simpa using List.mem_of_getElem? hs
      rw [tS hmem (fun p hp e => ?_)] at hx
      · cases hx
      obtain ⟨j, hj⟩ := List.getElem?_of_mem (List.mem_reverse.1 hp); obtain ⟨p1, p2⟩ := p; simp only at e; subst e; have := ck.dist i j _ _ _ hs hj; subst this; rw [hs] at hj
      simpa using hj.symm
    | some s =>
      have : ∃ i : Nat, S[i]? = some (t, s) := by
        have hmem : (t, s) ∈ S.reverse := by
          have : ∀ (E : Env), lkE E t = some s → (t, s) ∈ E := by
            intro E
            induction E with
            | nil => intro h; simp [lkE] at h
            | cons p r ih =>
              intro h; rw [lkE] at h
              split at h
              · rename_i e; cases h; simp [← e]
              simp [ih h]
          exact this _ hx
        exact List.getElem?_of_mem (List.mem_reverse.1 hmem)
      obtain ⟨i, hi⟩ := this; exact hI.new i t s (hall i (by have := memS _ _ _ hi; have := ck.le; omega)) hi
  | succ f ih =>
    intro l a w O A hA hI hf
    by_cases hall : ∀ i, i < m → l.getD i false = true
    · have hl : l = firstM ops.size m := wU hI.sz fun i hi => ⟨fun h => hI.lm i h, fun h => hall i h⟩
      have hu := unl_eq hl ck.le
      have htk : TokE c.b O0 (A ++ hp) S.reverse a w O := by
        have := bz1 (i := m) hI.tk (fun j d s _ _ hj _ => hall j hj) (fun j d s _ _ hl _ => hI.lm j hl)
        rwa [List.take_of_length_le (by omega)] at this
      have := hend a w O A (hl ▸ hA) hI.wi hI.df hI.ts (fun t => ?_) htk
      · rw [hl]
        rw [show f + 1 = ops.size - m by omega]; exact this
      unfold Seen
      cases hx : lkE S.reverse t with
      | none =>
        intro v hv; refine hI.old t v (fun i d s hi hs e => ?_) hv; subst e; have hmem : (d, s) ∈ S.reverse := by simpa using List.mem_of_getElem? hs
        rw [tS hmem (fun p hp e => ?_)] at hx
        · cases hx
        obtain ⟨j, hj⟩ := List.getElem?_of_mem (List.mem_reverse.1 hp); obtain ⟨p1, p2⟩ := p; simp only at e; subst e; have := ck.dist i j _ _ _ hs hj; subst this; rw [hs] at hj
        simpa using hj.symm
      | some s =>
        have : ∃ i : Nat, S[i]? = some (t, s) := by
          have hmem : (t, s) ∈ S.reverse := by
            have : ∀ (E : Env), lkE E t = some s → (t, s) ∈ E := by
              intro E
              induction E with
              | nil => intro h; simp [lkE] at h
              | cons p r ih =>
                intro h; rw [lkE] at h
                split at h
                · rename_i e; cases h; simp [← e]
                simp [ih h]
            exact this _ hx
          exact List.getElem?_of_mem (List.mem_reverse.1 hmem)
        obtain ⟨i, hi⟩ := this; exact hI.new i t s (hall i (memS _ _ _ hi)) hi
    simp only [Classical.not_forall] at hall; obtain ⟨i0, hi0, hn0⟩ := hall; refine ⟨fun hr => ?_, fun i hir => ?_⟩
    · obtain ⟨k, hk⟩ := uZ ck.back hI.sz (i := i0) (by have := ck.le; omega) (by simpa using hn0)
      rw [hr] at hk
      simp at hk
    obtain ⟨his, hni, hedge⟩ := qA.1 hir; have hni' := hZ hni
    have him : i < m := by
      rcases Nat.lt_or_ge i m with h | h
      · exact h
      exact absurd (I3 hI.cl _ _ _ hedge (ck.tail i h his i0 hi0)) hn0
    have ho : ops[i]? = some ops[i] := Array.getElem?_eq_getElem his; obtain ⟨d, s, hSi, hdst, hstep⟩ := hspec i _ him ho
    have hput : ∀ v, (a.put ops[i].dst v).defers = c.D ∧ (a.put ops[i].dst v).tmps.size = c.n ∧ (∀ t, d ≠ t → (∃ d' s', (d', s') ∈ S ∧ d' = t) ∨ d < c.n → (a.put ops[i].dst v).tmps.getD t undef = a.tmps.getD t undef) ∧ (s.isUn = false → (a.put ops[i].dst v).tmps.getD d undef = v) := by
      intro v
      rcases hdst with ⟨h1, h2⟩ | ⟨h1, h2, _⟩
      · have hdlt : d < a.tmps.size := by rw [hI.ts]; exact hdn _ (List.mem_of_getElem? hSi) h2
        rw [h1]; exact ⟨hI.df, by simp [Act.put, hI.ts], fun t ht _ => by rw [pF hdlt, if_neg ht], fun _ => by rw [pF hdlt, if_pos rfl]⟩
      rw [h1]; exact ⟨hI.df, hI.ts, fun _ _ _ => rfl, fun h => by rw [h] at h2; cases h2⟩
    have hput2 : ∀ v t, d ≠ t → (a.put ops[i].dst v).tmps.getD t undef = a.tmps.getD t undef := by
      intro v t ht
      rcases hdst with ⟨h1, h2⟩ | ⟨h1, h2, _⟩
      · have hdlt : d < a.tmps.size := by rw [hI.ts]; exact hdn _ (List.mem_of_getElem? hSi) h2
        rw [h1, pF hdlt, if_neg ht]
      rw [h1]; rfl
    have hseen : ∀ t ∈ ops[i].looksAt ops, Seen c.b (O ++ (A ++ hp)) fr (S.take i).reverse w t (a.tmps.getD t undef) := by
      intro t ht; unfold Seen
      by_cases hex : ∃ (j : Nat) (sj : OS), S[j]? = some (t, sj)
      · obtain ⟨j, sj, hj⟩ := hex
        have hjm := memS _ _ _ hj
        have hji : j ≠ i := by
          rintro rfl; exact ck.own j t sj _ hj ho ht
        have hu := ck.use j i t sj _ hjm him hj ho ht hji
        rcases Nat.lt_or_gt_of_ne hji with hlt | hgt
        · rw [if_pos hlt] at hu
          have hlj := I3 hI.cl _ _ _ hedge hu
          have : lkE (S.take i).reverse t = some sj := by
            refine tS ?_ fun p hp e => ?_
            · rw [List.mem_reverse]
              refine List.mem_of_getElem? (i := j) ?_; rw [List.getElem?_take, if_pos hlt, hj]
            obtain ⟨k, hk⟩ := List.getElem?_of_mem (List.mem_reverse.1 hp); rw [List.getElem?_take] at hk
            split at hk
            · obtain ⟨p1, p2⟩ := p
              simp only at e; subst e; have := ck.dist j k _ _ _ hj hk; subst this; rw [hj] at hk
              simpa using hk.symm
            cases hk
          rw [this]; exact hI.new j t sj hlj hj
        rw [if_neg (by omega)] at hu
        have : lkE (S.take i).reverse t = none := by
          refine tR fun p hp e => ?_; obtain ⟨k, hk⟩ := List.getElem?_of_mem (List.mem_reverse.1 hp); rw [List.getElem?_take] at hk
          split at hk
          · rename_i hki
            obtain ⟨p1, p2⟩ := p; simp only at e; subst e; have := ck.dist j k _ _ _ hj hk
            omega
          cases hk
        rw [this]; intro v hv; refine hI.old t v (fun k d' s' hk hs e => ?_) hv; subst e; have := ck.dist j k _ _ _ hj hs; subst this; have := I3 hI.cl _ _ _ (fun q hq => hI.cl j hk q hq) hu; rw [hni'] at this
        cases this
      have : lkE (S.take i).reverse t = none := by
        refine tR fun p hp e => ?_; obtain ⟨k, hk⟩ := List.getElem?_of_mem (List.mem_reverse.1 hp); rw [List.getElem?_take] at hk
        split at hk
        · exact hex ⟨k, p.2, by rw [hk, ← e]⟩
        cases hk
      rw [this]; intro v hv; exact hI.old t v (fun k d' s' hk hs e => hex ⟨k, s', by rw [hs, e]⟩) hv
    have hEn : EnvB c.n (ops[i].looksAt ops) (S.take i).reverse := ⟨fun p hp => hdn p (List.mem_of_mem_take (List.mem_reverse.1 hp)), fun p hp => ck.un p (List.mem_of_mem_take (List.mem_reverse.1 hp)), ck.lb i _ him ho⟩; have hl' : unl (l.setIfInBounds i true) = f := by have := ij2 hni; omega
    have hil : i < l.size := by have := hI.sz; omega
    have next : ∀ v w' O' A', AddE (l.setIfInBounds i true) (a.put ops[i].dst v) S.reverse A' → WI c.b w' (O' ++ (A' ++ hp)) L → s.holds c.b (O' ++ (A' ++ hp)) w' v → (∀ F, Good c.b (O ++ (A ++ hp)) w F → Good c.b (O' ++ (A' ++ hp)) w' F) → TokI c.b O0 (A' ++ hp) S (l.setIfInBounds i true) (a.put ops[i].dst v) w' O' → wpX c.P .any ops Q f (l.setIfInBounds i true) (a.put ops[i].dst v) w' := by
      intro v w' O' A' hA' hwi' hh he htok; refine ih _ _ _ O' A' hA' ?_ hl'; refine { sz := by simp [hI.sz], cl := ?_, lm := ?_, wi := hwi', tk := htok, df := (hput v).1, ts := (hput v).2.1, old := ?_, new := ?_ }
      · intro k hk j hj
        rw [H4 hil] at hk ⊢
        split
        · rfl
        split at hk
        · rename_i e; subst e; exact hedge j hj
        exact hI.cl k hk j hj
      · intro k hk
        rw [H4 hil] at hk
        split at hk
        · omega
        exact hI.lm k hk
      · intro t u hno hu
        have hdt : d ≠ t := hno i d s (by rw [H4 hil, if_pos rfl]) hSi; rw [hput2 v t hdt]; refine hI.old t u (fun k d' s' hk hs => hno k d' s' ?_ hs) hu; rw [H4 hil]
        split
        · rfl
        exact hk
      intro k d' s' hk hs; rw [H4 hil] at hk
      by_cases e : i = k
      · subst e
        rw [hSi] at hs; simp only [Option.some.injEq, Prod.mk.injEq] at hs; obtain ⟨rfl, rfl⟩ := hs
        cases hu : s.isUn
        · rw [(hput v).2.2.2 hu]
          exact hh
        cases s with
        | ex _ => cases hu
        | vs _ _ => cases hu
        | ad _ => cases hu
        | ws s' un l' => intro h; simp only [OS.isUn] at hu; rw [hu] at h; cases h
      rw [if_neg e] at hk
      have hne : d ≠ d' := by
        rintro rfl; exact e (ck.dist i k _ _ _ hSi hs)
      rw [hput2 v d' hne]; exact OS.turn (hI.new k d' s' hk hs) he
    have lset : ∀ j, l.getD j false = true → (l.setIfInBounds i true).getD j false = true := by
      intro j hj; rw [H4 hil]; split
      · rfl
      exact hj
    have offd : ∀ (t : Tmp) (j : Nat) (s' : OS), S[j]? = some (t, s') → l.getD j false = true → d ≠ t := by
      rintro t j s' hj hlj rfl; have := ck.dist i j _ _ _ hSi hj; subst this; rw [hni'] at hlj
      cases hlj
    have keep : (∀ s', s ≠ .ad s') → ∀ v, AddE (l.setIfInBounds i true) (a.put ops[i].dst v) S.reverse A := by
      intro hno v; refine aF S.reverse A (fun j hj ⟨d', s', hs'⟩ => ?_) (fun p hp ⟨s', hs'⟩ => ?_) hA
      · rw [H4 hil]
        split
        · rename_i e
          subst e; rw [List.getElem?_reverse (by simp at hj ⊢; omega)] at hs'; simp only [List.length_reverse] at hs' hj; rw [show S.length - 1 - (S.length - 1 - i) = i by omega, hSi] at hs'; simp only [Option.some.injEq, Prod.mk.injEq] at hs'; exact absurd hs'.2 (hno s')
        rfl
      refine hput2 v p.1 (fun e => ?_); obtain ⟨j, hj⟩ := List.getElem?_of_mem (List.mem_reverse.1 hp); obtain ⟨p1, p2⟩ := p; simp only at e hs'; subst e; have := ck.dist i j _ _ _ hSi hj; subst this; rw [hSi] at hj; simp only [Option.some.injEq, Prod.mk.injEq, true_and] at hj; exact hno s' (hj.trans hs')
    have reader : (∀ s' un l', s ≠ .ws s' un l') → (∀ s', s ≠ .ad s') → ∀ v w', Ext [] w w' → s.holds c.b (O ++ (A ++ hp)) w' v → wpX c.P .any ops Q f (l.setIfInBounds i true) (a.put ops[i].dst v) w' := by
      intro hno hno2 v w' he hh; refine next v w' O A (keep hno2 v) (hI.wi.quiet he) hh (fun F hF => hF.stay he) ?_
      rcases hI.tk with ⟨h1, h2⟩ | ⟨k, d', s', un', l', x, h1, h2, h3, hl4, h4, h5, hl5, h6, h7⟩
      · refine .inl ⟨fun j d' s' un' l' hj hs => ?_, h2⟩
        rw [H4 hil] at hj
        split at hj
        · rename_i e
          subst e; rw [hSi] at hs; simp only [Option.some.injEq, Prod.mk.injEq] at hs; exact hno s' un' l' hs.2
        exact h1 j d' s' un' l' hj hs
      have hki : k ≠ i := by
        rintro rfl; rw [hSi] at h2; simp only [Option.some.injEq, Prod.mk.injEq] at h2; exact hno s' un' l' h2.2
      refine .inr ⟨k, d', s', un', l', x, lset _ h1, h2, fun j d2 s2 un2 l2 hj hs => ?_, fun p hp => ?_, h4, fun hu => ?_, fun p hp => ?_, fun F hF => (h6 F hF).stay he, h7⟩
      · rw [H4 hil] at hj
        split at hj
        · rename_i e
          subst e; rw [hSi] at hs; simp only [Option.some.injEq, Prod.mk.injEq] at hs; exact absurd hs.2 (hno s2 un2 l2)
        exact h3 j d2 s2 un2 l2 hj hs
      · obtain ⟨j, s3, hj, hlj⟩ := hl4 p hp
        exact ⟨j, s3, hj, lset _ hlj⟩
      · rw [hput2 v d' (fun e => ?_)]
        · exact h5 hu
        subst e; exact hki (ck.dist k i _ _ _ h2 hSi)
      obtain ⟨j, s3, hj, hlj⟩ := hl4 p hp; exact (hput2 v p.1 (offd _ _ _ hj hlj)).trans (hl5 p hp)
    have writer : ∀ s' un l', s = .ws s' un l' → (∀ p ∈ l', ∃ s2 un2 l2, (p.1, OS.ws s2 un2 l2) ∈ (S.take i).reverse) → ∀ v w', PostW c O (A ++ hp) L (fun t => a.tmps.getD t undef) l' w s' un v w' → wpX c.P .any ops Q f (l.setIfInBounds i true) (a.put ops[i].dst v) w' := by
      intro s' un l' es hlk v w' ⟨x, p1, p2, pl, p3, p4, p5⟩; subst es
      have hlj : ∀ p ∈ l', ∃ (j : Nat) (s3 : OS), S[j]? = some (p.1, s3) ∧ l.getD j false = true := by
        intro p hp; obtain ⟨s2, un2, l2, hm⟩ := hlk p hp; obtain ⟨j, hj⟩ := List.getElem?_of_mem (List.mem_reverse.1 hm); rw [List.getElem?_take] at hj
        split at hj
        · rename_i hji
          exact ⟨j, _, hj, I3 hI.cl _ _ _ hedge (hwr j i _ _ _ _ _ _ _ _ hj hSi hji)⟩
        cases hj
      refine next v w' (s'.hp x) A (keep (fun _ e => by cases e) v) p3 (fun hu => ⟨x, p1, p2 hu, p4⟩) p5 ?_
      refine .inr ⟨i, d, s', un, l', x, by rw [H4 hil, if_pos rfl], hSi, fun j d2 s2 un2 l2 hj hs => ?_, fun p hp => ?_, p1, fun hu => by rw [(hput v).2.2.2 hu, p2 hu], fun p hp => ?_, p4, rfl⟩
      · rw [H4 hil] at hj
        split at hj
        · omega
        rcases Nat.lt_or_ge i j with h | h
        · have := I3 hI.cl _ _ _ (fun q hq => hI.cl j hj q hq) (hwr i j _ _ _ _ _ _ _ _ hSi hs h)
          rw [hni'] at this
          cases this
        exact h
      · obtain ⟨j, s3, hj, hl3⟩ := hlj p hp
        exact ⟨j, s3, hj, lset _ hl3⟩
      obtain ⟨j, s3, hj, hl3⟩ := hlj p hp; exact (hput2 v p.1 (offd _ _ _ hj hl3)).trans (pl p hp)
    have stepR : (∀ s' un l', s ≠ .ws s' un l') → (∀ s', s ≠ .ad s') → StepOK c ops fr (O ++ (A ++ hp)) L (S.take i).reverse ops[i] s → wpO c.P ops Q i (wpX c.P .any ops Q f (l.setIfInBounds i true)) a w := by
      intro hno hno2 hst; have hst := hst a w hfn hEn (nodupS i) hI.wi hI.df hI.ts hseen; unfold wpO; rw [ho]
      simp only
      split
      · rename_i hw
        rw [if_pos hw] at hst; exact cE (fun a' w' ⟨v, e, he, hh⟩ => by rw [e]; exact reader hno hno2 v w' he hh) hst
      rename_i hw
      rw [if_neg hw] at hst; exact reader hno hno2 undef w (Ext.refl _ _) hst
    cases s with
    | ex v => exact stepR (by intro s' un l' e; cases e) (by intro s' e; cases e) (hstep A O)
    | vs v rd => exact stepR (by intro s' un l' e; cases e) (by intro s' e; cases e) (hstep A O (fun hr => by
        subst hr
        rcases hI.tk with ⟨_, h⟩ | ⟨k, d2, s2, un2, l2, x, hk, hs2, _⟩
        · exact h
        have := I3 hI.cl _ _ _ (fun q hq => hI.cl k hk q hq) (hrd i k _ _ _ _ _ _ hSi hs2); rw [hni'] at this
        cases this))
    | ws s' un l' =>
      have htk : TokE c.b O0 (A ++ hp) (S.take i).reverse a w O := bz1 (i := i) hI.tk (fun j d2 s2 un2 l2 hj hs => I3 hI.cl _ _ _ hedge (hwr j i _ _ _ _ _ _ _ _ hs hSi hj)) (fun j d2 s2 un2 l2 hl hs => by
        rcases Nat.lt_trichotomy j i with h | h | h
        · exact h
        · subst h; rw [hni'] at hl; cases hl
        have := I3 hI.cl _ _ _ (fun q hq => hI.cl j hl q hq) (hwr i j _ _ _ _ _ _ _ _ hSi hs h); rw [hni'] at this
        cases this)
      have hst : StepW c ops fr O0 (A ++ hp) L (S.take i).reverse ops[i] s' un l' := hstep A; have hlk := hst.1; have hst := hst.2 a w O hfn hEn (nodupS i) hI.wi hI.df hI.ts hseen htk; unfold wpO; rw [ho]
      simp only
      split
      · rename_i hw
        rw [if_pos hw] at hst; exact cE (fun a' w' ⟨v, e, hh⟩ => by rw [e]; exact writer s' un l' rfl hlk v w' hh) hst
      rename_i hw
      rw [if_neg hw] at hst; exact writer s' un l' rfl hlk undef w hst
    | ad s' =>
      have hst : StepA c ops fr (A ++ hp) L (S.take i).reverse ops[i] s' := hstep A; have hst := hst O a w hfn hEn (nodupS i) hI.wi hI.df hI.ts hseen
      have adder : ∀ v w', PostA c O (A ++ hp) L w s' v w' → wpX c.P .any ops Q f (l.setIfInBounds i true) (a.put ops[i].dst v) w' := by
        intro v w' ⟨x, p1, p2, p3, p5⟩
        have hnd : (S.reverse.map (·.1)).Nodup := by
          have := nodupS m
          rwa [List.take_of_length_le (by omega)] at this
        have hSlen : i < S.reverse.length := by rw [List.length_reverse]; omega
        have hget : S.reverse[S.reverse.length - 1 - i]? = some (d, OS.ad s') := by
          rw [List.getElem?_reverse (by simp only [List.length_reverse] at hSlen ⊢; omega)]; simp only [List.length_reverse]; rw [show S.length - 1 - (S.length - 1 - i) = i by omega]; exact hSi
        have hA' := kP (a := a) (a' := a.put ops[i].dst v) (l := l) (l' := l.setIfInBounds i true) (i := i) p1 ((hput v).2.2.2 rfl ▸ p2) hni' (by rw [H4 hil, if_pos rfl]) (fun j hj => by rw [H4 hil, if_neg (fun e => hj e.symm)]) S.reverse A hSlen hget (fun p _ hp => hput2 v p.1 (fun e => hp e.symm)) hnd hA; refine next v w' O (s'.hp x ++ A) hA' (by rw [List.append_assoc]; exact p3) trivial (fun F hF => by rw [List.append_assoc]; exact p5 F hF) ?_
        rcases hI.tk with ⟨h1, h2⟩ | ⟨k, d', s2, un', l', x2, h1, h2, h3, hl4, h4, h5, hl5, h6, h7⟩
        · refine .inl ⟨fun j d' s2 un' l' hj hs => ?_, h2⟩
          rw [H4 hil] at hj
          split at hj
          · rename_i e
            subst e; rw [hSi] at hs; simp only [Option.some.injEq, Prod.mk.injEq] at hs; exact absurd hs.2 (by intro e; cases e)
          exact h1 j d' s2 un' l' hj hs
        have hki : k ≠ i := by
          rintro rfl; rw [hSi] at h2; simp only [Option.some.injEq, Prod.mk.injEq] at h2; exact absurd h2.2 (by intro e; cases e)
        refine .inr ⟨k, d', s2, un', l', x2, lset _ h1, h2, fun j d2 s3 un2 l2 hj hs => ?_, fun p hp => ?_, h4, fun hu => ?_, fun p hp => ?_, fun F hF => by rw [List.append_assoc]; exact p5 F (h6 F hF), h7⟩
        · rw [H4 hil] at hj
          split at hj
          · rename_i e
            subst e; rw [hSi] at hs; simp only [Option.some.injEq, Prod.mk.injEq] at hs; exact absurd hs.2 (by intro e; cases e)
          exact h3 j d2 s3 un2 l2 hj hs
        · obtain ⟨j, s3, hj, hlj⟩ := hl4 p hp
          exact ⟨j, s3, hj, lset _ hlj⟩
        · rw [hput2 v d' (fun e => ?_)]
          · exact h5 hu
          subst e; exact hki (ck.dist k i _ _ _ h2 hSi)
        obtain ⟨j, s3, hj, hlj⟩ := hl4 p hp; exact (hput2 v p.1 (offd _ _ _ hj hlj)).trans (hl5 p hp)
      unfold wpO; rw [ho]
      simp only
      split
      · rename_i hw
        rw [if_pos hw] at hst; exact cE (fun a' w' ⟨v, e, hh⟩ => by rw [e]; exact adder v w' hh) hst
      rename_i hw
      rw [if_neg hw] at hst; exact adder undef w hst
end Go.W
end
