/- Texts. -/
import Derived.Conc.TokenWalk
import Derived.Test.YtcdopfjiadifhaaGreatDoorBAa
set_option linter.unusedVariables false
set_option linter.unusedSimpArgs false
section
namespace Go.W
open Go Go.Conc
open Go.ConcN (sumTo upd sumTo_upd upd_ne upd_same)
structure Ph where
  P : Program
  W : World
  F : Nat
  Lf : Nat
  o : Nat
  N : Nat
  v : Nat → Value
  z : Value
  BW : Nat
  BC : Nat
abbrev Hq := List (Nat × Obj)
def Held (hp : Hq) (w : World) : Prop := ∀ q ∈ hp, w.heap[q.1]? = some q.2
structure Sur (p : Ph) (w : World) : Prop where
  os : w.os = p.W.os
  tape : w.tape = p.W.tape
  output : w.output = p.W.output
  size : p.W.heap.size ≤ w.heap.size
  block : ∀ k, k < p.W.heap.size → k ≠ p.F → k ≠ p.Lf → k ≠ p.o → w.heap[k]? = p.W.heap[k]?
def blk : Loc → Option Nat
  | .cell a => some a.block
  | .obj r => some r
  | _ => none
theorem blk_mem {l : Loc} (h : l.isMemory = true) : ∃ k, blk l = some k := by
  cases l <;> first | exact ⟨_, rfl⟩ | cases h
def RdT (p : Ph) (k : Nat) : Prop := k < p.W.heap.size ∧ k ≠ p.o
def Has (hp : Hq) (k : Nat) : Prop := ∃ q ∈ hp, q.1 = k
def EvIn (p : Ph) (hp : Hq) (e : Event) : Prop :=
  Calm e ∧ ∀ x, (MemAct.ofEvent e).touch? = some x → x.loc.isMemory = true → ∀ k, blk x.loc = some k → (x.write = false ∧ RdT p k) ∨ Has hp k
structure Trn (w w' : World) (hp hp' : Hq) : Prop where
  os : w'.os = w.os
  tape : w'.tape = w.tape
  output : w'.output = w.output
  size : w.heap.size ≤ w'.heap.size
  keep : ∀ k, k < w.heap.size → ¬ Has hp k → w'.heap[k]? = w.heap[k]?
  held : Held hp' w'
  new : ∀ q ∈ hp', Has hp q.1 ∨ w.heap.size ≤ q.1
inductive Pr where
  | send1 (j : Nat)
  | send2
  | recv (k : Nat)
  | close
def nxt : Nat → Pr
  | 0 => .close
  | k + 1 => .recv k
def Fol (p : Ph) : Nat → Pr → Frame → List Frame → Hq → Prop
  | 0, _, _, _, _ => False
  | B + 1, pr, fr, cs, hp => ∀ w, Sur p w → Held hp w →
      (∃ fr' cs' w' es hp', stepG p.P false (G fr cs) w = .go (G fr' cs') w' es ∧ (∀ e ∈ es, EvIn p hp e) ∧ Trn w w' hp hp' ∧ Fol p B pr fr' cs' hp') ∨
      (match pr with
       | .send1 j => ∃ zz, stepG p.P false (G fr cs) w = .comm (G fr cs) #[scase p.F (p.v j) zz] true .send w #[] ∧ Fol p B .send2 (fr.finish undef) cs hp
       | .send2 => ∃ zz, stepG p.P false (G fr cs) w = .comm (G fr cs) #[scase p.Lf (.bool true) zz] true .send w #[] ∧ QuitsD p.P B 0 (G (fr.finish undef) cs)
       | .recv k => ∃ zz, stepG p.P false (G fr cs) w = .comm (G fr cs) #[rcase p.Lf zz] true (.recv false) w #[] ∧
           Fol p B (nxt k) (fr.finish (.bool true)) cs hp
       | .close => mayWake p.P (G fr cs) = true ∧ ∃ fr' cs', (∀ s tm, w.heap[p.F]? = some (.chan 0 #[] false s s tm) → stepG p.P false (G fr cs) w = .go (G fr' cs') (w.setChan p.F 0 #[] true s s tm) (closeEvents p.F)) ∧ QuitsD p.P B 0 (G fr' cs'))
inductive Ms where
  | sp (j : Nat)
  | ga (R : List Nat)
def FolM (p : Ph) (Goal : Goroutine → World → Prop) : Nat → Ms → Frame → List Frame → Hq → Prop
  | 0, _, _, _, _ => False
  | B + 1, ms, fr, cs, hp => ∀ w, Sur p w → Held hp w →
      (∃ fr' cs' w' es hp', stepG p.P true (G fr cs) w = .go (G fr' cs') w' es ∧ (∀ e ∈ es, EvIn p hp e) ∧ Trn w w' hp hp' ∧ FolM p Goal B ms fr' cs' hp') ∨
      (match ms with
       | .sp j => ∃ fr' cs' fc h1 h2, stepG p.P true (G fr cs) w = .spawn (G fr' cs') (G fc []) w #[] ∧
           (∀ q ∈ h1, q ∈ hp) ∧ (∀ q ∈ h2, q ∈ hp) ∧ (∀ k, Has h1 k → ¬ Has h2 k) ∧ (∀ q ∈ h1, p.W.heap.size ≤ q.1) ∧
           ((j < p.N ∧ Fol p p.BW (.send1 j) fc [] h1 ∧ FolM p Goal B (.sp (j + 1)) fr' cs' h2) ∨
            (j = p.N ∧ Fol p p.BC (nxt p.N) fc [] h1 ∧ FolM p Goal B (.ga (List.range p.N)) fr' cs' h2))
       | .ga R => stepG p.P true (G fr cs) w = .comm (G fr cs) #[rcase p.F p.z] true (.recv true) w #[] ∧
           (∀ j ∈ R, FolM p Goal B (.ga (R.erase j)) (fr.finish (.tuple #[p.v j, .bool true])) cs hp) ∧
           (R = [] → ∀ w', Sur p w' → Held hp w' → Co p.P (G (fr.finish (.tuple #[p.z, .bool false])) cs) w' Goal))
/-! ### The trace -/
structure TI (p : Ph) (t : Trace) (τ n : Nat) (own : Nat → Nat → Prop) (live : Nat → Prop) : Prop where
  τle : τ ≤ t.size
  clean : ∀ said, ¬ Race said t
  pre : ∀ g, live g → ∀ i a, i < τ → touchAt t i = some a → a.loc.isMemory = true → Knows t g i
  own_ : ∀ g k, own g k → ∀ i a, τ ≤ i → touchAt t i = some a → blk a.loc = some k → Knows t g i
  rd : ∀ i a k, τ ≤ i → touchAt t i = some a → a.write = true → blk a.loc = some k → ¬ RdT p k
  low : ∀ i a k, τ ≤ i → touchAt t i = some a → blk a.loc = some k → k < n
  hears : ∀ g, live g → Deaf t g = 0
def Mild (u : Trace) : Prop := ∀ op ∈ u, op.act.touch? = none ∧ op.act ≠ .mark .disable ∧ op.act ≠ .mark .enable
theorem bT {t u : Trace} (hu : ∀ op ∈ u, op.act ≠ .mark .disable ∧ op.act ≠ .mark .enable) (g : Nat) : Deaf (t ++ u) g = Deaf t g := by
  obtain ⟨l⟩ := u; rw [Deaf_append]
  have : ∀ (l : List MemOp) d, (∀ op ∈ l, op.act ≠ .mark .disable ∧ op.act ≠ .mark .enable) → l.foldl (deafStep g) d = d := by
    intro l
    induction l with
    | nil => intro d _; rfl
    | cons y l ih =>
      intro d hl; have hy := hl y (by simp)
      have e1 : deafStep g d y = d := by
        unfold deafStep
        split
        · rename_i h1; exact absurd h1 hy.1
        · rename_i h1; exact absurd h1 hy.2
        rfl
      rw [List.foldl_cons, e1]; exact ih d fun op hop => hl op (by simp [hop])
  exact this l _ fun op hop => hu op (by simpa using hop)
section
variable {p : Ph} {t u : Trace} {τ n : Nat} {own : Nat → Nat → Prop} {live : Nat → Prop}
theorem J3 {i : Nat} {a : Touch} (ha : touchAt (t ++ u) i = some a) : (i < t.size ∧ touchAt t i = some a) ∨ (t.size ≤ i ∧ ∃ op ∈ u, (t ++ u)[i]? = some op ∧ op.act.touch? = some a) := by
  obtain ⟨x, hx, hxa⟩ := touch_of ha
  rcases getElem?_append_cases hx with ⟨hi, hx'⟩ | ⟨hi, hxu⟩
  · exact .inl ⟨hi, by rw [touchAt_of hx']; exact hxa⟩
  exact .inr ⟨hi, x, hxu, hx, hxa⟩
theorem TI.step (h : TI p t τ n own live) {g n' : Nat} (hg : live g) (hn : n ≤ n') (hu : ∀ op ∈ u, op.g = g) (hm : ∀ op ∈ u, op.act ≠ .mark .disable ∧ op.act ≠ .mark .enable)
    (hx : ∀ op ∈ u, ∀ x, op.act.touch? = some x → x.loc.isMemory = true → ∀ k, blk x.loc = some k → (x.write = false ∧ RdT p k) ∨ own g k)
    (d1 : ∀ g' k, own g k → own g' k → g = g') (d2 : ∀ g' k, own g' k → ¬ RdT p k) (d3 : ∀ k, own g k ∨ RdT p k → k < n') : TI p (t ++ u) τ n' own live := by
  have hmem : ∀ op ∈ u, ∀ x k, op.act.touch? = some x → blk x.loc = some k → (x.write = false ∧ RdT p k) ∨ own g k := by
    intro op hop x k h1 h2; refine hx op hop x h1 ?_ k h2
    cases hl : x.loc <;> rw [hl] at h2 <;> first | rfl | cases h2
  refine ⟨by simp; have := h.τle; omega, fun said => noRace_append (h.clean said) hu fun i a ha op hop b hb hc => ?_, fun g' hg' i a hi ha hmm => ?_, fun g' k ho i a hi ha hb => ?_, fun i a k hi ha hw hb => ?_, fun i a k hi ha hb => ?_, fun g' hg' => ?_⟩
  · obtain ⟨e1, e2, e3, _⟩ := hc
    obtain ⟨k, hk⟩ := blk_mem e2; have hkb : blk b.loc = some k := by rw [← e1]; exact hk
    by_cases hiτ : i < τ
    · exact h.pre g hg i a hiτ ha e2
    rcases hmem op hop b k hb hkb with ⟨hw, hr⟩ | ho
    · rcases e3 with e3 | e3
      · exact absurd hr (h.rd i a k (by omega) ha e3 hk)
      rw [hw] at e3; cases e3
    exact h.own_ g k ho i a (by omega) ha hk
  · rcases J3 ha with ⟨_, ha'⟩ | ⟨hi', _⟩
    · exact (h.pre g' hg' i a hi ha' hmm).app u
    have := h.τle; omega
  · rcases J3 ha with ⟨_, ha'⟩ | ⟨hi', op, hop, hat, hoa⟩
    · exact (h.own_ g' k ho i a hi ha' hb).app u
    rcases hmem op hop a k hoa hb with ⟨_, hr⟩ | ho'
    · exact absurd hr (d2 g' k ho)
    obtain rfl := d1 g' k ho' ho; have := knows_own hat
    rwa [hu op hop] at this
  · rcases J3 ha with ⟨_, ha'⟩ | ⟨hi', op, hop, hat, hoa⟩
    · exact h.rd i a k hi ha' hw hb
    rcases hmem op hop a k hoa hb with ⟨hw', _⟩ | ho'
    · rw [hw] at hw'; cases hw'
    exact d2 g k ho'
  · rcases J3 ha with ⟨_, ha'⟩ | ⟨hi', op, hop, hat, hoa⟩
    · have := h.low i a k hi ha' hb; omega
    rcases hmem op hop a k hoa hb with ⟨_, hr⟩ | ho'
    · have := d3 k (.inr hr); omega
    have := d3 k (.inl ho'); omega
  rw [bT hm]; exact h.hears g' hg'
theorem TI.mild (h : TI p t τ n own live) (hu : Mild u) : TI p (t ++ u) τ n own live := by
  have no : ∀ op ∈ u, ∀ a, op.act.touch? = some a → False := fun op hop a ha => by rw [(hu op hop).1] at ha; cases ha
  refine ⟨by simp; have := h.τle; omega, fun said => ?_, fun g' hg' i a hi ha hmm => ?_, fun g' k ho i a hi ha hb => ?_, fun i a k hi ha hw hb => ?_, fun i a k hi ha hb => ?_, fun g' hg' => ?_⟩
  · rintro ⟨i, j, hij, ⟨a, b, ha, hb, hc⟩, n1, n2⟩
    rcases J3 (show touchAt (t ++ u) i = some a from ha) with ⟨hi, ha'⟩ | ⟨_, op, hop, _, hoa⟩
    · rcases J3 (show touchAt (t ++ u) j = some b from hb) with ⟨hj, hb'⟩ | ⟨_, op, hop, _, hoa⟩
      · exact h.clean said ⟨i, j, hij, ⟨a, b, ha', hb', hc⟩, fun e => n1 (hb_app u e), fun e => n2 (hb_app u e)⟩
      exact no op hop _ hoa
    exact no op hop _ hoa
  · rcases J3 ha with ⟨_, ha'⟩ | ⟨_, op, hop, _, hoa⟩
    · exact (h.pre g' hg' i a hi ha' hmm).app u
    exact (no op hop _ hoa).elim
  · rcases J3 ha with ⟨_, ha'⟩ | ⟨_, op, hop, _, hoa⟩
    · exact (h.own_ g' k ho i a hi ha' hb).app u
    exact (no op hop _ hoa).elim
  · rcases J3 ha with ⟨_, ha'⟩ | ⟨_, op, hop, _, hoa⟩
    · exact h.rd i a k hi ha' hw hb
    exact (no op hop _ hoa).elim
  · rcases J3 ha with ⟨_, ha'⟩ | ⟨_, op, hop, _, hoa⟩
    · exact h.low i a k hi ha' hb
    exact (no op hop _ hoa).elim
  rw [bT fun op hop => (hu op hop).2]; exact h.hears g' hg'
theorem TI.weak {own' : Nat → Nat → Prop} {live' : Nat → Prop} {n' : Nat} (h : TI p t τ n own live) (ho : ∀ g k, own' g k → own g k) (hl : ∀ g, live' g → live g) (hn : n ≤ n') : TI p t τ n' own' live' :=
  ⟨h.τle, h.clean, fun g hg => h.pre g (hl g hg), fun g k hk => h.own_ g k (ho g k hk), h.rd, fun i a k a1 a2 a3 => Nat.lt_of_lt_of_le (h.low i a k a1 a2 a3) hn, fun g hg => h.hears g (hl g hg)⟩
theorem TI.fresh {own' : Nat → Nat → Prop} (h : TI p t τ n own live) (ho : ∀ g k, own' g k → own g k ∨ n ≤ k) : TI p t τ n own' live :=
  ⟨h.τle, h.clean, h.pre, fun g k hk i a hi ha hb => (ho g k hk).elim (fun h1 => h.own_ g k h1 i a hi ha hb) (fun h1 => by have := h.low i a k hi ha hb; omega), h.rd, h.low, h.hears⟩
theorem kz4 {g i : Nat} {op : MemOp} (hop : t[i]? = some op) (hg : op.g = g) (h : t.deaf g i = 0) : t.heard i := ⟨g, by simp [Trace.g?, hop, hg], h⟩
theorem pq1 {g : Nat} (hd : Deaf t g = 0) (hu : ∀ op ∈ u, op.act ≠ .mark .disable ∧ op.act ≠ .mark .enable) {i : Nat} (h1 : t.size ≤ i) (h2 : i ≤ (t ++ u).size) : (t ++ u).deaf g i = 0 := by
  have e : (t ++ u).deaf g i = (t ++ u.extract 0 (i - t.size)).deaf g i := by
    have e2 : t ++ u = (t ++ u.extract 0 (i - t.size)) ++ u.extract (i - t.size) u.size := by
      rw [Array.append_assoc, Array.extract_append_extract]; have : max (i - t.size) u.size = u.size := by simp at h2; omega
      simp [this]
    rw [e2, deaf_old]
    simp at h2 ⊢
    omega
  rw [e]; have hs : (t ++ u.extract 0 (i - t.size)).size = i := by simp at h2 ⊢; omega
  have := bT (t := t) (u := u.extract 0 (i - t.size)) (fun op hop => hu op (by
    obtain ⟨j, hj, rfl⟩ := Array.mem_iff_getElem.1 hop; rw [Array.getElem_extract]
    exact Array.getElem_mem _)) g
  unfold Deaf at this hd; rw [hs] at this; rw [this]; exact hd
end
end Go.W
end
section
namespace Go.W
open Go Go.Conc
open Go.ConcN (sumTo upd sumTo_upd upd_ne upd_same le_sumTo sumTo_congr)
inductive Role where
  | quit (n : Nat)
  | s1 (B j : Nat) (fr : Frame) (cs : List Frame) (hp : Hq)
  | p1 (B j : Nat) (fr : Frame) (cs : List Frame) (hp : Hq)
  | s2 (B : Nat) (fr : Frame) (cs : List Frame) (hp : Hq)
  | rc (B k : Nat) (fr : Frame) (cs : List Frame) (hp : Hq)
  | pr (B k : Nat) (fr : Frame) (cs : List Frame) (hp : Hq)
  | cz (B : Nat) (fr : Frame) (cs : List Frame) (hp : Hq)
inductive Tag where
  | quit | s1 (j : Nat) | p1 (j : Nat) | s2 | rc (k : Nat) | pr (k : Nat) | cz
def Role.tag : Role → Tag
  | .quit _ => .quit | .s1 _ j .. => .s1 j | .p1 _ j .. => .p1 j | .s2 .. => .s2 | .rc _ k .. => .rc k | .pr _ k .. => .pr k | .cz .. => .cz
def Role.wt : Role → Nat
  | .quit n => 2 * n | .s1 B .. => 2 * B + 2 | .p1 B .. => 2 * B + 3 | .s2 B .. => 2 * B + 2 | .rc B .. => 2 * B + 2 | .pr B .. => 2 * B + 3 | .cz B .. => 2 * B + 2
def Role.hp : Role → Hq
  | .quit _ => [] | .s1 _ _ _ _ hp => hp | .p1 _ _ _ _ hp => hp | .s2 _ _ _ hp => hp | .rc _ _ _ _ hp => hp | .pr _ _ _ _ hp => hp | .cz _ _ _ hp => hp
def RoleOK (p : Ph) (d : Nat) (g : Goroutine) : Role → Prop
  | .quit n => QuitsD p.P n d g
  | .s1 B j fr cs hp => d = 0 ∧ g = G fr cs ∧ Fol p B (.send1 j) fr cs hp
  | .p1 B j fr cs hp => d = 0 ∧ (∃ zz, g = parked (G fr cs) #[scase p.F (p.v j) zz] .send) ∧ Fol p B .send2 (fr.finish undef) cs hp
  | .s2 B fr cs hp => d = 0 ∧ g = G fr cs ∧ Fol p B .send2 fr cs hp
  | .rc B k fr cs hp => d = 0 ∧ g = G fr cs ∧ Fol p B (.recv k) fr cs hp
  | .pr B k fr cs hp => d = 0 ∧ (∃ zz, g = parked (G fr cs) #[rcase p.Lf zz] (.recv false)) ∧ Fol p B (nxt k) (fr.finish (.bool true)) cs hp
  | .cz B fr cs hp => d = 0 ∧ g = G fr cs ∧ Fol p B .close fr cs hp
inductive MR where
  | run (B : Nat) (ms : Ms) (fr : Frame) (cs : List Frame) (hp : Hq)
  | park (B : Nat) (R : List Nat) (fr : Frame) (cs : List Frame) (hp : Hq)
def MR.wt : MR → Nat
  | .run B .. => 2 * B + 2
  | .park B .. => 2 * B + 3
def MR.hp : MR → Hq
  | .run _ _ _ _ hp => hp
  | .park _ _ _ _ hp => hp
def MR.st : MR → Ms
  | .run _ ms .. => ms
  | .park _ R .. => .ga R
def MR.waits : MR → Bool
  | .run .. => false
  | .park .. => true
def Like (g : Goroutine) (fr : Frame) (cs : List Frame) : Prop := g.status = .running ∧ g.frame = fr ∧ g.callers = cs ∧ g.dying = none
theorem Like.step {P : Program} {main : Bool} {g : Goroutine} {fr : Frame} {cs : List Frame} (h : Like g fr cs) (w : World) : stepG P main g w = stepG P main (G fr cs) w := stepG_same h.2.1 h.2.2.1 h.2.2.2 w
def MainOK (p : Ph) (Goal : Goroutine → World → Prop) (g : Goroutine) : MR → Prop
  | .run B ms fr cs hp => Like g fr cs ∧ FolM p Goal B ms fr cs hp
  | .park B R fr cs hp => g = parked (G fr cs) #[rcase p.F p.z] (.recv true) ∧ FolM p Goal (B + 1) (.ga R) fr cs hp ∧ (∀ j ∈ R, FolM p Goal B (.ga (R.erase j)) (fr.finish (.tuple #[p.v j, .bool true])) cs hp)
def nsp (p : Ph) : Ms → Nat
  | .sp j => j
  | .ga _ => p.N + 1
def unb (p : Ph) : Ms → Nat
  | .sp j => (p.N - j) * (2 * p.BW + 3) + (2 * p.BC + 3)
  | .ga _ => 0
def Tag.isQ : Tag → Nat
  | .quit => 1
  | _ => 0
structure Cmb (p : Ph) (m : Nat) (c : Nat → Tag) (st : Ms) (wt : Bool) (s r : Nat) (cl : Bool) : Prop where
  m0 : 0 < m
  old : ∀ i, 0 < i → i < m → c i = .quit
  far : ∀ i, m + nsp p st ≤ i → (c i).isQ = 0
  wk : ∀ j, j < p.N → j < nsp p st → c (m + j) = .quit ∨ c (m + j) = .s1 j ∨ c (m + j) = .p1 j ∨ c (m + j) = .s2
  ck : p.N < nsp p st → (∃ k, r + k + 1 = p.N ∧ (c (m + p.N) = .rc k ∨ (c (m + p.N) = .pr k ∧ s = r))) ∨ (r = p.N ∧ cl = false ∧ c (m + p.N) = .cz) ∨ (r = p.N ∧ cl = true ∧ c (m + p.N) = .quit)
  op : nsp p st ≤ p.N → cl = false
  op2 : ∀ k, c (m + p.N) = .rc k ∨ c (m + p.N) = .pr k → p.N < nsp p st → cl = false
  jn : ∀ j, st = .sp j → j ≤ p.N ∧ ∀ i, i < j → c (m + i) = .s1 i ∨ c (m + i) = .p1 i
  und : ∀ R, st = .ga R → R.Nodup ∧ ∀ j, j ∈ R ↔ j < p.N ∧ (c (m + j) = .s1 j ∨ c (m + j) = .p1 j)
  rs : r ≤ s
  cnt : sumTo p.N (fun j => (c (m + j)).isQ) = s
  i1 : wt = true → cl = false ∧ ∀ j, j < p.N → c (m + j) ≠ .p1 j
def ownOf (M : MR) (ρ : Nat → Role) (g k : Nat) : Prop := (g = 0 ∧ Has M.hp k) ∨ (0 < g ∧ Has (ρ g).hp k)
def liveOf (m n : Nat) (ρ : Nat → Role) (g : Nat) : Prop := g = 0 ∨ (m ≤ g ∧ g < n ∧ (ρ g).tag ≠ .quit)
def Root (p : Ph) (t : Trace) (live : Nat → Prop) (s r : Nat) (cl : Bool) (q : Nat) : Prop :=
  ∃ op, t[q]? = some op ∧ (live op.g ∨ (∃ k, op.act = .send p.Lf k ∧ r ≤ k ∧ k < s ∧ t.heard q) ∨ (op.act = .close p.F ∧ cl = true ∧ t.heard q))
structure InvP (p : Ph) (Goal : Goroutine → World → Prop) (m τ : Nat) (ρ : Nat → Role) (M : MR) (t : Trace) (gs : Array Goroutine) (w : World) (s r f : Nat) (cl : Bool) : Prop where
  cmb : Cmb p m (fun i => (ρ i).tag) M.st M.waits s r cl
  size : gs.size = m + nsp p M.st
  main : ∃ g, gs[0]? = some g ∧ MainOK p Goal g M
  roles : ∀ i g, 0 < i → gs[i]? = some g → RoleOK p (Deaf t i) g (ρ i)
  chF : ∃ tm, w.heap[p.F]? = some (.chan 0 #[] cl f f tm)
  chL : ∃ tm, w.heap[p.Lf]? = some (.chan p.N (Array.replicate (s - r) (.bool true)) false s r tm)
  ne : p.F ≠ p.Lf ∧ p.F < p.W.heap.size ∧ p.Lf < p.W.heap.size ∧ p.F ≠ p.o ∧ p.Lf ≠ p.o
  env : Sur p w
  heldM : Held M.hp w
  held : ∀ i, 0 < i → i < gs.size → Held (ρ i).hp w
  far : ∀ i, gs.size ≤ i → (ρ i).hp = []
  d1 : ∀ g g' k, ownOf M ρ g k → ownOf M ρ g' k → g = g'
  ge : ∀ g k, ownOf M ρ g k → p.W.heap.size ≤ k ∨ (g = 0 ∧ k = p.o)
  ti : TI p t τ w.heap.size (ownOf M ρ) (liveOf m gs.size ρ)
  kn : ∀ i a, touchAt t i = some a → a.loc.isMemory = true → ∃ q, Before t i q ∧ Root p t (liveOf m gs.size ρ) s r cl q
  seen : ∃ B, ∀ op ∈ t, op.act.low B
  above : ∀ j, gs.size ≤ j → Deaf t j = 0
def Wt (p : Ph) (n : Nat) (ρ : Nat → Role) (M : MR) : Nat := M.wt + unb p M.st + sumTo n (fun i => if i = 0 then 0 else (ρ i).wt)
section
variable {p : Ph} {Goal : Goroutine → World → Prop} {m τ : Nat} {ρ : Nat → Role} {M : MR} {t : Trace} {gs : Array Goroutine} {w : World} {s r f : Nat} {cl : Bool}
theorem Sur.at (h : Sur p w) (d : Nat) : Sur p (w.at d) := ⟨h.os, h.tape, h.output, h.size, h.block⟩
theorem InvP.at (h : InvP p Goal m τ ρ M t gs w s r f cl) (d : Nat) : InvP p Goal m τ ρ M t gs (w.at d) s r f cl :=
  { h with env := h.env.at d, chF := h.chF, chL := h.chL, heldM := h.heldM, held := h.held, ti := h.ti }
theorem InvP.pos (h : InvP p Goal m τ ρ M t gs w s r f cl) : 0 < gs.size := by rw [h.size]; have := h.cmb.m0; omega
theorem InvP.RdD (h : InvP p Goal m τ ρ M t gs w s r f cl) {g k : Nat} (ho : ownOf M ρ g k) : ¬ RdT p k := fun hr => by
  rcases h.ge g k ho with h1 | ⟨_, rfl⟩
  · have := hr.1; omega
  exact hr.2 rfl
theorem zC {hp : Hq} (h : Held hp w) {k : Nat} (hk : Has hp k) : k < w.heap.size := by
  obtain ⟨q, hq, rfl⟩ := hk; have := h q hq
  rcases Nat.lt_or_ge q.1 w.heap.size with h' | h'
  · exact h'
  rw [Array.getElem?_eq_none h'] at this; cases this
theorem InvP.own_lt (h : InvP p Goal m τ ρ M t gs w s r f cl) {g k : Nat} (ho : ownOf M ρ g k) : k < w.heap.size := by
  rcases ho with ⟨_, hk⟩ | ⟨hg, hk⟩
  · exact zC h.heldM hk
  rcases Nat.lt_or_ge g gs.size with hlt | hge
  · exact zC (h.held g hg hlt) hk
  rw [h.far g hge] at hk; obtain ⟨q, hq, _⟩ := hk; cases hq
theorem InvP.rd_lt (h : InvP p Goal m τ ρ M t gs w s r f cl) {k : Nat} (hr : RdT p k) : k < w.heap.size := Nat.lt_of_lt_of_le hr.1 h.env.size
theorem InvP.still (h : InvP p Goal m τ ρ M t gs w s r f cl) {w₁ : World} (hF : w₁.heap[p.F]? = w.heap[p.F]?) (hL : ∃ cap buf s r tm, w₁.heap[p.Lf]? = some (.chan cap buf false s r tm)) (a a' : Goroutine) {i : Nat} {g : Goroutine} (hi : gs[i]? = some g) : woken p.P a a' w₁ g = g := by
  have key : g.again w₁ = g := by
    rcases Nat.eq_zero_or_pos i with rfl | hpos
    · obtain ⟨g0, h0, hm⟩ := h.main
      rw [h0] at hi; obtain rfl := Option.some.inj hi
      cases M with
      | run B ms fr cs hp => exact again_running _ (.inl hm.1.1)
      | park B R fr cs hp =>
        obtain ⟨rfl, _⟩ := hm; obtain ⟨tm, hc⟩ := h.chF; rw [(h.cmb.i1 rfl).1] at hc; exact again_recv_open (hF.trans hc)
    have hr := h.roles i g hpos hi
    cases hρ : ρ i with
    | quit n => rw [hρ] at hr; exact again_running _ (QuitsD.status hr)
    | s1 B j fr cs hp => rw [hρ] at hr; obtain ⟨_, rfl, _⟩ := hr; exact again_running _ (.inl rfl)
    | s2 B fr cs hp => rw [hρ] at hr; obtain ⟨_, rfl, _⟩ := hr; exact again_running _ (.inl rfl)
    | rc B k fr cs hp => rw [hρ] at hr; obtain ⟨_, rfl, _⟩ := hr; exact again_running _ (.inl rfl)
    | cz B fr cs hp => rw [hρ] at hr; obtain ⟨_, rfl, _⟩ := hr; exact again_running _ (.inl rfl)
    | pr B k fr cs hp =>
      rw [hρ] at hr; obtain ⟨_, ⟨zz, rfl⟩, _⟩ := hr; obtain ⟨cap, buf, s, r, tm, hc⟩ := hL; exact again_recv_open hc
    | p1 B j fr cs hp =>
      rw [hρ] at hr; obtain ⟨_, ⟨zz, rfl⟩, _⟩ := hr; obtain ⟨tm, hc⟩ := h.chF
      have hcl : cl = false := by
        have hsz := h.size; have hilt : i < gs.size := (Array.getElem?_eq_some_iff.1 hi).1
        cases hc2 : cl with
        | false => rfl
        | true =>
          exfalso
          by_cases hN : p.N < nsp p M.st
          · have hall : r = p.N := by
              rcases h.cmb.ck hN with ⟨k, hk, h1 | ⟨h1, _⟩⟩ | ⟨_, h1, _⟩ | ⟨h1, _⟩
              · have := h.cmb.op2 k (.inl h1) hN; rw [hc2] at this; cases this
              · have := h.cmb.op2 k (.inr h1) hN; rw [hc2] at this; cases this
              · rw [hc2] at h1; cases h1
              exact h1
            have hcnt := h.cmb.cnt; have hs : p.N ≤ s := hall ▸ h.cmb.rs
            have hle : ∀ n, sumTo n (fun j => ((ρ (m + j)).tag).isQ) ≤ n := by
              intro n
              induction n with
              | zero => exact Nat.le_refl _
              | succ n ih =>
                simp only [sumTo]; have : ((ρ (m + n)).tag).isQ ≤ 1 := by cases (ρ (m + n)).tag <;> simp [Tag.isQ]
                omega
            -- one of them has not left
            by_cases him : i < m
            · have := h.cmb.old i hpos him; simp [hρ, Role.tag] at this
            have hq : ∀ n, n ≤ p.N → i - m < n → sumTo n (fun j => ((ρ (m + j)).tag).isQ) < n := by
              intro n
              induction n with
              | zero => intro _ h; omega
              | succ n ih =>
                intro hn hlt; simp only [sumTo]; have h1 : ((ρ (m + n)).tag).isQ ≤ 1 := by cases (ρ (m + n)).tag <;> simp [Tag.isQ]
                rcases Nat.lt_or_ge (i - m) n with h2 | h2
                · have := ih (by omega) h2; omega
                have e : m + n = i := by omega
                have h3 : ((ρ (m + n)).tag).isQ = 0 := by rw [e, hρ]; rfl
                have := hle n
                omega
            by_cases hin : i - m < p.N
            · have := hq p.N (Nat.le_refl _) hin; omega
            have e : i = m + p.N := by
              cases hst : M.st with
              | sp j => rw [hst] at hN; have := (h.cmb.jn j hst).1; simp [nsp] at hN; omega
              | ga R => rw [hst] at hsz; simp [nsp] at hsz; omega
            rcases h.cmb.ck hN with ⟨k, _, h1 | ⟨h1, _⟩⟩ | ⟨_, _, h1⟩ | ⟨_, _, h1⟩ <;> simp [← e, hρ, Role.tag] at h1
          have := h.cmb.op (by omega); rw [hc2] at this; cases this
      rw [hcl] at hc; exact again_send_open (hF.trans hc)
  unfold woken
  split
  · exact key
  rfl
end
end Go.W
end
section
namespace Go.W
open Go Go.Conc
open Go.ConcN (sumTo upd sumTo_upd upd_ne upd_same le_sumTo sumTo_congr)
section
variable {p : Ph} {Goal : Goroutine → World → Prop} {m τ : Nat} {ρ : Nat → Role} {M : MR} {t u : Trace} {gs : Array Goroutine} {w : World} {s r f : Nat} {cl : Bool}
theorem InvP.live_of (h : InvP p Goal m τ ρ M t gs w s r f cl) {i : Nat} {g : Goroutine} (hpos : 0 < i) (hi : gs[i]? = some g) (hne : (ρ i).tag ≠ .quit) : liveOf m gs.size ρ i := by
  refine .inr ⟨?_, (Array.getElem?_eq_some_iff.1 hi).1, hne⟩
  rcases Nat.lt_or_ge i m with h1 | h1
  · exact absurd (h.cmb.old i hpos h1) hne
  exact h1
theorem Root.app {live live' : Nat → Prop} {s' r' : Nat} {cl' : Bool} {q : Nat} (h : Root p t live s r cl q) (hl : ∀ g, live g → live' g) (hs : s ≤ s') (hr : r' ≤ r) (hc : cl = true → cl' = true) : Root p (t ++ u) live' s' r' cl' q := by
  obtain ⟨op, hop, h1⟩ := h; have hlt : q < t.size := lt_size_of_getElem? hop; refine ⟨op, by rw [getElem?_append_old hlt]; exact hop, ?_⟩
  rcases h1 with h1 | ⟨k, h1, h2, h3, h4⟩ | ⟨h1, h2, h3⟩
  · exact .inl (hl _ h1)
  · exact .inr (.inl ⟨k, h1, by omega, by omega, (heard_old hlt).2 h4⟩)
  exact .inr (.inr ⟨h1, hc h2, (heard_old hlt).2 h3⟩)
theorem lT (h : ∃ B, ∀ op ∈ t, op.act.low B) (hu : ∃ B, ∀ op ∈ u, op.act.low B) : ∃ B, ∀ op ∈ t ++ u, op.act.low B := by
  obtain ⟨B1, h1⟩ := h; obtain ⟨B2, h2⟩ := hu; exact ⟨max B1 B2, fun op hop => (Array.mem_append.1 hop).elim (fun hh => MemAct.low_mono (Nat.le_max_left _ _) (h1 op hh)) (fun hh => MemAct.low_mono (Nat.le_max_right _ _) (h2 op hh))⟩
theorem sG (u : Trace) : ∃ B, ∀ op ∈ u, op.act.low B := by
  obtain ⟨B, _, h⟩ := nz7 0 (u.toList.map (·.act)); exact ⟨B, fun op hop => h _ (List.mem_map.2 ⟨op, by simpa using hop, rfl⟩)⟩
theorem InvP.move (h : InvP p Goal m τ ρ M t gs w s r f cl) {i : Nat} (hpos : 0 < i) {g g' : Goroutine} (hi : gs[i]? = some g) (R' : Role) (htag : R'.tag = (ρ i).tag) (hne : (ρ i).tag ≠ .quit) {w' : World}
    (ht : Trn w w' (ρ i).hp R'.hp) (hug : ∀ op ∈ u, op.g = i) (hum : ∀ op ∈ u, op.act ≠ .mark .disable ∧ op.act ≠ .mark .enable)
    (hux : ∀ op ∈ u, ∀ x, op.act.touch? = some x → x.loc.isMemory = true → ∀ k, blk x.loc = some k → (x.write = false ∧ RdT p k) ∨ Has (ρ i).hp k) (hok : RoleOK p 0 g' R') :
    InvP p Goal m τ (upd ρ i R') M (t ++ u) (gs.setIfInBounds i g') w' s r f cl := by
  have hilt : i < gs.size := (Array.getElem?_eq_some_iff.1 hi).1; have hlive := h.live_of hpos hi hne; have hd0 := h.ti.hears i hlive
  have etag : (fun k => (upd ρ i R' k).tag) = fun k => (ρ k).tag := by
    funext k
    by_cases hk : k = i
    · subst hk; rw [upd_same]; exact htag
    rw [upd_ne ρ R' hk]
  have elive : liveOf m gs.size (upd ρ i R') = liveOf m gs.size ρ := by
    funext k
    have := congrFun etag k; simp only [liveOf, this]
  have hdeaf : ∀ k, Deaf (t ++ u) k = Deaf t k := fun k => bT hum k
  -- blocks
  have own_i : ∀ k, Has (ρ i).hp k → ownOf M ρ i k := fun k hk => .inr ⟨hpos, hk⟩
  have own_new : ∀ g k, ownOf M (upd ρ i R') g k → ownOf M ρ g k ∨ (g = i ∧ w.heap.size ≤ k) := by
    rintro g k (⟨rfl, hk⟩ | ⟨hg, hk⟩)
    · exact .inl (.inl ⟨rfl, hk⟩)
    by_cases hgi : g = i
    · subst hgi
      rw [upd_same] at hk; obtain ⟨q, hq, rfl⟩ := hk
      rcases ht.new q hq with h1 | h1
      · exact .inl (.inr ⟨hg, h1⟩)
      exact .inr ⟨rfl, h1⟩
    rw [upd_ne ρ R' hgi] at hk; exact .inl (.inr ⟨hg, hk⟩)
  have keep : ∀ k, k < w.heap.size → (∀ g', g' ≠ i → ownOf M ρ g' k → True) → ¬ Has (ρ i).hp k → w'.heap[k]? = w.heap[k]? := fun k hk _ hn => ht.keep k hk hn; have notRd : ∀ k, RdT p k → ¬ Has (ρ i).hp k := fun k hr hk => h.RdD (own_i k hk) hr; have hFk : w'.heap[p.F]? = w.heap[p.F]? := ht.keep _ (Nat.lt_of_lt_of_le h.ne.2.1 h.env.size) (notRd _ ⟨h.ne.2.1, h.ne.2.2.2.1⟩); have hLk : w'.heap[p.Lf]? = w.heap[p.Lf]? := ht.keep _ (Nat.lt_of_lt_of_le h.ne.2.2.1 h.env.size) (notRd _ ⟨h.ne.2.2.1, h.ne.2.2.2.2⟩); have hkeepO : ∀ g' k, g' ≠ i → ownOf M ρ g' k → w'.heap[k]? = w.heap[k]? := fun g' k hg' ho => ht.keep k (h.own_lt ho) fun hk => hg' (h.d1 _ _ _ ho (own_i k hk)); refine { cmb := by rw [etag]; exact h.cmb, size := by simp [h.size], main := ?_, roles := ?_, chF := ?_, chL := ?_, ne := h.ne, env := ?_, heldM := ?_, held := ?_, far := ?_, d1 := ?_, ge := ?_, ti := ?_, kn := ?_, seen := lT h.seen (sG u), above := ?_ }
  · obtain ⟨g0, h0, hm⟩ := h.main
    exact ⟨g0, by rw [Array.getElem?_setIfInBounds_ne (by omega)]; exact h0, hm⟩
  · intro k x hk hx
    by_cases hki : i = k
    · subst hki
      rw [Array.getElem?_setIfInBounds_self_of_lt hilt] at hx; obtain rfl := Option.some.inj hx; rw [upd_same, hdeaf, hd0]; exact hok
    rw [Array.getElem?_setIfInBounds_ne hki] at hx; rw [upd_ne ρ R' (Ne.symm hki), hdeaf]; exact h.roles k x hk hx
  · obtain ⟨tm, hc⟩ := h.chF; exact ⟨tm, hFk.trans hc⟩
  · obtain ⟨tm, hc⟩ := h.chL; exact ⟨tm, hLk.trans hc⟩
  · refine ⟨ht.os.trans h.env.os, ht.tape.trans h.env.tape, ht.output.trans h.env.output, Nat.le_trans h.env.size ht.size, fun k hk h1 h2 h3 => ?_⟩
    exact (ht.keep k (Nat.lt_of_lt_of_le hk h.env.size) (notRd k ⟨hk, h3⟩)).trans (h.env.block k hk h1 h2 h3)
  · intro q hq
    exact (hkeepO 0 q.1 (by omega) (.inl ⟨rfl, q, hq, rfl⟩)).trans (h.heldM q hq)
  · intro k hk hlt q hq
    rw [Array.size_setIfInBounds] at hlt
    by_cases hki : k = i
    · subst hki; rw [upd_same] at hq; exact ht.held q hq
    rw [upd_ne ρ R' hki] at hq; exact (hkeepO k q.1 hki (.inr ⟨hk, q, hq, rfl⟩)).trans (h.held k hk hlt q hq)
  · intro k hk
    rw [Array.size_setIfInBounds] at hk; rw [upd_ne ρ R' (by omega)]; exact h.far k hk
  · intro g1 g2 k h1 h2
    rcases own_new g1 k h1 with ha | ⟨ea, ha⟩
    · rcases own_new g2 k h2 with hb | ⟨eb, hb⟩
      · exact h.d1 _ _ _ ha hb
      have := h.own_lt ha; omega
    rcases own_new g2 k h2 with hb | ⟨eb, hb⟩
    · have := h.own_lt hb; omega
    rw [ea, eb]
  · intro g1 k h1
    rcases own_new g1 k h1 with ha | ⟨_, ha⟩
    · exact h.ge _ _ ha
    exact .inl (Nat.le_trans h.env.size ha)
  · rw [Array.size_setIfInBounds, elive]
    let own2 : Nat → Nat → Prop := fun g k => ownOf M ρ g k ∨ ownOf M (upd ρ i R') g k
    have h2 : TI p t τ w.heap.size own2 (liveOf m gs.size ρ) := h.ti.fresh fun g k hk => hk.elim .inl fun hk => (own_new g k hk).imp id fun x => x.2; have own2' : ∀ g k, own2 g k → ownOf M ρ g k ∨ (g = i ∧ w.heap.size ≤ k) := fun g k hk => hk.elim .inl (own_new g k); have hn' : w.heap.size ≤ w'.heap.size := ht.size
    have h3 := h2.step (u := u) (g := i) (n' := w'.heap.size) hlive hn' hug hum (fun op hop x hx hm k hk => (hux op hop x hx hm k hk).imp id fun hh => .inl (own_i k hh)) (fun g' k ha hb => by
        rcases own2' _ _ ha with ha | ⟨_, ha⟩
        · rcases own2' _ _ hb with hb | ⟨rfl, hb⟩
          · exact h.d1 _ _ _ ha hb
          rfl
        · rcases own2' _ _ hb with hb | ⟨rfl, hb⟩
          · have := h.own_lt hb; omega
          rfl) (fun g' k ha hr => by
        rcases own2' _ _ ha with ha | ⟨_, ha⟩
        · exact h.RdD ha hr
        · have := h.rd_lt hr; omega) (fun k hk => by
        rcases hk with hk | hk
        · rcases hk with hk | hk
          · have := h.own_lt hk; omega
          rcases hk with ⟨h0, _⟩ | ⟨_, hk⟩
          · omega
          rw [upd_same] at hk; exact zC ht.held hk
        have := h.rd_lt hk; omega)
    exact h3.weak (fun g k hk => .inr hk) (fun g hg => hg) (Nat.le_refl _)
  · intro j a ha hm
    rw [Array.size_setIfInBounds, elive]
    rcases J3 ha with ⟨_, ha'⟩ | ⟨hj, op, hop, hat, _⟩
    · obtain ⟨q, hq, hr⟩ := h.kn j a ha' hm
      exact ⟨q, hq.app u, hr.app (fun _ h => h) (Nat.le_refl _) (Nat.le_refl _) id⟩
    exact ⟨j, .inl rfl, op, hat, .inl (by rw [hug op hop]; exact hlive)⟩
  intro j hj; rw [Array.size_setIfInBounds] at hj; rw [hdeaf]; exact h.above j hj
theorem InvP.slip (h : InvP p Goal m τ ρ M t gs w s r f cl) {i n : Nat} (hpos : 0 < i) {g g' : Goroutine} (hi : gs[i]? = some g) (hρ : ρ i = .quit (n + 1)) (hug : ∀ op ∈ u, op.g = i) (hn : ∀ op ∈ u, op.act.touch? = none)
    (hok : QuitsD p.P n (Deaf (t ++ u) i) g') : InvP p Goal m τ (upd ρ i (.quit n)) M (t ++ u) (gs.setIfInBounds i g') w s r f cl := by
  have hilt : i < gs.size := (Array.getElem?_eq_some_iff.1 hi).1
  have etag : (fun k => (upd ρ i (.quit n) k).tag) = fun k => (ρ k).tag := by
    funext k
    by_cases hk : k = i
    · subst hk; rw [upd_same, hρ]; rfl
    rw [upd_ne ρ _ hk]
  have ehp : ∀ k, (upd ρ i (.quit n) k).hp = (ρ k).hp := fun k => by
    by_cases hk : k = i
    · subst hk; rw [upd_same, hρ]; rfl
    rw [upd_ne ρ _ hk]
  have elive : liveOf m gs.size (upd ρ i (.quit n)) = liveOf m gs.size ρ := by
    funext k
    have := congrFun etag k; simp only [liveOf, this]
  have eown : ownOf M (upd ρ i (.quit n)) = ownOf M ρ := by
    funext g k
    simp only [ownOf, ehp]
  have hdeaf : ∀ k, k ≠ i → Deaf (t ++ u) k = Deaf t k := fun k hk => Deaf_other t (Ne.symm hk) u hug
  have hnl : ¬ liveOf m gs.size ρ i := by
    rintro (h0 | ⟨_, _, h1⟩)
    · omega
    rw [hρ] at h1; exact h1 rfl
  refine { cmb := by rw [etag]; exact h.cmb, size := by simp [h.size], main := ?_, roles := ?_, chF := h.chF, chL := h.chL, ne := h.ne, env := h.env, heldM := h.heldM, held := ?_, far := ?_, d1 := by rw [eown]; exact h.d1, ge := by rw [eown]; exact h.ge, ti := ?_, kn := ?_, seen := lT h.seen (sG u), above := ?_ }
  · obtain ⟨g0, h0, hm⟩ := h.main
    exact ⟨g0, by rw [Array.getElem?_setIfInBounds_ne (by omega)]; exact h0, hm⟩
  · intro k x hk hx
    by_cases hki : i = k
    · subst hki
      rw [Array.getElem?_setIfInBounds_self_of_lt hilt] at hx; obtain rfl := Option.some.inj hx; rw [upd_same]; exact hok
    rw [Array.getElem?_setIfInBounds_ne hki] at hx; rw [upd_ne ρ _ (Ne.symm hki), hdeaf k (Ne.symm hki)]; exact h.roles k x hk hx
  · intro k hk hlt
    rw [Array.size_setIfInBounds] at hlt; rw [ehp]; exact h.held k hk hlt
  · intro k hk
    rw [Array.size_setIfInBounds] at hk; rw [ehp]; exact h.far k hk
  · rw [Array.size_setIfInBounds, elive, eown]
    have no : ∀ op ∈ u, ∀ a, op.act.touch? = some a → False := fun op hop a ha => by rw [hn op hop] at ha; cases ha
    have ht := h.ti; refine ⟨by simp; have := ht.τle; omega, fun said => ?_, fun g' hg' i a hi ha hmm => ?_, fun g' k ho i a hi ha hb => ?_, fun i a k hi ha hw hb => ?_, fun i a k hi ha hb => ?_, fun g' hg' => ?_⟩
    · exact noRace_append (ht.clean said) hug fun j a ha op hop b hb _ => (no op hop b hb).elim
    · rcases J3 ha with ⟨_, ha'⟩ | ⟨_, op, hop, _, hoa⟩
      · exact (ht.pre g' hg' i a hi ha' hmm).app u
      exact (no op hop _ hoa).elim
    · rcases J3 ha with ⟨_, ha'⟩ | ⟨_, op, hop, _, hoa⟩
      · exact (ht.own_ g' k ho i a hi ha' hb).app u
      exact (no op hop _ hoa).elim
    · rcases J3 ha with ⟨_, ha'⟩ | ⟨_, op, hop, _, hoa⟩
      · exact ht.rd i a k hi ha' hw hb
      exact (no op hop _ hoa).elim
    · rcases J3 ha with ⟨_, ha'⟩ | ⟨_, op, hop, _, hoa⟩
      · exact ht.low i a k hi ha' hb
      exact (no op hop _ hoa).elim
    have hgi : g' ≠ i := by rintro rfl; exact hnl hg'
    rw [hdeaf g' hgi]; exact ht.hears g' hg'
  · intro j a ha hm
    rw [Array.size_setIfInBounds, elive]
    rcases J3 ha with ⟨_, ha'⟩ | ⟨_, op, hop, _, hoa⟩
    · obtain ⟨q, hq, hr⟩ := h.kn j a ha' hm
      exact ⟨q, hq.app u, hr.app (fun _ h => h) (Nat.le_refl _) (Nat.le_refl _) id⟩
    rw [hn op hop] at hoa; cases hoa
  intro j hj; rw [Array.size_setIfInBounds] at hj; rw [hdeaf j (by omega)]; exact h.above j hj
theorem InvP.move0 (h : InvP p Goal m τ ρ M t gs w s r f cl) {g' : Goroutine} (M' : MR) (hst : M'.st = M.st) (hwt : M'.waits = M.waits) {w' : World}
    (ht : Trn w w' M.hp M'.hp) (hug : ∀ op ∈ u, op.g = 0) (hum : ∀ op ∈ u, op.act ≠ .mark .disable ∧ op.act ≠ .mark .enable)
    (hux : ∀ op ∈ u, ∀ x, op.act.touch? = some x → x.loc.isMemory = true → ∀ k, blk x.loc = some k → (x.write = false ∧ RdT p k) ∨ Has M.hp k) (hok : MainOK p Goal g' M') :
    InvP p Goal m τ ρ M' (t ++ u) (gs.setIfInBounds 0 g') w' s r f cl := by
  have hilt : 0 < gs.size := h.pos; have hlive : liveOf m gs.size ρ 0 := .inl rfl; have hdeaf : ∀ k, Deaf (t ++ u) k = Deaf t k := fun k => bT hum k; have own_i : ∀ k, Has M.hp k → ownOf M ρ 0 k := fun k hk => .inl ⟨rfl, hk⟩
  have own_new : ∀ g k, ownOf M' ρ g k → ownOf M ρ g k ∨ (g = 0 ∧ w.heap.size ≤ k) := by
    rintro g k (⟨rfl, hk⟩ | ⟨hg, hk⟩)
    · obtain ⟨q, hq, rfl⟩ := hk
      rcases ht.new q hq with h1 | h1
      · exact .inl (.inl ⟨rfl, h1⟩)
      exact .inr ⟨rfl, h1⟩
    exact .inl (.inr ⟨hg, hk⟩)
  have notRd : ∀ k, RdT p k → ¬ Has M.hp k := fun k hr hk => h.RdD (own_i k hk) hr; have hFk : w'.heap[p.F]? = w.heap[p.F]? := ht.keep _ (Nat.lt_of_lt_of_le h.ne.2.1 h.env.size) (notRd _ ⟨h.ne.2.1, h.ne.2.2.2.1⟩); have hLk : w'.heap[p.Lf]? = w.heap[p.Lf]? := ht.keep _ (Nat.lt_of_lt_of_le h.ne.2.2.1 h.env.size) (notRd _ ⟨h.ne.2.2.1, h.ne.2.2.2.2⟩); have hkeepO : ∀ g' k, g' ≠ 0 → ownOf M ρ g' k → w'.heap[k]? = w.heap[k]? := fun g' k hg' ho => ht.keep k (h.own_lt ho) fun hk => hg' (h.d1 _ _ _ ho (own_i k hk)); refine { cmb := by rw [hst, hwt]; exact h.cmb, size := by simp [h.size, hst], main := ⟨g', by simp [hilt], hok⟩, roles := ?_, chF := ?_, chL := ?_, ne := h.ne, env := ?_, heldM := ht.held, held := ?_, far := by rw [Array.size_setIfInBounds]; exact h.far, d1 := ?_, ge := ?_, ti := ?_, kn := ?_, seen := lT h.seen (sG u), above := ?_ }
  · intro k x hk hx
    rw [Array.getElem?_setIfInBounds_ne (by omega)] at hx; rw [hdeaf]; exact h.roles k x hk hx
  · obtain ⟨tm, hc⟩ := h.chF; exact ⟨tm, hFk.trans hc⟩
  · obtain ⟨tm, hc⟩ := h.chL; exact ⟨tm, hLk.trans hc⟩
  · refine ⟨ht.os.trans h.env.os, ht.tape.trans h.env.tape, ht.output.trans h.env.output, Nat.le_trans h.env.size ht.size, fun k hk h1 h2 h3 => ?_⟩
    exact (ht.keep k (Nat.lt_of_lt_of_le hk h.env.size) (notRd k ⟨hk, h3⟩)).trans (h.env.block k hk h1 h2 h3)
  · intro k hk hlt q hq
    rw [Array.size_setIfInBounds] at hlt; exact (hkeepO k q.1 (by omega) (.inr ⟨hk, q, hq, rfl⟩)).trans (h.held k hk hlt q hq)
  · intro g1 g2 k h1 h2
    rcases own_new g1 k h1 with ha | ⟨ea, ha⟩
    · rcases own_new g2 k h2 with hb | ⟨eb, hb⟩
      · exact h.d1 _ _ _ ha hb
      have := h.own_lt ha; omega
    rcases own_new g2 k h2 with hb | ⟨eb, hb⟩
    · have := h.own_lt hb; omega
    rw [ea, eb]
  · intro g1 k h1
    rcases own_new g1 k h1 with ha | ⟨_, ha⟩
    · exact h.ge _ _ ha
    exact .inl (Nat.le_trans h.env.size ha)
  · rw [Array.size_setIfInBounds]
    let own2 : Nat → Nat → Prop := fun g k => ownOf M ρ g k ∨ ownOf M' ρ g k
    have h2 : TI p t τ w.heap.size own2 (liveOf m gs.size ρ) := h.ti.fresh fun g k hk => hk.elim .inl fun hk => (own_new g k hk).imp id fun x => x.2; have own2' : ∀ g k, own2 g k → ownOf M ρ g k ∨ (g = 0 ∧ w.heap.size ≤ k) := fun g k hk => hk.elim .inl (own_new g k); have hn' : w.heap.size ≤ w'.heap.size := ht.size
    have h3 := h2.step (u := u) (g := 0) (n' := w'.heap.size) hlive hn' hug hum (fun op hop x hx hm k hk => (hux op hop x hx hm k hk).imp id fun hh => .inl (own_i k hh)) (fun g' k ha hb => by
        rcases own2' _ _ ha with ha | ⟨_, ha⟩
        · rcases own2' _ _ hb with hb | ⟨rfl, hb⟩
          · exact h.d1 _ _ _ ha hb
          rfl
        · rcases own2' _ _ hb with hb | ⟨rfl, hb⟩
          · have := h.own_lt hb; omega
          rfl) (fun g' k ha hr => by
        rcases own2' _ _ ha with ha | ⟨_, ha⟩
        · exact h.RdD ha hr
        · have := h.rd_lt hr; omega) (fun k hk => by
        rcases hk with hk | hk
        · rcases hk with hk | hk
          · have := h.own_lt hk; omega
          rcases hk with ⟨_, hk⟩ | ⟨h0, _⟩
          · exact zC ht.held hk
          omega
        have := h.rd_lt hk; omega)
    exact h3.weak (fun g k hk => .inr hk) (fun g hg => hg) (Nat.le_refl _)
  · intro j a ha hm
    rw [Array.size_setIfInBounds]
    rcases J3 ha with ⟨_, ha'⟩ | ⟨hj, op, hop, hat, _⟩
    · obtain ⟨q, hq, hr⟩ := h.kn j a ha' hm
      exact ⟨q, hq.app u, hr.app (fun _ h => h) (Nat.le_refl _) (Nat.le_refl _) id⟩
    exact ⟨j, .inl rfl, op, hat, .inl (by rw [hug op hop]; exact hlive)⟩
  intro j hj; rw [Array.size_setIfInBounds] at hj; rw [hdeaf]; exact h.above j hj
end
end Go.W
end
section
namespace Go.W
open Go Go.Conc
open Go.ConcN (sumTo upd sumTo_upd upd_ne upd_same le_sumTo sumTo_congr)
section
variable {p : Ph} {Goal : Goroutine → World → Prop} {m τ : Nat} {ρ : Nat → Role} {M : MR} {t u : Trace} {gs : Array Goroutine} {w : World} {s r f : Nat} {cl : Bool}
/-! ### Weights -/
theorem uz2 {i n : Nat} (hpos : 0 < i) (hi : i < n) (R' : Role) : sumTo n (fun k => if k = 0 then 0 else (upd ρ i R' k).wt) + (ρ i).wt = sumTo n (fun k => if k = 0 then 0 else (ρ k).wt) + R'.wt := by
  have h := sumTo_upd (fun k => if k = 0 then 0 else (ρ k).wt) R'.wt id hi; simp only [id, if_neg (show ¬ i = 0 by omega)] at h; rw [← h]
  congr 1
  refine sumTo_congr fun k _ => ?_
  by_cases hk : k = i
  · subst hk; rw [upd_same, upd_same, if_neg (by omega)]
  rw [upd_ne ρ R' hk, upd_ne _ _ hk]
theorem pE {i n : Nat} (hpos : 0 < i) (hi : i < n) (R' : Role) : Wt p n (upd ρ i R') M + (ρ i).wt = Wt p n ρ M + R'.wt := by
  have := uz2 (ρ := ρ) hpos hi R'; unfold Wt; omega
/-! ### Who offers what -/
theorem InvP.off (h : InvP p Goal m τ ρ M t gs w s r f cl) {k : Nat} {x : Goroutine} (hk : gs[k]? = some x) {c : Nat} {b : Bool} (hne : offersAt x c b ≠ []) :
    (k = 0 ∧ M.waits = true ∧ c = p.F ∧ b = false) ∨ (0 < k ∧ (∃ j, (ρ k).tag = .p1 j) ∧ c = p.F ∧ b = true) ∨ (0 < k ∧ (∃ j, (ρ k).tag = .pr j) ∧ c = p.Lf ∧ b = false) := by
  have run : x.status = .running ∨ x.status = .finished → False := fun hs => hne (offersAt_of_not_blocked (by rcases hs with hs | hs <;> rw [hs] <;> simp) c b)
  rcases Nat.eq_zero_or_pos k with rfl | hpos
  · obtain ⟨g0, h0, hm⟩ := h.main
    rw [h0] at hk; obtain rfl := Option.some.inj hk
    cases M with
    | run B ms fr cs hp => exact (run (.inl hm.1.1)).elim
    | park B R fr cs hp =>
      obtain ⟨rfl, _⟩ := hm
      cases b with
      | true => rw [offersAt_parked_recv'] at hne; exact absurd rfl hne
      | false =>
        rw [offersAt_parked_recv] at hne
        by_cases hc : p.F = c
        · exact .inl ⟨rfl, rfl, hc.symm, rfl⟩
        rw [if_neg hc] at hne; exact absurd rfl hne
  have hr := h.roles k x hpos hk
  cases hρ : ρ k with
  | quit n => rw [hρ] at hr; exact (run (QuitsD.status hr)).elim
  | s1 B j fr cs hp => rw [hρ] at hr; obtain ⟨_, rfl, _⟩ := hr; exact (run (.inl rfl)).elim
  | s2 B fr cs hp => rw [hρ] at hr; obtain ⟨_, rfl, _⟩ := hr; exact (run (.inl rfl)).elim
  | rc B j fr cs hp => rw [hρ] at hr; obtain ⟨_, rfl, _⟩ := hr; exact (run (.inl rfl)).elim
  | cz B fr cs hp => rw [hρ] at hr; obtain ⟨_, rfl, _⟩ := hr; exact (run (.inl rfl)).elim
  | pr B j fr cs hp =>
    rw [hρ] at hr; obtain ⟨_, ⟨zz, rfl⟩, _⟩ := hr
    cases b with
    | true => rw [offersAt_parked_recv'] at hne; exact absurd rfl hne
    | false =>
      rw [offersAt_parked_recv] at hne
      by_cases hc : p.Lf = c
      · exact .inr (.inr ⟨hpos, ⟨j, rfl⟩, hc.symm, rfl⟩)
      rw [if_neg hc] at hne; exact absurd rfl hne
  | p1 B j fr cs hp =>
    rw [hρ] at hr; obtain ⟨_, ⟨zz, rfl⟩, _⟩ := hr
    cases b with
    | false => rw [offersAt_parked_send'] at hne; exact absurd rfl hne
    | true =>
      rw [offersAt_parked_send] at hne
      by_cases hc : p.F = c
      · exact .inr (.inl ⟨hpos, ⟨j, rfl⟩, hc.symm, rfl⟩)
      rw [if_neg hc] at hne; exact absurd rfl hne
theorem InvP.nobody (h : InvP p Goal m τ ρ M t gs w s r f cl) (i : Nat) {c : Nat} {b : Bool} (hno : ∀ k x, k ≠ i → gs[k]? = some x → ¬ ((k = 0 ∧ M.waits = true ∧ c = p.F ∧ b = false) ∨ (0 < k ∧ (∃ j, (ρ k).tag = .p1 j) ∧ c = p.F ∧ b = true) ∨ (0 < k ∧ (∃ j, (ρ k).tag = .pr j) ∧ c = p.Lf ∧ b = false))) :
    partners (gs.setIfInBounds i ph) c b = [] := by
  refine Go.Conc.partners_nil fun j x hj => ?_
  rcases getElem?_stand gs i j x hj with ⟨rfl, rfl⟩ | ⟨hne, hx⟩
  · exact offersAt_ph c b
  exact Classical.byContradiction fun hn => hno j x hne hx (h.off hx hn)
/-! ### What a communication leaves -/
theorem InvP.commG (h : InvP p Goal m τ ρ M t gs w s r f cl) {ρ' : Nat → Role} {M' : MR} {gs' : Array Goroutine} {w' : World} {s' r' f' : Nat} {cl' : Bool}
    (hown : ∀ g k, ownOf M' ρ' g k → ownOf M ρ g k) (hlive : ∀ g, liveOf m gs.size ρ' g → liveOf m gs.size ρ g) (hfar : ∀ i, gs.size ≤ i → (ρ' i).hp = [])
    (hcmb : Cmb p m (fun i => (ρ' i).tag) M'.st M'.waits s' r' cl') (hsz : gs'.size = gs.size) (hnsp : nsp p M'.st = nsp p M.st)
    (hmain : ∃ g, gs'[0]? = some g ∧ MainOK p Goal g M') (hroles : ∀ i g, 0 < i → gs'[i]? = some g → RoleOK p (Deaf t i) g (ρ' i))
    (hF : ∃ tm, w'.heap[p.F]? = some (.chan 0 #[] cl' f' f' tm)) (hL : ∃ tm, w'.heap[p.Lf]? = some (.chan p.N (Array.replicate (s' - r') (.bool true)) false s' r' tm))
    (hos : w'.os = w.os) (htape : w'.tape = w.tape) (hout : w'.output = w.output) (hwsz : w'.heap.size = w.heap.size) (hblk : ∀ k, k ≠ p.F → k ≠ p.Lf → w'.heap[k]? = w.heap[k]?)
    (hhM : ∀ q ∈ M'.hp, q ∈ M.hp) (hhr : ∀ i, 0 < i → ∀ q ∈ (ρ' i).hp, q ∈ (ρ i).hp)
    (hti : TI p (t ++ u) τ w.heap.size (ownOf M ρ) (liveOf m gs.size ρ)) (hdeaf : ∀ k, Deaf (t ++ u) k = Deaf t k)
    (hnew : ∀ j op a, u[j]? = some op → op.act.touch? = some a → ∃ q', Before (t ++ u) (t.size + j) q' ∧ Root p (t ++ u) (liveOf m gs.size ρ') s' r' cl' q') (hroot : ∀ q, Root p t (liveOf m gs.size ρ) s r cl q → ∃ q', Before (t ++ u) q q' ∧ Root p (t ++ u) (liveOf m gs.size ρ') s' r' cl' q') :
    InvP p Goal m τ ρ' M' (t ++ u) gs' w' s' r' f' cl' := by
  have hq : ∀ {hp : Hq}, Held hp w → (∀ q ∈ hp, q.1 ≠ p.F ∧ q.1 ≠ p.Lf) → Held hp w' := fun hh hn q hq => (hblk q.1 (hn q hq).1 (hn q hq).2).trans (hh q hq); have hnF : ∀ g k, ownOf M ρ g k → k ≠ p.F ∧ k ≠ p.Lf := fun g k ho => ⟨fun e => h.RdD ho (e ▸ ⟨h.ne.2.1, h.ne.2.2.2.1⟩), fun e => h.RdD ho (e ▸ ⟨h.ne.2.2.1, h.ne.2.2.2.2⟩)⟩
  refine { cmb := hcmb, size := by rw [hsz, hnsp]; exact h.size, main := hmain, roles := fun i g hi hg => by rw [hdeaf]; exact hroles i g hi hg, chF := hF, chL := hL, ne := h.ne
           env := ⟨hos.trans h.env.os, htape.trans h.env.tape, hout.trans h.env.output, by rw [hwsz]; exact h.env.size, fun k hk h1 h2 h3 => (hblk k h1 h2).trans (h.env.block k hk h1 h2 h3)⟩
           heldM := hq (fun q hq' => h.heldM q (hhM q hq')) fun q hq' => hnF 0 q.1 (.inl ⟨rfl, q, hhM q hq', rfl⟩)
           held := fun i hi hlt => hq (fun q hq' => h.held i hi (hsz ▸ hlt) q (hhr i hi q hq')) fun q hq' => hnF i q.1 (.inr ⟨hi, q, hhr i hi q hq', rfl⟩)
           far := by rw [hsz]; exact hfar, d1 := fun g g' k h1 h2 => h.d1 g g' k (hown _ _ h1) (hown _ _ h2), ge := fun g k h1 => h.ge g k (hown _ _ h1)
           ti := by rw [hsz, hwsz]; exact hti.weak hown hlive (Nat.le_refl _)
           kn := ?_, seen := lT h.seen (sG u), above := fun j hj => by rw [hdeaf]; exact h.above j (hsz ▸ hj) }
  intro i a ha hm; rw [hsz]
  rcases J3 ha with ⟨_, ha'⟩ | ⟨hge, op, hop, hat, hoa⟩
  · obtain ⟨q, hq, hr⟩ := h.kn i a ha' hm
    obtain ⟨q', hq', hr'⟩ := hroot q hr; exact ⟨q', (hq.app u).trans hq', hr'⟩
  have e : (t ++ u)[t.size + (i - t.size)]? = some op := by rw [show t.size + (i - t.size) = i by omega]; exact hat
  rw [Array.getElem?_append_right (by omega)] at e; have := hnew (i - t.size) op a (by rw [← e]; congr 1; omega) hoa
  rwa [show t.size + (i - t.size) = i by omega] at this
theorem InvP.comm (h : InvP p Goal m τ ρ M t gs w s r f cl) {ρ' : Nat → Role} {M' : MR} {gs' : Array Goroutine} {w' : World} {s' r' f' : Nat} {cl' : Bool}
    (hown : ∀ g k, ownOf M' ρ' g k → ownOf M ρ g k) (hlive : ∀ g, liveOf m gs.size ρ' g → liveOf m gs.size ρ g) (hfar : ∀ i, gs.size ≤ i → (ρ' i).hp = [])
    (hcmb : Cmb p m (fun i => (ρ' i).tag) M'.st M'.waits s' r' cl') (hsz : gs'.size = gs.size) (hnsp : nsp p M'.st = nsp p M.st)
    (hmain : ∃ g, gs'[0]? = some g ∧ MainOK p Goal g M') (hroles : ∀ i g, 0 < i → gs'[i]? = some g → RoleOK p (Deaf t i) g (ρ' i))
    (hF : ∃ tm, w'.heap[p.F]? = some (.chan 0 #[] cl' f' f' tm)) (hL : ∃ tm, w'.heap[p.Lf]? = some (.chan p.N (Array.replicate (s' - r') (.bool true)) false s' r' tm))
    (hos : w'.os = w.os) (htape : w'.tape = w.tape) (hout : w'.output = w.output) (hwsz : w'.heap.size = w.heap.size) (hblk : ∀ k, k ≠ p.F → k ≠ p.Lf → w'.heap[k]? = w.heap[k]?)
    (hhM : ∀ q ∈ M'.hp, q ∈ M.hp) (hhr : ∀ i, 0 < i → ∀ q ∈ (ρ' i).hp, q ∈ (ρ i).hp)
    (hu : Mild u) (hroot : ∀ q, Root p t (liveOf m gs.size ρ) s r cl q → ∃ q', Before (t ++ u) q q' ∧ Root p (t ++ u) (liveOf m gs.size ρ') s' r' cl' q') :
    InvP p Goal m τ ρ' M' (t ++ u) gs' w' s' r' f' cl' := by
  exact h.commG hown hlive hfar hcmb hsz hnsp hmain hroles hF hL hos htape hout hwsz hblk hhM hhr (h.ti.mild hu) (fun k => bT (fun op hop => (hu op hop).2) k) (fun j op a hj ha => by
    rw [(hu op (Array.mem_of_getElem? hj)).1] at ha; cases ha) hroot
theorem ux7 {t u : Trace} {q j : Nat} {x y : MemOp} (hx : t[q]? = some x) (hj : t.size ≤ j) (hy : (t ++ u)[j]? = some y) (hg : x.g = y.g) : Before (t ++ u) q j :=
  .inr (hb_po (Nat.lt_of_lt_of_le (lt_size_of_getElem? hx) hj) (by rw [getElem?_append_old (lt_size_of_getElem? hx)]; exact hx) hy hg)
theorem cH {t u : Trace} (j : Nat) : (t ++ u)[t.size + j]? = u[j]? := by rw [Array.getElem?_append_right (by omega)]; congr 1; omega
theorem InvP.heard_new (h : InvP p Goal m τ ρ M t gs w s r f cl) {g : Nat} (hg : liveOf m gs.size ρ g) (hu : Mild u) {j : Nat} {op : MemOp} (hj : u[j]? = some op) (hop : op.g = g) : (t ++ u).heard (t.size + j) := by
  have hjl : j < u.size := lt_size_of_getElem? hj; exact kz4 (by rw [cH]; exact hj) hop (pq1 (h.ti.hears g hg) (fun op hop => (hu op hop).2) (by omega) (by simp; omega))
end
end Go.W
end
section
namespace Go.W
open Go Go.Conc
open Go.ConcN (sumTo upd sumTo_upd upd_ne upd_same le_sumTo sumTo_congr)
theorem gK (ρ : Nat → Role) (i : Nat) (R : Role) : (fun k => (upd ρ i R k).tag) = upd (fun k => (ρ k).tag) i R.tag := by
  funext k
  by_cases hk : k = i
  · subst hk; rw [upd_same, upd_same]
  rw [upd_ne ρ R hk, upd_ne _ _ hk]
def nxtTag : Nat → Tag
  | 0 => .cz
  | k + 1 => .rc k
section
variable {p : Ph} {m : Nat} {c : Nat → Tag} {st : Ms} {wt : Bool} {s r : Nat} {cl : Bool}
theorem wx0 (T : Tag) : T.isQ ≤ 1 := by cases T <;> simp [Tag.isQ]
theorem sj5 : ∀ n, sumTo n (fun j => (c (m + j)).isQ) ≤ n
  | 0 => Nat.le_refl _
  | n + 1 => by simp only [sumTo]; have := sj5 n; have := wx0 (c (m + n)); omega
theorem sj4 {j : Nat} (h0 : (c (m + j)).isQ = 0) : ∀ n, j < n → sumTo n (fun j => (c (m + j)).isQ) < n
  | 0, h => by omega
  | n + 1, h => by
    simp only [sumTo]; have h1 := wx0 (c (m + n))
    rcases Nat.lt_or_ge j n with h2 | h2
    · have := sj4 h0 n h2; omega
    obtain rfl : j = n := by omega
    have := sj5 (c := c) (m := m) j
    omega
theorem tj5 {n : Nat} (h : sumTo n (fun j => (c (m + j)).isQ) = n) {j : Nat} (hj : j < n) : c (m + j) = .quit := by
  cases hc : c (m + j) with
  | quit => rfl
  | _ => exfalso; have := sj4 (c := c) (m := m) (j := j) (by rw [hc]; rfl) n hj; omega
theorem Cmb.nsp_le (h : Cmb p m c st wt s r cl) : nsp p st ≤ p.N + 1 := by
  cases st with
  | sp j => have := (h.jn j rfl).1; simp only [nsp]; omega
  | ga R => exact Nat.le_refl _
theorem Cmb.s_le (h : Cmb p m c st wt s r cl) : s ≤ p.N := by rw [← h.cnt]; exact sj5 _
theorem Cmb.idx (h : Cmb p m c st wt s r cl) {i : Nat} (hpos : 0 < i) (hi : i < m + nsp p st) (hne : c i ≠ .quit) : (∃ j, i = m + j ∧ j < p.N ∧ j < nsp p st ∧ (c i = .s1 j ∨ c i = .p1 j ∨ c i = .s2)) ∨ (i = m + p.N ∧ p.N < nsp p st ∧ ((∃ k, r + k + 1 = p.N ∧ (c i = .rc k ∨ (c i = .pr k ∧ s = r))) ∨ (r = p.N ∧ cl = false ∧ c i = .cz))) := by
  have hm : m ≤ i := by
    rcases Nat.lt_or_ge i m with h1 | h1
    · exact absurd (h.old i hpos h1) hne
    exact h1
  have hle := h.nsp_le; obtain ⟨j, rfl⟩ : ∃ j, i = m + j := ⟨i - m, by omega⟩
  rcases Nat.lt_or_ge j p.N with hj | hj
  · rcases h.wk j hj (by omega) with h1 | h1
    · exact absurd h1 hne
    exact .inl ⟨j, rfl, hj, by omega, h1⟩
  obtain rfl : j = p.N := by omega
  refine .inr ⟨rfl, by omega, ?_⟩
  rcases h.ck (by omega) with h1 | h1 | ⟨_, _, h1⟩
  · exact .inl h1
  · exact .inr h1
  exact absurd h1 hne
theorem Cmb.w_open (h : Cmb p m c st wt s r cl) {j : Nat} (hj : j < p.N) (hjn : j < nsp p st) (hq : (c (m + j)).isQ = 0) : s < p.N ∧ cl = false := by
  have hs : s < p.N := by rw [← h.cnt]; exact sj4 hq p.N hj
  refine ⟨hs, ?_⟩
  rcases Nat.lt_or_ge p.N (nsp p st) with hn | hn
  · rcases h.ck hn with ⟨k, hk, h1 | ⟨h1, _⟩⟩ | ⟨_, h1, _⟩ | ⟨h1, _⟩
    · exact h.op2 k (.inl h1) hn
    · exact h.op2 k (.inr h1) hn
    · exact h1
    have := h.rs; omega
  exact h.op hn
theorem tj4 (c : Nat → Tag) (T : Tag) {j n : Nat} (hj : j < n) : sumTo n (fun k => (upd c (m + j) T (m + k)).isQ) + (c (m + j)).isQ = sumTo n (fun k => (c (m + k)).isQ) + T.isQ := by
  have h := sumTo_upd (fun k => (c (m + k)).isQ) T.isQ id hj; simp only [id] at h; rw [← h]
  congr 1
  refine sumTo_congr fun k _ => ?_
  by_cases hk : k = j
  · subst hk; rw [upd_same, upd_same]
  rw [upd_ne _ _ (show m + k ≠ m + j by omega), upd_ne _ _ hk]
theorem Cmb.turn (h : Cmb p m c st wt s r cl) {j : Nat} (hj : j < p.N) (hjn : j < nsp p st) {T : Tag} (hT : T = .s1 j ∨ T = .p1 j ∨ T = .s2 ∨ T = .quit) {st' : Ms} {wt' : Bool} {s' : Nat} (hst : nsp p st' = nsp p st) (hs : s ≤ s')
    (hjn' : ∀ j', st' = .sp j' → j' ≤ p.N ∧ ∀ i, i < j' → upd c (m + j) T (m + i) = .s1 i ∨ upd c (m + j) T (m + i) = .p1 i)
    (hund : ∀ R, st' = .ga R → R.Nodup ∧ ∀ i, i ∈ R ↔ i < p.N ∧ (upd c (m + j) T (m + i) = .s1 i ∨ upd c (m + j) T (m + i) = .p1 i))
    (hcnt : s' + (c (m + j)).isQ = s + T.isQ) (hpr : ∀ k, p.N < nsp p st → c (m + p.N) = .pr k → s' = s)
    (hi1 : wt' = true → cl = false ∧ ∀ i, i < p.N → upd c (m + j) T (m + i) ≠ .p1 i) : Cmb p m (upd c (m + j) T) st' wt' s' r cl := by
  have hN : m + p.N ≠ m + j := by omega
  refine ⟨h.m0, fun i h1 h2 => ?_, fun i hi => ?_, fun i h1 h2 => ?_, fun hn => ?_, fun hn => h.op (by rw [← hst]; exact hn), fun k hk hn => ?_, hjn', hund, Nat.le_trans h.rs hs, ?_, hi1⟩
  · rw [upd_ne _ _ (by omega)]; exact h.old i h1 h2
  · rw [hst] at hi
    rw [upd_ne _ _ (by omega)]; exact h.far i hi
  · rw [hst] at h2
    by_cases hij : i = j
    · subst hij; rw [upd_same]; rcases hT with rfl | rfl | rfl | rfl <;> simp
    rw [upd_ne _ _ (by omega)]; exact h.wk i h1 h2
  · rw [hst] at hn
    rw [upd_ne _ _ hN]
    rcases h.ck hn with ⟨k, hk, h1 | ⟨h1, h2⟩⟩ | h1 | h1
    · exact .inl ⟨k, hk, .inl h1⟩
    · exact .inl ⟨k, hk, .inr ⟨h1, by rw [hpr k hn h1, h2]⟩⟩
    · exact .inr (.inl h1)
    exact .inr (.inr h1)
  · rw [hst] at hn
    rw [upd_ne _ _ hN] at hk; exact h.op2 k hk hn
  have := tj4 (m := m) c T hj; have := h.cnt
  omega
theorem Cmb.deliver {R : List Nat} (h : Cmb p m c (.ga R) wt s r cl) {j : Nat} (hj : j < p.N) (hc : c (m + j) = .s1 j ∨ c (m + j) = .p1 j) : Cmb p m (upd c (m + j) .s2) (.ga (R.erase j)) false s r cl := by
  refine h.turn hj (by simp only [nsp]; omega) (.inr (.inr (.inl rfl))) rfl (Nat.le_refl _) (fun j' e => (by cases e)) (fun R' e => ?_) (by rcases hc with hc | hc <;> rw [hc] <;> rfl) (fun _ _ _ => rfl) (fun e => (by cases e)); obtain rfl : R.erase j = R' := by cases e; rfl
  obtain ⟨hn, hm⟩ := h.und R rfl; refine ⟨hn.erase j, fun i => ?_⟩; rw [hn.mem_erase_iff, hm]
  by_cases hij : i = j
  · subst hij; rw [upd_same]; simp
  rw [upd_ne _ _ (by omega)]; simp [hij]
theorem Cmb.parkS (h : Cmb p m c st false s r cl) {j : Nat} (hj : j < p.N) (hjn : j < nsp p st) (hc : c (m + j) = .s1 j) : Cmb p m (upd c (m + j) (.p1 j)) st false s r cl := by
  have key : ∀ i, (upd c (m + j) (.p1 j) (m + i) = .s1 i ∨ upd c (m + j) (.p1 j) (m + i) = .p1 i) ↔ (c (m + i) = .s1 i ∨ c (m + i) = .p1 i) := fun i => by
    by_cases hij : i = j
    · subst hij; rw [upd_same]; simp [hc]
    rw [upd_ne _ _ (by omega)]
  refine h.turn hj hjn (.inr (.inl rfl)) rfl (Nat.le_refl _) (fun j' e => ⟨(h.jn j' e).1, fun i hi => (key i).2 ((h.jn j' e).2 i hi)⟩) (fun R e => ⟨(h.und R e).1, fun i => by rw [key]; exact (h.und R e).2 i⟩) (by rw [hc]; rfl) (fun _ _ _ => rfl) (fun e => (by cases e))
theorem Cmb.left {R : List Nat} (h : Cmb p m c (.ga R) wt s r cl) {j : Nat} (hj : j < p.N) (hc : c (m + j) = .s2) (hno : ∀ k, c (m + p.N) ≠ .pr k) : Cmb p m (upd c (m + j) .quit) (.ga R) wt (s + 1) r cl := by
  have key : ∀ i, (upd c (m + j) .quit (m + i) = .s1 i ∨ upd c (m + j) .quit (m + i) = .p1 i) ↔ (c (m + i) = .s1 i ∨ c (m + i) = .p1 i) := fun i => by
    by_cases hij : i = j
    · subst hij; rw [upd_same]; simp [hc]
    rw [upd_ne _ _ (by omega)]
  refine h.turn hj (by simp only [nsp]; omega) (.inr (.inr (.inr rfl))) rfl (Nat.le_succ _) (fun j' e => (by cases e)) (fun R' e => ⟨(h.und R' e).1, fun i => by rw [key]; exact (h.und R' e).2 i⟩) (by rw [hc]; rfl) (fun k _ hk => absurd hk (hno k)) (fun e => ⟨(h.i1 e).1, fun i hi => ?_⟩)
  by_cases hij : i = j
  · subst hij; rw [upd_same]; simp
  rw [upd_ne _ _ (by omega)]; exact (h.i1 e).2 i hi
theorem Cmb.turnC (h : Cmb p m c st wt s r cl) (hn : p.N < nsp p st) {T : Tag} {r' : Nat} {cl' wt' : Bool} (hrs : r' ≤ s) (hwt : wt' = true → wt = true ∧ cl' = false)
    (hck : (∃ k, r' + k + 1 = p.N ∧ (T = .rc k ∨ (T = .pr k ∧ s = r'))) ∨ (r' = p.N ∧ cl' = false ∧ T = .cz) ∨ (r' = p.N ∧ cl' = true ∧ T = .quit)) (hcl : (∃ k, T = .rc k ∨ T = .pr k) → cl' = false) : Cmb p m (upd c (m + p.N) T) st wt' s r' cl' := by
  have hne : ∀ i, i < p.N → upd c (m + p.N) T (m + i) = c (m + i) := fun i hi => upd_ne _ _ (by omega); have hle := h.nsp_le; refine ⟨h.m0, fun i h1 h2 => ?_, fun i hi => ?_, fun i h1 h2 => by rw [hne i h1]; exact h.wk i h1 h2, fun _ => by rw [upd_same]; exact hck, fun h1 => by omega, fun k hk _ => ?_, fun j e => ⟨(h.jn j e).1, fun i hi => by rw [hne i (by have := (h.jn j e).1; omega)]; exact (h.jn j e).2 i hi⟩, fun R e => ⟨(h.und R e).1, fun i => ?_⟩, hrs, ?_, fun e => ⟨(hwt e).2, fun i hi => by rw [hne i hi]; exact (h.i1 (hwt e).1).2 i hi⟩⟩
  · rw [upd_ne _ _ (by omega)]; exact h.old i h1 h2
  · rw [upd_ne _ _ (by omega)]; exact h.far i hi
  · rw [upd_same] at hk; exact hcl ⟨k, hk⟩
  · rw [(h.und R e).2]
    constructor
    · rintro ⟨h1, h2⟩; exact ⟨h1, by rw [hne i h1]; exact h2⟩
    rintro ⟨h1, h2⟩; rw [hne i h1] at h2; exact ⟨h1, h2⟩
  rw [← h.cnt]; exact sumTo_congr fun i hi => by rw [hne i hi]
theorem Cmb.take (h : Cmb p m c st wt s r cl) (hn : p.N < nsp p st) {k : Nat} (hc : c (m + p.N) = .rc k) (hlt : r < s) : Cmb p m (upd c (m + p.N) (nxtTag k)) st wt s (r + 1) cl := by
  have hcl := h.op2 k (.inl hc) hn
  have hk : r + k + 1 = p.N := by
    rcases h.ck hn with ⟨k', hk', h1 | ⟨h1, _⟩⟩ | ⟨_, _, h1⟩ | ⟨_, _, h1⟩ <;> rw [hc] at h1 <;> cases h1
    exact hk'
  refine h.turnC hn (by omega) (fun e => ⟨e, hcl⟩) ?_ (fun _ => hcl)
  cases k with
  | zero => exact .inr (.inl ⟨by omega, hcl, rfl⟩)
  | succ k => exact .inl ⟨k, by omega, .inl rfl⟩
theorem Cmb.parkR (h : Cmb p m c st wt s r cl) (hn : p.N < nsp p st) {k : Nat} (hc : c (m + p.N) = .rc k) (he : s = r) : Cmb p m (upd c (m + p.N) (.pr k)) st wt s r cl := by
  have hcl := h.op2 k (.inl hc) hn
  have hk : r + k + 1 = p.N := by
    rcases h.ck hn with ⟨k', hk', h1 | ⟨h1, _⟩⟩ | ⟨_, _, h1⟩ | ⟨_, _, h1⟩ <;> rw [hc] at h1 <;> cases h1
    exact hk'
  exact h.turnC hn h.rs (fun e => ⟨e, hcl⟩) (.inl ⟨k, hk, .inr ⟨rfl, he⟩⟩) (fun _ => hcl)
theorem Cmb.shut (h : Cmb p m c st wt s r cl) (hn : p.N < nsp p st) (hc : c (m + p.N) = .cz) : Cmb p m (upd c (m + p.N) .quit) st false s r true := by
  have hr : r = p.N := by
    rcases h.ck hn with ⟨k', hk', h1 | ⟨h1, _⟩⟩ | ⟨h2, _, h1⟩ | ⟨_, _, h1⟩ <;> rw [hc] at h1 <;> first | (cases h1; done) | exact h2
  exact h.turnC hn h.rs (fun e => (by cases e)) (.inr (.inr ⟨hr, rfl, rfl⟩)) (fun ⟨k, hk⟩ => by rcases hk with hk | hk <;> cases hk)
theorem Cmb.meet {R : List Nat} (h : Cmb p m c (.ga R) wt s r cl) {j k : Nat} (hj : j < p.N) (hc : c (m + j) = .s2) (hk : c (m + p.N) = .pr k) : s = r ∧ Cmb p m (upd (upd c (m + j) .quit) (m + p.N) (nxtTag k)) (.ga R) wt (s + 1) (r + 1) cl := by
  have hn : p.N < nsp p (.ga R) := by simp only [nsp]; omega
  have hsr : s = r ∧ r + k + 1 = p.N := by
    rcases h.ck hn with ⟨k', hk', h1 | ⟨h1, h2⟩⟩ | ⟨_, _, h1⟩ | ⟨_, _, h1⟩ <;> rw [hk] at h1 <;> cases h1
    exact ⟨h2, hk'⟩
  have hcl := h.op2 k (.inr hk) hn; refine ⟨hsr.1, ?_⟩
  -- aS9 if it had counted on
  have h1 : Cmb p m (upd c (m + p.N) (.rc k)) (.ga R) wt s r cl := h.turnC hn h.rs (fun e => ⟨e, hcl⟩) (.inl ⟨k, hsr.2, .inl rfl⟩) (fun _ => hcl); have h2 := h1.left hj (by rw [upd_ne _ _ (by omega)]; exact hc) (fun k' => by rw [upd_same]; simp); have h3 := h2.take hn (k := k) (by rw [upd_ne _ _ (by omega), upd_same]) (by omega)
  have e : upd (upd (upd c (m + p.N) (.rc k)) (m + j) .quit) (m + p.N) (nxtTag k) = upd (upd c (m + j) .quit) (m + p.N) (nxtTag k) := by
    funext i
    by_cases hi : i = m + p.N
    · subst hi; rw [upd_same, upd_same]
    rw [upd_ne _ _ hi, upd_ne _ _ hi]
    by_cases hij : i = m + j
    · subst hij; rw [upd_same, upd_same]
    rw [upd_ne _ _ hij, upd_ne _ _ hij, upd_ne _ _ hi]
  rw [e] at h3; exact h3
theorem Cmb.parkM {R : List Nat} (h : Cmb p m c (.ga R) false s r cl) (hcl : cl = false) (hno : ∀ j, j < p.N → c (m + j) ≠ .p1 j) : Cmb p m c (.ga R) true s r cl :=
  ⟨h.m0, h.old, h.far, h.wk, h.ck, h.op, h.op2, fun j e => (by cases e), h.und, h.rs, h.cnt, fun _ => ⟨hcl, hno⟩⟩
theorem Cmb.spawnW {j : Nat} (h : Cmb p m c (.sp j) false s r cl) (hj : j < p.N) : Cmb p m (upd c (m + j) (.s1 j)) (.sp (j + 1)) false s r cl := by
  have h0 : (c (m + j)).isQ = 0 := h.far _ (by simp only [nsp]; omega); refine ⟨h.m0, fun i h1 h2 => ?_, fun i hi => ?_, fun i h1 h2 => ?_, fun hn => by simp only [nsp] at hn; omega, fun hn => h.op (by simp only [nsp]; omega), fun k hk hn => by simp only [nsp] at hn; omega, fun j' e => ?_, fun R e => (by cases e), h.rs, ?_, fun e => (by cases e)⟩
  · rw [upd_ne _ _ (by omega)]; exact h.old i h1 h2
  · simp only [nsp] at hi
    rw [upd_ne _ _ (by omega)]; exact h.far i (by simp only [nsp]; omega)
  · simp only [nsp] at h2
    by_cases hij : i = j
    · subst hij; rw [upd_same]; simp
    rw [upd_ne _ _ (by omega)]; exact h.wk i h1 (by simp only [nsp]; omega)
  · obtain rfl : j + 1 = j' := by cases e; rfl
    refine ⟨hj, fun i hi => ?_⟩
    by_cases hij : i = j
    · subst hij; rw [upd_same]; simp
    rw [upd_ne _ _ (by omega)]; exact (h.jn j rfl).2 i (by omega)
  have := tj4 (m := m) c (.s1 j) hj; have := h.cnt; simp only [Tag.isQ] at *
  omega
theorem Cmb.spawnC (h : Cmb p m c (.sp p.N) false s r cl) {T : Tag} (hT : T = (match p.N with | 0 => .cz | k + 1 => .rc k)) : Cmb p m (upd c (m + p.N) T) (.ga (List.range p.N)) false s r cl ∧ r = 0 := by
  have hall := (h.jn p.N rfl).2
  have hs : s = 0 := by
    rw [← h.cnt]
    have : ∀ n, n ≤ p.N → sumTo n (fun j => (c (m + j)).isQ) = 0 := by
      intro n
      induction n with
      | zero => intro _; rfl
      | succ n ih =>
        intro hn; simp only [sumTo, ih (by omega)]
        rcases hall n (by omega) with h1 | h1 <;> rw [h1] <;> rfl
    exact this _ (Nat.le_refl _)
  have hr : r = 0 := by have := h.rs; omega
  have hcl : cl = false := h.op (by simp only [nsp]; exact Nat.le_refl _); have hne : ∀ i, i < p.N → upd c (m + p.N) T (m + i) = c (m + i) := fun i hi => upd_ne _ _ (by omega); refine ⟨⟨h.m0, fun i h1 h2 => ?_, fun i hi => ?_, fun i h1 h2 => by rw [hne i h1]; exact h.wk i h1 (by simp only [nsp]; exact h1), fun _ => ?_, fun h1 => by simp only [nsp] at h1; omega, fun k _ _ => hcl, fun j' e => (by cases e), fun R e => ?_, h.rs, ?_, fun e => (by cases e)⟩, hr⟩
  · rw [upd_ne _ _ (by omega)]; exact h.old i h1 h2
  · simp only [nsp] at hi
    rw [upd_ne _ _ (by omega)]; exact h.far i (by simp only [nsp]; omega)
  · rw [upd_same, hT]
    cases hN : p.N with
    | zero => exact .inr (.inl ⟨hr, hcl, rfl⟩)
    | succ k => exact .inl ⟨k, by omega, .inl rfl⟩
  · obtain rfl : List.range p.N = R := by cases e; rfl
    refine ⟨List.nodup_range, fun i => ?_⟩; rw [List.mem_range]; exact ⟨fun hi => ⟨hi, by rw [hne i hi]; exact hall i hi⟩, fun hi => hi.1⟩
  rw [← h.cnt]; exact sumTo_congr fun i hi => by rw [hne i hi]
end
end Go.W
end
section
namespace Go.W
open Go Go.Conc
open Go.ConcN (sumTo upd sumTo_upd upd_ne upd_same le_sumTo sumTo_congr)
def Nx (p : Ph) (Goal : Goroutine → World → Prop) (m τ n : Nat) (t : Trace) (x : Stepped × Array MemOp) : Prop :=
  ∃ (ρ' : Nat → Role) (M' : MR) (u : Trace) (gs' : Array Goroutine) (w' : World) (sl' : Option (Nat × Nat)) (s' r' f' : Nat) (cl' : Bool), x = (.next (crowd gs' w' sl'), u) ∧ InvP p Goal m τ ρ' M' (t ++ u) gs' w' s' r' f' cl' ∧ Wt p gs'.size ρ' M' < n
section
variable {p : Ph} {Goal : Goroutine → World → Prop} {m τ : Nat} {ρ : Nat → Role} {M : MR} {t u : Trace} {gs : Array Goroutine} {w : World} {s r f : Nat} {cl : Bool} {sl : Option (Nat × Nat)}
theorem dG {i : Nat} {R' : Role} (hR : ∀ q ∈ R'.hp, q ∈ (ρ i).hp) (k : Nat) : ∀ q ∈ (upd ρ i R' k).hp, q ∈ (ρ k).hp := by
  intro q hq
  by_cases hk : k = i
  · subst hk; rw [upd_same] at hq; exact hR q hq
  rw [upd_ne ρ R' hk] at hq; exact hq
theorem jS {M' : MR} {ρ' : Nat → Role} (hM : ∀ q ∈ M'.hp, q ∈ M.hp) (hρ : ∀ k, ∀ q ∈ (ρ' k).hp, q ∈ (ρ k).hp) (g k : Nat) (h : ownOf M' ρ' g k) : ownOf M ρ g k := by
  rcases h with ⟨h0, q, hq, e⟩ | ⟨h0, q, hq, e⟩
  · exact .inl ⟨h0, q, hM q hq, e⟩
  exact .inr ⟨h0, q, hρ g q hq, e⟩
theorem mS {i n : Nat} {R' : Role} (hT : R'.tag ≠ .quit → (ρ i).tag ≠ .quit) (g : Nat) (h : liveOf m n (upd ρ i R') g) : liveOf m n ρ g := by
  rcases h with h | ⟨h1, h2, h3⟩
  · exact .inl h
  refine .inr ⟨h1, h2, ?_⟩
  by_cases hk : g = i
  · subst hk; rw [upd_same] at h3; exact hT h3
  rwa [upd_ne ρ R' hk] at h3
theorem lW {i n : Nat} {R' : Role} (hT : R'.tag ≠ .quit) (g : Nat) (h : liveOf m n ρ g) : liveOf m n (upd ρ i R') g := by
  rcases h with h | ⟨h1, h2, h3⟩
  · exact .inl h
  refine .inr ⟨h1, h2, ?_⟩
  by_cases hk : g = i
  · subst hk; rw [upd_same]; exact hT
  rwa [upd_ne ρ R' hk]
theorem vA (hfar : ∀ k, gs.size ≤ k → (ρ k).hp = []) {i : Nat} (hi : i < gs.size) (R' : Role) : ∀ k, gs.size ≤ k → (upd ρ i R' k).hp = [] := fun k hk => by
  rw [upd_ne ρ R' (by omega)]; exact hfar k hk
theorem vE {c cap : Nat} {buf : Array Value} {b : Bool} {s r : Nat} {tm : Bool} (hc : c < w.heap.size) : (w.setChan c cap buf b s r tm).heap[c]? = some (.chan cap buf b s r tm) := by simp [World.setChan, hc]
theorem cX {c k cap : Nat} {buf : Array Value} {b : Bool} {s r : Nat} {tm : Bool} (hk : k ≠ c) : (w.setChan c cap buf b s r tm).heap[k]? = w.heap[k]? := by
  simp only [World.setChan]; rw [Array.getElem?_setIfInBounds_ne (Ne.symm hk)]
theorem lY {c cap : Nat} {buf : Array Value} {b : Bool} {s r : Nat} {tm : Bool} : (w.setChan c cap buf b s r tm).heap.size = w.heap.size := by simp [World.setChan]
theorem InvP.ltF (h : InvP p Goal m τ ρ M t gs w s r f cl) : p.F < w.heap.size := Nat.lt_of_lt_of_le h.ne.2.1 h.env.size
theorem InvP.ltL (h : InvP p Goal m τ ρ M t gs w s r f cl) : p.Lf < w.heap.size := Nat.lt_of_lt_of_le h.ne.2.2.1 h.env.size
theorem ofE0 (g fn : Nat) (pos : String) : MemOp.ofEvents g fn pos #[] = #[] := rfl
theorem gz {i : Nat} (hpos : 0 < i) : (i == 0) = false := by simp; omega
theorem set2 {gs : Array Goroutine} {i j k : Nat} {x y z : Goroutine} (hij : i ≠ j) (hi : i < gs.size) (hj : j < gs.size) (h : ((gs.setIfInBounds j y).setIfInBounds i x)[k]? = some z) : (k = i ∧ z = x) ∨ (k = j ∧ z = y) ∨ (k ≠ i ∧ k ≠ j ∧ gs[k]? = some z) := by
  by_cases hki : i = k
  · subst hki
    rw [Array.getElem?_setIfInBounds_self_of_lt (by simpa using hi)] at h; exact .inl ⟨rfl, (Option.some.inj h).symm⟩
  rw [Array.getElem?_setIfInBounds_ne hki] at h
  by_cases hkj : j = k
  · subst hkj
    rw [Array.getElem?_setIfInBounds_self_of_lt hj] at h; exact .inr (.inl ⟨rfl, (Option.some.inj h).symm⟩)
  rw [Array.getElem?_setIfInBounds_ne hkj] at h; exact .inr (.inr ⟨Ne.symm hki, Ne.symm hkj, h⟩)
theorem set1 {gs : Array Goroutine} {i k : Nat} {x z : Goroutine} (hi : i < gs.size) (h : (gs.setIfInBounds i x)[k]? = some z) : (k = i ∧ z = x) ∨ (k ≠ i ∧ gs[k]? = some z) := by
  by_cases hki : i = k
  · subst hki
    rw [Array.getElem?_setIfInBounds_self_of_lt hi] at h; exact .inl ⟨rfl, (Option.some.inj h).symm⟩
  rw [Array.getElem?_setIfInBounds_ne hki] at h; exact .inr ⟨Ne.symm hki, h⟩
theorem InvP.lt_nsp (h : InvP p Goal m τ ρ M t gs w s r f cl) {i : Nat} {x : Goroutine} (hi : gs[i]? = some x) : i < m + nsp p M.st := by rw [← h.size]; exact (Array.getElem?_eq_some_iff.1 hi).1
theorem sH {live' : Nat → Prop} (hl : ∀ g, liveOf m gs.size ρ g → live' g) {u : Trace} (q : Nat) (hq : Root p t (liveOf m gs.size ρ) s r cl q) : ∃ q', Before (t ++ u) q q' ∧ Root p (t ++ u) live' s r cl q' :=
  ⟨q, .inl rfl, hq.app hl (Nat.le_refl _) (Nat.le_refl _) id⟩
/-! ### One of them stands at the send of its value -/
theorem case_s1 (h : InvP p Goal m τ ρ M t gs w s r f cl) {i B j : Nat} {fr : Frame} {cs : List Frame} {hp : Hq} {zz : Value} (hpos : 0 < i) (hi : gs[i]? = some (G fr cs)) (hρ : ρ i = .s1 (B + 1) j fr cs hp)
    (hst : stepG p.P false (G fr cs) w = .comm (G fr cs) #[scase p.F (p.v j) zz] true .send w #[]) (hf : Fol p B .send2 (fr.finish undef) cs hp) : Nx p Goal m τ (Wt p gs.size ρ M) t (runT p.P (crowd gs w sl) i) := by
  have hilt : i < gs.size := (Array.getElem?_eq_some_iff.1 hi).1; have htag : (ρ i).tag = .s1 j := by rw [hρ]; rfl
  have hrole := h.roles i _ hpos hi; rw [hρ] at hrole; obtain ⟨hd, _, _⟩ := hrole
  obtain ⟨j', rfl, hjN, hjn, hc⟩ : ∃ j', i = m + j' ∧ j' < p.N ∧ j' < nsp p M.st ∧ (ρ i).tag = .s1 j' := by
    rcases h.cmb.idx hpos (h.lt_nsp hi) (by show (ρ i).tag ≠ _; rw [htag]; simp) with ⟨j', h1, h2, h3, h4⟩ | ⟨_, _, ⟨k, _, h1 | ⟨h1, _⟩⟩ | ⟨_, _, h1⟩⟩
    · refine ⟨j', h1, h2, h3, ?_⟩
      rcases h4 with h4 | h4 | h4 <;> simp only [htag] at h4 <;> first | (rw [htag]; exact h4) | cases h4
    all_goals simp only [htag] at h1; cases h1
  obtain rfl : j' = j := by rw [htag] at hc; cases hc; rfl
  obtain ⟨hsN, rfl⟩ := h.cmb.w_open hjN hjn (by show ((ρ (m + j')).tag).isQ = 0; rw [htag]; rfl); have hst' : stepG p.P (m + j' == 0) (G fr cs) w = .comm (G fr cs) #[scase p.F (p.v j') zz] true .send w #[] := by rw [gz hpos]; exact hst
  obtain ⟨tmF, hF⟩ := h.chF; have hL := h.chL; have hFsz := h.ltF; have hRhp : ∀ q ∈ (Role.s2 B (fr.finish undef) cs hp).hp, q ∈ (ρ (m + j')).hp := by rw [hρ]; exact fun q hq => hq
  have hlive : ∀ R' : Role, R'.tag ≠ .quit → ∀ g, liveOf m gs.size (upd ρ (m + j') R') g → liveOf m gs.size ρ g := fun R' _ => mS fun _ => by rw [htag]; simp
  cases M with
  | park BM R frM csM hpM =>
    obtain ⟨g0, h0, rfl, hfm, hR⟩ := h.main; have hjR : j' ∈ R := ((h.cmb.und R rfl).2 j').2 ⟨hjN, .inl htag⟩
    have hpart : partners (gs.setIfInBounds (m + j') ph) p.F false = [(0, 0)] := by
      rw [partners_one (stand_get (i := m + j') (by omega) h0) (fun k x hk hx => ?_), offersAt_parked_recv, if_pos rfl]
      · rfl
      rcases getElem?_stand gs _ k x hx with ⟨rfl, rfl⟩ | ⟨_, hx'⟩
      · exact offersAt_ph _ _
      exact Classical.byContradiction fun hn => by
        rcases h.off hx' hn with ⟨e, _⟩ | ⟨_, _, _, e⟩ | ⟨_, _, e, _⟩
        · exact hk e
        · cases e
        exact h.ne.1 e
    have hrun := crowd_send_meets (P := p.P) (sl := sl) hi hst' hF (by omega) h0 hpart; rw [finishComm_recv, finishComm_send, ofE0] at hrun; refine ⟨upd ρ (m + j') (.s2 B (fr.finish undef) cs hp), .run BM (.ga (R.erase j')) (frM.finish (.tuple #[p.v j', .bool true])) csM hpM, _, _, _, sl, s, r, f + 1, false, hrun, ?_, ?_⟩
    · refine h.comm (jS (fun q hq => hq) (dG hRhp)) (hlive _ (by simp [Role.tag])) (vA h.far hilt _) ?_ (by simp) rfl ?_ ?_ ⟨tmF, vE hFsz⟩ ?_ rfl rfl rfl lY (fun k hk _ => cX hk) (fun q hq => hq) (fun k _ => dG hRhp k) ?_ ?_
      · rw [gK]; exact h.cmb.deliver hjN (.inl htag)
      · refine ⟨Go.Conc.served (G frM csM) (.tuple #[p.v j', .bool true]), ?_, ⟨rfl, rfl, rfl, rfl⟩, hR j' hjR⟩
        rw [Array.getElem?_setIfInBounds_ne (by omega), Array.getElem?_setIfInBounds_self_of_lt h.pos]; rfl
      · intro k x hk hx
        rcases set2 (by omega) hilt h.pos hx with ⟨rfl, rfl⟩ | ⟨rfl, _⟩ | ⟨h1, h2, h3⟩
        · rw [upd_same]; exact ⟨hd, rfl, hf⟩
        · omega
        rw [upd_ne ρ _ h1]; exact h.roles k x hk h3
      · obtain ⟨tm, hc⟩ := hL; exact ⟨tm, (cX (Ne.symm h.ne.1)).trans hc⟩
      · intro op hop
        simp only [Array.empty_append] at hop
        simp at hop
        rcases hop with rfl | rfl | rfl | rfl <;> simp [MemAct.touch?]
      exact sH (lW (by simp [Role.tag]))
    have h1 := pE (p := p) (ρ := ρ) (M := .park BM R frM csM hpM) hpos hilt (.s2 B (fr.finish undef) cs hp); rw [hρ] at h1; simp only [Role.wt, Wt, MR.wt, MR.st, unb, Array.size_setIfInBounds] at h1 ⊢
    omega
  | run BM ms frM csM hpM =>
    have hno : partners (gs.setIfInBounds (m + j') ph) p.F false = [] := h.nobody _ fun k x hk hx => by
      rintro (⟨_, e, _⟩ | ⟨_, _, _, e⟩ | ⟨_, _, e, _⟩)
      · cases e
      · cases e
      exact h.ne.1 e
    have hrun := crowd_waits (P := p.P) (sl := sl) hi hst' (fun cc hcc => by
      obtain rfl : cc = scase p.F (p.v j') zz := by simpa using hcc
      exact ⟨made_send _ _ hF, by simp [ways, scase, hF, hno]⟩)
    rw [ofE0] at hrun; refine ⟨upd ρ (m + j') (.p1 B j' fr cs hp), .run BM ms frM csM hpM, _, _, _, sl, s, r, f, false, hrun, ?_, ?_⟩
    · refine h.comm (jS (fun q hq => hq) (dG (by rw [hρ]; exact fun q hq => hq))) (hlive _ (by simp [Role.tag])) (vA h.far hilt _) ?_ (by simp) rfl ?_ ?_ ⟨tmF, hF⟩ hL rfl rfl rfl rfl (fun k hk _ => rfl) (fun q hq => hq) (fun k _ => dG (by rw [hρ]; exact fun q hq => hq) k) (fun op hop => by simp at hop) ?_
      · rw [gK]; exact h.cmb.parkS hjN hjn htag
      · obtain ⟨g0, h0, hm⟩ := h.main
        exact ⟨g0, by rw [Array.getElem?_setIfInBounds_ne (by omega)]; exact h0, hm⟩
      · intro k x hk hx
        rcases set1 hilt hx with ⟨rfl, rfl⟩ | ⟨h1, h3⟩
        · rw [upd_same]; exact ⟨hd, ⟨zz, rfl⟩, hf⟩
        rw [upd_ne ρ _ h1]; exact h.roles k x hk h3
      exact sH (lW (by simp [Role.tag]))
    have h1 := pE (p := p) (ρ := ρ) (M := .run BM ms frM csM hpM) hpos hilt (.p1 B j' fr cs hp); rw [hρ] at h1; simp only [Role.wt, Array.size_setIfInBounds] at h1 ⊢
    omega
/-! ### One of them stands at the word that it leaves -/
theorem InvP.ga_of_s2 (h : InvP p Goal m τ ρ M t gs w s r f cl) {j : Nat} (hjn : j < nsp p M.st) (hj : j < p.N) (hc : (ρ (m + j)).tag = .s2) : ∃ R, M.st = .ga R := by
  cases hs : M.st with
  | ga R => exact ⟨R, rfl⟩
  | sp j' =>
    rw [hs] at hjn
    rcases (h.cmb.jn j' hs).2 j hjn with h1 | h1 <;> (simp only [hc] at h1; cases h1)
theorem bx9 {x y : MemOp} {q j : Nat} (hx : t[q]? = some x) (hy : u[j]? = some y) (hg : x.g = y.g) : Before (t ++ u) q (t.size + j) := ux7 hx (by omega) (by rw [cH]; exact hy) hg
theorem case_s2 (h : InvP p Goal m τ ρ M t gs w s r f cl) {i B : Nat} {fr : Frame} {cs : List Frame} {hp : Hq} {zz : Value} (hpos : 0 < i) (hi : gs[i]? = some (G fr cs)) (hρ : ρ i = .s2 (B + 1) fr cs hp)
    (hst : stepG p.P false (G fr cs) w = .comm (G fr cs) #[scase p.Lf (.bool true) zz] true .send w #[]) (hf : QuitsD p.P B 0 (G (fr.finish undef) cs)) : Nx p Goal m τ (Wt p gs.size ρ M) t (runT p.P (crowd gs w sl) i) := by
  have hilt : i < gs.size := (Array.getElem?_eq_some_iff.1 hi).1; have htag : (ρ i).tag = .s2 := by rw [hρ]; rfl
  have hrole := h.roles i _ hpos hi; rw [hρ] at hrole; obtain ⟨hd, _, _⟩ := hrole
  obtain ⟨j', rfl, hjN, hjn⟩ : ∃ j', i = m + j' ∧ j' < p.N ∧ j' < nsp p M.st := by
    rcases h.cmb.idx hpos (h.lt_nsp hi) (by show (ρ i).tag ≠ _; rw [htag]; simp) with ⟨j', h1, h2, h3, h4⟩ | ⟨_, _, ⟨k, _, h1 | ⟨h1, _⟩⟩ | ⟨_, _, h1⟩⟩
    · exact ⟨j', h1, h2, h3⟩
    all_goals simp only [htag] at h1; cases h1
  obtain ⟨hsN, rfl⟩ := h.cmb.w_open hjN hjn (by show ((ρ (m + j')).tag).isQ = 0; rw [htag]; rfl); obtain ⟨R, hR⟩ := h.ga_of_s2 hjn hjN htag; have hst' : stepG p.P (m + j' == 0) (G fr cs) w = .comm (G fr cs) #[scase p.Lf (.bool true) zz] true .send w #[] := by rw [gz hpos]; exact hst
  have hlv : liveOf m gs.size ρ (m + j') := h.live_of hpos hi (by rw [htag]; simp); obtain ⟨tmL, hL⟩ := h.chL; have hFc := h.chF; have hLsz := h.ltL; have hRhp : ∀ q ∈ (Role.quit B).hp, q ∈ (ρ (m + j')).hp := fun q hq => by cases hq
  have hcm := h.cmb; rw [hR] at hcm
  by_cases hk : ∃ k, (ρ (m + p.N)).tag = .pr k
  · -- the one that counts waits for it
    obtain ⟨k, hk⟩ := hk; have hNn : p.N < nsp p M.st := by rw [hR]; simp [nsp]
    have hclt : m + p.N < gs.size := by rw [h.size]; omega
    obtain ⟨hsr, hcmb'⟩ := hcm.meet hjN htag hk; obtain ⟨x, hx⟩ : ∃ x, gs[m + p.N]? = some x := ⟨_, Array.getElem?_eq_getElem hclt⟩; have hrx := h.roles (m + p.N) x (by omega) hx
    obtain ⟨Bk, frk, csk, hpk, hρk⟩ : ∃ Bk frk csk hpk, ρ (m + p.N) = .pr Bk k frk csk hpk := by
      cases hh : ρ (m + p.N) <;> rw [hh] at hk <;> simp only [Role.tag] at hk <;> cases hk
      exact ⟨_, _, _, _, rfl⟩
    rw [hρk] at hrx; obtain ⟨hdk, ⟨zk, rfl⟩, hfk⟩ := hrx; have hlvk : liveOf m gs.size ρ (m + p.N) := h.live_of (by omega) hx (by rw [hk]; simp)
    have hpart : partners (gs.setIfInBounds (m + j') ph) p.Lf false = [(m + p.N, 0)] := by
      rw [partners_one (stand_get (i := m + j') (by omega) hx) (fun k' x' hk' hx' => ?_), offersAt_parked_recv, if_pos rfl]
      · rfl
      rcases getElem?_stand gs _ k' x' hx' with ⟨rfl, rfl⟩ | ⟨_, hx2⟩
      · exact offersAt_ph _ _
      exact Classical.byContradiction fun hn => by
        rcases h.off hx2 hn with ⟨_, _, e, _⟩ | ⟨_, _, _, e⟩ | ⟨h0, ⟨k2, h2⟩, _, _⟩
        · exact h.ne.1 e.symm
        · cases e
        rcases h.cmb.idx h0 (h.lt_nsp hx2) (by show (ρ k').tag ≠ _; rw [h2]; simp) with ⟨j2, _, _, _, h4⟩ | ⟨h4, _⟩
        · rcases h4 with h4 | h4 | h4 <;> (simp only [h2] at h4; cases h4)
        exact hk' h4
    have hrun := crowd_send_meets (P := p.P) (sl := sl) hi hst' hL (by omega) hx hpart; rw [finishComm_recv, finishComm_send, ofE0] at hrun; have hbuf : (Array.replicate (s - r) (Value.bool true)) = Array.replicate (s + 1 - (r + 1)) (Value.bool true) := by congr 1; omega
    let Rk : Role := match k with | 0 => .cz Bk (frk.finish (.bool true)) csk hpk | k + 1 => .rc Bk k (frk.finish (.bool true)) csk hpk
    have hRkt : Rk.tag = nxtTag k := by cases k <;> rfl
    have hRkh : Rk.hp = hpk := by cases k <;> rfl
    have hRkw : Rk.wt = 2 * Bk + 2 := by cases k <;> rfl
    have hRkq : Rk.tag ≠ .quit := by rw [hRkt]; cases k <;> simp [nxtTag]
    have hRkok : RoleOK p 0 (Go.Conc.served (G frk csk) (.bool true)) Rk := by
      cases k with
      | zero => exact ⟨rfl, rfl, hfk⟩
      | succ k => exact ⟨rfl, rfl, hfk⟩
    have hne2 : m + p.N ≠ m + j' := by omega
    refine ⟨upd (upd ρ (m + j') (.quit B)) (m + p.N) Rk, M, _, _, _, sl, s + 1, r + 1, f, false, hrun, ?_, ?_⟩
    · have hq2 : ∀ k', ∀ q ∈ (upd (upd ρ (m + j') (.quit B)) (m + p.N) Rk k').hp, q ∈ (ρ k').hp := by
        intro k' q hq
        by_cases hkk : k' = m + p.N
        · subst hkk; rw [upd_same, hRkh] at hq; rw [hρk]; exact hq
        rw [upd_ne _ _ hkk] at hq; exact dG hRhp k' q hq
      refine h.comm (jS (fun q hq => hq) hq2) (fun g hg => ?_) (fun k' hk' => ?_) ?_ (by simp) rfl ?_ ?_ ?_ ⟨tmL, ?_⟩ rfl rfl rfl lY (fun k hk1 hk2 => cX hk2) (fun q hq => hq) (fun k' _ => hq2 k') ?_ ?_
      · have h1 : liveOf m gs.size (upd ρ (m + j') (.quit B)) g ∨ g = m + p.N := by
          rcases hg with hg | ⟨h1, h2, h3⟩
          · exact .inl (.inl hg)
          by_cases hgk : g = m + p.N
          · exact .inr hgk
          rw [upd_ne _ _ hgk] at h3; exact .inl (.inr ⟨h1, h2, h3⟩)
        rcases h1 with h1 | rfl
        · exact mS (fun e => absurd rfl e) g h1
        exact hlvk
      · rw [upd_ne _ _ (by omega), upd_ne _ _ (by omega)]; exact h.far k' hk'
      · rw [gK, gK, hRkt, hR]; exact hcmb'
      · obtain ⟨g0, h0, hm⟩ := h.main
        exact ⟨g0, by rw [Array.getElem?_setIfInBounds_ne (by omega), Array.getElem?_setIfInBounds_ne (by omega)]; exact h0, hm⟩
      · intro k' x' hk' hx'
        rcases set2 (by omega) hilt hclt hx' with ⟨rfl, rfl⟩ | ⟨rfl, rfl⟩ | ⟨h1, h2, h3⟩
        · rw [upd_ne _ _ (Ne.symm hne2), upd_same, hd]; exact hf
        · rw [upd_same, hdk]; exact hRkok
        rw [upd_ne _ _ h2, upd_ne _ _ h1]; exact h.roles k' x' hk' h3
      · obtain ⟨tm, hc⟩ := hFc; exact ⟨tm, (cX h.ne.1).trans hc⟩
      · rw [← hbuf]; exact vE hLsz
      · intro op hop
        simp only [Array.empty_append] at hop
        simp at hop
        rcases hop with rfl | rfl | rfl | rfl <;> simp [MemAct.touch?]
      -- what it did is known to the one that counts
      intro q hq
      let u : Trace := #[] ++ #[{ g := m + j', fn := (G fr cs).frame.fn, pos := (G fr cs).frame.place, act := .send p.Lf s }, { g := m + p.N, fn := (G frk csk).frame.fn, pos := (G frk csk).frame.place, act := .recv p.Lf r p.N },
        { g := m + j', fn := (G fr cs).frame.fn, pos := (G fr cs).frame.place, act := .sendDone p.Lf s }, { g := m + p.N, fn := (G frk csk).frame.fn, pos := (G frk csk).frame.place, act := .recvDone p.Lf r }]
      have hu : Mild u := by
        intro op hop; simp only [u, Array.empty_append] at hop
        simp at hop
        rcases hop with rfl | rfl | rfl | rfl <;> simp [MemAct.touch?]
      have hlk : liveOf m gs.size (upd (upd ρ (m + j') (.quit B)) (m + p.N) Rk) (m + p.N) := .inr ⟨by omega, hclt, by rw [upd_same]; exact hRkq⟩; have hroot3 : Root p (t ++ u) (liveOf m gs.size (upd (upd ρ (m + j') (.quit B)) (m + p.N) Rk)) (s + 1) (r + 1) false (t.size + 3) := ⟨_, by rw [cH]; rfl, .inl hlk⟩; obtain ⟨op, hop, hcase⟩ := hq
      rcases hcase with hcase | ⟨k', hk1, hk2, hk3, _⟩ | ⟨_, hk2, _⟩
      · by_cases hgi : op.g = m + j'
        · refine ⟨t.size + 3, ?_, hroot3⟩
          have b1 : Before (t ++ u) q (t.size + 0) := bx9 (u := u) hop (y := { g := m + j', fn := (G fr cs).frame.fn, pos := (G fr cs).frame.place, act := .send p.Lf s }) rfl hgi; refine b1.trans (.inr (.single (.inr ⟨.handOver (c := p.Lf) (k := s) ?_ ?_, h.heard_new hlv hu (j := 0) rfl rfl, h.heard_new hlvk hu (j := 3) rfl rfl⟩)))
          · exact act?_of (cH (t := t) (u := u) 0)
          rw [hsr]; exact act?_of (cH (t := t) (u := u) 3)
        refine ⟨q, .inl rfl, op, by rw [getElem?_append_old (lt_size_of_getElem? hop)]; exact hop, .inl ?_⟩
        rcases hcase with h0 | ⟨h1, h2, h3⟩
        · exact .inl h0
        refine .inr ⟨h1, h2, ?_⟩
        by_cases hgk : op.g = m + p.N
        · rw [hgk, upd_same]; exact hRkq
        rw [upd_ne _ _ hgk, upd_ne _ _ hgi]; exact h3
      · omega
      cases hk2
    have h1 := pE (p := p) (ρ := upd ρ (m + j') (.quit B)) (M := M) (n := gs.size) (by omega) hclt Rk; have h2 := pE (p := p) (ρ := ρ) (M := M) hpos hilt (.quit B); rw [upd_ne _ _ hne2, hρk, hRkw] at h1; rw [hρ] at h2; simp only [Role.wt, Array.size_setIfInBounds] at h1 h2 ⊢
    omega
  have hno2 : ∀ k, (ρ (m + p.N)).tag ≠ .pr k := fun k e => hk ⟨k, e⟩
  have hno : partners (gs.setIfInBounds (m + j') ph) p.Lf false = [] := h.nobody _ fun k x hk hx => by
    rintro (⟨_, _, e, _⟩ | ⟨_, _, _, e⟩ | ⟨h0, ⟨k2, h2⟩, _, _⟩)
    · exact h.ne.1 e.symm
    · cases e
    rcases h.cmb.idx h0 (h.lt_nsp hx) (by show (ρ k).tag ≠ _; rw [h2]; simp) with ⟨j2, _, _, _, h4⟩ | ⟨h4, _⟩
    · rcases h4 with h4 | h4 | h4 <;> (simp only [h2] at h4; cases h4)
    exact hno2 k2 (h4 ▸ h2)
  have hrun := crowd_send_room (P := p.P) (sl := sl) hi hst' hL (by simp; omega) hno; rw [finishComm_send, ofE0] at hrun
  have hbuf : (Array.replicate (s - r) (Value.bool true)).push (.bool true) = Array.replicate (s + 1 - r) (Value.bool true) := by
    have : s + 1 - r = (s - r) + 1 := by have := h.cmb.rs; omega
    rw [this, Array.replicate_succ]
  refine ⟨upd ρ (m + j') (.quit B), M, _, _, _, sl, s + 1, r, f, false, hrun, ?_, ?_⟩
  · refine h.comm (jS (fun q hq => hq) (dG hRhp)) (mS fun e => absurd rfl e) (vA h.far hilt _) ?_ (by simp) rfl ?_ ?_ ?_ ⟨tmL, ?_⟩ rfl rfl rfl lY (fun k hk1 hk2 => cX hk2) (fun q hq => hq) (fun k' _ => dG hRhp k') ?_ ?_
    · rw [gK, hR]; exact hcm.left hjN htag hno2
    · obtain ⟨g0, h0, hm⟩ := h.main
      exact ⟨g0, by rw [Array.getElem?_setIfInBounds_ne (by omega)]; exact h0, hm⟩
    · intro k' x' hk' hx'
      rcases set1 hilt hx' with ⟨rfl, rfl⟩ | ⟨h1, h3⟩
      · rw [upd_same, hd]; exact hf
      rw [upd_ne _ _ h1]; exact h.roles k' x' hk' h3
    · obtain ⟨tm, hc⟩ := hFc; exact ⟨tm, (cX h.ne.1).trans hc⟩
    · rw [← hbuf]; exact vE hLsz
    · intro op hop
      simp only [Array.empty_append] at hop
      simp at hop
      rcases hop with rfl | rfl <;> simp [MemAct.touch?]
    intro q hq
    let u : Trace := #[] ++ #[{ g := m + j', fn := (G fr cs).frame.fn, pos := (G fr cs).frame.place, act := .send p.Lf s }, { g := m + j', fn := (G fr cs).frame.fn, pos := (G fr cs).frame.place, act := .sendDone p.Lf s }]
    have hu : Mild u := by
      intro op hop; simp only [u, Array.empty_append] at hop
      simp at hop
      rcases hop with rfl | rfl <;> simp [MemAct.touch?]
    obtain ⟨op, hop, hcase⟩ := hq
    rcases hcase with hcase | ⟨k', hk1, hk2, hk3, hk4⟩ | ⟨_, hk2, _⟩
    · by_cases hgi : op.g = m + j'
      · refine ⟨t.size + 0, bx9 (u := u) hop (y := { g := m + j', fn := (G fr cs).frame.fn, pos := (G fr cs).frame.place, act := .send p.Lf s }) rfl hgi, ?_⟩
        exact ⟨{ g := m + j', fn := (G fr cs).frame.fn, pos := (G fr cs).frame.place, act := .send p.Lf s }, cH (t := t) (u := u) 0, .inr (.inl ⟨s, rfl, h.cmb.rs, by omega, h.heard_new hlv hu (j := 0) rfl rfl⟩)⟩
      refine ⟨q, .inl rfl, op, by rw [getElem?_append_old (lt_size_of_getElem? hop)]; exact hop, .inl ?_⟩
      rcases hcase with h0 | ⟨h1, h2, h3⟩
      · exact .inl h0
      exact .inr ⟨h1, h2, by rw [upd_ne _ _ hgi]; exact h3⟩
    · have hlt := lt_size_of_getElem? hop
      exact ⟨q, .inl rfl, op, by rw [getElem?_append_old hlt]; exact hop, .inr (.inl ⟨k', hk1, hk2, by omega, (heard_old hlt).2 hk4⟩)⟩
    cases hk2
  have h1 := pE (p := p) (ρ := ρ) (M := M) hpos hilt (.quit B); rw [hρ] at h1; simp only [Role.wt, Array.size_setIfInBounds] at h1 ⊢
  omega
end
end Go.W
end
