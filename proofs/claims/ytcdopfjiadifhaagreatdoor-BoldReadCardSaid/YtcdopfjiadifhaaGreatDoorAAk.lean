/- Texts of this claim, one behind another. -/
import Derived.Conc.EventLaws2
import Derived.Conc.AppendEvents3
import Derived.Conc.DeferLaws
import Derived.Test.YtcdopfjiadifhaaGreatDoorAAj
import Derived.Test.YtcdopfjiadifhaaGreatDoorAAi
import Derived.Test.YtcdopfjiadifhaaGreatDoorAAe
set_option linter.unusedVariables false
set_option linter.unusedSimpArgs false
section
namespace Go.W
open Go Go.Conc
open Go.ConcN (sumTo upd sumTo_upd upd_ne upd_same le_sumTo sumTo_congr)
section
variable {p : Ph} {Goal : Goroutine → World → Prop} {m τ : Nat} {ρ : Nat → Role} {M : MR} {t u : Trace} {gs : Array Goroutine} {w : World} {s r f : Nat} {cl : Bool} {sl : Option (Nat × Nat)}
theorem ij4 {B j : Nat} {ms' : Ms} {fr fr' : Frame} {cs cs' : List Frame} {fc : Frame} {hp h1 h2 : Hq} {R' : Role}
    (h : InvP p Goal m τ ρ (.run (B + 1) (.sp j) fr cs hp) t gs w s r f cl) {x y : MemOp} {n : Nat} (hx : x.g = 0 ∧ x.act = .go gs.size) (hy : y.g = gs.size ∧ y.act = .start)
    (hms : nsp p ms' = j + 1) (hcmb : Cmb p m (fun i => (upd ρ (m + j) R' i).tag) ms' false s r cl) (hfm : FolM p Goal B ms' fr' cs' h2)
    (hs1 : ∀ q ∈ h1, q ∈ hp) (hs2 : ∀ q ∈ h2, q ∈ hp) (hdis : ∀ k, Has h1 k → ¬ Has h2 k) (hnew : ∀ q ∈ h1, p.W.heap.size ≤ q.1) (hRh : R'.hp = h1) (hRq : R'.tag ≠ .quit) (hRok : RoleOK p 0 (G fc []) R') :
    InvP p Goal m τ (upd ρ (m + j) R') (.run B ms' fr' cs' h2) (t ++ #[x, y]) ((gs.setIfInBounds 0 (G fr' cs')).push (G fc [])) w s r f cl := by
  have hsz : gs.size = m + j := h.size; have hm0 := h.cmb.m0
  have hu : Mild #[x, y] := by
    intro op hop
    simp at hop
    rcases hop with rfl | rfl
    · rw [hx.2]; simp [MemAct.touch?]
    rw [hy.2]; simp [MemAct.touch?]
  have hdeaf : ∀ k, Deaf (t ++ #[x, y]) k = Deaf t k := fun k => W8 (fun op hop => (hu op hop).2) k; have hsz' : ((gs.setIfInBounds 0 (G fr' cs')).push (G fc [])).size = gs.size + 1 := by simp
  have e0 : (t ++ #[x, y])[t.size + 0]? = some x := by rw [X7]; rfl
  have e1 : (t ++ #[x, y])[t.size + 1]? = some y := by rw [X7]; rfl
  have live_old : ∀ g, liveOf m gs.size ρ g → liveOf m (gs.size + 1) (upd ρ (m + j) R') g := by
    rintro g (h0 | ⟨h1, h2, h3⟩)
    · exact .inl h0
    exact .inr ⟨h1, by omega, by rw [upd_ne _ _ (by omega)]; exact h3⟩
  have live_new : ∀ g, liveOf m (gs.size + 1) (upd ρ (m + j) R') g → liveOf m gs.size ρ g ∨ g = m + j := by
    rintro g (h0 | ⟨h1, h2, h3⟩)
    · exact .inl (.inl h0)
    by_cases hg : g = m + j
    · exact .inr hg
    rw [upd_ne _ _ hg] at h3; exact .inl (.inr ⟨h1, by omega, h3⟩)
  have own_new : ∀ g k, ownOf (.run B ms' fr' cs' h2) (upd ρ (m + j) R') g k → (g = m + j ∧ Has h1 k) ∨ (g ≠ m + j ∧ ownOf (.run (B + 1) (.sp j) fr cs hp) ρ g k) := by
    rintro g k (⟨rfl, q, hq, e⟩ | ⟨hg, hk⟩)
    · exact .inr ⟨by omega, .inl ⟨rfl, q, hs2 q hq, e⟩⟩
    by_cases hgm : g = m + j
    · subst hgm; rw [upd_same, hRh] at hk; exact .inl ⟨rfl, hk⟩
    rw [upd_ne _ _ hgm] at hk; exact .inr ⟨hgm, .inr ⟨hg, hk⟩⟩
  have own_child : ∀ k, Has h1 k → ownOf (.run (B + 1) (.sp j) fr cs hp) ρ 0 k := fun k ⟨q, hq, e⟩ => .inl ⟨rfl, q, hs1 q hq, e⟩; have heard0 : (t ++ #[x, y]).heard (t.size + 0) := h.heard_new (.inl rfl) hu (j := 0) rfl hx.1; have heard1 : (t ++ #[x, y]).heard (t.size + 1) := dq5 e1 hy.1 (kj9 (h.above gs.size (Nat.le_refl _)) (fun op hop => (hu op hop).2) (by omega) (by simp))
  have knows_child : ∀ i, Knows t 0 i → Knows (t ++ #[x, y]) (m + j) i := fun i hk => by
    have b1 : HappensBefore (t ++ #[x, y]) i (t.size + 0) := hk.hb_new (by omega) e0 hx.1; exact ⟨t.size + 1, y, e1, hy.1.trans hsz, .inr (b1.trans (.single (.inr ⟨.spawn (child := gs.size) (by rw [act?_of e0, hx.2]) (by rw [act?_of e1, hy.2]) (by simp [Trace.g?, e1, hy.1]), heard0, heard1⟩)))⟩
  have hti := h.ti.mild hu; refine { cmb := hcmb, size := by rw [hsz', hsz]; simp only [MR.st, hms]; omega, main := ⟨G fr' cs', ?_, ⟨rfl, rfl, rfl, rfl⟩, hfm⟩, roles := ?_, chF := h.chF, chL := h.chL, ne := h.ne, env := h.env, heldM := fun q hq => h.heldM q (hs2 q hq), held := ?_, far := ?_, d1 := ?_, ge := ?_, ti := ?_, kn := ?_, seen := dU h.seen (kP _), above := ?_ }
  · rw [Array.getElem?_push_lt (by simpa using h.pos), Array.getElem_setIfInBounds_self]
  · intro k z hk hz
    rw [hdeaf]
    by_cases hkm : k = m + j
    · subst hkm
      rw [Array.getElem?_push, if_pos (by simp [hsz])] at hz; obtain rfl := Option.some.inj hz; rw [upd_same, ← hsz, h.above _ (Nat.le_refl _)]; exact hRok
    rw [Array.getElem?_push, if_neg (by simp; omega), Array.getElem?_setIfInBounds_ne (by omega)] at hz; rw [upd_ne _ _ hkm]; exact h.roles k z hk hz
  · intro k hk hlt q hq
    by_cases hkm : k = m + j
    · subst hkm; rw [upd_same, hRh] at hq; exact h.heldM q (hs1 q hq)
    rw [upd_ne _ _ hkm] at hq; exact h.held k hk (by omega) q hq
  · intro k hk
    rw [hsz'] at hk; rw [upd_ne _ _ (by omega)]; exact h.far k (by omega)
  · intro g g' k hg hg'
    rcases own_new g k hg with ⟨rfl, ha⟩ | ⟨hn, ha⟩ <;> rcases own_new g' k hg' with ⟨rfl, hb⟩ | ⟨hn', hb⟩
    · rfl
    · obtain rfl := h.d1 _ _ _ (own_child k ha) hb
      rcases hg' with ⟨_, hk⟩ | ⟨h0, _⟩
      · exact absurd hk (hdis k ha)
      omega
    · obtain rfl := h.d1 _ _ _ (own_child k hb) ha
      rcases hg with ⟨_, hk⟩ | ⟨h0, _⟩
      · exact absurd hk (hdis k hb)
      omega
    exact h.d1 _ _ _ ha hb
  · intro g k hg
    rcases own_new g k hg with ⟨rfl, q, hq, rfl⟩ | ⟨_, ha⟩
    · exact .inl (hnew q hq)
    exact h.ge _ _ ha
  · rw [hsz']
    refine ⟨hti.τle, hti.clean, fun g hg i a hi ha hm => ?_, fun g k ho i a hi ha hb => ?_, hti.rd, hti.low, fun g hg => ?_⟩
    · rcases live_new g hg with hg | rfl
      · exact hti.pre g hg i a hi ha hm
      have hlt : i < t.size := Nat.lt_of_lt_of_le hi h.ti.τle; rw [touchAt_old hlt] at ha; exact knows_child i (h.ti.pre 0 (.inl rfl) i a hi ha hm)
    · rcases own_new g k ho with ⟨rfl, hk⟩ | ⟨_, ho⟩
      · rcases E3 ha with ⟨_, ha'⟩ | ⟨_, op, hop, _, hoa⟩
        · exact knows_child i (h.ti.own_ 0 k (own_child k hk) i a hi ha' hb)
        rw [(hu op hop).1] at hoa; cases hoa
      exact hti.own_ g k ho i a hi ha hb
    rcases live_new g hg with hg | rfl
    · exact hti.hears g hg
    rw [hdeaf, ← hsz]; exact h.above _ (Nat.le_refl _)
  · intro i a ha hm
    rw [hsz']
    rcases E3 ha with ⟨_, ha'⟩ | ⟨_, op, hop, _, hoa⟩
    · obtain ⟨q, hq, hr⟩ := h.kn i a ha' hm
      exact ⟨q, hq.app _, hr.app live_old (Nat.le_refl _) (Nat.le_refl _) id⟩
    rw [(hu op hop).1] at hoa; cases hoa
  intro k hk; rw [hsz'] at hk; rw [hdeaf]; exact h.above k (by omega)
theorem case_sp {B j : Nat} {fr fr' : Frame} {cs cs' : List Frame} {fc : Frame} {hp h1 h2 : Hq} (h : InvP p Goal m τ ρ (.run (B + 1) (.sp j) fr cs hp) t gs w s r f cl) {g : Goroutine} (h0 : gs[0]? = some g)
    (hst : stepG p.P true g w = .spawn (G fr' cs') (G fc []) w #[])
    (hs1 : ∀ q ∈ h1, q ∈ hp) (hs2 : ∀ q ∈ h2, q ∈ hp) (hdis : ∀ k, Has h1 k → ¬ Has h2 k) (hnew : ∀ q ∈ h1, p.W.heap.size ≤ q.1)
    (hk : (j < p.N ∧ Fol p p.BW (.send1 j) fc [] h1 ∧ FolM p Goal B (.sp (j + 1)) fr' cs' h2) ∨ (j = p.N ∧ Fol p p.BC (nxt p.N) fc [] h1 ∧ FolM p Goal B (.ga (List.range p.N)) fr' cs' h2)) :
    Nx p Goal m τ (Wt p gs.size ρ (.run (B + 1) (.sp j) fr cs hp)) t (runT p.P (crowd gs w sl) 0) := by
  have hsz : gs.size = m + j := h.size; have hm0 := h.cmb.m0; have hrun := runT_crowd_spawn (P := p.P) (sl := sl) (i := 0) h0 (show stepG p.P (0 == 0) g w = _ from hst); rw [ofE0] at hrun
  have hsum : ∀ R' : Role, sumTo (gs.size + 1) (fun i => if i = 0 then 0 else (upd ρ (m + j) R' i).wt) = sumTo gs.size (fun i => if i = 0 then 0 else (ρ i).wt) + R'.wt := fun R' => by
    simp only [sumTo]; rw [hsz, if_neg (by omega), upd_same]
    congr 1
    exact sumTo_congr fun k hk => by rw [upd_ne _ _ (by omega)]
  rcases hk with ⟨hj, hf, hfm⟩ | ⟨rfl, hf, hfm⟩
  · refine ⟨_, _, _, _, _, sl, s, r, f, cl, hrun, ij4 (R' := .s1 p.BW j fc [] h1) h ⟨rfl, rfl⟩ ⟨rfl, rfl⟩ (n := 0) (ms' := .sp (j + 1)) rfl ?_ hfm hs1 hs2 hdis hnew rfl (by simp [Role.tag]) ⟨rfl, rfl, hf⟩, ?_⟩
    · rw [aF]; exact h.cmb.spawnW hj
    rw [show ((gs.setIfInBounds 0 (G fr' cs')).push (G fc [])).size = gs.size + 1 by simp]; have e := hsum (.s1 p.BW j fc [] h1); have hw : (Role.s1 p.BW j fc [] h1).wt = 2 * p.BW + 2 := rfl; simp only [Wt, MR.wt, MR.st, unb]; rw [e, hw]; obtain ⟨d, hd⟩ : ∃ d, p.N - j = d + 1 := ⟨p.N - j - 1, by omega⟩; have hd2 : p.N - (j + 1) = d := by omega
    rw [hd, hd2, Nat.add_mul, Nat.one_mul]
    omega
  let R' : Role := match p.N with | 0 => .cz p.BC fc [] h1 | k + 1 => .rc p.BC k fc [] h1
  have hRt : R'.tag = (match p.N with | 0 => .cz | k + 1 => .rc k) := by simp only [R']; cases p.N <;> rfl
  have hRh : R'.hp = h1 := by simp only [R']; cases p.N <;> rfl
  have hRw : R'.wt = 2 * p.BC + 2 := by simp only [R']; cases p.N <;> rfl
  have hRq : R'.tag ≠ .quit := by rw [hRt]; cases p.N <;> simp
  have hRok : RoleOK p 0 (G fc []) R' := by
    simp only [R']
    cases hN : p.N with
    | zero => rw [hN] at hf; exact ⟨rfl, rfl, hf⟩
    | succ k => rw [hN] at hf; exact ⟨rfl, rfl, hf⟩
  refine ⟨_, _, _, _, _, sl, s, r, f, cl, hrun, ij4 (R' := R') h ⟨rfl, rfl⟩ ⟨rfl, rfl⟩ (n := 0) (ms' := .ga (List.range p.N)) rfl ?_ hfm hs1 hs2 hdis hnew hRh hRq hRok, ?_⟩
  · rw [aF]; exact (h.cmb.spawnC hRt).1
  rw [show ((gs.setIfInBounds 0 (G fr' cs')).push (G fc [])).size = gs.size + 1 by simp]; have e := hsum R'; simp only [Wt, MR.wt, MR.st, unb]; rw [e, hRw]
  omega
theorem InvP.runs (h : InvP p Goal m τ ρ M t gs w s r f cl) : ∃ (i : Nat) (g : Goroutine), gs[i]? = some g ∧ g.status = .running := by
  have hsz := h.size; have hm0 := h.cmb.m0; obtain ⟨g0, h0, hm⟩ := h.main
  cases M with
  | run B ms fr cs hp => exact ⟨0, g0, h0, hm.1.1⟩
  | park B R fr cs hp =>
    simp only [MR.st, nsp] at hsz; have hi1 := h.cmb.i1 rfl; have hN : p.N < nsp p (MR.park B R fr cs hp).st := Nat.lt_succ_self _
    have look : ∀ j, j < p.N + 1 → ∃ x, gs[m + j]? = some x ∧ RoleOK p (Deaf t (m + j)) x (ρ (m + j)) := fun j hj =>
      ⟨gs[m + j]'(by omega), Array.getElem?_eq_getElem (by omega), h.roles (m + j) _ (by omega) (Array.getElem?_eq_getElem (by omega))⟩
    -- one of those that send is at it still
    have worker : ∀ j, j < p.N → (ρ (m + j)).tag ≠ .quit → ∃ (i : Nat) (g : Goroutine), gs[i]? = some g ∧ g.status = .running := by
      intro j hj hq; obtain ⟨x, hx, hr⟩ := look j (by omega); have hnp := hi1.2 j hj
      rcases h.cmb.wk j hj (by simp only [MR.st, nsp]; omega) with h1 | h1 | h1 | h1
      · exact absurd h1 hq
      · refine ⟨m + j, x, hx, ?_⟩
        have h1' : (ρ (m + j)).tag = .s1 j := h1
        cases hρ : ρ (m + j) <;> rw [hρ] at h1' hr <;> simp only [Role.tag] at h1' <;> cases h1'
        rw [hr.2.1]; rfl
      · exact absurd h1 hnp
      refine ⟨m + j, x, hx, ?_⟩; have h1' : (ρ (m + j)).tag = .s2 := h1
      cases hρ : ρ (m + j) <;> rw [hρ] at h1' hr <;> simp only [Role.tag] at h1' <;> cases h1'
      rw [hr.2.1]; rfl
    obtain ⟨x, hx, hr⟩ := look p.N (by omega)
    rcases h.cmb.ck hN with ⟨k, hk, h1 | ⟨h1, h2⟩⟩ | ⟨_, _, h1⟩ | ⟨_, h1, _⟩
    · refine ⟨m + p.N, x, hx, ?_⟩
      have h1' : (ρ (m + p.N)).tag = .rc k := h1
      cases hρ : ρ (m + p.N) <;> rw [hρ] at h1' hr <;> simp only [Role.tag] at h1' <;> cases h1'
      rw [hr.2.1]; rfl
    · -- it waits for one of them
      have hcnt := h.cmb.cnt
      by_cases hall : ∀ j, j < p.N → (ρ (m + j)).tag = .quit
      · exfalso
        have : sumTo p.N (fun j => ((ρ (m + j)).tag).isQ) = p.N := by
          have : ∀ n, n ≤ p.N → sumTo n (fun j => ((ρ (m + j)).tag).isQ) = n := by
            intro n
            induction n with
            | zero => intro _; rfl
            | succ n ih => intro hn; simp only [sumTo, ih (by omega), hall n (by omega)]; rfl
          exact this _ (Nat.le_refl _)
        omega
      obtain ⟨j, hj⟩ := Classical.not_forall.1 hall; obtain ⟨hj1, hj2⟩ := Classical.not_imp.1 hj; exact worker j hj1 hj2
    · refine ⟨m + p.N, x, hx, ?_⟩
      have h1' : (ρ (m + p.N)).tag = .cz := h1
      cases hρ : ρ (m + p.N) <;> rw [hρ] at h1' hr <;> simp only [Role.tag] at h1' <;> cases h1'
      rw [hr.2.1]; rfl
    rw [hi1.1] at h1; cases h1
theorem InvP.awake (h : InvP p Goal m τ ρ M t gs w s r f cl) : ∀ g ∈ gs, Go.Conc.awake g := by
  intro g hg; obtain ⟨i, hi, rfl⟩ := Array.mem_iff_getElem.1 hg; have hx : gs[i]? = some gs[i] := Array.getElem?_eq_getElem hi
  rcases Nat.eq_zero_or_pos i with rfl | hpos
  · obtain ⟨g0, h0, hm⟩ := h.main
    rw [h0] at hx; rw [← Option.some.inj hx]
    cases M with
    | run B ms fr cs hp => exact awake_of (.inl hm.1.1)
    | park B R fr cs hp => rw [hm.1]; exact awake_of (.inr (.inl rfl))
  have hr := h.roles i _ hpos hx
  cases hρ : ρ i with
  | quit n => rw [hρ] at hr; exact awake_of ((QuitsD.status hr).elim .inl fun e => .inr (.inr e))
  | s1 B j fr cs hp => rw [hρ] at hr; rw [hr.2.1]; exact awake_of (.inl rfl)
  | s2 B fr cs hp => rw [hρ] at hr; rw [hr.2.1]; exact awake_of (.inl rfl)
  | rc B k fr cs hp => rw [hρ] at hr; rw [hr.2.1]; exact awake_of (.inl rfl)
  | cz B fr cs hp => rw [hρ] at hr; rw [hr.2.1]; exact awake_of (.inl rfl)
  | pr B k fr cs hp => rw [hρ] at hr; obtain ⟨_, ⟨zz, e⟩, _⟩ := hr; rw [e]; exact awake_of (.inr (.inl rfl))
  | p1 B j fr cs hp => rw [hρ] at hr; obtain ⟨_, ⟨zz, e⟩, _⟩ := hr; rw [e]; exact awake_of (.inr (.inl rfl))
end
end Go.W
end
section
namespace Go.W
open Go Go.Conc
open Go.ConcN (sumTo upd sumTo_upd upd_ne upd_same le_sumTo sumTo_congr)
section
variable {p : Ph} {Goal : Goroutine → World → Prop} {m τ : Nat} {ρ : Nat → Role} {M : MR} {t u : Trace} {gs : Array Goroutine} {w : World} {s r f : Nat} {cl : Bool} {sl : Option (Nat × Nat)}
theorem uq2 {e : Event} (h : Calm e) : MemAct.ofEvent e ≠ .mark .disable ∧ MemAct.ofEvent e ≠ .mark .enable := by
  unfold MemAct.ofEvent
  split
  · exact ⟨by simp, by simp⟩
  · rename_i mm _ _
    exact ⟨fun e => h.1 (by cases e; rfl), fun e => h.2 (by cases e; rfl)⟩
  exact ⟨by simp, by simp⟩
theorem ix8 {hp : Hq} {es : Array Event} (h : ∀ e ∈ es, EvIn p hp e) (g fn : Nat) (pos : String) : ∀ op ∈ MemOp.ofEvents g fn pos es, op.act ≠ .mark .disable ∧ op.act ≠ .mark .enable := fun op hop => by
  obtain ⟨e, he, rfl⟩ := Go.Conc.mem_ofEvents hop; exact uq2 (h e he).1
theorem kj7 (g fn : Nat) (pos : String) (es : Array Event) : ∀ op ∈ MemOp.ofEvents g fn pos es, op.g = g := fun op hop => by
  obtain ⟨e, he, rfl⟩ := Go.Conc.mem_ofEvents hop
  rfl
theorem tz8 {hp : Hq} {es : Array Event} (h : ∀ e ∈ es, EvIn p hp e) (g fn : Nat) (pos : String) : ∀ op ∈ MemOp.ofEvents g fn pos es, ∀ x, op.act.touch? = some x → x.loc.isMemory = true → ∀ k, blk x.loc = some k → (x.write = false ∧ RdT p k) ∨ Has hp k := fun op hop x hx hm k hk => by
  obtain ⟨e, he, rfl⟩ := Go.Conc.mem_ofEvents hop; exact (h e he).2 x hx hm k hk
theorem lz8 {gs : Array Goroutine} {φ : Goroutine → Goroutine} (h : ∀ (i : Nat) (g : Goroutine), gs[i]? = some g → φ g = g) : gs.map φ = gs := by
  apply Array.ext_getElem?
  intro i; rw [Array.getElem?_map]
  cases hi : gs[i]? with
  | none => rfl
  | some g => rw [Option.map_some, h i g hi]
theorem InvP.mapped (h : InvP p Goal m τ ρ M t gs w s r f cl) {w' : World} {hp hp' : Hq} (ht : Trn w w' hp hp') {g : Nat} (hown : ∀ k, Has hp k → ownOf M ρ g k) (a a' : Goroutine) : gs.map (woken p.P a a' w') = gs := by
  have notRd : ∀ k, RdT p k → ¬ Has hp k := fun k hr hk => h.RdD (hown k hk) hr; refine lz8 fun i x hx => h.still (ht.keep _ h.ltF (notRd _ ⟨h.ne.2.1, h.ne.2.2.2.1⟩)) ?_ a a' hx; obtain ⟨tm, hc⟩ := h.chL; exact ⟨_, _, _, _, _, (ht.keep _ h.ltL (notRd _ ⟨h.ne.2.2.1, h.ne.2.2.2.2⟩)).trans hc⟩
theorem InvP.step_i (h : InvP p Goal m τ ρ M t gs w s r f cl) {i : Nat} (hpos : 0 < i) {g : Goroutine} (hi : gs[i]? = some g) (hrun : g.status = .running) : Nx p Goal m τ (Wt p gs.size ρ M) t (runT p.P (crowd gs w sl) i) := by
  have hilt : i < gs.size := (Array.getElem?_eq_some_iff.1 hi).1; have hr := h.roles i g hpos hi; have hheld := h.held i hpos hilt
  -- a step of its own
  have go : ∀ (fr : Frame) (cs : List Frame) (hp : Hq) (R' : Role) (fr' : Frame) (cs' : List Frame) (w' : World) (es : Array Event), g = G fr cs → (ρ i).hp = hp → (ρ i).tag ≠ .quit → R'.tag = (ρ i).tag → R'.wt < (ρ i).wt → stepG p.P false (G fr cs) w = .go (G fr' cs') w' es → (∀ e ∈ es, EvIn p hp e) → Trn w w' hp R'.hp → RoleOK p 0 (G fr' cs') R' →
      Nx p Goal m τ (Wt p gs.size ρ M) t (runT p.P (crowd gs w sl) i) := by
    intro fr cs hp R' fr' cs' w' es hg hhp hnq htag hwt hst hev ht hok; subst hg hhp; have hrunT := runT_crowd_go (P := p.P) (sl := sl) hi (show stepG p.P (i == 0) (G fr cs) w = _ by rw [gz hpos]; exact hst); rw [h.mapped ht (g := i) (fun k hk => .inr ⟨hpos, hk⟩)] at hrunT; refine ⟨upd ρ i R', M, _, _, w', sl, s, r, f, cl, hrunT, h.move hpos hi R' htag hnq ht (kj7 i _ _ es) (ix8 hev i _ _) (tz8 hev i _ _) hok, ?_⟩; have := iO (p := p) (ρ := ρ) (M := M) hpos hilt R'; rw [Array.size_setIfInBounds]
    omega
  cases hρ : ρ i with
  | quit n =>
    rw [hρ] at hr
    cases n with
    | zero => rw [hr.1] at hrun; cases hrun
    | succ n =>
      rcases hr with ⟨hf, _⟩ | ⟨_, g', es, hm, hstp, hq'⟩
      · rw [hf] at hrun; cases hrun
      have hrunT := runT_crowd_go (P := p.P) (sl := sl) hi (show stepG p.P (i == 0) g w = _ by rw [gz hpos]; exact hstp w); have hmap : gs.map (woken p.P g g' w) = gs := lz8 fun k x hx => h.still rfl (by obtain ⟨tm, hc⟩ := h.chL; exact ⟨_, _, _, _, _, hc⟩) g g' hx; rw [hmap] at hrunT; refine ⟨upd ρ i (.quit n), M, _, _, w, sl, s, r, f, cl, hrunT, h.slip hpos hi hρ (kj7 i _ _ es) (fun op hop => ?_) ?_, ?_⟩
      · obtain ⟨e, he, rfl⟩ := Go.Conc.mem_ofEvents hop
        exact Go.Conc.touch_mute (hm e he)
      · rw [Deaf_own]; exact hq'
      have := iO (p := p) (ρ := ρ) (M := M) hpos hilt (.quit n); rw [hρ] at this; simp only [Role.wt] at this; rw [Array.size_setIfInBounds]
      omega
  | s1 B j fr cs hp =>
    rw [hρ] at hr hheld; obtain ⟨hd, rfl, hf⟩ := hr
    cases B with
    | zero => exact hf.elim
    | succ B =>
      rcases hf w h.env hheld with ⟨fr', cs', w', es, hp', hst, hev, ht, hf'⟩ | ⟨zz, hst, hf'⟩
      · exact go fr cs hp (.s1 B j fr' cs' hp') fr' cs' w' es rfl (by rw [hρ]; rfl) (by rw [hρ]; simp [Role.tag]) (by rw [hρ]; rfl) (by rw [hρ]; simp only [Role.wt]; omega) hst hev ht ⟨rfl, rfl, hf'⟩
      exact case_s1 h hpos hi hρ hst hf'
  | s2 B fr cs hp =>
    rw [hρ] at hr hheld; obtain ⟨hd, rfl, hf⟩ := hr
    cases B with
    | zero => exact hf.elim
    | succ B =>
      rcases hf w h.env hheld with ⟨fr', cs', w', es, hp', hst, hev, ht, hf'⟩ | ⟨zz, hst, hf'⟩
      · exact go fr cs hp (.s2 B fr' cs' hp') fr' cs' w' es rfl (by rw [hρ]; rfl) (by rw [hρ]; simp [Role.tag]) (by rw [hρ]; rfl) (by rw [hρ]; simp only [Role.wt]; omega) hst hev ht ⟨rfl, rfl, hf'⟩
      exact case_s2 h hpos hi hρ hst hf'
  | rc B k fr cs hp =>
    rw [hρ] at hr hheld; obtain ⟨hd, rfl, hf⟩ := hr
    cases B with
    | zero => exact hf.elim
    | succ B =>
      rcases hf w h.env hheld with ⟨fr', cs', w', es, hp', hst, hev, ht, hf'⟩ | ⟨zz, hst, hf'⟩
      · exact go fr cs hp (.rc B k fr' cs' hp') fr' cs' w' es rfl (by rw [hρ]; rfl) (by rw [hρ]; simp [Role.tag]) (by rw [hρ]; rfl) (by rw [hρ]; simp only [Role.wt]; omega) hst hev ht ⟨rfl, rfl, hf'⟩
      exact case_rc h hpos hi hρ hst hf'
  | cz B fr cs hp =>
    rw [hρ] at hr hheld; obtain ⟨hd, rfl, hf⟩ := hr
    cases B with
    | zero => exact hf.elim
    | succ B =>
      rcases hf w h.env hheld with ⟨fr', cs', w', es, hp', hst, hev, ht, hf'⟩ | ⟨hwk, fr', cs', hst, hf'⟩
      · exact go fr cs hp (.cz B fr' cs' hp') fr' cs' w' es rfl (by rw [hρ]; rfl) (by rw [hρ]; simp [Role.tag]) (by rw [hρ]; rfl) (by rw [hρ]; simp only [Role.wt]; omega) hst hev ht ⟨rfl, rfl, hf'⟩
      exact case_cz h hpos hi hρ hwk hst hf'
  | pr B k fr cs hp => rw [hρ] at hr; obtain ⟨_, ⟨zz, rfl⟩, _⟩ := hr; cases hrun
  | p1 B k fr cs hp => rw [hρ] at hr; obtain ⟨_, ⟨zz, rfl⟩, _⟩ := hr; cases hrun
theorem InvP.step_0 (h : InvP p Goal m τ ρ M t gs w s r f cl) {g : Goroutine} (hi : gs[0]? = some g) (hrun : g.status = .running) : Nx p Goal m τ (Wt p gs.size ρ M) t (runT p.P (crowd gs w sl) 0) ∨ Fin p Goal t (runT p.P (crowd gs w sl) 0) := by
  obtain ⟨g0, h0, hm⟩ := h.main; rw [hi] at h0; obtain rfl := Option.some.inj h0
  cases M with
  | park B R fr cs hp => obtain ⟨rfl, _⟩ := hm; cases hrun
  | run B ms fr cs hp =>
    obtain ⟨hlk, hf⟩ := hm
    cases B with
    | zero => exact hf.elim
    | succ B =>
      have hf0 := hf
      rcases hf w h.env h.heldM with ⟨fr', cs', w', es, hp', hst, hev, ht, hf'⟩ | hc
      · refine .inl ?_
        have hrunT := runT_crowd_go (P := p.P) (sl := sl) hi (show stepG p.P (0 == 0) g w = _ from (hlk.step w).trans hst); rw [h.mapped ht (g := 0) (fun k hk => .inl ⟨rfl, hk⟩)] at hrunT; have e1 := hlk.2.1; refine ⟨ρ, .run B ms fr' cs' hp', _, _, w', sl, s, r, f, cl, hrunT, h.move0 (.run B ms fr' cs' hp') rfl rfl ht (kj7 0 _ _ es) (ix8 hev 0 _ _) (tz8 hev 0 _ _) ⟨⟨rfl, rfl, rfl, rfl⟩, hf'⟩, ?_⟩; simp only [Wt, MR.wt, MR.st, Array.size_setIfInBounds]
        omega
      cases ms with
      | sp j =>
        obtain ⟨fr', cs', fc, h1, h2, hst, a1, a2, a3, a4, a5⟩ := hc; exact .inl (case_sp h hi ((hlk.step w).trans hst) a1 a2 a3 a4 a5)
      | ga R =>
        obtain ⟨hst, hR, hend⟩ := hc; exact case_ga h hi ((hlk.step w).trans hst) hf0 hR hend
theorem InvP.step (h : InvP p Goal m τ ρ M t gs w s r f cl) : Nx p Goal m τ (Wt p gs.size ρ M) t (stepT p.P (crowd gs w sl)) ∨ Fin p Goal t (stepT p.P (crowd gs w sl)) := by
  obtain ⟨i, g, d, sl', hi, hrun, hst⟩ := crowd_pick (P := p.P) (w := w) (sl := sl) h.awake h.runs; rw [hst]
  rcases Nat.eq_zero_or_pos i with rfl | hpos
  · exact (h.at d).step_0 hi hrun
  exact .inl ((h.at d).step_i hpos hi hrun)
theorem InvP.run : ∀ (n : Nat) {ρ : Nat → Role} {M : MR} {t : Trace} {gs : Array Goroutine} {w : World} {s r f : Nat} {cl : Bool} {sl : Option (Nat × Nat)}, InvP p Goal m τ ρ M t gs w s r f cl → Wt p gs.size ρ M ≤ n →
    ∃ (N : Nat) (gs' : Array Goroutine) (g' : Goroutine) (w' : World) (sl' : Option (Nat × Nat)) (t' : Trace) (q' : Nat → Nat) (B' : Nat),
      runNT p.P N (crowd gs w sl) t = (.next (crowd gs' w' sl'), t') ∧ gs'[0]? = some g' ∧ Leavers p.P t' gs' q' ∧ Past noS B' t' ∧ Goal g' w' := by
  intro n
  induction n with
  | zero =>
    intro ρ M t gs w s r f cl sl h hn
    exfalso
    have : 0 < M.wt := by cases M <;> simp only [MR.wt] <;> omega
    unfold Wt at hn
    omega
  | succ n ih =>
    intro ρ M t gs w s r f cl sl h hn
    rcases h.step (sl := sl) with ⟨ρ', M', u, gs', w', sl', s', r', f', cl', hs, h', hlt⟩ | ⟨gs', g', w', sl', u, q', B', hs, h0, hL, hP, hco⟩
    · obtain ⟨N, gs2, g2, w2, sl2, t2, q2, B2, r2, hh⟩ := ih (sl := sl') h' (by omega)
      exact ⟨N + 1, gs2, g2, w2, sl2, t2, q2, B2, by simp only [runNT, hs]; exact r2, hh⟩
    obtain ⟨N, gs2, g2, w2, sl2, t2, q2, B2, r2, hh⟩ := hco w'.drawn gs' sl' _ q' B' h0 hL hP; exact ⟨N + 1, gs2, g2, w2, sl2, t2, q2, B2, by simp only [runNT, hs]; exact r2, hh⟩
theorem phase (hN : p.F ≠ p.Lf ∧ p.F < p.W.heap.size ∧ p.Lf < p.W.heap.size ∧ p.F ≠ p.o ∧ p.Lf ≠ p.o)
    (hF : p.W.heap[p.F]? = some (.chan 0 #[] false 0 0 false)) (hL : p.W.heap[p.Lf]? = some (.chan p.N #[] false 0 0 false))
    {B : Nat} {fr : Frame} {cs : List Frame} {hp : Hq} (hf : FolM p Goal B (.sp 0) fr cs hp) (hheld : Held hp p.W) (hown : ∀ q ∈ hp, q.1 = p.o) : Co p.P (G fr cs) p.W Goal := by
  intro d gs sl t q B0 h0 hLv hP; have henv : Sur p p.W := ⟨rfl, rfl, rfl, Nat.le_refl _, fun k _ _ _ _ => rfl⟩
  let ρ : Nat → Role := fun i => if i < gs.size then .quit (q i) else .s2 0 default [] []
  have hm : 0 < gs.size := (Array.getElem?_eq_some_iff.1 h0).1; have ρlt : ∀ i, i < gs.size → ρ i = .quit (q i) := fun i hi => if_pos hi; have ρge : ∀ i, gs.size ≤ i → ρ i = .s2 0 default [] [] := fun i hi => if_neg (by omega)
  have ρhp : ∀ i, (ρ i).hp = [] := fun i => by
    rcases Nat.lt_or_ge i gs.size with h | h
    · rw [ρlt i h]; rfl
    rw [ρge i h]; rfl
  have own0 : ∀ g k, ownOf (.run B (.sp 0) fr cs hp) ρ g k → g = 0 ∧ k = p.o ∧ Has hp k := by
    rintro g k (⟨rfl, hk⟩ | ⟨_, hk⟩)
    · obtain ⟨q, hq, rfl⟩ := hk
      exact ⟨rfl, hown q hq, q, hq, rfl⟩
    rw [ρhp] at hk; obtain ⟨q, hq, _⟩ := hk; cases hq
  have live0 : ∀ g, liveOf gs.size gs.size ρ g → g = 0 := by
    rintro g (h | ⟨h1, h2, _⟩)
    · exact h
    omega
  have inv : InvP p Goal gs.size t.size ρ (.run B (.sp 0) fr cs hp) t gs (p.W.at d) 0 0 0 false := by
    refine InvP.at (w := p.W) ?_ d
    refine { cmb := ⟨hm, fun i h1 h2 => by simp only [ρlt i h2, Role.tag], fun i h => by simp only [ρge i (by simpa [nsp, MR.st] using h), Role.tag, Tag.isQ], fun j _ h => by simp [nsp, MR.st] at h, fun h => by simp [nsp, MR.st] at h, fun _ => rfl, fun _ _ _ => rfl, fun j e => ?_, fun R e => (by cases e), Nat.le_refl _, ?_, fun e => (by cases e)⟩, size := rfl, main := ⟨_, h0, ⟨rfl, rfl, rfl, rfl⟩, hf⟩, roles := ?_, chF := ⟨false, hF⟩, chL := ⟨false, by simpa using hL⟩, ne := hN, env := henv, heldM := hheld
             held := fun i _ _ => (by rw [ρhp]; intro q hq; cases hq), far := fun i _ => ρhp i, d1 := fun g g' k h1 h2 => (own0 g k h1).1.trans (own0 g' k h2).1.symm, ge := fun g k h => .inr ⟨(own0 g k h).1, (own0 g k h).2.1⟩, ti := ?_, kn := ?_, seen := ⟨B0, hP.seen⟩, above := hLv.above }
    · obtain rfl : 0 = j := by cases e; rfl
      exact ⟨Nat.zero_le _, fun i hi => absurd hi (Nat.not_lt_zero i)⟩
    · have : ∀ n, sumTo n (fun j => ((ρ (gs.size + j)).tag).isQ) = 0 := by
        intro n
        induction n with
        | zero => rfl
        | succ n ih => simp only [sumTo, ih, ρge (gs.size + n) (by omega)]; rfl
      exact this _
    · intro i g hi hg
      rw [ρlt i (Array.getElem?_eq_some_iff.1 hg).1]; exact hLv.old i g hi hg
    · refine ⟨Nat.le_refl _, hP.clean, fun g hg i a _ ha hm => ?_, fun g k _ i a hi ha _ => ?_, fun i a k hi ha => ?_, fun i a k hi ha => ?_, fun g hg => by rw [live0 g hg]; exact hP.hears⟩
      · rw [live0 g hg]
        rcases hP.known i a ha hm with h1 | ⟨h1, _⟩
        · exact h1
        exact h1.elim
      all_goals
        obtain ⟨x, hx, _⟩ := touch_of ha; have := lt_size_of_getElem? hx
        omega
    intro i a ha hm
    rcases hP.known i a ha hm with ⟨q, z, h1, h2, h3⟩ | ⟨h1, _⟩
    · exact ⟨q, h3, z, h1, .inl (.inl h2)⟩
    exact h1.elim
  exact inv.run _ (Nat.le_refl _)
end
end Go.W
end
section
namespace Go.W
open Go Go.Conc
set_option maxRecDepth 4000
def Dry {α : Type} : Sem α → Prop
  | .pure _ => True
  | .load _ _ _ => False
  | .store _ _ _ _ => False
  | .new _ k => ∀ r, Dry (k r)
  | .shape _ k => ∀ s, Dry (k s)
  | .freeze _ _ k => Dry k
  | .frozen _ k => ∀ b, Dry (k b)
  | .getObj _ _ => False
  | .setObj _ _ _ => False
  | .choose _ k => ∀ n, Dry (k n)
  | .sys _ _ => False
  | .program k => ∀ p, Dry (k p)
  | .mark _ _ => False
  | .halt _ => True
theorem tz9 {α : Type} {P : Program} (s : Sem α) : Dry s → ∀ (w : World) (es : Array Event), (s.runT P w es).2 = es := by
  induction s with
  | pure a => intro _ w es; rfl
  | load m a k ih => intro h; exact h.elim
  | store m a v k ih => intro h; exact h.elim
  | new o k ih => intro hq w es; exact ih _ (hq _) _ _
  | shape r k ih => intro hq w es; exact ih _ (hq _) _ _
  | freeze a n k ih => intro hq w es; exact ih hq _ _
  | frozen a k ih => intro hq w es; exact ih _ (hq _) _ _
  | getObj r k ih => intro h; exact h.elim
  | setObj r o k ih => intro h; exact h.elim
  | choose q k ih =>
    intro hq w es; simp only [Sem.runT]
    split
    · exact ih _ (hq _) _ _
    exact ih _ (hq _) _ _
  | sys c k ih => intro h; exact h.elim
  | program k ih => intro hq w es; exact ih _ (hq _) _ _
  | mark m k ih => intro h; exact h.elim
  | halt h => intro _ w es; rfl
theorem nz6 {α : Type} {P : Program} {s : Sem α} (h : Dry s) (w : World) (es : Array Event) : s.events P w es = es := tz9 s h w es
theorem xW {α β : Type} {s : Sem α} {f : α → Sem β} (hs : Dry s) (hf : ∀ a, Dry (f a)) : Dry (s >>= f) := by
  show Dry (s.bind f)
  induction s with
  | pure a => exact hf a
  | load m a k ih => exact hs.elim
  | store m a v k ih => exact hs.elim
  | new o k ih => exact fun v => ih v (hs v)
  | shape r k ih => exact fun v => ih v (hs v)
  | freeze a n k ih => exact ih hs
  | frozen a k ih => exact fun v => ih v (hs v)
  | getObj r k ih => exact hs.elim
  | setObj r o k ih => exact hs.elim
  | choose q k ih => exact fun v => ih v (hs v)
  | sys c k ih => exact hs.elim
  | program k ih => exact fun v => ih v (hs v)
  | mark m k ih => exact hs.elim
  | halt h => trivial
theorem dry_map {α β : Type} {f : α → β} {s : Sem α} (h : Dry s) : Dry (f <$> s) := xW h fun _ => trivial
theorem dry_ite {α : Type} {c : Prop} [Decidable c] {s t : Sem α} (hs : Dry s) (ht : Dry t) : Dry (if c then s else t) := by
  split
  · exact hs
  exact ht
theorem dx9 {α β : Type} {f : α → β → Sem (ForInStep β)} (hf : ∀ a b, Dry (f a b)) : ∀ (l : List α) (b : β), Dry (forIn l b f)
  | [], b => by rw [List.forIn_nil]; trivial
  | a :: l, b => by
    rw [List.forIn_cons]; refine xW (hf a b) fun r => ?_
    cases r with
    | done b => trivial
    | yield b => exact dx9 hf l b
theorem uj0 {α β : Type} {f : α → β → Sem (ForInStep β)} (hf : ∀ a b, Dry (f a b)) (l : Array α) (b : β) : Dry (forIn l b f) := by
  rw [← Array.forIn_toList]; exact dx9 hf _ _
class DC {α : Type} (s : Sem α) : Prop where
  out : Dry s
theorem X6 {α : Type} {s : Sem α} (h : Dry s := by repeat' (first | exact trivial | assumption | exact fun _ => trivial | exact DC.out | refine dry_ite ?_ ?_ | refine xW ?_ fun _ => ?_ | refine dry_map ?_ | refine dx9 (fun _ _ => ?_) _ _ | refine uj0 (fun _ _ => ?_) _ _ | (intro _; done) | split | (show Dry _; dsimp only))) : Dry s := h
instance {α : Type} (s : String) : DC (stuck s : Sem α) := ⟨trivial⟩
instance {α : Type} (s : Unsupported) : DC (unsupported s : Sem α) := ⟨trivial⟩
instance {α : Type} (v : Value) : DC (goPanic v : Sem α) := ⟨trivial⟩
instance : DC program := ⟨fun _ => trivial⟩
instance (o : Obj) : DC (newObj o) := ⟨fun _ => trivial⟩
instance (t : TypeId) : DC (typeInfo t) := ⟨by unfold typeInfo; exact X6⟩
instance (t : TypeId) : DC (underlying t) := ⟨by unfold underlying; exact X6⟩
instance (t : TypeId) : DC (sizeOf t) := ⟨by unfold sizeOf; exact X6⟩
instance (t : TypeId) : DC (isAgg t) := ⟨by unfold isAgg; exact X6⟩
instance (t : TypeId) : DC (zeroValue t) := ⟨by unfold zeroValue; exact X6⟩
instance (r : Nat) : DC (shape r) := ⟨fun _ => trivial⟩
instance (e : TypeId) (cs : Array Value) : DC (newRow e cs) := ⟨by unfold newRow; exact X6⟩
instance (e : TypeId) (v : Value) : DC (newVar e v) := ⟨by unfold newVar; exact X6⟩
instance (t : TypeId) : DC (elemOf t) := ⟨by unfold elemOf; exact X6⟩
instance (q : Question) : DC (choose q) := ⟨fun _ => trivial⟩
instance {α : Type} (e : RuntimeError) : DC (runtimePanic e : Sem α) := ⟨by
  unfold runtimePanic; refine xW (fun _ => trivial) fun p => ?_
  cases e <;> exact X6⟩
instance (v : Value) : DC (asIntOf v) := ⟨by unfold asIntOf; exact X6⟩
instance (v : Value) : DC (asBool v) := ⟨by unfold asBool; exact X6⟩
instance (v : Value) : DC (asAddr v) := ⟨by unfold asAddr; exact X6⟩
instance {α : Type} (k : IntKind) (x y : Int) (c : BoundsCode) : DC (boundsPanic k x y c : Sem α) := ⟨by unfold boundsPanic; exact X6⟩
instance (v : Value) : DC (Instr.sureAddr v) := ⟨by unfold Instr.sureAddr; exact X6⟩
instance (t : TypeId) (v x : Value) : DC (Instr.indexAt t v x) := ⟨by unfold Instr.indexAt; exact X6⟩
instance (f : Fn) (x y : Array Value) : DC (Instr.makeFunc f x y) := ⟨by unfold Instr.makeFunc; exact X6⟩
/-! ### What may stand for one of them, or for goroutine 0 -/
structure TX where
  p : Ph
  main : Bool
  T : Nat → Frame → List Frame → Hq → Prop
  lift : ∀ B fr cs hp, (∀ w, Sur p w → Held hp w → ∃ fr' cs' w' es hp', stepG p.P main (G fr cs) w = .go (G fr' cs') w' es ∧ (∀ e ∈ es, EvIn p hp e) ∧ Trn w w' hp hp' ∧ T B fr' cs' hp') → T (B + 1) fr cs hp
  mono : ∀ B fr cs hp, T B fr cs hp → T (B + 1) fr cs hp
theorem iV {P : Program} : ∀ {n d : Nat} {g : Goroutine}, QuitsD P n d g → QuitsD P (n + 1) d g
  | 0, d, g, h => .inl h
  | n + 1, d, g, h => h.elim .inl fun ⟨h1, g', es, h2, h3, h4⟩ => .inr ⟨h1, g', es, h2, h3, iV h4⟩
theorem ax1 {P : Program} {n m d : Nat} {g : Goroutine} (h : QuitsD P n d g) (hm : n ≤ m) : QuitsD P m d g := by
  induction hm with
  | refl => exact h
  | step _ ih => exact iV ih
theorem xU {p : Ph} : ∀ {B : Nat} {pr : Pr} {fr : Frame} {cs : List Frame} {hp : Hq}, Fol p B pr fr cs hp → Fol p (B + 1) pr fr cs hp
  | 0, _, _, _, _, h => h.elim
  | B + 1, pr, fr, cs, hp, h => fun w he hh => by
    rcases h w he hh with ⟨fr', cs', w', es, hp', h1, h2, h3, h4⟩ | hc
    · exact .inl ⟨fr', cs', w', es, hp', h1, h2, h3, xU h4⟩
    refine .inr ?_
    cases pr with
    | send1 j => obtain ⟨zz, h1, h2⟩ := hc; exact ⟨zz, h1, xU h2⟩
    | send2 => obtain ⟨zz, h1, h2⟩ := hc; exact ⟨zz, h1, iV h2⟩
    | recv k => obtain ⟨zz, h1, h2⟩ := hc; exact ⟨zz, h1, xU h2⟩
    | close => obtain ⟨h0, fr', cs', h1, h2⟩ := hc; exact ⟨h0, fr', cs', h1, iV h2⟩
theorem lE {p : Ph} {Goal : Goroutine → World → Prop} : ∀ {B : Nat} {ms : Ms} {fr : Frame} {cs : List Frame} {hp : Hq}, FolM p Goal B ms fr cs hp → FolM p Goal (B + 1) ms fr cs hp
  | 0, _, _, _, _, h => h.elim
  | B + 1, ms, fr, cs, hp, h => fun w he hh => by
    rcases h w he hh with ⟨fr', cs', w', es, hp', h1, h2, h3, h4⟩ | hc
    · exact .inl ⟨fr', cs', w', es, hp', h1, h2, h3, lE h4⟩
    refine .inr ?_
    cases ms with
    | sp j =>
      obtain ⟨fr', cs', fc, h1, h2, a1, a2, a3, a4, a5, a6⟩ := hc; exact ⟨fr', cs', fc, h1, h2, a1, a2, a3, a4, a5, a6.imp (fun ⟨b1, b2, b3⟩ => ⟨b1, b2, lE b3⟩) fun ⟨b1, b2, b3⟩ => ⟨b1, b2, lE b3⟩⟩
    | ga R => obtain ⟨h1, h2, h3⟩ := hc; exact ⟨h1, fun j hj => lE (h2 j hj), h3⟩
def TX.fol (p : Ph) (pr : Pr) : TX := ⟨p, false, fun B fr cs hp => Fol p B pr fr cs hp, fun _ _ _ _ h w he hh => .inl (h w he hh), fun _ _ _ _ => xU⟩
def TX.folM (p : Ph) (Goal : Goroutine → World → Prop) (ms : Ms) : TX := ⟨p, true, fun B fr cs hp => FolM p Goal B ms fr cs hp, fun _ _ _ _ h w he hh => .inl (h w he hh), fun _ _ _ _ => lE⟩
def TC (X : TX) (c : Cx) (b : Frame) (cs : List Frame) (n : Nat) (ks : List Item) (fr : Fr) (hp : Hq) : Prop := ∀ a, Ok c a fr → X.T n (b.at a ks) cs hp
section
variable {X : TX} {c : Cx} {b : Frame} {cs : List Frame} {n : Nat} {k : List Item} {fr : Fr} {hp : Hq} {ops : Array Oper} {i : Nat} {rest : List Nat}
variable {d : Tmp} {ty : TypeId} {pos : String} {af : Array Edge}
theorem TX.more (X : TX) {B B' : Nat} {fr : Frame} {cs : List Frame} {hp : Hq} (h : X.T B fr cs hp) (hB : B ≤ B') : X.T B' fr cs hp := by
  induction hB with
  | refl => exact h
  | step _ ih => exact X.mono _ _ _ _ ih
theorem aE {m : Nat} (hm : m ≤ n) (h : TC X c b cs m k fr hp) : TC X c b cs n k fr hp := fun a ha => X.more (h a ha) hm
theorem A8 {fr' : Fr} (hs : FrSub fr fr') (h : TC X c b cs n k fr' hp) : TC X c b cs n k fr hp := fun a ha => h a (ha.sub hs)
theorem wK {w : World} (h : Held hp w) : Trn w w hp hp := ⟨rfl, rfl, rfl, Nat.le_refl _, fun _ _ _ => rfl, h, fun q hq => .inl ⟨q, hq, rfl⟩⟩
theorem lj2 {w : World} {hp' : Hq} (h : Held hp w) (hs : ∀ q ∈ hp', q ∈ hp) : Trn w w hp hp' := ⟨rfl, rfl, rfl, Nat.le_refl _, fun _ _ _ => rfl, fun q hq => h q (hs q hq), fun q hq => .inl ⟨q, hs q hq, rfl⟩⟩
theorem sq9 {B : Nat} {f f' : Frame} {cs' : List Frame} (h : ∀ w, stepG X.p.P X.main (G f cs) w = .go (G f' cs') w) (k : X.T B f' cs' hp) : X.T (B + 1) f cs hp :=
  X.lift _ _ _ _ fun w he hh => ⟨f', cs', w, #[], hp, h w, by simp, wK hh, k⟩
theorem lR {k' : List Item} (h : ∀ a w, stepG X.p.P X.main (G (b.at a k) cs) w = .go (G (b.at a k') cs) w) (kk : TC X c b cs n k' fr hp) : TC X c b cs (n + 1) k fr hp := fun a ha => sq9 (fun w => h a w) (kk a ha)
theorem J2 {x y : Code} (kk : TC X c b cs n (.code x :: .code y :: k) fr hp) : TC X c b cs (n + 1) (.code (.seq x y) :: k) fr hp := lR (fun _ _ => stepG_seq) kk
theorem jq1 (kk : TC X c b cs n k fr hp) : TC X c b cs (n + 1) (.code .skip :: k) fr hp := lR (fun _ _ => stepG_skip) kk
theorem kG {id : Nat} {x : Code} (kk : TC X c b cs n (.code x :: .inBlock id :: k) fr hp) : TC X c b cs (n + 1) (.code (.block id x) :: k) fr hp := lR (fun _ _ => stepG_block) kk
theorem uE {id : Nat} (kk : TC X c b cs n k fr hp) : TC X c b cs (n + 1) (.inBlock id :: k) fr hp := lR (fun _ _ => stepG_inBlock) kk
theorem jq2 {x : Code} (kk : TC X c b cs n (.code x :: .inLoop x :: k) fr hp) : TC X c b cs (n + 1) (.code (.loop x) :: k) fr hp := lR (fun _ _ => stepG_loop) kk
theorem ij0 {x : Code} (kk : TC X c b cs n (.code x :: .inLoop x :: k) fr hp) : TC X c b cs (n + 1) (.inLoop x :: k) fr hp := lR (fun _ _ => stepG_inLoop) kk
theorem pq6 {id : Nat} (k' : List Item) (h : exitTo id k = some k') (kk : TC X c b cs n k' fr hp) : TC X c b cs (n + 1) (.code (.exit id) :: k) fr hp := lR (fun _ _ => stepG_exit h) kk
theorem wQ {x : Operand} {y z : Code} (t : Bool) (hx : ev fr x = some (.bool t)) (kk : TC X c b cs n (.code (if t then y else z) :: k) fr hp) : TC X c b cs (n + 1) (.code (.cond x y z) :: k) fr hp :=
  fun a ha => sq9 (fun _ => stepG_cond (ha.ev hx)) (kk a ha)
theorem C9 {id : Nat} {l : List Oper} (kk : TC X c b cs n (.inRegion l.toArray (List.range l.length) :: k) fr hp) : TC X c b cs (n + 1) (.code (.region id l.toArray false) :: k) fr hp := lR (fun _ _ => stepG_region) (by simpa using kk)
theorem N7 (kk : TC X c b cs n k fr hp) : TC X c b cs (n + 1) (.inRegion ops [] :: k) fr hp := lR (fun _ _ => stepG_region_end) kk
/-! ### Operations -/
theorem uN {P : Program} {fn : FuncId} {a : Act} {o : Oper} {w : World} {e : Event} (h : e ∈ listed P fn a o w) : e ∈ (execOp a.eval o).events P w #[] := by
  unfold listed at h; rw [seen_def] at h
  rcases seen_fold_sub _ _ _ _ _ h with h1 | h1
  · simp at h1
  simpa using h1
def EvsIn (X : TX) (hp : Hq) (a : Act) (o : Oper) (w : World) : Prop := ∀ e ∈ (execOp a.eval o).events X.p.P w #[], EvIn X.p hp e
theorem P6 {a : Act} {o : Oper} {w : World} (h : (execOp a.eval o).events X.p.P w #[] = #[]) : EvsIn X hp a o w := fun e he => by rw [h] at he; simp at he
theorem tc_op {o : Oper} (ho : ops[i]? = some o) (hg : o.guard = none) (hk : b.kind ≠ .early)
    (h : ∀ a, Ok c a fr → ∀ w, Sur X.p w → Held hp w → ∃ v w' hp', (execOp a.eval o).run X.p.P w = .ok (.value v) w' ∧ EvsIn X hp a o w ∧ Trn w w' hp hp' ∧ X.T n (b.at (a.put o.dst v) (.inRegion ops rest :: k)) cs hp') :
    TC X c b cs (n + 1) (.inRegion ops (i :: rest) :: k) fr hp := fun a ha => X.lift _ _ _ _ fun w he hh => by
  obtain ⟨v, w', hp', h1, h2, h3, h4⟩ := h a ha w he hh; exact ⟨_, _, w', _, hp', stepG_value ho (by simp [Region.wanted, hg]) hk h1, fun e he' => h2 e (uN he'), h3, h4⟩
theorem sq7 {o : Oper} (ho : ops[i]? = some o) (hg : o.guard = none) (hd : o.dst = none) (hk : b.kind ≠ .early)
    (h : ∀ a, Ok c a fr → ∀ w, Sur X.p w → Held hp w → ∃ w' hp', (execOp a.eval o).run X.p.P w = .ok .skip w' ∧ EvsIn X hp a o w ∧ Trn w w' hp hp' ∧ X.T n (b.at a (.inRegion ops rest :: k)) cs hp') :
    TC X c b cs (n + 1) (.inRegion ops (i :: rest) :: k) fr hp := fun a ha => X.lift _ _ _ _ fun w he hh => by
  obtain ⟨w', hp', h1, h2, h3, h4⟩ := h a ha w he hh; refine ⟨_, _, w', _, hp', stepG_none ho (by simp [Region.wanted, hg]) hk h1, fun e he' => h2 e (uN he'), h3, ?_⟩; rw [hd]; exact h4
theorem gP {o : Oper} (v : Value) (ho : ops[i]? = some o) (hdst : o.dst = some d) (hg : o.guard = none) (hd : Nat.blt d c.n = true) (hk : b.kind ≠ .early)
    (hrun : ∀ a w, Ok c a fr → Sur X.p w → Held hp w → (execOp a.eval o).run X.p.P w = .ok (.value v) w ∧ EvsIn X hp a o w)
    (kk : TC X c b cs n (.inRegion ops rest :: k) ((d, v) :: fr) hp) : TC X c b cs (n + 1) (.inRegion ops (i :: rest) :: k) fr hp :=
  tc_op ho hg hk fun a ha w he hh => ⟨v, w, hp, (hrun a w ha he hh).1, (hrun a w ha he hh).2, wK hh, by rw [hdst]; exact kk _ (ha.put (by simpa using hd) v)⟩
theorem rV {x : Operand} {v : Value} (ho : ops[i]? = some ⟨some d, .move x, ty, pos, af, none⟩) (hd : Nat.blt d c.n = true) (hk : b.kind ≠ .early) (hx : ev fr x = some v)
    (kk : TC X c b cs n (.inRegion ops rest :: k) ((d, v) :: fr) hp) : TC X c b cs (n + 1) (.inRegion ops (i :: rest) :: k) fr hp :=
  gP v ho rfl rfl hd hk (fun a w ha _ _ => ⟨by simp only [execOp, ha.ev hx]; rfl, P6 rfl⟩) kk
theorem dR {x : Operand} {v : Value} (ho : ops[i]? = some ⟨some d, .assign x, ty, pos, af, none⟩) (hd : Nat.blt d c.n = true) (hk : b.kind ≠ .early) (hx : ev fr x = some v)
    (kk : TC X c b cs n (.inRegion ops rest :: k) ((d, v) :: fr) hp) : TC X c b cs (n + 1) (.inRegion ops (i :: rest) :: k) fr hp :=
  gP v ho rfl rfl hd hk (fun a w ha _ _ => ⟨by simp only [execOp, ha.ev hx]; rfl, P6 rfl⟩) kk
theorem cq3 {x : Operand} {vs : Array Value} {j : Nat} {v : Value} (ho : ops[i]? = some ⟨some d, .extract x j, ty, pos, af, none⟩) (hd : Nat.blt d c.n = true) (hk : b.kind ≠ .early) (hx : ev fr x = some (.tuple vs)) (hv : vs[j]? = some v)
    (kk : TC X c b cs n (.inRegion ops rest :: k) ((d, v) :: fr) hp) : TC X c b cs (n + 1) (.inRegion ops (i :: rest) :: k) fr hp :=
  gP v ho rfl rfl hd hk (fun a w ha _ _ => ⟨by simp [execOp, ha.ev hx, Instr.extract, hv], P6 (by simp [execOp, ha.ev hx, Instr.extract, hv])⟩) kk
theorem W5 {s : TypeId} {f : Nat} {x : Operand} {ad : Addr} {off : Nat} (q : Addr) (ho : ops[i]? = some ⟨some d, .fieldAddr s x f, ty, pos, af, none⟩) (hd : Nat.blt d c.n = true) (hk : b.kind ≠ .early) (hx : ev fr x = some (.pointer (some ad)))
    (hrun : ∀ p w, (Instr.fieldAt s (.pointer (some p)) f).run X.p.P w = .ok (.pointer (some (p.add off))) w) (hev : ∀ p w es, (Instr.fieldAt s (.pointer (some p)) f).events X.p.P w es = es) (hq : ad.add off = q)
    (kk : TC X c b cs n (.inRegion ops rest :: k) ((d, .pointer (some q)) :: fr) hp) : TC X c b cs (n + 1) (.inRegion ops (i :: rest) :: k) fr hp :=
  gP _ ho rfl rfl hd hk (fun a w ha _ _ => ⟨by simp only [execOp, ha.ev hx, Sem.run_bind, hrun, Result.andThen_ok, Sem.run_pure, hq], P6 (by simp [execOp, ha.ev hx, hrun, hev])⟩) kk
theorem lj5 {t : TypeId} {parts : Array (Nat × Operand)} {v : Value} (vs : List (Nat × Value)) (ho : ops[i]? = some ⟨some d, .build t parts, ty, pos, af, none⟩) (hd : Nat.blt d c.n = true) (hk : b.kind ≠ .early) (hx : parts.toList.mapM (fun p => (ev fr p.2).map (p.1, ·)) = some vs)
    (hrun : ∀ w, (Instr.build t vs.toArray).run X.p.P w = .ok v w) (hev : ∀ w es, (Instr.build t vs.toArray).events X.p.P w es = es)
    (kk : TC X c b cs n (.inRegion ops rest :: k) ((d, v) :: fr) hp) : TC X c b cs (n + 1) (.inRegion ops (i :: rest) :: k) fr hp := by
  have key : ∀ (a : Act), Ok c a fr → (parts.map fun (i, x) => (i, a.eval x)) = vs.toArray := by
    intro a ha
    have key : ∀ (xs : List (Nat × Operand)) (vs : List (Nat × Value)), xs.mapM (fun p => (ev fr p.2).map (p.1, ·)) = some vs → xs.map (fun p => (p.1, a.eval p.2)) = vs := by
      intro xs
      induction xs with
      | nil => intro vs h; simpa using h
      | cons x xs ih =>
        intro vs h; simp only [List.mapM_cons, Option.bind_eq_bind, Option.bind_eq_some_iff, Option.pure_def, Option.some.injEq, Option.map_eq_some_iff] at h; obtain ⟨v, ⟨u, hu, rfl⟩, us, hus, rfl⟩ := h; rw [List.map_cons, ha.ev hu, ih us hus]
    apply Array.ext'; simpa using key _ _ hx
  exact gP v ho rfl rfl hd hk (fun a w ha _ _ => ⟨by simp only [execOp, key a ha, Sem.run_bind, hrun, Result.andThen_ok, Sem.run_pure], P6 (by simp only [execOp, key a ha]; simp [hrun, hev])⟩) kk
theorem aq8 {fn : Fn} {first cap : Array Operand} {v1 v2 : List Value} (ho : ops[i]? = some ⟨some d, .makeFunc fn first cap, ty, pos, af, none⟩) (hd : Nat.blt d c.n = true) (hk : b.kind ≠ .early)
    (h1 : first.toList.mapM (ev fr) = some v1) (h2 : cap.toList.mapM (ev fr) = some v2)
    (kk : TC X c b cs n (.inRegion ops rest :: k) ((d, .func fn v1.toArray v2.toArray) :: fr) hp) : TC X c b cs (n + 1) (.inRegion ops (i :: rest) :: k) fr hp := by
  have key : ∀ (a : Act), Ok c a fr → ∀ (xs : List Operand) (vs : List Value), xs.mapM (ev fr) = some vs → xs.map a.eval = vs := by
    intro a ha xs
    induction xs with
    | nil => intro vs h; simpa using h
    | cons x xs ih =>
      intro vs h; simp only [List.mapM_cons, Option.bind_eq_bind, Option.bind_eq_some_iff, Option.pure_def, Option.some.injEq] at h; obtain ⟨v, hv, us, hus, rfl⟩ := h; rw [List.map_cons, ha.ev hv, ih us hus]
  have e1 : ∀ (a : Act), Ok c a fr → first.map a.eval = v1.toArray := fun a ha => by apply Array.ext'; simpa using key a ha _ _ h1
  have e2 : ∀ (a : Act), Ok c a fr → cap.map a.eval = v2.toArray := fun a ha => by apply Array.ext'; simpa using key a ha _ _ h2
  exact gP _ ho rfl rfl hd hk (fun a w ha _ _ => ⟨by simp only [execOp, e1 a ha, e2 a ha]; rfl, P6 (by simp only [execOp, e1 a ha, e2 a ha]; rfl)⟩) kk
theorem cq4 {op : BinOp} {t yt : TypeId} {x y : Operand} {u v : Value} (r : Value) (ho : ops[i]? = some ⟨some d, .binOp op t x y yt, ty, pos, af, none⟩) (hd : Nat.blt d c.n = true) (hk : b.kind ≠ .early) (hx : ev fr x = some u) (hy : ev fr y = some v)
    (hg : ∀ w, (eqGuard op t x y u v).run X.p.P w = .ok () w) (hge : ∀ w, (eqGuard op t x y u v).events X.p.P w #[] = #[]) (hr : ∀ w, (binOp op t u v).run X.p.P w = .ok r w) (hre : ∀ w, (binOp op t u v).events X.p.P w #[] = #[])
    (kk : TC X c b cs n (.inRegion ops rest :: k) ((d, r) :: fr) hp) : TC X c b cs (n + 1) (.inRegion ops (i :: rest) :: k) fr hp :=
  gP r ho rfl rfl hd hk (fun a w ha _ _ => ⟨by simp only [execOp, ha.ev hx, ha.ev hy, Sem.run_bind, hg, hr, Result.andThen_ok, Sem.run_pure], P6 (by simp [execOp, ha.ev hx, ha.ev hy, hg, hge, hr, hre])⟩) kk
theorem nj5 {t yt : TypeId} {x y : Operand} {a b' : Int} (z : Int) (ho : ops[i]? = some ⟨some d, .binOp .add t x y yt, ty, pos, af, none⟩) (hd : Nat.blt d c.n = true) (hk : b.kind ≠ .early) (hx : ev fr x = some (int a)) (hy : ev fr y = some (int b')) (hz : a + b' = z) (hr : I64 z)
    (kk : TC X c b cs n (.inRegion ops rest :: k) ((d, int z) :: fr) hp) : TC X c b cs (n + 1) (.inRegion ops (i :: rest) :: k) fr hp :=
  cq4 _ ho hd hk hx hy (fun _ => rfl) (fun _ => by simp [eqGuard, go_sem]) (fun w => by
    show Result.ok (Value.int .i64 (IntKind.i64.wrap (a + b'))) w = _
    rw [IntWalk.i64_in _ (hz ▸ hr), hz]) (fun _ => by simp [binOp, int, go_sem]) kk
theorem tr_sub {t yt : TypeId} {x y : Operand} {a b' : Int} (z : Int) (ho : ops[i]? = some ⟨some d, .binOp .sub t x y yt, ty, pos, af, none⟩) (hd : Nat.blt d c.n = true) (hk : b.kind ≠ .early) (hx : ev fr x = some (int a)) (hy : ev fr y = some (int b')) (hz : a - b' = z) (hr : I64 z)
    (kk : TC X c b cs n (.inRegion ops rest :: k) ((d, int z) :: fr) hp) : TC X c b cs (n + 1) (.inRegion ops (i :: rest) :: k) fr hp :=
  cq4 _ ho hd hk hx hy (fun _ => rfl) (fun _ => by simp [eqGuard, go_sem]) (fun w => by
    show Result.ok (Value.int .i64 (IntKind.i64.wrap (a - b'))) w = _
    rw [IntWalk.i64_in _ (hz ▸ hr), hz]) (fun _ => by simp [binOp, int, go_sem]) kk
theorem tr_mul {t yt : TypeId} {x y : Operand} {a b' : Int} (z : Int) (ho : ops[i]? = some ⟨some d, .binOp .mul t x y yt, ty, pos, af, none⟩) (hd : Nat.blt d c.n = true) (hk : b.kind ≠ .early) (hx : ev fr x = some (int a)) (hy : ev fr y = some (int b')) (hz : a * b' = z) (hr : I64 z)
    (kk : TC X c b cs n (.inRegion ops rest :: k) ((d, int z) :: fr) hp) : TC X c b cs (n + 1) (.inRegion ops (i :: rest) :: k) fr hp :=
  cq4 _ ho hd hk hx hy (fun _ => rfl) (fun _ => by simp [eqGuard, go_sem]) (fun w => by
    show Result.ok (Value.int .i64 (IntKind.i64.wrap (a * b'))) w = _
    rw [IntWalk.i64_in _ (hz ▸ hr), hz]) (fun _ => by simp [binOp, int, go_sem]) kk
theorem tr_quo {t yt : TypeId} {x y : Operand} {a b' : Int} (z : Int) (ho : ops[i]? = some ⟨some d, .binOp .quo t x y yt, ty, pos, af, none⟩) (hd : Nat.blt d c.n = true) (hk : b.kind ≠ .early) (hx : ev fr x = some (int a)) (hy : ev fr y = some (int b')) (hb : b' ≠ 0) (hz : a.tdiv b' = z) (hr : I64 z)
    (kk : TC X c b cs n (.inRegion ops rest :: k) ((d, int z) :: fr) hp) : TC X c b cs (n + 1) (.inRegion ops (i :: rest) :: k) fr hp :=
  cq4 _ ho hd hk hx hy (fun _ => rfl) (fun _ => by simp [eqGuard, go_sem]) (fun w => by
    have : (binOp .quo t (.int .i64 a) (.int .i64 b')) = Op.intDiv .quo .i64 a b' := rfl; rw [int, int, this]
    simp [Op.intDiv, hb, hz, int]
    exact IntWalk.i64_in _ hr) (fun _ => by simp [binOp, int, go_sem, Op.intDiv, hb]) kk
theorem jj9 {t yt : TypeId} {x y : Operand} {kd : IntKind} {a b' : Int} (ho : ops[i]? = some ⟨some d, .binOp .lss t x y yt, ty, pos, af, none⟩) (hd : Nat.blt d c.n = true) (hk : b.kind ≠ .early) (hx : ev fr x = some (.int kd a)) (hy : ev fr y = some (.int kd b'))
    (kk : TC X c b cs n (.inRegion ops rest :: k) ((d, .bool (decide (a < b'))) :: fr) hp) : TC X c b cs (n + 1) (.inRegion ops (i :: rest) :: k) fr hp :=
  cq4 _ ho hd hk hx hy (fun _ => rfl) (fun _ => by simp [eqGuard, go_sem]) (fun w => by cases kd <;> rfl) (fun _ => by cases kd <;> simp [binOp, go_sem]) kk
theorem tr_len {t : TypeId} {x : Operand} {A : Option Addr} {m cp : Nat} {e : TypeId} (ho : ops[i]? = some ⟨some d, .call ⟨.builtin .len, #[x], #[t]⟩, ty, pos, af, none⟩) (hd : Nat.blt d c.n = true) (hk : b.kind ≠ .early) (ht : X.p.P.underlying t = some (.slice e)) (hx : ev fr x = some (.slice A m cp))
    (kk : TC X c b cs n (.inRegion ops rest :: k) ((d, int m) :: fr) hp) : TC X c b cs (n + 1) (.inRegion ops (i :: rest) :: k) fr hp := by
  have he : X.p.P.underlying t = some (.slice (X.p.P.elem t)) := by rw [ht]; simp [Program.elem, ht]
  refine gP _ ho rfl rfl hd hk (fun a w ha _ _ => ⟨?_, P6 ?_⟩) kk
  · simp [execOp, resolve, invoke, builtin, Builtin.len_, ha.ev hx, run_underlying ht, goInt]
  simp [execOp, resolve, invoke, builtin, Builtin.len_, ha.ev hx, run_underlying ht, goInt]
end
end Go.W
end
section
namespace Go.W
open Go Go.Conc Go.RowKit
section
variable {X : TX} {c : Cx} {b : Frame} {cs : List Frame} {n : Nat} {k : List Item} {fr : Fr} {hp : Hq} {ops : Array Oper} {i : Nat} {rest : List Nat}
variable {d : Tmp} {ty : TypeId} {pos : String} {af : Array Edge}
/-! ### What may be listed -/
theorem zT {p : Ph} {e : Event} {ad : Addr} (h : e.loc = .cell ad) (hk : (e.write = false ∧ RdT p ad.block) ∨ Has hp ad.block) : EvIn p hp e := by
  obtain ⟨l, wr, sy⟩ := e; simp only at h; subst h; refine ⟨⟨by simp, by simp⟩, fun x hx _ k' hk' => ?_⟩; have e1 : MemAct.ofEvent ⟨.cell ad, wr, sy⟩ = .access ⟨.cell ad, wr, sy⟩ := rfl; rw [e1] at hx; simp only [MemAct.touch?, Option.some.injEq] at hx; subst hx; simp only [blk, Option.some.injEq] at hk'; subst hk'; exact hk
def AtC (X : TX) (hp : Hq) (ad : Addr) (v : Value) : Prop := (RdT X.p ad.block ∨ Has hp ad.block) ∧ ∀ w, Sur X.p w → Held hp w → w.cell? ad = some v
def AtCs (X : TX) (hp : Hq) (ad : Addr) (vs : List Value) : Prop := (RdT X.p ad.block ∨ Has hp ad.block) ∧ ∀ w, Sur X.p w → Held hp w → ∀ j u, vs[j]? = some u → w.cell? (ad.add j) = some u
theorem ix9 {p : Ph} {e : Event} {ad : Addr} (h : e.loc = .cell ad) (hw : e.write = false) (hk : RdT p ad.block ∨ Has hp ad.block) : EvIn p hp e := zT h (hk.imp (fun h => ⟨hw, h⟩) id)
theorem B3 {t : TypeId} {x : Operand} {ad : Addr} {v : Value} (ho : ops[i]? = some ⟨some d, .load t x, ty, pos, af, none⟩) (hd : Nat.blt d c.n = true) (hk : b.kind ≠ .early) (ht' : NoR X.p.P t) (hx : ev fr x = some (.pointer (some ad))) (hc : AtC X hp ad v)
    (kk : TC X c b cs n (.inRegion ops rest :: k) ((d, v) :: fr) hp) : TC X c b cs (n + 1) (.inRegion ops (i :: rest) :: k) fr hp :=
  gP v ho rfl rfl hd hk (fun a w ha he hh => by
    obtain ⟨dd, ht, hr⟩ := ht'
    have hagg : (isAgg t).run X.p.P w = .ok false w := by
      unfold isAgg; rw [Sem.run_bind, run_underlying ht w]
      cases dd <;> simp_all [TypeDesc.isRow]
    have hcw := hc.2 w he hh; refine ⟨by simp only [execOp, ha.ev hx, Instr.loadAt, Instr.sureAddr, loadVar, Sem.run_bind, Sem.run_pure, Result.andThen_ok, hagg, Bool.false_eq_true, if_false, run_load, hcw], fun e hev => ?_⟩; simp only [execOp, ha.ev hx, Instr.loadAt, Instr.sureAddr, loadVar, Sem.events_bind, Sem.run_bind, Sem.run_pure, Sem.events_pure, Result.andThen_ok, Result.evThen_ok, hagg, events_isAgg, Bool.false_eq_true, if_false, run_load, hcw] at hev
    rcases events_load_at w ad _ _ hcw e hev with h1 | ⟨h1, h2⟩
    · simp at h1
    exact ix9 h1 h2 hc.1) kk
theorem aD {t : TypeId} {x : Operand} {ad : Addr} {vs : List Value} {sz : Nat} (ho : ops[i]? = some ⟨some d, .load t x, ty, pos, af, none⟩) (hd : Nat.blt d c.n = true) (hk : b.kind ≠ .early) (ht' : IsR X.p.P t) (hz' : Sz X.p.P t sz) (hx : ev fr x = some (.pointer (some ad))) (hn : vs.length = sz) (hc : AtCs X hp ad vs)
    (kk : TC X c b cs n (.inRegion ops rest :: k) ((d, .agg vs.toArray) :: fr) hp) : TC X c b cs (n + 1) (.inRegion ops (i :: rest) :: k) fr hp :=
  gP _ ho rfl rfl hd hk (fun a w ha he hh => by
    obtain ⟨dd, ht, hr⟩ := ht'; have hz : (X.p.P.info? t).map (·.size) = some vs.length := by rw [hn]; exact hz'
    have hagg : (isAgg t).run X.p.P w = .ok true w := by
      unfold isAgg; rw [Sem.run_bind, run_underlying ht w]
      cases dd <;> simp_all [TypeDesc.isRow]
    have hcw := hc.2 w he hh; have hl := run_loadCells_list (P := X.p.P) w ad vs hcw; have hs := O6 hz w; refine ⟨by simp only [execOp, ha.ev hx, Instr.loadAt, Instr.sureAddr, loadVar, Sem.run_bind, Sem.run_pure, Result.andThen_ok, hagg, if_true, hs, hl], fun e hev => ?_⟩; simp only [execOp, ha.ev hx, Instr.loadAt, Instr.sureAddr, loadVar, Sem.events_bind, Sem.run_bind, Sem.run_pure, Sem.events_pure, Result.andThen_ok, Result.evThen_ok, hagg, events_isAgg, if_true, hs, events_sizeOf, hl] at hev
    rcases events_loadCellsFrom_at ad (fun k => RdT X.p k ∨ Has hp k) hc.1 vs.length 0 #[] w #[] (fun j hj => by rw [Nat.zero_add, hcw j vs[j] (List.getElem?_eq_getElem hj)]; rfl) e hev with h1 | ⟨ad', h1, h2, h3⟩
    · simp at h1
    exact ix9 h1 h2 h3) kk
theorem wP {t e : TypeId} {x y : Operand} {ad : Addr} {m cp sz : Nat} {kd : IntKind} {z : Int} (j : Nat) (q : Addr) (ho : ops[i]? = some ⟨some d, .indexAddr t x y, ty, pos, af, none⟩) (hd : Nat.blt d c.n = true) (hk : b.kind ≠ .early) (ht : X.p.P.underlying t = some (.slice e)) (hz : Sz X.p.P e sz)
    (hx : ev fr x = some (.slice (some ad) m cp)) (hy : ev fr y = some (.int kd z)) (hjz : z = (j : Int)) (hj : j < m) (hq : ad.add (j * sz) = q)
    (kk : TC X c b cs n (.inRegion ops rest :: k) ((d, .pointer (some q)) :: fr) hp) : TC X c b cs (n + 1) (.inRegion ops (i :: rest) :: k) fr hp :=
  gP _ ho rfl rfl hd hk (fun a w ha _ _ => by
    subst hjz; subst hq; refine ⟨by simp only [execOp, ha.ev hx, ha.ev hy, Sem.run_bind, qK w ht hz hj, Result.andThen_ok, Sem.run_pure], P6 ?_⟩; simp only [execOp, Sem.events_bind, nz6 (DC.out (s := Instr.indexAt t (a.eval x) (a.eval y)))]
    cases (Instr.indexAt t (a.eval x) (a.eval y)).run X.p.P w <;> rfl) kk
/-! ### What is known of cells -/
theorem E0 {g o : Nat} {vs : Array Value} {t : TypeId} {fz : Nat × Nat} {v : Value} (h : X.p.W.heap[g]? = some (.cells vs t fz)) (h1 : g ≠ X.p.F) (h2 : g ≠ X.p.Lf) (h3 : g ≠ X.p.o) (hv : vs[o]? = some v) : AtC X hp ⟨g, o, none⟩ v :=
  ⟨.inl ⟨E1 h, h3⟩, fun w he hh => by have := he.block g (E1 h) h1 h2 h3; simp [World.cell?, this, h, hv]⟩
theorem V4 {g o : Nat} {vs : Array Value} {t : TypeId} {fz : Nat × Nat} {v : Value} (h : (g, Obj.cells vs t fz) ∈ hp) (hv : vs[o]? = some v) : AtC X hp ⟨g, o, none⟩ v :=
  ⟨.inr ⟨_, h, rfl⟩, fun w he hh => by have := hh _ h; simp only at this; simp [World.cell?, this, hv]⟩
theorem cO {g o : Nat} {vs : Array Value} {us : List Value} {t : TypeId} {fz : Nat × Nat} (h : (g, Obj.cells vs t fz) ∈ hp) (hv : ∀ i u, us[i]? = some u → vs[o + i]? = some u) : AtCs X hp ⟨g, o, none⟩ us :=
  ⟨.inr ⟨_, h, rfl⟩, fun w he hh i u hu => by have := hh _ h; simp only at this; rw [X8]; simp [World.cell?, this, hv i u hu]⟩
theorem uq5 {ad : Addr} {vs us : List Value} {j : Nat} (h : (Row (some ad) vs).P X.p.W) (hne : us ≠ []) (h1 : ad.block ≠ X.p.F) (h2 : ad.block ≠ X.p.Lf) (h3 : ad.block ≠ X.p.o) (hv : ∀ i u, us[i]? = some u → vs[j + i]? = some u) : AtCs X hp (ad.add j) us := by
  have hlt : ad.block < X.p.W.heap.size := by
    obtain ⟨u, r, rfl⟩ := List.exists_cons_of_ne_nil hne; have := hv 0 u rfl; refine (Row (some ad) vs).lt _ h _ ⟨ad, rfl, rfl, ?_⟩; rintro rfl
    simp at this
  refine ⟨by rw [lM]; exact .inl ⟨hlt, h3⟩, fun w he hh i u hu => ?_⟩; have hc := Row.cell h (hv i u hu); rw [ux7] at hc; rw [add_add']; rw [← hc]; have hb := he.block ad.block hlt h1 h2 h3; exact World.cell?_of_block (by rw [lM]; exact hb)
/-! ### Blocks -/
theorem qx3 {w : World} (hh : Held hp w) (obj : Obj) : Trn w (w.alloc obj) hp ((w.heap.size, obj) :: hp) := by
  refine ⟨rfl, rfl, rfl, by simp, fun k hk _ => jY w obj hk, fun q hq => ?_, fun q hq => ?_⟩
  · rcases List.mem_cons.1 hq with rfl | hq
    · show (w.heap.push obj)[w.heap.size]? = some obj
      simp
    rw [jY w obj (sM hh ⟨q, hq, rfl⟩)]; exact hh q hq
  rcases List.mem_cons.1 hq with rfl | hq
  · exact .inr (Nat.le_refl _)
  exact .inl ⟨q, hq, rfl⟩
theorem sq6 {o : Oper} (obj : Obj) (mk : Nat → Value) (ho : ops[i]? = some o) (hdst : o.dst = some d) (hg : o.guard = none) (hd : Nat.blt d c.n = true) (hk : b.kind ≠ .early)
    (hrun : ∀ a w, Ok c a fr → (execOp a.eval o).run X.p.P w = .ok (.value (mk w.heap.size)) (w.alloc obj) ∧ (execOp a.eval o).events X.p.P w #[] = #[])
    (kk : ∀ g, X.p.W.heap.size ≤ g → ¬ Has hp g → TC X c b cs n (.inRegion ops rest :: k) ((d, mk g) :: fr) ((g, obj) :: hp)) : TC X c b cs (n + 1) (.inRegion ops (i :: rest) :: k) fr hp :=
  tc_op ho hg hk fun a ha w he hh => ⟨_, _, _, (hrun a w ha).1, P6 (hrun a w ha).2, qx3 hh obj, by
    rw [hdst]
    exact kk _ he.size (fun hg => by have := sM hh hg; omega) _ (ha.put (by simpa using hd) _)⟩
theorem tr_box {e : TypeId} {x : Operand} {v : Value} (ho : ops[i]? = some ⟨some d, .box e x, ty, pos, af, none⟩) (hd : Nat.blt d c.n = true) (hk : b.kind ≠ .early) (hx : ev fr x = some v)
    (kk : ∀ g, X.p.W.heap.size ≤ g → ¬ Has hp g → TC X c b cs n (.inRegion ops rest :: k) ((d, .pointer (c8 g)) :: fr) ((g, .cells v.cells e (0, 0)) :: hp)) : TC X c b cs (n + 1) (.inRegion ops (i :: rest) :: k) fr hp :=
  sq6 (.cells v.cells e (0, 0)) (fun g => .pointer (c8 g)) ho rfl rfl hd hk (fun a w ha => ⟨by simp only [execOp, ha.ev hx]; rfl, by simp only [execOp, ha.ev hx]; rfl⟩) kk
theorem cq5 {e : TypeId} {us : Array Value} (ho : ops[i]? = some ⟨some d, .alloc e, ty, pos, af, none⟩) (hd : Nat.blt d c.n = true) (hk : b.kind ≠ .early)
    (hrun : ∀ w, (Instr.alloc e true (.tuple #[])).run X.p.P w = .ok (.pointer (some ⟨w.heap.size, 0, none⟩)) (w.alloc (.cells us e (0, 0)))) (hev : ∀ w es, (Instr.alloc e true (.tuple #[])).events X.p.P w es = es)
    (kk : ∀ g, X.p.W.heap.size ≤ g → ¬ Has hp g → TC X c b cs n (.inRegion ops rest :: k) ((d, .pointer (c8 g)) :: fr) ((g, .cells us e (0, 0)) :: hp)) : TC X c b cs (n + 1) (.inRegion ops (i :: rest) :: k) fr hp :=
  sq6 (.cells us e (0, 0)) (fun g => .pointer (c8 g)) ho rfl rfl hd hk (fun a w _ => ⟨by simp only [execOp, Sem.run_bind, hrun, Result.andThen_ok, Sem.run_pure], by simp [execOp, hrun, hev]⟩) kk
theorem hz8 {w w' : World} {g : Nat} {o o' : Obj} {hp' : Hq} (hh : Held hp w) (hpp : hp.Perm ((g, o) :: hp')) (hn : ¬ Has hp' g) (e : Ext [g] w w') (hg : w'.heap[g]? = some o') : Trn w w' hp ((g, o') :: hp') := by
  have hmem : ∀ q ∈ hp', q ∈ hp := fun q hq => hpp.mem_iff.2 (List.mem_cons_of_mem _ hq); have hgm : (g, o) ∈ hp := hpp.mem_iff.2 (by simp); refine ⟨e.os, e.tape, e.output, e.size, fun k hk hnk => e.block k hk (by simp only [List.mem_singleton]; rintro rfl; exact hnk ⟨_, hgm, rfl⟩), fun q hq => ?_, fun q hq => ?_⟩
  · rcases List.mem_cons.1 hq with rfl | hq
    · exact hg
    have h1 := hh q (hmem q hq); exact (e.block q.1 (E1 h1) (by simp only [List.mem_singleton]; rintro h2; exact hn ⟨q, hq, h2⟩)).trans h1
  rcases List.mem_cons.1 hq with rfl | hq
  · exact .inl ⟨_, hgm, rfl⟩
  exact .inl ⟨q, hmem q hq, rfl⟩
theorem lj4 {t : TypeId} {x y : Operand} {g o : Nat} {old : Array Value} {v u : Value} {e : TypeId} {hp' : Hq} (ho : ops[i]? = some ⟨none, .store t x y, ty, pos, af, none⟩) (hk : b.kind ≠ .early) (hx : ev fr x = some (.pointer (some ⟨g, o, none⟩))) (hy : ev fr y = some v)
    (hpp : hp.Perm ((g, .cells old e (0, 0)) :: hp')) (hn : ¬ Has hp' g) (hz : Sz X.p.P t 1) (hou : old[o]? = some u) (h1 : v.oneCell' = true)
    (kk : TC X c b cs n (.inRegion ops rest :: k) fr ((g, .cells (old.setIfInBounds o v) e (0, 0)) :: hp')) : TC X c b cs (n + 1) (.inRegion ops (i :: rest) :: k) fr hp :=
  sq7 ho rfl rfl hk fun a ha w he hh => by
    have hgm : (g, Obj.cells old e (0, 0)) ∈ hp := hpp.mem_iff.2 (by simp); have hg := hh _ hgm; simp only at hg; have hc : w.cell? ⟨g, o, none⟩ = some u := by simp [World.cell?, hg, hou]
    have hf : w.frozen? ⟨g, o, none⟩ = false := by simp [World.frozen?, hg]
    have hcs : v.cells = #[v] := by cases v <;> simp_all [Value.cells, Value.oneCell']
    have hsr : (store ⟨g, o, none⟩ v).run X.p.P w = .ok () (w.setCell ⟨g, o, none⟩ v) := by
      rw [run_store X.p.P w _ v _ h1]; simp only [hc, hf, Bool.false_eq_true, if_false]
    refine ⟨w.setCell ⟨g, o, none⟩ v, _, ?_, fun ev hev => ?_, hz8 hh hpp hn ⟨rfl, rfl, rfl, by simp [World.setCell], fun k _ hn => Below.heap_setCell w ⟨g, o, none⟩ v k (by simpa using hn), Nat.le_refl _⟩ ?_, kk a ha⟩
    · simp only [execOp, ha.ev hx, ha.ev hy, Instr.storeAt, Instr.sureAddr, Sem.run_bind, Sem.run_pure, Result.andThen_ok, storeVar, hcs, O6 hz, List.size_toArray, List.length_cons, List.length_nil, Nat.zero_add, ne_eq, not_true, if_false, storeCells, Addr.add, if_true, hsr, hc, hf, Bool.false_eq_true]
    · simp only [execOp, ha.ev hx, ha.ev hy, Instr.storeAt, Instr.sureAddr, Sem.events_bind, Sem.run_bind, Sem.run_pure, Sem.events_pure, Result.andThen_ok, Result.evThen_ok, storeVar, hcs, O6 hz, events_sizeOf, List.size_toArray, List.length_cons, List.length_nil, Nat.zero_add, ne_eq, not_true, if_false, storeCells, Addr.add, if_true, hsr, events_store X.p.P w _ _ v _ h1, hc, hf, Bool.false_eq_true] at hev
      simp at hev
      subst hev; exact zT rfl (.inr ⟨_, hgm, rfl⟩)
    simp [World.setCell, Array.getElem?_modify, hg]
theorem hz9 {t : TypeId} {x y : Operand} {g : Nat} {old us : Array Value} {e : TypeId} {hp' : Hq} (ho : ops[i]? = some ⟨none, .store t x y, ty, pos, af, none⟩) (hk : b.kind ≠ .early) (hx : ev fr x = some (.pointer (c8 g))) (hy : ev fr y = some (.agg us))
    (hpp : hp.Perm ((g, .cells old e (0, 0)) :: hp')) (hn : ¬ Has hp' g) (hz : Sz X.p.P t us.size) (hou : old.size = us.size) (h1 : us.toList.all (·.oneCell') = true)
    (kk : TC X c b cs n (.inRegion ops rest :: k) fr ((g, .cells us e (0, 0)) :: hp')) : TC X c b cs (n + 1) (.inRegion ops (i :: rest) :: k) fr hp :=
  sq7 ho rfl rfl hk fun a ha w he hh => by
    have hgm : (g, Obj.cells old e (0, 0)) ∈ hp := hpp.mem_iff.2 (by simp); have hg := hh _ hgm; simp only at hg; have h1' : ∀ v ∈ us.toList, v.oneCell' = true := fun v hv => List.all_eq_true.1 h1 v hv; refine ⟨w.setRow g us, _, ?_, fun ev hev => ?_, hz8 hh hpp hn (vE us) (setRow_heap w g old us e (0, 0) hg), kk a ha⟩
    · simp only [execOp, ha.ev hx, ha.ev hy, Instr.storeAt, Instr.sureAddr, Sem.run_bind, Sem.run_pure, Result.andThen_ok, run_storeVar_row w g e t old us hg hz hou (by rw [← Array.all_toList]; exact h1)]
    have hsz := O6 hz w
    have hev2 : ev ∈ (storeVar t ⟨g, 0, none⟩ (.agg us)).events X.p.P w #[] := by
      simp only [execOp, ha.ev hx, ha.ev hy, Instr.storeAt, Instr.sureAddr, Sem.events_bind, Sem.run_bind, Sem.run_pure, Sem.events_pure, Result.andThen_ok, Result.evThen_ok, run_storeVar_row w g e t old us hg hz hou (by rw [← Array.all_toList]; exact h1)] at hev; exact hev
    simp only [storeVar, Sem.events_bind, hsz, events_sizeOf, Result.evThen_ok, Value.cells, ne_eq, not_true, if_false] at hev2
    rcases events_storeCells_at g 0 e us.toList 0 old w #[] hg (by simp; omega) h1' ev hev2 with h2 | ⟨ad, h2, rfl⟩
    · simp at h2
    exact zT h2 (.inr ⟨_, hgm, rfl⟩)
/-! ### Calls -/
def CT (X : TX) (f : Nat) (args : List Value) (hp : Hq) (m : Nat) (v : Value) : Prop := ∀ (n : Nat) (cf : Frame) (cs : List Frame), X.T n (cf.finish v) cs hp → X.T (n + m) (Frame.enter X.p.P f args.toArray .normal) (cf :: cs) hp
theorem CT.more {f : Nat} {args : List Value} {m m' : Nat} {v : Value} (h : CT X f args hp m v) (hm : m ≤ m') : CT X f args hp m' v := fun n cf cs hk => X.more (h n cf cs hk) (by omega)
theorem mapM_ev {a : Act} (ha : Ok c a fr) : ∀ (xs : List Operand) (vs : List Value), xs.mapM (ev fr) = some vs → xs.map a.eval = vs := by
  intro xs
  induction xs with
  | nil => intro vs h; simpa using h
  | cons x xs ih =>
    intro vs h; simp only [List.mapM_cons, Option.bind_eq_bind, Option.bind_eq_some_iff, Option.pure_def, Option.some.injEq] at h; obtain ⟨v, hv, us, hus, rfl⟩ := h; rw [List.map_cons, ha.ev hv, ih us hus]
theorem fin_at' {a : Act} {o : Oper} (ho : ops[i]? = some o) (v : Value) : (b.at a (.inRegion ops (i :: rest) :: k)).finish v = b.at (a.put o.dst v) (.inRegion ops rest :: k) := by rw [Frame.finish_at, ho]; rfl
theorem qB {f m : Nat} {x : Operand} {ars : Array Operand} {ats : Array TypeId} {vs cap : List Value} {v : Value} (ho : ops[i]? = some ⟨some d, .call ⟨.value x, ars, ats⟩, ty, pos, af, none⟩) (hd : Nat.blt d c.n = true) (hk : b.kind ≠ .early) (hcb : Callable X.p.P f)
    (hf : ev fr x = some (.func (.func f) #[] cap.toArray)) (hx : ars.toList.mapM (ev fr) = some vs) (hm : CT X f (vs ++ cap) hp m v)
    (kk : TC X c b cs n (.inRegion ops rest :: k) ((d, v) :: fr) hp) : TC X c b cs (n + m + 1) (.inRegion ops (i :: rest) :: k) fr hp := fun a ha => X.lift _ _ _ _ fun w he hh => by
  have e1 : ars.map a.eval = vs.toArray := by apply Array.ext'; simpa using mapM_ev ha _ _ hx
  have e2 : execOp a.eval (⟨some d, .call ⟨.value x, ars, ats⟩, ty, pos, af, none⟩ : Oper) = callFunc f (vs ++ cap).toArray := by
    show ((do let dd ← resolve a.eval ⟨.value x, ars, ats⟩ ty; invoke dd.target dd.args) : Sem Next) = _; have e3 : (#[] ++ vs.toArray ++ cap.toArray) = (vs ++ cap).toArray := by simp
    simp only [resolve, ha.ev hf, e1, Deferred.ofValue]; show (invoke (.fn (.func f) cap.toArray) (#[] ++ vs.toArray) : Sem Next) = _; show callFunc f (#[] ++ vs.toArray ++ cap.toArray) = _; rw [e3]
  refine ⟨_, _, w, _, hp, stepG_enter ho rfl hk (by rw [e2]; exact hcb.run _ _), fun e hev => ?_, wK hh, hm n _ cs ?_⟩
  · have := uN hev
    rw [e2, hcb.events] at this
    simp at this
  rw [fin_at' ho]; exact kk _ (ha.put (by simpa using hd) v)
theorem uj6 {f m : Nat} {fn : Func} {cd : Code} {args : List Value} {v : Value} (hf : X.p.P.funcs[f]? = some fn) (hb : fn.body = some cd) (b0 : Bx) (hlen : args.length ≤ fn.ntmps)
    (h : ∀ (n : Nat) (cf : Frame) (cs : List Frame), X.T n (cf.finish v) cs hp → TC X ⟨X.p.P, fn.ntmps, b0, [], none⟩ (base f) (cf :: cs) (n + m) [.code cd] (argFr 0 args) hp) : CT X f args hp m v := by
  intro n cf cs hk; rw [enter_at args.toArray hf hb]; refine h n cf cs hk _ ⟨rfl, by simp; omega, fun t u hu => ?_⟩; have h2 := (qV args 0 t u hu).2; simp only [Nat.sub_zero] at h2; have hlt : t < args.length := (List.getElem?_eq_some_iff.1 h2).1
  simpa [Array.getD_eq_getD_getElem?, Array.getElem?_append, hlt] using (List.getElem?_eq_some_iff.1 h2).2
theorem t_leave {fn : Func} {cf : Frame} {v : Value} {f : Nat} {a : Act} {todo : List Item} {hp' : Hq} {t : Tmp} (hf : X.p.P.funcs[f]? = some fn) (hr : fn.results = #[.tmp t]) (hd : a.defers = []) (hv : a.tmps.getD t undef = v) (hs : ∀ q ∈ hp', q ∈ hp) (kk : X.T n (cf.finish v) cs hp') :
    X.T (n + 1) { (base f).at a todo with mode := .returning } (cf :: cs) hp :=
  X.lift _ _ _ _ fun w he hh => ⟨_, _, w, #[], hp', stepG_leave (v := v) rfl hd hf (by rw [results_tmp hr, hv]) (events_results_tmp hr _ _), by simp, lj2 hh hs, kk⟩
theorem nj6 {fn : Func} {cf : Frame} {v : Value} {f : Nat} {hp' : Hq} {t : Tmp} (hc : c.D = []) (hf : X.p.P.funcs[f]? = some fn) (hr : fn.results = #[.tmp t]) (hv : lk fr t = some v) (hs : ∀ q ∈ hp', q ∈ hp) (kk : X.T n (cf.finish v) cs hp') :
    TC X c (base f) (cf :: cs) (n + 2) (.code .ret :: k) fr hp := fun a ha => sq9 (fun w => stepG_ret') (t_leave hf hr (ha.d.trans hc) (ha.at_ t v hv) hs kk)
/-! ### Regions whose order is open -/
def TA (X : TX) (c : Cx) (b : Frame) (cs : List Frame) (k : List Item) (ops : Array Oper) (n fuel : Nat) (listed : Array Bool) (fr : Fr) (hp : Hq) : Prop := ∀ t, TC X c b cs n (.inRegion ops (Region.linearise.go .any ops fuel t listed []) :: k) fr hp
theorem I9 {listed : Array Bool} {l : List Nat} {fuel : Nat} (hr : Region.ready .any ops listed = l) (hne : l ≠ [])
    (kk : ∀ j ∈ l, ∀ rest, (∃ t, rest = Region.linearise.go .any ops fuel t (listed.setIfInBounds j true) []) → TC X c b cs n (.inRegion ops (j :: rest) :: k) fr hp) : TA X c b cs k ops n (fuel + 1) listed fr hp := fun t => by
  simp only [Region.linearise.go]
  change TC X c b cs n (.inRegion ops (match (Region.ready .any ops listed)[t % (Region.ready .any ops listed).length]? with
      | some i => Region.linearise.go .any ops fuel (t / (Region.ready .any ops listed).length) (listed.setIfInBounds i true) [i]
      | none => [].reverse) :: k) fr hp
  rw [hr]; have hlt : t % l.length < l.length := Nat.mod_lt _ (List.length_pos_iff.2 hne); rw [List.getElem?_eq_getElem hlt]; simp only []; rw [linearise_go_acc, List.reverse_singleton, List.singleton_append]; exact kk _ (List.getElem_mem hlt) _ ⟨_, rfl⟩
theorem nj7 {id : Nat} (hm : X.p.P.follows .mixedOrders = true) (kk : TA X c b cs k ops n ops.size (Array.replicate ops.size false) fr hp) : TC X c b cs (n + 1) (.code (.region id ops true) :: k) fr hp := fun a ha => X.lift _ _ _ _ fun w he hh => by
  refine ⟨_, _, _, _, hp, stepG_region_draw, by simp, ⟨rfl, rfl, rfl, Nat.le_refl _, fun _ _ _ => rfl, hh, fun q hq => .inl ⟨q, hq, rfl⟩⟩, ?_⟩; simp only [Region.schedule, hm, Bool.true_or, if_true]; exact kk _ a ha
end
/-! ### Where they meet -/
section
variable {p : Ph} {Goal : Goroutine → World → Prop} {c : Cx} {b : Frame} {cs : List Frame} {n : Nat} {k : List Item} {fr : Fr} {hp : Hq} {ops : Array Oper} {i : Nat} {rest : List Nat}
variable {d : Tmp} {ty : TypeId} {pos : String} {af : Array Edge}
theorem uq7 {j : Nat} {x y : Operand} (ho : ops[i]? = some ⟨none, .send x y, ty, pos, af, none⟩) (hk : b.kind ≠ .early) (hx : ev fr x = some (.chan (some p.F))) (hy : ev fr y = some (p.v j))
    (kk : TC (.fol p .send2) c b cs n (.inRegion ops rest :: k) fr hp) : TC (.fol p (.send1 j)) c b cs (n + 1) (.inRegion ops (i :: rest) :: k) fr hp := fun a ha w he hh => by
  refine .inr ⟨.tuple #[], ?_, ?_⟩
  · rw [stepG_comm (cases := #[scase p.F (p.v j) (.tuple #[])]) (blocking := true) (shape := .send) (w' := w) ho rfl hk (by simp [execOp, scase, ha.ev hx, ha.ev hy])]
    have : listed p.P b.fn a (⟨none, .send x y, ty, pos, af, none⟩ : Oper) w = #[] := by unfold listed; rw [show (execOp a.eval (⟨none, .send x y, ty, pos, af, none⟩ : Oper)).events p.P w #[] = #[] by simp [execOp, ha.ev hx, ha.ev hy]]; exact seen_none _ _
    rw [this]
  rw [fin_at' ho]; exact kk a ha
theorem uq6 {x y : Operand} (ho : ops[i]? = some ⟨none, .send x y, ty, pos, af, none⟩) (hk : b.kind ≠ .early) (hx : ev fr x = some (.chan (some p.Lf))) (hy : ev fr y = some (.bool true))
    (kk : ∀ a, Ok c a fr → QuitsD p.P n 0 (G (b.at a (.inRegion ops rest :: k)) cs)) : TC (.fol p .send2) c b cs (n + 1) (.inRegion ops (i :: rest) :: k) fr hp := fun a ha w he hh => by
  refine .inr ⟨.tuple #[], ?_, ?_⟩
  · rw [stepG_comm (cases := #[scase p.Lf (.bool true) (.tuple #[])]) (blocking := true) (shape := .send) (w' := w) ho rfl hk (by simp [execOp, scase, ha.ev hx, ha.ev hy])]
    have : listed p.P b.fn a (⟨none, .send x y, ty, pos, af, none⟩ : Oper) w = #[] := by unfold listed; rw [show (execOp a.eval (⟨none, .send x y, ty, pos, af, none⟩ : Oper)).events p.P w #[] = #[] by simp [execOp, ha.ev hx, ha.ev hy]]; exact seen_none _ _
    rw [this]
  rw [fin_at' ho]; exact kk a ha
theorem at_recv {j : Nat} {t e : TypeId} {dir : ChanDir} {x : Operand} {z : Value} (ho : ops[i]? = some ⟨some d, .recv t x false, ty, pos, af, none⟩) (hd : Nat.blt d c.n = true) (hk : b.kind ≠ .early) (ht : p.P.underlying t = some (.chan dir e)) (hz : ∀ w, (zeroValue e).run p.P w = .ok z w) (hx : ev fr x = some (.chan (some p.Lf)))
    (kk : TC (.fol p (nxt j)) c b cs n (.inRegion ops rest :: k) ((d, .bool true) :: fr) hp) : TC (.fol p (.recv j)) c b cs (n + 1) (.inRegion ops (i :: rest) :: k) fr hp := fun a ha w he hh => by
  refine .inr ⟨z, ?_, ?_⟩
  · rw [stepG_comm (cases := #[rcase p.Lf z]) (blocking := true) (shape := .recv false) (w' := w) ho rfl hk (by simp [execOp, rcase, Sem.run_bind, run_underlying ht, hz, ha.ev hx])]
    have : listed p.P b.fn a (⟨some d, .recv t x false, ty, pos, af, none⟩ : Oper) w = #[] := by unfold listed; rw [show (execOp a.eval (⟨some d, .recv t x false, ty, pos, af, none⟩ : Oper)).events p.P w #[] = #[] by simp [execOp, run_underlying ht, hz, ha.ev hx]]; exact seen_none _ _
    rw [this]
  rw [fin_at' ho]; exact kk _ (ha.put (by simpa using hd) _)
theorem ux1 {x : Operand} {ats : Array TypeId} (ho : ops[i]? = some ⟨none, .call ⟨.builtin .close, #[x], ats⟩, ty, pos, af, none⟩) (hk : b.kind ≠ .early) (hm : b.mode = .run) (hx : ev fr x = some (.chan (some p.F))) (hq : (p.P.funcs[b.fn]?).any (·.norace) = false)
    (kk : ∀ a, Ok c a fr → QuitsD p.P n 0 (G (b.at a (.inRegion ops rest :: k)) cs)) : TC (.fol p .close) c b cs (n + 1) (.inRegion ops (i :: rest) :: k) fr hp := fun a ha w he hh => by
  refine .inr ⟨?_, _, _, fun s tm hc => stepG_close (ats := ats) ho rfl hk rfl (ha.ev hx) hc hq, kk a ha⟩
  simp [mayWake, G, Frame.at, hm, ho]
theorem at_go {j : Nat} {x : Operand} {f : Nat} {cap : List Value} {h1 h2 : Hq} (ho : ops[i]? = some ⟨none, .go ⟨.value x, #[], #[]⟩, ty, pos, af, none⟩) (hk : b.kind ≠ .early) (hx : ev fr x = some (.func (.func f) #[] cap.toArray))
    (hs1 : ∀ q ∈ h1, q ∈ hp) (hs2 : ∀ q ∈ h2, q ∈ hp) (hdis : ∀ k, Has h1 k → ¬ Has h2 k) (hnew : ∀ q ∈ h1, p.W.heap.size ≤ q.1)
    (kk : (j < p.N ∧ Fol p p.BW (.send1 j) (born p.P ⟨.fn (.func f) cap.toArray, #[]⟩).frame [] h1 ∧ TC (.folM p Goal (.sp (j + 1))) c b cs n (.inRegion ops rest :: k) fr h2) ∨
      (j = p.N ∧ Fol p p.BC (nxt p.N) (born p.P ⟨.fn (.func f) cap.toArray, #[]⟩).frame [] h1 ∧ TC (.folM p Goal (.ga (List.range p.N))) c b cs n (.inRegion ops rest :: k) fr h2)) :
    TC (.folM p Goal (.sp j)) c b cs (n + 1) (.inRegion ops (i :: rest) :: k) fr hp := fun a ha w he hh => by
  refine .inr ⟨b.at a (.inRegion ops rest :: k), cs, (born p.P ⟨.fn (.func f) cap.toArray, #[]⟩).frame, h1, h2, ?_, hs1, hs2, hdis, hnew, kk.imp (fun ⟨a1, a2, a3⟩ => ⟨a1, a2, a3 a ha⟩) fun ⟨a1, a2, a3⟩ => ⟨a1, a2, a3 a ha⟩⟩; rw [stepG_spawn (d := ⟨.fn (.func f) cap.toArray, #[]⟩) (w' := w) ho rfl hk (by simp [execOp, resolve, ha.ev hx, Deferred.ofValue]) rfl]; have : listed p.P b.fn a (⟨none, .go ⟨.value x, #[], #[]⟩, ty, pos, af, none⟩ : Oper) w = #[] := by unfold listed; rw [show (execOp a.eval (⟨none, .go ⟨.value x, #[], #[]⟩, ty, pos, af, none⟩ : Oper)).events p.P w #[] = #[] by simp [execOp, resolve, ha.ev hx, Deferred.ofValue]]; exact seen_none _ _
  rw [this]
  rfl
theorem uq8 {R : List Nat} {t e : TypeId} {dir : ChanDir} {x : Operand} (ho : ops[i]? = some ⟨some d, .recv t x true, ty, pos, af, none⟩) (hd : Nat.blt d c.n = true) (hk : b.kind ≠ .early) (ht : p.P.underlying t = some (.chan dir e)) (hz : ∀ w, (zeroValue e).run p.P w = .ok p.z w) (hx : ev fr x = some (.chan (some p.F)))
    (kk : ∀ j ∈ R, TC (.folM p Goal (.ga (R.erase j))) c b cs n (.inRegion ops rest :: k) ((d, .tuple #[p.v j, .bool true]) :: fr) hp)
    (hend : R = [] → ∀ w, Sur p w → Held hp w → ∀ a, Ok c a ((d, .tuple #[p.z, .bool false]) :: fr) → Co p.P (G (b.at a (.inRegion ops rest :: k)) cs) w Goal) : TC (.folM p Goal (.ga R)) c b cs (n + 1) (.inRegion ops (i :: rest) :: k) fr hp := fun a ha w he hh => by
  refine .inr ⟨?_, fun j hj => ?_, fun hR w' he' hh' => ?_⟩
  · rw [stepG_comm (cases := #[rcase p.F p.z]) (blocking := true) (shape := .recv true) (w' := w) ho rfl hk (by simp [execOp, rcase, Sem.run_bind, run_underlying ht, hz, ha.ev hx])]
    have : listed p.P b.fn a (⟨some d, .recv t x true, ty, pos, af, none⟩ : Oper) w = #[] := by unfold listed; rw [show (execOp a.eval (⟨some d, .recv t x true, ty, pos, af, none⟩ : Oper)).events p.P w #[] = #[] by simp [execOp, run_underlying ht, hz, ha.ev hx]]; exact seen_none _ _
    rw [this]
  · rw [fin_at' ho]; exact kk j hj _ (ha.put (by simpa using hd) _)
  rw [fin_at' ho]; exact hend hR w' he' hh' _ (ha.put (by simpa using hd) _)
/-! ### A child's first step, and its last ones -/
def bot (P : Program) : Frame := { (default : Frame) with fn := P.funcs.size, defers := [], mode := .panicking [goexitEntry] }
theorem rz8 {P : Program} {f : Nat} {fn : Func} {cd : Code} {cap : List Value} (hf : P.funcs[f]? = some fn) (hb : fn.body = some cd) (hname : (fn.name == "runtime.NumGoroutine") = false) (w : World) :
    stepG P false (G (born P ⟨.fn (.func f) cap.toArray, #[]⟩).frame []) w = .go (G ((baseD f).at { tmps := cap.toArray ++ Array.replicate (fn.ntmps - cap.length) undef, defers := [] } [.code cd]) [bot P]) w #[] := by
  have h1 : ¬ fn.name = "runtime.NumGoroutine" := by simpa using hname
  simp [born, G, stepG, unwind, callDeferred, invoke, callFunc, hf, h1, hb, seen_none, GStep.after, Frame.enter, Frame.at, baseD, bot]
theorem cz0 {P : Program} {f : Nat} {fn : Func} {a : Act} {todo : List Item} (hf : P.funcs[f]? = some fn) (hr : fn.results = #[]) (hd : a.defers = []) : QuitsD P 2 0 (G { (baseD f).at a todo with mode := .returning } [bot P]) := by
  refine QuitsD.ctl (g' := G (bot P) []) rfl (fun w => ?_) ?_
  · simp [G, stepG, unwind, doReturn, results, Frame.at, baseD, bot, hf, hr, hd, seen_none, GStep.after, goexitEntry]
  refine QuitsD.ctl (g' := { G (bot P) [] with status := .finished }) rfl (fun w => ?_) ⟨rfl, rfl⟩
  simp [G, stepG, unwind, bot, goexitEntry, Frame.catches]
  rfl
theorem mj7 {pr : Pr} {f m : Nat} {fn : Func} {cd : Code} {cap : List Value} (hf : p.P.funcs[f]? = some fn) (hb : fn.body = some cd) (hname : (fn.name == "runtime.NumGoroutine") = false) (b0 : Bx) (hlen : cap.length ≤ fn.ntmps)
    (h : TC (.fol p pr) ⟨p.P, fn.ntmps, b0, [], none⟩ (baseD f) [bot p.P] m [.code cd] (argFr 0 cap) hp) : Fol p (m + 1) pr (born p.P ⟨.fn (.func f) cap.toArray, #[]⟩).frame [] hp := by
  refine (TX.fol p pr).lift _ _ _ _ fun w he hh => ⟨_, _, w, #[], hp, rz8 hf hb hname w, by simp, wK hh, ?_⟩; refine h _ ⟨rfl, by simp; omega, fun t u hu => ?_⟩; have h2 := (qV cap 0 t u hu).2; simp only [Nat.sub_zero] at h2; have hlt : t < cap.length := (List.getElem?_eq_some_iff.1 h2).1
  simpa [Array.getD_eq_getD_getElem?, Array.getElem?_append, hlt] using (List.getElem?_eq_some_iff.1 h2).2
end
end Go.W
end
section
namespace Go.Proofs.YtcdopfjiadifhaaGreatDoor
open Go Go.W Go.Conc
set_option maxRecDepth 20000
attribute [local irreducible] HL HC HQ HB Row Rows2 Blk Facts
set_option maxRecDepth 20000
noncomputable abbrev ph (W : World) (Fc Lf o N : Nat) (v : Nat → Value) : Ph := ⟨Tryz.prog, W, Fc, Lf, o, N, v, .agg #[int 0, int 0], 300, 60 * N + 60⟩
def offN (off s : Int) : Int := (s * (100 - off) + 99).tdiv 100
def ruleV : Option Nat → Value
  | none => .func (.func 96) #[] #[]
  | some g => .func (.func 98) #[] #[.pointer (c8 g)]
def billN (off : Int) (r : Option Nat) (s : Int) : Int := if r.isSome then offN off s else s
def RuleAt (W : World) (Fc Lf o : Nat) (off : Int) : Option Nat → Prop
  | none => True
  | some g => g ≠ Fc ∧ g ≠ Lf ∧ g ≠ o ∧ ∃ vs t fz, W.heap[g]? = some (.cells vs t fz) ∧ vs[4]? = some (int off)
variable {W : World} {Fc Lf o N : Nat} {v : Nat → Value} {pr : Pr} {hp : Hq}
theorem ct_128 (s : Int) : CT (.fol (ph W Fc Lf o N v) pr) 96 [int s] hp 40 (int s) := by
  refine uj6 F.jB rfl ⟨W, [], fun _ => False⟩ r6 fun n cf cs hk => ?_; refine J2 (C9 ?_); refine dR rfl rfl (fun h => by cases h) rfl ?_; refine N7 (J2 (C9 ?_)); refine rV rfl rfl (fun h => by cases h) rfl ?_; refine dR rfl rfl (fun h => by cases h) rfl ?_; refine N7 ?_; refine nj6 rfl F.jB rfl rfl (fun _ h => h) ?_; exact TX.more _ hk (by omega)
theorem ct_130 (s off : Int) (g : Nat) (hs : 0 ≤ s ∧ s ≤ 1000000) (ho : 0 ≤ off ∧ off ≤ 100) (hr : RuleAt W Fc Lf o off (some g)) : CT (.fol (ph W Fc Lf o N v) pr) 98 [int s, .pointer (c8 g)] hp 40 (int (offN off s)) := by
  obtain ⟨h1, h2, h3, vs, t, fz, h4, h5⟩ := hr; have hb1 : 0 ≤ s * (100 - off) := Int.mul_nonneg hs.1 (by omega); have hb2 : s * (100 - off) ≤ 1000000 * 100 := Int.mul_le_mul hs.2 (by omega) (by omega) (by omega)
  have hb3 : 0 ≤ offN off s ∧ offN off s ≤ 100000099 := by
    unfold offN; exact ⟨Int.tdiv_nonneg (by omega) (by omega), by rw [Int.tdiv_eq_ediv_of_nonneg (by omega)]; omega⟩
  refine uj6 F.jA rfl ⟨W, [], fun _ => False⟩ r6 fun n cf cs hk => ?_; refine J2 (C9 ?_); refine dR rfl rfl (fun h => by cases h) rfl ?_; refine N7 (J2 (C9 ?_)); refine rV rfl rfl (fun h => by cases h) rfl ?_; refine W5 ⟨g, 0, none⟩ rfl rfl (fun h => by cases h) rfl T.B9 (fun _ _ _ => by kernel_rfl) rfl ?_; refine W5 ⟨g, 4, none⟩ rfl rfl (fun h => by cases h) rfl T.Q7 (fun _ _ _ => by kernel_rfl) rfl ?_; refine B3 (v := int off) rfl rfl (fun h => by cases h) T.b9 rfl (E0 h4 h1 h2 h3 h5) ?_; refine tr_sub (100 - off) rfl rfl (fun h => by cases h) rfl rfl rfl r5 ?_; refine tr_mul (s * (100 - off)) rfl rfl (fun h => by cases h) rfl rfl rfl r5 ?_; refine nj5 (s * (100 - off) + 99) rfl rfl (fun h => by cases h) rfl rfl rfl r5 ?_; refine tr_quo (offN off s) rfl rfl (fun h => by cases h) rfl rfl (by decide) rfl r5 ?_; refine dR rfl rfl (fun h => by cases h) rfl ?_; refine N7 ?_; refine nj6 rfl F.jA rfl rfl (fun _ h => h) ?_; exact TX.more _ hk (by omega)
theorem ct_rule (s off : Int) (r : Option Nat) (hs : 0 ≤ s ∧ s ≤ 1000000) (ho : 0 ≤ off ∧ off ≤ 100) (hr : RuleAt W Fc Lf o off r) : ∃ f cap, ruleV r = .func (.func f) #[] cap.toArray ∧ Callable Tryz.prog f ∧ CT (.fol (ph W Fc Lf o N v) pr) f ([int s] ++ cap) hp 40 (int (billN off r s)) := by
  cases r with
  | none => exact ⟨96, [], rfl, F.vT, ct_128 s⟩
  | some g => exact ⟨98, [.pointer (c8 g)], rfl, F.vS, ct_130 s off g hs ho hr⟩
/-! Regions whose order is open -/
def regionAt (id : Nat) : Code → Array Oper
  | .region i ops _ => if i = id then ops else #[]
  | .seq x y => regionAt id x ++ regionAt id y
  | .block _ x => regionAt id x
  | .loop x => regionAt id x
  | .cond _ x y => regionAt id x ++ regionAt id y
  | _ => #[]
theorem uj7 (s off : Int) (r : Option Nat) (hs : 0 ≤ s ∧ s ≤ 1000000) (ho : 0 ≤ off ∧ off ≤ 100) (hr : RuleAt W Fc Lf o off r) : CT (.fol (ph W Fc Lf o N v) pr) 70 [.agg #[int s, ruleV r]] hp 60 (int (billN off r s)) := by
  refine uj6 F.cM rfl ⟨W, [], fun _ => False⟩ r6 fun n cf cs hk => ?_; refine J2 (C9 ?_); refine tr_box rfl rfl (fun h => by cases h) rfl fun g hg hn => ?_; refine dR rfl rfl (fun h => by cases h) rfl ?_; refine N7 (J2 (C9 ?_)); refine W5 ⟨g, 1, none⟩ rfl rfl (fun h => by cases h) rfl T.aU (fun _ _ _ => by kernel_rfl) rfl ?_; refine B3 (v := ruleV r) rfl rfl (fun h => by cases h) T.yA rfl (V4 (vs := #[int s, ruleV r]) (List.mem_cons_self ..) rfl) ?_; refine W5 ⟨g, 0, none⟩ rfl rfl (fun h => by cases h) rfl T.aV (fun _ _ _ => by kernel_rfl) rfl ?_; refine B3 (v := int s) rfl rfl (fun h => by cases h) T.b9 rfl (V4 (vs := #[int s, ruleV r]) (List.mem_cons_self ..) rfl) ?_; obtain ⟨f, cap, e, hcb, hct⟩ := ct_rule (W := W) (Fc := Fc) (Lf := Lf) (o := o) (N := N) (v := v) (pr := pr) (hp := (g, Obj.cells (Value.agg #[int s, ruleV r]).cells 141 (0, 0)) :: hp) s off r hs ho hr; refine qB (m := 40) rfl rfl (fun h => by cases h) hcb (by show some (ruleV r) = _; rw [e]) rfl hct ?_; refine dR rfl rfl (fun h => by cases h) rfl ?_; refine N7 ?_; refine nj6 rfl F.cM rfl rfl (fun _ h => List.mem_cons_of_mem _ h) ?_; exact TX.more _ hk (by omega)
section
variable {n : Nat} {cf : Frame} {cs : List Frame} {k : List Item} {s off : Int} {r : Option Nat} {g : Nat}
end 
end Go.Proofs.YtcdopfjiadifhaaGreatDoor
end
