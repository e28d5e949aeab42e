/- Texts. -/
import Derived.Conc.EventLaws2
import Derived.Test.YtcdopfjiadifhaaGreatDoorBAi
import Derived.Test.YtcdopfjiadifhaaGreatDoorBAh
set_option linter.unusedVariables false
set_option linter.unusedSimpArgs false
section
namespace Go.W
open Go Go.Conc
open Go.ConcN (sumTo upd sumTo_upd upd_ne upd_same le_sumTo sumTo_congr)
section
variable {p : Ph} {Goal : Goroutine → World → Prop} {m τ : Nat} {ρ : Nat → Role} {M : MR} {t u : Trace} {gs : Array Goroutine} {w : World} {s r f : Nat} {cl : Bool} {sl : Option (Nat × Nat)}
theorem InvP.idxC (h : InvP p Goal m τ ρ M t gs w s r f cl) {i : Nat} {x : Goroutine} (hpos : 0 < i) (hi : gs[i]? = some x) (hc : (∃ k, (ρ i).tag = .rc k) ∨ (ρ i).tag = .cz) : i = m + p.N ∧ p.N < nsp p M.st := by
  rcases h.cmb.idx hpos (h.lt_nsp hi) (by show (ρ i).tag ≠ _; rcases hc with ⟨k, hc⟩ | hc <;> rw [hc] <;> simp) with ⟨j2, _, _, _, h4⟩ | ⟨h4, h5, _⟩
  · rcases hc with ⟨k, hc⟩ | hc <;> rcases h4 with h4 | h4 | h4 <;> (simp only [hc] at h4; cases h4)
  exact ⟨h4, h5⟩
theorem case_rc (h : InvP p Goal m τ ρ M t gs w s r f cl) {i B k : Nat} {fr : Frame} {cs : List Frame} {hp : Hq} {zz : Value} (hpos : 0 < i) (hi : gs[i]? = some (G fr cs)) (hρ : ρ i = .rc (B + 1) k fr cs hp)
    (hst : stepG p.P false (G fr cs) w = .comm (G fr cs) #[rcase p.Lf zz] true (.recv false) w #[]) (hf : Fol p B (nxt k) (fr.finish (.bool true)) cs hp) : Nx p Goal m τ (Wt p gs.size ρ M) t (runT p.P (crowd gs w sl) i) := by
  have hilt : i < gs.size := (Array.getElem?_eq_some_iff.1 hi).1; have htag : (ρ i).tag = .rc k := by rw [hρ]; rfl
  have hrole := h.roles i _ hpos hi; rw [hρ] at hrole; obtain ⟨hd, _, _⟩ := hrole; obtain ⟨rfl, hNn⟩ := h.idxC hpos hi (.inl ⟨k, htag⟩); have hst' : stepG p.P (m + p.N == 0) (G fr cs) w = .comm (G fr cs) #[rcase p.Lf zz] true (.recv false) w #[] := by rw [gz hpos]; exact hst
  have hlv : liveOf m gs.size ρ (m + p.N) := h.live_of hpos hi (by rw [htag]; simp); obtain ⟨tmL, hL⟩ := h.chL; have hFc := h.chF; have hLsz := h.ltL
  have hno : partners (gs.setIfInBounds (m + p.N) ph) p.Lf true = [] := h.nobody _ fun k' x hk hx => by
    rintro (⟨_, _, _, e⟩ | ⟨_, _, e, _⟩ | ⟨_, _, _, e⟩)
    · cases e
    · exact h.ne.1 e.symm
    cases e
  have hrs := h.cmb.rs
  have hkeep0 : ∀ x' : Goroutine, ∃ g, (gs.setIfInBounds (m + p.N) x')[0]? = some g ∧ MainOK p Goal g M := fun x' => by
    obtain ⟨g0, h0, hm⟩ := h.main; exact ⟨g0, by rw [Array.getElem?_setIfInBounds_ne (by omega)]; exact h0, hm⟩
  by_cases hlt : r < s
  · have hrun := crowd_recv_buf (P := p.P) (sl := sl) hi hst' hL (by simp; omega) hno
    have hv : (Array.replicate (s - r) (Value.bool true)).getD 0 undef = .bool true := by
      have : 0 < s - r := by omega
      simp [Array.getD, this]
    have hbuf : (Array.replicate (s - r) (Value.bool true)).extract 1 (Array.replicate (s - r) (Value.bool true)).size = Array.replicate (s - (r + 1)) (Value.bool true) := by
      simp
      omega
    rw [finishComm_recv, ofE0, hv, hbuf] at hrun
    let Rk : Role := match k with | 0 => .cz B (fr.finish (.bool true)) cs hp | k + 1 => .rc B k (fr.finish (.bool true)) cs hp
    have hRkt : Rk.tag = nxtTag k := by cases k <;> rfl
    have hRkh : Rk.hp = hp := by cases k <;> rfl
    have hRkw : Rk.wt = 2 * B + 2 := by cases k <;> rfl
    have hRkq : Rk.tag ≠ .quit := by rw [hRkt]; cases k <;> simp [nxtTag]
    have hRkok : RoleOK p 0 (Go.Conc.served (G fr cs) (.bool true)) Rk := by
      cases k with
      | zero => exact ⟨rfl, rfl, hf⟩
      | succ k => exact ⟨rfl, rfl, hf⟩
    have hRhp : ∀ q ∈ Rk.hp, q ∈ (ρ (m + p.N)).hp := by rw [hRkh, hρ]; exact fun q hq => hq
    refine ⟨upd ρ (m + p.N) Rk, M, _, _, _, sl, s, r + 1, f, cl, hrun, ?_, ?_⟩
    · refine h.comm (jS (fun q hq => hq) (dG hRhp)) (mS fun _ => by rw [htag]; simp) (vA h.far hilt _) ?_ (by simp) rfl (hkeep0 _) ?_ ?_ ⟨tmL, vE hLsz⟩ rfl rfl rfl lY (fun k hk1 hk2 => cX hk2) (fun q hq => hq) (fun k' _ => dG hRhp k') ?_ ?_
      · rw [gK, hRkt]; exact h.cmb.take hNn htag hlt
      · intro k' x' hk' hx'
        rcases set1 hilt hx' with ⟨rfl, rfl⟩ | ⟨h1, h3⟩
        · rw [upd_same, hd]; exact hRkok
        rw [upd_ne _ _ h1]; exact h.roles k' x' hk' h3
      · obtain ⟨tm, hc⟩ := hFc; exact ⟨tm, (cX h.ne.1).trans hc⟩
      · intro op hop
        simp only [Array.empty_append] at hop
        simp at hop
        rcases hop with rfl | rfl <;> simp [MemAct.touch?]
      intro q hq
      let u : Trace := #[] ++ #[{ g := m + p.N, fn := (G fr cs).frame.fn, pos := (G fr cs).frame.place, act := .recv p.Lf r p.N }, { g := m + p.N, fn := (G fr cs).frame.fn, pos := (G fr cs).frame.place, act := .recvDone p.Lf r }]
      have hu : Mild u := by
        intro op hop; simp only [u, Array.empty_append] at hop
        simp at hop
        rcases hop with rfl | rfl <;> simp [MemAct.touch?]
      have hlk : liveOf m gs.size (upd ρ (m + p.N) Rk) (m + p.N) := lW hRkq _ hlv; have hroot : Root p (t ++ u) (liveOf m gs.size (upd ρ (m + p.N) Rk)) s (r + 1) cl (t.size + 1) := ⟨_, by rw [cH]; rfl, .inl hlk⟩; obtain ⟨op, hop, hcase⟩ := hq; have hql := lt_size_of_getElem? hop
      rcases hcase with hcase | ⟨k', hk1, hk2, hk3, hk4⟩ | ⟨hk1, hk2, hk3⟩
      · exact ⟨q, .inl rfl, op, by rw [getElem?_append_old hql]; exact hop, .inl (lW hRkq _ hcase)⟩
      · by_cases hkr : k' = r
        · subst hkr
          refine ⟨t.size + 1, .inr (.single (.inr ⟨.handOver (c := p.Lf) (k := k') ?_ (act?_of (cH (t := t) (u := u) 1)), (heard_old hql).2 hk4, h.heard_new hlv hu (j := 1) rfl rfl⟩)), hroot⟩; rw [act?_old hql, act?_of hop, hk1]
        exact ⟨q, .inl rfl, op, by rw [getElem?_append_old hql]; exact hop, .inr (.inl ⟨k', hk1, by omega, hk3, (heard_old hql).2 hk4⟩)⟩
      exact ⟨q, .inl rfl, op, by rw [getElem?_append_old hql]; exact hop, .inr (.inr ⟨hk1, hk2, (heard_old hql).2 hk3⟩)⟩
    have h1 := pE (p := p) (ρ := ρ) (M := M) hpos hilt Rk; rw [hρ, hRkw] at h1; simp only [Role.wt, Array.size_setIfInBounds] at h1 ⊢
    omega
  obtain rfl : s = r := by omega
  have hrun := crowd_waits (P := p.P) (sl := sl) hi hst' (fun cc hcc => by
    obtain rfl : cc = rcase p.Lf zz := by simpa using hcc
    exact ⟨made_recv _ hL, by simp [ways, rcase, hL, hno]⟩)
  rw [ofE0] at hrun; have hRhp : ∀ q ∈ (Role.pr B k fr cs hp).hp, q ∈ (ρ (m + p.N)).hp := by rw [hρ]; exact fun q hq => hq
  refine ⟨upd ρ (m + p.N) (.pr B k fr cs hp), M, _, _, _, sl, s, s, f, cl, hrun, ?_, ?_⟩
  · refine h.comm (jS (fun q hq => hq) (dG hRhp)) (mS fun _ => by rw [htag]; simp) (vA h.far hilt _) ?_ (by simp) rfl (hkeep0 _) ?_ hFc ⟨tmL, hL⟩ rfl rfl rfl rfl (fun k _ _ => rfl) (fun q hq => hq) (fun k' _ => dG hRhp k') (fun op hop => by simp at hop) (sH (lW (by simp [Role.tag])))
    · rw [gK]; exact h.cmb.parkR hNn htag rfl
    intro k' x' hk' hx'
    rcases set1 hilt hx' with ⟨rfl, rfl⟩ | ⟨h1, h3⟩
    · rw [upd_same]; exact ⟨hd, ⟨zz, rfl⟩, hf⟩
    rw [upd_ne _ _ h1]; exact h.roles k' x' hk' h3
  have h1 := pE (p := p) (ρ := ρ) (M := M) hpos hilt (.pr B k fr cs hp); rw [hρ] at h1; simp only [Role.wt, Array.size_setIfInBounds] at h1 ⊢
  omega
theorem case_cz (h : InvP p Goal m τ ρ M t gs w s r f cl) {i B : Nat} {fr fr' : Frame} {cs cs' : List Frame} {hp : Hq} (hpos : 0 < i) (hi : gs[i]? = some (G fr cs)) (hρ : ρ i = .cz (B + 1) fr cs hp) (hwake : mayWake p.P (G fr cs) = true)
    (hst : ∀ s tm, w.heap[p.F]? = some (.chan 0 #[] false s s tm) → stepG p.P false (G fr cs) w = .go (G fr' cs') (w.setChan p.F 0 #[] true s s tm) (closeEvents p.F)) (hf : QuitsD p.P B 0 (G fr' cs')) : Nx p Goal m τ (Wt p gs.size ρ M) t (runT p.P (crowd gs w sl) i) := by
  have hilt : i < gs.size := (Array.getElem?_eq_some_iff.1 hi).1; have htag : (ρ i).tag = .cz := by rw [hρ]; rfl
  have hrole := h.roles i _ hpos hi; rw [hρ] at hrole; obtain ⟨hd, _, _⟩ := hrole; obtain ⟨rfl, hNn⟩ := h.idxC hpos hi (.inr htag)
  have hcl : cl = false := by
    rcases h.cmb.ck hNn with ⟨k', _, h1 | ⟨h1, _⟩⟩ | ⟨_, h2, _⟩ | ⟨_, _, h1⟩ <;> first | exact h2 | (simp only [htag] at h1; cases h1)
  subst hcl
  have hrN : r = p.N := by
    rcases h.cmb.ck hNn with ⟨k', _, h1 | ⟨h1, _⟩⟩ | ⟨h2, _, _⟩ | ⟨_, _, h1⟩ <;> first | exact h2 | (simp only [htag] at h1; cases h1)
  have hsN : s = p.N := by have := h.cmb.rs; have := h.cmb.s_le; omega
  have hall : ∀ j, j < p.N → (ρ (m + j)).tag = .quit := fun j hj => tj5 (c := fun i => (ρ i).tag) (by rw [h.cmb.cnt]; exact hsN) hj; have hlv : liveOf m gs.size ρ (m + p.N) := h.live_of hpos hi (by rw [htag]; simp); obtain ⟨tmF, hF⟩ := h.chF; have hL := h.chL; have hFsz := h.ltF; have hst' : stepG p.P (m + p.N == 0) (G fr cs) w = .go (G fr' cs') (w.setChan p.F 0 #[] true f f tmF) (closeEvents p.F) := by rw [gz hpos]; exact hst f tmF hF
  have hrun := runT_crowd_go (P := p.P) (sl := sl) hi hst'
  -- the others are not turned
  have hothers : ∀ k x, 0 < k → gs[k]? = some x → woken p.P (G fr cs) (G fr' cs') (w.setChan p.F 0 #[] true f f tmF) x = x := by
    intro k x hk hx; have hr := h.roles k x hk hx
    have hq : x.status = .running ∨ x.status = .finished := by
      by_cases hkm : k = m + p.N
      · subst hkm; rw [hi] at hx; obtain rfl := Option.some.inj hx; exact .inl rfl
      have hlt := h.lt_nsp hx; have hle := h.cmb.nsp_le
      have : (ρ k).tag = .quit := by
        rcases Nat.lt_or_ge k m with h1 | h1
        · exact h.cmb.old k hk h1
        have := hall (k - m) (by omega)
        rwa [show m + (k - m) = k by omega] at this
      cases hρk : ρ k <;> rw [hρk] at this <;> first | (rw [hρk] at hr; exact QuitsD.status hr) | cases this
    unfold woken
    split
    · exact again_running _ hq
    rfl
  have hRhp : ∀ q ∈ (Role.quit B).hp, q ∈ (ρ (m + p.N)).hp := fun q hq => by cases hq
  obtain ⟨g0, h0, hm⟩ := h.main
  -- goroutine 0
  obtain ⟨M', hM'hp, hM'st, hM'w, hM'wt, hm'⟩ : ∃ M' : MR, M'.hp = M.hp ∧ M'.st = M.st ∧ M'.waits = false ∧ M'.wt ≤ M.wt + 1 ∧ MainOK p Goal (woken p.P (G fr cs) (G fr' cs') (w.setChan p.F 0 #[] true f f tmF) g0) M' := by
    cases M with
    | run BM ms frM csM hpM =>
      refine ⟨.run BM ms frM csM hpM, rfl, rfl, rfl, by omega, ?_⟩
      have : woken p.P (G fr cs) (G fr' cs') (w.setChan p.F 0 #[] true f f tmF) g0 = g0 := by
        unfold woken
        split
        · exact again_running _ (.inl hm.1.1)
        rfl
      rw [this]; exact hm
    | park BM R frM csM hpM =>
      obtain ⟨rfl, hfm, _⟩ := hm; refine ⟨.run (BM + 1) (.ga R) frM csM hpM, rfl, rfl, rfl, by simp only [MR.wt]; omega, ?_⟩
      have : woken p.P (G fr cs) (G fr' cs') (w.setChan p.F 0 #[] true f f tmF) (parked (G frM csM) #[rcase p.F p.z] (.recv true)) = { parked (G frM csM) #[rcase p.F p.z] (.recv true) with status := .running } := by
        unfold woken; rw [hwake]; simp only [G, Bool.true_and]; rw [if_pos (by decide)]; exact again_recv_closed (vE hFsz)
      rw [this]; exact ⟨⟨rfl, rfl, rfl, rfl⟩, hfm⟩
  let u : Trace := MemOp.ofEvents (m + p.N) (G fr cs).frame.fn (G fr cs).frame.place (closeEvents p.F)
  have hu0 : u = #[{ g := m + p.N, fn := (G fr cs).frame.fn, pos := (G fr cs).frame.place, act := .access ⟨.obj p.F, false, true⟩ }, { g := m + p.N, fn := (G fr cs).frame.fn, pos := (G fr cs).frame.place, act := .close p.F }] := by simp [u, MemOp.ofEvents, closeEvents, MemAct.ofEvent]
  have hum : ∀ op ∈ u, op.act ≠ .mark .disable ∧ op.act ≠ .mark .enable := by
    intro op hop; rw [hu0] at hop
    simp at hop
    rcases hop with rfl | rfl <;> simp
  have hti : TI p (t ++ u) τ w.heap.size (ownOf M ρ) (liveOf m gs.size ρ) := h.ti.step hlv (Nat.le_refl _) (fun op hop => by rw [hu0] at hop; simp at hop; rcases hop with rfl | rfl <;> rfl) hum (fun op hop x hx _ k hk => by
      rw [hu0] at hop
      simp at hop
      rcases hop with rfl | rfl
      · simp only [MemAct.touch?, Option.some.injEq] at hx
        subst hx; simp only [blk, Option.some.injEq] at hk; subst hk; exact .inl ⟨rfl, h.ne.2.1, h.ne.2.2.2.1⟩
      simp [MemAct.touch?] at hx) (fun g' k h1 h2 => h.d1 _ _ _ h1 h2) (fun g' k h1 => h.RdD h1) (fun k hk => hk.elim h.own_lt h.rd_lt)
  have heard1 : (t ++ u).heard (t.size + 1) := kz4 (g := m + p.N) (by rw [cH, hu0]; rfl) rfl (pq1 (h.ti.hears _ hlv) hum (by omega) (by rw [hu0]; simp)); have hroot : Root p (t ++ u) (liveOf m gs.size (upd ρ (m + p.N) (.quit B))) s r true (t.size + 1) := ⟨_, by rw [cH, hu0]; rfl, .inr (.inr ⟨rfl, rfl, heard1⟩)⟩; refine ⟨upd ρ (m + p.N) (.quit B), M', u, _, _, sl, s, r, f, true, hrun, ?_, ?_⟩
  · refine h.commG (jS (fun q hq => hM'hp ▸ hq) (dG hRhp)) (mS fun e => absurd rfl e) (vA h.far hilt _) ?_ (by simp) (by rw [hM'st]) ?_ ?_ ⟨tmF, vE hFsz⟩ ?_ rfl rfl rfl lY (fun k hk _ => cX hk) (fun q hq => hM'hp ▸ hq) (fun k' _ => dG hRhp k') hti (fun k => bT hum k) ?_ ?_
    · rw [gK, hM'st, hM'w]; exact h.cmb.shut hNn htag
    · refine ⟨_, ?_, hm'⟩
      rw [Array.getElem?_setIfInBounds_ne (by omega), Array.getElem?_map, h0]; rfl
    · intro k' x' hk' hx'
      rcases set1 (by simpa using hilt) hx' with ⟨rfl, rfl⟩ | ⟨h1, h3⟩
      · rw [upd_same, hd]; exact hf
      rw [upd_ne _ _ h1]; rw [Array.getElem?_map] at h3; obtain ⟨y, hy, rfl⟩ := Option.map_eq_some_iff.1 h3; rw [hothers k' y hk' hy]; exact h.roles k' y hk' hy
    · obtain ⟨tm, hc⟩ := hL; exact ⟨tm, (cX (Ne.symm h.ne.1)).trans hc⟩
    · intro j op a hj ha
      refine ⟨t.size + 1, ?_, hroot⟩; rw [hu0] at hj
      match j, hj with
      | 0, hj =>
        obtain rfl := Option.some.inj hj; have a0 : (t ++ u)[t.size + 0]? = some { g := m + p.N, fn := (G fr cs).frame.fn, pos := (G fr cs).frame.place, act := .access ⟨.obj p.F, false, true⟩ } := by rw [cH, hu0]; rfl
        have a1 : (t ++ u)[t.size + 1]? = some { g := m + p.N, fn := (G fr cs).frame.fn, pos := (G fr cs).frame.place, act := .close p.F } := by rw [cH, hu0]; rfl
        exact .inr (hb_po (Nat.lt_succ_self _) a0 a1 rfl)
      | 1, hj =>
        obtain rfl := Option.some.inj hj
        simp [MemAct.touch?] at ha
      | j + 2, hj => simp at hj
    intro q hq; obtain ⟨op, hop, hcase⟩ := hq; have hql := lt_size_of_getElem? hop
    rcases hcase with hcase | ⟨k', hk1, hk2, hk3, hk4⟩ | ⟨_, hk2, _⟩
    · by_cases hgi : op.g = m + p.N
      · exact ⟨t.size + 1, bx9 (u := u) hop (j := 1) (by rw [hu0]; rfl) hgi, hroot⟩
      refine ⟨q, .inl rfl, op, by rw [getElem?_append_old hql]; exact hop, .inl ?_⟩
      rcases hcase with e | ⟨h1, h2, h3⟩
      · exact .inl e
      exact .inr ⟨h1, h2, by rw [upd_ne _ _ hgi]; exact h3⟩
    · omega
    cases hk2
  have h1 := pE (p := p) (ρ := ρ) (M := M) hpos hilt (.quit B); rw [hρ] at h1
  have e1 : Wt p gs.size (upd ρ (m + p.N) (.quit B)) M' + M.wt = Wt p gs.size (upd ρ (m + p.N) (.quit B)) M + M'.wt := by
    unfold Wt; rw [hM'st]; omega
  simp only [Role.wt, Array.size_setIfInBounds, Array.size_map] at h1 ⊢
  omega
end
end Go.W
end
section
namespace Go.W
open Go Go.Conc
open Go.ConcN (sumTo upd sumTo_upd upd_ne upd_same le_sumTo sumTo_congr)
theorem jz1 {P : Program} {gs : Array Goroutine} {i : Nat} {g g₂ : Goroutine} {w₁ w : World} {sl : Option (Nat × Nat)} {c cap s r : Nat} {z : Value} {blocking closed tm : Bool} {shape : CommShape} {es : Array Event}
    (hi : gs[i]? = some g) (h : stepG P (i == 0) g w = .comm g₂ #[rcase c z] blocking shape w₁ es) (hc : w₁.heap[c]? = some (.chan cap #[] closed s r tm)) (hp : partners (gs.setIfInBounds i ph) c true ≠ []) :
    ∃ j k d, (j, k) ∈ partners (gs.setIfInBounds i ph) c true ∧
      runT P (crowd gs w sl) i = (.next (crowd ((finishPartner P (gs.setIfInBounds i ph) j k undef).setIfInBounds i (g₂.finishComm P #[rcase c z] shape 0 (offeredValue (gs.setIfInBounds i ph) j k) true)) ((w₁.at d).setChan c cap #[] closed (s + 1) (r + 1) tm) sl),
        MemOp.ofEvents i g.frame.fn g.frame.place es ++ #[{ g := j, fn := ((gs.setIfInBounds i ph).getD j default).frame.fn, pos := ((gs.setIfInBounds i ph).getD j default).frame.place, act := .send c s }, { g := i, fn := g₂.frame.fn, pos := g₂.frame.place, act := .recv c r cap },
          { g := j, fn := ((gs.setIfInBounds i ph).getD j default).frame.fn, pos := ((gs.setIfInBounds i ph).getD j default).frame.place, act := .sendDone c s }, { g := i, fn := g₂.frame.fn, pos := g₂.frame.place, act := .recvDone c r }]) := by
  rw [runT_crowd_comm hi h]; generalize hgs : gs.setIfInBounds i ph = gs1 at *
  cases hps : partners gs1 c true with
  | nil => exact absurd hps hp
  | cons p0 ps =>
    by_cases hlen : (p0 :: ps).length ≤ 1
    · have hps0 : ps = [] := by cases ps with | nil => rfl | cons _ _ => simp at hlen
      subst hps0; refine ⟨p0.1, p0.2, w₁.drawn, by simp, ?_⟩; have e : (w₁.at w₁.drawn) = w₁ := rfl; rw [e]
      simp [communicate, ways, rcase, hc, hps, choose, Sem.run, Question.forced, bind, Sem.bind, pure, World.setChan, crowd]
    have hf : (Question.extern "which waiting goroutine is the partner" (p0 :: ps).length).forced = false := by
      simp [Question.forced]
      intro e; apply hlen; simp [e]
    let b := (Question.extern "which waiting goroutine is the partner" (p0 :: ps).length).cut (w₁.tape w₁.drawn (Question.extern "which waiting goroutine is the partner" (p0 :: ps).length))
    have hb : b < (p0 :: ps).length := by
      simp only [b, Question.cut]; rw [if_neg (by simp)]; exact Nat.mod_lt _ (by simp)
    refine ⟨((p0 :: ps)[b]'hb).1, ((p0 :: ps)[b]'hb).2, w₁.drawn + 1, List.getElem_mem hb, ?_⟩
    have hb2 : ((p0 :: ps).map fun (x : Nat × Nat) => Way.partner x.1 x.2)[b]? = some (Way.partner ((p0 :: ps)[b]).1 ((p0 :: ps)[b]).2) := by
      rw [List.getElem?_map, List.getElem?_eq_getElem hb]; rfl
    have hway : ways w₁ gs1 (rcase c z) = (p0 :: ps).map fun (x : Nat × Nat) => Way.partner x.1 x.2 := by
      simp [ways, rcase, hc, hps]
    have hch : (rcase c z).chan = .chan (some c) := rfl; have hsd : (rcase c z).send = none := rfl; have hsel : (Question.select 1).forced = true := rfl; have hlm : ((p0 :: ps).map fun (x : Nat × Nat) => Way.partner x.1 x.2).length = (p0 :: ps).length := List.length_map _
    have hgd : ((p0 :: ps).map fun (x : Nat × Nat) => Way.partner x.1 x.2).getD b .closed = Way.partner ((p0 :: ps)[b]).1 ((p0 :: ps)[b]).2 := by
      rw [List.getD_eq_getElem?_getD, hb2]; rfl
    have hready : ((#[rcase c z].zipIdx.toList.map fun (x : CommCase × Nat) => (x.2, x.1, ways w₁ gs1 x.1)).filter fun x => !x.2.2.isEmpty) = [(0, rcase c z, (p0 :: ps).map fun (x : Nat × Nat) => Way.partner x.1 x.2)] := by
      simp [hway]
    have hpick : ((do
        let a ← choose (.select 1)
        let (k, c', ws) := [((0 : Nat), rcase c z, (p0 :: ps).map fun (x : Nat × Nat) => Way.partner x.1 x.2)].getD a (0, default, [])
        let b ← choose (.extern "which waiting goroutine is the partner" ws.length)
        pure (k, c', ws.getD b .closed)) : Sem (Nat × CommCase × Way)).run P w₁ = .ok (0, rcase c z, Way.partner ((p0 :: ps)[b]).1 ((p0 :: ps)[b]).2) (w₁.at (w₁.drawn + 1)) := by
      show Sem.run P (Sem.bind (choose (.select 1)) _) w₁ = _; simp only [choose, Sem.bind, Sem.run, hsel, if_true]
      show Sem.run P (Sem.bind (choose (.extern "which waiting goroutine is the partner" ((p0 :: ps).map fun (x : Nat × Nat) => Way.partner x.1 x.2).length)) _) w₁ = _
      rw [hlm]; simp only [choose, Sem.bind, Sem.run, hf, Bool.false_eq_true, if_false]; show Sem.run P (pure ((0 : Nat), rcase c z, ((p0 :: ps).map fun (x : Nat × Nat) => Way.partner x.1 x.2).getD b .closed)) _ = _; rw [hgd]
      rfl
    have hmain : communicate P (crowd gs w sl).rest gs1 i g₂ #[rcase c z] blocking shape w₁ = (.next { world := (w₁.at (w₁.drawn + 1)).setChan c cap #[] closed (s + 1) (r + 1) tm, gs := (finishPartner P gs1 ((p0 :: ps)[b]).1 ((p0 :: ps)[b]).2 undef).setIfInBounds i (g₂.finishComm P #[rcase c z] shape 0 (offeredValue gs1 ((p0 :: ps)[b]).1 ((p0 :: ps)[b]).2) true), rest := (crowd gs w sl).rest },
        #[{ g := ((p0 :: ps)[b]).1, fn := (gs1.getD ((p0 :: ps)[b]).1 default).frame.fn, pos := (gs1.getD ((p0 :: ps)[b]).1 default).frame.place, act := .send c s }, { g := i, fn := g₂.frame.fn, pos := g₂.frame.place, act := .recv c r cap },
          { g := ((p0 :: ps)[b]).1, fn := (gs1.getD ((p0 :: ps)[b]).1 default).frame.fn, pos := (gs1.getD ((p0 :: ps)[b]).1 default).frame.place, act := .sendDone c s }, { g := i, fn := g₂.frame.fn, pos := g₂.frame.place, act := .recvDone c r }]) := by
      unfold communicate; simp only []; rw [if_neg]
      rotate_left
      · rw [Bool.not_eq_true]
        refine any_ill (w := w₁) fun cc hcc => ?_; obtain rfl : cc = rcase c z := by simpa using hcc
        exact made_recv z hc
      rw [hready]; simp only [List.isEmpty_cons, Bool.false_eq_true, if_false, List.length_singleton]; rw [hpick]; have hc2 : (w₁.at (w₁.drawn + 1)).heap[c]? = some (.chan cap #[] closed s r tm) := hc; simp only [hch, hsd, hc2, List.size_toArray, List.length_nil, Array.push_empty]
      rfl
    rw [hmain]
    rfl
def Fin (p : Ph) (Goal : Goroutine → World → Prop) (t : Trace) (x : Stepped × Array MemOp) : Prop :=
  ∃ (gs' : Array Goroutine) (g' : Goroutine) (w' : World) (sl' : Option (Nat × Nat)) (u : Trace) (q' : Nat → Nat) (B' : Nat), x = (.next (crowd gs' w' sl'), u) ∧ gs'[0]? = some g' ∧ Leavers p.P (t ++ u) gs' q' ∧ Past noS B' (t ++ u) ∧ Co p.P g' w' Goal
section
variable {p : Ph} {Goal : Goroutine → World → Prop} {m τ : Nat} {ρ : Nat → Role} {M : MR} {t u : Trace} {gs : Array Goroutine} {w : World} {s r f : Nat} {cl : Bool} {sl : Option (Nat × Nat)}
theorem case_ga {B : Nat} {R : List Nat} {fr : Frame} {cs : List Frame} {hp : Hq} (h : InvP p Goal m τ ρ (.run (B + 1) (.ga R) fr cs hp) t gs w s r f cl) {g : Goroutine} (h0 : gs[0]? = some g)
    (hst : stepG p.P true g w = .comm (G fr cs) #[rcase p.F p.z] true (.recv true) w #[]) (hfm : FolM p Goal (B + 1) (.ga R) fr cs hp)
    (hR : ∀ j ∈ R, FolM p Goal B (.ga (R.erase j)) (fr.finish (.tuple #[p.v j, .bool true])) cs hp)
    (hend : R = [] → ∀ w', Sur p w' → Held hp w' → Co p.P (G (fr.finish (.tuple #[p.z, .bool false])) cs) w' Goal) :
    Nx p Goal m τ (Wt p gs.size ρ (.run (B + 1) (.ga R) fr cs hp)) t (runT p.P (crowd gs w sl) 0) ∨ Fin p Goal t (runT p.P (crowd gs w sl) 0) := by
  have hst' : stepG p.P (0 == 0) g w = .comm (G fr cs) #[rcase p.F p.z] true (.recv true) w #[] := hst; obtain ⟨tmF, hF⟩ := h.chF; have hL := h.chL; have hFsz := h.ltF; have hNn : p.N < nsp p (.ga R) := by simp [nsp]
  by_cases hp0 : partners (gs.setIfInBounds 0 ph) p.F true = []
  · by_cases hcl : cl = true
    · -- it is closed
      subst hcl; refine .inr ?_
      have hrN : r = p.N ∧ (ρ (m + p.N)).tag = .quit := by
        rcases h.cmb.ck hNn with ⟨k', _, h1 | ⟨h1, _⟩⟩ | ⟨_, h2, _⟩ | ⟨h2, _, h1⟩
        · have := h.cmb.op2 k' (.inl h1) hNn; cases this
        · have := h.cmb.op2 k' (.inr h1) hNn; cases this
        · cases h2
        exact ⟨h2, h1⟩
      have hsN : s = p.N := by have := h.cmb.rs; have := h.cmb.s_le; omega
      have hall : ∀ j, j < p.N → (ρ (m + j)).tag = .quit := fun j hj => tj5 (c := fun i => (ρ i).tag) (by rw [h.cmb.cnt]; exact hsN) hj
      have hquit : ∀ k, 0 < k → k < gs.size → (ρ k).tag = .quit := by
        intro k hk hlt; have hsz := h.size; simp only [MR.st, nsp] at hsz
        rcases Nat.lt_or_ge k m with h1 | h1
        · exact h.cmb.old k hk h1
        by_cases hkN : k = m + p.N
        · subst hkN; exact hrN.2
        have := hall (k - m) (by omega)
        rwa [show m + (k - m) = k by omega] at this
      have hRnil : R = [] := by
        apply List.eq_nil_iff_forall_not_mem.2
        intro j hj; obtain ⟨h1, h2⟩ := ((h.cmb.und R rfl).2 j).1 hj; have h3 : (ρ (m + j)).tag = .quit := hall j h1
        rcases h2 with h2 | h2 <;> (simp only [h3] at h2; cases h2)
      have hrun := crowd_recv_closed (P := p.P) (sl := sl) h0 hst' hF hp0; rw [finishComm_recv, ofE0] at hrun
      let u : Trace := #[] ++ #[{ g := 0, fn := (G fr cs).frame.fn, pos := (G fr cs).frame.place, act := .recvClosed p.F }]
      have hu : Mild u := by
        intro op hop; simp only [u, Array.empty_append] at hop
        simp at hop
        subst hop
        simp [MemAct.touch?]
      have hdeaf : ∀ k, Deaf (t ++ u) k = Deaf t k := fun k => bT (fun op hop => (hu op hop).2) k
      have hknown : ∀ i a, touchAt (t ++ u) i = some a → a.loc.isMemory = true → Knows (t ++ u) 0 i := by
        intro i a ha hm
        rcases J3 ha with ⟨_, ha'⟩ | ⟨_, op, hop, _, hoa⟩
        · obtain ⟨q, hq, op, hop, hcase⟩ := h.kn i a ha' hm
          have hql := lt_size_of_getElem? hop
          rcases hcase with h1 | ⟨k, _, h1, h2, _⟩ | ⟨h1, _, h3⟩
          · rcases h1 with h1 | ⟨h1, h2, h3⟩
            · exact ⟨q, op, by rw [getElem?_append_old hql]; exact hop, h1, hq.app u⟩
            exact absurd (hquit op.g (by have := h.cmb.m0; omega) h2) h3
          · omega
          refine ⟨t.size + 0, _, cH (t := t) (u := u) 0, rfl, (hq.app u).trans (.inr (.single (.inr ⟨.closed (c := p.F) ?_ (act?_of (cH (t := t) (u := u) 0)), (heard_old hql).2 h3, h.heard_new (.inl rfl) hu (j := 0) rfl rfl⟩)))⟩; rw [act?_old hql, act?_of hop, h1]
        rw [(hu op hop).1] at hoa; cases hoa
      obtain ⟨B', hB'⟩ := lT h.seen (sG u); refine ⟨_, Go.Conc.served (G fr cs) (.tuple #[p.z, .bool false]), w, sl, u, fun k => match ρ k with | .quit n => n | _ => 0, B', hrun, (by rw [Array.getElem?_setIfInBounds_self_of_lt h.pos]; rfl), ⟨fun k x hk hx => ?_, fun k hk => ?_⟩, ⟨(h.ti.mild hu).clean, fun i a ha hm => .inl (hknown i a ha hm), ?_, by rw [hdeaf]; exact h.ti.hears 0 (.inl rfl), hB'⟩, hend hRnil w h.env h.heldM⟩
      · rw [Array.getElem?_setIfInBounds_ne (by omega)] at hx
        have hq := hquit k hk (Array.getElem?_eq_some_iff.1 hx).1; have hr := h.roles k x hk hx; rw [hdeaf]
        cases hρk : ρ k <;> rw [hρk] at hq <;> first | (rw [hρk] at hr; exact hr) | cases hq
      · rw [hdeaf]; exact h.above k (by simpa using hk)
      intro i g' hg' hne hc; obtain ⟨x, hx, hxm, _⟩ := hc; obtain ⟨q, z, hz, hz0, hb⟩ := hknown i x hx hxm; refine ⟨q, by simp [Trace.g?, hz, hz0], ?_⟩
      rcases hb with rfl | hb
      · simp [Trace.g?, hz] at hg'
        exact absurd (hg'.symm.trans hz0) hne
      exact hb
    -- it waits
    obtain rfl : cl = false := by simpa using hcl
    refine .inl ?_
    have hno : ∀ j, j < p.N → (ρ (m + j)).tag ≠ .p1 j := by
      intro j hj hc; have hlt : m + j < gs.size := by have := h.size; simp only [MR.st, nsp] at this; omega
      have hx : gs[m + j]? = some gs[m + j] := Array.getElem?_eq_getElem hlt; have hr := h.roles (m + j) _ (by have := h.cmb.m0; omega) hx
      cases hρj : ρ (m + j) <;> rw [hρj] at hc <;> simp only [Role.tag] at hc <;> cases hc
      rw [hρj] at hr; obtain ⟨_, ⟨zz, hz⟩, _⟩ := hr; have hm : (m + j, 0) ∈ partners (gs.setIfInBounds 0 ph) p.F true := mem_partners.2 ⟨_, stand_get (by have := h.cmb.m0; omega) hx, by rw [hz, offersAt_parked_send, if_pos rfl]; simp⟩; rw [hp0] at hm; cases hm
    have hrun := crowd_waits (P := p.P) (sl := sl) h0 hst' (fun cc hcc => by
      obtain rfl : cc = rcase p.F p.z := by simpa using hcc
      exact ⟨made_recv _ hF, by simp [ways, rcase, hF, hp0]⟩)
    rw [ofE0] at hrun; refine ⟨ρ, .park B R fr cs hp, _, _, _, sl, s, r, f, false, hrun, ?_, ?_⟩
    · refine h.comm (fun g k hk => hk) (fun g hg => hg) h.far ?_ (by simp) rfl ?_ ?_ ⟨tmF, hF⟩ hL rfl rfl rfl rfl (fun k _ _ => rfl) (fun q hq => hq) (fun k _ q hq => hq) (fun op hop => by simp at hop) (sH fun g hg => hg)
      · exact h.cmb.parkM rfl hno
      · exact ⟨_, Array.getElem?_setIfInBounds_self_of_lt h.pos, rfl, hfm, hR⟩
      intro k x hk hx; rw [Array.getElem?_setIfInBounds_ne (by omega)] at hx; exact h.roles k x hk hx
    simp only [Wt, MR.wt, MR.st, unb, Array.size_setIfInBounds]
    omega
  -- one of those that wait is served
  refine .inl ?_; obtain ⟨j, k, d, hjk, hrun⟩ := jz1 (P := p.P) (sl := sl) h0 hst' hF hp0; obtain ⟨x, hx, hk⟩ := mem_partners.1 hjk
  rcases getElem?_stand gs 0 j x hx with ⟨_, rfl⟩ | ⟨hj0, hx'⟩
  · rw [offersAt_ph] at hk; cases hk
  have hjpos : 0 < j := by omega
  have hjlt : j < gs.size := (Array.getElem?_eq_some_iff.1 hx').1; have hr := h.roles j x hjpos hx'
  obtain ⟨jj, hjj⟩ : ∃ jj, (ρ j).tag = .p1 jj := by
    rcases h.off hx' (List.ne_nil_of_mem hk) with ⟨e, _⟩ | ⟨_, h1, _⟩ | ⟨_, _, e, _⟩
    · omega
    · exact h1
    exact absurd e h.ne.1
  obtain ⟨Bj, frj, csj, hpj, hρj⟩ : ∃ Bj frj csj hpj, ρ j = .p1 Bj jj frj csj hpj := by
    cases hh : ρ j <;> rw [hh] at hjj <;> simp only [Role.tag] at hjj <;> cases hjj
    exact ⟨_, _, _, _, rfl⟩
  rw [hρj] at hr; obtain ⟨hdj, ⟨zz, rfl⟩, hfj⟩ := hr; obtain rfl : k = 0 := by rw [offersAt_parked_send, if_pos rfl] at hk; simpa using hk
  obtain ⟨rfl, hjN⟩ : j = m + jj ∧ jj < p.N := by
    rcases h.cmb.idx hjpos (h.lt_nsp hx') (by show (ρ j).tag ≠ _; rw [hjj]; simp) with ⟨j2, h1, h2, _, h4⟩ | ⟨_, _, ⟨k, _, h1 | ⟨h1, _⟩⟩ | ⟨_, _, h1⟩⟩
    · rcases h4 with h4 | h4 | h4 <;> simp only [hjj] at h4 <;> cases h4
      exact ⟨h1, h2⟩
    all_goals simp only [hjj] at h1; cases h1
  obtain ⟨_, rfl⟩ := h.cmb.w_open hjN (by simp only [MR.st, nsp]; omega) (by show ((ρ (m + jj)).tag).isQ = 0; rw [hjj]; rfl); have hjR : jj ∈ R := ((h.cmb.und R rfl).2 jj).2 ⟨hjN, .inr hjj⟩
  have hov : offeredValue (gs.setIfInBounds 0 ph) (m + jj) 0 = p.v jj := by
    unfold offeredValue; rw [hx]
    simp [parked, scase]
  rw [hov, finishPartner_at p.P (gs.setIfInBounds 0 ph) hx rfl 0 undef, finishComm_parked, finishComm_send, finishComm_recv, set_stand2, ofE0] at hrun; have hRhp : ∀ q ∈ (Role.s2 Bj (frj.finish undef) csj hpj).hp, q ∈ (ρ (m + jj)).hp := by rw [hρj]; exact fun q hq => hq
  refine ⟨upd ρ (m + jj) (.s2 Bj (frj.finish undef) csj hpj), .run B (.ga (R.erase jj)) (fr.finish (.tuple #[p.v jj, .bool true])) cs hp, _, _, _, sl, s, r, f + 1, false, hrun, ?_, ?_⟩
  · refine (h.at d).comm (jS (fun q hq => hq) (dG hRhp)) (mS fun _ => by rw [hjj]; simp) (vA h.far hjlt _) ?_ (by simp) rfl ?_ ?_ ⟨tmF, vE hFsz⟩ ?_ rfl rfl rfl lY (fun k hk _ => cX hk) (fun q hq => hq) (fun k _ => dG hRhp k) ?_ (sH (lW (by simp [Role.tag])))
    · rw [gK]; exact h.cmb.deliver hjN (.inr hjj)
    · refine ⟨Go.Conc.served (G fr cs) (.tuple #[p.v jj, .bool true]), ?_, ⟨rfl, rfl, rfl, rfl⟩, hR jj hjR⟩
      rw [Array.getElem?_setIfInBounds_self_of_lt (by simpa using h.pos)]; rfl
    · intro k x hk hx
      rcases set2 (by omega) h.pos hjlt hx with ⟨rfl, _⟩ | ⟨rfl, rfl⟩ | ⟨h1, h2, h3⟩
      · omega
      · rw [upd_same]; exact ⟨hdj, rfl, hfj⟩
      rw [upd_ne ρ _ h2]; exact h.roles k x hk h3
    · obtain ⟨tm, hc⟩ := hL; exact ⟨tm, (cX (w := w.at d) (Ne.symm h.ne.1)).trans hc⟩
    intro op hop; simp only [Array.empty_append] at hop
    simp at hop
    rcases hop with rfl | rfl | rfl | rfl <;> simp [MemAct.touch?]
  have h1 := pE (p := p) (ρ := ρ) (M := .run (B + 1) (.ga R) fr cs hp) hjpos hjlt (.s2 Bj (frj.finish undef) csj hpj); rw [hρj] at h1; simp only [Role.wt, Wt, MR.wt, MR.st, unb, Array.size_setIfInBounds] at h1 ⊢
  omega
end
end Go.W
end
section
namespace Go.W
open Go Go.Conc
open Go.ConcN (sumTo upd sumTo_upd upd_ne upd_same le_sumTo sumTo_congr)
section
variable {p : Ph} {Goal : Goroutine → World → Prop} {m τ : Nat} {ρ : Nat → Role} {M : MR} {t u : Trace} {gs : Array Goroutine} {w : World} {s r f : Nat} {cl : Bool} {sl : Option (Nat × Nat)}
theorem mq3 {B j : Nat} {ms' : Ms} {fr fr' : Frame} {cs cs' : List Frame} {fc : Frame} {hp h1 h2 : Hq} {R' : Role}
    (h : InvP p Goal m τ ρ (.run (B + 1) (.sp j) fr cs hp) t gs w s r f cl) {x y : MemOp} {n : Nat} (hx : x.g = 0 ∧ x.act = .go gs.size) (hy : y.g = gs.size ∧ y.act = .start)
    (hms : nsp p ms' = j + 1) (hcmb : Cmb p m (fun i => (upd ρ (m + j) R' i).tag) ms' false s r cl) (hfm : FolM p Goal B ms' fr' cs' h2)
    (hs1 : ∀ q ∈ h1, q ∈ hp) (hs2 : ∀ q ∈ h2, q ∈ hp) (hdis : ∀ k, Has h1 k → ¬ Has h2 k) (hnew : ∀ q ∈ h1, p.W.heap.size ≤ q.1) (hRh : R'.hp = h1) (hRq : R'.tag ≠ .quit) (hRok : RoleOK p 0 (G fc []) R') :
    InvP p Goal m τ (upd ρ (m + j) R') (.run B ms' fr' cs' h2) (t ++ #[x, y]) ((gs.setIfInBounds 0 (G fr' cs')).push (G fc [])) w s r f cl := by
  have hsz : gs.size = m + j := h.size; have hm0 := h.cmb.m0
  have hu : Mild #[x, y] := by
    intro op hop
    simp at hop
    rcases hop with rfl | rfl
    · rw [hx.2]; simp [MemAct.touch?]
    rw [hy.2]; simp [MemAct.touch?]
  have hdeaf : ∀ k, Deaf (t ++ #[x, y]) k = Deaf t k := fun k => bT (fun op hop => (hu op hop).2) k; have hsz' : ((gs.setIfInBounds 0 (G fr' cs')).push (G fc [])).size = gs.size + 1 := by simp
  have e0 : (t ++ #[x, y])[t.size + 0]? = some x := by rw [cH]; rfl
  have e1 : (t ++ #[x, y])[t.size + 1]? = some y := by rw [cH]; rfl
  have live_old : ∀ g, liveOf m gs.size ρ g → liveOf m (gs.size + 1) (upd ρ (m + j) R') g := by
    rintro g (h0 | ⟨h1, h2, h3⟩)
    · exact .inl h0
    exact .inr ⟨h1, by omega, by rw [upd_ne _ _ (by omega)]; exact h3⟩
  have live_new : ∀ g, liveOf m (gs.size + 1) (upd ρ (m + j) R') g → liveOf m gs.size ρ g ∨ g = m + j := by
    rintro g (h0 | ⟨h1, h2, h3⟩)
    · exact .inl (.inl h0)
    by_cases hg : g = m + j
    · exact .inr hg
    rw [upd_ne _ _ hg] at h3; exact .inl (.inr ⟨h1, by omega, h3⟩)
  have own_new : ∀ g k, ownOf (.run B ms' fr' cs' h2) (upd ρ (m + j) R') g k → (g = m + j ∧ Has h1 k) ∨ (g ≠ m + j ∧ ownOf (.run (B + 1) (.sp j) fr cs hp) ρ g k) := by
    rintro g k (⟨rfl, q, hq, e⟩ | ⟨hg, hk⟩)
    · exact .inr ⟨by omega, .inl ⟨rfl, q, hs2 q hq, e⟩⟩
    by_cases hgm : g = m + j
    · subst hgm; rw [upd_same, hRh] at hk; exact .inl ⟨rfl, hk⟩
    rw [upd_ne _ _ hgm] at hk; exact .inr ⟨hgm, .inr ⟨hg, hk⟩⟩
  have own_child : ∀ k, Has h1 k → ownOf (.run (B + 1) (.sp j) fr cs hp) ρ 0 k := fun k ⟨q, hq, e⟩ => .inl ⟨rfl, q, hs1 q hq, e⟩; have heard0 : (t ++ #[x, y]).heard (t.size + 0) := h.heard_new (.inl rfl) hu (j := 0) rfl hx.1; have heard1 : (t ++ #[x, y]).heard (t.size + 1) := kz4 e1 hy.1 (pq1 (h.above gs.size (Nat.le_refl _)) (fun op hop => (hu op hop).2) (by omega) (by simp))
  have knows_child : ∀ i, Knows t 0 i → Knows (t ++ #[x, y]) (m + j) i := fun i hk => by
    have b1 : HappensBefore (t ++ #[x, y]) i (t.size + 0) := hk.hb_new (by omega) e0 hx.1; exact ⟨t.size + 1, y, e1, hy.1.trans hsz, .inr (b1.trans (.single (.inr ⟨.spawn (child := gs.size) (by rw [act?_of e0, hx.2]) (by rw [act?_of e1, hy.2]) (by simp [Trace.g?, e1, hy.1]), heard0, heard1⟩)))⟩
  have hti := h.ti.mild hu; refine { cmb := hcmb, size := by rw [hsz', hsz]; simp only [MR.st, hms]; omega, main := ⟨G fr' cs', ?_, ⟨rfl, rfl, rfl, rfl⟩, hfm⟩, roles := ?_, chF := h.chF, chL := h.chL, ne := h.ne, env := h.env, heldM := fun q hq => h.heldM q (hs2 q hq), held := ?_, far := ?_, d1 := ?_, ge := ?_, ti := ?_, kn := ?_, seen := lT h.seen (sG _), above := ?_ }
  · rw [Array.getElem?_push_lt (by simpa using h.pos), Array.getElem_setIfInBounds_self]
  · intro k z hk hz
    rw [hdeaf]
    by_cases hkm : k = m + j
    · subst hkm
      rw [Array.getElem?_push, if_pos (by simp [hsz])] at hz; obtain rfl := Option.some.inj hz; rw [upd_same, ← hsz, h.above _ (Nat.le_refl _)]; exact hRok
    rw [Array.getElem?_push, if_neg (by simp; omega), Array.getElem?_setIfInBounds_ne (by omega)] at hz; rw [upd_ne _ _ hkm]; exact h.roles k z hk hz
  · intro k hk hlt q hq
    by_cases hkm : k = m + j
    · subst hkm; rw [upd_same, hRh] at hq; exact h.heldM q (hs1 q hq)
    rw [upd_ne _ _ hkm] at hq; exact h.held k hk (by omega) q hq
  · intro k hk
    rw [hsz'] at hk; rw [upd_ne _ _ (by omega)]; exact h.far k (by omega)
  · intro g g' k hg hg'
    rcases own_new g k hg with ⟨rfl, ha⟩ | ⟨hn, ha⟩ <;> rcases own_new g' k hg' with ⟨rfl, hb⟩ | ⟨hn', hb⟩
    · rfl
    · obtain rfl := h.d1 _ _ _ (own_child k ha) hb
      rcases hg' with ⟨_, hk⟩ | ⟨h0, _⟩
      · exact absurd hk (hdis k ha)
      omega
    · obtain rfl := h.d1 _ _ _ (own_child k hb) ha
      rcases hg with ⟨_, hk⟩ | ⟨h0, _⟩
      · exact absurd hk (hdis k hb)
      omega
    exact h.d1 _ _ _ ha hb
  · intro g k hg
    rcases own_new g k hg with ⟨rfl, q, hq, rfl⟩ | ⟨_, ha⟩
    · exact .inl (hnew q hq)
    exact h.ge _ _ ha
  · rw [hsz']
    refine ⟨hti.τle, hti.clean, fun g hg i a hi ha hm => ?_, fun g k ho i a hi ha hb => ?_, hti.rd, hti.low, fun g hg => ?_⟩
    · rcases live_new g hg with hg | rfl
      · exact hti.pre g hg i a hi ha hm
      have hlt : i < t.size := Nat.lt_of_lt_of_le hi h.ti.τle; rw [touchAt_old hlt] at ha; exact knows_child i (h.ti.pre 0 (.inl rfl) i a hi ha hm)
    · rcases own_new g k ho with ⟨rfl, hk⟩ | ⟨_, ho⟩
      · rcases J3 ha with ⟨_, ha'⟩ | ⟨_, op, hop, _, hoa⟩
        · exact knows_child i (h.ti.own_ 0 k (own_child k hk) i a hi ha' hb)
        rw [(hu op hop).1] at hoa; cases hoa
      exact hti.own_ g k ho i a hi ha hb
    rcases live_new g hg with hg | rfl
    · exact hti.hears g hg
    rw [hdeaf, ← hsz]; exact h.above _ (Nat.le_refl _)
  · intro i a ha hm
    rw [hsz']
    rcases J3 ha with ⟨_, ha'⟩ | ⟨_, op, hop, _, hoa⟩
    · obtain ⟨q, hq, hr⟩ := h.kn i a ha' hm
      exact ⟨q, hq.app _, hr.app live_old (Nat.le_refl _) (Nat.le_refl _) id⟩
    rw [(hu op hop).1] at hoa; cases hoa
  intro k hk; rw [hsz'] at hk; rw [hdeaf]; exact h.above k (by omega)
theorem case_sp {B j : Nat} {fr fr' : Frame} {cs cs' : List Frame} {fc : Frame} {hp h1 h2 : Hq} (h : InvP p Goal m τ ρ (.run (B + 1) (.sp j) fr cs hp) t gs w s r f cl) {g : Goroutine} (h0 : gs[0]? = some g)
    (hst : stepG p.P true g w = .spawn (G fr' cs') (G fc []) w #[])
    (hs1 : ∀ q ∈ h1, q ∈ hp) (hs2 : ∀ q ∈ h2, q ∈ hp) (hdis : ∀ k, Has h1 k → ¬ Has h2 k) (hnew : ∀ q ∈ h1, p.W.heap.size ≤ q.1)
    (hk : (j < p.N ∧ Fol p p.BW (.send1 j) fc [] h1 ∧ FolM p Goal B (.sp (j + 1)) fr' cs' h2) ∨ (j = p.N ∧ Fol p p.BC (nxt p.N) fc [] h1 ∧ FolM p Goal B (.ga (List.range p.N)) fr' cs' h2)) :
    Nx p Goal m τ (Wt p gs.size ρ (.run (B + 1) (.sp j) fr cs hp)) t (runT p.P (crowd gs w sl) 0) := by
  have hsz : gs.size = m + j := h.size; have hm0 := h.cmb.m0; have hrun := runT_crowd_spawn (P := p.P) (sl := sl) (i := 0) h0 (show stepG p.P (0 == 0) g w = _ from hst); rw [ofE0] at hrun
  have hsum : ∀ R' : Role, sumTo (gs.size + 1) (fun i => if i = 0 then 0 else (upd ρ (m + j) R' i).wt) = sumTo gs.size (fun i => if i = 0 then 0 else (ρ i).wt) + R'.wt := fun R' => by
    simp only [sumTo]; rw [hsz, if_neg (by omega), upd_same]
    congr 1
    exact sumTo_congr fun k hk => by rw [upd_ne _ _ (by omega)]
  rcases hk with ⟨hj, hf, hfm⟩ | ⟨rfl, hf, hfm⟩
  · refine ⟨_, _, _, _, _, sl, s, r, f, cl, hrun, mq3 (R' := .s1 p.BW j fc [] h1) h ⟨rfl, rfl⟩ ⟨rfl, rfl⟩ (n := 0) (ms' := .sp (j + 1)) rfl ?_ hfm hs1 hs2 hdis hnew rfl (by simp [Role.tag]) ⟨rfl, rfl, hf⟩, ?_⟩
    · rw [gK]; exact h.cmb.spawnW hj
    rw [show ((gs.setIfInBounds 0 (G fr' cs')).push (G fc [])).size = gs.size + 1 by simp]; have e := hsum (.s1 p.BW j fc [] h1); have hw : (Role.s1 p.BW j fc [] h1).wt = 2 * p.BW + 2 := rfl; simp only [Wt, MR.wt, MR.st, unb]; rw [e, hw]; obtain ⟨d, hd⟩ : ∃ d, p.N - j = d + 1 := ⟨p.N - j - 1, by omega⟩; have hd2 : p.N - (j + 1) = d := by omega
    rw [hd, hd2, Nat.add_mul, Nat.one_mul]
    omega
  let R' : Role := match p.N with | 0 => .cz p.BC fc [] h1 | k + 1 => .rc p.BC k fc [] h1
  have hRt : R'.tag = (match p.N with | 0 => .cz | k + 1 => .rc k) := by simp only [R']; cases p.N <;> rfl
  have hRh : R'.hp = h1 := by simp only [R']; cases p.N <;> rfl
  have hRw : R'.wt = 2 * p.BC + 2 := by simp only [R']; cases p.N <;> rfl
  have hRq : R'.tag ≠ .quit := by rw [hRt]; cases p.N <;> simp
  have hRok : RoleOK p 0 (G fc []) R' := by
    simp only [R']
    cases hN : p.N with
    | zero => rw [hN] at hf; exact ⟨rfl, rfl, hf⟩
    | succ k => rw [hN] at hf; exact ⟨rfl, rfl, hf⟩
  refine ⟨_, _, _, _, _, sl, s, r, f, cl, hrun, mq3 (R' := R') h ⟨rfl, rfl⟩ ⟨rfl, rfl⟩ (n := 0) (ms' := .ga (List.range p.N)) rfl ?_ hfm hs1 hs2 hdis hnew hRh hRq hRok, ?_⟩
  · rw [gK]; exact (h.cmb.spawnC hRt).1
  rw [show ((gs.setIfInBounds 0 (G fr' cs')).push (G fc [])).size = gs.size + 1 by simp]; have e := hsum R'; simp only [Wt, MR.wt, MR.st, unb]; rw [e, hRw]
  omega
theorem InvP.runs (h : InvP p Goal m τ ρ M t gs w s r f cl) : ∃ (i : Nat) (g : Goroutine), gs[i]? = some g ∧ g.status = .running := by
  have hsz := h.size; have hm0 := h.cmb.m0; obtain ⟨g0, h0, hm⟩ := h.main
  cases M with
  | run B ms fr cs hp => exact ⟨0, g0, h0, hm.1.1⟩
  | park B R fr cs hp =>
    simp only [MR.st, nsp] at hsz; have hi1 := h.cmb.i1 rfl; have hN : p.N < nsp p (MR.park B R fr cs hp).st := Nat.lt_succ_self _
    have look : ∀ j, j < p.N + 1 → ∃ x, gs[m + j]? = some x ∧ RoleOK p (Deaf t (m + j)) x (ρ (m + j)) := fun j hj =>
      ⟨gs[m + j]'(by omega), Array.getElem?_eq_getElem (by omega), h.roles (m + j) _ (by omega) (Array.getElem?_eq_getElem (by omega))⟩
    -- one of those that send is at it still
    have worker : ∀ j, j < p.N → (ρ (m + j)).tag ≠ .quit → ∃ (i : Nat) (g : Goroutine), gs[i]? = some g ∧ g.status = .running := by
      intro j hj hq; obtain ⟨x, hx, hr⟩ := look j (by omega); have hnp := hi1.2 j hj
      rcases h.cmb.wk j hj (by simp only [MR.st, nsp]; omega) with h1 | h1 | h1 | h1
      · exact absurd h1 hq
      · refine ⟨m + j, x, hx, ?_⟩
        have h1' : (ρ (m + j)).tag = .s1 j := h1
        cases hρ : ρ (m + j) <;> rw [hρ] at h1' hr <;> simp only [Role.tag] at h1' <;> cases h1'
        rw [hr.2.1]; rfl
      · exact absurd h1 hnp
      refine ⟨m + j, x, hx, ?_⟩; have h1' : (ρ (m + j)).tag = .s2 := h1
      cases hρ : ρ (m + j) <;> rw [hρ] at h1' hr <;> simp only [Role.tag] at h1' <;> cases h1'
      rw [hr.2.1]; rfl
    obtain ⟨x, hx, hr⟩ := look p.N (by omega)
    rcases h.cmb.ck hN with ⟨k, hk, h1 | ⟨h1, h2⟩⟩ | ⟨_, _, h1⟩ | ⟨_, h1, _⟩
    · refine ⟨m + p.N, x, hx, ?_⟩
      have h1' : (ρ (m + p.N)).tag = .rc k := h1
      cases hρ : ρ (m + p.N) <;> rw [hρ] at h1' hr <;> simp only [Role.tag] at h1' <;> cases h1'
      rw [hr.2.1]; rfl
    · -- it waits for one of them
      have hcnt := h.cmb.cnt
      by_cases hall : ∀ j, j < p.N → (ρ (m + j)).tag = .quit
      · exfalso
        have : sumTo p.N (fun j => ((ρ (m + j)).tag).isQ) = p.N := by
          have : ∀ n, n ≤ p.N → sumTo n (fun j => ((ρ (m + j)).tag).isQ) = n := by
            intro n
            induction n with
            | zero => intro _; rfl
            | succ n ih => intro hn; simp only [sumTo, ih (by omega), hall n (by omega)]; rfl
          exact this _ (Nat.le_refl _)
        omega
      obtain ⟨j, hj⟩ := Classical.not_forall.1 hall; obtain ⟨hj1, hj2⟩ := Classical.not_imp.1 hj; exact worker j hj1 hj2
    · refine ⟨m + p.N, x, hx, ?_⟩
      have h1' : (ρ (m + p.N)).tag = .cz := h1
      cases hρ : ρ (m + p.N) <;> rw [hρ] at h1' hr <;> simp only [Role.tag] at h1' <;> cases h1'
      rw [hr.2.1]; rfl
    rw [hi1.1] at h1; cases h1
theorem InvP.awake (h : InvP p Goal m τ ρ M t gs w s r f cl) : ∀ g ∈ gs, Go.Conc.awake g := by
  intro g hg; obtain ⟨i, hi, rfl⟩ := Array.mem_iff_getElem.1 hg; have hx : gs[i]? = some gs[i] := Array.getElem?_eq_getElem hi
  rcases Nat.eq_zero_or_pos i with rfl | hpos
  · obtain ⟨g0, h0, hm⟩ := h.main
    rw [h0] at hx; rw [← Option.some.inj hx]
    cases M with
    | run B ms fr cs hp => exact awake_of (.inl hm.1.1)
    | park B R fr cs hp => rw [hm.1]; exact awake_of (.inr (.inl rfl))
  have hr := h.roles i _ hpos hx
  cases hρ : ρ i with
  | quit n => rw [hρ] at hr; exact awake_of ((QuitsD.status hr).elim .inl fun e => .inr (.inr e))
  | s1 B j fr cs hp => rw [hρ] at hr; rw [hr.2.1]; exact awake_of (.inl rfl)
  | s2 B fr cs hp => rw [hρ] at hr; rw [hr.2.1]; exact awake_of (.inl rfl)
  | rc B k fr cs hp => rw [hρ] at hr; rw [hr.2.1]; exact awake_of (.inl rfl)
  | cz B fr cs hp => rw [hρ] at hr; rw [hr.2.1]; exact awake_of (.inl rfl)
  | pr B k fr cs hp => rw [hρ] at hr; obtain ⟨_, ⟨zz, e⟩, _⟩ := hr; rw [e]; exact awake_of (.inr (.inl rfl))
  | p1 B j fr cs hp => rw [hρ] at hr; obtain ⟨_, ⟨zz, e⟩, _⟩ := hr; rw [e]; exact awake_of (.inr (.inl rfl))
end
end Go.W
end
section
namespace Go.W
open Go Go.Conc
open Go.ConcN (sumTo upd sumTo_upd upd_ne upd_same le_sumTo sumTo_congr)
section
variable {p : Ph} {Goal : Goroutine → World → Prop} {m τ : Nat} {ρ : Nat → Role} {M : MR} {t u : Trace} {gs : Array Goroutine} {w : World} {s r f : Nat} {cl : Bool} {sl : Option (Nat × Nat)}
theorem xq5 {e : Event} (h : Calm e) : MemAct.ofEvent e ≠ .mark .disable ∧ MemAct.ofEvent e ≠ .mark .enable := by
  unfold MemAct.ofEvent
  split
  · exact ⟨by simp, by simp⟩
  · rename_i mm _ _
    exact ⟨fun e => h.1 (by cases e; rfl), fun e => h.2 (by cases e; rfl)⟩
  exact ⟨by simp, by simp⟩
theorem mz6 {hp : Hq} {es : Array Event} (h : ∀ e ∈ es, EvIn p hp e) (g fn : Nat) (pos : String) : ∀ op ∈ MemOp.ofEvents g fn pos es, op.act ≠ .mark .disable ∧ op.act ≠ .mark .enable := fun op hop => by
  obtain ⟨e, he, rfl⟩ := Go.Conc.mem_ofEvents hop; exact xq5 (h e he).1
theorem pj9 (g fn : Nat) (pos : String) (es : Array Event) : ∀ op ∈ MemOp.ofEvents g fn pos es, op.g = g := fun op hop => by
  obtain ⟨e, he, rfl⟩ := Go.Conc.mem_ofEvents hop
  rfl
theorem wz8 {hp : Hq} {es : Array Event} (h : ∀ e ∈ es, EvIn p hp e) (g fn : Nat) (pos : String) : ∀ op ∈ MemOp.ofEvents g fn pos es, ∀ x, op.act.touch? = some x → x.loc.isMemory = true → ∀ k, blk x.loc = some k → (x.write = false ∧ RdT p k) ∨ Has hp k := fun op hop x hx hm k hk => by
  obtain ⟨e, he, rfl⟩ := Go.Conc.mem_ofEvents hop; exact (h e he).2 x hx hm k hk
theorem qq5 {gs : Array Goroutine} {φ : Goroutine → Goroutine} (h : ∀ (i : Nat) (g : Goroutine), gs[i]? = some g → φ g = g) : gs.map φ = gs := by
  apply Array.ext_getElem?
  intro i; rw [Array.getElem?_map]
  cases hi : gs[i]? with
  | none => rfl
  | some g => rw [Option.map_some, h i g hi]
theorem InvP.mapped (h : InvP p Goal m τ ρ M t gs w s r f cl) {w' : World} {hp hp' : Hq} (ht : Trn w w' hp hp') {g : Nat} (hown : ∀ k, Has hp k → ownOf M ρ g k) (a a' : Goroutine) : gs.map (woken p.P a a' w') = gs := by
  have notRd : ∀ k, RdT p k → ¬ Has hp k := fun k hr hk => h.RdD (hown k hk) hr; refine qq5 fun i x hx => h.still (ht.keep _ h.ltF (notRd _ ⟨h.ne.2.1, h.ne.2.2.2.1⟩)) ?_ a a' hx; obtain ⟨tm, hc⟩ := h.chL; exact ⟨_, _, _, _, _, (ht.keep _ h.ltL (notRd _ ⟨h.ne.2.2.1, h.ne.2.2.2.2⟩)).trans hc⟩
theorem InvP.step_i (h : InvP p Goal m τ ρ M t gs w s r f cl) {i : Nat} (hpos : 0 < i) {g : Goroutine} (hi : gs[i]? = some g) (hrun : g.status = .running) : Nx p Goal m τ (Wt p gs.size ρ M) t (runT p.P (crowd gs w sl) i) := by
  have hilt : i < gs.size := (Array.getElem?_eq_some_iff.1 hi).1; have hr := h.roles i g hpos hi; have hheld := h.held i hpos hilt
  -- a step of its own
  have go : ∀ (fr : Frame) (cs : List Frame) (hp : Hq) (R' : Role) (fr' : Frame) (cs' : List Frame) (w' : World) (es : Array Event), g = G fr cs → (ρ i).hp = hp → (ρ i).tag ≠ .quit → R'.tag = (ρ i).tag → R'.wt < (ρ i).wt → stepG p.P false (G fr cs) w = .go (G fr' cs') w' es → (∀ e ∈ es, EvIn p hp e) → Trn w w' hp R'.hp → RoleOK p 0 (G fr' cs') R' →
      Nx p Goal m τ (Wt p gs.size ρ M) t (runT p.P (crowd gs w sl) i) := by
    intro fr cs hp R' fr' cs' w' es hg hhp hnq htag hwt hst hev ht hok; subst hg hhp; have hrunT := runT_crowd_go (P := p.P) (sl := sl) hi (show stepG p.P (i == 0) (G fr cs) w = _ by rw [gz hpos]; exact hst); rw [h.mapped ht (g := i) (fun k hk => .inr ⟨hpos, hk⟩)] at hrunT; refine ⟨upd ρ i R', M, _, _, w', sl, s, r, f, cl, hrunT, h.move hpos hi R' htag hnq ht (pj9 i _ _ es) (mz6 hev i _ _) (wz8 hev i _ _) hok, ?_⟩; have := pE (p := p) (ρ := ρ) (M := M) hpos hilt R'; rw [Array.size_setIfInBounds]
    omega
  cases hρ : ρ i with
  | quit n =>
    rw [hρ] at hr
    cases n with
    | zero => rw [hr.1] at hrun; cases hrun
    | succ n =>
      rcases hr with ⟨hf, _⟩ | ⟨_, g', es, hm, hstp, hq'⟩
      · rw [hf] at hrun; cases hrun
      have hrunT := runT_crowd_go (P := p.P) (sl := sl) hi (show stepG p.P (i == 0) g w = _ by rw [gz hpos]; exact hstp w); have hmap : gs.map (woken p.P g g' w) = gs := qq5 fun k x hx => h.still rfl (by obtain ⟨tm, hc⟩ := h.chL; exact ⟨_, _, _, _, _, hc⟩) g g' hx; rw [hmap] at hrunT; refine ⟨upd ρ i (.quit n), M, _, _, w, sl, s, r, f, cl, hrunT, h.slip hpos hi hρ (pj9 i _ _ es) (fun op hop => ?_) ?_, ?_⟩
      · obtain ⟨e, he, rfl⟩ := Go.Conc.mem_ofEvents hop
        exact Go.Conc.touch_mute (hm e he)
      · rw [Deaf_own]; exact hq'
      have := pE (p := p) (ρ := ρ) (M := M) hpos hilt (.quit n); rw [hρ] at this; simp only [Role.wt] at this; rw [Array.size_setIfInBounds]
      omega
  | s1 B j fr cs hp =>
    rw [hρ] at hr hheld; obtain ⟨hd, rfl, hf⟩ := hr
    cases B with
    | zero => exact hf.elim
    | succ B =>
      rcases hf w h.env hheld with ⟨fr', cs', w', es, hp', hst, hev, ht, hf'⟩ | ⟨zz, hst, hf'⟩
      · exact go fr cs hp (.s1 B j fr' cs' hp') fr' cs' w' es rfl (by rw [hρ]; rfl) (by rw [hρ]; simp [Role.tag]) (by rw [hρ]; rfl) (by rw [hρ]; simp only [Role.wt]; omega) hst hev ht ⟨rfl, rfl, hf'⟩
      exact case_s1 h hpos hi hρ hst hf'
  | s2 B fr cs hp =>
    rw [hρ] at hr hheld; obtain ⟨hd, rfl, hf⟩ := hr
    cases B with
    | zero => exact hf.elim
    | succ B =>
      rcases hf w h.env hheld with ⟨fr', cs', w', es, hp', hst, hev, ht, hf'⟩ | ⟨zz, hst, hf'⟩
      · exact go fr cs hp (.s2 B fr' cs' hp') fr' cs' w' es rfl (by rw [hρ]; rfl) (by rw [hρ]; simp [Role.tag]) (by rw [hρ]; rfl) (by rw [hρ]; simp only [Role.wt]; omega) hst hev ht ⟨rfl, rfl, hf'⟩
      exact case_s2 h hpos hi hρ hst hf'
  | rc B k fr cs hp =>
    rw [hρ] at hr hheld; obtain ⟨hd, rfl, hf⟩ := hr
    cases B with
    | zero => exact hf.elim
    | succ B =>
      rcases hf w h.env hheld with ⟨fr', cs', w', es, hp', hst, hev, ht, hf'⟩ | ⟨zz, hst, hf'⟩
      · exact go fr cs hp (.rc B k fr' cs' hp') fr' cs' w' es rfl (by rw [hρ]; rfl) (by rw [hρ]; simp [Role.tag]) (by rw [hρ]; rfl) (by rw [hρ]; simp only [Role.wt]; omega) hst hev ht ⟨rfl, rfl, hf'⟩
      exact case_rc h hpos hi hρ hst hf'
  | cz B fr cs hp =>
    rw [hρ] at hr hheld; obtain ⟨hd, rfl, hf⟩ := hr
    cases B with
    | zero => exact hf.elim
    | succ B =>
      rcases hf w h.env hheld with ⟨fr', cs', w', es, hp', hst, hev, ht, hf'⟩ | ⟨hwk, fr', cs', hst, hf'⟩
      · exact go fr cs hp (.cz B fr' cs' hp') fr' cs' w' es rfl (by rw [hρ]; rfl) (by rw [hρ]; simp [Role.tag]) (by rw [hρ]; rfl) (by rw [hρ]; simp only [Role.wt]; omega) hst hev ht ⟨rfl, rfl, hf'⟩
      exact case_cz h hpos hi hρ hwk hst hf'
  | pr B k fr cs hp => rw [hρ] at hr; obtain ⟨_, ⟨zz, rfl⟩, _⟩ := hr; cases hrun
  | p1 B k fr cs hp => rw [hρ] at hr; obtain ⟨_, ⟨zz, rfl⟩, _⟩ := hr; cases hrun
theorem InvP.step_0 (h : InvP p Goal m τ ρ M t gs w s r f cl) {g : Goroutine} (hi : gs[0]? = some g) (hrun : g.status = .running) : Nx p Goal m τ (Wt p gs.size ρ M) t (runT p.P (crowd gs w sl) 0) ∨ Fin p Goal t (runT p.P (crowd gs w sl) 0) := by
  obtain ⟨g0, h0, hm⟩ := h.main; rw [hi] at h0; obtain rfl := Option.some.inj h0
  cases M with
  | park B R fr cs hp => obtain ⟨rfl, _⟩ := hm; cases hrun
  | run B ms fr cs hp =>
    obtain ⟨hlk, hf⟩ := hm
    cases B with
    | zero => exact hf.elim
    | succ B =>
      have hf0 := hf
      rcases hf w h.env h.heldM with ⟨fr', cs', w', es, hp', hst, hev, ht, hf'⟩ | hc
      · refine .inl ?_
        have hrunT := runT_crowd_go (P := p.P) (sl := sl) hi (show stepG p.P (0 == 0) g w = _ from (hlk.step w).trans hst); rw [h.mapped ht (g := 0) (fun k hk => .inl ⟨rfl, hk⟩)] at hrunT; have e1 := hlk.2.1; refine ⟨ρ, .run B ms fr' cs' hp', _, _, w', sl, s, r, f, cl, hrunT, h.move0 (.run B ms fr' cs' hp') rfl rfl ht (pj9 0 _ _ es) (mz6 hev 0 _ _) (wz8 hev 0 _ _) ⟨⟨rfl, rfl, rfl, rfl⟩, hf'⟩, ?_⟩; simp only [Wt, MR.wt, MR.st, Array.size_setIfInBounds]
        omega
      cases ms with
      | sp j =>
        obtain ⟨fr', cs', fc, h1, h2, hst, a1, a2, a3, a4, a5⟩ := hc; exact .inl (case_sp h hi ((hlk.step w).trans hst) a1 a2 a3 a4 a5)
      | ga R =>
        obtain ⟨hst, hR, hend⟩ := hc; exact case_ga h hi ((hlk.step w).trans hst) hf0 hR hend
theorem InvP.step (h : InvP p Goal m τ ρ M t gs w s r f cl) : Nx p Goal m τ (Wt p gs.size ρ M) t (stepT p.P (crowd gs w sl)) ∨ Fin p Goal t (stepT p.P (crowd gs w sl)) := by
  obtain ⟨i, g, d, sl', hi, hrun, hst⟩ := crowd_pick (P := p.P) (w := w) (sl := sl) h.awake h.runs; rw [hst]
  rcases Nat.eq_zero_or_pos i with rfl | hpos
  · exact (h.at d).step_0 hi hrun
  exact .inl ((h.at d).step_i hpos hi hrun)
theorem InvP.run : ∀ (n : Nat) {ρ : Nat → Role} {M : MR} {t : Trace} {gs : Array Goroutine} {w : World} {s r f : Nat} {cl : Bool} {sl : Option (Nat × Nat)}, InvP p Goal m τ ρ M t gs w s r f cl → Wt p gs.size ρ M ≤ n →
    ∃ (N : Nat) (gs' : Array Goroutine) (g' : Goroutine) (w' : World) (sl' : Option (Nat × Nat)) (t' : Trace) (q' : Nat → Nat) (B' : Nat),
      runNT p.P N (crowd gs w sl) t = (.next (crowd gs' w' sl'), t') ∧ gs'[0]? = some g' ∧ Leavers p.P t' gs' q' ∧ Past noS B' t' ∧ Goal g' w' := by
  intro n
  induction n with
  | zero =>
    intro ρ M t gs w s r f cl sl h hn
    exfalso
    have : 0 < M.wt := by cases M <;> simp only [MR.wt] <;> omega
    unfold Wt at hn
    omega
  | succ n ih =>
    intro ρ M t gs w s r f cl sl h hn
    rcases h.step (sl := sl) with ⟨ρ', M', u, gs', w', sl', s', r', f', cl', hs, h', hlt⟩ | ⟨gs', g', w', sl', u, q', B', hs, h0, hL, hP, hco⟩
    · obtain ⟨N, gs2, g2, w2, sl2, t2, q2, B2, r2, hh⟩ := ih (sl := sl') h' (by omega)
      exact ⟨N + 1, gs2, g2, w2, sl2, t2, q2, B2, by simp only [runNT, hs]; exact r2, hh⟩
    obtain ⟨N, gs2, g2, w2, sl2, t2, q2, B2, r2, hh⟩ := hco w'.drawn gs' sl' _ q' B' h0 hL hP; exact ⟨N + 1, gs2, g2, w2, sl2, t2, q2, B2, by simp only [runNT, hs]; exact r2, hh⟩
theorem phase (hN : p.F ≠ p.Lf ∧ p.F < p.W.heap.size ∧ p.Lf < p.W.heap.size ∧ p.F ≠ p.o ∧ p.Lf ≠ p.o)
    (hF : p.W.heap[p.F]? = some (.chan 0 #[] false 0 0 false)) (hL : p.W.heap[p.Lf]? = some (.chan p.N #[] false 0 0 false))
    {B : Nat} {fr : Frame} {cs : List Frame} {hp : Hq} (hf : FolM p Goal B (.sp 0) fr cs hp) (hheld : Held hp p.W) (hown : ∀ q ∈ hp, q.1 = p.o) : Co p.P (G fr cs) p.W Goal := by
  intro d gs sl t q B0 h0 hLv hP; have henv : Sur p p.W := ⟨rfl, rfl, rfl, Nat.le_refl _, fun k _ _ _ _ => rfl⟩
  let ρ : Nat → Role := fun i => if i < gs.size then .quit (q i) else .s2 0 default [] []
  have hm : 0 < gs.size := (Array.getElem?_eq_some_iff.1 h0).1; have ρlt : ∀ i, i < gs.size → ρ i = .quit (q i) := fun i hi => if_pos hi; have ρge : ∀ i, gs.size ≤ i → ρ i = .s2 0 default [] [] := fun i hi => if_neg (by omega)
  have ρhp : ∀ i, (ρ i).hp = [] := fun i => by
    rcases Nat.lt_or_ge i gs.size with h | h
    · rw [ρlt i h]; rfl
    rw [ρge i h]; rfl
  have own0 : ∀ g k, ownOf (.run B (.sp 0) fr cs hp) ρ g k → g = 0 ∧ k = p.o ∧ Has hp k := by
    rintro g k (⟨rfl, hk⟩ | ⟨_, hk⟩)
    · obtain ⟨q, hq, rfl⟩ := hk
      exact ⟨rfl, hown q hq, q, hq, rfl⟩
    rw [ρhp] at hk; obtain ⟨q, hq, _⟩ := hk; cases hq
  have live0 : ∀ g, liveOf gs.size gs.size ρ g → g = 0 := by
    rintro g (h | ⟨h1, h2, _⟩)
    · exact h
    omega
  have inv : InvP p Goal gs.size t.size ρ (.run B (.sp 0) fr cs hp) t gs (p.W.at d) 0 0 0 false := by
    refine InvP.at (w := p.W) ?_ d
    refine { cmb := ⟨hm, fun i h1 h2 => by simp only [ρlt i h2, Role.tag], fun i h => by simp only [ρge i (by simpa [nsp, MR.st] using h), Role.tag, Tag.isQ], fun j _ h => by simp [nsp, MR.st] at h, fun h => by simp [nsp, MR.st] at h, fun _ => rfl, fun _ _ _ => rfl, fun j e => ?_, fun R e => (by cases e), Nat.le_refl _, ?_, fun e => (by cases e)⟩, size := rfl, main := ⟨_, h0, ⟨rfl, rfl, rfl, rfl⟩, hf⟩, roles := ?_, chF := ⟨false, hF⟩, chL := ⟨false, by simpa using hL⟩, ne := hN, env := henv, heldM := hheld
             held := fun i _ _ => (by rw [ρhp]; intro q hq; cases hq), far := fun i _ => ρhp i, d1 := fun g g' k h1 h2 => (own0 g k h1).1.trans (own0 g' k h2).1.symm, ge := fun g k h => .inr ⟨(own0 g k h).1, (own0 g k h).2.1⟩, ti := ?_, kn := ?_, seen := ⟨B0, hP.seen⟩, above := hLv.above }
    · obtain rfl : 0 = j := by cases e; rfl
      exact ⟨Nat.zero_le _, fun i hi => absurd hi (Nat.not_lt_zero i)⟩
    · have : ∀ n, sumTo n (fun j => ((ρ (gs.size + j)).tag).isQ) = 0 := by
        intro n
        induction n with
        | zero => rfl
        | succ n ih => simp only [sumTo, ih, ρge (gs.size + n) (by omega)]; rfl
      exact this _
    · intro i g hi hg
      rw [ρlt i (Array.getElem?_eq_some_iff.1 hg).1]; exact hLv.old i g hi hg
    · refine ⟨Nat.le_refl _, hP.clean, fun g hg i a _ ha hm => ?_, fun g k _ i a hi ha _ => ?_, fun i a k hi ha => ?_, fun i a k hi ha => ?_, fun g hg => by rw [live0 g hg]; exact hP.hears⟩
      · rw [live0 g hg]
        rcases hP.known i a ha hm with h1 | ⟨h1, _⟩
        · exact h1
        exact h1.elim
      all_goals
        obtain ⟨x, hx, _⟩ := touch_of ha; have := lt_size_of_getElem? hx
        omega
    intro i a ha hm
    rcases hP.known i a ha hm with ⟨q, z, h1, h2, h3⟩ | ⟨h1, _⟩
    · exact ⟨q, h3, z, h1, .inl (.inl h2)⟩
    exact h1.elim
  exact inv.run _ (Nat.le_refl _)
end
end Go.W
end
section
namespace Go.W
open Go Go.Conc
set_option maxRecDepth 4000
def Dry {α : Type} : Sem α → Prop
  | .pure _ => True
  | .load _ _ _ => False
  | .store _ _ _ _ => False
  | .new _ k => ∀ r, Dry (k r)
  | .shape _ k => ∀ s, Dry (k s)
  | .freeze _ _ k => Dry k
  | .frozen _ k => ∀ b, Dry (k b)
  | .getObj _ _ => False
  | .setObj _ _ _ => False
  | .choose _ k => ∀ n, Dry (k n)
  | .sys _ _ => False
  | .program k => ∀ p, Dry (k p)
  | .mark _ _ => False
  | .halt _ => True
theorem wz9 {α : Type} {P : Program} (s : Sem α) : Dry s → ∀ (w : World) (es : Array Event), (s.runT P w es).2 = es := by
  induction s with
  | pure a => intro _ w es; rfl
  | load m a k ih => intro h; exact h.elim
  | store m a v k ih => intro h; exact h.elim
  | new o k ih => intro hq w es; exact ih _ (hq _) _ _
  | shape r k ih => intro hq w es; exact ih _ (hq _) _ _
  | freeze a n k ih => intro hq w es; exact ih hq _ _
  | frozen a k ih => intro hq w es; exact ih _ (hq _) _ _
  | getObj r k ih => intro h; exact h.elim
  | setObj r o k ih => intro h; exact h.elim
  | choose q k ih =>
    intro hq w es; simp only [Sem.runT]
    split
    · exact ih _ (hq _) _ _
    exact ih _ (hq _) _ _
  | sys c k ih => intro h; exact h.elim
  | program k ih => intro hq w es; exact ih _ (hq _) _ _
  | mark m k ih => intro h; exact h.elim
  | halt h => intro _ w es; rfl
theorem rz7 {α : Type} {P : Program} {s : Sem α} (h : Dry s) (w : World) (es : Array Event) : s.events P w es = es := wz9 s h w es
theorem gj4 {α β : Type} {s : Sem α} {f : α → Sem β} (hs : Dry s) (hf : ∀ a, Dry (f a)) : Dry (s >>= f) := by
  show Dry (s.bind f)
  induction s with
  | pure a => exact hf a
  | load m a k ih => exact hs.elim
  | store m a v k ih => exact hs.elim
  | new o k ih => exact fun v => ih v (hs v)
  | shape r k ih => exact fun v => ih v (hs v)
  | freeze a n k ih => exact ih hs
  | frozen a k ih => exact fun v => ih v (hs v)
  | getObj r k ih => exact hs.elim
  | setObj r o k ih => exact hs.elim
  | choose q k ih => exact fun v => ih v (hs v)
  | sys c k ih => exact hs.elim
  | program k ih => exact fun v => ih v (hs v)
  | mark m k ih => exact hs.elim
  | halt h => trivial
theorem dry_map {α β : Type} {f : α → β} {s : Sem α} (h : Dry s) : Dry (f <$> s) := gj4 h fun _ => trivial
theorem dry_ite {α : Type} {c : Prop} [Decidable c] {s t : Sem α} (hs : Dry s) (ht : Dry t) : Dry (if c then s else t) := by
  split
  · exact hs
  exact ht
theorem lq3 {α β : Type} {f : α → β → Sem (ForInStep β)} (hf : ∀ a b, Dry (f a b)) : ∀ (l : List α) (b : β), Dry (forIn l b f)
  | [], b => by rw [List.forIn_nil]; trivial
  | a :: l, b => by
    rw [List.forIn_cons]; refine gj4 (hf a b) fun r => ?_
    cases r with
    | done b => trivial
    | yield b => exact lq3 hf l b
theorem xj0 {α β : Type} {f : α → β → Sem (ForInStep β)} (hf : ∀ a b, Dry (f a b)) (l : Array α) (b : β) : Dry (forIn l b f) := by
  rw [← Array.forIn_toList]; exact lq3 hf _ _
class DC {α : Type} (s : Sem α) : Prop where
  out : Dry s
theorem cG {α : Type} {s : Sem α} (h : Dry s := by repeat' (first | exact tK | assumption | exact fun _ => trivial | exact DC.out | refine dry_ite ?_ ?_ | refine gj4 ?_ fun _ => ?_ | refine dry_map ?_ | refine lq3 (fun _ _ => ?_) _ _ | refine xj0 (fun _ _ => ?_) _ _ | (intro _; done) | split | (show Dry _; dsimp only))) : Dry s := h
instance {α : Type} (s : String) : DC (stuck s : Sem α) := ⟨tK⟩
instance {α : Type} (s : Unsupported) : DC (unsupported s : Sem α) := ⟨tK⟩
instance {α : Type} (v : Value) : DC (goPanic v : Sem α) := ⟨tK⟩
instance : DC program := ⟨fun _ => trivial⟩
instance (o : Obj) : DC (newObj o) := ⟨fun _ => trivial⟩
instance (t : TypeId) : DC (typeInfo t) := ⟨by unfold typeInfo; exact cG⟩
instance (t : TypeId) : DC (underlying t) := ⟨by unfold underlying; exact cG⟩
instance (t : TypeId) : DC (sizeOf t) := ⟨by unfold sizeOf; exact cG⟩
instance (t : TypeId) : DC (isAgg t) := ⟨by unfold isAgg; exact cG⟩
instance (t : TypeId) : DC (zeroValue t) := ⟨by unfold zeroValue; exact cG⟩
instance (r : Nat) : DC (shape r) := ⟨fun _ => trivial⟩
instance (e : TypeId) (cs : Array Value) : DC (newRow e cs) := ⟨by unfold newRow; exact cG⟩
instance (e : TypeId) (v : Value) : DC (newVar e v) := ⟨by unfold newVar; exact cG⟩
instance (t : TypeId) : DC (elemOf t) := ⟨by unfold elemOf; exact cG⟩
instance (q : Question) : DC (choose q) := ⟨fun _ => trivial⟩
instance {α : Type} (e : RuntimeError) : DC (runtimePanic e : Sem α) := ⟨by
  unfold runtimePanic; refine gj4 (fun _ => trivial) fun p => ?_
  cases e <;> exact cG⟩
instance (v : Value) : DC (asIntOf v) := ⟨by unfold asIntOf; exact cG⟩
instance (v : Value) : DC (asBool v) := ⟨by unfold asBool; exact cG⟩
instance (v : Value) : DC (asAddr v) := ⟨by unfold asAddr; exact cG⟩
instance {α : Type} (k : IntKind) (x y : Int) (c : BoundsCode) : DC (boundsPanic k x y c : Sem α) := ⟨by unfold boundsPanic; exact cG⟩
instance (v : Value) : DC (Instr.sureAddr v) := ⟨by unfold Instr.sureAddr; exact cG⟩
instance (t : TypeId) (v x : Value) : DC (Instr.indexAt t v x) := ⟨by unfold Instr.indexAt; exact cG⟩
instance (f : Fn) (x y : Array Value) : DC (Instr.makeFunc f x y) := ⟨by unfold Instr.makeFunc; exact cG⟩
/-! ### What may stand for one of them, or for goroutine 0 -/
structure TX where
  p : Ph
  main : Bool
  T : Nat → Frame → List Frame → Hq → Prop
  lift : ∀ B fr cs hp, (∀ w, Sur p w → Held hp w → ∃ fr' cs' w' es hp', stepG p.P main (G fr cs) w = .go (G fr' cs') w' es ∧ (∀ e ∈ es, EvIn p hp e) ∧ Trn w w' hp hp' ∧ T B fr' cs' hp') → T (B + 1) fr cs hp
  mono : ∀ B fr cs hp, T B fr cs hp → T (B + 1) fr cs hp
theorem pW {P : Program} : ∀ {n d : Nat} {g : Goroutine}, QuitsD P n d g → QuitsD P (n + 1) d g
  | 0, d, g, h => .inl h
  | n + 1, d, g, h => h.elim .inl fun ⟨h1, g', es, h2, h3, h4⟩ => .inr ⟨h1, g', es, h2, h3, pW h4⟩
theorem ix4 {P : Program} {n m d : Nat} {g : Goroutine} (h : QuitsD P n d g) (hm : n ≤ m) : QuitsD P m d g := by
  induction hm with
  | refl => exact h
  | step _ ih => exact pW ih
theorem gj2 {p : Ph} : ∀ {B : Nat} {pr : Pr} {fr : Frame} {cs : List Frame} {hp : Hq}, Fol p B pr fr cs hp → Fol p (B + 1) pr fr cs hp
  | 0, _, _, _, _, h => h.elim
  | B + 1, pr, fr, cs, hp, h => fun w he hh => by
    rcases h w he hh with ⟨fr', cs', w', es, hp', h1, h2, h3, h4⟩ | hc
    · exact .inl ⟨fr', cs', w', es, hp', h1, h2, h3, gj2 h4⟩
    refine .inr ?_
    cases pr with
    | send1 j => obtain ⟨zz, h1, h2⟩ := hc; exact ⟨zz, h1, gj2 h2⟩
    | send2 => obtain ⟨zz, h1, h2⟩ := hc; exact ⟨zz, h1, pW h2⟩
    | recv k => obtain ⟨zz, h1, h2⟩ := hc; exact ⟨zz, h1, gj2 h2⟩
    | close => obtain ⟨h0, fr', cs', h1, h2⟩ := hc; exact ⟨h0, fr', cs', h1, pW h2⟩
theorem tL {p : Ph} {Goal : Goroutine → World → Prop} : ∀ {B : Nat} {ms : Ms} {fr : Frame} {cs : List Frame} {hp : Hq}, FolM p Goal B ms fr cs hp → FolM p Goal (B + 1) ms fr cs hp
  | 0, _, _, _, _, h => h.elim
  | B + 1, ms, fr, cs, hp, h => fun w he hh => by
    rcases h w he hh with ⟨fr', cs', w', es, hp', h1, h2, h3, h4⟩ | hc
    · exact .inl ⟨fr', cs', w', es, hp', h1, h2, h3, tL h4⟩
    refine .inr ?_
    cases ms with
    | sp j =>
      obtain ⟨fr', cs', fc, h1, h2, a1, a2, a3, a4, a5, a6⟩ := hc; exact ⟨fr', cs', fc, h1, h2, a1, a2, a3, a4, a5, a6.imp (fun ⟨b1, b2, b3⟩ => ⟨b1, b2, tL b3⟩) fun ⟨b1, b2, b3⟩ => ⟨b1, b2, tL b3⟩⟩
    | ga R => obtain ⟨h1, h2, h3⟩ := hc; exact ⟨h1, fun j hj => tL (h2 j hj), h3⟩
def TX.fol (p : Ph) (pr : Pr) : TX := ⟨p, false, fun B fr cs hp => Fol p B pr fr cs hp, fun _ _ _ _ h w he hh => .inl (h w he hh), fun _ _ _ _ => gj2⟩
def TX.folM (p : Ph) (Goal : Goroutine → World → Prop) (ms : Ms) : TX := ⟨p, true, fun B fr cs hp => FolM p Goal B ms fr cs hp, fun _ _ _ _ h w he hh => .inl (h w he hh), fun _ _ _ _ => tL⟩
def TC (X : TX) (c : Cx) (b : Frame) (cs : List Frame) (n : Nat) (ks : List Item) (fr : Fr) (hp : Hq) : Prop := ∀ a, Ok c a fr → X.T n (b.at a ks) cs hp
section
variable {X : TX} {c : Cx} {b : Frame} {cs : List Frame} {n : Nat} {k : List Item} {fr : Fr} {hp : Hq} {ops : Array Oper} {i : Nat} {rest : List Nat}
variable {d : Tmp} {ty : TypeId} {pos : String} {af : Array Edge}
theorem TX.more (X : TX) {B B' : Nat} {fr : Frame} {cs : List Frame} {hp : Hq} (h : X.T B fr cs hp) (hB : B ≤ B') : X.T B' fr cs hp := by
  induction hB with
  | refl => exact h
  | step _ ih => exact X.mono _ _ _ _ ih
theorem gJ {m : Nat} (hm : m ≤ n) (h : TC X c b cs m k fr hp) : TC X c b cs n k fr hp := fun a ha => X.more (h a ha) hm
theorem D8 {fr' : Fr} (hs : FrSub fr fr') (h : TC X c b cs n k fr' hp) : TC X c b cs n k fr hp := fun a ha => h a (ha.sub hs)
theorem bz5 {w : World} (h : Held hp w) : Trn w w hp hp := ⟨rfl, rfl, rfl, Nat.le_refl _, fun _ _ _ => rfl, h, fun q hq => .inl ⟨q, hq, rfl⟩⟩
theorem px9 {w : World} {hp' : Hq} (h : Held hp w) (hs : ∀ q ∈ hp', q ∈ hp) : Trn w w hp hp' := ⟨rfl, rfl, rfl, Nat.le_refl _, fun _ _ _ => rfl, fun q hq => h q (hs q hq), fun q hq => .inl ⟨q, hs q hq, rfl⟩⟩
theorem vq0 {B : Nat} {f f' : Frame} {cs' : List Frame} (h : ∀ w, stepG X.p.P X.main (G f cs) w = .go (G f' cs') w) (k : X.T B f' cs' hp) : X.T (B + 1) f cs hp :=
  X.lift _ _ _ _ fun w he hh => ⟨f', cs', w, #[], hp, h w, by simp, bz5 hh, k⟩
theorem tX {k' : List Item} (h : ∀ a w, stepG X.p.P X.main (G (b.at a k) cs) w = .go (G (b.at a k') cs) w) (kk : TC X c b cs n k' fr hp) : TC X c b cs (n + 1) k fr hp := fun a ha => vq0 (fun w => h a w) (kk a ha)
theorem P3 {x y : Code} (kk : TC X c b cs n (.code x :: .code y :: k) fr hp) : TC X c b cs (n + 1) (.code (.seq x y) :: k) fr hp := tX (fun _ _ => stepG_seq) kk
theorem nq7 (kk : TC X c b cs n k fr hp) : TC X c b cs (n + 1) (.code .skip :: k) fr hp := tX (fun _ _ => stepG_skip) kk
theorem rZ {id : Nat} {x : Code} (kk : TC X c b cs n (.code x :: .inBlock id :: k) fr hp) : TC X c b cs (n + 1) (.code (.block id x) :: k) fr hp := tX (fun _ _ => stepG_block) kk
theorem ax0 {id : Nat} (kk : TC X c b cs n k fr hp) : TC X c b cs (n + 1) (.inBlock id :: k) fr hp := tX (fun _ _ => stepG_inBlock) kk
theorem nq8 {x : Code} (kk : TC X c b cs n (.code x :: .inLoop x :: k) fr hp) : TC X c b cs (n + 1) (.code (.loop x) :: k) fr hp := tX (fun _ _ => stepG_loop) kk
theorem mj9 {x : Code} (kk : TC X c b cs n (.code x :: .inLoop x :: k) fr hp) : TC X c b cs (n + 1) (.inLoop x :: k) fr hp := tX (fun _ _ => stepG_inLoop) kk
theorem sq5 {id : Nat} (k' : List Item) (h : exitTo id k = some k') (kk : TC X c b cs n k' fr hp) : TC X c b cs (n + 1) (.code (.exit id) :: k) fr hp := tX (fun _ _ => stepG_exit h) kk
theorem cq6 {x : Operand} {y z : Code} (t : Bool) (hx : ev fr x = some (.bool t)) (kk : TC X c b cs n (.code (if t then y else z) :: k) fr hp) : TC X c b cs (n + 1) (.code (.cond x y z) :: k) fr hp :=
  fun a ha => vq0 (fun _ => stepG_cond (ha.ev hx)) (kk a ha)
theorem H4 {id : Nat} {l : List Oper} (kk : TC X c b cs n (.inRegion l.toArray (List.range l.length) :: k) fr hp) : TC X c b cs (n + 1) (.code (.region id l.toArray false) :: k) fr hp := tX (fun _ _ => stepG_region) (by simpa using kk)
theorem U6 (kk : TC X c b cs n k fr hp) : TC X c b cs (n + 1) (.inRegion ops [] :: k) fr hp := tX (fun _ _ => stepG_region_end) kk
/-! ### Operations -/
theorem ax9 {P : Program} {fn : FuncId} {a : Act} {o : Oper} {w : World} {e : Event} (h : e ∈ listed P fn a o w) : e ∈ (execOp a.eval o).events P w #[] := by
  unfold listed at h; rw [seen_def] at h
  rcases seen_fold_sub _ _ _ _ _ h with h1 | h1
  · simp at h1
  simpa using h1
def EvsIn (X : TX) (hp : Hq) (a : Act) (o : Oper) (w : World) : Prop := ∀ e ∈ (execOp a.eval o).events X.p.P w #[], EvIn X.p hp e
theorem W7 {a : Act} {o : Oper} {w : World} (h : (execOp a.eval o).events X.p.P w #[] = #[]) : EvsIn X hp a o w := fun e he => by rw [h] at he; simp at he
theorem tc_op {o : Oper} (ho : ops[i]? = some o) (hg : o.guard = none) (hk : b.kind ≠ .early)
    (h : ∀ a, Ok c a fr → ∀ w, Sur X.p w → Held hp w → ∃ v w' hp', (execOp a.eval o).run X.p.P w = .ok (.value v) w' ∧ EvsIn X hp a o w ∧ Trn w w' hp hp' ∧ X.T n (b.at (a.put o.dst v) (.inRegion ops rest :: k)) cs hp') :
    TC X c b cs (n + 1) (.inRegion ops (i :: rest) :: k) fr hp := fun a ha => X.lift _ _ _ _ fun w he hh => by
  obtain ⟨v, w', hp', h1, h2, h3, h4⟩ := h a ha w he hh; exact ⟨_, _, w', _, hp', stepG_value ho (by simp [Region.wanted, hg]) hk h1, fun e he' => h2 e (ax9 he'), h3, h4⟩
theorem vj8 {o : Oper} (ho : ops[i]? = some o) (hg : o.guard = none) (hd : o.dst = none) (hk : b.kind ≠ .early)
    (h : ∀ a, Ok c a fr → ∀ w, Sur X.p w → Held hp w → ∃ w' hp', (execOp a.eval o).run X.p.P w = .ok .skip w' ∧ EvsIn X hp a o w ∧ Trn w w' hp hp' ∧ X.T n (b.at a (.inRegion ops rest :: k)) cs hp') :
    TC X c b cs (n + 1) (.inRegion ops (i :: rest) :: k) fr hp := fun a ha => X.lift _ _ _ _ fun w he hh => by
  obtain ⟨w', hp', h1, h2, h3, h4⟩ := h a ha w he hh; refine ⟨_, _, w', _, hp', stepG_none ho (by simp [Region.wanted, hg]) hk h1, fun e he' => h2 e (ax9 he'), h3, ?_⟩; rw [hd]; exact h4
theorem mH {o : Oper} (v : Value) (ho : ops[i]? = some o) (hdst : o.dst = some d) (hg : o.guard = none) (hd : Nat.blt d c.n = true) (hk : b.kind ≠ .early)
    (hrun : ∀ a w, Ok c a fr → Sur X.p w → Held hp w → (execOp a.eval o).run X.p.P w = .ok (.value v) w ∧ EvsIn X hp a o w)
    (kk : TC X c b cs n (.inRegion ops rest :: k) ((d, v) :: fr) hp) : TC X c b cs (n + 1) (.inRegion ops (i :: rest) :: k) fr hp :=
  tc_op ho hg hk fun a ha w he hh => ⟨v, w, hp, (hrun a w ha he hh).1, (hrun a w ha he hh).2, bz5 hh, by rw [hdst]; exact kk _ (ha.put (by simpa using hd) v)⟩
theorem yS {x : Operand} {v : Value} (ho : ops[i]? = some ⟨some d, .move x, ty, pos, af, none⟩) (hd : Nat.blt d c.n = true) (hk : b.kind ≠ .early) (hx : ev fr x = some v)
    (kk : TC X c b cs n (.inRegion ops rest :: k) ((d, v) :: fr) hp) : TC X c b cs (n + 1) (.inRegion ops (i :: rest) :: k) fr hp :=
  mH v ho rfl rfl hd hk (fun a w ha _ _ => ⟨by simp only [execOp, ha.ev hx]; rfl, W7 rfl⟩) kk
theorem lR {x : Operand} {v : Value} (ho : ops[i]? = some ⟨some d, .assign x, ty, pos, af, none⟩) (hd : Nat.blt d c.n = true) (hk : b.kind ≠ .early) (hx : ev fr x = some v)
    (kk : TC X c b cs n (.inRegion ops rest :: k) ((d, v) :: fr) hp) : TC X c b cs (n + 1) (.inRegion ops (i :: rest) :: k) fr hp :=
  mH v ho rfl rfl hd hk (fun a w ha _ _ => ⟨by simp only [execOp, ha.ev hx]; rfl, W7 rfl⟩) kk
theorem kq2 {x : Operand} {vs : Array Value} {j : Nat} {v : Value} (ho : ops[i]? = some ⟨some d, .extract x j, ty, pos, af, none⟩) (hd : Nat.blt d c.n = true) (hk : b.kind ≠ .early) (hx : ev fr x = some (.tuple vs)) (hv : vs[j]? = some v)
    (kk : TC X c b cs n (.inRegion ops rest :: k) ((d, v) :: fr) hp) : TC X c b cs (n + 1) (.inRegion ops (i :: rest) :: k) fr hp :=
  mH v ho rfl rfl hd hk (fun a w ha _ _ => ⟨by simp [execOp, ha.ev hx, Instr.extract, hv], W7 (by simp [execOp, ha.ev hx, Instr.extract, hv])⟩) kk
theorem bJ {s : TypeId} {f : Nat} {x : Operand} {ad : Addr} {off : Nat} (q : Addr) (ho : ops[i]? = some ⟨some d, .fieldAddr s x f, ty, pos, af, none⟩) (hd : Nat.blt d c.n = true) (hk : b.kind ≠ .early) (hx : ev fr x = some (.pointer (some ad)))
    (hrun : ∀ p w, (Instr.fieldAt s (.pointer (some p)) f).run X.p.P w = .ok (.pointer (some (p.add off))) w) (hev : ∀ p w es, (Instr.fieldAt s (.pointer (some p)) f).events X.p.P w es = es) (hq : ad.add off = q)
    (kk : TC X c b cs n (.inRegion ops rest :: k) ((d, .pointer (some q)) :: fr) hp) : TC X c b cs (n + 1) (.inRegion ops (i :: rest) :: k) fr hp :=
  mH _ ho rfl rfl hd hk (fun a w ha _ _ => ⟨by simp only [execOp, ha.ev hx, Sem.run_bind, hrun, Result.andThen_ok, Sem.run_pure, hq], W7 (by simp [execOp, ha.ev hx, hrun, hev])⟩) kk
theorem pz1 {t : TypeId} {parts : Array (Nat × Operand)} {v : Value} (vs : List (Nat × Value)) (ho : ops[i]? = some ⟨some d, .build t parts, ty, pos, af, none⟩) (hd : Nat.blt d c.n = true) (hk : b.kind ≠ .early) (hx : parts.toList.mapM (fun p => (ev fr p.2).map (p.1, ·)) = some vs)
    (hrun : ∀ w, (Instr.build t vs.toArray).run X.p.P w = .ok v w) (hev : ∀ w es, (Instr.build t vs.toArray).events X.p.P w es = es)
    (kk : TC X c b cs n (.inRegion ops rest :: k) ((d, v) :: fr) hp) : TC X c b cs (n + 1) (.inRegion ops (i :: rest) :: k) fr hp := by
  have key : ∀ (a : Act), Ok c a fr → (parts.map fun (i, x) => (i, a.eval x)) = vs.toArray := by
    intro a ha
    have key : ∀ (xs : List (Nat × Operand)) (vs : List (Nat × Value)), xs.mapM (fun p => (ev fr p.2).map (p.1, ·)) = some vs → xs.map (fun p => (p.1, a.eval p.2)) = vs := by
      intro xs
      induction xs with
      | nil => intro vs h; simpa using h
      | cons x xs ih =>
        intro vs h; simp only [List.mapM_cons, Option.bind_eq_bind, Option.bind_eq_some_iff, Option.pure_def, Option.some.injEq, Option.map_eq_some_iff] at h; obtain ⟨v, ⟨u, hu, rfl⟩, us, hus, rfl⟩ := h; rw [List.map_cons, ha.ev hu, ih us hus]
    apply Array.ext'; simpa using key _ _ hx
  exact mH v ho rfl rfl hd hk (fun a w ha _ _ => ⟨by simp only [execOp, key a ha, Sem.run_bind, hrun, Result.andThen_ok, Sem.run_pure], W7 (by simp only [execOp, key a ha]; simp [hrun, hev])⟩) kk
theorem ix0 {fn : Fn} {first cap : Array Operand} {v1 v2 : List Value} (ho : ops[i]? = some ⟨some d, .makeFunc fn first cap, ty, pos, af, none⟩) (hd : Nat.blt d c.n = true) (hk : b.kind ≠ .early)
    (h1 : first.toList.mapM (ev fr) = some v1) (h2 : cap.toList.mapM (ev fr) = some v2)
    (kk : TC X c b cs n (.inRegion ops rest :: k) ((d, .func fn v1.toArray v2.toArray) :: fr) hp) : TC X c b cs (n + 1) (.inRegion ops (i :: rest) :: k) fr hp := by
  have key : ∀ (a : Act), Ok c a fr → ∀ (xs : List Operand) (vs : List Value), xs.mapM (ev fr) = some vs → xs.map a.eval = vs := by
    intro a ha xs
    induction xs with
    | nil => intro vs h; simpa using h
    | cons x xs ih =>
      intro vs h; simp only [List.mapM_cons, Option.bind_eq_bind, Option.bind_eq_some_iff, Option.pure_def, Option.some.injEq] at h; obtain ⟨v, hv, us, hus, rfl⟩ := h; rw [List.map_cons, ha.ev hv, ih us hus]
  have e1 : ∀ (a : Act), Ok c a fr → first.map a.eval = v1.toArray := fun a ha => by apply Array.ext'; simpa using key a ha _ _ h1
  have e2 : ∀ (a : Act), Ok c a fr → cap.map a.eval = v2.toArray := fun a ha => by apply Array.ext'; simpa using key a ha _ _ h2
  exact mH _ ho rfl rfl hd hk (fun a w ha _ _ => ⟨by simp only [execOp, e1 a ha, e2 a ha]; rfl, W7 (by simp only [execOp, e1 a ha, e2 a ha]; rfl)⟩) kk
theorem kq3 {op : BinOp} {t yt : TypeId} {x y : Operand} {u v : Value} (r : Value) (ho : ops[i]? = some ⟨some d, .binOp op t x y yt, ty, pos, af, none⟩) (hd : Nat.blt d c.n = true) (hk : b.kind ≠ .early) (hx : ev fr x = some u) (hy : ev fr y = some v)
    (hg : ∀ w, (eqGuard op t x y u v).run X.p.P w = .ok () w) (hge : ∀ w, (eqGuard op t x y u v).events X.p.P w #[] = #[]) (hr : ∀ w, (binOp op t u v).run X.p.P w = .ok r w) (hre : ∀ w, (binOp op t u v).events X.p.P w #[] = #[])
    (kk : TC X c b cs n (.inRegion ops rest :: k) ((d, r) :: fr) hp) : TC X c b cs (n + 1) (.inRegion ops (i :: rest) :: k) fr hp :=
  mH r ho rfl rfl hd hk (fun a w ha _ _ => ⟨by simp only [execOp, ha.ev hx, ha.ev hy, Sem.run_bind, hg, hr, Result.andThen_ok, Sem.run_pure], W7 (by simp [execOp, ha.ev hx, ha.ev hy, hg, hge, hr, hre])⟩) kk
theorem rj4 {t yt : TypeId} {x y : Operand} {a b' : Int} (z : Int) (ho : ops[i]? = some ⟨some d, .binOp .add t x y yt, ty, pos, af, none⟩) (hd : Nat.blt d c.n = true) (hk : b.kind ≠ .early) (hx : ev fr x = some (int a)) (hy : ev fr y = some (int b')) (hz : a + b' = z) (hr : I64 z)
    (kk : TC X c b cs n (.inRegion ops rest :: k) ((d, int z) :: fr) hp) : TC X c b cs (n + 1) (.inRegion ops (i :: rest) :: k) fr hp :=
  kq3 _ ho hd hk hx hy (fun _ => rfl) (fun _ => by simp [eqGuard, go_sem]) (fun w => by
    show Result.ok (Value.int .i64 (IntKind.i64.wrap (a + b'))) w = _
    rw [IntWalk.i64_in _ (hz ▸ hr), hz]) (fun _ => by simp [binOp, int, go_sem]) kk
theorem tr_sub {t yt : TypeId} {x y : Operand} {a b' : Int} (z : Int) (ho : ops[i]? = some ⟨some d, .binOp .sub t x y yt, ty, pos, af, none⟩) (hd : Nat.blt d c.n = true) (hk : b.kind ≠ .early) (hx : ev fr x = some (int a)) (hy : ev fr y = some (int b')) (hz : a - b' = z) (hr : I64 z)
    (kk : TC X c b cs n (.inRegion ops rest :: k) ((d, int z) :: fr) hp) : TC X c b cs (n + 1) (.inRegion ops (i :: rest) :: k) fr hp :=
  kq3 _ ho hd hk hx hy (fun _ => rfl) (fun _ => by simp [eqGuard, go_sem]) (fun w => by
    show Result.ok (Value.int .i64 (IntKind.i64.wrap (a - b'))) w = _
    rw [IntWalk.i64_in _ (hz ▸ hr), hz]) (fun _ => by simp [binOp, int, go_sem]) kk
theorem tr_mul {t yt : TypeId} {x y : Operand} {a b' : Int} (z : Int) (ho : ops[i]? = some ⟨some d, .binOp .mul t x y yt, ty, pos, af, none⟩) (hd : Nat.blt d c.n = true) (hk : b.kind ≠ .early) (hx : ev fr x = some (int a)) (hy : ev fr y = some (int b')) (hz : a * b' = z) (hr : I64 z)
    (kk : TC X c b cs n (.inRegion ops rest :: k) ((d, int z) :: fr) hp) : TC X c b cs (n + 1) (.inRegion ops (i :: rest) :: k) fr hp :=
  kq3 _ ho hd hk hx hy (fun _ => rfl) (fun _ => by simp [eqGuard, go_sem]) (fun w => by
    show Result.ok (Value.int .i64 (IntKind.i64.wrap (a * b'))) w = _
    rw [IntWalk.i64_in _ (hz ▸ hr), hz]) (fun _ => by simp [binOp, int, go_sem]) kk
theorem tr_quo {t yt : TypeId} {x y : Operand} {a b' : Int} (z : Int) (ho : ops[i]? = some ⟨some d, .binOp .quo t x y yt, ty, pos, af, none⟩) (hd : Nat.blt d c.n = true) (hk : b.kind ≠ .early) (hx : ev fr x = some (int a)) (hy : ev fr y = some (int b')) (hb : b' ≠ 0) (hz : a.tdiv b' = z) (hr : I64 z)
    (kk : TC X c b cs n (.inRegion ops rest :: k) ((d, int z) :: fr) hp) : TC X c b cs (n + 1) (.inRegion ops (i :: rest) :: k) fr hp :=
  kq3 _ ho hd hk hx hy (fun _ => rfl) (fun _ => by simp [eqGuard, go_sem]) (fun w => by
    have : (binOp .quo t (.int .i64 a) (.int .i64 b')) = Op.intDiv .quo .i64 a b' := rfl; rw [int, int, this]
    simp [Op.intDiv, hb, hz, int]
    exact IntWalk.i64_in _ hr) (fun _ => by simp [binOp, int, go_sem, Op.intDiv, hb]) kk
theorem nj9 {t yt : TypeId} {x y : Operand} {kd : IntKind} {a b' : Int} (ho : ops[i]? = some ⟨some d, .binOp .lss t x y yt, ty, pos, af, none⟩) (hd : Nat.blt d c.n = true) (hk : b.kind ≠ .early) (hx : ev fr x = some (.int kd a)) (hy : ev fr y = some (.int kd b'))
    (kk : TC X c b cs n (.inRegion ops rest :: k) ((d, .bool (decide (a < b'))) :: fr) hp) : TC X c b cs (n + 1) (.inRegion ops (i :: rest) :: k) fr hp :=
  kq3 _ ho hd hk hx hy (fun _ => rfl) (fun _ => by simp [eqGuard, go_sem]) (fun w => by cases kd <;> rfl) (fun _ => by cases kd <;> simp [binOp, go_sem]) kk
theorem tr_len {t : TypeId} {x : Operand} {A : Option Addr} {m cp : Nat} {e : TypeId} (ho : ops[i]? = some ⟨some d, .call ⟨.builtin .len, #[x], #[t]⟩, ty, pos, af, none⟩) (hd : Nat.blt d c.n = true) (hk : b.kind ≠ .early) (ht : X.p.P.underlying t = some (.slice e)) (hx : ev fr x = some (.slice A m cp))
    (kk : TC X c b cs n (.inRegion ops rest :: k) ((d, int m) :: fr) hp) : TC X c b cs (n + 1) (.inRegion ops (i :: rest) :: k) fr hp := by
  have he : X.p.P.underlying t = some (.slice (X.p.P.elem t)) := by rw [ht]; simp [Program.elem, ht]
  refine mH _ ho rfl rfl hd hk (fun a w ha _ _ => ⟨?_, W7 ?_⟩) kk
  · simp [execOp, resolve, invoke, builtin, Builtin.len_, ha.ev hx, run_underlying ht, goInt]
  simp [execOp, resolve, invoke, builtin, Builtin.len_, ha.ev hx, run_underlying ht, goInt]
end
end Go.W
end
