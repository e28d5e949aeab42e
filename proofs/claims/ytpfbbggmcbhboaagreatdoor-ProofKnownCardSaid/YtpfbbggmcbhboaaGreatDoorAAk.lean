/- Texts. -/
import Derived.Lib.SliceRun
import Derived.Laws.AppendOwn
import Derived.Laws.MakeOwn
import Derived.Conc.LoneCalls
import Derived.Laws.CopyRow
import Derived.Laws.Tables
import Derived.Test.YtpfbbggmcbhboaaGreatDoorAAj
import Derived.Test.YtpfbbggmcbhboaaGreatDoorAAi
set_option linter.unusedVariables false
set_option linter.unusedSimpArgs false
section
namespace Go.W
open Go Go.Conc
open Go.ConcN (sumTo upd sumTo_upd upd_ne upd_same le_sumTo sumTo_congr)
section
variable {p : Dh} {Goal : Goroutine → World → Prop} {m τ : Nat} {ρ : Nat → Role} {M : MR} {t u : Trace} {gs : Array Goroutine} {w : World} {cl : Nat → Bool} {sl : Option (Nat × Nat)}
theorem mx4 {x y : MemOp} {q j : Nat} (hx : t[q]? = some x) (hy : u[j]? = some y) (hg : x.g = y.g) : Before (t ++ u) q (t.size + j) := qj2 hx (by omega) (by rw [lD]; exact hy) hg
theorem mx1 (h : InvD p Goal m τ ρ M t gs w cl) {i B j k c : Nat} {ro : Hq} {fr fr' : Frame} {cs cs' : List Frame} {hp : Hq} (hpos : 0 < i) (hi : gs[i]? = some (G fr cs)) (hρ : ρ i = .run (B + 1) j k c ro fr cs hp)
    (hk : k = p.n j) (hwake : mayWake p.P (G fr cs) = true)
    (hst : ∀ s tm, w.heap[c]? = some (.chan 0 #[] false s s tm) → stepG p.P false (G fr cs) w = .go (G fr' cs') (w.setChan c 0 #[] true s s tm) (closeEvents c)) (hf : QuitsD p.P B 0 (G fr' cs')) : Nx p Goal m τ (Wt p gs.size ρ M) t (runT p.P (crowd gs w sl) i) := by
  have hilt : i < gs.size := (Array.getElem?_eq_some_iff.1 hi).1; have htag : (ρ i).tag = .run j k c := by rw [hρ]; rfl
  have hrole := h.roles i _ hpos hi; rw [hρ] at hrole; obtain ⟨hd, _, _⟩ := hrole; obtain ⟨j', rfl, hjn, hcl, hh, ht⟩ := h.cmb.idx hpos (h.lt_nsp hi) (by show (ρ i).tag ≠ _; rw [htag]; simp); have ht' : (ρ (m + j')).tag = .run j' (rcv M.st j') (ch M.st j') ∨ (ρ (m + j')).tag = .park j' (rcv M.st j') (ch M.st j') := ht; rw [htag] at ht'
  rcases ht' with e | e
  rotate_left
  · cases e
  obtain ⟨rfl, rfl, rfl⟩ := Tag.run.inj e; have hlv : liveOf m gs.size ρ (m + j) := h.live_of hpos hi (by rw [htag]; simp); obtain ⟨f, tm, hF⟩ := h.chs j hjn; rw [hcl] at hF; have hFsz := h.chlt hjn; have hst' : stepG p.P (m + j == 0) (G fr cs) w = .go (G fr' cs') (w.setChan (ch M.st j) 0 #[] true f f tm) (closeEvents (ch M.st j)) := by rw [gz hpos]; exact hst f tm hF
  have hrun := runT_crowd_go (P := p.P) (sl := sl) hi hst'
  -- the others are not turned
  have hothers : ∀ k' x, 0 < k' → gs[k']? = some x → woken p.P (G fr cs) (G fr' cs') (w.setChan (ch M.st j) 0 #[] true f f tm) x = x := by
    intro k' x hk' hx; have hr := h.roles k' x hk' hx
    have key : x.again (w.setChan (ch M.st j) 0 #[] true f f tm) = x := by
      cases hρk : ρ k' with
      | quit n => rw [hρk] at hr; exact again_running _ (QuitsD.status hr)
      | run B2 j2 i2 c2 ro2 fr2 cs2 hp2 => rw [hρk] at hr; obtain ⟨_, rfl, _⟩ := hr; exact again_running _ (.inl rfl)
      | park B2 j2 i2 c2 ro2 fr2 cs2 hp2 =>
        rw [hρk] at hr; obtain ⟨_, ⟨zz, rfl⟩, _⟩ := hr; obtain ⟨j3, e3, hj3, hcl3, _, ht3⟩ := h.cmb.idx hk' (h.lt_nsp hx) (by show (ρ k').tag ≠ _; rw [hρk]; simp [Role.tag]); have ht3' : (ρ k').tag = .run j3 (rcv M.st j3) (ch M.st j3) ∨ (ρ k').tag = .park j3 (rcv M.st j3) (ch M.st j3) := ht3; rw [hρk] at ht3'; simp only [Role.tag] at ht3'
        rcases ht3' with e4 | e4
        · cases e4
        obtain ⟨rfl, rfl, rfl⟩ := Tag.park.inj e4
        have hne : j2 ≠ j := by
          rintro rfl; rw [e3, hρ] at hρk
          cases hρk
        obtain ⟨f2, tm2, hc2⟩ := h.chs j2 hj3; rw [hcl3] at hc2; exact again_send_open ((rQ (fun e5 => hne (h.chi hj3 hjn e5))).trans hc2)
    unfold woken
    split
    · exact key
    rfl
  have hRhp : ∀ q ∈ (Role.quit B).hp, q ∈ (ρ (m + j)).hp := fun q hq => by cases hq
  have hRro : ∀ q ∈ (Role.quit B).ro, q ∈ (ρ (m + j)).ro := fun q hq => by cases hq
  obtain ⟨g0, h0, hm⟩ := h.main
  -- goroutine 0
  obtain ⟨M', hM'hp, hM'ro, hM'st, hM'w, hM'wt, hm'⟩ : ∃ M' : MR, M'.hp = M.hp ∧ M'.ro = M.ro ∧ M'.st = M.st ∧ M'.waits = false ∧ M'.wt ≤ M.wt + 1 ∧ MainOK p Goal (woken p.P (G fr cs) (G fr' cs') (w.setChan (ch M.st j) 0 #[] true f f tm) g0) M' := by
    cases hM : M with
    | run BM ms roM frM csM hpM =>
      rw [hM] at hm; refine ⟨.run BM ms roM frM csM hpM, rfl, rfl, rfl, rfl, by omega, ?_⟩
      have : woken p.P (G fr cs) (G fr' cs') (w.setChan (ch (MR.run BM ms roM frM csM hpM).st j) 0 #[] true f f tm) g0 = g0 := by
        unfold woken
        split
        · exact again_running _ (.inl hm.1.1)
        rfl
      rw [this]; exact hm
    | park BM c0 d0 i0 k0 a b roM frM csM hpM =>
      rw [hM] at hm; obtain ⟨rfl, hfm, _⟩ := hm; refine ⟨.run (BM + 1) (.ga c0 d0 i0 k0 a b) roM frM csM hpM, rfl, rfl, rfl, rfl, by simp only [MR.wt]; omega, ?_⟩; have hst2 : M.st = .ga c0 d0 i0 k0 a b := by rw [hM]; rfl
      have hcd : c0 ≠ d0 := by have := h.chd (by rw [hst2]; rfl); rw [hst2] at this; simpa [ch] using this
      obtain ⟨_, hcs⟩ := sx8 (g := G frM csM) (z := p.z) (sh := .select) hst2 hcd (show j < 2 by have := rq8 M.st; omega) hh
      have : woken p.P (G fr cs) (G fr' cs') (w.setChan (ch M.st j) 0 #[] true f f tm) (parked (G frM csM) #[selc a c0 p.z, selc b d0 p.z] .select) = { parked (G frM csM) #[selc a c0 p.z, selc b d0 p.z] .select with status := .running } := by
        unfold woken; rw [hwake]; simp only [G, Bool.true_and]; rw [if_pos (by decide)]; exact again_some_closed hcs (dj4 hFsz)
      rw [hM] at this; rw [this]; exact ⟨⟨rfl, rfl, rfl, rfl⟩, hfm⟩
  let u : Trace := MemOp.ofEvents (m + j) (G fr cs).frame.fn (G fr cs).frame.place (closeEvents (ch M.st j))
  have hu0 : u = #[{ g := m + j, fn := (G fr cs).frame.fn, pos := (G fr cs).frame.place, act := .access ⟨.obj (ch M.st j), false, true⟩ }, { g := m + j, fn := (G fr cs).frame.fn, pos := (G fr cs).frame.place, act := .close (ch M.st j) }] := by simp [u, MemOp.ofEvents, closeEvents, MemAct.ofEvent]
  have hum : ∀ op ∈ u, op.act ≠ .mark .disable ∧ op.act ≠ .mark .enable := by
    intro op hop; rw [hu0] at hop
    simp at hop
    rcases hop with rfl | rfl <;> simp
  have hti : TV (t ++ u) τ w.heap.size (ownOf M ρ) (rdx p m M ρ) (liveOf m gs.size ρ) := h.ti.step hlv (Nat.le_refl _) (fun op hop => by rw [hu0] at hop; simp at hop; rcases hop with rfl | rfl <;> rfl) hum (fun op hop x hx _ k' hk' => by
      rw [hu0] at hop
      simp at hop
      rcases hop with rfl | rfl
      · simp only [MemAct.touch?, Option.some.injEq] at hx
        subst hx; simp only [blk, Option.some.injEq] at hk'; subst hk'; exact .inl ⟨rfl, .inr ⟨j, hjn, rfl, rfl⟩⟩
      simp [MemAct.touch?] at hx) (fun g' k' h1 h2 => h.d1 _ _ _ h1 h2) (fun g' g'' k' h1 => h.dx h1) (fun k' hk' => hk'.elim h.own_lt h.rdx_lt)
  have heard1 : (t ++ u).heard (t.size + 1) := dz4 (g := m + j) (by rw [lD, hu0]; rfl) rfl (jx2 (h.ti.hears _ hlv) hum (by omega) (by rw [hu0]; simp)); have hroot : Root (t ++ u) (liveOf m gs.size (upd ρ (m + j) (.quit B))) M'.st (upd cl j true) (t.size + 1) := ⟨_, by rw [lD, hu0]; rfl, .inr ⟨j, by rw [hM'st]; exact hjn, by show MemAct.close (ch M.st j) = MemAct.close (ch M'.st j); rw [hM'st], upd_same .., by rw [hM'st]; exact hh, heard1⟩⟩; refine ⟨upd ρ (m + j) (.quit B), M', u, _, _, sl, upd cl j true, hrun, ?_, ?_⟩
  · refine h.comm (yL fun e => absurd rfl e) (dj3 h.far hilt _) ?_ (by simp) (by rw [hM'st]) (fun _ _ => by rw [hM'st]) ?_ ?_ ?_ rfl rfl rfl bj1 (fun k' hk' => rQ (hk' j hjn)) ⟨fun q hq => hM'hp ▸ hq, fun q hq => hM'ro ▸ hq⟩ (fun k' _ => jq4 hRhp hRro k') hti (fun k' => S8 hum k') ?_ ?_
    · rw [cz2, hM'st, hM'w]; exact h.cmb.shut hjn hk
    · refine ⟨_, ?_, hm'⟩
      rw [Array.getElem?_setIfInBounds_ne (by omega), Array.getElem?_map, h0]; rfl
    · intro k' x' hk' hx'
      rcases set1 (by simpa using hilt) hx' with ⟨rfl, rfl⟩ | ⟨h1, h3⟩
      · rw [upd_same, hd]; exact hf
      rw [upd_ne _ _ h1]; rw [Array.getElem?_map] at h3; obtain ⟨y, hy, rfl⟩ := Option.map_eq_some_iff.1 h3; rw [hothers k' y hk' hy]; exact h.roles k' y hk' hy
    · intro j' hj'
      by_cases e2 : j' = j
      · subst e2; rw [upd_same]; exact ⟨_, _, dj4 hFsz⟩
      rw [upd_ne _ _ e2, rQ (fun e3 => e2 (h.chi hj' hjn e3))]; exact h.chs j' hj'
    · intro j' op a hj ha
      refine ⟨t.size + 1, ?_, hroot⟩; rw [hu0] at hj
      match j', hj with
      | 0, hj =>
        obtain rfl := Option.some.inj hj; have a0 : (t ++ u)[t.size + 0]? = some { g := m + j, fn := (G fr cs).frame.fn, pos := (G fr cs).frame.place, act := .access ⟨.obj (ch M.st j), false, true⟩ } := by rw [lD, hu0]; rfl
        have a1 : (t ++ u)[t.size + 1]? = some { g := m + j, fn := (G fr cs).frame.fn, pos := (G fr cs).frame.place, act := .close (ch M.st j) } := by rw [lD, hu0]; rfl
        exact .inr (hb_po (Nat.lt_succ_self _) a0 a1 rfl)
      | 1, hj =>
        obtain rfl := Option.some.inj hj
        simp [MemAct.touch?] at ha
      | j + 2, hj => simp at hj
    intro q hq; obtain ⟨op, hop, hcase⟩ := hq; have hql := lt_size_of_getElem? hop
    rcases hcase with hcase | ⟨j2, hk1, hk2, hk3, hk4, hk5⟩
    · by_cases hgi : op.g = m + j
      · exact ⟨t.size + 1, mx4 (u := u) hop (j := 1) (by rw [hu0]; rfl) hgi, hroot⟩
      refine ⟨q, .inl rfl, op, by rw [getElem?_append_old hql]; exact hop, .inl ?_⟩
      rcases hcase with e | ⟨h1, h2, h3⟩
      · exact .inl e
      exact .inr ⟨h1, h2, by rw [upd_ne _ _ hgi]; exact h3⟩
    refine ⟨q, .inl rfl, op, by rw [getElem?_append_old hql]; exact hop, .inr ⟨j2, by rw [hM'st]; exact hk1, by rw [hM'st]; exact hk2, ?_, by rw [hM'st]; exact hk4, (heard_old hql).2 hk5⟩⟩
    by_cases e2 : j2 = j
    · subst e2; exact upd_same ..
    rw [upd_ne _ _ e2]; exact hk3
  have h1 := bj6 (p := p) (ρ := ρ) (M := M) hpos hilt (.quit B); rw [hρ] at h1
  have e1 : Wt p gs.size (upd ρ (m + j) (.quit B)) M' + M.wt = Wt p gs.size (upd ρ (m + j) (.quit B)) M + M'.wt := by
    unfold Wt; rw [hM'st]; omega
  simp only [Role.wt, Array.size_setIfInBounds, Array.size_map] at h1 ⊢
  omega
/-! ### Goroutine 0 selects -/
def Ms.hear : Ms → Nat → Ms
  | .ga c d i k a b, j => if j = 0 then .ga c d i k true b else .ga c d i k a true
  | s, _ => s
theorem dz5 (s : Ms) (j : Nat) : nsp (s.hear j) = nsp s := by
  cases s <;> simp only [Ms.hear]
  split <;> rfl
theorem jq5 (s : Ms) (j k : Nat) : ch (s.hear j) k = ch s k := by
  cases s <;> simp only [Ms.hear]
  split <;> rfl
theorem rz5 (s : Ms) (j k : Nat) : rcv (s.hear j) k = rcv s k := by
  cases s <;> simp only [Ms.hear]
  split <;> rfl
theorem dj0 {s : Ms} {j k : Nat} (h : nsp s = 2) (hj : j < 2) (hk : k < 2) (hjk : k ≠ j) : hrd (s.hear j) k = hrd s k := by
  cases s <;> simp only [nsp] at h <;> first | omega | skip
  have h2 : (j = 0 ∧ k = 1) ∨ (j = 1 ∧ k = 0) := by omega
  rcases h2 with ⟨rfl, rfl⟩ | ⟨rfl, rfl⟩ <;> simp [Ms.hear, hrd]
theorem Cmb.hear {c : Nat → Tag} {st : Ms} {wt : Bool} (h : Cmb p m c st wt cl) (h2 : nsp st = 2) {j : Nat} (hj : j < 2) (hcl : cl j = true) (ho : ∀ k, k < 2 → k ≠ j → hrd st k = false) : Cmb p m c (st.hear j) false cl := by
  refine ⟨h.m0, h.old, fun k hk => ?_, fun hn => ?_, fun e => by cases e⟩
  · rw [dz5] at hk
    rw [rz5, jq5]
    rcases h.sd k hk with h1 | ⟨h1, h3, h4⟩
    · exact .inl h1
    have hkj : k ≠ j := by rintro rfl; rw [hcl] at h1; cases h1
    exact .inr ⟨h1, by rw [dj0 h2 hj (by omega) hkj]; exact h3, h4⟩
  have h3 : j = 0 ∨ j = 1 := by omega
  rcases h3 with rfl | rfl
  · rw [dj0 (k := 1) h2 hj (by omega) (by omega), ho 1 (by omega) (by omega)] at hn
    cases hn.2
  rw [dj0 (k := 0) h2 hj (by omega) (by omega), ho 0 (by omega) (by omega)] at hn
  cases hn.1
def Fin (p : Dh) (Goal : Goroutine → World → Prop) (t : Trace) (x : Stepped × Array MemOp) : Prop :=
  ∃ (gs' : Array Goroutine) (g' : Goroutine) (w' : World) (sl' : Option (Nat × Nat)) (u : Trace) (q' : Nat → Nat) (B' : Nat), x = (.next (crowd gs' w' sl'), u) ∧ gs'[0]? = some g' ∧ Leavers p.P (t ++ u) gs' q' ∧ Past noS B' (t ++ u) ∧ Co p.P g' w' Goal
theorem InvD.way (h : InvD p Goal m τ ρ M t gs w cl) (hn : nsp M.st = 2) (hw : M.waits = false) {j : Nat} (hj : j < 2) (hh : hrd M.st j = false) :
    (ways w (gs.setIfInBounds 0 ph) (rcase (ch M.st j) p.z) = [] ∧ cl j = false ∧ (ρ (m + j)).tag = .run j (rcv M.st j) (ch M.st j)) ∨
    (ways w (gs.setIfInBounds 0 ph) (rcase (ch M.st j) p.z) = [.partner (m + j) 0] ∧ cl j = false ∧ (ρ (m + j)).tag = .park j (rcv M.st j) (ch M.st j)) ∨
    (ways w (gs.setIfInBounds 0 ph) (rcase (ch M.st j) p.z) = [.closed] ∧ cl j = true ∧ (ρ (m + j)).tag = .quit ∧ rcv M.st j = p.n j) := by
  obtain ⟨f, tm, hF⟩ := h.chs j (by omega); have hm0 := h.cmb.m0
  have hno : (∀ k, (ρ (m + j)).tag ≠ .park j k (ch M.st j)) → partners (gs.setIfInBounds 0 ph) (ch M.st j) true = [] := fun hp => h.nobody _ fun k x hk hx => by
    rintro (⟨_, e, _⟩ | ⟨_, _, j2, rfl, hj2, ht, hc⟩)
    · rw [hw] at e; cases e
    obtain rfl := h.chi (by omega) hj2 hc; exact hp _ ht
  rcases h.cmb.sd j (by omega) with ⟨h1, h2, h3⟩ | ⟨h1, _, h3 | h3⟩
  · have h1' : (ρ (m + j)).tag = .quit := h1
    refine .inr (.inr ⟨?_, h2, h1', h3⟩); have := hno fun k e => by rw [h1'] at e; cases e
    simp [ways, rcase, hF, this, h2]
  · have h3' : (ρ (m + j)).tag = _ := h3
    refine .inl ⟨?_, h1, h3'⟩; have := hno fun k e => by rw [h3'] at e; cases e
    simp [ways, rcase, hF, this, h1]
  have h3' : (ρ (m + j)).tag = _ := h3; refine .inr (.inl ⟨?_, h1, h3'⟩); have hlt : m + j < gs.size := by rw [h.size, hn]; omega
  have hx : gs[m + j]? = some gs[m + j] := Array.getElem?_eq_getElem hlt; have hr := h.roles (m + j) _ (by omega) hx
  have hpart : partners (gs.setIfInBounds 0 ph) (ch M.st j) true = [(m + j, 0)] := by
    cases hρ : ρ (m + j) with
    | quit n => rw [hρ] at h3'; cases h3'
    | run B2 j2 i2 c2 ro2 fr2 cs2 hp2 => rw [hρ] at h3'; cases h3'
    | park B2 j2 i2 c2 ro2 fr2 cs2 hp2 =>
      rw [hρ] at h3' hr; obtain ⟨rfl, rfl, rfl⟩ := Tag.park.inj h3'; obtain ⟨_, ⟨zz, hz⟩, _⟩ := hr; rw [partners_one (stand_get (i := 0) (j := m + j2) (by omega) hx) (fun k' x' hk' hx' => ?_), hz, offersAt_parked_send, if_pos rfl]
      · rfl
      rcases getElem?_stand gs _ k' x' hx' with ⟨rfl, rfl⟩ | ⟨_, hx2⟩
      · exact offersAt_ph _ _
      exact Classical.byContradiction fun hn2 => by
        rcases h.off hx2 hn2 with ⟨_, e, _⟩ | ⟨_, _, j3, rfl, hj3, _, hc⟩
        · rw [hw] at e; cases e
        exact hk' (by rw [h.chi (by omega) hj3 hc])
  simp [ways, rcase, hF, hpart]
end
end Go.W
end
section
namespace Go.W
open Go Go.Conc
open Go.ConcN (sumTo upd sumTo_upd upd_ne upd_same le_sumTo sumTo_congr)
section
variable {p : Dh} {Goal : Goroutine → World → Prop} {m τ : Nat} {ρ : Nat → Role} {M : MR} {t u : Trace} {gs : Array Goroutine} {w : World} {cl : Nat → Bool} {sl : Option (Nat × Nat)}
theorem yQ {a : Bool} {c : Nat} {z : Value} {w : World} (h : ∃ f tm b, w.heap[c]? = some (.chan 0 #[] b f f tm)) : illMade w (selc a c z) = false := by
  obtain ⟨f, tm, b, hc⟩ := h
  cases a with
  | true => rfl
  | false => exact made_recv z hc
theorem qq4 (x y : CommCase) (f : CommCase × Nat → Nat × CommCase × List Way) : (#[x, y].zipIdx.toList.map f) = [f (x, 0), f (y, 1)] := by simp
def casej (c d : Nat) (a b : Bool) (z : Value) (j : Nat) : CommCase := if j = 0 then selc a c z else selc b d z
theorem xG {c d i k : Nat} {a b : Bool} {z : Value} {j : Nat} (hh : hrd (.ga c d i k a b) j = false) : casej c d a b z j = rcase (ch (.ga c d i k a b) j) z := by
  unfold casej
  by_cases h : j = 0
  · subst h
    obtain rfl : a = false := by simpa [hrd] using hh
    rfl
  rw [if_neg h]; obtain rfl : b = false := by simpa [hrd, h] using hh
  simp [ch, h, selc]
theorem lq1 {c d i k : Nat} {a b : Bool} {z : Value} {j : Nat} (w : World) (gs : Array Goroutine) (hh : hrd (.ga c d i k a b) j = true) : ways w gs (casej c d a b z j) = [] := by
  unfold casej
  by_cases h : j = 0
  · subst h
    obtain rfl : a = true := by simpa [hrd] using hh
    rfl
  rw [if_neg h]; obtain rfl : b = true := by simpa [hrd, h] using hh
  rfl
structure Conts2 (p : Dh) (Goal : Goroutine → World → Prop) (B : Nat) (st : Ms) (ro : Hq) (fr : Frame) (cs : List Frame) (hp : Hq) : Prop where
  got : ∀ j, j < 2 → hrd st j = false → rcv st j < p.n j → FolM p Goal B (st.got j) ro (fr.finish (.tuple (if j = 0 then #[goInt 0, .bool true, p.v 0 (rcv st 0), p.z] else #[goInt 1, .bool true, p.z, p.v 1 (rcv st 1)]))) cs hp
  hear : ∀ j k, j < 2 → k < 2 → k ≠ j → hrd st j = false → rcv st j = p.n j → hrd st k = false → FolM p Goal B (st.hear j) ro (fr.finish (.tuple #[goInt j, .bool false, p.z, p.z])) cs hp
  fin : ∀ j k, j < 2 → k < 2 → k ≠ j → hrd st j = false → rcv st j = p.n j → hrd st k = true → rcv st k = p.n k → ∀ w', Sur p w' → Held hp w' → Held ro w' → Co p.P (G (fr.finish (.tuple #[goInt j, .bool false, p.z, p.z])) cs) w' Goal
theorem px9 {B c d i j : Nat} {a b : Bool} {ro : Hq} {fr : Frame} {cs : List Frame} {hp : Hq}
    (h1 : a = false → i < p.n 0 → FolM p Goal B (.ga c d (i + 1) j a b) ro (fr.finish (.tuple #[goInt 0, .bool true, p.v 0 i, p.z])) cs hp)
    (h2 : b = false → j < p.n 1 → FolM p Goal B (.ga c d i (j + 1) a b) ro (fr.finish (.tuple #[goInt 1, .bool true, p.z, p.v 1 j])) cs hp)
    (h3 : a = false → i = p.n 0 → b = false → FolM p Goal B (.ga c d i j true b) ro (fr.finish (.tuple #[goInt 0, .bool false, p.z, p.z])) cs hp)
    (h4 : b = false → j = p.n 1 → a = false → FolM p Goal B (.ga c d i j a true) ro (fr.finish (.tuple #[goInt 1, .bool false, p.z, p.z])) cs hp)
    (h5 : a = false → i = p.n 0 → b = true → j = p.n 1 → ∀ w', Sur p w' → Held hp w' → Held ro w' → Co p.P (G (fr.finish (.tuple #[goInt 0, .bool false, p.z, p.z])) cs) w' Goal)
    (h6 : b = false → j = p.n 1 → a = true → i = p.n 0 → ∀ w', Sur p w' → Held hp w' → Held ro w' → Co p.P (G (fr.finish (.tuple #[goInt 1, .bool false, p.z, p.z])) cs) w' Goal) : Conts2 p Goal B (.ga c d i j a b) ro fr cs hp := by
  refine ⟨fun j' hj hh hr => ?_, fun j' k' hj hk hne hh hr ho => ?_, fun j' k' hj hk hne hh hr ho hr2 => ?_⟩
  · have : j' = 0 ∨ j' = 1 := by omega
    rcases this with rfl | rfl
    · exact h1 hh hr
    exact h2 hh hr
  · have : (j' = 0 ∧ k' = 1) ∨ (j' = 1 ∧ k' = 0) := by omega
    rcases this with ⟨rfl, rfl⟩ | ⟨rfl, rfl⟩
    · exact h3 hh hr ho
    exact h4 hh hr ho
  have : (j' = 0 ∧ k' = 1) ∨ (j' = 1 ∧ k' = 0) := by omega
  rcases this with ⟨rfl, rfl⟩ | ⟨rfl, rfl⟩
  · exact h5 hh hr ho hr2
  exact h6 hh hr ho hr2
theorem case_ga {B c d i k : Nat} {a b : Bool} {ro : Hq} {fr : Frame} {cs : List Frame} {hp : Hq} (h : InvD p Goal m τ ρ (.run (B + 1) (.ga c d i k a b) ro fr cs hp) t gs w cl) {g : Goroutine} (h0 : gs[0]? = some g)
    (hst : stepG p.P true g w = .comm (G fr cs) #[selc a c p.z, selc b d p.z] true .select w #[]) (hfm : FolM p Goal (B + 1) (.ga c d i k a b) ro fr cs hp)
    (ha : a = false → i < p.n 0 → FolM p Goal B (.ga c d (i + 1) k a b) ro (fr.finish (.tuple #[goInt 0, .bool true, p.v 0 i, p.z])) cs hp)
    (hb : b = false → k < p.n 1 → FolM p Goal B (.ga c d i (k + 1) a b) ro (fr.finish (.tuple #[goInt 1, .bool true, p.z, p.v 1 k])) cs hp)
    (hc2 : Conts2 p Goal B (.ga c d i k a b) ro fr cs hp) :
    Nx p Goal m τ (Wt p gs.size ρ (.run (B + 1) (.ga c d i k a b) ro fr cs hp)) t (runT p.P (crowd gs w sl) 0) ∨ Fin p Goal t (runT p.P (crowd gs w sl) 0) := by
  have hst' : stepG p.P (0 == 0) g w = .comm (G fr cs) #[selc a c p.z, selc b d p.z] true .select w #[] := hst; obtain ⟨st, hse⟩ : ∃ st, st = Ms.ga c d i k a b := ⟨_, rfl⟩; have hn2 : nsp (MR.run (B + 1) (.ga c d i k a b) ro fr cs hp).st = 2 := rfl; have hm0 := h.cmb.m0; have hsz : gs.size = m + 2 := h.size; have hcd : c ≠ d := by have := h.chd rfl; simpa [ch, MR.st] using this
  have hwf : (MR.run (B + 1) (.ga c d i k a b) ro fr cs hp).waits = false := rfl; have hway := fun {j : Nat} (hj : j < 2) (hh : hrd (.ga c d i k a b) j = false) => h.way hn2 hwf hj hh; have hch0 : ∃ f tm b', w.heap[c]? = some (.chan 0 #[] b' f f tm) := by obtain ⟨f, tm, e⟩ := h.chs 0 (by rw [hn2]; omega); exact ⟨f, tm, _, e⟩
  have hch1 : ∃ f tm b', w.heap[d]? = some (.chan 0 #[] b' f f tm) := by obtain ⟨f, tm, e⟩ := h.chs 1 (by rw [hn2]; omega); exact ⟨f, tm, _, e⟩
  have hill : ∀ cc ∈ #[selc a c p.z, selc b d p.z], illMade w cc = false := fun cc hcc => by
    have : cc = selc a c p.z ∨ cc = selc b d p.z := by simpa using hcc
    rcases this with rfl | rfl
    · exact yQ hch0
    exact yQ hch1
  let lw : Nat → List Way := fun j => ways w (gs.setIfInBounds 0 ph) (casej c d a b p.z j)
  have hlist : (#[selc a c p.z, selc b d p.z].zipIdx.toList.map fun (x : CommCase × Nat) => (x.2, x.1, ways w (gs.setIfInBounds 0 ph) x.1)) = [(0, casej c d a b p.z 0, lw 0), (1, casej c d a b p.z 1, lw 1)] := by rw [qq4]; rfl
  have hcases : ∀ cc ∈ #[selc a c p.z, selc b d p.z], cc = casej c d a b p.z 0 ∨ cc = casej c d a b p.z 1 := fun cc hcc => by
    have : cc = selc a c p.z ∨ cc = selc b d p.z := by simpa using hcc
    exact this
  -- what stands at each of the two
  have hlw : ∀ j, j < 2 → (lw j = [] ∧ (hrd (.ga c d i k a b) j = false → cl j = false ∧ (ρ (m + j)).tag = .run j (rcv (.ga c d i k a b) j) (ch (.ga c d i k a b) j))) ∨
      (hrd (.ga c d i k a b) j = false ∧ lw j = [.partner (m + j) 0] ∧ cl j = false ∧ (ρ (m + j)).tag = .park j (rcv (.ga c d i k a b) j) (ch (.ga c d i k a b) j)) ∨
      (hrd (.ga c d i k a b) j = false ∧ lw j = [.closed] ∧ cl j = true ∧ (ρ (m + j)).tag = .quit ∧ rcv (.ga c d i k a b) j = p.n j) := by
    intro j hj
    cases hh : hrd (.ga c d i k a b) j with
    | true => exact .inl ⟨lq1 _ _ hh, fun e => by cases e⟩
    | false =>
      have e : lw j = ways w (gs.setIfInBounds 0 ph) (rcase (ch (.ga c d i k a b) j) p.z) := by simp only [lw, xG hh]
      rcases hway hj hh with ⟨h1, h2, h3⟩ | ⟨h1, h2, h3⟩ | ⟨h1, h2, h3, h4⟩
      · exact .inl ⟨e.trans h1, fun _ => ⟨h2, h3⟩⟩
      · exact .inr (.inl ⟨rfl, e.trans h1, h2, h3⟩)
      exact .inr (.inr ⟨rfl, e.trans h1, h2, h3, h4⟩)
  by_cases hno : lw 0 = [] ∧ lw 1 = []
  · -- it waits
    refine .inl ?_
    have hrun := crowd_waits (P := p.P) (sl := sl) h0 hst' (fun cc hcc => ⟨hill cc hcc, by
      rcases hcases cc hcc with rfl | rfl
      · exact hno.1
      exact hno.2⟩)
    rw [ofE0] at hrun; refine ⟨ρ, .park B c d i k a b ro fr cs hp, _, _, _, sl, cl, hrun, ?_, ?_⟩
    · refine h.comm (fun g hg => hg) h.far ?_ (by simp) rfl (fun _ _ => rfl) ⟨_, Array.getElem?_setIfInBounds_self_of_lt h.pos, rfl, hfm, ha, hb⟩ ?_ h.chs rfl rfl rfl rfl (fun k' _ => rfl) ⟨fun q hq => hq, fun q hq => hq⟩ (fun k' _ => ⟨fun q hq => hq, fun q hq => hq⟩) (h.ti.mild (fun op hop => by simp at hop)) (fun k' => S8 (fun op hop => by simp at hop) k') (fun j' op a' hj' _ => by simp at hj') (uL (fun g hg => hg) fun j' h1 h3 h4 => ⟨h1, rfl, h3, h4⟩)
      · refine ⟨h.cmb.m0, h.cmb.old, h.cmb.sd, h.cmb.nb, fun _ j hj hh => ?_⟩
        have hj : j < 2 := hj
        rcases hlw j hj with ⟨_, h2⟩ | ⟨_, h1, _⟩ | ⟨_, h1, _⟩
        · exact h2 hh
        all_goals
          exfalso
          have : lw j = [] := by
            have : j = 0 ∨ j = 1 := by omega
            rcases this with rfl | rfl
            · exact hno.1
            exact hno.2
          rw [this] at h1
          cases h1
      intro k' x hk hx; rw [Array.getElem?_setIfInBounds_ne (by omega)] at hx; exact h.roles k' x hk hx
    simp only [Wt, MR.wt, MR.st, unb, Array.size_setIfInBounds]
    omega
  -- one of the two, or either
  have hmem : ∀ x ∈ ([(0, casej c d a b p.z 0, lw 0), (1, casej c d a b p.z 1, lw 1)] : List (Nat × CommCase × List Way)).filter (fun x => !x.2.2.isEmpty), ∃ j, j < 2 ∧ x = (j, casej c d a b p.z j, lw j) ∧ lw j ≠ [] := by
    intro x hx; rw [List.mem_filter] at hx; obtain ⟨h1, h2⟩ := hx; simp only [List.mem_cons, List.not_mem_nil, or_false] at h1
    rcases h1 with rfl | rfl
    · exact ⟨0, by omega, rfl, fun e => by rw [e] at h2; simp at h2⟩
    exact ⟨1, by omega, rfl, fun e => by rw [e] at h2; simp at h2⟩
  have hne : ([(0, casej c d a b p.z 0, lw 0), (1, casej c d a b p.z 1, lw 1)] : List (Nat × CommCase × List Way)).filter (fun x => !x.2.2.isEmpty) ≠ [] := by
    intro e; rw [List.filter_eq_nil_iff] at e; refine hno ⟨?_, ?_⟩
    · have := e (0, casej c d a b p.z 0, lw 0) (by simp)
      simpa using this
    have := e (1, casej c d a b p.z 1, lw 1) (by simp)
    simpa using this
  obtain ⟨x, y, dr, hx, hy, hP, hC⟩ := gq5 (sl := sl) h0 hst' hill (by rw [hlist]) hne (fun x hx => by
    obtain ⟨j, hj, rfl, hl⟩ := hmem x hx
    rcases hlw j hj with ⟨h1, _⟩ | ⟨_, h1, _⟩ | ⟨_, h1, _⟩
    · exact absurd h1 hl
    · exact ⟨_, h1⟩
    exact ⟨_, h1⟩)
  obtain ⟨j, hj, rfl, hl⟩ := hmem x hx; obtain ⟨f, tm, hF⟩ := h.chs j (by rw [hn2]; exact hj); have hFsz := h.chlt (j := j) (by rw [hn2]; exact hj); simp only [MR.st] at hF hFsz; have hjlt : m + j < gs.size := by omega
  have hxj : gs[m + j]? = some gs[m + j] := Array.getElem?_eq_getElem hjlt; have hrj := h.roles (m + j) _ (by omega) hxj
  rcases hlw j hj with ⟨h1, _⟩ | ⟨hh, h1, hcl, htag⟩ | ⟨hh, h1, hcl, htag, hrn⟩
  · exact absurd h1 hl
  · -- a value
    refine .inl ?_; rw [h1] at hy; obtain rfl : Way.partner (m + j) 0 = y := by simpa using hy
    rw [hcl] at hF; have hrun := hP (ch (.ga c d i k a b) j) p.z 0 false f f tm (m + j) 0 (xG hh) hF rfl; generalize gs[m + j] = xj at hxj hrj
    obtain ⟨Bj, ij, cj, roj, frj, csj, hpj, hρj⟩ : ∃ Bj ij cj roj frj csj hpj, ρ (m + j) = .park Bj j ij cj roj frj csj hpj := by
      cases hρ : ρ (m + j) <;> rw [hρ] at htag <;> simp only [Role.tag] at htag <;> cases htag
      exact ⟨_, _, _, _, _, _, _, rfl⟩
    rw [hρj] at htag hrj; obtain ⟨_, rfl, rfl⟩ := Tag.park.inj htag; obtain ⟨hdj, ⟨zz, rfl⟩, hltj, hfj⟩ := hrj; have hx := stand_get (gs := gs) (i := 0) (j := m + j) (by omega) hxj
    have hov : offeredValue (gs.setIfInBounds 0 ph) (m + j) 0 = p.v j (rcv (.ga c d i k a b) j) := by
      unfold offeredValue; rw [hx]
      simp [parked, scase]
    rw [hov, finishPartner_at p.P (gs.setIfInBounds 0 ph) hx rfl 0 undef, finishComm_parked, finishComm_send, set_stand2, ofE0] at hrun
    obtain ⟨frN, hfin, hfN⟩ : ∃ frN, (G fr cs).finishComm p.P #[selc a c p.z, selc b d p.z] .select ((j : Nat) : Int) (p.v j (rcv (.ga c d i k a b) j)) true = Go.Conc.served (G fr cs) frN ∧ FolM p Goal B (Ms.got (.ga c d i k a b) j) ro (fr.finish frN) cs hp := by
      have h2 : j = 0 ∨ j = 1 := by omega
      have hcg := hc2.got j hj hh hltj
      rcases h2 with rfl | rfl
      · exact ⟨_, by rw [uZ, dj9]; rfl, hcg⟩
      exact ⟨_, by rw [uZ, dj8]; rfl, hcg⟩
    rw [hfin] at hrun; have hRhp : ∀ q ∈ (Role.run Bj j (rcv (.ga c d i k a b) j + 1) (ch (.ga c d i k a b) j) roj (frj.finish undef) csj hpj).hp, q ∈ (ρ (m + j)).hp := by rw [hρj]; exact fun q hq => hq
    have hRro : ∀ q ∈ (Role.run Bj j (rcv (.ga c d i k a b) j + 1) (ch (.ga c d i k a b) j) roj (frj.finish undef) csj hpj).ro, q ∈ (ρ (m + j)).ro := by rw [hρj]; exact fun q hq => hq
    refine ⟨upd ρ (m + j) (.run Bj j (rcv (.ga c d i k a b) j + 1) (ch (.ga c d i k a b) j) roj (frj.finish undef) csj hpj), .run B (Ms.got (.ga c d i k a b) j) ro (fr.finish frN) cs hp, _, _, _, sl, cl, hrun, ?_, ?_⟩
    · have hu := mild4 (a := { g := m + j, fn := ((gs.setIfInBounds 0 ph).getD (m + j) default).frame.fn, pos := ((gs.setIfInBounds 0 ph).getD (m + j) default).frame.place, act := .send (ch (.ga c d i k a b) j) f }) (b := { g := 0, fn := (G fr cs).frame.fn, pos := (G fr cs).frame.place, act := .recv (ch (.ga c d i k a b) j) f 0 }) (c := { g := m + j, fn := ((gs.setIfInBounds 0 ph).getD (m + j) default).frame.fn, pos := ((gs.setIfInBounds 0 ph).getD (m + j) default).frame.place, act := .sendDone (ch (.ga c d i k a b) j) f }) (e := { g := 0, fn := (G fr cs).frame.fn, pos := (G fr cs).frame.place, act := .recvDone (ch (.ga c d i k a b) j) f }) ⟨_, _, rfl⟩ ⟨_, _, _, rfl⟩ ⟨_, _, rfl⟩ ⟨_, _, rfl⟩
      refine (h.at dr).comm (yL fun _ => by rw [hρj]; simp [Role.tag]) (dj3 h.far hjlt _) ?_ (by simp) (yW (.ga c d i k a b) j) (fun j' _ => aq6 (.ga c d i k a b) j j') ⟨Go.Conc.served (G fr cs) frN, ?_, ⟨rfl, rfl, rfl, rfl⟩, hfN⟩ ?_ ?_ rfl rfl rfl bj1 (fun k' hk' => rQ (w := w.at dr) (hk' j hj)) ⟨fun q hq => hq, fun q hq => hq⟩ (fun k' _ => jq4 hRhp hRro k') (h.ti.mild hu) (fun k' => S8 (fun op hop => (hu op hop).2) k') (fun j' op a' hj' ha' => by rw [(hu op (Array.mem_of_getElem? hj')).1] at ha'; cases ha') (uL (aq3 (by simp [Role.tag])) fun j' h1 h3 h4 => ⟨by rw [yW]; exact h1, aq6 _ _ _, h3, by rw [uW]; exact h4⟩)
      · rw [cz2]; exact h.cmb.deliver hn2 hj hh hcl
      · rw [Array.getElem?_setIfInBounds_self_of_lt (by simpa using h.pos)]
      · intro k' x hk hx
        rcases set2 (by omega) h.pos hjlt hx with ⟨rfl, _⟩ | ⟨rfl, rfl⟩ | ⟨h1, h2, h3⟩
        · omega
        · rw [upd_same]; exact ⟨hdj, rfl, hfj⟩
        rw [upd_ne ρ _ h2]; exact h.roles k' x hk h3
      intro j' hj'
      by_cases e2 : j' = j
      · subst e2; rw [hcl]; exact ⟨_, _, dj4 (w := w.at dr) hFsz⟩
      exact (by
        obtain ⟨f2, tm2, e3⟩ := h.chs j' hj'
        exact ⟨f2, tm2, (rQ (w := w.at dr) (fun e3 => e2 (h.chi hj' (by rw [hn2]; exact hj) e3))).trans e3⟩)
    have h1 := bj6 (p := p) (ρ := ρ) (M := .run (B + 1) (.ga c d i k a b) ro fr cs hp) (show 0 < m + j by omega) hjlt (.run Bj j (rcv (.ga c d i k a b) j + 1) (ch (.ga c d i k a b) j) roj (frj.finish undef) csj hpj); rw [hρj] at h1; have e1 : unb p (Ms.got (.ga c d i k a b) j) = 0 := by simp only [Ms.got]; split <;> rfl
    have e2 : unb p (.ga c d i k a b) = 0 := rfl; simp only [Role.wt, Wt, MR.wt, MR.st, e1, e2, Array.size_setIfInBounds] at h1 ⊢
    omega
  -- a close
  rw [h1] at hy; obtain rfl : Way.closed = y := by simpa using hy
  have hrun := hC (ch (.ga c d i k a b) j) p.z (xG hh) rfl
  have hfin : (G fr cs).finishComm p.P #[selc a c p.z, selc b d p.z] .select ((j : Nat) : Int) p.z false = Go.Conc.served (G fr cs) (.tuple #[goInt j, .bool false, p.z, p.z]) := by
    have h2 : j = 0 ∨ j = 1 := by omega
    rcases h2 with rfl | rfl
    · rw [uZ, dj9]; rfl
    rw [uZ, dj8]; rfl
  rw [hfin, ofE0] at hrun
  let u : Trace := #[] ++ #[{ g := 0, fn := (G fr cs).frame.fn, pos := (G fr cs).frame.place, act := .recvClosed (ch (.ga c d i k a b) j) }]
  have hu : Mild u := by
    intro op hop; simp only [u, Array.empty_append] at hop
    simp at hop
    subst hop
    simp [MemAct.touch?]
  have hdeaf : ∀ k', Deaf (t ++ u) k' = Deaf t k' := fun k' => S8 (fun op hop => (hu op hop).2) k'; obtain ⟨k2, hk2, hkj⟩ : ∃ k2, k2 < 2 ∧ k2 ≠ j := ⟨1 - j, by omega, by omega⟩; have hcl0 : (t ++ u).heard (t.size + 0) := h.heard_new (.inl rfl) hu (j := 0) rfl rfl
  have hclosed : ∀ {q : Nat} {op : MemOp}, t[q]? = some op → op.act = .close (ch (.ga c d i k a b) j) → t.heard q → Before (t ++ u) q (t.size + 0) := by
    intro q op hop hact hhd; have hql := lt_size_of_getElem? hop; refine .inr (.single (.inr ⟨.closed (c := ch (.ga c d i k a b) j) ?_ (act?_of (lD (t := t) (u := u) 0)), (heard_old hql).2 hhd, hcl0⟩)); rw [act?_old hql, act?_of hop, hact]
  cases hh2 : hrd (.ga c d i k a b) k2 with
  | false =>
    refine .inl ⟨ρ, .run B (Ms.hear (.ga c d i k a b) j) ro (fr.finish (.tuple #[goInt j, .bool false, p.z, p.z])) cs hp, u, _, _, sl, cl, hrun, ?_, ?_⟩
    · refine (h.at dr).comm (fun g hg => hg) h.far (h.cmb.hear hn2 hj hcl fun k3 h3 h4 => ?_) (by simp) (dz5 (.ga c d i k a b) j) (fun j' _ => jq5 (.ga c d i k a b) j j') ⟨Go.Conc.served (G fr cs) (.tuple #[goInt j, .bool false, p.z, p.z]), ?_, ⟨rfl, rfl, rfl, rfl⟩, hc2.hear j k2 hj hk2 hkj hh hrn hh2⟩ ?_ h.chs rfl rfl rfl rfl (fun k' _ => rfl) ⟨fun q hq => hq, fun q hq => hq⟩ (fun k' _ => ⟨fun q hq => hq, fun q hq => hq⟩) (h.ti.mild hu) hdeaf (fun j' op a' hj' ha' => by rw [(hu op (Array.mem_of_getElem? hj')).1] at ha'; cases ha') ?_
      · obtain rfl : k3 = k2 := by omega
        exact hh2
      · rw [Array.getElem?_setIfInBounds_self_of_lt h.pos]
      · intro k' x hk hx
        rw [Array.getElem?_setIfInBounds_ne (by omega)] at hx; exact h.roles k' x hk hx
      intro q hq; obtain ⟨op, hop, hcase⟩ := hq; have hql := lt_size_of_getElem? hop
      rcases hcase with hcase | ⟨j2, hk1, hk2', hk3, hk4, hk5⟩
      · exact ⟨q, .inl rfl, op, by rw [getElem?_append_old hql]; exact hop, .inl hcase⟩
      by_cases e2 : j2 = j
      · subst e2
        exact ⟨t.size + 0, hclosed hop hk2' hk5, _, lD (t := t) (u := u) 0, .inl (.inl rfl)⟩
      refine ⟨q, .inl rfl, op, by rw [getElem?_append_old hql]; exact hop, .inr ⟨j2, (dz5 (.ga c d i k a b) j).symm ▸ hk1, by show op.act = .close (ch (Ms.hear (.ga c d i k a b) j) j2); rw [jq5]; exact hk2', hk3, ?_, (heard_old hql).2 hk5⟩⟩; exact (dj0 (s := .ga c d i k a b) rfl hj (show j2 < 2 from hk1) e2).trans hk4
    have e1 : unb p (Ms.hear (.ga c d i k a b) j) = 0 := by simp only [Ms.hear]; split <;> rfl
    have e2 : unb p (.ga c d i k a b) = 0 := rfl; simp only [Wt, MR.wt, MR.st, e1, e2, Array.size_setIfInBounds]
    omega
  | true =>
    refine .inr ?_
    -- the other one has left aS9 well
    have hk2q : (ρ (m + k2)).tag = .quit ∧ cl k2 = true ∧ rcv (.ga c d i k a b) k2 = p.n k2 := by
      rcases h.cmb.sd k2 hk2 with h3 | ⟨_, h3, _⟩
      · exact h3
      have h3' : hrd (.ga c d i k a b) k2 = false := h3; rw [hh2] at h3'; cases h3'
    have hquit : ∀ k', 0 < k' → k' < gs.size → (ρ k').tag = .quit := by
      intro k' hk hlt
      rcases Nat.lt_or_ge k' m with h1 | h1
      · exact h.cmb.old k' hk h1
      obtain ⟨j3, rfl⟩ : ∃ j3, k' = m + j3 := ⟨k' - m, by omega⟩
      by_cases e : j3 = j
      · subst e; exact htag
      obtain rfl : j3 = k2 := by omega
      exact hk2q.1
    have hknown : ∀ i' a', touchAt (t ++ u) i' = some a' → a'.loc.isMemory = true → Knows (t ++ u) 0 i' := by
      intro i' a' ha' hm
      rcases C6 ha' with ⟨_, ha''⟩ | ⟨_, op, hop, _, hoa⟩
      · obtain ⟨q, hq, op, hop, hcase⟩ := h.kn i' a' ha'' hm
        have hql := lt_size_of_getElem? hop
        rcases hcase with h1 | ⟨j2, hk1, hk2', hk3, hk4, hk5⟩
        · rcases h1 with h1 | ⟨h1, h2, h3⟩
          · exact ⟨q, op, by rw [getElem?_append_old hql]; exact hop, h1, hq.app u⟩
          exact absurd (hquit op.g (by omega) h2) h3
        have hj2 : j2 < 2 := hk1
        have e2 : j2 = j := by
          by_cases e : j2 = j
          · exact e
          obtain rfl : j2 = k2 := by omega
          have hk4' : hrd (.ga c d i k a b) j2 = false := hk4; rw [hh2] at hk4'; cases hk4'
        subst e2; exact ⟨t.size + 0, _, lD (t := t) (u := u) 0, rfl, (hq.app u).trans (hclosed hop hk2' hk5)⟩
      rw [(hu op hop).1] at hoa; cases hoa
    obtain ⟨B', hB'⟩ := nL h.seen (sZ u); refine ⟨_, Go.Conc.served (G fr cs) (.tuple #[goInt j, .bool false, p.z, p.z]), w.at dr, sl, u, fun k' => match ρ k' with | .quit n => n | _ => 0, B', hrun, (by rw [Array.getElem?_setIfInBounds_self_of_lt h.pos]), ⟨fun k' x hk hx => ?_, fun k' hk => ?_⟩, ⟨(h.ti.mild hu).clean, fun i' a' ha' hm => .inl (hknown i' a' ha' hm), ?_, by rw [hdeaf]; exact h.ti.hears 0 (.inl rfl), hB'⟩, hc2.fin j k2 hj hk2 hkj hh hrn hh2 hk2q.2.2 (w.at dr) (h.env.at dr) h.heldM.1 h.heldM.2⟩
    · rw [Array.getElem?_setIfInBounds_ne (by omega)] at hx
      have hq := hquit k' hk (Array.getElem?_eq_some_iff.1 hx).1; have hr := h.roles k' x hk hx; rw [hdeaf]
      cases hρk : ρ k' <;> rw [hρk] at hq <;> first | (rw [hρk] at hr; exact hr) | cases hq
    · rw [hdeaf]; exact h.above k' (by simpa using hk)
    intro i' g' hg' hne' hc; obtain ⟨x, hx, hxm, _⟩ := hc; obtain ⟨q, z, hz, hz0, hb'⟩ := hknown i' x hx hxm; refine ⟨q, by simp [Trace.g?, hz, hz0], ?_⟩
    rcases hb' with rfl | hb'
    · simp [Trace.g?, hz] at hg'
      exact absurd (hg'.symm.trans hz0) hne'
    exact hb'
end
end Go.W
end
section
namespace Go.W
open Go Go.Conc
open Go.ConcN (sumTo upd sumTo_upd upd_ne upd_same le_sumTo sumTo_congr)
section
variable {p : Dh} {Goal : Goroutine → World → Prop} {m τ : Nat} {ρ : Nat → Role} {M : MR} {t u : Trace} {gs : Array Goroutine} {w : World} {cl : Nat → Bool} {sl : Option (Nat × Nat)}
theorem hz1 {B : Nat} {ms ms' : Ms} {ro : Hq} {fr fr' : Frame} {cs cs' : List Frame} {fc : Frame} {hp r1 h2 : Hq} {c : Nat} {tmc : Bool}
    (h : InvD p Goal m τ ρ (.run (B + 1) ms ro fr cs hp) t gs w cl) {x y : MemOp} (hx : x.g = 0 ∧ x.act = .go gs.size) (hy : y.g = gs.size ∧ y.act = .start)
    (hms : nsp ms' = nsp ms + 1) (hchn : ch ms' (nsp ms) = c) (hcho : ∀ j, j < nsp ms → ch ms' j = ch ms j) (hrc : ∀ j, rcv ms' j = 0 ∧ rcv ms j = 0) (hhr : ∀ j, hrd ms' j = false ∧ hrd ms j = false)
    (hfm : FolM p Goal B ms' (r1 ++ ro) fr' cs' h2) (hc : (c, Obj.chan 0 #[] false 0 0 tmc) ∈ hp)
    (hs1 : ∀ q ∈ r1, q ∈ hp) (hs2 : ∀ q ∈ h2, q ∈ hp) (hdis : ∀ k, Has r1 k → ¬ Has h2 k) (hc1 : ¬ Has r1 c) (hc2 : ¬ Has h2 c) (hF : FolS p (nsp ms) c (r1 ++ ro) p.BW 0 fc [] []) :
    InvD p Goal m τ (upd ρ (m + nsp ms) (.run p.BW (nsp ms) 0 c (r1 ++ ro) fc [] [])) (.run B ms' (r1 ++ ro) fr' cs' h2) (t ++ #[x, y]) ((gs.setIfInBounds 0 (G fr' cs')).push (G fc [])) w (upd cl (nsp ms) false) := by
  obtain ⟨j, hj⟩ : ∃ j, j = nsp ms := ⟨_, rfl⟩; rw [← hj] at hms hchn hcho hF ⊢; have hsz : gs.size = m + j := by rw [hj]; exact h.size
  have hm0 := h.cmb.m0
  have hu : Mild #[x, y] := by
    intro op hop
    simp at hop
    rcases hop with rfl | rfl
    · rw [hx.2]; simp [MemAct.touch?]
    rw [hy.2]; simp [MemAct.touch?]
  have hdeaf : ∀ k, Deaf (t ++ #[x, y]) k = Deaf t k := fun k => S8 (fun op hop => (hu op hop).2) k; have hsz' : ((gs.setIfInBounds 0 (G fr' cs')).push (G fc [])).size = gs.size + 1 := by simp
  have e0 : (t ++ #[x, y])[t.size + 0]? = some x := by rw [lD]; rfl
  have e1 : (t ++ #[x, y])[t.size + 1]? = some y := by rw [lD]; rfl
  let R' : Role := .run p.BW j 0 c (r1 ++ ro) fc [] []
  have live_old : ∀ g, liveOf m gs.size ρ g → liveOf m (gs.size + 1) (upd ρ (m + j) R') g := by
    rintro g (h0 | ⟨h1, h2, h3⟩)
    · exact .inl h0
    exact .inr ⟨h1, by omega, by rw [upd_ne _ _ (by omega)]; exact h3⟩
  have live_new : ∀ g, liveOf m (gs.size + 1) (upd ρ (m + j) R') g → liveOf m gs.size ρ g ∨ g = m + j := by
    rintro g (h0 | ⟨h1, h2, h3⟩)
    · exact .inl (.inl h0)
    by_cases hg : g = m + j
    · exact .inr hg
    rw [upd_ne _ _ hg] at h3; exact .inl (.inr ⟨h1, by omega, h3⟩)
  have own0 : ∀ q ∈ hp, ownOf (.run (B + 1) ms ro fr cs hp) ρ 0 q.1 := fun q hq => .inl ⟨rfl, q, hq, rfl⟩; have ownr : ∀ k, Has r1 k → ownOf (.run (B + 1) ms ro fr cs hp) ρ 0 k := fun k ⟨q, hq, e⟩ => e ▸ own0 q (hs1 q hq); have ownc : ownOf (.run (B + 1) ms ro fr cs hp) ρ 0 c := own0 _ hc
  have own_new : ∀ g k, ownOf (.run B ms' (r1 ++ ro) fr' cs' h2) (upd ρ (m + j) R') g k → ownOf (.run (B + 1) ms ro fr cs hp) ρ g k ∧ (g = 0 → Has h2 k) := by
    rintro g k (⟨rfl, q, hq, e⟩ | ⟨hg, hk⟩)
    · exact ⟨.inl ⟨rfl, q, hs2 q hq, e⟩, fun _ => ⟨q, hq, e⟩⟩
    by_cases hgm : g = m + j
    · subst hgm; rw [upd_same] at hk; obtain ⟨q, hq, _⟩ := hk; cases hq
    rw [upd_ne _ _ hgm] at hk; exact ⟨.inr ⟨hg, hk⟩, fun e => by omega⟩
  have rdT_new : ∀ k, RdT p (r1 ++ ro) k → rdOf p (.run (B + 1) ms ro fr cs hp) ρ 0 k ∨ Has r1 k := by
    rintro k (hk | ⟨q, hq, e⟩)
    · exact .inl (.inl ⟨rfl, .inl hk⟩)
    rcases List.mem_append.1 hq with hq | hq
    · exact .inr ⟨q, hq, e⟩
    exact .inl (.inl ⟨rfl, .inr ⟨q, hq, e⟩⟩)
  have rd_new : ∀ g k, rdOf p (.run B ms' (r1 ++ ro) fr' cs' h2) (upd ρ (m + j) R') g k → rdOf p (.run (B + 1) ms ro fr cs hp) ρ g k ∨ ((g = 0 ∨ g = m + j) ∧ (rdOf p (.run (B + 1) ms ro fr cs hp) ρ 0 k ∨ Has r1 k)) := by
    rintro g k (⟨rfl, hk⟩ | ⟨hg, hk⟩)
    · exact .inr ⟨.inl rfl, rdT_new k hk⟩
    by_cases hgm : g = m + j
    · subst hgm; rw [upd_same] at hk; exact .inr ⟨.inr rfl, rdT_new k hk⟩
    rw [upd_ne _ _ hgm] at hk; exact .inl (.inr ⟨hg, hk⟩)
  have heard0 : (t ++ #[x, y]).heard (t.size + 0) := h.heard_new (.inl rfl) hu (j := 0) rfl hx.1; have heard1 : (t ++ #[x, y]).heard (t.size + 1) := dz4 e1 hy.1 (jx2 (h.above gs.size (Nat.le_refl _)) (fun op hop => (hu op hop).2) (by omega) (by simp))
  have knows_child : ∀ i, Knows t 0 i → Knows (t ++ #[x, y]) (m + j) i := fun i hk => by
    have b1 : HappensBefore (t ++ #[x, y]) i (t.size + 0) := hk.hb_new (by omega) e0 hx.1; exact ⟨t.size + 1, y, e1, hy.1.trans hsz, .inr (b1.trans (.single (.inr ⟨.spawn (child := gs.size) (by rw [act?_of e0, hx.2]) (by rw [act?_of e1, hy.2]) (by simp [Trace.g?, e1, hy.1]), heard0, heard1⟩)))⟩
  have hti := h.ti.mild hu; have olds : ∀ j', j' < nsp ms → ch ms j' ≠ c := fun j' hj' e => (h.chn j' hj' 0).1 (by show ownOf _ _ _ (ch ms j'); rw [e]; exact ownc); refine { cmb := ?_, size := by rw [hsz']; simp only [MR.st, hms]; omega, main := ⟨G fr' cs', ?_, ⟨rfl, rfl, rfl, rfl⟩, hfm⟩, roles := ?_, chs := ?_, chn := ?_, chd := ?_, env := h.env, heldM := ⟨fun q hq => h.heldM.1 q (hs2 q hq), fun q hq => ?_⟩, held := ?_, far := ?_, d1 := ?_, d2 := ?_, ti := ?_, kn := ?_, seen := nL h.seen (sZ _), above := ?_ }
  · refine ⟨hm0, fun i h1 h3 => by simp only [upd_ne ρ _ (show i ≠ m + j by omega)]; exact h.cmb.old i h1 h3, fun j' hj' => ?_, fun hn => ?_, fun e => by cases e⟩
    · simp only [MR.st] at hj' ⊢
      rw [hms] at hj'
      by_cases e : j' = j
      · subst e
        rw [upd_same, upd_same, hchn, (hrc _).1]; exact .inr ⟨rfl, (hhr _).1, .inl rfl⟩
      have hj2 : j' < nsp ms := by omega
      rw [upd_ne _ _ e, upd_ne _ _ (by omega), hcho j' (by omega), (hrc _).1, (hhr _).1]; have := h.cmb.sd j' hj2; simp only [MR.st] at this; rw [(hrc _).2, (hhr _).2] at this; exact this
    have := hn.1; simp only [MR.st] at this; rw [(hhr 0).1] at this
    cases this
  · rw [Array.getElem?_push_lt (by simpa using h.pos), Array.getElem_setIfInBounds_self]
  · intro k z hk hz
    rw [hdeaf]
    by_cases hkm : k = m + j
    · subst hkm
      rw [Array.getElem?_push, if_pos (by simp [hsz])] at hz; obtain rfl := Option.some.inj hz; rw [upd_same, ← hsz, h.above _ (Nat.le_refl _)]; exact ⟨rfl, rfl, hF⟩
    rw [Array.getElem?_push, if_neg (by simp; omega), Array.getElem?_setIfInBounds_ne (by omega)] at hz; rw [upd_ne _ _ hkm]; exact h.roles k z hk hz
  · intro j' hj'
    simp only [MR.st] at hj' ⊢; rw [hms] at hj'
    by_cases e : j' = j
    · subst e; rw [upd_same, hchn]; exact ⟨0, tmc, h.heldM.1 _ hc⟩
    rw [upd_ne _ _ e, hcho j' (by omega)]; exact h.chs j' (show j' < nsp ms by omega)
  · intro j' hj' g
    simp only [MR.st] at hj' ⊢; rw [hms] at hj'
    by_cases e : j' = j
    · subst e
      rw [hchn]; refine ⟨fun ho => ?_, fun hr => ?_⟩
      · obtain ⟨h1, h3⟩ := own_new g c ho
        obtain rfl := h.d1 _ _ _ h1 ownc; exact hc2 (h3 rfl)
      rcases rd_new g c hr with h1 | ⟨_, h1 | h1⟩
      · exact h.d2 _ _ _ ownc h1
      · exact h.d2 _ _ _ ownc h1
      exact hc1 h1
    rw [hcho j' (by omega)]; have hj2 : j' < nsp ms := by omega
    refine ⟨fun ho => (h.chn j' hj2 g).1 (own_new g _ ho).1, fun hr => ?_⟩
    rcases rd_new g _ hr with h1 | ⟨_, h1 | h1⟩
    · exact (h.chn j' hj2 g).2 h1
    · exact (h.chn j' hj2 0).2 h1
    exact (h.chn j' hj2 0).1 (ownr _ h1)
  · intro hn
    simp only [MR.st] at hn ⊢; rw [hms] at hn; obtain rfl : j = 1 := by omega
    rw [hchn, hcho 0 (by omega)]; exact olds 0 (by omega)
  · rcases List.mem_append.1 hq with hq | hq
    · exact h.heldM.1 q (hs1 q hq)
    exact h.heldM.2 q hq
  · intro k hk hlt
    rw [hsz'] at hlt
    by_cases hkm : k = m + j
    · subst hkm; rw [upd_same]
      refine ⟨fun q hq => (by cases hq), fun q hq => ?_⟩
      rcases List.mem_append.1 hq with hq | hq
      · exact h.heldM.1 q (hs1 q hq)
      exact h.heldM.2 q hq
    rw [upd_ne _ _ hkm]; exact h.held k hk (by omega)
  · intro k hk
    rw [hsz'] at hk; rw [upd_ne _ _ (by omega)]; exact h.far k (by omega)
  · intro g g' k hg hg'
    exact h.d1 _ _ _ (own_new g k hg).1 (own_new g' k hg').1
  · intro g g' k hg hg'
    obtain ⟨h1, h3⟩ := own_new g k hg
    rcases rd_new g' k hg' with h4 | ⟨_, h4 | h4⟩
    · exact h.d2 _ _ _ h1 h4
    · exact h.d2 _ _ _ h1 h4
    obtain rfl := h.d1 _ _ _ h1 (ownr k h4); exact hdis k h4 (h3 rfl)
  · rw [hsz']
    refine ⟨hti.τle, hti.clean, fun g hg i a hi ha hm => ?_, fun g k ho i a hi ha hb => ?_, fun g k hr i a hi ha hw hb => ?_, hti.low, fun g hg => ?_⟩
    · rcases live_new g hg with hg | rfl
      · exact hti.pre g hg i a hi ha hm
      have hlt : i < t.size := Nat.lt_of_lt_of_le hi h.ti.τle; rw [touchAt_old hlt] at ha; exact knows_child i (h.ti.pre 0 (.inl rfl) i a hi ha hm)
    · exact hti.own_ g k (own_new g k ho).1 i a hi ha hb
    · have know0 : rdOf p (.run (B + 1) ms ro fr cs hp) ρ 0 k ∨ Has r1 k ∨ k = c → touchAt t i = some a → Knows t 0 i := by
        rintro (h1 | h1 | rfl) ha'
        · exact h.ti.rd 0 k (.inl h1) i a hi ha' hw hb
        · exact h.ti.own_ 0 k (ownr k h1) i a hi ha' hb
        exact h.ti.own_ 0 k ownc i a hi ha' hb
      rcases C6 ha with ⟨_, ha'⟩ | ⟨_, op, hop, _, hoa⟩
      rotate_left
      · rw [(hu op hop).1] at hoa; cases hoa
      rcases hr with hr | ⟨j', hj', rfl, rfl⟩
      · rcases rd_new g k hr with h1 | ⟨rfl | rfl, h1⟩
        · exact (h.ti.rd g k (.inl h1) i a hi ha' hw hb).app _
        · exact (know0 (h1.imp id .inl) ha').app _
        exact knows_child i (know0 (h1.imp id .inl) ha')
      simp only [MR.st] at hj' hb; rw [hms] at hj'
      by_cases e : j' = j
      · subst e
        rw [hchn] at hb; exact knows_child i (h.ti.own_ 0 c ownc i a hi ha' hb)
      rw [hcho j' (by omega)] at hb; exact (h.ti.rd (m + j') (ch ms j') (.inr ⟨j', show j' < nsp ms by omega, rfl, rfl⟩) i a hi ha' hw hb).app _
    rcases live_new g hg with hg | rfl
    · exact hti.hears g hg
    rw [hdeaf, ← hsz]; exact h.above _ (Nat.le_refl _)
  · intro i a ha hm
    rw [hsz']
    rcases C6 ha with ⟨_, ha'⟩ | ⟨_, op, hop, _, hoa⟩
    · obtain ⟨q, hq, hr⟩ := h.kn i a ha' hm
      refine ⟨q, hq.app _, hr.app live_old fun j' h1 h3 h4 => ?_⟩; simp only [MR.st] at h1 h3 ⊢; exact ⟨by rw [hms]; omega, hcho j' (by omega), by rw [upd_ne _ _ (by omega)]; exact h3, (hhr _).1⟩
    rw [(hu op hop).1] at hoa; cases hoa
  intro k hk; rw [hsz'] at hk; rw [hdeaf]; exact h.above k (by omega)
theorem kj8 {B : Nat} {ms ms' : Ms} {ro ro' : Hq} {fr fr' : Frame} {cs cs' : List Frame} {hp h2 : Hq} {R' : Role} (hu : unb p ms' + (2 * p.BW + 3) = unb p ms) (hn : 0 < m) (hw : R'.wt = 2 * p.BW + 2) (hsz : gs.size = m + nsp ms) (gs' : Array Goroutine) (hs' : gs'.size = gs.size + 1) :
    Wt p gs'.size (upd ρ (m + nsp ms) R') (.run B ms' ro' fr' cs' h2) < Wt p gs.size ρ (.run (B + 1) ms ro fr cs hp) := by
  have hsum : sumTo (gs.size + 1) (fun i => if i = 0 then 0 else (upd ρ (m + nsp ms) R' i).wt) = sumTo gs.size (fun i => if i = 0 then 0 else (ρ i).wt) + R'.wt := by
    simp only [sumTo]; rw [hsz, if_neg (by omega), upd_same]
    congr 1
    exact sumTo_congr fun k hk => by rw [upd_ne _ _ (by omega)]
  rw [hs']; simp only [Wt, MR.wt, MR.st]; rw [hsum, hw]
  omega
theorem InvD.runs (h : InvD p Goal m τ ρ M t gs w cl) : ∃ (i : Nat) (g : Goroutine), gs[i]? = some g ∧ g.status = .running := by
  have hsz := h.size; have hm0 := h.cmb.m0; obtain ⟨g0, h0, hm⟩ := h.main
  cases M with
  | run B ms ro fr cs hp => exact ⟨0, g0, h0, hm.1.1⟩
  | park B c d i j a b ro fr cs hp =>
    obtain ⟨j', hj', hh⟩ : ∃ j', j' < 2 ∧ hrd (MR.park B c d i j a b ro fr cs hp).st j' = false := by
      have hnb := h.cmb.nb
      cases h1 : hrd (MR.park B c d i j a b ro fr cs hp).st 0 with
      | false => exact ⟨0, by omega, h1⟩
      | true =>
        cases h2 : hrd (MR.park B c d i j a b ro fr cs hp).st 1 with
        | false => exact ⟨1, by omega, h2⟩
        | true => exact absurd ⟨h1, h2⟩ hnb
    obtain ⟨_, ht⟩ := h.cmb.wt_ rfl j' (by simpa [MR.st, nsp] using hj') hh; have hlt : m + j' < gs.size := by rw [hsz]; simp only [MR.st, nsp]; omega
    have hx : gs[m + j']? = some gs[m + j'] := Array.getElem?_eq_getElem hlt; have hr := h.roles (m + j') _ (by omega) hx; refine ⟨m + j', _, hx, ?_⟩; have ht' : (ρ (m + j')).tag = _ := ht
    cases hρ : ρ (m + j') <;> rw [hρ] at ht' hr <;> simp only [Role.tag] at ht' <;> cases ht'
    rw [hr.2.1]; rfl
theorem InvD.awake (h : InvD p Goal m τ ρ M t gs w cl) : ∀ g ∈ gs, Go.Conc.awake g := by
  intro g hg; obtain ⟨i, hi, rfl⟩ := Array.mem_iff_getElem.1 hg; have hx : gs[i]? = some gs[i] := Array.getElem?_eq_getElem hi
  rcases Nat.eq_zero_or_pos i with rfl | hpos
  · obtain ⟨g0, h0, hm⟩ := h.main
    rw [h0] at hx; rw [← Option.some.inj hx]
    cases M with
    | run B ms ro fr cs hp => exact awake_of (.inl hm.1.1)
    | park B c d i j a b ro fr cs hp => rw [hm.1]; exact awake_of (.inr (.inl rfl))
  have hr := h.roles i _ hpos hx
  cases hρ : ρ i with
  | quit n => rw [hρ] at hr; exact awake_of ((QuitsD.status hr).elim .inl fun e => .inr (.inr e))
  | run B j i c ro fr cs hp => rw [hρ] at hr; rw [hr.2.1]; exact awake_of (.inl rfl)
  | park B j i c ro fr cs hp => rw [hρ] at hr; obtain ⟨_, ⟨zz, e⟩, _⟩ := hr; rw [e]; exact awake_of (.inr (.inl rfl))
theorem sx5 {e : Event} (h : Calm e) : MemAct.ofEvent e ≠ .mark .disable ∧ MemAct.ofEvent e ≠ .mark .enable := by
  unfold MemAct.ofEvent
  split
  · exact ⟨by simp, by simp⟩
  · rename_i mm _ _
    exact ⟨fun e => h.1 (by cases e; rfl), fun e => h.2 (by cases e; rfl)⟩
  exact ⟨by simp, by simp⟩
theorem iq2 {ro hp : Hq} {es : Array Event} (h : ∀ e ∈ es, EvIn p ro hp e) (g fn : Nat) (pos : String) : ∀ op ∈ MemOp.ofEvents g fn pos es, op.act ≠ .mark .disable ∧ op.act ≠ .mark .enable := fun op hop => by
  obtain ⟨e, he, rfl⟩ := Go.Conc.mem_ofEvents hop; exact sx5 (h e he).1
theorem jq9 (g fn : Nat) (pos : String) (es : Array Event) : ∀ op ∈ MemOp.ofEvents g fn pos es, op.g = g := fun op hop => by
  obtain ⟨e, he, rfl⟩ := Go.Conc.mem_ofEvents hop
  rfl
theorem sj8 {ro hp : Hq} {es : Array Event} (h : ∀ e ∈ es, EvIn p ro hp e) (g fn : Nat) (pos : String) : ∀ op ∈ MemOp.ofEvents g fn pos es, ∀ x, op.act.touch? = some x → x.loc.isMemory = true → ∀ k, blk x.loc = some k → (x.write = false ∧ RdT p ro k) ∨ Has hp k := fun op hop x hx hm k hk => by
  obtain ⟨e, he, rfl⟩ := Go.Conc.mem_ofEvents hop; exact (h e he).2 x hx hm k hk
theorem kx9 {gs : Array Goroutine} {φ : Goroutine → Goroutine} (h : ∀ (i : Nat) (g : Goroutine), gs[i]? = some g → φ g = g) : gs.map φ = gs := by
  apply Array.ext_getElem?
  intro i; rw [Array.getElem?_map]
  cases hi : gs[i]? with
  | none => rfl
  | some g => rw [Option.map_some, h i g hi]
theorem InvD.mapped (h : InvD p Goal m τ ρ M t gs w cl) {w' : World} {hp hp' : Hq} (ht : Trn w w' hp hp') {g : Nat} (hown : ∀ k, Has hp k → ownOf M ρ g k) (a a' : Goroutine) : gs.map (woken p.P a a' w') = gs :=
  kx9 fun i x hx => h.still (fun j hj => ht.keep _ (h.chlt hj) fun hk => (h.chn j hj g).1 (hown _ hk)) a a' hx
theorem InvD.step_i (h : InvD p Goal m τ ρ M t gs w cl) {i : Nat} (hpos : 0 < i) {g : Goroutine} (hi : gs[i]? = some g) (hrun : g.status = .running) : Nx p Goal m τ (Wt p gs.size ρ M) t (runT p.P (crowd gs w sl) i) := by
  have hilt : i < gs.size := (Array.getElem?_eq_some_iff.1 hi).1; have hr := h.roles i g hpos hi; have hheld := h.held i hpos hilt
  cases hρ : ρ i with
  | quit n =>
    rw [hρ] at hr
    cases n with
    | zero => rw [hr.1] at hrun; cases hrun
    | succ n =>
      rcases hr with ⟨hf, _⟩ | ⟨_, g', es, hm, hstp, hq'⟩
      · rw [hf] at hrun; cases hrun
      have hrunT := runT_crowd_go (P := p.P) (sl := sl) hi (show stepG p.P (i == 0) g w = _ by rw [gz hpos]; exact hstp w); have hmap : gs.map (woken p.P g g' w) = gs := kx9 fun k x hx => h.still (fun j hj => rfl) g g' hx; rw [hmap] at hrunT; refine ⟨upd ρ i (.quit n), M, _, _, w, sl, cl, hrunT, h.slip hpos hi hρ (jq9 i _ _ es) (fun op hop => ?_) ?_, ?_⟩
      · obtain ⟨e, he, rfl⟩ := Go.Conc.mem_ofEvents hop
        exact Go.Conc.touch_mute (hm e he)
      · rw [Deaf_own]; exact hq'
      have := bj6 (p := p) (ρ := ρ) (M := M) hpos hilt (.quit n); rw [hρ] at this; simp only [Role.wt] at this; rw [Array.size_setIfInBounds]
      omega
  | park B j k c ro fr cs hp => rw [hρ] at hr; obtain ⟨_, ⟨zz, rfl⟩, _⟩ := hr; cases hrun
  | run B j k c ro fr cs hp =>
    rw [hρ] at hr hheld; obtain ⟨hd, rfl, hf⟩ := hr
    cases B with
    | zero => exact hf.elim
    | succ B =>
      rcases hf w h.env hheld.1 hheld.2 with ⟨fr', cs', w', es, hp', hst, hev, ht, hf'⟩ | ⟨hlt, zz, hst, hf'⟩ | ⟨hk, hwk, fr', cs', hst, hf'⟩
      · have hrunT := runT_crowd_go (P := p.P) (sl := sl) hi (show stepG p.P (i == 0) (G fr cs) w = _ by rw [gz hpos]; exact hst)
        have hown : ∀ k', Has hp k' → ownOf M ρ i k' := fun k' hk' => .inr ⟨hpos, by rw [hρ]; exact hk'⟩; rw [h.mapped ht hown] at hrunT; have htg : (ρ i).tag ≠ .quit := by rw [hρ]; simp [Role.tag]
        refine ⟨upd ρ i (.run B j k c ro fr' cs' hp'), M, _, _, w', sl, cl, hrunT, ?_, ?_⟩
        · refine h.act (h.live_of hpos hi htg) hown rfl rfl (fun k' => ?_) rfl (fun k' => ?_) (fun _ => rfl) (fun k' _ hk' => by rw [upd_ne _ _ hk']) (fun e => by omega) (fun _ => by rw [upd_same]; rfl) ht (jq9 i _ _ es) (iq2 hev i _ _) (fun op hop x hx hm k' hk' => (sj8 hev i _ _ op hop x hx hm k' hk').imp (fun q => ⟨q.1, .inr ⟨hpos, by rw [hρ]; exact q.2⟩⟩) id) (by simp) ?_ ?_
          · by_cases e : k' = i
            · subst e; rw [upd_same, hρ]; rfl
            rw [upd_ne _ _ e]
          · by_cases e : k' = i
            · subst e; rw [upd_same, hρ]; rfl
            rw [upd_ne _ _ e]
          · obtain ⟨g0, h0, hm⟩ := h.main
            exact ⟨g0, by rw [Array.getElem?_setIfInBounds_ne (by omega)]; exact h0, hm⟩
          intro k' x hk' hx
          rcases set1 hilt hx with ⟨rfl, rfl⟩ | ⟨h1, h3⟩
          · rw [upd_same]; exact ⟨hd, rfl, hf'⟩
          rw [upd_ne _ _ h1]; exact h.roles k' x hk' h3
        have := bj6 (p := p) (ρ := ρ) (M := M) hpos hilt (.run B j k c ro fr' cs' hp'); rw [hρ] at this; simp only [Role.wt] at this; rw [Array.size_setIfInBounds]
        omega
      · exact pz8 h hpos hi hρ hlt hst hf'
      exact mx1 h hpos hi hρ hk hwk hst hf'
theorem InvD.step_0 (h : InvD p Goal m τ ρ M t gs w cl) {g : Goroutine} (hi : gs[0]? = some g) (hrun : g.status = .running) : Nx p Goal m τ (Wt p gs.size ρ M) t (runT p.P (crowd gs w sl) 0) ∨ Fin p Goal t (runT p.P (crowd gs w sl) 0) := by
  obtain ⟨g0, h0, hm⟩ := h.main; rw [hi] at h0; obtain rfl := Option.some.inj h0
  cases M with
  | park B c d i j a b ro fr cs hp => obtain ⟨rfl, _⟩ := hm; cases hrun
  | run B ms ro fr cs hp =>
    obtain ⟨hlk, hf⟩ := hm
    cases B with
    | zero => exact hf.elim
    | succ B =>
      have hf0 := hf
      rcases hf w h.env h.heldM.1 h.heldM.2 with ⟨fr', cs', w', es, hp', hst, hev, ht, hf'⟩ | hc
      · refine .inl ?_
        have hrunT := runT_crowd_go (P := p.P) (sl := sl) hi (show stepG p.P (0 == 0) g w = _ from (hlk.step w).trans hst); have hown : ∀ k', Has hp k' → ownOf (.run (B + 1) ms ro fr cs hp) ρ 0 k' := fun k' hk' => .inl ⟨rfl, hk'⟩; rw [h.mapped ht hown] at hrunT; refine ⟨ρ, .run B ms ro fr' cs' hp', _, _, w', sl, cl, hrunT, ?_, ?_⟩
        · refine h.act (.inl rfl) hown rfl rfl (fun _ => rfl) rfl (fun _ => rfl) (fun e => absurd rfl e) (fun _ _ _ => rfl) (fun _ => rfl) (fun e => absurd rfl e) ht (jq9 0 _ _ es) (iq2 hev 0 _ _) (fun op hop x hx hm k' hk' => (sj8 hev 0 _ _ op hop x hx hm k' hk').imp (fun q => ⟨q.1, .inl ⟨rfl, q.2⟩⟩) id) (by simp) ⟨_, Array.getElem?_setIfInBounds_self_of_lt h.pos, ⟨rfl, rfl, rfl, rfl⟩, hf'⟩ ?_
          intro k' x hk' hx; rw [Array.getElem?_setIfInBounds_ne (by omega)] at hx; exact h.roles k' x hk' hx
        simp only [Wt, MR.wt, MR.st, Array.size_setIfInBounds]
        omega
      cases ms with
      | s0 =>
        obtain ⟨fr', cs', fc, c, tm, r1, h2, hst, a1, a2, a3, a4, a5, a6, a7, a8⟩ := hc; have hrunT := runT_crowd_spawn (P := p.P) (sl := sl) (i := 0) hi (show stepG p.P (0 == 0) g w = _ from (hlk.step w).trans hst); rw [ofE0] at hrunT; refine .inl ⟨_, _, _, _, _, sl, _, hrunT, hz1 (ms := .s0) (ms' := .s1 c) h ⟨rfl, rfl⟩ ⟨rfl, rfl⟩ rfl rfl (fun j hj => by cases hj) (fun j => ⟨rfl, rfl⟩) (fun j => ⟨rfl, rfl⟩) a8 a1 a2 a3 a4 a5 a6 a7, ?_⟩; exact kj8 (ms := .s0) (ms' := .s1 c) (by simp only [unb]; omega) h.cmb.m0 rfl h.size _ (by simp)
      | s1 c0 =>
        obtain ⟨fr', cs', fc, c, tm, r1, h2, hst, a1, a2, a3, a4, a5, a6, a7, a8⟩ := hc; have hrunT := runT_crowd_spawn (P := p.P) (sl := sl) (i := 0) hi (show stepG p.P (0 == 0) g w = _ from (hlk.step w).trans hst); rw [ofE0] at hrunT; refine .inl ⟨_, _, _, _, _, sl, _, hrunT, hz1 (ms := .s1 c0) (ms' := .ga c0 c 0 0 false false) h ⟨rfl, rfl⟩ ⟨rfl, rfl⟩ rfl rfl (fun j hj => ?_) (fun j => ?_) (fun j => ?_) a8 a1 a2 a3 a4 a5 a6 a7, ?_⟩
        · obtain rfl : j = 0 := by simp only [nsp] at hj; omega
          rfl
        · refine ⟨?_, rfl⟩
          simp only [rcv]; split <;> rfl
        · refine ⟨?_, rfl⟩
          simp only [hrd]; split <;> rfl
        exact kj8 (ms := .s1 c0) (ms' := .ga c0 c 0 0 false false) (by simp only [unb]; omega) h.cmb.m0 rfl h.size _ (by simp)
      | ga c d i j a b =>
        obtain ⟨hst, x1, x2, x3, x4, x5, x6⟩ := hc; exact case_ga h hi ((hlk.step w).trans hst) hf0 x1 x2 (px9 x1 x2 x3 x4 x5 x6)
theorem InvD.step (h : InvD p Goal m τ ρ M t gs w cl) : Nx p Goal m τ (Wt p gs.size ρ M) t (stepT p.P (crowd gs w sl)) ∨ Fin p Goal t (stepT p.P (crowd gs w sl)) := by
  obtain ⟨i, g, d, sl', hi, hrun, hst⟩ := crowd_pick (P := p.P) (w := w) (sl := sl) h.awake h.runs; rw [hst]
  rcases Nat.eq_zero_or_pos i with rfl | hpos
  · exact (h.at d).step_0 hi hrun
  exact .inl ((h.at d).step_i hpos hi hrun)
theorem InvD.run : ∀ (n : Nat) {ρ : Nat → Role} {M : MR} {t : Trace} {gs : Array Goroutine} {w : World} {cl : Nat → Bool} {sl : Option (Nat × Nat)}, InvD p Goal m τ ρ M t gs w cl → Wt p gs.size ρ M ≤ n →
    ∃ (N : Nat) (gs' : Array Goroutine) (g' : Goroutine) (w' : World) (sl' : Option (Nat × Nat)) (t' : Trace) (q' : Nat → Nat) (B' : Nat),
      runNT p.P N (crowd gs w sl) t = (.next (crowd gs' w' sl'), t') ∧ gs'[0]? = some g' ∧ Leavers p.P t' gs' q' ∧ Past noS B' t' ∧ Goal g' w' := by
  intro n
  induction n with
  | zero =>
    intro ρ M t gs w cl sl h hn
    exfalso
    have : 0 < M.wt := by cases M <;> simp only [MR.wt] <;> omega
    unfold Wt at hn
    omega
  | succ n ih =>
    intro ρ M t gs w cl sl h hn
    rcases h.step (sl := sl) with ⟨ρ', M', u, gs', w', sl', cl', hs, h', hlt⟩ | ⟨gs', g', w', sl', u, q', B', hs, h0, hL, hP, hco⟩
    · obtain ⟨N, gs2, g2, w2, sl2, t2, q2, B2, r2, hh⟩ := ih (sl := sl') h' (by omega)
      exact ⟨N + 1, gs2, g2, w2, sl2, t2, q2, B2, by simp only [runNT, hs]; exact r2, hh⟩
    obtain ⟨N, gs2, g2, w2, sl2, t2, q2, B2, r2, hh⟩ := hco w'.drawn gs' sl' _ q' B' h0 hL hP; exact ⟨N + 1, gs2, g2, w2, sl2, t2, q2, B2, by simp only [runNT, hs]; exact r2, hh⟩
theorem duo {B : Nat} {fr : Frame} {cs : List Frame} {hp : Hq} (hf : FolM p Goal B .s0 [] fr cs hp) (hheld : Held hp p.W) (hown : ∀ q ∈ hp, q.1 ∈ p.o) : Co p.P (G fr cs) p.W Goal := by
  intro d gs sl t q B0 h0 hLv hP; have henv : Sur p p.W := ⟨rfl, rfl, rfl, Nat.le_refl _, fun k _ _ => rfl⟩
  let ρ : Nat → Role := fun i => .quit (q i)
  have hm : 0 < gs.size := (Array.getElem?_eq_some_iff.1 h0).1
  have own0 : ∀ g k, ownOf (.run B .s0 [] fr cs hp) ρ g k → g = 0 ∧ k ∈ p.o := by
    rintro g k (⟨rfl, q, hq, rfl⟩ | ⟨_, q, hq, _⟩)
    · exact ⟨rfl, hown q hq⟩
    cases hq
  have rd0 : ∀ g k, rdOf p (.run B .s0 [] fr cs hp) ρ g k → k < p.W.heap.size ∧ k ∉ p.o := by
    rintro g k (⟨_, hk | ⟨q, hq, _⟩⟩ | ⟨_, hk | ⟨q, hq, _⟩⟩)
    · exact hk
    · cases hq
    · exact hk
    cases hq
  have live0 : ∀ g, liveOf gs.size gs.size ρ g → g = 0 := by
    rintro g (h | ⟨h1, h2, _⟩)
    · exact h
    omega
  have inv : InvD p Goal gs.size t.size ρ (.run B .s0 [] fr cs hp) t gs (p.W.at d) (fun _ => false) := by
    refine InvD.at (w := p.W) ?_ d
    refine { cmb := ⟨hm, fun i _ _ => rfl, fun j hj => (by cases hj), fun hn => (by cases hn.1), fun e => (by cases e)⟩, size := rfl, main := ⟨_, h0, ⟨rfl, rfl, rfl, rfl⟩, hf⟩, roles := fun i g hi hg => hLv.old i g hi hg, chs := fun j hj => (by cases hj), chn := fun j hj => (by cases hj), chd := fun e => (by cases e), env := henv, heldM := ⟨hheld, fun q hq => (by cases hq)⟩
             held := fun i _ _ => ⟨fun q hq => (by cases hq), fun q hq => (by cases hq)⟩, far := fun i _ => ⟨rfl, rfl⟩, d1 := fun g g' k h1 h2 => (own0 g k h1).1.trans (own0 g' k h2).1.symm, d2 := fun g g' k h1 h2 => (rd0 g' k h2).2 (own0 g k h1).2, ti := ?_, kn := ?_, seen := ⟨B0, hP.seen⟩, above := hLv.above }
    · refine ⟨Nat.le_refl _, hP.clean, fun g hg i a _ ha hm => ?_, fun g k _ i a hi ha _ => ?_, fun g k _ i a hi ha => ?_, fun i a k hi ha => ?_, fun g hg => by rw [live0 g hg]; exact hP.hears⟩
      · rw [live0 g hg]
        rcases hP.known i a ha hm with h1 | ⟨h1, _⟩
        · exact h1
        exact h1.elim
      all_goals
        obtain ⟨x, hx, _⟩ := touch_of ha; have := lt_size_of_getElem? hx
        omega
    intro i a ha hm
    rcases hP.known i a ha hm with ⟨q, z, h1, h2, h3⟩ | ⟨h1, _⟩
    · exact ⟨q, h3, z, h1, .inl (.inl h2)⟩
    exact h1.elim
  exact inv.run _ (Nat.le_refl _)
end
end Go.W
end
section
namespace Go.W
open Go Go.RowKit
theorem ptr_inj {a b : Nat} (h : Value.pointer (k5 a) = Value.pointer (k5 b)) : a = b := by cases h; rfl
section
variable {c : Cx} {Q : Exit → Act → World → Prop} {fr : Fr} {hp : Hp} {L : List Fact} {ops : Array Oper} {rest : List Oper}
variable {α : Type} [El α]
abbrev innerF (ps : List (Sl α)) : Fact := Facts (ps.map fun p => Row p.a (rows p.l))
end
end Go.W
end
section
namespace Go.W
open Go Go.RowKit
def notI (dd : TypeDesc) : Bool := match dd with | .interface _ => false | _ => true
def NoI (P : Program) (t : TypeId) : Prop := ∃ dd, P.underlying t = some dd ∧ notI dd = true
section
variable {c : Cx} {Q : Exit → Act → World → Prop} {fr : Fr} {hp : Hp} {L : List Fact} {ops : Array Oper} {rest : List Oper}
variable {d : Tmp} {ty : TypeId} {pos : String} {af : Array Edge}
/-! ### Interfaces -/
theorem vR {t : TypeId} {x : Operand} {v : Value} (hd : Nat.blt d c.n = true) (ht : NoI c.P t) (hx : ev fr x = some v) (k : HL c ops Q rest ((d, .iface t v) :: fr) hp L) : HL c ops Q (⟨some d, .makeInterface t x, ty, pos, af, none⟩ :: rest) fr hp L :=
  u5 _ rfl rfl hd (fun a w ha _ => by
    obtain ⟨dd, h1, h2⟩ := ht; simp only [execOp, ha.ev hx, Instr.makeInterface, Sem.run_bind, run_underlying h1, Result.andThen_ok]
    cases dd <;> first | rfl | cases h2) k
theorem nz6 {t xt : TypeId} {x : Operand} {v : Value} (hd : Nat.blt d c.n = true) (ht : NoI c.P t) (hx : ev fr x = some (.iface t v)) (k : HL c ops Q rest ((d, .tuple #[v, .bool true]) :: fr) hp L) : HL c ops Q (⟨some d, .typeAssert x xt t true, ty, pos, af, none⟩ :: rest) fr hp L :=
  u5 _ rfl rfl hd (fun a w ha _ => by
    obtain ⟨dd, h1, h2⟩ := ht; simp only [execOp, ha.ev hx, Instr.typeAssert, Sem.run_bind, run_underlying h1, Result.andThen_ok]
    cases dd <;> first | (cases h2; done) | simp) k
/-! ### Three results -/
theorem results3 {fn : Func} {t u v : Tmp} (h : fn.results = #[.tmp t, .tmp u, .tmp v]) (tmps : Array Value) (P : Program) (w : World) : (results fn tmps).run P w = .ok (.tuple #[tmps.getD t undef, tmps.getD u undef, tmps.getD v undef]) w := by
  simp [results, h]
theorem ret3 {β : Type} {k : Con β} {fn : Func} {w0 : World} (x : β) {t u v : Tmp} {v1 v2 v3 : Value} (hres : fn.results = #[.tmp t, .tmp u, .tmp v]) (hv1 : lk fr t = some v1) (hv2 : lk fr u = some v2) (hv3 : lk fr v = some v3) (hk : k.val x = .tuple #[v1, v2, v3]) (hb : c.b = k.entry w0) (hi : k.inv x) (h2 : (k.hpO x).Sublist hp) (h3 : LSub L (k.LO x)) (hD : c.D = [] := by exact rfl) :
    HQ c (postB c.P fn (k.post w0)) .ret fr hp L :=
  gV x (fun a w ha _ => by rw [results3 hres, ha.at_ _ _ hv1, ha.at_ _ _ hv2, ha.at_ _ _ hv3, hk]) hb hi h2 h3 hD
/-! ### Strings that are ranged over -/
abbrev iter (s : Str) (p : Nat) : Obj := .stringIter ⟨s.toArray⟩ p
def nextV (s : Str) (p : Nat) : Value := if p < s.length then .tuple #[.bool true, int p, .int .i32 ((Utf8.decode ⟨s.toArray⟩ p).1 : Nat)] else .tuple #[.bool false]
def nextP (s : Str) (p : Nat) : Nat := if p < s.length then p + (Utf8.decode ⟨s.toArray⟩ p).2 else p
end
/-! ### Small sets of bits -/
def u8 (m : Nat) : Value := .int .u8 (m : Int)
theorem wrap8 {m : Nat} (h : m < 256) : IntKind.u8.wrap (m : Int) = (m : Int) := by
  have h1 : 0 ≤ (m : Int) := by omega
  have h2 : (m : Int) < 256 := by omega
  simp only [IntKind.wrap, IntKind.bits, IntKind.signed]
  simp
  omega
section
variable {c : Cx} {Q : Exit → Act → World → Prop} {fr : Fr} {hp : Hp} {L : List Fact} {ops : Array Oper} {rest : List Oper}
variable {d : Tmp} {ty : TypeId} {pos : String} {af : Array Edge}
def diff8 (a b : Nat) : Nat := a &&& (255 - b)
end
/-! ### Rows whose elements have facts of their own -/
def RowsF {α : Type} [El α] (A : Option Addr) (ps : List α) (f : α → Fact) : Fact where
  P w := (Row A (rows ps)).P w ∧ ∀ p ∈ ps, (f p).P w
  fp k := (Row A (rows ps)).fp k ∨ ∃ p ∈ ps, (f p).fp k
  st w w' h hP := ⟨(Row A (rows ps)).st w w' (fun k hk => h k (.inl hk)) hP.1, fun p hp => (f p).st w w' (fun k hk => h k (.inr ⟨p, hp, hk⟩)) (hP.2 p hp)⟩
  lt w hP k hk := by
    rcases hk with hk | ⟨p, hp, hk⟩
    · exact (Row A (rows ps)).lt w hP.1 k hk
    exact (f p).lt w (hP.2 p hp) k hk
section
variable {c : Cx} {Q : Exit → Act → World → Prop} {fr : Fr} {hp : Hp} {L : List Fact} {ops : Array Oper} {rest : List Oper}
variable {α : Type} [El α] {A : Option Addr} {ps : List α} {f : α → Fact}
abbrev innersF (ps : List α) (f : α → Fact) : Fact := Facts (ps.map f)
end
end Go.W
end
section
namespace Go.W
open Go Go.RowKit
section
variable {c : Cx} {Q : Exit → Act → World → Prop} {fr : Fr} {hp : Hp} {L : List Fact} {ops : Array Oper} {rest : List Oper}
variable {d : Tmp} {ty : TypeId} {pos : String} {af : Array Edge}
theorem hl_eff {o : Oper} (ho : o.dst = none) (hg : o.guard = none)
    (h : ∀ a w, Ok c a fr → WI c.b w hp L → ∃ v w' hp' L', (execOp a.eval o).run c.P w = .ok (.value v) w' ∧ WI c.b w' hp' L' ∧ HL c ops Q rest fr hp' L') (hok : okOp o = true := by exact rfl) : HL c ops Q (o :: rest) fr hp L := by
  intro a w ha hw; refine W3 hg fun K hK => fun d0 => ⟨bj2 hok _, ?_⟩; obtain ⟨v, w', hp', L', hr, hw', hk⟩ := h a (w.at d0) ha (hw.at d0); rw [hr, sT, ho]; exact hK _ _ (hk _ _ ha hw')
theorem bM {t e : TypeId} {x i : Operand} {g o n sz : Nat} {kd : IntKind} {z : Int} (j q : Nat) (hd : Nat.blt d c.n = true) (ht : c.P.underlying t = some (.array n e)) (hz : Sz c.P e sz)
    (hx : ev fr x = some (.pointer (some ⟨g, o, none⟩))) (hi : ev fr i = some (.int kd z)) (hjz : z = (j : Int)) (hj : j < n) (hq : o + j * sz = q)
    (k : HL c ops Q rest ((d, .pointer (some ⟨g, q, none⟩)) :: fr) hp L) : HL c ops Q (⟨some d, .indexAddr t x i, ty, pos, af, none⟩ :: rest) fr hp L :=
  u5 _ rfl rfl hd (fun a w ha hw => by
    subst hjz
    have hr : (Instr.indexAt t (.pointer (some ⟨g, o, none⟩)) (.int kd (j : Int))).run c.P w = .ok (.pointer (some ⟨g, q, none⟩)) w := by
      subst hq
      simp [Instr.indexAt, asIntOf, run_underlying ht, U8 hz, hj, Instr.sureAddr, iU]
    simp only [execOp, ha.ev hx, ha.ev hi, Sem.run_bind, hr, Result.andThen_ok, Sem.run_pure]) k
/-! ### Loops that leave marks -/
def AgainM {β : Type} (s : Sta β) (ds : β → List Nat) (μ : β → Nat) (m : Nat) (P : Program) (n : Nat) (b : Bx) (a : Act) (w : World) : Prop := ∃ y, s.inv y ∧ μ y < m ∧ Ok ⟨P, n, b, (ds y).map markOf, none⟩ a (s.fr y) ∧ WI b w (shutM (ds y) ++ s.hp y) (s.L y)
end
end Go.W
end
section
namespace Go.W
open Go Go.RowKit Go.Conc
section
/-! ### The words of a walk that communicates: the same aS9 of any other -/
def kw (c : Cx) (x : Code) (Q : Exit → Act → World → Prop) : Act → World → Prop := cw c x Q
def KC (c : Cx) (x : Code) (Q : Exit → Act → World → Prop) (fr : Fr) (hp : Hp) (L : List Fact) : Prop := HC c x Q fr hp L
def KL (c : Cx) (ops : Array Oper) (Q : Exit → Act → World → Prop) (l : List Nat) (fr : Fr) (hp : Hp) (L : List Fact) : Prop := ∀ a w, Ok c a fr → WI c.b w hp L → wpI c.P ops Q l a w
variable {c : Cx} {Q : Exit → Act → World → Prop} {fr : Fr} {hp : Hp} {L : List Fact} {ops : Array Oper}
variable {i : Nat} {rest : List Nat} {d : Tmp} {ty : TypeId} {pos : String} {af : Array Edge}
abbrev chanO (cap : Nat) (buf : List Value) (s r : Nat) : Obj := .chan cap buf.toArray false s r false
end
section
variable {c : Cx} {Q : Exit → Act → World → Prop} {fr : Fr} {hp : Hp} {L : List Fact} {ops : Array Oper} {rest : List Oper}
variable {d : Tmp} {ty : TypeId} {pos : String} {af : Array Edge}
end
/-! ### Slices that grow from nothing, whose cells are written -/
section
def GrowE (e : TypeId) (sz : Nat) (A : Option Addr) (n cap : Nat) (xs : List Value) (og : Hp) : Prop := Grow e sz A n cap xs og ∨ (n = 0 ∧ cap = 0 ∧ xs = [] ∧ og = [])
theorem GrowE.grow {e : TypeId} {sz n cap : Nat} {A : Option Addr} {xs : List Value} {og : Hp} (h : GrowE e sz A n cap xs og) (hn : 0 < n) : Grow e sz A n cap xs og := by
  rcases h with h | ⟨h, _⟩
  · exact h
  omega
theorem GrowE.le {e : TypeId} {sz n cap : Nat} {A : Option Addr} {xs : List Value} {og : Hp} (h : GrowE e sz A n cap xs og) : n ≤ cap := by
  rcases h with h | ⟨h, h2, _⟩
  · exact h.le
  omega
theorem GrowE.blk {e : TypeId} {sz n cap : Nat} {A : Option Addr} {xs : List Value} {og : Hp} (h : GrowE e sz A n cap xs og) (hn : 0 < n) : ∃ g cur, A = some ⟨g, 0, none⟩ ∧ og = [(g, .cells cur e (0, 0))] ∧ n ≤ cap ∧ cap ≤ maxLen ∧ cur.size = cap * sz ∧ cur.toList.take (n * sz) = xs := by
  rcases (h.grow hn).2 with ⟨_, h1, _⟩ | h1
  · omega
  exact h1
variable {c : Cx} {Q : Exit → Act → World → Prop} {fr : Fr} {hp : Hp} {L : List Fact} {ops : Array Oper} {rest : List Oper}
variable {d : Tmp} {ty : TypeId} {pos : String} {af : Array Edge}
/-! ### Cells of rows that are written -/
theorem own_f {α : Type} [El α] {cur : Array Value} {l : List α} {k f q : Nat} {v : Value} (h : cur.toList.take (l.length * El.sz α) = rows l) (hk : k < l.length) (hq : q = k * El.sz α + f) (hv : (El.cells (l.getD k default))[f]? = some v) : cur[q]? = some v := by
  subst hq; have h2 := rows_get (j := f) hk hv; rw [← h, List.getElem?_take] at h2
  split at h2
  · simpa using h2
  cases h2
end
section
variable {c : Cx} {Q : Exit → Act → World → Prop} {fr : Fr} {hp : Hp} {L : List Fact} {ops : Array Oper} {rest : List Oper} {ty : TypeId} {pos : String} {af : Array Edge}
theorem kq5 {t : TypeId} {x y : Operand} {g o : Nat} {old cs : Array Value} {e : TypeId} {hp' : Hp} (hx : ev fr x = some (.pointer (some ⟨g, o, none⟩))) (hy : ev fr y = some (.agg cs)) (hpp : hp.Perm ((g, .cells old e (0, 0)) :: hp'))
    (hz : Sz c.P t cs.size) (ho : o + cs.size ≤ old.size) (h1 : cs.toList.all (·.oneCell') = true)
    (k : HL c ops Q rest fr ((g, .cells (old.toList.take o ++ cs.toList ++ old.toList.drop (o + cs.size)).toArray e (0, 0)) :: hp') L) : HL c ops Q (⟨none, .store t x y, ty, pos, af, none⟩ :: rest) fr hp L :=
  cz7 rfl rfl fun a w ha hw => by
    have hw' := hw.perm hpp; have hg := hw'.own (g, .cells old e (0, 0)) (by simp); simp only at hg; have hst := run_storeCells_at (P := c.P) g o e cs.toList 0 old w hg (by simpa using ho) (fun v hv => List.all_eq_true.1 h1 v hv); simp only [Nat.add_zero, Array.length_toList] at hst
    have hrun : (storeVar t ⟨g, o, none⟩ (.agg cs)).run c.P w = .ok () (w.setRow g (old.toList.take o ++ cs.toList ++ old.toList.drop (o + cs.size)).toArray) := by
      unfold Sz at hz
      cases hq : c.P.info? t with
      | none => simp [hq] at hz
      | some i =>
        have hs : cs.size = i.size := by simp [hq] at hz; omega
        simp [storeVar, sizeOf, typeInfo, hq, Value.cells, hs, hst]
    refine ⟨w.setRow g (old.toList.take o ++ cs.toList ++ old.toList.drop (o + cs.size)).toArray, _, L, ?_, hw'.write (xE _) (setRow_heap w g old _ e (0, 0) hg), k⟩; simp only [execOp, ha.ev hx, ha.ev hy, Instr.storeAt, Instr.sureAddr, Sem.run_bind, Sem.run_pure, Result.andThen_ok, hrun]
end
theorem aj7 {α : Type} [El α] {a : α} : ∀ {l : List α} {k : Nat}, k < l.length → (rows l).take (k * El.sz α) ++ El.cells a ++ (rows l).drop (k * El.sz α + El.sz α) = rows (l.set k a)
  | [], k, hk => by simp at hk
  | b :: l, 0, _ => by
    show (El.cells b ++ rows l).take _ ++ El.cells a ++ (El.cells b ++ rows l).drop _ = El.cells a ++ rows l; rw [Nat.zero_mul, List.take_zero, List.nil_append, Nat.zero_add, ← El.len b, List.drop_left]
  | b :: l, k + 1, hk => by
    have ih := aj7 (a := a) (l := l) (k := k) (by simpa using hk); show (El.cells b ++ rows l).take _ ++ El.cells a ++ (El.cells b ++ rows l).drop _ = El.cells b ++ rows (l.set k a); have e1 : (k + 1) * El.sz α = (El.cells b).length + k * El.sz α := by rw [El.len, Nat.add_mul]; omega
    rw [e1, List.take_length_add_append, Nat.add_assoc, List.drop_length_add_append, ← ih]
    simp [List.append_assoc]
theorem hq9 {α : Type} [El α] {a : α} {k cap : Nat} {l : List α} {cur : Array Value} (hk : k < l.length) (hl : l.length ≤ cap) (hs : cur.size = cap * El.sz α) (h : cur.toList.take (l.length * El.sz α) = rows l) : (cur.toList.take (k * El.sz α) ++ El.cells a ++ cur.toList.drop (k * El.sz α + El.sz α)).take ((l.set k a).length * El.sz α) = rows (l.set k a) ∧ (cur.toList.take (k * El.sz α) ++ El.cells a ++ cur.toList.drop (k * El.sz α + El.sz α)).length = cap * El.sz α := by
  have h1 : (k + 1) * El.sz α ≤ l.length * El.sz α := Nat.mul_le_mul_right _ (by omega); have h2 : l.length * El.sz α ≤ cap * El.sz α := Nat.mul_le_mul_right _ hl; rw [Nat.add_mul, Nat.one_mul] at h1; have hc : cur.toList = rows l ++ cur.toList.drop (l.length * El.sz α) := by rw [← h, List.take_append_drop]
  have hrl := O9 l
  constructor
  · rw [← aj7 hk, List.length_set]
    have e1 : cur.toList.take (k * El.sz α) = (rows l).take (k * El.sz α) := by rw [← h, List.take_take, Nat.min_eq_left (by omega)]
    have e2 : cur.toList.drop (k * El.sz α + El.sz α) = (rows l).drop (k * El.sz α + El.sz α) ++ cur.toList.drop (l.length * El.sz α) := by
      conv => lhs; rw [hc]
      rw [List.drop_append_of_le_length (by rw [hrl]; omega)]
    rw [e1, e2, ← List.append_assoc]; refine List.take_left' ?_; rw [aj7 hk, O9, List.length_set]
  have hcl : cur.toList.length = cap * El.sz α := by rw [Array.length_toList, hs]
  rw [List.length_append, List.length_append, List.length_take, List.length_drop, El.len, hcl]
  omega
end Go.W
end
