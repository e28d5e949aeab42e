/- Texts. -/

import Derived.Test.YtpfbbggmcbhboaaBAa
set_option linter.unusedVariables false
set_option linter.unusedSimpArgs false
section
namespace Go.W
open Go Go.Conc
open Go.ConcN (sumTo upd sumTo_upd upd_ne upd_same le_sumTo sumTo_congr)
section
variable {p : Dh} {Goal : Goroutine → World → Prop} {m τ : Nat} {ρ : Nat → Role} {M : MR} {t u : Trace} {gs : Array Goroutine} {w : World} {cl : Nat → Bool} {sl : Option (Nat × Nat)}
/-! ### Weights -/
theorem wsum_upd {i n : Nat} (hpos : 0 < i) (hi : i < n) (R' : Role) : sumTo n (fun k => if k = 0 then 0 else (upd ρ i R' k).wt) + (ρ i).wt = sumTo n (fun k => if k = 0 then 0 else (ρ k).wt) + R'.wt := by
  have h := sumTo_upd (fun k => if k = 0 then 0 else (ρ k).wt) R'.wt id hi; simp only [id, if_neg (show ¬ i = 0 by omega)] at h; rw [← h]
  congr 1
  refine sumTo_congr fun k _ => ?_
  by_cases hk : k = i
  · subst hk; rw [upd_same, upd_same, if_neg (by omega)]
  · rw [upd_ne ρ R' hk, upd_ne _ _ hk]
theorem Wt_upd {i n : Nat} (hpos : 0 < i) (hi : i < n) (R' : Role) : Wt p n (upd ρ i R') M + (ρ i).wt = Wt p n ρ M + R'.wt := by
  have := wsum_upd (ρ := ρ) hpos hi R'; unfold Wt; omega
theorem tag_upd (ρ : Nat → Role) (i : Nat) (R : Role) : (fun k => (upd ρ i R k).tag) = upd (fun k => (ρ k).tag) i R.tag := by
  funext k
  by_cases hk : k = i
  · subst hk; rw [upd_same, upd_same]
  · rw [upd_ne ρ R hk, upd_ne _ _ hk]
/-! ### Who offers what -/
theorem selc_send (a : Bool) (c : Nat) (z : Value) : (selc a c z).send = none := by cases a <;> rfl
theorem selc_chan {a : Bool} {c x : Nat} {z : Value} (h : (selc a c z).chan = .chan (some x)) : a = false ∧ c = x := by
  cases a with
  | true => cases h
  | false => exact ⟨rfl, by simpa [selc, rcase] using h⟩
theorem off_sel {g : Goroutine} {a b : Bool} {c d x : Nat} {z : Value} {sh : CommShape} {bb : Bool} (h : offersAt (parked g #[selc a c z, selc b d z] sh) x bb ≠ []) : bb = false ∧ ((a = false ∧ c = x) ∨ (b = false ∧ d = x)) := by
  have hmem : ∀ cc ∈ #[selc a c z, selc b d z], cc = selc a c z ∨ cc = selc b d z := fun cc hcc => by simpa using hcc
  cases bb with
  | true => rw [offersAt_parked_sends (fun cc hcc => by rcases hmem cc hcc with rfl | rfl <;> exact selc_send _ _ _)] at h; exact absurd rfl h
  | false =>
    refine ⟨rfl, Classical.byContradiction fun hn => h (offersAt_parked_off (fun cc hcc e => ?_) false)⟩
    rcases hmem cc hcc with rfl | rfl
    · exact hn (.inl (selc_chan e))
    · exact hn (.inr (selc_chan e))
theorem at_sel {g : Goroutine} {st : Ms} {c d i k : Nat} {a b : Bool} {z : Value} {sh : CommShape} (hst : st = .ga c d i k a b) (hcd : c ≠ d) {j : Nat} (hj : j < 2) (hh : hrd st j = false) : offersAt (parked g #[selc a c z, selc b d z] sh) (ch st j) false = [j] ∧ #[selc a c z, selc b d z][j]? = some (rcase (ch st j) z) := by
  subst hst; have h2 : j = 0 ∨ j = 1 := by omega
  rcases h2 with rfl | rfl
  · simp only [hrd, if_true] at hh
    subst hh; have e : #[selc false c z, selc b d z][0]? = some (rcase c z) := rfl; refine ⟨offersAt_parked_at (z := z) e fun m cc hm hcc hx => ?_, rfl⟩
    have : m = 1 := by
      have := (Array.getElem?_eq_some_iff.1 hcc).1
      simp at this
      omega
    subst this; obtain rfl : selc b d z = cc := by simpa using hcc
    exact hcd (selc_chan hx).2.symm
  · simp only [hrd] at hh
    obtain rfl : b = false := by simpa using hh
    have e : #[selc a c z, selc false d z][1]? = some (rcase d z) := rfl; refine ⟨offersAt_parked_at (z := z) e fun m cc hm hcc hx => ?_, rfl⟩
    have : m = 0 := by
      have := (Array.getElem?_eq_some_iff.1 hcc).1
      simp at this
      omega
    subst this; obtain rfl : selc a c z = cc := by simpa using hcc
    exact hcd (selc_chan hx).2
theorem InvD.off (h : InvD p Goal m τ ρ M t gs w cl) {k : Nat} {x : Goroutine} (hk : gs[k]? = some x) {c : Nat} {b : Bool} (hne : offersAt x c b ≠ []) :
    (k = 0 ∧ M.waits = true ∧ b = false ∧ ∃ j, j < nsp M.st ∧ hrd M.st j = false ∧ c = ch M.st j) ∨ (0 < k ∧ b = true ∧ ∃ j, k = m + j ∧ j < nsp M.st ∧ (ρ k).tag = .park j (rcv M.st j) (ch M.st j) ∧ c = ch M.st j) := by
  have run : x.status = .running ∨ x.status = .finished → False := fun hs => hne (offersAt_of_not_blocked (by rcases hs with hs | hs <;> rw [hs] <;> simp) c b)
  rcases Nat.eq_zero_or_pos k with rfl | hpos
  · obtain ⟨g0, h0, hm⟩ := h.main
    rw [h0] at hk; obtain rfl := Option.some.inj hk
    cases M with
    | run B ms ro fr cs hp => exact (run (.inl hm.1.1)).elim
    | park B c' d i j a b' ro fr cs hp =>
      obtain ⟨rfl, _⟩ := hm; obtain ⟨rfl, h1⟩ := off_sel hne; refine .inl ⟨rfl, rfl, rfl, ?_⟩
      rcases h1 with ⟨h1, h2⟩ | ⟨h1, h2⟩
      · exact ⟨0, by simp [MR.st, nsp], by simp [MR.st, hrd, h1], h2.symm⟩
      · exact ⟨1, by simp [MR.st, nsp], by simp [MR.st, hrd, h1], h2.symm⟩
  · have hr := h.roles k x hpos hk
    cases hρ : ρ k with
    | quit n => rw [hρ] at hr; exact (run (QuitsD.status hr)).elim
    | run B j i c ro fr cs hp => rw [hρ] at hr; obtain ⟨_, rfl, _⟩ := hr; exact (run (.inl rfl)).elim
    | park B j i c' ro fr cs hp =>
      rw [hρ] at hr; obtain ⟨_, ⟨zz, rfl⟩, _⟩ := hr; obtain ⟨j', e, hj, hcl, _, ht⟩ := h.cmb.idx hpos (h.lt_nsp hk) (by show (ρ k).tag ≠ _; rw [hρ]; simp [Role.tag]); have ht' : (ρ k).tag = .run j' (rcv M.st j') (ch M.st j') ∨ (ρ k).tag = .park j' (rcv M.st j') (ch M.st j') := ht; rw [hρ] at ht'; simp only [Role.tag] at ht'
      rcases ht' with e2 | e2
      · cases e2
      obtain ⟨rfl, rfl, rfl⟩ := Tag.park.inj e2
      cases b with
      | false => rw [offersAt_parked_send'] at hne; exact absurd rfl hne
      | true =>
        rw [offersAt_parked_send] at hne
        by_cases hc : ch M.st j = c
        · exact .inr ⟨hpos, rfl, j, e, hj, rfl, hc.symm⟩
        · rw [if_neg hc] at hne; exact absurd rfl hne
theorem InvD.nobody (h : InvD p Goal m τ ρ M t gs w cl) (i : Nat) {c : Nat} {b : Bool} (hno : ∀ k x, k ≠ i → gs[k]? = some x → ¬ ((k = 0 ∧ M.waits = true ∧ b = false ∧ ∃ j, j < nsp M.st ∧ hrd M.st j = false ∧ c = ch M.st j) ∨ (0 < k ∧ b = true ∧ ∃ j, k = m + j ∧ j < nsp M.st ∧ (ρ k).tag = .park j (rcv M.st j) (ch M.st j) ∧ c = ch M.st j))) :
    partners (gs.setIfInBounds i ph) c b = [] := by
  refine Go.Conc.partners_nil fun j x hj => ?_
  rcases getElem?_stand gs i j x hj with ⟨rfl, rfl⟩ | ⟨hne, hx⟩
  · exact offersAt_ph c b
  · exact Classical.byContradiction fun hn => hno j x hne hx (h.off hx hn)
theorem InvD.chi (h : InvD p Goal m τ ρ M t gs w cl) {i j : Nat} (hi : i < nsp M.st) (hj : j < nsp M.st) (e : ch M.st i = ch M.st j) : i = j := by
  have h2 := nsp_le M.st
  by_cases hij : i = j
  · exact hij
  · have hn : nsp M.st = 2 := by omega
    have := h.chd hn; have hc : (i = 0 ∧ j = 1) ∨ (i = 1 ∧ j = 0) := by omega
    rcases hc with ⟨rfl, rfl⟩ | ⟨rfl, rfl⟩
    · exact absurd e this
    · exact absurd e.symm this
/-! ### What a communication leaves -/
theorem InvD.comm (h : InvD p Goal m τ ρ M t gs w cl) {ρ' : Nat → Role} {M' : MR} {gs' : Array Goroutine} {w' : World} {cl' : Nat → Bool}
    (hlive : ∀ g, liveOf m gs.size ρ' g → liveOf m gs.size ρ g) (hfar : ∀ i, gs.size ≤ i → (ρ' i).hp = [] ∧ (ρ' i).ro = [])
    (hcmb : Cmb p m (fun i => (ρ' i).tag) M'.st M'.waits cl') (hsz : gs'.size = gs.size) (hnsp : nsp M'.st = nsp M.st) (hch : ∀ j, j < nsp M.st → ch M'.st j = ch M.st j)
    (hmain : ∃ g, gs'[0]? = some g ∧ MainOK p Goal g M') (hroles : ∀ i g, 0 < i → gs'[i]? = some g → RoleOK p (Deaf t i) g (ρ' i))
    (hchs : ∀ j, j < nsp M.st → ∃ f tm, w'.heap[ch M.st j]? = some (.chan 0 #[] (cl' j) f f tm))
    (hos : w'.os = w.os) (htape : w'.tape = w.tape) (hout : w'.output = w.output) (hwsz : w'.heap.size = w.heap.size) (hblk : ∀ k, (∀ j, j < nsp M.st → k ≠ ch M.st j) → w'.heap[k]? = w.heap[k]?)
    (hhM : (∀ q ∈ M'.hp, q ∈ M.hp) ∧ ∀ q ∈ M'.ro, q ∈ M.ro) (hhr : ∀ i, 0 < i → (∀ q ∈ (ρ' i).hp, q ∈ (ρ i).hp) ∧ ∀ q ∈ (ρ' i).ro, q ∈ (ρ i).ro)
    (hti : TV (t ++ u) τ w.heap.size (ownOf M ρ) (rdx p m M ρ) (liveOf m gs.size ρ)) (hdeaf : ∀ k, Deaf (t ++ u) k = Deaf t k)
    (hnew : ∀ j op a, u[j]? = some op → op.act.touch? = some a → ∃ q', Before (t ++ u) (t.size + j) q' ∧ Root (t ++ u) (liveOf m gs.size ρ') M'.st cl' q') (hroot : ∀ q, Root t (liveOf m gs.size ρ) M.st cl q → ∃ q', Before (t ++ u) q q' ∧ Root (t ++ u) (liveOf m gs.size ρ') M'.st cl' q') :
    InvD p Goal m τ ρ' M' (t ++ u) gs' w' cl' := by
  have hown : ∀ g k, ownOf M' ρ' g k → ownOf M ρ g k := by
    rintro g k (⟨rfl, q, hq, e⟩ | ⟨hg, q, hq, e⟩)
    · exact .inl ⟨rfl, q, hhM.1 q hq, e⟩
    · exact .inr ⟨hg, q, (hhr g hg).1 q hq, e⟩
  have hrd : ∀ g k, rdOf p M' ρ' g k → rdOf p M ρ g k := by
    rintro g k (⟨rfl, hk | ⟨q, hq, e⟩⟩ | ⟨hg, hk | ⟨q, hq, e⟩⟩)
    · exact .inl ⟨rfl, .inl hk⟩
    · exact .inl ⟨rfl, .inr ⟨q, hhM.2 q hq, e⟩⟩
    · exact .inr ⟨hg, .inl hk⟩
    · exact .inr ⟨hg, .inr ⟨q, (hhr g hg).2 q hq, e⟩⟩
  have hrx : ∀ g k, rdx p m M' ρ' g k → rdx p m M ρ g k := by
    rintro g k (hk | ⟨j, hj, e1, e2⟩)
    · exact .inl (hrd g k hk)
    · rw [hnsp] at hj
      exact .inr ⟨j, hj, e1, by rw [e2, hch j hj]⟩
  have kO : ∀ g k, ownOf M ρ g k → w'.heap[k]? = w.heap[k]? := fun g k ho => hblk k fun j hj e => (h.chn j hj g).1 (e ▸ ho); have kR : ∀ g k, rdOf p M ρ g k → w'.heap[k]? = w.heap[k]? := fun g k ho => hblk k fun j hj e => (h.chn j hj g).2 (e ▸ ho)
  refine { cmb := hcmb, size := by rw [hsz, hnsp]; exact h.size, main := hmain, roles := fun i g hi hg => by rw [hdeaf]; exact hroles i g hi hg
           chs := fun j hj => by rw [hnsp] at hj; rw [hch j hj]; exact hchs j hj
           chn := fun j hj g => by rw [hnsp] at hj; rw [hch j hj]; exact ⟨fun ho => (h.chn j hj g).1 (hown _ _ ho), fun ho => (h.chn j hj g).2 (hrd _ _ ho)⟩
           chd := fun e => by rw [hnsp] at e; rw [hch 0 (by omega), hch 1 (by omega)]; exact h.chd e
           env := ⟨hos.trans h.env.os, htape.trans h.env.tape, hout.trans h.env.output, by rw [hwsz]; exact h.env.size, fun k hk h1 => (kR 0 k (h.base ⟨hk, h1⟩ 0)).trans (h.env.block k hk h1)⟩
           heldM := ⟨fun q hq => (kO 0 q.1 (hown 0 q.1 (.inl ⟨rfl, q, hq, rfl⟩))).trans (h.heldM.1 q (hhM.1 q hq)), fun q hq => (kR 0 q.1 (hrd 0 q.1 (.inl ⟨rfl, .inr ⟨q, hq, rfl⟩⟩))).trans (h.heldM.2 q (hhM.2 q hq))⟩
           held := fun i hi hlt => ⟨fun q hq => (kO i q.1 (hown i q.1 (.inr ⟨hi, q, hq, rfl⟩))).trans ((h.held i hi (hsz ▸ hlt)).1 q ((hhr i hi).1 q hq)), fun q hq => (kR i q.1 (hrd i q.1 (.inr ⟨hi, .inr ⟨q, hq, rfl⟩⟩))).trans ((h.held i hi (hsz ▸ hlt)).2 q ((hhr i hi).2 q hq))⟩
           far := by rw [hsz]; exact hfar, d1 := fun g g' k h1 h2 => h.d1 g g' k (hown _ _ h1) (hown _ _ h2), d2 := fun g g' k h1 h2 => h.d2 g g' k (hown _ _ h1) (hrd _ _ h2)
           ti := by rw [hsz, hwsz]; exact hti.weak hown hrx hlive (Nat.le_refl _)
           kn := ?_, seen := seen_more h.seen (seen_ops u), above := fun j hj => by rw [hdeaf]; exact h.above j (hsz ▸ hj) }
  intro i a ha hm; rw [hsz]
  rcases touch_app ha with ⟨_, ha'⟩ | ⟨hge, op, hop, hat, hoa⟩
  · obtain ⟨q, hq, hr⟩ := h.kn i a ha' hm
    obtain ⟨q', hq', hr'⟩ := hroot q hr; exact ⟨q', (hq.app u).trans hq', hr'⟩
  · have e : (t ++ u)[t.size + (i - t.size)]? = some op := by rw [show t.size + (i - t.size) = i by omega]; exact hat
    rw [Array.getElem?_append_right (by omega)] at e; have := hnew (i - t.size) op a (by rw [← e]; congr 1; omega) hoa
    rwa [show t.size + (i - t.size) = i by omega] at this
theorem before_po {t u : Trace} {q j : Nat} {x y : MemOp} (hx : t[q]? = some x) (hj : t.size ≤ j) (hy : (t ++ u)[j]? = some y) (hg : x.g = y.g) : Before (t ++ u) q j :=
  .inr (hb_po (Nat.lt_of_lt_of_le (lt_size_of_getElem? hx) hj) (by rw [getElem?_append_old (lt_size_of_getElem? hx)]; exact hx) hy hg)
theorem app_at {t u : Trace} (j : Nat) : (t ++ u)[t.size + j]? = u[j]? := by rw [Array.getElem?_append_right (by omega)]; congr 1; omega
theorem InvD.heard_new (h : InvD p Goal m τ ρ M t gs w cl) {g : Nat} (hg : liveOf m gs.size ρ g) (hu : Mild u) {j : Nat} {op : MemOp} (hj : u[j]? = some op) (hop : op.g = g) : (t ++ u).heard (t.size + j) := by
  have hjl : j < u.size := lt_size_of_getElem? hj; exact heard_of (by rw [app_at]; exact hj) hop (deaf_at (h.ti.hears g hg) (fun op hop => (hu op hop).2) (by omega) (by simp; omega))
def Nx (p : Dh) (Goal : Goroutine → World → Prop) (m τ n : Nat) (t : Trace) (x : Stepped × Array MemOp) : Prop :=
  ∃ (ρ' : Nat → Role) (M' : MR) (u : Trace) (gs' : Array Goroutine) (w' : World) (sl' : Option (Nat × Nat)) (cl' : Nat → Bool), x = (.next (crowd gs' w' sl'), u) ∧ InvD p Goal m τ ρ' M' (t ++ u) gs' w' cl' ∧ Wt p gs'.size ρ' M' < n
theorem chan_at {c cap : Nat} {buf : Array Value} {b : Bool} {s r : Nat} {tm : Bool} (hc : c < w.heap.size) : (w.setChan c cap buf b s r tm).heap[c]? = some (.chan cap buf b s r tm) := by simp [World.setChan, hc]
theorem chan_ne {c k cap : Nat} {buf : Array Value} {b : Bool} {s r : Nat} {tm : Bool} (hk : k ≠ c) : (w.setChan c cap buf b s r tm).heap[k]? = w.heap[k]? := by
  simp only [World.setChan]; exact Array.getElem?_setIfInBounds_ne (fun e => hk e.symm)
theorem chan_size {c cap : Nat} {buf : Array Value} {b : Bool} {s r : Nat} {tm : Bool} : (w.setChan c cap buf b s r tm).heap.size = w.heap.size := by simp [World.setChan]
theorem ofE0 (g fn : Nat) (pos : String) : MemOp.ofEvents g fn pos #[] = #[] := rfl
theorem gz {i : Nat} (hpos : 0 < i) : (i == 0) = false := by simp; omega
theorem set2 {gs : Array Goroutine} {i j k : Nat} {x y z : Goroutine} (hij : i ≠ j) (hi : i < gs.size) (hj : j < gs.size) (h : ((gs.setIfInBounds j y).setIfInBounds i x)[k]? = some z) : (k = i ∧ z = x) ∨ (k = j ∧ z = y) ∨ (k ≠ i ∧ k ≠ j ∧ gs[k]? = some z) := by
  by_cases hki : k = i
  · subst hki
    rw [Array.getElem?_setIfInBounds_self_of_lt (by simpa using hi)] at h; exact .inl ⟨rfl, (Option.some.inj h).symm⟩
  · rw [Array.getElem?_setIfInBounds_ne (Ne.symm hki)] at h
    by_cases hkj : k = j
    · subst hkj
      rw [Array.getElem?_setIfInBounds_self_of_lt hj] at h; exact .inr (.inl ⟨rfl, (Option.some.inj h).symm⟩)
    · rw [Array.getElem?_setIfInBounds_ne (Ne.symm hkj)] at h
      exact .inr (.inr ⟨hki, hkj, h⟩)
theorem set1 {gs : Array Goroutine} {i k : Nat} {x z : Goroutine} (hi : i < gs.size) (h : (gs.setIfInBounds i x)[k]? = some z) : (k = i ∧ z = x) ∨ (k ≠ i ∧ gs[k]? = some z) := by
  by_cases hki : k = i
  · subst hki
    rw [Array.getElem?_setIfInBounds_self_of_lt hi] at h; exact .inl ⟨rfl, (Option.some.inj h).symm⟩
  · rw [Array.getElem?_setIfInBounds_ne (Ne.symm hki)] at h
    exact .inr ⟨hki, h⟩
theorem live_upd {i n : Nat} {R' : Role} (hT : R'.tag ≠ .quit → (ρ i).tag ≠ .quit) (g : Nat) (h : liveOf m n (upd ρ i R') g) : liveOf m n ρ g := by
  rcases h with h | ⟨h1, h2, h3⟩
  · exact .inl h
  · refine .inr ⟨h1, h2, ?_⟩
    by_cases hg : g = i
    · subst hg; rw [upd_same] at h3; exact hT h3
    · rw [upd_ne _ _ hg] at h3; exact h3
theorem live_keep {i n : Nat} {R' : Role} (hT : R'.tag ≠ .quit) (g : Nat) (h : liveOf m n ρ g) : liveOf m n (upd ρ i R') g := by
  rcases h with h | ⟨h1, h2, h3⟩
  · exact .inl h
  · refine .inr ⟨h1, h2, ?_⟩
    by_cases hg : g = i
    · subst hg; rw [upd_same]; exact hT
    · rw [upd_ne _ _ hg]; exact h3
theorem far_upd (hfar : ∀ k, gs.size ≤ k → (ρ k).hp = [] ∧ (ρ k).ro = []) {i : Nat} (hi : i < gs.size) (R' : Role) : ∀ k, gs.size ≤ k → (upd ρ i R' k).hp = [] ∧ (upd ρ i R' k).ro = [] := fun k hk => by
  rw [upd_ne _ _ (by omega)]; exact hfar k hk
theorem hp_upd {i : Nat} {R' : Role} (h1 : ∀ q ∈ R'.hp, q ∈ (ρ i).hp) (h2 : ∀ q ∈ R'.ro, q ∈ (ρ i).ro) (k : Nat) : (∀ q ∈ (upd ρ i R' k).hp, q ∈ (ρ k).hp) ∧ ∀ q ∈ (upd ρ i R' k).ro, q ∈ (ρ k).ro := by
  by_cases hk : k = i
  · subst hk; rw [upd_same]; exact ⟨h1, h2⟩
  · rw [upd_ne _ _ hk]; exact ⟨fun q hq => hq, fun q hq => hq⟩
theorem root_same {live' : Nat → Prop} {st' : Ms} {cl' : Nat → Bool} (hl : ∀ g, liveOf m gs.size ρ g → live' g) (hc : ∀ j, j < nsp M.st → cl j = true → hrd M.st j = false → j < nsp st' ∧ ch st' j = ch M.st j ∧ cl' j = true ∧ hrd st' j = false) {u : Trace} (q : Nat) (hq : Root t (liveOf m gs.size ρ) M.st cl q) : ∃ q', Before (t ++ u) q q' ∧ Root (t ++ u) live' st' cl' q' :=
  ⟨q, .inl rfl, hq.app hl hc⟩
theorem mild4 {a b : MemOp} {c e : MemOp} (ha : ∃ x y, a.act = .send x y) (hb : ∃ x y z, b.act = .recv x y z) (hc : ∃ x y, c.act = .sendDone x y) (hd : ∃ x y, e.act = .recvDone x y) : Mild #[a, b, c, e] := by
  intro op hop; obtain ⟨_, _, ha⟩ := ha; obtain ⟨_, _, _, hb⟩ := hb; obtain ⟨_, _, hc⟩ := hc; obtain ⟨_, _, hd⟩ := hd
  simp at hop
  rcases hop with rfl | rfl | rfl | rfl
  · rw [ha]; simp [MemAct.touch?]
  · rw [hb]; simp [MemAct.touch?]
  · rw [hc]; simp [MemAct.touch?]
  · rw [hd]; simp [MemAct.touch?]
def Ms.got : Ms → Nat → Ms
  | .ga c d i k a b, j => if j = 0 then .ga c d (i + 1) k a b else .ga c d i (k + 1) a b
  | s, _ => s
theorem got_nsp (s : Ms) (j : Nat) : nsp (s.got j) = nsp s := by
  cases s <;> simp only [Ms.got]
  split <;> rfl
theorem got_ch (s : Ms) (j k : Nat) : ch (s.got j) k = ch s k := by
  cases s <;> simp only [Ms.got]
  split <;> rfl
theorem got_hrd (s : Ms) (j k : Nat) : hrd (s.got j) k = hrd s k := by
  cases s <;> simp only [Ms.got]
  split <;> rfl
theorem got_same {s : Ms} {j : Nat} (h : nsp s = 2) (hj : j < 2) : rcv (s.got j) j = rcv s j + 1 := by
  cases s <;> simp only [nsp] at h <;> first | omega | skip
  have h2 : j = 0 ∨ j = 1 := by omega
  rcases h2 with rfl | rfl <;> simp [Ms.got, rcv]
theorem got_ne {s : Ms} {j k : Nat} (h : nsp s = 2) (hj : j < 2) (hk : k < 2) (hjk : k ≠ j) : rcv (s.got j) k = rcv s k := by
  cases s <;> simp only [nsp] at h <;> first | omega | skip
  have h2 : (j = 0 ∧ k = 1) ∨ (j = 1 ∧ k = 0) := by omega
  rcases h2 with ⟨rfl, rfl⟩ | ⟨rfl, rfl⟩ <;> simp [Ms.got, rcv]
theorem Cmb.deliver {c : Nat → Tag} {st : Ms} {wt : Bool} (h : Cmb p m c st wt cl) (h2 : nsp st = 2) {j : Nat} (hj : j < 2) (hh : hrd st j = false) (hcl : cl j = false) : Cmb p m (upd c (m + j) (.run j (rcv st j + 1) (ch st j))) (st.got j) false cl := by
  refine ⟨h.m0, fun i h1 h3 => by rw [upd_ne _ _ (by omega)]; exact h.old i h1 h3, fun k hk => ?_, by rw [got_hrd, got_hrd]; exact h.nb, fun e => by cases e⟩; rw [got_nsp] at hk
  by_cases hkj : k = j
  · subst hkj
    rw [upd_same, got_hrd, got_ch, got_same h2 hj]; exact .inr ⟨hcl, hh, .inl rfl⟩
  · rw [upd_ne _ _ (by omega), got_hrd, got_ch, got_ne h2 hj (by omega) hkj]
    exact h.sd k hk
theorem Cmb.parkS {c : Nat → Tag} {st : Ms} (h : Cmb p m c st false cl) {j : Nat} (hj : j < nsp st) (hh : hrd st j = false) (hcl : cl j = false) : Cmb p m (upd c (m + j) (.park j (rcv st j) (ch st j))) st false cl := by
  refine ⟨h.m0, fun i h1 h3 => by rw [upd_ne _ _ (by omega)]; exact h.old i h1 h3, fun k hk => ?_, h.nb, fun e => by cases e⟩
  by_cases hkj : k = j
  · subst hkj; rw [upd_same]; exact .inr ⟨hcl, hh, .inr rfl⟩
  · rw [upd_ne _ _ (by omega)]; exact h.sd k hk
theorem Cmb.shut {c : Nat → Tag} {st : Ms} {wt : Bool} (h : Cmb p m c st wt cl) {j : Nat} (hj : j < nsp st) (hn : rcv st j = p.n j) : Cmb p m (upd c (m + j) .quit) st false (upd cl j true) := by
  refine ⟨h.m0, fun i h1 h3 => by rw [upd_ne _ _ (by omega)]; exact h.old i h1 h3, fun k hk => ?_, h.nb, fun e => by cases e⟩
  by_cases hkj : k = j
  · subst hkj; rw [upd_same, upd_same]; exact .inl ⟨rfl, rfl, hn⟩
  · rw [upd_ne _ _ (by omega), upd_ne _ _ hkj]; exact h.sd k hk
theorem sel_res0 (a b : Bool) (c d : Nat) (z v : Value) (ok : Bool) : commResult #[selc a c z, selc b d z] .select ((0 : Nat) : Int) v ok = .tuple #[goInt 0, .bool ok, v, z] := by
  cases a <;> cases b <;> simp [commResult, selc, rcase, List.zipIdx_cons]
theorem sel_res1 (a b : Bool) (c d : Nat) (z v : Value) (ok : Bool) : commResult #[selc a c z, selc b d z] .select ((1 : Nat) : Int) v ok = .tuple #[goInt 1, .bool ok, z, v] := by
  cases a <;> cases b <;> simp [commResult, selc, rcase, List.zipIdx_cons]
theorem fin_sel (P : Program) (fr : Frame) (cs : List Frame) (cases : Array CommCase) (k : Int) (v : Value) (ok : Bool) : (G fr cs).finishComm P cases .select k v ok = Go.Conc.served (G fr cs) (commResult cases .select k v ok) := rfl
/-! ### One of them stands at a send -/
theorem case_send (h : InvD p Goal m τ ρ M t gs w cl) {i B j k c : Nat} {ro : Hq} {fr : Frame} {cs : List Frame} {hp : Hq} {zz : Value} (hpos : 0 < i) (hi : gs[i]? = some (G fr cs)) (hρ : ρ i = .run (B + 1) j k c ro fr cs hp)
    (hlt : k < p.n j) (hst : stepG p.P false (G fr cs) w = .comm (G fr cs) #[scase c (p.v j k) zz] true .send w #[]) (hf : FolS p j c ro B (k + 1) (fr.finish undef) cs hp) : Nx p Goal m τ (Wt p gs.size ρ M) t (runT p.P (crowd gs w sl) i) := by
  have hilt : i < gs.size := (Array.getElem?_eq_some_iff.1 hi).1; have htag : (ρ i).tag = .run j k c := by rw [hρ]; rfl
  have hrole := h.roles i _ hpos hi; rw [hρ] at hrole; obtain ⟨hd, _, _⟩ := hrole; obtain ⟨j', rfl, hjn, hcl, hh, ht⟩ := h.cmb.idx hpos (h.lt_nsp hi) (by show (ρ i).tag ≠ _; rw [htag]; simp); have ht' : (ρ (m + j')).tag = .run j' (rcv M.st j') (ch M.st j') ∨ (ρ (m + j')).tag = .park j' (rcv M.st j') (ch M.st j') := ht; rw [htag] at ht'
  rcases ht' with e | e
  rotate_left
  · cases e
  obtain ⟨rfl, rfl, rfl⟩ := Tag.run.inj e; have hst' : stepG p.P (m + j == 0) (G fr cs) w = .comm (G fr cs) #[scase (ch M.st j) (p.v j (rcv M.st j)) zz] true .send w #[] := by rw [gz hpos]; exact hst
  obtain ⟨f, tm, hF⟩ := h.chs j hjn; rw [hcl] at hF; have hFsz := h.chlt hjn; have hlv : liveOf m gs.size ρ (m + j) := h.live_of hpos hi (by rw [htag]; simp); have hm0 := h.cmb.m0; obtain ⟨g0, h0, hm⟩ := h.main
  cases hM : M with
  | park BM c0 d0 i0 k0 a b roM frM csM hpM =>
    -- goroutine 0 waits for it
    have hst2 : M.st = .ga c0 d0 i0 k0 a b := by rw [hM]; rfl
    have hn2 : nsp M.st = 2 := by rw [hst2]; rfl
    have hcd : c0 ≠ d0 := by have := h.chd hn2; rw [hst2] at this; simpa [ch] using this
    have hw : M.waits = true := by rw [hM]; rfl
    rw [hM] at hm; obtain ⟨rfl, hfm, hga, hgb⟩ := hm; have hj2 : j < 2 := by omega
    obtain ⟨hoff, hcs⟩ := at_sel (g := G frM csM) (z := p.z) (sh := .select) hst2 hcd hj2 hh
    have hpart : partners (gs.setIfInBounds (m + j) ph) (ch M.st j) false = [(0, j)] := by
      rw [partners_one (stand_get (i := m + j) (j := 0) (by omega) h0) (fun k' x' hk' hx' => ?_), hoff]
      · rfl
      · rcases getElem?_stand gs _ k' x' hx' with ⟨rfl, rfl⟩ | ⟨_, hx2⟩
        · exact offersAt_ph _ _
        · exact Classical.byContradiction fun hn => by
            rcases h.off hx2 hn with ⟨e, _⟩ | ⟨_, e, _⟩
            · exact hk' e
            · cases e
    have hrun := crowd_send_meets_sel (P := p.P) (sl := sl) hi hst' hF (by omega) h0 hcs hpart; rw [finishComm_send, ofE0] at hrun
    obtain ⟨frN, hfin, hfN⟩ : ∃ frN, (G frM csM).finishComm p.P #[selc a c0 p.z, selc b d0 p.z] .select ((j : Nat) : Int) (p.v j (rcv M.st j)) true = Go.Conc.served (G frM csM) frN ∧ FolM p Goal BM (M.st.got j) roM (frM.finish frN) csM hpM := by
      rw [hst2] at hlt hh ⊢; have h2 : j = 0 ∨ j = 1 := by omega
      rcases h2 with rfl | rfl
      · refine ⟨.tuple #[goInt 0, .bool true, p.v 0 i0, p.z], ?_, hga (by simpa [hrd] using hh) hlt⟩
        rw [fin_sel, sel_res0]; rfl
      · refine ⟨.tuple #[goInt 1, .bool true, p.z, p.v 1 k0], ?_, hgb (by simpa [hrd] using hh) hlt⟩
        rw [fin_sel, sel_res1]; rfl
    rw [hfin] at hrun; have hRhp : ∀ q ∈ (Role.run B j (rcv M.st j + 1) (ch M.st j) ro (fr.finish undef) cs hp).hp, q ∈ (ρ (m + j)).hp := by rw [hρ]; exact fun q hq => hq
    have hRro : ∀ q ∈ (Role.run B j (rcv M.st j + 1) (ch M.st j) ro (fr.finish undef) cs hp).ro, q ∈ (ρ (m + j)).ro := by rw [hρ]; exact fun q hq => hq
    refine ⟨upd ρ (m + j) (.run B j (rcv M.st j + 1) (ch M.st j) ro (fr.finish undef) cs hp), .run BM (M.st.got j) roM (frM.finish frN) csM hpM, _, _, _, sl, cl, hrun, ?_, ?_⟩
    · have hu := mild4 (a := { g := m + j, fn := (G fr cs).frame.fn, pos := (G fr cs).frame.place, act := .send (ch M.st j) f }) (b := { g := 0, fn := (G frM csM).frame.fn, pos := (G frM csM).frame.place, act := .recv (ch M.st j) f 0 }) (c := { g := m + j, fn := (G fr cs).frame.fn, pos := (G fr cs).frame.place, act := .sendDone (ch M.st j) f }) (e := { g := 0, fn := (G frM csM).frame.fn, pos := (G frM csM).frame.place, act := .recvDone (ch M.st j) f }) ⟨_, _, rfl⟩ ⟨_, _, _, rfl⟩ ⟨_, _, rfl⟩ ⟨_, _, rfl⟩
      refine h.comm (live_upd fun _ => by rw [htag]; simp) (far_upd h.far hilt _) ?_ (by simp) (got_nsp _ _) (fun j' _ => got_ch _ _ _) ⟨Go.Conc.served (G frM csM) frN, ?_, ⟨rfl, rfl, rfl, rfl⟩, hfN⟩ ?_ ?_ rfl rfl rfl chan_size (fun k' hk' => chan_ne (hk' j hjn)) ⟨fun q hq => by rw [hM]; exact hq, fun q hq => by rw [hM]; exact hq⟩ (fun k' _ => hp_upd hRhp hRro k') (h.ti.mild hu) (fun k' => deaf_mild (fun op hop => (hu op hop).2) k') (fun j' op a' hj' ha' => by rw [(hu op (Array.mem_of_getElem? hj')).1] at ha'; cases ha') (root_same (live_keep (by simp [Role.tag])) fun j' h1 h3 h4 => ⟨by rw [got_nsp]; exact h1, got_ch _ _ _, h3, by rw [got_hrd]; exact h4⟩)
      · rw [tag_upd]; exact h.cmb.deliver hn2 hj2 hh hcl
      · rw [Array.getElem?_setIfInBounds_ne (by omega), Array.getElem?_setIfInBounds_self_of_lt h.pos]
      · intro k' x hk hx
        rcases set2 (by omega) hilt h.pos hx with ⟨rfl, rfl⟩ | ⟨rfl, _⟩ | ⟨h1, h2, h3⟩
        · rw [upd_same]; exact ⟨hd, rfl, hf⟩
        · omega
        · rw [upd_ne ρ _ h1]; exact h.roles k' x hk h3
      · intro j' hj'
        by_cases e2 : j' = j
        · subst e2; rw [hcl]; exact ⟨_, _, chan_at hFsz⟩
        · rw [chan_ne (fun e3 => e2 (h.chi hj' hjn e3))]; exact h.chs j' hj'
    · have h1 := Wt_upd (p := p) (ρ := ρ) (M := M) hpos hilt (.run B j (rcv M.st j + 1) (ch M.st j) ro (fr.finish undef) cs hp)
      rw [hρ] at h1; have e1 : unb p (M.st.got j) = 0 := by rw [hst2]; simp only [Ms.got]; split <;> rfl
      have e2 : unb p M.st = 0 := by rw [hst2]; rfl
      have e3 : M.wt = 2 * BM + 3 := by rw [hM]; rfl
      simp only [Role.wt, Wt, MR.wt, e1, e2, e3, Array.size_setIfInBounds, show (MR.run BM (M.st.got j) roM (frM.finish frN) csM hpM).st = M.st.got j from rfl] at h1 ⊢; rw [← hM] at *
      omega
  | run BM ms roM frM csM hpM =>
    have hw : M.waits = false := by rw [hM]; rfl
    have hno : partners (gs.setIfInBounds (m + j) ph) (ch M.st j) false = [] := h.nobody _ fun k' x hk hx => by
      rintro (⟨_, e, _⟩ | ⟨_, e, _⟩)
      · rw [hw] at e; cases e
      · cases e
    have hrun := crowd_waits (P := p.P) (sl := sl) hi hst' (fun cc hcc => by
      obtain rfl : cc = scase (ch M.st j) (p.v j (rcv M.st j)) zz := by simpa using hcc
      exact ⟨made_send _ _ hF, by simp [ways, scase, hF, hno]⟩)
    rw [ofE0] at hrun; refine ⟨upd ρ (m + j) (.park B j (rcv M.st j) (ch M.st j) ro fr cs hp), M, _, _, _, sl, cl, hrun, ?_, ?_⟩
    · refine h.comm (live_upd fun _ => by rw [htag]; simp) (far_upd h.far hilt _) ?_ (by simp) rfl (fun _ _ => rfl) ⟨g0, ?_, hm⟩ ?_ h.chs rfl rfl rfl rfl (fun k' _ => rfl) ⟨fun q hq => hq, fun q hq => hq⟩ (fun k' _ => hp_upd (by rw [hρ]; exact fun q hq => hq) (by rw [hρ]; exact fun q hq => hq) k') (h.ti.mild (fun op hop => by simp at hop)) (fun k' => deaf_mild (fun op hop => by simp at hop) k') (fun j' op a' hj' _ => by simp at hj') (root_same (live_keep (by simp [Role.tag])) fun j' h1 h3 h4 => ⟨h1, rfl, h3, h4⟩)
      · rw [tag_upd, hw]; have hc := h.cmb; rw [hw] at hc; exact hc.parkS hjn hh hcl
      · rw [Array.getElem?_setIfInBounds_ne (by omega)]; exact h0
      · intro k' x hk hx
        rcases set1 hilt hx with ⟨rfl, rfl⟩ | ⟨h1, h3⟩
        · rw [upd_same]; exact ⟨hd, ⟨zz, rfl⟩, hlt, hf⟩
        · rw [upd_ne ρ _ h1]; exact h.roles k' x hk h3
    · have h1 := Wt_upd (p := p) (ρ := ρ) (M := M) hpos hilt (.park B j (rcv M.st j) (ch M.st j) ro fr cs hp)
      rw [hρ] at h1; rw [← hM]; simp only [Role.wt, Array.size_setIfInBounds] at h1 ⊢
      omega
end
end Go.W
end
section
namespace Go.W
open Go Go.Conc
open Go.ConcN (sumTo upd sumTo_upd upd_ne upd_same le_sumTo sumTo_congr)
theorem pick_run {P : Program} {w : World} (rd : List (Nat × CommCase × List Way)) (hne : rd ≠ []) (h1 : ∀ x ∈ rd, ∃ y, x.2.2 = [y]) :
    ∃ x y dr, x ∈ rd ∧ x.2.2 = [y] ∧ ((do
      let a ← choose (.select rd.length)
      let (k, c, ws) := rd.getD a (0, default, [])
      let b ← choose (.extern "which waiting goroutine is the partner" ws.length)
      pure (k, c, ws.getD b .closed)) : Sem (Nat × CommCase × Way)).run P w = .ok (x.1, x.2.1, y) (w.at dr) := by
  have hpos : 0 < rd.length := List.length_pos_iff.2 hne
  have rest : ∀ a, a < rd.length → ∀ (w : World), ∃ x y, x ∈ rd ∧ x.2.2 = [y] ∧ ((do
      let (k, c, ws) := rd.getD a (0, default, [])
      let b ← choose (.extern "which waiting goroutine is the partner" ws.length)
      pure (k, c, ws.getD b .closed)) : Sem (Nat × CommCase × Way)).run P w = .ok (x.1, x.2.1, y) w := by
    intro a ha w; have hx : rd.getD a (0, default, []) = rd[a] := by rw [List.getD_eq_getElem?_getD, List.getElem?_eq_getElem ha]; rfl
    obtain ⟨y, hy⟩ := h1 rd[a] (List.getElem_mem ha); refine ⟨rd[a], y, List.getElem_mem ha, hy, ?_⟩; rw [hx]; generalize rd[a] = zz at hy ⊢; obtain ⟨k, c, ws⟩ := zz; obtain rfl : ws = [y] := hy
    show Sem.run P (Sem.bind (choose (.extern "which waiting goroutine is the partner" 1)) _) w = _
    have hf : (Question.extern "which waiting goroutine is the partner" 1).forced = true := rfl
    simp only [choose, Sem.bind, Sem.run, hf, if_true]
    rfl
  by_cases hl : rd.length = 1
  · obtain ⟨x, y, hx, hy, hr⟩ := rest 0 (by omega) w
    refine ⟨x, y, w.drawn, hx, hy, ?_⟩; show Sem.run P (Sem.bind (choose (.select rd.length)) _) w = _; have hf : (Question.select rd.length).forced = true := by simp [Question.forced, hl]
    simp only [choose, Sem.bind, Sem.run, hf, if_true]; exact hr
  · have hf : (Question.select rd.length).forced = false := by simp [Question.forced]; omega
    have hb : (Question.select rd.length).cut (w.tape w.drawn (Question.select rd.length)) < rd.length := by
      simp only [Question.cut]; exact Nat.mod_lt _ hpos
    obtain ⟨x, y, hx, hy, hr⟩ := rest _ hb (w.at (w.drawn + 1)); refine ⟨x, y, w.drawn + 1, hx, hy, ?_⟩; show Sem.run P (Sem.bind (choose (.select rd.length)) _) w = _; simp only [choose, Sem.bind, Sem.run, hf, Bool.false_eq_true, if_false]; exact hr
section
variable {P : Program} {gs : Array Goroutine} {w w₁ : World} {sl : Option (Nat × Nat)} {i : Nat} {g g₂ : Goroutine} {es : Array Event} {shape : CommShape} {cases : Array CommCase}
theorem crowd_sel_pick (hi : gs[i]? = some g) (h : stepG P (i == 0) g w = .comm g₂ cases true shape w₁ es) (hill : ∀ cc ∈ cases, illMade w₁ cc = false) {rd : List (Nat × CommCase × List Way)}
    (hrd : ((cases.zipIdx.toList.map fun (x : CommCase × Nat) => (x.2, x.1, ways w₁ (gs.setIfInBounds i ph) x.1)).filter fun x => !x.2.2.isEmpty) = rd) (hne : rd ≠ []) (h1 : ∀ x ∈ rd, ∃ y, x.2.2 = [y]) :
    ∃ x y dr, x ∈ rd ∧ x.2.2 = [y] ∧
      (∀ c z cap cl s r tm j k, x.2.1 = rcase c z → w₁.heap[c]? = some (.chan cap #[] cl s r tm) → y = .partner j k →
        runT P (crowd gs w sl) i = (.next (crowd ((finishPartner P (gs.setIfInBounds i ph) j k undef).setIfInBounds i (g₂.finishComm P cases shape x.1 (offeredValue (gs.setIfInBounds i ph) j k) true)) ((w₁.at dr).setChan c cap #[] cl (s + 1) (r + 1) tm) sl),
          MemOp.ofEvents i g.frame.fn g.frame.place es ++ #[{ g := j, fn := ((gs.setIfInBounds i ph).getD j default).frame.fn, pos := ((gs.setIfInBounds i ph).getD j default).frame.place, act := .send c s }, { g := i, fn := g₂.frame.fn, pos := g₂.frame.place, act := .recv c r cap },
            { g := j, fn := ((gs.setIfInBounds i ph).getD j default).frame.fn, pos := ((gs.setIfInBounds i ph).getD j default).frame.place, act := .sendDone c s }, { g := i, fn := g₂.frame.fn, pos := g₂.frame.place, act := .recvDone c r }])) ∧
      (∀ c z, x.2.1 = rcase c z → y = .closed →
        runT P (crowd gs w sl) i = (.next (crowd (gs.setIfInBounds i (g₂.finishComm P cases shape x.1 z false)) (w₁.at dr) sl),
          MemOp.ofEvents i g.frame.fn g.frame.place es ++ #[{ g := i, fn := g₂.frame.fn, pos := g₂.frame.place, act := .recvClosed c }])) := by
  obtain ⟨x, y, dr, hx, hy, hr⟩ := pick_run (P := P) (w := w₁) rd hne h1; have hre : rd.isEmpty = false := by cases rd with | nil => exact absurd rfl hne | cons _ _ => rfl
  have hcomm := runT_crowd_comm (sl := sl) hi h; generalize hgs : gs.setIfInBounds i ph = gs1 at *; refine ⟨x, y, dr, hx, hy, fun c z cap cl s r tm j k hc hh hyj => ?_, fun c z hc hyj => ?_⟩
  · subst hyj
    rw [hc] at hr; have hc2 : (w₁.at dr).heap[c]? = some (.chan cap #[] cl s r tm) := hh; rw [hcomm]; unfold communicate; simp only []; rw [if_neg (by rw [Bool.not_eq_true]; exact any_ill hill)]; rw [hrd]; simp only [hre, Bool.false_eq_true, if_false]; rw [hr]; have e1 : (rcase c z).chan = .chan (some c) := rfl; have e2 : (rcase c z).send = none := rfl; simp only [e1, e2, hc2]
    rfl
  · subst hyj
    rw [hc] at hr; rw [hcomm]; unfold communicate; simp only []; rw [if_neg (by rw [Bool.not_eq_true]; exact any_ill hill)]; rw [hrd]; simp only [hre, Bool.false_eq_true, if_false]; rw [hr]; have e1 : (rcase c z).chan = .chan (some c) := rfl; have e2 : (rcase c z).zero = z := rfl; simp only [e1, e2]; rw [← hgs, set_stand]
    rfl
end
end Go.W
end
section
namespace Go.W
open Go Go.Conc
open Go.ConcN (sumTo upd sumTo_upd upd_ne upd_same le_sumTo sumTo_congr)
section
variable {p : Dh} {Goal : Goroutine → World → Prop} {m τ : Nat} {ρ : Nat → Role} {M : MR} {t u : Trace} {gs : Array Goroutine} {w : World} {cl : Nat → Bool} {sl : Option (Nat × Nat)}
theorem before_new {x y : MemOp} {q j : Nat} (hx : t[q]? = some x) (hy : u[j]? = some y) (hg : x.g = y.g) : Before (t ++ u) q (t.size + j) := before_po hx (by omega) (by rw [app_at]; exact hy) hg
theorem case_close (h : InvD p Goal m τ ρ M t gs w cl) {i B j k c : Nat} {ro : Hq} {fr fr' : Frame} {cs cs' : List Frame} {hp : Hq} (hpos : 0 < i) (hi : gs[i]? = some (G fr cs)) (hρ : ρ i = .run (B + 1) j k c ro fr cs hp)
    (hk : k = p.n j) (hwake : mayWake p.P (G fr cs) = true)
    (hst : ∀ s tm, w.heap[c]? = some (.chan 0 #[] false s s tm) → stepG p.P false (G fr cs) w = .go (G fr' cs') (w.setChan c 0 #[] true s s tm) (closeEvents c)) (hf : QuitsD p.P B 0 (G fr' cs')) : Nx p Goal m τ (Wt p gs.size ρ M) t (runT p.P (crowd gs w sl) i) := by
  have hilt : i < gs.size := (Array.getElem?_eq_some_iff.1 hi).1; have htag : (ρ i).tag = .run j k c := by rw [hρ]; rfl
  have hrole := h.roles i _ hpos hi; rw [hρ] at hrole; obtain ⟨hd, _, _⟩ := hrole; obtain ⟨j', rfl, hjn, hcl, hh, ht⟩ := h.cmb.idx hpos (h.lt_nsp hi) (by show (ρ i).tag ≠ _; rw [htag]; simp); have ht' : (ρ (m + j')).tag = .run j' (rcv M.st j') (ch M.st j') ∨ (ρ (m + j')).tag = .park j' (rcv M.st j') (ch M.st j') := ht; rw [htag] at ht'
  rcases ht' with e | e
  rotate_left
  · cases e
  obtain ⟨rfl, rfl, rfl⟩ := Tag.run.inj e; have hlv : liveOf m gs.size ρ (m + j) := h.live_of hpos hi (by rw [htag]; simp); obtain ⟨f, tm, hF⟩ := h.chs j hjn; rw [hcl] at hF; have hFsz := h.chlt hjn; have hst' : stepG p.P (m + j == 0) (G fr cs) w = .go (G fr' cs') (w.setChan (ch M.st j) 0 #[] true f f tm) (closeEvents (ch M.st j)) := by rw [gz hpos]; exact hst f tm hF
  have hrun := runT_crowd_go (P := p.P) (sl := sl) hi hst'
  -- the others are not turned
  have hothers : ∀ k' x, 0 < k' → gs[k']? = some x → woken p.P (G fr cs) (G fr' cs') (w.setChan (ch M.st j) 0 #[] true f f tm) x = x := by
    intro k' x hk' hx; have hr := h.roles k' x hk' hx
    have key : x.again (w.setChan (ch M.st j) 0 #[] true f f tm) = x := by
      cases hρk : ρ k' with
      | quit n => rw [hρk] at hr; exact again_running _ (QuitsD.status hr)
      | run B2 j2 i2 c2 ro2 fr2 cs2 hp2 => rw [hρk] at hr; obtain ⟨_, rfl, _⟩ := hr; exact again_running _ (.inl rfl)
      | park B2 j2 i2 c2 ro2 fr2 cs2 hp2 =>
        rw [hρk] at hr; obtain ⟨_, ⟨zz, rfl⟩, _⟩ := hr; obtain ⟨j3, e3, hj3, hcl3, _, ht3⟩ := h.cmb.idx hk' (h.lt_nsp hx) (by show (ρ k').tag ≠ _; rw [hρk]; simp [Role.tag]); have ht3' : (ρ k').tag = .run j3 (rcv M.st j3) (ch M.st j3) ∨ (ρ k').tag = .park j3 (rcv M.st j3) (ch M.st j3) := ht3; rw [hρk] at ht3'; simp only [Role.tag] at ht3'
        rcases ht3' with e4 | e4
        · cases e4
        obtain ⟨rfl, rfl, rfl⟩ := Tag.park.inj e4
        have hne : j2 ≠ j := by
          rintro rfl; rw [e3, hρ] at hρk
          cases hρk
        obtain ⟨f2, tm2, hc2⟩ := h.chs j2 hj3; rw [hcl3] at hc2; exact again_send_open ((chan_ne (fun e5 => hne (h.chi hj3 hjn e5))).trans hc2)
    unfold woken
    split
    · exact key
    · rfl
  have hRhp : ∀ q ∈ (Role.quit B).hp, q ∈ (ρ (m + j)).hp := fun q hq => by cases hq
  have hRro : ∀ q ∈ (Role.quit B).ro, q ∈ (ρ (m + j)).ro := fun q hq => by cases hq
  obtain ⟨g0, h0, hm⟩ := h.main
  -- goroutine 0
  obtain ⟨M', hM'hp, hM'ro, hM'st, hM'w, hM'wt, hm'⟩ : ∃ M' : MR, M'.hp = M.hp ∧ M'.ro = M.ro ∧ M'.st = M.st ∧ M'.waits = false ∧ M'.wt ≤ M.wt + 1 ∧ MainOK p Goal (woken p.P (G fr cs) (G fr' cs') (w.setChan (ch M.st j) 0 #[] true f f tm) g0) M' := by
    cases hM : M with
    | run BM ms roM frM csM hpM =>
      rw [hM] at hm; refine ⟨.run BM ms roM frM csM hpM, rfl, rfl, rfl, rfl, by omega, ?_⟩
      have : woken p.P (G fr cs) (G fr' cs') (w.setChan (ch (MR.run BM ms roM frM csM hpM).st j) 0 #[] true f f tm) g0 = g0 := by
        unfold woken
        split
        · exact again_running _ (.inl hm.1.1)
        · rfl
      rw [this]; exact hm
    | park BM c0 d0 i0 k0 a b roM frM csM hpM =>
      rw [hM] at hm; obtain ⟨rfl, hfm, _⟩ := hm; refine ⟨.run (BM + 1) (.ga c0 d0 i0 k0 a b) roM frM csM hpM, rfl, rfl, rfl, rfl, by simp only [MR.wt]; omega, ?_⟩; have hst2 : M.st = .ga c0 d0 i0 k0 a b := by rw [hM]; rfl
      have hcd : c0 ≠ d0 := by have := h.chd (by rw [hst2]; rfl); rw [hst2] at this; simpa [ch] using this
      obtain ⟨_, hcs⟩ := at_sel (g := G frM csM) (z := p.z) (sh := .select) hst2 hcd (show j < 2 by have := nsp_le M.st; omega) hh
      have : woken p.P (G fr cs) (G fr' cs') (w.setChan (ch M.st j) 0 #[] true f f tm) (parked (G frM csM) #[selc a c0 p.z, selc b d0 p.z] .select) = { parked (G frM csM) #[selc a c0 p.z, selc b d0 p.z] .select with status := .running } := by
        unfold woken; rw [hwake]; simp only [G, Bool.true_and]; rw [if_pos (by decide)]; exact again_some_closed hcs (chan_at hFsz)
      rw [hM] at this; rw [this]; exact ⟨⟨rfl, rfl, rfl, rfl⟩, hfm⟩
  let u : Trace := MemOp.ofEvents (m + j) (G fr cs).frame.fn (G fr cs).frame.place (closeEvents (ch M.st j))
  have hu0 : u = #[{ g := m + j, fn := (G fr cs).frame.fn, pos := (G fr cs).frame.place, act := .access ⟨.obj (ch M.st j), false, true⟩ }, { g := m + j, fn := (G fr cs).frame.fn, pos := (G fr cs).frame.place, act := .close (ch M.st j) }] := by simp [u, MemOp.ofEvents, closeEvents, MemAct.ofEvent]
  have hum : ∀ op ∈ u, op.act ≠ .mark .disable ∧ op.act ≠ .mark .enable := by
    intro op hop; rw [hu0] at hop
    simp at hop
    rcases hop with rfl | rfl <;> simp
  have hti : TV (t ++ u) τ w.heap.size (ownOf M ρ) (rdx p m M ρ) (liveOf m gs.size ρ) := h.ti.step hlv (Nat.le_refl _) (fun op hop => by rw [hu0] at hop; simp at hop; rcases hop with rfl | rfl <;> rfl) hum (fun op hop x hx _ k' hk' => by
      rw [hu0] at hop
      simp at hop
      rcases hop with rfl | rfl
      · simp only [MemAct.touch?, Option.some.injEq] at hx
        subst hx; simp only [blk, Option.some.injEq] at hk'; subst hk'; exact .inl ⟨rfl, .inr ⟨j, hjn, rfl, rfl⟩⟩
      · simp [MemAct.touch?] at hx) (fun g' k' h1 h2 => h.d1 _ _ _ h1 h2) (fun g' g'' k' h1 => h.dx h1) (fun k' hk' => hk'.elim h.own_lt h.rdx_lt)
  have heard1 : (t ++ u).heard (t.size + 1) := heard_of (g := m + j) (by rw [app_at, hu0]; rfl) rfl (deaf_at (h.ti.hears _ hlv) hum (by omega) (by rw [hu0]; simp)); have hroot : Root (t ++ u) (liveOf m gs.size (upd ρ (m + j) (.quit B))) M'.st (upd cl j true) (t.size + 1) := ⟨_, by rw [app_at, hu0]; rfl, .inr ⟨j, by rw [hM'st]; exact hjn, by show MemAct.close (ch M.st j) = MemAct.close (ch M'.st j); rw [hM'st], upd_same .., by rw [hM'st]; exact hh, heard1⟩⟩; refine ⟨upd ρ (m + j) (.quit B), M', u, _, _, sl, upd cl j true, hrun, ?_, ?_⟩
  · refine h.comm (live_upd fun e => absurd rfl e) (far_upd h.far hilt _) ?_ (by simp) (by rw [hM'st]) (fun _ _ => by rw [hM'st]) ?_ ?_ ?_ rfl rfl rfl chan_size (fun k' hk' => chan_ne (hk' j hjn)) ⟨fun q hq => hM'hp ▸ hq, fun q hq => hM'ro ▸ hq⟩ (fun k' _ => hp_upd hRhp hRro k') hti (fun k' => deaf_mild hum k') ?_ ?_
    · rw [tag_upd, hM'st, hM'w]; exact h.cmb.shut hjn hk
    · refine ⟨_, ?_, hm'⟩
      rw [Array.getElem?_setIfInBounds_ne (by omega), Array.getElem?_map, h0]; rfl
    · intro k' x' hk' hx'
      rcases set1 (by simpa using hilt) hx' with ⟨rfl, rfl⟩ | ⟨h1, h3⟩
      · rw [upd_same, hd]; exact hf
      · rw [upd_ne _ _ h1]
        rw [Array.getElem?_map] at h3; obtain ⟨y, hy, rfl⟩ := Option.map_eq_some_iff.1 h3; rw [hothers k' y hk' hy]; exact h.roles k' y hk' hy
    · intro j' hj'
      by_cases e2 : j' = j
      · subst e2; rw [upd_same]; exact ⟨_, _, chan_at hFsz⟩
      · rw [upd_ne _ _ e2, chan_ne (fun e3 => e2 (h.chi hj' hjn e3))]; exact h.chs j' hj'
    · intro j' op a hj ha
      refine ⟨t.size + 1, ?_, hroot⟩; rw [hu0] at hj
      match j', hj with
      | 0, hj =>
        obtain rfl := Option.some.inj hj; have a0 : (t ++ u)[t.size + 0]? = some { g := m + j, fn := (G fr cs).frame.fn, pos := (G fr cs).frame.place, act := .access ⟨.obj (ch M.st j), false, true⟩ } := by rw [app_at, hu0]; rfl
        have a1 : (t ++ u)[t.size + 1]? = some { g := m + j, fn := (G fr cs).frame.fn, pos := (G fr cs).frame.place, act := .close (ch M.st j) } := by rw [app_at, hu0]; rfl
        exact .inr (hb_po (Nat.lt_succ_self _) a0 a1 rfl)
      | 1, hj =>
        obtain rfl := Option.some.inj hj
        simp [MemAct.touch?] at ha
      | j + 2, hj => simp at hj
    · intro q hq
      obtain ⟨op, hop, hcase⟩ := hq; have hql := lt_size_of_getElem? hop
      rcases hcase with hcase | ⟨j2, hk1, hk2, hk3, hk4, hk5⟩
      · by_cases hgi : op.g = m + j
        · exact ⟨t.size + 1, before_new (u := u) hop (j := 1) (by rw [hu0]; rfl) hgi, hroot⟩
        · refine ⟨q, .inl rfl, op, by rw [getElem?_append_old hql]; exact hop, .inl ?_⟩
          rcases hcase with e | ⟨h1, h2, h3⟩
          · exact .inl e
          · exact .inr ⟨h1, h2, by rw [upd_ne _ _ hgi]; exact h3⟩
      · refine ⟨q, .inl rfl, op, by rw [getElem?_append_old hql]; exact hop, .inr ⟨j2, by rw [hM'st]; exact hk1, by rw [hM'st]; exact hk2, ?_, by rw [hM'st]; exact hk4, (heard_old hql).2 hk5⟩⟩
        by_cases e2 : j2 = j
        · subst e2; exact upd_same ..
        · rw [upd_ne _ _ e2]; exact hk3
  · have h1 := Wt_upd (p := p) (ρ := ρ) (M := M) hpos hilt (.quit B)
    rw [hρ] at h1
    have e1 : Wt p gs.size (upd ρ (m + j) (.quit B)) M' + M.wt = Wt p gs.size (upd ρ (m + j) (.quit B)) M + M'.wt := by
      unfold Wt; rw [hM'st]; omega
    simp only [Role.wt, Array.size_setIfInBounds, Array.size_map] at h1 ⊢
    omega
/-! ### Goroutine 0 selects -/
def Ms.hear : Ms → Nat → Ms
  | .ga c d i k a b, j => if j = 0 then .ga c d i k true b else .ga c d i k a true
  | s, _ => s
theorem hear_nsp (s : Ms) (j : Nat) : nsp (s.hear j) = nsp s := by
  cases s <;> simp only [Ms.hear]
  split <;> rfl
theorem hear_ch (s : Ms) (j k : Nat) : ch (s.hear j) k = ch s k := by
  cases s <;> simp only [Ms.hear]
  split <;> rfl
theorem hear_rcv (s : Ms) (j k : Nat) : rcv (s.hear j) k = rcv s k := by
  cases s <;> simp only [Ms.hear]
  split <;> rfl
theorem hear_ne {s : Ms} {j k : Nat} (h : nsp s = 2) (hj : j < 2) (hk : k < 2) (hjk : k ≠ j) : hrd (s.hear j) k = hrd s k := by
  cases s <;> simp only [nsp] at h <;> first | omega | skip
  have h2 : (j = 0 ∧ k = 1) ∨ (j = 1 ∧ k = 0) := by omega
  rcases h2 with ⟨rfl, rfl⟩ | ⟨rfl, rfl⟩ <;> simp [Ms.hear, hrd]
theorem Cmb.hear {c : Nat → Tag} {st : Ms} {wt : Bool} (h : Cmb p m c st wt cl) (h2 : nsp st = 2) {j : Nat} (hj : j < 2) (hcl : cl j = true) (ho : ∀ k, k < 2 → k ≠ j → hrd st k = false) : Cmb p m c (st.hear j) false cl := by
  refine ⟨h.m0, h.old, fun k hk => ?_, fun hn => ?_, fun e => by cases e⟩
  · rw [hear_nsp] at hk
    rw [hear_rcv, hear_ch]
    rcases h.sd k hk with h1 | ⟨h1, h3, h4⟩
    · exact .inl h1
    · have hkj : k ≠ j := by rintro rfl; rw [hcl] at h1; cases h1
      exact .inr ⟨h1, by rw [hear_ne h2 hj (by omega) hkj]; exact h3, h4⟩
  · have h3 : j = 0 ∨ j = 1 := by omega
    rcases h3 with rfl | rfl
    · rw [hear_ne (k := 1) h2 hj (by omega) (by omega), ho 1 (by omega) (by omega)] at hn
      cases hn.2
    · rw [hear_ne (k := 0) h2 hj (by omega) (by omega), ho 0 (by omega) (by omega)] at hn
      cases hn.1
def Fin (p : Dh) (Goal : Goroutine → World → Prop) (t : Trace) (x : Stepped × Array MemOp) : Prop :=
  ∃ (gs' : Array Goroutine) (g' : Goroutine) (w' : World) (sl' : Option (Nat × Nat)) (u : Trace) (q' : Nat → Nat) (B' : Nat), x = (.next (crowd gs' w' sl'), u) ∧ gs'[0]? = some g' ∧ Leavers p.P (t ++ u) gs' q' ∧ Past noS B' (t ++ u) ∧ Co p.P g' w' Goal
theorem InvD.way (h : InvD p Goal m τ ρ M t gs w cl) (hn : nsp M.st = 2) (hw : M.waits = false) {j : Nat} (hj : j < 2) (hh : hrd M.st j = false) :
    (ways w (gs.setIfInBounds 0 ph) (rcase (ch M.st j) p.z) = [] ∧ cl j = false ∧ (ρ (m + j)).tag = .run j (rcv M.st j) (ch M.st j)) ∨
    (ways w (gs.setIfInBounds 0 ph) (rcase (ch M.st j) p.z) = [.partner (m + j) 0] ∧ cl j = false ∧ (ρ (m + j)).tag = .park j (rcv M.st j) (ch M.st j)) ∨
    (ways w (gs.setIfInBounds 0 ph) (rcase (ch M.st j) p.z) = [.closed] ∧ cl j = true ∧ (ρ (m + j)).tag = .quit ∧ rcv M.st j = p.n j) := by
  obtain ⟨f, tm, hF⟩ := h.chs j (by omega); have hm0 := h.cmb.m0
  have hno : (∀ k, (ρ (m + j)).tag ≠ .park j k (ch M.st j)) → partners (gs.setIfInBounds 0 ph) (ch M.st j) true = [] := fun hp => h.nobody _ fun k x hk hx => by
    rintro (⟨_, e, _⟩ | ⟨_, _, j2, rfl, hj2, ht, hc⟩)
    · rw [hw] at e; cases e
    · obtain rfl := h.chi (by omega) hj2 hc
      exact hp _ ht
  rcases h.cmb.sd j (by omega) with ⟨h1, h2, h3⟩ | ⟨h1, _, h3 | h3⟩
  · have h1' : (ρ (m + j)).tag = .quit := h1
    refine .inr (.inr ⟨?_, h2, h1', h3⟩); have := hno fun k e => by rw [h1'] at e; cases e
    simp [ways, rcase, hF, this, h2]
  · have h3' : (ρ (m + j)).tag = _ := h3
    refine .inl ⟨?_, h1, h3'⟩; have := hno fun k e => by rw [h3'] at e; cases e
    simp [ways, rcase, hF, this, h1]
  · have h3' : (ρ (m + j)).tag = _ := h3
    refine .inr (.inl ⟨?_, h1, h3'⟩); have hlt : m + j < gs.size := by rw [h.size, hn]; omega
    have hx : gs[m + j]? = some gs[m + j] := Array.getElem?_eq_getElem hlt; have hr := h.roles (m + j) _ (by omega) hx
    have hpart : partners (gs.setIfInBounds 0 ph) (ch M.st j) true = [(m + j, 0)] := by
      cases hρ : ρ (m + j) with
      | quit n => rw [hρ] at h3'; cases h3'
      | run B2 j2 i2 c2 ro2 fr2 cs2 hp2 => rw [hρ] at h3'; cases h3'
      | park B2 j2 i2 c2 ro2 fr2 cs2 hp2 =>
        rw [hρ] at h3' hr; obtain ⟨rfl, rfl, rfl⟩ := Tag.park.inj h3'; obtain ⟨_, ⟨zz, hz⟩, _⟩ := hr; rw [partners_one (stand_get (i := 0) (j := m + j2) (by omega) hx) (fun k' x' hk' hx' => ?_), hz, offersAt_parked_send, if_pos rfl]
        · rfl
        · rcases getElem?_stand gs _ k' x' hx' with ⟨rfl, rfl⟩ | ⟨_, hx2⟩
          · exact offersAt_ph _ _
          · exact Classical.byContradiction fun hn2 => by
              rcases h.off hx2 hn2 with ⟨_, e, _⟩ | ⟨_, _, j3, rfl, hj3, _, hc⟩
              · rw [hw] at e; cases e
              · exact hk' (by rw [h.chi (by omega) hj3 hc])
    simp [ways, rcase, hF, hpart]
end
end Go.W
end
section
namespace Go.W
open Go Go.Conc
open Go.ConcN (sumTo upd sumTo_upd upd_ne upd_same le_sumTo sumTo_congr)
section
variable {p : Dh} {Goal : Goroutine → World → Prop} {m τ : Nat} {ρ : Nat → Role} {M : MR} {t u : Trace} {gs : Array Goroutine} {w : World} {cl : Nat → Bool} {sl : Option (Nat × Nat)}
theorem illMade_selc {a : Bool} {c : Nat} {z : Value} {w : World} (h : ∃ f tm b, w.heap[c]? = some (.chan 0 #[] b f f tm)) : illMade w (selc a c z) = false := by
  obtain ⟨f, tm, b, hc⟩ := h
  cases a with
  | true => rfl
  | false => exact made_recv z hc
theorem two_list (x y : CommCase) (f : CommCase × Nat → Nat × CommCase × List Way) : (#[x, y].zipIdx.toList.map f) = [f (x, 0), f (y, 1)] := by simp
def casej (c d : Nat) (a b : Bool) (z : Value) (j : Nat) : CommCase := if j = 0 then selc a c z else selc b d z
theorem casej_open {c d i k : Nat} {a b : Bool} {z : Value} {j : Nat} (hh : hrd (.ga c d i k a b) j = false) : casej c d a b z j = rcase (ch (.ga c d i k a b) j) z := by
  unfold casej
  by_cases h : j = 0
  · subst h
    obtain rfl : a = false := by simpa [hrd] using hh
    rfl
  · rw [if_neg h]
    obtain rfl : b = false := by simpa [hrd, h] using hh
    simp [ch, h, selc]
theorem casej_heard {c d i k : Nat} {a b : Bool} {z : Value} {j : Nat} (w : World) (gs : Array Goroutine) (hh : hrd (.ga c d i k a b) j = true) : ways w gs (casej c d a b z j) = [] := by
  unfold casej
  by_cases h : j = 0
  · subst h
    obtain rfl : a = true := by simpa [hrd] using hh
    rfl
  · rw [if_neg h]
    obtain rfl : b = true := by simpa [hrd, h] using hh
    rfl
structure Conts2 (p : Dh) (Goal : Goroutine → World → Prop) (B : Nat) (st : Ms) (ro : Hq) (fr : Frame) (cs : List Frame) (hp : Hq) : Prop where
  got : ∀ j, j < 2 → hrd st j = false → rcv st j < p.n j → FolM p Goal B (st.got j) ro (fr.finish (.tuple (if j = 0 then #[goInt 0, .bool true, p.v 0 (rcv st 0), p.z] else #[goInt 1, .bool true, p.z, p.v 1 (rcv st 1)]))) cs hp
  hear : ∀ j k, j < 2 → k < 2 → k ≠ j → hrd st j = false → rcv st j = p.n j → hrd st k = false → FolM p Goal B (st.hear j) ro (fr.finish (.tuple #[goInt j, .bool false, p.z, p.z])) cs hp
  fin : ∀ j k, j < 2 → k < 2 → k ≠ j → hrd st j = false → rcv st j = p.n j → hrd st k = true → rcv st k = p.n k → ∀ w', Sur p w' → Held hp w' → Held ro w' → Co p.P (G (fr.finish (.tuple #[goInt j, .bool false, p.z, p.z])) cs) w' Goal
theorem conts2_of {B c d i j : Nat} {a b : Bool} {ro : Hq} {fr : Frame} {cs : List Frame} {hp : Hq}
    (h1 : a = false → i < p.n 0 → FolM p Goal B (.ga c d (i + 1) j a b) ro (fr.finish (.tuple #[goInt 0, .bool true, p.v 0 i, p.z])) cs hp)
    (h2 : b = false → j < p.n 1 → FolM p Goal B (.ga c d i (j + 1) a b) ro (fr.finish (.tuple #[goInt 1, .bool true, p.z, p.v 1 j])) cs hp)
    (h3 : a = false → i = p.n 0 → b = false → FolM p Goal B (.ga c d i j true b) ro (fr.finish (.tuple #[goInt 0, .bool false, p.z, p.z])) cs hp)
    (h4 : b = false → j = p.n 1 → a = false → FolM p Goal B (.ga c d i j a true) ro (fr.finish (.tuple #[goInt 1, .bool false, p.z, p.z])) cs hp)
    (h5 : a = false → i = p.n 0 → b = true → j = p.n 1 → ∀ w', Sur p w' → Held hp w' → Held ro w' → Co p.P (G (fr.finish (.tuple #[goInt 0, .bool false, p.z, p.z])) cs) w' Goal)
    (h6 : b = false → j = p.n 1 → a = true → i = p.n 0 → ∀ w', Sur p w' → Held hp w' → Held ro w' → Co p.P (G (fr.finish (.tuple #[goInt 1, .bool false, p.z, p.z])) cs) w' Goal) : Conts2 p Goal B (.ga c d i j a b) ro fr cs hp := by
  refine ⟨fun j' hj hh hr => ?_, fun j' k' hj hk hne hh hr ho => ?_, fun j' k' hj hk hne hh hr ho hr2 => ?_⟩
  · have : j' = 0 ∨ j' = 1 := by omega
    rcases this with rfl | rfl
    · exact h1 hh hr
    · exact h2 hh hr
  · have : (j' = 0 ∧ k' = 1) ∨ (j' = 1 ∧ k' = 0) := by omega
    rcases this with ⟨rfl, rfl⟩ | ⟨rfl, rfl⟩
    · exact h3 hh hr ho
    · exact h4 hh hr ho
  · have : (j' = 0 ∧ k' = 1) ∨ (j' = 1 ∧ k' = 0) := by omega
    rcases this with ⟨rfl, rfl⟩ | ⟨rfl, rfl⟩
    · exact h5 hh hr ho hr2
    · exact h6 hh hr ho hr2
theorem case_ga {B c d i k : Nat} {a b : Bool} {ro : Hq} {fr : Frame} {cs : List Frame} {hp : Hq} (h : InvD p Goal m τ ρ (.run (B + 1) (.ga c d i k a b) ro fr cs hp) t gs w cl) {g : Goroutine} (h0 : gs[0]? = some g)
    (hst : stepG p.P true g w = .comm (G fr cs) #[selc a c p.z, selc b d p.z] true .select w #[]) (hfm : FolM p Goal (B + 1) (.ga c d i k a b) ro fr cs hp)
    (ha : a = false → i < p.n 0 → FolM p Goal B (.ga c d (i + 1) k a b) ro (fr.finish (.tuple #[goInt 0, .bool true, p.v 0 i, p.z])) cs hp)
    (hb : b = false → k < p.n 1 → FolM p Goal B (.ga c d i (k + 1) a b) ro (fr.finish (.tuple #[goInt 1, .bool true, p.z, p.v 1 k])) cs hp)
    (hc2 : Conts2 p Goal B (.ga c d i k a b) ro fr cs hp) :
    Nx p Goal m τ (Wt p gs.size ρ (.run (B + 1) (.ga c d i k a b) ro fr cs hp)) t (runT p.P (crowd gs w sl) 0) ∨ Fin p Goal t (runT p.P (crowd gs w sl) 0) := by
  have hst' : stepG p.P (0 == 0) g w = .comm (G fr cs) #[selc a c p.z, selc b d p.z] true .select w #[] := hst; obtain ⟨st, hse⟩ : ∃ st, st = Ms.ga c d i k a b := ⟨_, rfl⟩; have hn2 : nsp (MR.run (B + 1) (.ga c d i k a b) ro fr cs hp).st = 2 := rfl; have hm0 := h.cmb.m0; have hsz : gs.size = m + 2 := h.size; have hcd : c ≠ d := by have := h.chd rfl; simpa [ch, MR.st] using this
  have hwf : (MR.run (B + 1) (.ga c d i k a b) ro fr cs hp).waits = false := rfl; have hway := fun {j : Nat} (hj : j < 2) (hh : hrd (.ga c d i k a b) j = false) => h.way hn2 hwf hj hh; have hch0 : ∃ f tm b', w.heap[c]? = some (.chan 0 #[] b' f f tm) := by obtain ⟨f, tm, e⟩ := h.chs 0 (by rw [hn2]; omega); exact ⟨f, tm, _, e⟩
  have hch1 : ∃ f tm b', w.heap[d]? = some (.chan 0 #[] b' f f tm) := by obtain ⟨f, tm, e⟩ := h.chs 1 (by rw [hn2]; omega); exact ⟨f, tm, _, e⟩
  have hill : ∀ cc ∈ #[selc a c p.z, selc b d p.z], illMade w cc = false := fun cc hcc => by
    have : cc = selc a c p.z ∨ cc = selc b d p.z := by simpa using hcc
    rcases this with rfl | rfl
    · exact illMade_selc hch0
    · exact illMade_selc hch1
  let lw : Nat → List Way := fun j => ways w (gs.setIfInBounds 0 ph) (casej c d a b p.z j)
  have hlist : (#[selc a c p.z, selc b d p.z].zipIdx.toList.map fun (x : CommCase × Nat) => (x.2, x.1, ways w (gs.setIfInBounds 0 ph) x.1)) = [(0, casej c d a b p.z 0, lw 0), (1, casej c d a b p.z 1, lw 1)] := by rw [two_list]; rfl
  have hcases : ∀ cc ∈ #[selc a c p.z, selc b d p.z], cc = casej c d a b p.z 0 ∨ cc = casej c d a b p.z 1 := fun cc hcc => by
    have : cc = selc a c p.z ∨ cc = selc b d p.z := by simpa using hcc
    exact this
  -- what stands at each of the two
  have hlw : ∀ j, j < 2 → (lw j = [] ∧ (hrd (.ga c d i k a b) j = false → cl j = false ∧ (ρ (m + j)).tag = .run j (rcv (.ga c d i k a b) j) (ch (.ga c d i k a b) j))) ∨
      (hrd (.ga c d i k a b) j = false ∧ lw j = [.partner (m + j) 0] ∧ cl j = false ∧ (ρ (m + j)).tag = .park j (rcv (.ga c d i k a b) j) (ch (.ga c d i k a b) j)) ∨
      (hrd (.ga c d i k a b) j = false ∧ lw j = [.closed] ∧ cl j = true ∧ (ρ (m + j)).tag = .quit ∧ rcv (.ga c d i k a b) j = p.n j) := by
    intro j hj
    cases hh : hrd (.ga c d i k a b) j with
    | true => exact .inl ⟨casej_heard _ _ hh, fun e => by cases e⟩
    | false =>
      have e : lw j = ways w (gs.setIfInBounds 0 ph) (rcase (ch (.ga c d i k a b) j) p.z) := by simp only [lw, casej_open hh]
      rcases hway hj hh with ⟨h1, h2, h3⟩ | ⟨h1, h2, h3⟩ | ⟨h1, h2, h3, h4⟩
      · exact .inl ⟨e.trans h1, fun _ => ⟨h2, h3⟩⟩
      · exact .inr (.inl ⟨rfl, e.trans h1, h2, h3⟩)
      · exact .inr (.inr ⟨rfl, e.trans h1, h2, h3, h4⟩)
  by_cases hno : lw 0 = [] ∧ lw 1 = []
  · -- it waits
    refine .inl ?_
    have hrun := crowd_waits (P := p.P) (sl := sl) h0 hst' (fun cc hcc => ⟨hill cc hcc, by
      rcases hcases cc hcc with rfl | rfl
      · exact hno.1
      · exact hno.2⟩)
    rw [ofE0] at hrun; refine ⟨ρ, .park B c d i k a b ro fr cs hp, _, _, _, sl, cl, hrun, ?_, ?_⟩
    · refine h.comm (fun g hg => hg) h.far ?_ (by simp) rfl (fun _ _ => rfl) ⟨_, Array.getElem?_setIfInBounds_self_of_lt h.pos, rfl, hfm, ha, hb⟩ ?_ h.chs rfl rfl rfl rfl (fun k' _ => rfl) ⟨fun q hq => hq, fun q hq => hq⟩ (fun k' _ => ⟨fun q hq => hq, fun q hq => hq⟩) (h.ti.mild (fun op hop => by simp at hop)) (fun k' => deaf_mild (fun op hop => by simp at hop) k') (fun j' op a' hj' _ => by simp at hj') (root_same (fun g hg => hg) fun j' h1 h3 h4 => ⟨h1, rfl, h3, h4⟩)
      · refine ⟨h.cmb.m0, h.cmb.old, h.cmb.sd, h.cmb.nb, fun _ j hj hh => ?_⟩
        have hj : j < 2 := hj
        rcases hlw j hj with ⟨_, h2⟩ | ⟨_, h1, _⟩ | ⟨_, h1, _⟩
        · exact h2 hh
        all_goals
          exfalso
          have : lw j = [] := by
            have : j = 0 ∨ j = 1 := by omega
            rcases this with rfl | rfl
            · exact hno.1
            · exact hno.2
          rw [this] at h1
          cases h1
      · intro k' x hk hx
        rw [Array.getElem?_setIfInBounds_ne (by omega)] at hx; exact h.roles k' x hk hx
    · simp only [Wt, MR.wt, MR.st, unb, Array.size_setIfInBounds]
      omega
  · -- one of the two, or either
    have hmem : ∀ x ∈ ([(0, casej c d a b p.z 0, lw 0), (1, casej c d a b p.z 1, lw 1)] : List (Nat × CommCase × List Way)).filter (fun x => !x.2.2.isEmpty), ∃ j, j < 2 ∧ x = (j, casej c d a b p.z j, lw j) ∧ lw j ≠ [] := by
      intro x hx; rw [List.mem_filter] at hx; obtain ⟨h1, h2⟩ := hx; simp only [List.mem_cons, List.not_mem_nil, or_false] at h1
      rcases h1 with rfl | rfl
      · exact ⟨0, by omega, rfl, fun e => by rw [e] at h2; simp at h2⟩
      · exact ⟨1, by omega, rfl, fun e => by rw [e] at h2; simp at h2⟩
    have hne : ([(0, casej c d a b p.z 0, lw 0), (1, casej c d a b p.z 1, lw 1)] : List (Nat × CommCase × List Way)).filter (fun x => !x.2.2.isEmpty) ≠ [] := by
      intro e; rw [List.filter_eq_nil_iff] at e; refine hno ⟨?_, ?_⟩
      · have := e (0, casej c d a b p.z 0, lw 0) (by simp)
        simpa using this
      · have := e (1, casej c d a b p.z 1, lw 1) (by simp)
        simpa using this
    obtain ⟨x, y, dr, hx, hy, hP, hC⟩ := crowd_sel_pick (sl := sl) h0 hst' hill (by rw [hlist]) hne (fun x hx => by
      obtain ⟨j, hj, rfl, hl⟩ := hmem x hx
      rcases hlw j hj with ⟨h1, _⟩ | ⟨_, h1, _⟩ | ⟨_, h1, _⟩
      · exact absurd h1 hl
      · exact ⟨_, h1⟩
      · exact ⟨_, h1⟩)
    obtain ⟨j, hj, rfl, hl⟩ := hmem x hx; obtain ⟨f, tm, hF⟩ := h.chs j (by rw [hn2]; exact hj); have hFsz := h.chlt (j := j) (by rw [hn2]; exact hj); simp only [MR.st] at hF hFsz; have hjlt : m + j < gs.size := by omega
    have hxj : gs[m + j]? = some gs[m + j] := Array.getElem?_eq_getElem hjlt; have hrj := h.roles (m + j) _ (by omega) hxj
    rcases hlw j hj with ⟨h1, _⟩ | ⟨hh, h1, hcl, htag⟩ | ⟨hh, h1, hcl, htag, hrn⟩
    · exact absurd h1 hl
    · -- a value
      refine .inl ?_; rw [h1] at hy; obtain rfl : Way.partner (m + j) 0 = y := by simpa using hy
      rw [hcl] at hF; have hrun := hP (ch (.ga c d i k a b) j) p.z 0 false f f tm (m + j) 0 (casej_open hh) hF rfl; generalize gs[m + j] = xj at hxj hrj
      obtain ⟨Bj, ij, cj, roj, frj, csj, hpj, hρj⟩ : ∃ Bj ij cj roj frj csj hpj, ρ (m + j) = .park Bj j ij cj roj frj csj hpj := by
        cases hρ : ρ (m + j) <;> rw [hρ] at htag <;> simp only [Role.tag] at htag <;> cases htag
        exact ⟨_, _, _, _, _, _, _, rfl⟩
      rw [hρj] at htag hrj; obtain ⟨_, rfl, rfl⟩ := Tag.park.inj htag; obtain ⟨hdj, ⟨zz, rfl⟩, hltj, hfj⟩ := hrj; have hx := stand_get (gs := gs) (i := 0) (j := m + j) (by omega) hxj
      have hov : offeredValue (gs.setIfInBounds 0 ph) (m + j) 0 = p.v j (rcv (.ga c d i k a b) j) := by
        unfold offeredValue; rw [hx]
        simp [parked, scase]
      rw [hov, finishPartner_at p.P (gs.setIfInBounds 0 ph) hx rfl 0 undef, finishComm_parked, finishComm_send, set_stand2, ofE0] at hrun
      obtain ⟨frN, hfin, hfN⟩ : ∃ frN, (G fr cs).finishComm p.P #[selc a c p.z, selc b d p.z] .select ((j : Nat) : Int) (p.v j (rcv (.ga c d i k a b) j)) true = Go.Conc.served (G fr cs) frN ∧ FolM p Goal B (Ms.got (.ga c d i k a b) j) ro (fr.finish frN) cs hp := by
        have h2 : j = 0 ∨ j = 1 := by omega
        have hcg := hc2.got j hj hh hltj
        rcases h2 with rfl | rfl
        · exact ⟨_, by rw [fin_sel, sel_res0]; rfl, hcg⟩
        · exact ⟨_, by rw [fin_sel, sel_res1]; rfl, hcg⟩
      rw [hfin] at hrun; have hRhp : ∀ q ∈ (Role.run Bj j (rcv (.ga c d i k a b) j + 1) (ch (.ga c d i k a b) j) roj (frj.finish undef) csj hpj).hp, q ∈ (ρ (m + j)).hp := by rw [hρj]; exact fun q hq => hq
      have hRro : ∀ q ∈ (Role.run Bj j (rcv (.ga c d i k a b) j + 1) (ch (.ga c d i k a b) j) roj (frj.finish undef) csj hpj).ro, q ∈ (ρ (m + j)).ro := by rw [hρj]; exact fun q hq => hq
      refine ⟨upd ρ (m + j) (.run Bj j (rcv (.ga c d i k a b) j + 1) (ch (.ga c d i k a b) j) roj (frj.finish undef) csj hpj), .run B (Ms.got (.ga c d i k a b) j) ro (fr.finish frN) cs hp, _, _, _, sl, cl, hrun, ?_, ?_⟩
      · have hu := mild4 (a := { g := m + j, fn := ((gs.setIfInBounds 0 ph).getD (m + j) default).frame.fn, pos := ((gs.setIfInBounds 0 ph).getD (m + j) default).frame.place, act := .send (ch (.ga c d i k a b) j) f }) (b := { g := 0, fn := (G fr cs).frame.fn, pos := (G fr cs).frame.place, act := .recv (ch (.ga c d i k a b) j) f 0 }) (c := { g := m + j, fn := ((gs.setIfInBounds 0 ph).getD (m + j) default).frame.fn, pos := ((gs.setIfInBounds 0 ph).getD (m + j) default).frame.place, act := .sendDone (ch (.ga c d i k a b) j) f }) (e := { g := 0, fn := (G fr cs).frame.fn, pos := (G fr cs).frame.place, act := .recvDone (ch (.ga c d i k a b) j) f }) ⟨_, _, rfl⟩ ⟨_, _, _, rfl⟩ ⟨_, _, rfl⟩ ⟨_, _, rfl⟩
        refine (h.at dr).comm (live_upd fun _ => by rw [hρj]; simp [Role.tag]) (far_upd h.far hjlt _) ?_ (by simp) (got_nsp (.ga c d i k a b) j) (fun j' _ => got_ch (.ga c d i k a b) j j') ⟨Go.Conc.served (G fr cs) frN, ?_, ⟨rfl, rfl, rfl, rfl⟩, hfN⟩ ?_ ?_ rfl rfl rfl chan_size (fun k' hk' => chan_ne (w := w.at dr) (hk' j hj)) ⟨fun q hq => hq, fun q hq => hq⟩ (fun k' _ => hp_upd hRhp hRro k') (h.ti.mild hu) (fun k' => deaf_mild (fun op hop => (hu op hop).2) k') (fun j' op a' hj' ha' => by rw [(hu op (Array.mem_of_getElem? hj')).1] at ha'; cases ha') (root_same (live_keep (by simp [Role.tag])) fun j' h1 h3 h4 => ⟨by rw [got_nsp]; exact h1, got_ch _ _ _, h3, by rw [got_hrd]; exact h4⟩)
        · rw [tag_upd]; exact h.cmb.deliver hn2 hj hh hcl
        · rw [Array.getElem?_setIfInBounds_self_of_lt (by simpa using h.pos)]
        · intro k' x hk hx
          rcases set2 (by omega) h.pos hjlt hx with ⟨rfl, _⟩ | ⟨rfl, rfl⟩ | ⟨h1, h2, h3⟩
          · omega
          · rw [upd_same]; exact ⟨hdj, rfl, hfj⟩
          · rw [upd_ne ρ _ h2]; exact h.roles k' x hk h3
        · intro j' hj'
          by_cases e2 : j' = j
          · subst e2; rw [hcl]; exact ⟨_, _, chan_at (w := w.at dr) hFsz⟩
          · exact (by
              obtain ⟨f2, tm2, e3⟩ := h.chs j' hj'
              exact ⟨f2, tm2, (chan_ne (w := w.at dr) (fun e3 => e2 (h.chi hj' (by rw [hn2]; exact hj) e3))).trans e3⟩)
      · have h1 := Wt_upd (p := p) (ρ := ρ) (M := .run (B + 1) (.ga c d i k a b) ro fr cs hp) (show 0 < m + j by omega) hjlt (.run Bj j (rcv (.ga c d i k a b) j + 1) (ch (.ga c d i k a b) j) roj (frj.finish undef) csj hpj)
        rw [hρj] at h1; have e1 : unb p (Ms.got (.ga c d i k a b) j) = 0 := by simp only [Ms.got]; split <;> rfl
        have e2 : unb p (.ga c d i k a b) = 0 := rfl; simp only [Role.wt, Wt, MR.wt, MR.st, e1, e2, Array.size_setIfInBounds] at h1 ⊢
        omega
    · -- a close
      rw [h1] at hy; obtain rfl : Way.closed = y := by simpa using hy
      have hrun := hC (ch (.ga c d i k a b) j) p.z (casej_open hh) rfl
      have hfin : (G fr cs).finishComm p.P #[selc a c p.z, selc b d p.z] .select ((j : Nat) : Int) p.z false = Go.Conc.served (G fr cs) (.tuple #[goInt j, .bool false, p.z, p.z]) := by
        have h2 : j = 0 ∨ j = 1 := by omega
        rcases h2 with rfl | rfl
        · rw [fin_sel, sel_res0]; rfl
        · rw [fin_sel, sel_res1]; rfl
      rw [hfin, ofE0] at hrun
      let u : Trace := #[] ++ #[{ g := 0, fn := (G fr cs).frame.fn, pos := (G fr cs).frame.place, act := .recvClosed (ch (.ga c d i k a b) j) }]
      have hu : Mild u := by
        intro op hop; simp only [u, Array.empty_append] at hop
        simp at hop
        subst hop
        simp [MemAct.touch?]
      have hdeaf : ∀ k', Deaf (t ++ u) k' = Deaf t k' := fun k' => deaf_mild (fun op hop => (hu op hop).2) k'; obtain ⟨k2, hk2, hkj⟩ : ∃ k2, k2 < 2 ∧ k2 ≠ j := ⟨1 - j, by omega, by omega⟩; have hcl0 : (t ++ u).heard (t.size + 0) := h.heard_new (.inl rfl) hu (j := 0) rfl rfl
      have hclosed : ∀ {q : Nat} {op : MemOp}, t[q]? = some op → op.act = .close (ch (.ga c d i k a b) j) → t.heard q → Before (t ++ u) q (t.size + 0) := by
        intro q op hop hact hhd; have hql := lt_size_of_getElem? hop; refine .inr (.single (.inr ⟨.closed (c := ch (.ga c d i k a b) j) ?_ (act?_of (app_at (t := t) (u := u) 0)), (heard_old hql).2 hhd, hcl0⟩)); rw [act?_old hql, act?_of hop, hact]
      cases hh2 : hrd (.ga c d i k a b) k2 with
      | false =>
        refine .inl ⟨ρ, .run B (Ms.hear (.ga c d i k a b) j) ro (fr.finish (.tuple #[goInt j, .bool false, p.z, p.z])) cs hp, u, _, _, sl, cl, hrun, ?_, ?_⟩
        · refine (h.at dr).comm (fun g hg => hg) h.far (h.cmb.hear hn2 hj hcl fun k3 h3 h4 => ?_) (by simp) (hear_nsp (.ga c d i k a b) j) (fun j' _ => hear_ch (.ga c d i k a b) j j') ⟨Go.Conc.served (G fr cs) (.tuple #[goInt j, .bool false, p.z, p.z]), ?_, ⟨rfl, rfl, rfl, rfl⟩, hc2.hear j k2 hj hk2 hkj hh hrn hh2⟩ ?_ h.chs rfl rfl rfl rfl (fun k' _ => rfl) ⟨fun q hq => hq, fun q hq => hq⟩ (fun k' _ => ⟨fun q hq => hq, fun q hq => hq⟩) (h.ti.mild hu) hdeaf (fun j' op a' hj' ha' => by rw [(hu op (Array.mem_of_getElem? hj')).1] at ha'; cases ha') ?_
          · obtain rfl : k3 = k2 := by omega
            exact hh2
          · rw [Array.getElem?_setIfInBounds_self_of_lt h.pos]
          · intro k' x hk hx
            rw [Array.getElem?_setIfInBounds_ne (by omega)] at hx; exact h.roles k' x hk hx
          · intro q hq
            obtain ⟨op, hop, hcase⟩ := hq; have hql := lt_size_of_getElem? hop
            rcases hcase with hcase | ⟨j2, hk1, hk2', hk3, hk4, hk5⟩
            · exact ⟨q, .inl rfl, op, by rw [getElem?_append_old hql]; exact hop, .inl hcase⟩
            · by_cases e2 : j2 = j
              · subst e2
                exact ⟨t.size + 0, hclosed hop hk2' hk5, _, app_at (t := t) (u := u) 0, .inl (.inl rfl)⟩
              · refine ⟨q, .inl rfl, op, by rw [getElem?_append_old hql]; exact hop, .inr ⟨j2, (hear_nsp (.ga c d i k a b) j).symm ▸ hk1, by show op.act = .close (ch (Ms.hear (.ga c d i k a b) j) j2); rw [hear_ch]; exact hk2', hk3, ?_, (heard_old hql).2 hk5⟩⟩
                exact (hear_ne (s := .ga c d i k a b) rfl hj (show j2 < 2 from hk1) e2).trans hk4
        · have e1 : unb p (Ms.hear (.ga c d i k a b) j) = 0 := by simp only [Ms.hear]; split <;> rfl
          have e2 : unb p (.ga c d i k a b) = 0 := rfl; simp only [Wt, MR.wt, MR.st, e1, e2, Array.size_setIfInBounds]
          omega
      | true =>
        refine .inr ?_
        -- the other one has left aS9 well
        have hk2q : (ρ (m + k2)).tag = .quit ∧ cl k2 = true ∧ rcv (.ga c d i k a b) k2 = p.n k2 := by
          rcases h.cmb.sd k2 hk2 with h3 | ⟨_, h3, _⟩
          · exact h3
          · have h3' : hrd (.ga c d i k a b) k2 = false := h3
            rw [hh2] at h3'; cases h3'
        have hquit : ∀ k', 0 < k' → k' < gs.size → (ρ k').tag = .quit := by
          intro k' hk hlt
          rcases Nat.lt_or_ge k' m with h1 | h1
          · exact h.cmb.old k' hk h1
          · obtain ⟨j3, rfl⟩ : ∃ j3, k' = m + j3 := ⟨k' - m, by omega⟩
            by_cases e : j3 = j
            · subst e; exact htag
            · obtain rfl : j3 = k2 := by omega
              exact hk2q.1
        have hknown : ∀ i' a', touchAt (t ++ u) i' = some a' → a'.loc.isMemory = true → Knows (t ++ u) 0 i' := by
          intro i' a' ha' hm
          rcases touch_app ha' with ⟨_, ha''⟩ | ⟨_, op, hop, _, hoa⟩
          · obtain ⟨q, hq, op, hop, hcase⟩ := h.kn i' a' ha'' hm
            have hql := lt_size_of_getElem? hop
            rcases hcase with h1 | ⟨j2, hk1, hk2', hk3, hk4, hk5⟩
            · rcases h1 with h1 | ⟨h1, h2, h3⟩
              · exact ⟨q, op, by rw [getElem?_append_old hql]; exact hop, h1, hq.app u⟩
              · exact absurd (hquit op.g (by omega) h2) h3
            · have hj2 : j2 < 2 := hk1
              have e2 : j2 = j := by
                by_cases e : j2 = j
                · exact e
                · obtain rfl : j2 = k2 := by omega
                  have hk4' : hrd (.ga c d i k a b) j2 = false := hk4; rw [hh2] at hk4'; cases hk4'
              subst e2; exact ⟨t.size + 0, _, app_at (t := t) (u := u) 0, rfl, (hq.app u).trans (hclosed hop hk2' hk5)⟩
          · rw [(hu op hop).1] at hoa; cases hoa
        obtain ⟨B', hB'⟩ := seen_more h.seen (seen_ops u); refine ⟨_, Go.Conc.served (G fr cs) (.tuple #[goInt j, .bool false, p.z, p.z]), w.at dr, sl, u, fun k' => match ρ k' with | .quit n => n | _ => 0, B', hrun, (by rw [Array.getElem?_setIfInBounds_self_of_lt h.pos]), ⟨fun k' x hk hx => ?_, fun k' hk => ?_⟩, ⟨(h.ti.mild hu).clean, fun i' a' ha' hm => .inl (hknown i' a' ha' hm), ?_, by rw [hdeaf]; exact h.ti.hears 0 (.inl rfl), hB'⟩, hc2.fin j k2 hj hk2 hkj hh hrn hh2 hk2q.2.2 (w.at dr) (h.env.at dr) h.heldM.1 h.heldM.2⟩
        · rw [Array.getElem?_setIfInBounds_ne (by omega)] at hx
          have hq := hquit k' hk (Array.getElem?_eq_some_iff.1 hx).1; have hr := h.roles k' x hk hx; rw [hdeaf]
          cases hρk : ρ k' <;> rw [hρk] at hq <;> first | (rw [hρk] at hr; exact hr) | cases hq
        · rw [hdeaf]; exact h.above k' (by simpa using hk)
        · intro i' g' hg' hne' hc
          obtain ⟨x, hx, hxm, _⟩ := hc; obtain ⟨q, z, hz, hz0, hb'⟩ := hknown i' x hx hxm; refine ⟨q, by simp [Trace.g?, hz, hz0], ?_⟩
          rcases hb' with rfl | hb'
          · simp [Trace.g?, hz] at hg'
            exact absurd (hg'.symm.trans hz0) hne'
          · exact hb'
end
end Go.W
end
section
namespace Go.W
open Go Go.Conc
open Go.ConcN (sumTo upd sumTo_upd upd_ne upd_same le_sumTo sumTo_congr)
section
variable {p : Dh} {Goal : Goroutine → World → Prop} {m τ : Nat} {ρ : Nat → Role} {M : MR} {t u : Trace} {gs : Array Goroutine} {w : World} {cl : Nat → Bool} {sl : Option (Nat × Nat)}
theorem spawn_inv {B : Nat} {ms ms' : Ms} {ro : Hq} {fr fr' : Frame} {cs cs' : List Frame} {fc : Frame} {hp r1 h2 : Hq} {c : Nat} {tmc : Bool}
    (h : InvD p Goal m τ ρ (.run (B + 1) ms ro fr cs hp) t gs w cl) {x y : MemOp} (hx : x.g = 0 ∧ x.act = .go gs.size) (hy : y.g = gs.size ∧ y.act = .start)
    (hms : nsp ms' = nsp ms + 1) (hchn : ch ms' (nsp ms) = c) (hcho : ∀ j, j < nsp ms → ch ms' j = ch ms j) (hrc : ∀ j, rcv ms' j = 0 ∧ rcv ms j = 0) (hhr : ∀ j, hrd ms' j = false ∧ hrd ms j = false)
    (hfm : FolM p Goal B ms' (r1 ++ ro) fr' cs' h2) (hc : (c, Obj.chan 0 #[] false 0 0 tmc) ∈ hp)
    (hs1 : ∀ q ∈ r1, q ∈ hp) (hs2 : ∀ q ∈ h2, q ∈ hp) (hdis : ∀ k, Has r1 k → ¬ Has h2 k) (hc1 : ¬ Has r1 c) (hc2 : ¬ Has h2 c) (hF : FolS p (nsp ms) c (r1 ++ ro) p.BW 0 fc [] []) :
    InvD p Goal m τ (upd ρ (m + nsp ms) (.run p.BW (nsp ms) 0 c (r1 ++ ro) fc [] [])) (.run B ms' (r1 ++ ro) fr' cs' h2) (t ++ #[x, y]) ((gs.setIfInBounds 0 (G fr' cs')).push (G fc [])) w (upd cl (nsp ms) false) := by
  obtain ⟨j, hj⟩ : ∃ j, j = nsp ms := ⟨_, rfl⟩; rw [← hj] at hms hchn hcho hF ⊢; have hsz : gs.size = m + j := by rw [hj]; exact h.size
  have hm0 := h.cmb.m0
  have hu : Mild #[x, y] := by
    intro op hop
    simp at hop
    rcases hop with rfl | rfl
    · rw [hx.2]; simp [MemAct.touch?]
    · rw [hy.2]; simp [MemAct.touch?]
  have hdeaf : ∀ k, Deaf (t ++ #[x, y]) k = Deaf t k := fun k => deaf_mild (fun op hop => (hu op hop).2) k; have hsz' : ((gs.setIfInBounds 0 (G fr' cs')).push (G fc [])).size = gs.size + 1 := by simp
  have e0 : (t ++ #[x, y])[t.size + 0]? = some x := by rw [app_at]; rfl
  have e1 : (t ++ #[x, y])[t.size + 1]? = some y := by rw [app_at]; rfl
  let R' : Role := .run p.BW j 0 c (r1 ++ ro) fc [] []
  have live_old : ∀ g, liveOf m gs.size ρ g → liveOf m (gs.size + 1) (upd ρ (m + j) R') g := by
    rintro g (h0 | ⟨h1, h2, h3⟩)
    · exact .inl h0
    · exact .inr ⟨h1, by omega, by rw [upd_ne _ _ (by omega)]; exact h3⟩
  have live_new : ∀ g, liveOf m (gs.size + 1) (upd ρ (m + j) R') g → liveOf m gs.size ρ g ∨ g = m + j := by
    rintro g (h0 | ⟨h1, h2, h3⟩)
    · exact .inl (.inl h0)
    · by_cases hg : g = m + j
      · exact .inr hg
      · rw [upd_ne _ _ hg] at h3; exact .inl (.inr ⟨h1, by omega, h3⟩)
  have own0 : ∀ q ∈ hp, ownOf (.run (B + 1) ms ro fr cs hp) ρ 0 q.1 := fun q hq => .inl ⟨rfl, q, hq, rfl⟩; have ownr : ∀ k, Has r1 k → ownOf (.run (B + 1) ms ro fr cs hp) ρ 0 k := fun k ⟨q, hq, e⟩ => e ▸ own0 q (hs1 q hq); have ownc : ownOf (.run (B + 1) ms ro fr cs hp) ρ 0 c := own0 _ hc
  have own_new : ∀ g k, ownOf (.run B ms' (r1 ++ ro) fr' cs' h2) (upd ρ (m + j) R') g k → ownOf (.run (B + 1) ms ro fr cs hp) ρ g k ∧ (g = 0 → Has h2 k) := by
    rintro g k (⟨rfl, q, hq, e⟩ | ⟨hg, hk⟩)
    · exact ⟨.inl ⟨rfl, q, hs2 q hq, e⟩, fun _ => ⟨q, hq, e⟩⟩
    · by_cases hgm : g = m + j
      · subst hgm; rw [upd_same] at hk; obtain ⟨q, hq, _⟩ := hk; cases hq
      · rw [upd_ne _ _ hgm] at hk; exact ⟨.inr ⟨hg, hk⟩, fun e => by omega⟩
  have rdT_new : ∀ k, RdT p (r1 ++ ro) k → rdOf p (.run (B + 1) ms ro fr cs hp) ρ 0 k ∨ Has r1 k := by
    rintro k (hk | ⟨q, hq, e⟩)
    · exact .inl (.inl ⟨rfl, .inl hk⟩)
    · rcases List.mem_append.1 hq with hq | hq
      · exact .inr ⟨q, hq, e⟩
      · exact .inl (.inl ⟨rfl, .inr ⟨q, hq, e⟩⟩)
  have rd_new : ∀ g k, rdOf p (.run B ms' (r1 ++ ro) fr' cs' h2) (upd ρ (m + j) R') g k → rdOf p (.run (B + 1) ms ro fr cs hp) ρ g k ∨ ((g = 0 ∨ g = m + j) ∧ (rdOf p (.run (B + 1) ms ro fr cs hp) ρ 0 k ∨ Has r1 k)) := by
    rintro g k (⟨rfl, hk⟩ | ⟨hg, hk⟩)
    · exact .inr ⟨.inl rfl, rdT_new k hk⟩
    · by_cases hgm : g = m + j
      · subst hgm; rw [upd_same] at hk; exact .inr ⟨.inr rfl, rdT_new k hk⟩
      · rw [upd_ne _ _ hgm] at hk; exact .inl (.inr ⟨hg, hk⟩)
  have heard0 : (t ++ #[x, y]).heard (t.size + 0) := h.heard_new (.inl rfl) hu (j := 0) rfl hx.1; have heard1 : (t ++ #[x, y]).heard (t.size + 1) := heard_of e1 hy.1 (deaf_at (h.above gs.size (Nat.le_refl _)) (fun op hop => (hu op hop).2) (by omega) (by simp))
  have knows_child : ∀ i, Knows t 0 i → Knows (t ++ #[x, y]) (m + j) i := fun i hk => by
    have b1 : HappensBefore (t ++ #[x, y]) i (t.size + 0) := hk.hb_new (by omega) e0 hx.1; exact ⟨t.size + 1, y, e1, hy.1.trans hsz, .inr (b1.trans (.single (.inr ⟨.spawn (child := gs.size) (by rw [act?_of e0, hx.2]) (by rw [act?_of e1, hy.2]) (by simp [Trace.g?, e1, hy.1]), heard0, heard1⟩)))⟩
  have hti := h.ti.mild hu; have olds : ∀ j', j' < nsp ms → ch ms j' ≠ c := fun j' hj' e => (h.chn j' hj' 0).1 (by show ownOf _ _ _ (ch ms j'); rw [e]; exact ownc); refine { cmb := ?_, size := by rw [hsz']; simp only [MR.st, hms]; omega, main := ⟨G fr' cs', ?_, ⟨rfl, rfl, rfl, rfl⟩, hfm⟩, roles := ?_, chs := ?_, chn := ?_, chd := ?_, env := h.env, heldM := ⟨fun q hq => h.heldM.1 q (hs2 q hq), fun q hq => ?_⟩, held := ?_, far := ?_, d1 := ?_, d2 := ?_, ti := ?_, kn := ?_, seen := seen_more h.seen (seen_ops _), above := ?_ }
  · refine ⟨hm0, fun i h1 h3 => by simp only [upd_ne ρ _ (show i ≠ m + j by omega)]; exact h.cmb.old i h1 h3, fun j' hj' => ?_, fun hn => ?_, fun e => by cases e⟩
    · simp only [MR.st] at hj' ⊢
      rw [hms] at hj'
      by_cases e : j' = j
      · subst e
        rw [upd_same, upd_same, hchn, (hrc _).1]; exact .inr ⟨rfl, (hhr _).1, .inl rfl⟩
      · have hj2 : j' < nsp ms := by omega
        rw [upd_ne _ _ e, upd_ne _ _ (by omega), hcho j' (by omega), (hrc _).1, (hhr _).1]; have := h.cmb.sd j' hj2; simp only [MR.st] at this; rw [(hrc _).2, (hhr _).2] at this; exact this
    · have := hn.1
      simp only [MR.st] at this; rw [(hhr 0).1] at this
      cases this
  · rw [Array.getElem?_push_lt (by simpa using h.pos), Array.getElem_setIfInBounds_self]
  · intro k z hk hz
    rw [hdeaf]
    by_cases hkm : k = m + j
    · subst hkm
      rw [Array.getElem?_push, if_pos (by simp [hsz])] at hz; obtain rfl := Option.some.inj hz; rw [upd_same, ← hsz, h.above _ (Nat.le_refl _)]; exact ⟨rfl, rfl, hF⟩
    · rw [Array.getElem?_push, if_neg (by simp; omega), Array.getElem?_setIfInBounds_ne (by omega)] at hz
      rw [upd_ne _ _ hkm]; exact h.roles k z hk hz
  · intro j' hj'
    simp only [MR.st] at hj' ⊢; rw [hms] at hj'
    by_cases e : j' = j
    · subst e; rw [upd_same, hchn]; exact ⟨0, tmc, h.heldM.1 _ hc⟩
    · rw [upd_ne _ _ e, hcho j' (by omega)]; exact h.chs j' (show j' < nsp ms by omega)
  · intro j' hj' g
    simp only [MR.st] at hj' ⊢; rw [hms] at hj'
    by_cases e : j' = j
    · subst e
      rw [hchn]; refine ⟨fun ho => ?_, fun hr => ?_⟩
      · obtain ⟨h1, h3⟩ := own_new g c ho
        obtain rfl := h.d1 _ _ _ h1 ownc; exact hc2 (h3 rfl)
      · rcases rd_new g c hr with h1 | ⟨_, h1 | h1⟩
        · exact h.d2 _ _ _ ownc h1
        · exact h.d2 _ _ _ ownc h1
        · exact hc1 h1
    · rw [hcho j' (by omega)]
      have hj2 : j' < nsp ms := by omega
      refine ⟨fun ho => (h.chn j' hj2 g).1 (own_new g _ ho).1, fun hr => ?_⟩
      rcases rd_new g _ hr with h1 | ⟨_, h1 | h1⟩
      · exact (h.chn j' hj2 g).2 h1
      · exact (h.chn j' hj2 0).2 h1
      · exact (h.chn j' hj2 0).1 (ownr _ h1)
  · intro hn
    simp only [MR.st] at hn ⊢; rw [hms] at hn; obtain rfl : j = 1 := by omega
    rw [hchn, hcho 0 (by omega)]; exact olds 0 (by omega)
  · rcases List.mem_append.1 hq with hq | hq
    · exact h.heldM.1 q (hs1 q hq)
    · exact h.heldM.2 q hq
  · intro k hk hlt
    rw [hsz'] at hlt
    by_cases hkm : k = m + j
    · subst hkm; rw [upd_same]
      refine ⟨fun q hq => (by cases hq), fun q hq => ?_⟩
      rcases List.mem_append.1 hq with hq | hq
      · exact h.heldM.1 q (hs1 q hq)
      · exact h.heldM.2 q hq
    · rw [upd_ne _ _ hkm]; exact h.held k hk (by omega)
  · intro k hk
    rw [hsz'] at hk; rw [upd_ne _ _ (by omega)]; exact h.far k (by omega)
  · intro g g' k hg hg'
    exact h.d1 _ _ _ (own_new g k hg).1 (own_new g' k hg').1
  · intro g g' k hg hg'
    obtain ⟨h1, h3⟩ := own_new g k hg
    rcases rd_new g' k hg' with h4 | ⟨_, h4 | h4⟩
    · exact h.d2 _ _ _ h1 h4
    · exact h.d2 _ _ _ h1 h4
    · obtain rfl := h.d1 _ _ _ h1 (ownr k h4)
      exact hdis k h4 (h3 rfl)
  · rw [hsz']
    refine ⟨hti.τle, hti.clean, fun g hg i a hi ha hm => ?_, fun g k ho i a hi ha hb => ?_, fun g k hr i a hi ha hw hb => ?_, hti.low, fun g hg => ?_⟩
    · rcases live_new g hg with hg | rfl
      · exact hti.pre g hg i a hi ha hm
      · have hlt : i < t.size := Nat.lt_of_lt_of_le hi h.ti.τle
        rw [touchAt_old hlt] at ha; exact knows_child i (h.ti.pre 0 (.inl rfl) i a hi ha hm)
    · exact hti.own_ g k (own_new g k ho).1 i a hi ha hb
    · have know0 : rdOf p (.run (B + 1) ms ro fr cs hp) ρ 0 k ∨ Has r1 k ∨ k = c → touchAt t i = some a → Knows t 0 i := by
        rintro (h1 | h1 | rfl) ha'
        · exact h.ti.rd 0 k (.inl h1) i a hi ha' hw hb
        · exact h.ti.own_ 0 k (ownr k h1) i a hi ha' hb
        · exact h.ti.own_ 0 k ownc i a hi ha' hb
      rcases touch_app ha with ⟨_, ha'⟩ | ⟨_, op, hop, _, hoa⟩
      rotate_left
      · rw [(hu op hop).1] at hoa; cases hoa
      rcases hr with hr | ⟨j', hj', rfl, rfl⟩
      · rcases rd_new g k hr with h1 | ⟨rfl | rfl, h1⟩
        · exact (h.ti.rd g k (.inl h1) i a hi ha' hw hb).app _
        · exact (know0 (h1.imp id .inl) ha').app _
        · exact knows_child i (know0 (h1.imp id .inl) ha')
      · simp only [MR.st] at hj' hb
        rw [hms] at hj'
        by_cases e : j' = j
        · subst e
          rw [hchn] at hb; exact knows_child i (h.ti.own_ 0 c ownc i a hi ha' hb)
        · rw [hcho j' (by omega)] at hb
          exact (h.ti.rd (m + j') (ch ms j') (.inr ⟨j', show j' < nsp ms by omega, rfl, rfl⟩) i a hi ha' hw hb).app _
    · rcases live_new g hg with hg | rfl
      · exact hti.hears g hg
      · rw [hdeaf, ← hsz]; exact h.above _ (Nat.le_refl _)
  · intro i a ha hm
    rw [hsz']
    rcases touch_app ha with ⟨_, ha'⟩ | ⟨_, op, hop, _, hoa⟩
    · obtain ⟨q, hq, hr⟩ := h.kn i a ha' hm
      refine ⟨q, hq.app _, hr.app live_old fun j' h1 h3 h4 => ?_⟩; simp only [MR.st] at h1 h3 ⊢; exact ⟨by rw [hms]; omega, hcho j' (by omega), by rw [upd_ne _ _ (by omega)]; exact h3, (hhr _).1⟩
    · rw [(hu op hop).1] at hoa; cases hoa
  · intro k hk
    rw [hsz'] at hk; rw [hdeaf]; exact h.above k (by omega)
theorem spawn_wt {B : Nat} {ms ms' : Ms} {ro ro' : Hq} {fr fr' : Frame} {cs cs' : List Frame} {hp h2 : Hq} {R' : Role} (hu : unb p ms' + (2 * p.BW + 3) = unb p ms) (hn : 0 < m) (hw : R'.wt = 2 * p.BW + 2) (hsz : gs.size = m + nsp ms) (gs' : Array Goroutine) (hs' : gs'.size = gs.size + 1) :
    Wt p gs'.size (upd ρ (m + nsp ms) R') (.run B ms' ro' fr' cs' h2) < Wt p gs.size ρ (.run (B + 1) ms ro fr cs hp) := by
  have hsum : sumTo (gs.size + 1) (fun i => if i = 0 then 0 else (upd ρ (m + nsp ms) R' i).wt) = sumTo gs.size (fun i => if i = 0 then 0 else (ρ i).wt) + R'.wt := by
    simp only [sumTo]; rw [hsz, if_neg (by omega), upd_same]
    congr 1
    exact sumTo_congr fun k hk => by rw [upd_ne _ _ (by omega)]
  rw [hs']; simp only [Wt, MR.wt, MR.st]; rw [hsum, hw]
  omega
theorem InvD.runs (h : InvD p Goal m τ ρ M t gs w cl) : ∃ (i : Nat) (g : Goroutine), gs[i]? = some g ∧ g.status = .running := by
  have hsz := h.size; have hm0 := h.cmb.m0; obtain ⟨g0, h0, hm⟩ := h.main
  cases M with
  | run B ms ro fr cs hp => exact ⟨0, g0, h0, hm.1.1⟩
  | park B c d i j a b ro fr cs hp =>
    obtain ⟨j', hj', hh⟩ : ∃ j', j' < 2 ∧ hrd (MR.park B c d i j a b ro fr cs hp).st j' = false := by
      have hnb := h.cmb.nb
      cases h1 : hrd (MR.park B c d i j a b ro fr cs hp).st 0 with
      | false => exact ⟨0, by omega, h1⟩
      | true =>
        cases h2 : hrd (MR.park B c d i j a b ro fr cs hp).st 1 with
        | false => exact ⟨1, by omega, h2⟩
        | true => exact absurd ⟨h1, h2⟩ hnb
    obtain ⟨_, ht⟩ := h.cmb.wt_ rfl j' (by simpa [MR.st, nsp] using hj') hh; have hlt : m + j' < gs.size := by rw [hsz]; simp only [MR.st, nsp]; omega
    have hx : gs[m + j']? = some gs[m + j'] := Array.getElem?_eq_getElem hlt; have hr := h.roles (m + j') _ (by omega) hx; refine ⟨m + j', _, hx, ?_⟩; have ht' : (ρ (m + j')).tag = _ := ht
    cases hρ : ρ (m + j') <;> rw [hρ] at ht' hr <;> simp only [Role.tag] at ht' <;> cases ht'
    rw [hr.2.1]; rfl
theorem InvD.awake (h : InvD p Goal m τ ρ M t gs w cl) : ∀ g ∈ gs, Go.Conc.awake g := by
  intro g hg; obtain ⟨i, hi, rfl⟩ := Array.mem_iff_getElem.1 hg; have hx : gs[i]? = some gs[i] := Array.getElem?_eq_getElem hi
  rcases Nat.eq_zero_or_pos i with rfl | hpos
  · obtain ⟨g0, h0, hm⟩ := h.main
    rw [h0] at hx; rw [← Option.some.inj hx]
    cases M with
    | run B ms ro fr cs hp => exact awake_of (.inl hm.1.1)
    | park B c d i j a b ro fr cs hp => rw [hm.1]; exact awake_of (.inr (.inl rfl))
  · have hr := h.roles i _ hpos hx
    cases hρ : ρ i with
    | quit n => rw [hρ] at hr; exact awake_of ((QuitsD.status hr).elim .inl fun e => .inr (.inr e))
    | run B j i c ro fr cs hp => rw [hρ] at hr; rw [hr.2.1]; exact awake_of (.inl rfl)
    | park B j i c ro fr cs hp => rw [hρ] at hr; obtain ⟨_, ⟨zz, e⟩, _⟩ := hr; rw [e]; exact awake_of (.inr (.inl rfl))
theorem calm_act {e : Event} (h : Calm e) : MemAct.ofEvent e ≠ .mark .disable ∧ MemAct.ofEvent e ≠ .mark .enable := by
  unfold MemAct.ofEvent
  split
  · exact ⟨by simp, by simp⟩
  · rename_i mm _ _
    exact ⟨fun e => h.1 (by cases e; rfl), fun e => h.2 (by cases e; rfl)⟩
  · exact ⟨by simp, by simp⟩
theorem evs_quiet {ro hp : Hq} {es : Array Event} (h : ∀ e ∈ es, EvIn p ro hp e) (g fn : Nat) (pos : String) : ∀ op ∈ MemOp.ofEvents g fn pos es, op.act ≠ .mark .disable ∧ op.act ≠ .mark .enable := fun op hop => by
  obtain ⟨e, he, rfl⟩ := Go.Conc.mem_ofEvents hop; exact calm_act (h e he).1
theorem evs_own (g fn : Nat) (pos : String) (es : Array Event) : ∀ op ∈ MemOp.ofEvents g fn pos es, op.g = g := fun op hop => by
  obtain ⟨e, he, rfl⟩ := Go.Conc.mem_ofEvents hop
  rfl
theorem evs_in {ro hp : Hq} {es : Array Event} (h : ∀ e ∈ es, EvIn p ro hp e) (g fn : Nat) (pos : String) : ∀ op ∈ MemOp.ofEvents g fn pos es, ∀ x, op.act.touch? = some x → x.loc.isMemory = true → ∀ k, blk x.loc = some k → (x.write = false ∧ RdT p ro k) ∨ Has hp k := fun op hop x hx hm k hk => by
  obtain ⟨e, he, rfl⟩ := Go.Conc.mem_ofEvents hop; exact (h e he).2 x hx hm k hk
theorem map_same {gs : Array Goroutine} {φ : Goroutine → Goroutine} (h : ∀ (i : Nat) (g : Goroutine), gs[i]? = some g → φ g = g) : gs.map φ = gs := by
  apply Array.ext_getElem?
  intro i; rw [Array.getElem?_map]
  cases hi : gs[i]? with
  | none => rfl
  | some g => rw [Option.map_some, h i g hi]
theorem InvD.mapped (h : InvD p Goal m τ ρ M t gs w cl) {w' : World} {hp hp' : Hq} (ht : Trn w w' hp hp') {g : Nat} (hown : ∀ k, Has hp k → ownOf M ρ g k) (a a' : Goroutine) : gs.map (woken p.P a a' w') = gs :=
  map_same fun i x hx => h.still (fun j hj => ht.keep _ (h.chlt hj) fun hk => (h.chn j hj g).1 (hown _ hk)) a a' hx
theorem InvD.step_i (h : InvD p Goal m τ ρ M t gs w cl) {i : Nat} (hpos : 0 < i) {g : Goroutine} (hi : gs[i]? = some g) (hrun : g.status = .running) : Nx p Goal m τ (Wt p gs.size ρ M) t (runT p.P (crowd gs w sl) i) := by
  have hilt : i < gs.size := (Array.getElem?_eq_some_iff.1 hi).1; have hr := h.roles i g hpos hi; have hheld := h.held i hpos hilt
  cases hρ : ρ i with
  | quit n =>
    rw [hρ] at hr
    cases n with
    | zero => rw [hr.1] at hrun; cases hrun
    | succ n =>
      rcases hr with ⟨hf, _⟩ | ⟨_, g', es, hm, hstp, hq'⟩
      · rw [hf] at hrun; cases hrun
      have hrunT := runT_crowd_go (P := p.P) (sl := sl) hi (show stepG p.P (i == 0) g w = _ by rw [gz hpos]; exact hstp w); have hmap : gs.map (woken p.P g g' w) = gs := map_same fun k x hx => h.still (fun j hj => rfl) g g' hx; rw [hmap] at hrunT; refine ⟨upd ρ i (.quit n), M, _, _, w, sl, cl, hrunT, h.slip hpos hi hρ (evs_own i _ _ es) (fun op hop => ?_) ?_, ?_⟩
      · obtain ⟨e, he, rfl⟩ := Go.Conc.mem_ofEvents hop
        exact Go.Conc.touch_mute (hm e he)
      · rw [Deaf_own]; exact hq'
      · have := Wt_upd (p := p) (ρ := ρ) (M := M) hpos hilt (.quit n)
        rw [hρ] at this; simp only [Role.wt] at this; rw [Array.size_setIfInBounds]
        omega
  | park B j k c ro fr cs hp => rw [hρ] at hr; obtain ⟨_, ⟨zz, rfl⟩, _⟩ := hr; cases hrun
  | run B j k c ro fr cs hp =>
    rw [hρ] at hr hheld; obtain ⟨hd, rfl, hf⟩ := hr
    cases B with
    | zero => exact hf.elim
    | succ B =>
      rcases hf w h.env hheld.1 hheld.2 with ⟨fr', cs', w', es, hp', hst, hev, ht, hf'⟩ | ⟨hlt, zz, hst, hf'⟩ | ⟨hk, hwk, fr', cs', hst, hf'⟩
      · have hrunT := runT_crowd_go (P := p.P) (sl := sl) hi (show stepG p.P (i == 0) (G fr cs) w = _ by rw [gz hpos]; exact hst)
        have hown : ∀ k', Has hp k' → ownOf M ρ i k' := fun k' hk' => .inr ⟨hpos, by rw [hρ]; exact hk'⟩; rw [h.mapped ht hown] at hrunT; have htg : (ρ i).tag ≠ .quit := by rw [hρ]; simp [Role.tag]
        refine ⟨upd ρ i (.run B j k c ro fr' cs' hp'), M, _, _, w', sl, cl, hrunT, ?_, ?_⟩
        · refine h.act (h.live_of hpos hi htg) hown rfl rfl (fun k' => ?_) rfl (fun k' => ?_) (fun _ => rfl) (fun k' _ hk' => by rw [upd_ne _ _ hk']) (fun e => by omega) (fun _ => by rw [upd_same]; rfl) ht (evs_own i _ _ es) (evs_quiet hev i _ _) (fun op hop x hx hm k' hk' => (evs_in hev i _ _ op hop x hx hm k' hk').imp (fun q => ⟨q.1, .inr ⟨hpos, by rw [hρ]; exact q.2⟩⟩) id) (by simp) ?_ ?_
          · by_cases e : k' = i
            · subst e; rw [upd_same, hρ]; rfl
            · rw [upd_ne _ _ e]
          · by_cases e : k' = i
            · subst e; rw [upd_same, hρ]; rfl
            · rw [upd_ne _ _ e]
          · obtain ⟨g0, h0, hm⟩ := h.main
            exact ⟨g0, by rw [Array.getElem?_setIfInBounds_ne (by omega)]; exact h0, hm⟩
          · intro k' x hk' hx
            rcases set1 hilt hx with ⟨rfl, rfl⟩ | ⟨h1, h3⟩
            · rw [upd_same]; exact ⟨hd, rfl, hf'⟩
            · rw [upd_ne _ _ h1]; exact h.roles k' x hk' h3
        · have := Wt_upd (p := p) (ρ := ρ) (M := M) hpos hilt (.run B j k c ro fr' cs' hp')
          rw [hρ] at this; simp only [Role.wt] at this; rw [Array.size_setIfInBounds]
          omega
      · exact case_send h hpos hi hρ hlt hst hf'
      · exact case_close h hpos hi hρ hk hwk hst hf'
theorem InvD.step_0 (h : InvD p Goal m τ ρ M t gs w cl) {g : Goroutine} (hi : gs[0]? = some g) (hrun : g.status = .running) : Nx p Goal m τ (Wt p gs.size ρ M) t (runT p.P (crowd gs w sl) 0) ∨ Fin p Goal t (runT p.P (crowd gs w sl) 0) := by
  obtain ⟨g0, h0, hm⟩ := h.main; rw [hi] at h0; obtain rfl := Option.some.inj h0
  cases M with
  | park B c d i j a b ro fr cs hp => obtain ⟨rfl, _⟩ := hm; cases hrun
  | run B ms ro fr cs hp =>
    obtain ⟨hlk, hf⟩ := hm
    cases B with
    | zero => exact hf.elim
    | succ B =>
      have hf0 := hf
      rcases hf w h.env h.heldM.1 h.heldM.2 with ⟨fr', cs', w', es, hp', hst, hev, ht, hf'⟩ | hc
      · refine .inl ?_
        have hrunT := runT_crowd_go (P := p.P) (sl := sl) hi (show stepG p.P (0 == 0) g w = _ from (hlk.step w).trans hst); have hown : ∀ k', Has hp k' → ownOf (.run (B + 1) ms ro fr cs hp) ρ 0 k' := fun k' hk' => .inl ⟨rfl, hk'⟩; rw [h.mapped ht hown] at hrunT; refine ⟨ρ, .run B ms ro fr' cs' hp', _, _, w', sl, cl, hrunT, ?_, ?_⟩
        · refine h.act (.inl rfl) hown rfl rfl (fun _ => rfl) rfl (fun _ => rfl) (fun e => absurd rfl e) (fun _ _ _ => rfl) (fun _ => rfl) (fun e => absurd rfl e) ht (evs_own 0 _ _ es) (evs_quiet hev 0 _ _) (fun op hop x hx hm k' hk' => (evs_in hev 0 _ _ op hop x hx hm k' hk').imp (fun q => ⟨q.1, .inl ⟨rfl, q.2⟩⟩) id) (by simp) ⟨_, Array.getElem?_setIfInBounds_self_of_lt h.pos, ⟨rfl, rfl, rfl, rfl⟩, hf'⟩ ?_
          intro k' x hk' hx; rw [Array.getElem?_setIfInBounds_ne (by omega)] at hx; exact h.roles k' x hk' hx
        · simp only [Wt, MR.wt, MR.st, Array.size_setIfInBounds]
          omega
      · cases ms with
        | s0 =>
          obtain ⟨fr', cs', fc, c, tm, r1, h2, hst, a1, a2, a3, a4, a5, a6, a7, a8⟩ := hc; have hrunT := runT_crowd_spawn (P := p.P) (sl := sl) (i := 0) hi (show stepG p.P (0 == 0) g w = _ from (hlk.step w).trans hst); rw [ofE0] at hrunT; refine .inl ⟨_, _, _, _, _, sl, _, hrunT, spawn_inv (ms := .s0) (ms' := .s1 c) h ⟨rfl, rfl⟩ ⟨rfl, rfl⟩ rfl rfl (fun j hj => by cases hj) (fun j => ⟨rfl, rfl⟩) (fun j => ⟨rfl, rfl⟩) a8 a1 a2 a3 a4 a5 a6 a7, ?_⟩; exact spawn_wt (ms := .s0) (ms' := .s1 c) (by simp only [unb]; omega) h.cmb.m0 rfl h.size _ (by simp)
        | s1 c0 =>
          obtain ⟨fr', cs', fc, c, tm, r1, h2, hst, a1, a2, a3, a4, a5, a6, a7, a8⟩ := hc; have hrunT := runT_crowd_spawn (P := p.P) (sl := sl) (i := 0) hi (show stepG p.P (0 == 0) g w = _ from (hlk.step w).trans hst); rw [ofE0] at hrunT; refine .inl ⟨_, _, _, _, _, sl, _, hrunT, spawn_inv (ms := .s1 c0) (ms' := .ga c0 c 0 0 false false) h ⟨rfl, rfl⟩ ⟨rfl, rfl⟩ rfl rfl (fun j hj => ?_) (fun j => ?_) (fun j => ?_) a8 a1 a2 a3 a4 a5 a6 a7, ?_⟩
          · obtain rfl : j = 0 := by simp only [nsp] at hj; omega
            rfl
          · refine ⟨?_, rfl⟩
            simp only [rcv]; split <;> rfl
          · refine ⟨?_, rfl⟩
            simp only [hrd]; split <;> rfl
          · exact spawn_wt (ms := .s1 c0) (ms' := .ga c0 c 0 0 false false) (by simp only [unb]; omega) h.cmb.m0 rfl h.size _ (by simp)
        | ga c d i j a b =>
          obtain ⟨hst, x1, x2, x3, x4, x5, x6⟩ := hc; exact case_ga h hi ((hlk.step w).trans hst) hf0 x1 x2 (conts2_of x1 x2 x3 x4 x5 x6)
theorem InvD.step (h : InvD p Goal m τ ρ M t gs w cl) : Nx p Goal m τ (Wt p gs.size ρ M) t (stepT p.P (crowd gs w sl)) ∨ Fin p Goal t (stepT p.P (crowd gs w sl)) := by
  obtain ⟨i, g, d, sl', hi, hrun, hst⟩ := crowd_pick (P := p.P) (w := w) (sl := sl) h.awake h.runs; rw [hst]
  rcases Nat.eq_zero_or_pos i with rfl | hpos
  · exact (h.at d).step_0 hi hrun
  · exact .inl ((h.at d).step_i hpos hi hrun)
theorem InvD.run : ∀ (n : Nat) {ρ : Nat → Role} {M : MR} {t : Trace} {gs : Array Goroutine} {w : World} {cl : Nat → Bool} {sl : Option (Nat × Nat)}, InvD p Goal m τ ρ M t gs w cl → Wt p gs.size ρ M ≤ n →
    ∃ (N : Nat) (gs' : Array Goroutine) (g' : Goroutine) (w' : World) (sl' : Option (Nat × Nat)) (t' : Trace) (q' : Nat → Nat) (B' : Nat),
      runNT p.P N (crowd gs w sl) t = (.next (crowd gs' w' sl'), t') ∧ gs'[0]? = some g' ∧ Leavers p.P t' gs' q' ∧ Past noS B' t' ∧ Goal g' w' := by
  intro n
  induction n with
  | zero =>
    intro ρ M t gs w cl sl h hn
    exfalso
    have : 0 < M.wt := by cases M <;> simp only [MR.wt] <;> omega
    unfold Wt at hn
    omega
  | succ n ih =>
    intro ρ M t gs w cl sl h hn
    rcases h.step (sl := sl) with ⟨ρ', M', u, gs', w', sl', cl', hs, h', hlt⟩ | ⟨gs', g', w', sl', u, q', B', hs, h0, hL, hP, hco⟩
    · obtain ⟨N, gs2, g2, w2, sl2, t2, q2, B2, r2, hh⟩ := ih (sl := sl') h' (by omega)
      exact ⟨N + 1, gs2, g2, w2, sl2, t2, q2, B2, by simp only [runNT, hs]; exact r2, hh⟩
    · obtain ⟨N, gs2, g2, w2, sl2, t2, q2, B2, r2, hh⟩ := hco w'.drawn gs' sl' _ q' B' h0 hL hP
      exact ⟨N + 1, gs2, g2, w2, sl2, t2, q2, B2, by simp only [runNT, hs]; exact r2, hh⟩
theorem duo {B : Nat} {fr : Frame} {cs : List Frame} {hp : Hq} (hf : FolM p Goal B .s0 [] fr cs hp) (hheld : Held hp p.W) (hown : ∀ q ∈ hp, q.1 ∈ p.o) : Co p.P (G fr cs) p.W Goal := by
  intro d gs sl t q B0 h0 hLv hP; have henv : Sur p p.W := ⟨rfl, rfl, rfl, Nat.le_refl _, fun k _ _ => rfl⟩
  let ρ : Nat → Role := fun i => .quit (q i)
  have hm : 0 < gs.size := (Array.getElem?_eq_some_iff.1 h0).1
  have own0 : ∀ g k, ownOf (.run B .s0 [] fr cs hp) ρ g k → g = 0 ∧ k ∈ p.o := by
    rintro g k (⟨rfl, q, hq, rfl⟩ | ⟨_, q, hq, _⟩)
    · exact ⟨rfl, hown q hq⟩
    · cases hq
  have rd0 : ∀ g k, rdOf p (.run B .s0 [] fr cs hp) ρ g k → k < p.W.heap.size ∧ k ∉ p.o := by
    rintro g k (⟨_, hk | ⟨q, hq, _⟩⟩ | ⟨_, hk | ⟨q, hq, _⟩⟩)
    · exact hk
    · cases hq
    · exact hk
    · cases hq
  have live0 : ∀ g, liveOf gs.size gs.size ρ g → g = 0 := by
    rintro g (h | ⟨h1, h2, _⟩)
    · exact h
    · omega
  have inv : InvD p Goal gs.size t.size ρ (.run B .s0 [] fr cs hp) t gs (p.W.at d) (fun _ => false) := by
    refine InvD.at (w := p.W) ?_ d
    refine { cmb := ⟨hm, fun i _ _ => rfl, fun j hj => (by cases hj), fun hn => (by cases hn.1), fun e => (by cases e)⟩, size := rfl, main := ⟨_, h0, ⟨rfl, rfl, rfl, rfl⟩, hf⟩, roles := fun i g hi hg => hLv.old i g hi hg, chs := fun j hj => (by cases hj), chn := fun j hj => (by cases hj), chd := fun e => (by cases e), env := henv, heldM := ⟨hheld, fun q hq => (by cases hq)⟩
             held := fun i _ _ => ⟨fun q hq => (by cases hq), fun q hq => (by cases hq)⟩, far := fun i _ => ⟨rfl, rfl⟩, d1 := fun g g' k h1 h2 => (own0 g k h1).1.trans (own0 g' k h2).1.symm, d2 := fun g g' k h1 h2 => (rd0 g' k h2).2 (own0 g k h1).2, ti := ?_, kn := ?_, seen := ⟨B0, hP.seen⟩, above := hLv.above }
    · refine ⟨Nat.le_refl _, hP.clean, fun g hg i a _ ha hm => ?_, fun g k _ i a hi ha _ => ?_, fun g k _ i a hi ha => ?_, fun i a k hi ha => ?_, fun g hg => by rw [live0 g hg]; exact hP.hears⟩
      · rw [live0 g hg]
        rcases hP.known i a ha hm with h1 | ⟨h1, _⟩
        · exact h1
        · exact h1.elim
      all_goals
        obtain ⟨x, hx, _⟩ := touch_of ha; have := lt_size_of_getElem? hx
        omega
    · intro i a ha hm
      rcases hP.known i a ha hm with ⟨q, z, h1, h2, h3⟩ | ⟨h1, _⟩
      · exact ⟨q, h3, z, h1, .inl (.inl h2)⟩
      · exact h1.elim
  exact inv.run _ (Nat.le_refl _)
end
end Go.W
end
