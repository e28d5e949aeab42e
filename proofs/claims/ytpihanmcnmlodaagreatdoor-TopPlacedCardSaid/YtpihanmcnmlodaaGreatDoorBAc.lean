/- Texts. -/
import Derived.KernelRfl
import Derived.Test.YtpihanmcnmlodaaGreatDoorBAb
set_option linter.unusedVariables false
set_option linter.unusedSimpArgs false
section
namespace Go.W
open Go Go.RowKit
def Blk (g : Nat) (o : Obj) : Fact where
  P w := w.heap[g]? = some o
  fp k := k = g
  st w w' h hP := (h g rfl).trans hP
  lt w hP k hk := by subst hk; exact J4 hP
def blks (hp : Hp) : List Fact := hp.map fun p => Blk p.1 p.2
theorem d5 {b : Bx} {hp : Hp} {L : List Fact} {g o : Nat} {cs : Array Value} {t : TypeId} {fz : Nat × Nat} {v : Value} (h : Blk g (Obj.cells cs t fz) ∈ L) (hv : cs[o]? = some v) : Cell b hp L ⟨g, o, none⟩ v := fun w hw => by
  have : w.heap[g]? = some (.cells cs t fz) := hw.fs _ h
  simp [World.cell?, this, hv]
theorem kN {b : Bx} {hp : Hp} {L : List Fact} {g o : Nat} {cs : Array Value} {us : List Value} {t : TypeId} {fz : Nat × Nat} (h : Blk g (Obj.cells cs t fz) ∈ L) (hv : ∀ i u, us[i]? = some u → cs[o + i]? = some u) : Cells b hp L ⟨g, o, none⟩ us := fun w hw i u hu => by
  have : w.heap[g]? = some (.cells cs t fz) := hw.fs _ h; rw [sR]
  simp [World.cell?, this, hv i u hu]
def openB (u : List Tmp) : Env → (Fr → List Fact → Prop) → Fr → List Fact → Prop
  | [], K, fr, L => K fr L
  | (d, .ex v) :: E, K, fr, L => openB u E (fun fr' L' => K ((d, v) :: fr') L') fr L
  | (d, .vs s rd) :: E, K, fr, L => openB u E (fun fr' L' => cond (u.contains d) (∀ x, s.inv x → K ((d, s.val x) :: fr') (s.L x ++ L')) (K fr' L')) fr L
  | (d, .ws s false _) :: E, K, fr, L => openB u E (fun fr' L' => cond (u.contains d) (∀ x, s.inv x → K ((d, s.val x) :: fr') (s.L x ++ L')) (K fr' L')) fr L
  | (_, .ws _ true _) :: E, K, fr, L => openB u E K fr L
  | (d, .ad _) :: E, K, fr, L => cond (u.contains d) False (openB u E K fr L)
theorem P7 {b : Bx} {hp : Hp} {w : World} {a : Act} {u : List Tmp} {n : Nat} {fr : Fr} {L : List Fact} (hu : ∀ t ∈ u, t < 1000000) (hfn : ∀ t v, lk fr t = some v → t < n) :
    ∀ (E : Env) (K : Fr → List Fact → Prop), (∀ p ∈ E, p.2.isUn = false → p.1 < n) → (∀ p ∈ E, p.2.isUn = true → 1000000 ≤ p.1) → (∀ p ∈ E, p.1 ∈ u → p.2.holds b hp w (a.tmps.getD p.1 undef)) → openB u E K fr L →
      ∃ fr' L', K fr' L' ∧ (∀ t ∈ u, (t ∈ E.map (·.1) ∨ ∀ v, lk fr t = some v → a.tmps.getD t undef = v) → ∀ v, lk fr' t = some v → a.tmps.getD t undef = v) ∧ (∀ t v, lk fr' t = some v → t < n) ∧ ∀ F ∈ L', F ∈ L ∨ Good b hp w F
  | [], K, _, _, _, h => ⟨fr, L, h, fun t _ hb v hv => by rcases hb with hb | hb; simp at hb; exact hb v hv, hfn, fun F hF => .inl hF⟩
  | (d, .ex v) :: E, K, hn, hn2, hh, h => by
    obtain ⟨fr', L', h1, h2, h3, h4⟩ := P7 hu hfn E _ (fun p hp => hn p (by simp [hp])) (fun p hp => hn2 p (by simp [hp])) (fun p hp => hh p (by simp [hp])) h; refine ⟨(d, v) :: fr', L', h1, fun t ht hb v' hv' => ?_, fun t v' hv' => ?_, h4⟩
    · rw [z8] at hv'
      split at hv'
      · rename_i e
        subst e
        cases hv'
        exact hh (d, .ex v) (by simp) ht
      rename_i e
      refine h2 t ht ?_ v' hv'
      rcases hb with hb | hb
      · simp only [List.map_cons, List.mem_cons] at hb
        rcases hb with hb | hb
        · exact absurd hb.symm e
        exact .inl hb
      exact .inr hb
    rw [z8] at hv'
    split at hv'
    · rename_i e; subst e; exact hn (d, .ex v) (by simp) rfl
    exact h3 t v' hv'
  | (d, .ws s true l0) :: E, K, hn, hn2, hh, h => by
    obtain ⟨fr', L', h1, h2, h3, h4⟩ := P7 hu hfn E _ (fun p hp => hn p (by simp [hp])) (fun p hp => hn2 p (by simp [hp])) (fun p hp => hh p (by simp [hp])) h; refine ⟨fr', L', h1, fun t ht hb v' hv' => h2 t ht ?_ v' hv', h3, h4⟩
    rcases hb with hb | hb
    · simp only [List.map_cons, List.mem_cons] at hb
      rcases hb with hb | hb
      · have h5 := hu t ht
        have h6 := hn2 (d, .ws s true l0) (by simp) rfl; exact absurd (hb ▸ h5 : d < 1000000) (Nat.not_lt.2 h6)
      exact .inl hb
    exact .inr hb
  | (d, .ws s false l0) :: E, K, hn, hn2, hh, h => by
    obtain ⟨fr', L', h1, h2, h3, h4⟩ := P7 hu hfn E _ (fun p hp => hn p (by simp [hp])) (fun p hp => hn2 p (by simp [hp])) (fun p hp => hh p (by simp [hp])) h
    cases hc : u.contains d
    · rw [hc, cond_false] at h1
      refine ⟨fr', L', h1, fun t ht hb v' hv' => h2 t ht ?_ v' hv', h3, h4⟩
      rcases hb with hb | hb
      · simp only [List.map_cons, List.mem_cons] at hb
        rcases hb with hb | hb
        · subst hb
          simp at hc
          exact absurd ht hc
        exact .inl hb
      exact .inr hb
    rw [hc, cond_true] at h1; have hd : d ∈ u := by simpa using hc
    obtain ⟨x, hx, he, hL⟩ := hh (d, .ws s false l0) (by simp) hd rfl; refine ⟨(d, s.val x) :: fr', s.L x ++ L', h1 x hx, fun t ht hb v' hv' => ?_, fun t v' hv' => ?_, fun F hF => ?_⟩
    · rw [z8] at hv'
      split at hv'
      · rename_i e
        subst e
        cases hv'
        exact he
      rename_i e
      refine h2 t ht ?_ v' hv'
      rcases hb with hb | hb
      · simp only [List.map_cons, List.mem_cons] at hb
        rcases hb with hb | hb
        · exact absurd hb.symm e
        exact .inl hb
      exact .inr hb
    · rw [z8] at hv'
      split at hv'
      · rename_i e; subst e; exact hn (d, .ws s false l0) (by simp) rfl
      exact h3 t v' hv'
    rcases List.mem_append.1 hF with hF | hF
    · exact .inr (hL F hF)
    exact h4 F hF
  | (d, .vs s rd) :: E, K, hn, hn2, hh, h => by
    obtain ⟨fr', L', h1, h2, h3, h4⟩ := P7 hu hfn E _ (fun p hp => hn p (by simp [hp])) (fun p hp => hn2 p (by simp [hp])) (fun p hp => hh p (by simp [hp])) h
    cases hc : u.contains d
    · rw [hc, cond_false] at h1
      refine ⟨fr', L', h1, fun t ht hb v' hv' => h2 t ht ?_ v' hv', h3, h4⟩
      rcases hb with hb | hb
      · simp only [List.map_cons, List.mem_cons] at hb
        rcases hb with hb | hb
        · subst hb
          simp at hc
          exact absurd ht hc
        exact .inl hb
      exact .inr hb
    rw [hc, cond_true] at h1; have hd : d ∈ u := by simpa using hc
    obtain ⟨x, hx, he, hL⟩ := hh (d, .vs s rd) (by simp) hd; refine ⟨(d, s.val x) :: fr', s.L x ++ L', h1 x hx, fun t ht hb v' hv' => ?_, fun t v' hv' => ?_, fun F hF => ?_⟩
    · rw [z8] at hv'
      split at hv'
      · rename_i e
        subst e
        cases hv'
        exact he
      rename_i e
      refine h2 t ht ?_ v' hv'
      rcases hb with hb | hb
      · simp only [List.map_cons, List.mem_cons] at hb
        rcases hb with hb | hb
        · exact absurd hb.symm e
        exact .inl hb
      exact .inr hb
    · rw [z8] at hv'
      split at hv'
      · rename_i e; subst e; exact hn (d, .vs s rd) (by simp) rfl
      exact h3 t v' hv'
    rcases List.mem_append.1 hF with hF | hF
    · exact .inr (hL F hF)
    exact h4 F hF
  | (d, .ad s) :: E, K, hn, hn2, hh, h => by
    cases hc : u.contains d
    · simp only [openB, hc, cond_false] at h
      obtain ⟨fr', L', h1, h2, h3, h4⟩ := P7 hu hfn E _ (fun p hp => hn p (by simp [hp])) (fun p hp => hn2 p (by simp [hp])) (fun p hp => hh p (by simp [hp])) h; refine ⟨fr', L', h1, fun t ht hb v' hv' => h2 t ht ?_ v' hv', h3, h4⟩
      rcases hb with hb | hb
      · simp only [List.map_cons, List.mem_cons] at hb
        rcases hb with hb | hb
        · subst hb
          simp at hc
          exact absurd ht hc
        exact .inl hb
      exact .inr hb
    simp only [openB, hc, cond_true] at h
def patch (a : Act) (n : Nat) (u : List Tmp) (fr : Fr) : Act := { tmps := Array.ofFn (n := n) fun t => if t.1 ∈ u then a.tmps.getD t.1 undef else (lk fr t.1).getD undef, defers := [] }
theorem lj7 {c : Cx} {a : Act} {n : Nat} {u : List Tmp} {fr : Fr} (hD : c.D = []) (hcn : c.n = n) (hn : ∀ t v, lk fr t = some v → t < n) (hu : ∀ t ∈ u, ∀ v, lk fr t = some v → a.tmps.getD t undef = v) : Ok c (patch a n u fr) fr := by
  refine ⟨hD.symm, by simp [patch, hcn], fun t v hv => ?_⟩; have hlt := hn t v hv; simp only [patch, Array.getD_eq_getD_getElem?, Array.getElem?_ofFn, hlt, dif_pos, Option.getD_some]
  split
  · rename_i ht
    have := hu t ht v hv
    simpa [Array.getD_eq_getD_getElem?] using this
  simp [hv]
theorem zN {a : Act} {n : Nat} {u : List Tmp} {fr : Fr} {t : Nat} (ht : t ∈ u) (hlt : a.tmps.size = n) : (patch a n u fr).tmps.getD t undef = a.tmps.getD t undef := by
  by_cases h : t < n
  · simp [patch, Array.getD_eq_getD_getElem?, Array.getElem?_ofFn, h, ht]
  have h1 : (patch a n u fr).tmps.size ≤ t := by simp [patch]; omega
  have h2 : a.tmps.size ≤ t := by omega
  simp [Array.getD_eq_getD_getElem?, Array.getElem?_eq_none h1, Array.getElem?_eq_none h2]
theorem zN? {a : Act} {n : Nat} {u : List Tmp} {fr : Fr} {t : Nat} (ht : t ∈ u) (hlt : a.tmps.size = n) : (patch a n u fr).tmps[t]? = a.tmps[t]? := by
  by_cases h : t < n
  · have h2 : t < a.tmps.size := by omega
    simp [patch, Array.getElem?_ofFn, h, ht, h2]
  have h1 : (patch a n u fr).tmps.size ≤ t := by simp [patch]; omega
  have h2 : a.tmps.size ≤ t := by omega
  simp [Array.getElem?_eq_none h1, Array.getElem?_eq_none h2]
section
variable {P : Program} {ops : Array Oper} {o : Oper} {a a2 : Act}
theorem bx1 (h : ∀ t ∈ o.looksAt ops, a2.tmps[t]? = a.tmps[t]?) : Region.wanted o (yielded ops a2.tmps) = Region.wanted o (yielded ops a.tmps) := by
  unfold Region.wanted
  cases hg : o.guard with
  | none => rfl
  | some g =>
    obtain ⟨j, want⟩ := g
    simp only
    have : yielded ops a2.tmps j = yielded ops a.tmps j := by
      unfold yielded
      cases hj : (ops[j]?).bind (·.dst) with
      | none => rfl
      | some t =>
        have ht : t ∈ o.looksAt ops := by
          simp [Oper.looksAt, hg, hj]
        simp only [Option.bind_some, h t ht]
    rw [this]
theorem az4 (hs : noSelect o = true) (h : ∀ t ∈ o.looksAt ops, a2.tmps.getD t undef = a.tmps.getD t undef) : execOp a2.eval o = execOp a.eval o := by
  refine execOp_congr o (fun cs b e => by simp [noSelect, e] at hs) fun x hx => ?_
  cases x with
  | tmp t =>
    refine h t ?_; simp only [Oper.looksAt, List.mem_append, List.mem_filterMap]; exact .inl ⟨_, by simpa using hx, rfl⟩
  | _ => rfl
theorem iz0 {w : World} {R : Value → World → Prop} {K : Act → World → Prop} (hs : noSelect o = true) (h : ∀ t ∈ o.looksAt ops, a2.tmps.getD t undef = a.tmps.getD t undef)
    (hk : ∀ v w', K (a2.put o.dst v) w' → R v w') (hdf : ∀ dd v w', ¬ K (({ a2 with defers := dd :: a2.defers } : Act).put o.dst v) w')
    (hw : owp P o a2 w K (fun _ _ _ => False)) : owp P o a w (fun a' w' => ∃ v, a' = a.put o.dst v ∧ R v w') (fun _ _ _ => False) := by
  rcases hw with hw | ⟨h0, l, f, tmps, assign, body, h1, h2⟩
  · refine .inl ?_
    unfold Oper.wp at *; rw [az4 hs h] at hw; generalize (execOp a.eval o).run P w = r at *
    cases r with
    | ok n w' =>
      cases n <;> simp only [Oper.upon] at hw ⊢
      case value v => exact ⟨v, rfl, hk _ _ hw⟩
      case skip => exact ⟨undef, rfl, hk _ _ hw⟩
      case defer dd => exact (hdf _ _ _ hw).elim
      case row => exact Rows.mono hw fun v _ he => ⟨v, rfl, hk _ _ he⟩
      case enter =>
        refine Calls.mono hw fun e w'' he => ?_
        cases e with
        | returned v => exact ⟨v, rfl, hk _ _ he⟩
        | panicked ch => exact he.elim
        | outgrown => obtain ⟨_, _, he⟩ := he; exact he.elim
    | halt x w' => cases x <;> simp only [Oper.upon] at hw
  rw [az4 hs h] at h1; exact .inr ⟨h0, l, f, tmps, assign, body, h1, h2.mono fun e w' ⟨v, e1, hh⟩ => ⟨v, e1, v, rfl, hk _ _ hh⟩⟩
end
def QR (c : Cx) (d : Tmp) (R : Value → World → Prop) : Exit → Act → World → Prop
  | .normal, a', w' => a'.defers = [] ∧ R (a'.tmps.getD d undef) w'
  | _, _, _ => False
section
variable {c : Cx} {ops : Array Oper} {fr : Fr} {hp : Hp} {L : List Fact} {E : Env} {K : Env → Prop} {r : List Oper} {o : Oper} {d : Tmp}
def cx1 (c : Cx) (w0 : World) (L : List Fact) : Cx := ⟨c.P, c.n, ⟨w0, [], fun k => ∃ F ∈ L, F.fp k⟩, [], none⟩
theorem wi_one {w : World} {L' : List Fact} (hL : ∀ F ∈ L', F.P w) : WI ⟨w, [], fun k => ∃ F ∈ L', F.fp k⟩ w [] L' :=
  ⟨Ext.refl _ _, by simp, by simp, by simp, hL, by simp, fun F hF k hk => .inr (.inr ⟨F, hF, hk⟩)⟩
theorem yU {c' : Bx} {R : Value → World → Prop} {O' : Hp} {L' : List Fact} {fr' : Fr} {a : Act} {w : World} (hs : noSelect o = true) (hdo : ∀ d', o.dst = some d' → d' = d ∧ d < c.n) (hts : a.tmps.size = c.n) (hn : ∀ t v, lk fr' t = some v → t < c.n)
    (hfr : ∀ t ∈ o.looksAt ops, ∀ v, lk fr' t = some v → a.tmps.getD t undef = v) (hwi : WI c' w O' L') (hR : o.dst = none → ∀ v w', R undef w' → R v w')
    (h : HL ⟨c.P, c.n, c', [], none⟩ ops (QR c ((o.dst).getD 1000000) R) [o] fr' O' L') (hbig : c.n ≤ 1000000) :
    if Region.wanted o (yielded ops a.tmps) then owp c.P o a w (fun a' w' => ∃ v, a' = a.put o.dst v ∧ R v w') (fun _ _ _ => False) else R undef w := by
  have hok := lj7 (c := ⟨c.P, c.n, c', [], none⟩) (a := a) (n := c.n) (u := o.looksAt ops) rfl rfl hn hfr; have hw := h (patch a c.n (o.looksAt ops) fr') w hok hwi; have hwc := bx1 (o := o) (ops := ops) (a := a) (a2 := patch a c.n (o.looksAt ops) fr') (fun t ht => zN? ht hts); have hnext : ∀ a' w', wpL c.P ops (QR c ((o.dst).getD 1000000) R) [] a' w' → a'.defers = [] ∧ R (a'.tmps.getD ((o.dst).getD 1000000) undef) w' := fun a' w' h => h; unfold wpL at hw; rw [hwc] at hw
  split
  · rename_i hwant
    rw [if_pos hwant] at hw
    have hfin : ∀ v w', (fun a' w' => a'.defers = [] ∧ R (a'.tmps.getD ((o.dst).getD 1000000) undef) w') ((patch a c.n (o.looksAt ops) fr').put o.dst v) w' → R v w' := by
      intro v w' ⟨_, h2⟩
      cases hdst : o.dst with
      | some d' =>
        obtain ⟨rfl, hlt⟩ := hdo d' hdst; rw [hdst] at h2; simp only [Option.getD_some] at h2; rw [pF (by simp only [patch, Array.size_ofFn]; exact hlt), if_pos rfl] at h2; exact h2
      | none =>
        rw [hdst] at h2
        have e3 : ((patch a c.n (o.looksAt ops) fr').put none v).tmps.getD 1000000 undef = undef := by
          have : ((patch a c.n (o.looksAt ops) fr').put none v).tmps.size ≤ 1000000 := by simpa [patch, Act.put] using hbig
          simp [Array.getD_eq_getD_getElem?, Array.getElem?_eq_none this]
        exact hR hdst v w' (e3 ▸ h2)
    have hdfr : ∀ (dd : Deferred) v w', ¬ (fun a' w' => a'.defers = [] ∧ R (a'.tmps.getD ((o.dst).getD 1000000) undef) w') (({ patch a c.n (o.looksAt ops) fr' with defers := dd :: (patch a c.n (o.looksAt ops) fr').defers } : Act).put o.dst v) w' := by
      intro dd v w' ⟨h1, _⟩
      cases hdst : o.dst <;> rw [hdst] at h1 <;> simp [Act.put] at h1
    exact iz0 hs (fun t ht => zN ht hts) hfin hdfr (dx3 hnext hw)
  rename_i hwant
  rw [if_neg hwant] at hw; have hw2 := (hnext _ _ hw).2
  cases hdst : o.dst with
  | some d' =>
    obtain ⟨rfl, hlt⟩ := hdo d' hdst; rw [hdst] at hw2; simp only [Option.getD_some] at hw2; rw [pF (by simp only [patch, Array.size_ofFn]; exact hlt), if_pos rfl] at hw2; exact hw2
  | none =>
    rw [hdst] at hw2
    have e3 : (patch a c.n (o.looksAt ops) fr').tmps.getD 1000000 undef = undef := by
      have : (patch a c.n (o.looksAt ops) fr').tmps.size ≤ 1000000 := by simpa [patch] using hbig
      simp [Array.getD_eq_getD_getElem?, Array.getElem?_eq_none this]
    exact e3 ▸ hw2
theorem env_inj {E : Env} (hnd : (E.map (·.1)).Nodup) {p q : Tmp × OS} (h1 : p ∈ E) (h2 : q ∈ E) (e : q.1 = p.1) : q = p := by
  induction E with
  | nil => simp at h1
  | cons x l ih =>
    simp only [List.map_cons, List.nodup_cons] at hnd
    rcases List.mem_cons.1 h1 with h1 | h1
    · rcases List.mem_cons.1 h2 with h2 | h2
      · rw [h1, h2]
      exact absurd (List.mem_map.2 ⟨q, h2, by rw [e, h1]⟩) hnd.1
    rcases List.mem_cons.1 h2 with h2 | h2
    · exact absurd (List.mem_map.2 ⟨p, h1, by rw [← e, h2]⟩) hnd.1
    exact ih hnd.2 h1 h2
theorem rC {b : Bx} {hp : Hp} {fr : Fr} {E : Env} {w : World} {a : Act} {u : List Tmp} (hnd : (E.map (·.1)).Nodup) (hseen : ∀ t ∈ u, Seen b hp fr E w t (a.tmps.getD t undef)) : ∀ p ∈ E, p.1 ∈ u → p.2.holds b hp w (a.tmps.getD p.1 undef) := by
  intro p hp hu; have := hseen p.1 hu; unfold Seen at this; rw [tS (t := p.1) (s := p.2) hp (fun q hq e => by rw [env_inj hnd hp hq e])] at this; exact this
theorem bz6 {b : Bx} {hp : Hp} {fr fr' : Fr} {E : Env} {w : World} {a : Act} {u : List Tmp} (hseen : ∀ t ∈ u, Seen b hp fr E w t (a.tmps.getD t undef))
    (h2 : ∀ t ∈ u, (t ∈ E.map (·.1) ∨ ∀ v, lk fr t = some v → a.tmps.getD t undef = v) → ∀ v, lk fr' t = some v → a.tmps.getD t undef = v) : ∀ t ∈ u, ∀ v, lk fr' t = some v → a.tmps.getD t undef = v := by
  intro t ht v hv; refine h2 t ht ?_ v hv
  by_cases hm : t ∈ E.map (·.1)
  · exact .inl hm
  right
  have := hseen t ht; unfold Seen at this; rw [tR (fun p hp e => hm (List.mem_map.2 ⟨p, hp, e⟩))] at this; exact this
theorem bz4 {E : Env} {s : OS} {R : Bx → World → Value → World → Prop} {L1 : List Fact} (hd : o.dst = some d) (hs : noSelect o = true) (hdn : d < c.n) (hbig : c.n ≤ 1000000)
    (h : openB (o.looksAt ops) E (fun fr' L' => ∀ w0, HL (cx1 c w0 L') ops (QR c d (R ⟨w0, [], fun k => ∃ F ∈ L', F.fp k⟩ w0)) [o] fr' [] L') fr L1)
    (hL1 : ∀ w, WI c.b w hp L → ∀ F ∈ L1, F.P w)
    (hR : ∀ (w : World) (L' : List Fact) (v : Value) (w' : World), WI c.b w hp L → (∀ F ∈ L', F ∈ L1 ∨ Good c.b hp w F) → R ⟨w, [], fun k => ∃ F ∈ L', F.fp k⟩ w v w' → Ext [] w w' ∧ s.holds c.b hp w' v) :
    StepOK c ops fr hp L E o s := by
  intro a w hfn hEn hnd hwi hdf hts hseen; obtain ⟨fr', L', h1, h2, h3, h4⟩ := P7 (b := c.b) (hp := hp) (w := w) (a := a) hEn.lk hfn E _ hEn.lt hEn.un (rC hnd hseen) h; have hLP : ∀ F ∈ L', F.P w := fun F hF => (h4 F hF).elim (fun h => hL1 w hwi F h) (fun h => h.1); have hw := h1 w; have hloc := yU (c := c) (ops := ops) (o := o) (d := d) (a := a) (w := w) (fr' := fr') (L' := L') (O' := []) hs (fun d' e => by rw [hd] at e; cases e; exact ⟨rfl, hdn⟩) hts h3 (bz6 hseen h2) (wi_one hLP) (fun e => by rw [hd] at e; cases e) (by rw [hd]; exact hw) hbig
  split at hloc
  · rename_i hwant
    rw [if_pos hwant]
    exact cE (fun a' w' ⟨v, e, hr⟩ => by
      obtain ⟨q1, q2⟩ := hR w L' v w' hwi h4 hr
      exact ⟨v, e, q1, q2⟩) hloc
  rename_i hwant
  rw [if_neg hwant]; exact (hR w L' undef w hwi h4 hloc).2
def openG (ρ : Tmp → Value) (bL : Bool) (u : List Tmp) : Env → (Fr → List Fact → Hp → Prop) → Fr → List Fact → Hp → Prop
  | [], K, fr, L, O => K fr L O
  | (d, .ex v) :: E, K, fr, L, O => openG ρ bL u E (fun fr' L' O' => K ((d, v) :: fr') L' O') fr L O
  | (d, .vs s rd) :: E, K, fr, L, O => openG ρ bL u E (fun fr' L' O' => cond (u.contains d) (∀ x, s.inv x → K ((d, s.val x) :: fr') (s.L x ++ L') O') (K fr' L' O')) fr L O
  | (d, .ws s false lks) :: E, K, fr, L, _ => openB u E (fun fr' L' => ∀ x, s.inv x → (bL = true → ρ d = s.val x) → (bL = true → LinkV ρ (s.hp x) lks) → K ((d, s.val x) :: fr') (s.L x ++ L') (s.hp x)) fr L
  | (_, .ws s true lks) :: E, K, fr, L, _ => openB u E (fun fr' L' => ∀ x, s.inv x → (bL = true → LinkV ρ (s.hp x) lks) → K fr' (s.L x ++ L') (s.hp x)) fr L
  | (d, .ad _) :: E, K, fr, L, O => cond (u.contains d) False (openG ρ bL u E K fr L O)
theorem pY {b : Bx} {hp : Hp} {w : World} {a : Act} {u : List Tmp} {n : Nat} {fr : Fr} {L : List Fact} {O0 O : Hp} {bL : Bool} (hu : ∀ t ∈ u, t < 1000000) (hfn : ∀ t v, lk fr t = some v → t < n) :
    ∀ (E : Env) (K : Fr → List Fact → Hp → Prop), (∀ p ∈ E, p.2.isUn = false → p.1 < n) → (∀ p ∈ E, p.2.isUn = true → 1000000 ≤ p.1) → (∀ p ∈ E, p.1 ∈ u → p.2.holds b (O ++ hp) w (a.tmps.getD p.1 undef)) → TokE b O0 hp E a w O → openG (fun t => a.tmps.getD t undef) bL u E K fr L O0 →
      ∃ fr' L', K fr' L' O ∧ (∀ t ∈ u, (t ∈ E.map (·.1) ∨ ∀ v, lk fr t = some v → a.tmps.getD t undef = v) → ∀ v, lk fr' t = some v → a.tmps.getD t undef = v) ∧ (∀ t v, lk fr' t = some v → t < n) ∧ ∀ F ∈ L', F ∈ L ∨ Good b (O ++ hp) w F
  | [], K, _, _, _, ht, h => by
    have : O = O0 := ht; subst this; exact ⟨fr, L, h, fun t _ hb v hv => by rcases hb with hb | hb; simp at hb; exact hb v hv, hfn, fun F hF => .inl hF⟩
  | (d, .ex v) :: E, K, hn, hn2, hh, htk, h => by
    obtain ⟨fr', L', h1, h2, h3, h4⟩ := pY (bL := bL) hu hfn E _ (fun p hp => hn p (by simp [hp])) (fun p hp => hn2 p (by simp [hp])) (fun p hp => hh p (by simp [hp])) htk h; refine ⟨(d, v) :: fr', L', h1, fun t ht hb v' hv' => ?_, fun t v' hv' => ?_, h4⟩
    · rw [z8] at hv'
      split at hv'
      · rename_i e
        subst e
        cases hv'
        exact hh (d, .ex v) (by simp) ht
      rename_i e
      refine h2 t ht ?_ v' hv'
      rcases hb with hb | hb
      · simp only [List.map_cons, List.mem_cons] at hb
        rcases hb with hb | hb
        · exact absurd hb.symm e
        exact .inl hb
      exact .inr hb
    rw [z8] at hv'
    split at hv'
    · rename_i e; subst e; exact hn (d, .ex v) (by simp) rfl
    exact h3 t v' hv'
  | (d, .vs s rd) :: E, K, hn, hn2, hh, htk, h => by
    obtain ⟨fr', L', h1, h2, h3, h4⟩ := pY (bL := bL) hu hfn E _ (fun p hp => hn p (by simp [hp])) (fun p hp => hn2 p (by simp [hp])) (fun p hp => hh p (by simp [hp])) htk h
    cases hc : u.contains d
    · rw [hc, cond_false] at h1
      refine ⟨fr', L', h1, fun t ht hb v' hv' => h2 t ht ?_ v' hv', h3, h4⟩
      rcases hb with hb | hb
      · simp only [List.map_cons, List.mem_cons] at hb
        rcases hb with hb | hb
        · subst hb
          simp at hc
          exact absurd ht hc
        exact .inl hb
      exact .inr hb
    rw [hc, cond_true] at h1; have hd : d ∈ u := by simpa using hc
    obtain ⟨x, hx, he, hL⟩ := hh (d, .vs s rd) (by simp) hd; refine ⟨(d, s.val x) :: fr', s.L x ++ L', h1 x hx, fun t ht hb v' hv' => ?_, fun t v' hv' => ?_, fun F hF => ?_⟩
    · rw [z8] at hv'
      split at hv'
      · rename_i e
        subst e
        cases hv'
        exact he
      rename_i e
      refine h2 t ht ?_ v' hv'
      rcases hb with hb | hb
      · simp only [List.map_cons, List.mem_cons] at hb
        rcases hb with hb | hb
        · exact absurd hb.symm e
        exact .inl hb
      exact .inr hb
    · rw [z8] at hv'
      split at hv'
      · rename_i e; subst e; exact hn (d, .vs s rd) (by simp) rfl
      exact h3 t v' hv'
    rcases List.mem_append.1 hF with hF | hF
    · exact .inr (hL F hF)
    exact h4 F hF
  | (d, .ws s false l0) :: E, K, hn, hn2, hh, htk, h => by
    obtain ⟨fr', L', h1, h2, h3, h4⟩ := P7 hu hfn E _ (fun p hp => hn p (by simp [hp])) (fun p hp => hn2 p (by simp [hp])) (fun p hp => hh p (by simp [hp])) h; obtain ⟨x, hx, he, hlk, hL, rfl⟩ := htk; refine ⟨(d, s.val x) :: fr', s.L x ++ L', h1 x hx (fun _ => he rfl) (fun _ => hlk), fun t ht hb v' hv' => ?_, fun t v' hv' => ?_, fun F hF => ?_⟩
    · rw [z8] at hv'
      split at hv'
      · rename_i e
        subst e
        cases hv'
        exact he rfl
      rename_i e
      refine h2 t ht ?_ v' hv'
      rcases hb with hb | hb
      · simp only [List.map_cons, List.mem_cons] at hb
        rcases hb with hb | hb
        · exact absurd hb.symm e
        exact .inl hb
      exact .inr hb
    · rw [z8] at hv'
      split at hv'
      · rename_i e; subst e; exact hn (d, .ws s false l0) (by simp) rfl
      exact h3 t v' hv'
    rcases List.mem_append.1 hF with hF | hF
    · exact .inr (hL F hF)
    exact h4 F hF
  | (d, .ws s true l0) :: E, K, hn, hn2, hh, htk, h => by
    obtain ⟨fr', L', h1, h2, h3, h4⟩ := P7 hu hfn E _ (fun p hp => hn p (by simp [hp])) (fun p hp => hn2 p (by simp [hp])) (fun p hp => hh p (by simp [hp])) h; obtain ⟨x, hx, he, hlk, hL, rfl⟩ := htk; refine ⟨fr', s.L x ++ L', h1 x hx (fun _ => hlk), fun t ht hb v' hv' => h2 t ht ?_ v' hv', h3, fun F hF => ?_⟩
    · rcases hb with hb | hb
      · simp only [List.map_cons, List.mem_cons] at hb
        rcases hb with hb | hb
        · have h5 := hu t ht
          have h6 := hn2 (d, .ws s true l0) (by simp) rfl; exact absurd (hb ▸ h5 : d < 1000000) (Nat.not_lt.2 h6)
        exact .inl hb
      exact .inr hb
    rcases List.mem_append.1 hF with hF | hF
    · exact .inr (hL F hF)
    exact h4 F hF
  | (d, .ad s) :: E, K, hn, hn2, hh, htk, h => by
    cases hc : u.contains d
    · simp only [openG, hc, cond_false] at h
      obtain ⟨fr', L', h1, h2, h3, h4⟩ := pY (bL := bL) hu hfn E _ (fun p hp => hn p (by simp [hp])) (fun p hp => hn2 p (by simp [hp])) (fun p hp => hh p (by simp [hp])) htk h; refine ⟨fr', L', h1, fun t ht hb v' hv' => h2 t ht ?_ v' hv', h3, h4⟩
      rcases hb with hb | hb
      · simp only [List.map_cons, List.mem_cons] at hb
        rcases hb with hb | hb
        · subst hb
          simp at hc
          exact absurd ht hc
        exact .inl hb
      exact .inr hb
    simp only [openG, hc, cond_true] at h
def openW (u : List Tmp) : Env → (Fr → List Fact → Hp → Prop) → Fr → List Fact → Hp → Prop
  | [], K, fr, L, O => K fr L O
  | (d, .ex v) :: E, K, fr, L, O => openW u E (fun fr' L' O' => K ((d, v) :: fr') L' O') fr L O
  | (d, .vs s rd) :: E, K, fr, L, O => openW u E (fun fr' L' O' => cond (u.contains d) (∀ x, s.inv x → K ((d, s.val x) :: fr') (s.L x ++ L') O') (K fr' L' O')) fr L O
  | (d, .ws s false _) :: E, K, fr, L, _ => openB u E (fun fr' L' => ∀ x, s.inv x → K ((d, s.val x) :: fr') (s.L x ++ L') (s.hp x)) fr L
  | (_, .ws s true _) :: E, K, fr, L, _ => openB u E (fun fr' L' => ∀ x, s.inv x → K fr' (s.L x ++ L') (s.hp x)) fr L
  | (d, .ad _) :: E, K, fr, L, O => cond (u.contains d) False (openW u E K fr L O)
theorem N5 {u : List Tmp} : ∀ (E : Env) {K K' : Fr → List Fact → Prop} {fr : Fr} {L : List Fact}, (∀ fr L, K fr L → K' fr L) → openB u E K fr L → openB u E K' fr L
  | [], _, _, _, _, h, hh => h _ _ hh
  | (d, .ex v) :: E, _, _, _, _, h, hh => N5 E (fun _ _ hk => h _ _ hk) hh
  | (d, .vs s rd) :: E, _, _, _, _, h, hh => N5 E (fun _ _ hk => by
      cases hc : u.contains d
      · rw [hc] at hk; exact h _ _ hk
      rw [hc] at hk; exact fun x hx => h _ _ (hk x hx)) hh
  | (d, .ws s false _) :: E, _, _, _, _, h, hh => N5 E (fun _ _ hk => by
      cases hc : u.contains d
      · rw [hc] at hk; exact h _ _ hk
      rw [hc] at hk; exact fun x hx => h _ _ (hk x hx)) hh
  | (d, .ws s true _) :: E, _, _, _, _, h, hh => N5 E h hh
  | (d, .ad _) :: E, _, _, _, _, h, hh => by
    cases hc : u.contains d
    · simp only [openB, hc, cond_false] at hh ⊢; exact N5 E h hh
    simp only [openB, hc, cond_true] at hh
theorem tO {ρ : Tmp → Value} {bL : Bool} {u : List Tmp} : ∀ (E : Env) {K : Fr → List Fact → Hp → Prop} {fr : Fr} {L : List Fact} {O : Hp}, openW u E K fr L O → openG ρ bL u E K fr L O
  | [], _, _, _, _, hh => hh
  | (d, .ex v) :: E, _, _, _, _, hh => tO E hh
  | (d, .vs s rd) :: E, _, _, _, _, hh => tO E hh
  | (d, .ws s false _) :: E, _, _, _, _, hh => N5 E (fun _ _ hk x hx _ _ => hk x hx) hh
  | (d, .ws s true _) :: E, _, _, _, _, hh => N5 E (fun _ _ hk x hx _ => hk x hx) hh
  | (d, .ad _) :: E, _, _, _, _, hh => by
    cases hc : u.contains d
    · simp only [openW, openG, hc, cond_false] at hh ⊢; exact tO E hh
    simp only [openW, hc, cond_true] at hh
theorem yJ {b : Bx} {w : World} {hp : Hp} {L : List Fact} (hw : WI b w hp L) : ∀ l : List Fact, (∀ F ∈ l, F ∈ L ∨ Good b hp w F) → WI b w hp (l ++ L)
  | [], _ => hw
  | F :: l, h => by
    have := yJ hw l fun G hG => h G (by simp [hG])
    rcases h F (by simp) with h1 | h1
    · exact this.weak (.refl _) (fun G hG => by
        rcases List.mem_cons.1 hG with rfl | hG
        · exact List.mem_append_right _ h1
        exact hG)
    exact this.add h1.1 h1.2.1 h1.2.2
def bxw (w0 : World) (O : Hp) (L : List Fact) : Bx := ⟨w0, O.map (·.1), fun k => ∃ F ∈ L, F.fp k⟩
def RW (s : WS) (un : Bool) (b : Bx) (v : Value) (w' : World) : Prop := ∃ x, s.inv x ∧ (un = false → v = s.val x) ∧ WI b w' (s.hp x) (s.L x)
def RL (s : WS) (un : Bool) (ρ : Tmp → Value) (lks : List (Tmp × Nat)) (b : Bx) (v : Value) (w' : World) : Prop := ∃ x, s.inv x ∧ (un = false → v = s.val x) ∧ LinkV ρ (s.hp x) lks ∧ WI b w' (s.hp x) (s.L x)
theorem rw_rl {s : WS} {un : Bool} {ρ : Tmp → Value} {b : Bx} {v : Value} {w' : World} (h : RW s un b v w') : RL s un ρ [] b v w' := by
  obtain ⟨x, h1, h2, h3⟩ := h; exact ⟨x, h1, h2, fun p hp => (by cases hp), h3⟩
theorem kx9 {E : Env} {O0 : Hp} (s : WS) (un : Bool) (bL : Bool) (lks : List (Tmp × Nat)) (R : (Tmp → Value) → Bx → Value → World → Prop) (hR : ∀ ρ b v w', R ρ b v w' → RL s un ρ lks b v w') (hR2 : un = true → ∀ ρ b v v' w', R ρ b v w' → R ρ b v' w') (hlk : ∀ p ∈ lks, ∃ s' un' l', (p.1, OS.ws s' un' l') ∈ E) (hdo : DstOK o d (.ws s un lks) E.length) (hs : noSelect o = true) (hdn : un = false → d < c.n) (hbig : c.n ≤ 1000000)
    (h : ∀ ρ, openG ρ bL (o.looksAt ops) E (fun fr' L' O' => ∀ w0, HL ⟨c.P, c.n, bxw w0 O' L', [], none⟩ ops (QR c ((o.dst).getD 1000000) (R ρ (bxw w0 O' L'))) [o] fr' O' L') fr L O0) : StepW c ops fr O0 hp L E o s un lks := by
  refine ⟨hlk, ?_⟩; intro a w O hfn hEn hnd hwi hdf hts hseen htk; obtain ⟨fr', L', h1, h2, h3, h4⟩ := pY (b := c.b) (hp := hp) (w := w) (a := a) (bL := bL) hEn.lk hfn E _ hEn.lt hEn.un (rC hnd hseen) htk (h _)
  let k : Con s.β := { hpI := O, LI := L', inv := s.inv, val := s.val, hpO := s.hp, LO := s.L }
  have hwi' : WI c.b w (O ++ hp) (L' ++ L) := yJ hwi L' h4; have hent : WI (k.entry w) w O L' := WI.entry (k := k) hwi' (.refl _) (fun F hF => List.mem_append_left _ hF)
  have hloc := yU (c := c) (ops := ops) (o := o) (d := d) (a := a) (w := w) (fr' := fr') (L' := L') (O' := O) hs (fun d' e => by
      rcases hdo with ⟨e1, e2⟩ | ⟨e1, _⟩
      · rw [e1] at e; cases e; exact ⟨rfl, hdn e2⟩
      · rw [e1] at e; cases e) hts h3 (bz6 hseen h2) hent (fun e v w' hr => by
      rcases hdo with ⟨e1, e2⟩ | ⟨e1, e2, _⟩
      · rw [e1] at e; cases e
      simp only [OS.isUn] at e2; exact hR2 e2 _ _ _ _ _ hr) (h1 w) hbig
  have fin : ∀ v w', R (fun t => a.tmps.getD t undef) (bxw w O L') v w' → PostW c O hp L (fun t => a.tmps.getD t undef) lks w s un v w' := by
    intro v w' hr; obtain ⟨x, r1, r2, rl, r3⟩ := hR _ _ _ _ hr; have r3' : WI (k.entry w) w' (k.hpO x) (k.LO x) := r3; have hb := WI.back (k := k) (x := x) hwi' (.refl _) (fun F hF => List.mem_append_left _ hF) r3'; refine ⟨x, r1, r2, rl, hb.weak (.refl _) (fun F hF => by simp [hF]), fun F hF => ⟨hb.fs F (by simp [k, hF]), hb.ap F (by simp [k, hF]), hb.al F (by simp [k, hF])⟩, fun F hF => ?_⟩; have hb2 := WI.back (k := k) (x := x) (hwi'.add hF.1 hF.2.1 hF.2.2) (.refl _) (fun F hF => by simp only [List.mem_cons, List.mem_append]; exact .inr (.inl hF)) r3'; exact ⟨hb2.fs F (by simp), hb2.ap F (by simp), hb2.al F (by simp)⟩
  split at hloc
  · rename_i hwant
    rw [if_pos hwant]; exact cE (fun a' w' ⟨v, e, hr⟩ => ⟨v, e, fin v w' hr⟩) hloc
  rename_i hwant
  rw [if_neg hwant]; exact fin undef w hloc
theorem i6 {v : Value} {w0 : World} {c' : Cx} {fr' : Fr} {L' L2 : List Fact} {hp' : Hp} (hv : lk fr' d = some v) : HQ (cx1 c w0 L') (QR c' d (fun v' w' => Ext [] w0 w' ∧ v' = v)) .normal fr' hp' L2 := fun a w ha hw => ⟨ha.d, hw.ext, ha.at_ _ _ hv⟩
theorem D1 {s : VS} {w0 : World} {c' : Cx} {fr' : Fr} {L' L2 : List Fact} {hp' : Hp} (x : s.β) (hx : s.inv x) (hv : lk fr' d = some (s.val x)) (hL : LSub L2 (s.L x)) :
    HQ (cx1 c w0 L') (QR c' d (fun v' w' => ∃ x, s.inv x ∧ v' = s.val x ∧ WI (cx1 c w0 L').b w' [] (s.L x))) .normal fr' hp' L2 := fun a w ha hw => ⟨ha.d, x, hx, ha.at_ _ _ hv, hw.weak (List.nil_sublist _) hL.mem⟩
variable {O0 : Hp}
theorem k9 (v : Value) (hd : o.dst = some d) (hs : noSelect o = true) (hdn : Nat.blt d c.n = true)
    (h : openB (o.looksAt ops) E (fun fr' L' => ∀ w0, HL (cx1 c w0 L') ops (QR c d (fun v' w' => Ext [] w0 w' ∧ v' = v)) [o] fr' [] L') fr (blks hp ++ L))
    (k : HB c ops fr O0 hp L K r ((d, .ex v) :: E)) (hbig : c.n ≤ 1000000 := by exact Nat.le_of_ble_eq_true rfl) : HB c ops fr O0 hp L K (o :: r) E :=
  ⟨d, .ex v, .inl ⟨hd, rfl⟩, fun A O => bz4 (R := fun _ w0 v' w' => Ext [] w0 w' ∧ v' = v) hd hs (by simpa using hdn) hbig h (fun w hw F hF => by
    rcases List.mem_append.1 hF with hF | hF
    · obtain ⟨p, hp, rfl⟩ := List.mem_map.1 hF
      exact hw.own p (List.mem_append_right _ (List.mem_append_right _ hp))
    exact hw.fs F hF) (fun w L' v' w' hw hL hr => ⟨hr.1, hr.2⟩), k⟩
theorem N6 (s : VS) (hd : o.dst = some d) (hs : noSelect o = true) (hdn : Nat.blt d c.n = true)
    (h : openB (o.looksAt ops) E (fun fr' L' => ∀ w0, HL (cx1 c w0 L') ops (QR c d (fun v' w' => ∃ x, s.inv x ∧ v' = s.val x ∧ WI (cx1 c w0 L').b w' [] (s.L x))) [o] fr' [] L') fr L)
    (k : HB c ops fr O0 hp L K r ((d, .vs s false) :: E)) (hbig : c.n ≤ 1000000 := by exact Nat.le_of_ble_eq_true rfl) : HB c ops fr O0 hp L K (o :: r) E :=
  ⟨d, .vs s false, .inl ⟨hd, rfl⟩, fun A O _ => bz4 (R := fun bx w0 v' w' => ∃ x, s.inv x ∧ v' = s.val x ∧ WI bx w' [] (s.L x)) hd hs (by simpa using hdn) hbig h (fun w hw F hF => hw.fs F hF)
    (fun w L' v' w' hw hL hr => by
      obtain ⟨x, h1, h2, h3⟩ := hr; refine ⟨h3.ext, x, h1, h2, fun F hF => ⟨h3.fs F hF, fun p hp hk => ?_, fun k hk => ?_⟩⟩
      · rcases h3.al F hF _ hk with h4 | h4 | ⟨G, hG, h4⟩
        · have := J4 (hw.own p hp)
          simp only at h4
          omega
        · simp at h4
        rcases hL G hG with h5 | h5
        · exact hw.ap G h5 p hp h4
        exact h5.2.1 p hp h4
      rcases h3.al F hF _ hk with h4 | h4 | ⟨G, hG, h4⟩
      · exact .inl (Nat.le_trans hw.ext.size h4)
      · simp at h4
      rcases hL G hG with h5 | h5
      · exact hw.al G h5 k h4
      exact h5.2.2 k h4), k⟩
def rdS (v : Value) : VS := ⟨Unit, fun _ => True, fun _ => v, fun _ => []⟩
theorem hb_rd (v : Value) (hd : o.dst = some d) (hs : noSelect o = true) (hdn : Nat.blt d c.n = true)
    (h : openB (o.looksAt ops) E (fun fr' L' => ∀ w0, HL (cx1 c w0 L') ops (QR c d (fun v' w' => Ext [] w0 w' ∧ v' = v)) [o] fr' [] L') fr (blks (O0 ++ hp) ++ L))
    (k : HB c ops fr O0 hp L K r ((d, .vs (rdS v) true) :: E)) (hbig : c.n ≤ 1000000 := by exact Nat.le_of_ble_eq_true rfl) : HB c ops fr O0 hp L K (o :: r) E :=
  ⟨d, .vs (rdS v) true, .inl ⟨hd, rfl⟩, fun A O hO => bz4 (R := fun _ w0 v' w' => Ext [] w0 w' ∧ v' = v) hd hs (by simpa using hdn) hbig h (fun w hw F hF => by
    obtain rfl := hO rfl
    rcases List.mem_append.1 hF with hF | hF
    · obtain ⟨p, hp, rfl⟩ := List.mem_map.1 hF
      exact hw.own p ((List.mem_append.1 hp).elim (List.mem_append_left _) (fun h => List.mem_append_right _ (List.mem_append_right _ h)))
    exact hw.fs F hF) (fun w L' v' w' hw hL hr => ⟨hr.1, ⟨(), trivial, hr.2, fun F hF => by cases hF⟩⟩), k⟩
theorem qU (s : WS) (hd : o.dst = some d) (hs : noSelect o = true) (hdn : Nat.blt d c.n = true)
    (h : openW (o.looksAt ops) E (fun fr' L' O' => ∀ w0, HL ⟨c.P, c.n, bxw w0 O' L', [], none⟩ ops (QR c ((o.dst).getD 1000000) (RW s false (bxw w0 O' L'))) [o] fr' O' L') fr L O0)
    (k : HB c ops fr O0 hp L K r ((d, .ws s false []) :: E)) (hbig : c.n ≤ 1000000 := by exact Nat.le_of_ble_eq_true rfl) : HB c ops fr O0 hp L K (o :: r) E :=
  ⟨d, .ws s false [], .inl ⟨hd, rfl⟩, fun A => kx9 s false false [] (fun _ => RW s false) (fun _ _ _ _ => rw_rl) (fun h => by cases h) (fun p hp => by cases hp) (.inl ⟨hd, rfl⟩) hs (fun _ => by simpa using hdn) hbig (fun ρ => tO E h), k⟩
theorem hb_st (s : WS) (hd : o.dst = none) (hs : noSelect o = true)
    (h : openW (o.looksAt ops) E (fun fr' L' O' => ∀ w0, HL ⟨c.P, c.n, bxw w0 O' L', [], none⟩ ops (QR c ((o.dst).getD 1000000) (RW s true (bxw w0 O' L'))) [o] fr' O' L') fr L O0)
    (k : HB c ops fr O0 hp L K r ((1000000 + E.length, .ws s true []) :: E)) (hbig : c.n ≤ 1000000 := by exact Nat.le_of_ble_eq_true rfl) : HB c ops fr O0 hp L K (o :: r) E :=
  ⟨1000000 + E.length, .ws s true [], .inr ⟨hd, rfl, rfl⟩, fun A => kx9 s true false [] (fun _ => RW s true) (fun _ _ _ _ => rw_rl) (fun _ _ _ _ _ _ ⟨x, h1, _, h3⟩ => ⟨x, h1, fun h => (by cases h), h3⟩) (fun p hp => by cases hp) (.inr ⟨hd, rfl, rfl⟩) hs (fun h => by cases h) hbig (fun ρ => tO E h), k⟩
theorem hb_ad (s : WS) (hd : o.dst = some d) (hs : noSelect o = true) (hdn : Nat.blt d c.n = true)
    (h : openB (o.looksAt ops) E (fun fr' L' => ∀ w0, HL ⟨c.P, c.n, bxw w0 [] L', [], none⟩ ops (QR c ((o.dst).getD 1000000) (RW s false (bxw w0 [] L'))) [o] fr' [] L') fr L)
    (k : HB c ops fr O0 hp L K r ((d, .ad s) :: E)) (hbig : c.n ≤ 1000000 := by exact Nat.le_of_ble_eq_true rfl) : HB c ops fr O0 hp L K (o :: r) E := by
  refine ⟨d, .ad s, .inl ⟨hd, rfl⟩, fun A => ?_, k⟩; intro O a w hfn hEn hnd hwi hdf hts hseen; obtain ⟨fr', L', h1, h2, h3, h4⟩ := P7 (b := c.b) (hp := O ++ (A ++ hp)) (w := w) (a := a) hEn.lk hfn E _ hEn.lt hEn.un (rC hnd hseen) h
  let kk : Con s.β := { hpI := [], LI := L', inv := s.inv, val := s.val, hpO := s.hp, LO := s.L }
  have hwi' : WI c.b w (O ++ (A ++ hp)) (L' ++ L) := yJ hwi L' h4; have hent : WI (kk.entry w) w [] L' := WI.entry (k := kk) hwi' (List.Perm.refl _) (fun F hF => List.mem_append_left _ hF); have hloc := yU (c := c) (ops := ops) (o := o) (d := d) (a := a) (w := w) (fr' := fr') (L' := L') (O' := []) hs (fun d' e => by rw [hd] at e; cases e; exact ⟨rfl, by simpa using hdn⟩) hts h3 (bz6 hseen h2) hent (fun e => by rw [hd] at e; cases e) (h1 w) hbig
  have fin : ∀ v w', RW s false (bxw w [] L') v w' → PostA c O (A ++ hp) L w s v w' := by
    intro v w' ⟨x, p1, p2, p3⟩; have hb := WI.back (k := kk) (x := x) hwi' (List.Perm.refl _) (fun F hF => List.mem_append_left _ hF) p3; have hb2 : WI c.b w' (s.hp x ++ (O ++ (A ++ hp))) L := hb.weak (List.Sublist.refl _) (fun F hF => List.mem_append_right _ (List.mem_append_right _ hF))
    have hpm : (s.hp x ++ (O ++ (A ++ hp))).Perm (O ++ (s.hp x ++ (A ++ hp))) := by
      rw [← List.append_assoc, ← List.append_assoc O]; exact List.Perm.append_right _ List.perm_append_comm
    refine ⟨x, p1, p2 rfl, hb2.perm hpm, fun F hF => ?_⟩; have e : Ext [] w w' := p3.ext; have hF2 := hF.stay e; refine ⟨hF2.1, fun p hp hk => ?_, hF2.2.2⟩
    rcases List.mem_append.1 (hpm.symm.mem_iff.1 hp) with hp | hp
    · rcases p3.s0 p hp with h6 | h6
      · cases h6
      have := F.lt w hF.1 _ hk; simp only [bxw] at h6
      omega
    exact hF2.2.1 p hp hk
  split at hloc
  · rename_i hwant
    rw [if_pos hwant]; exact cE (fun a' w' ⟨v, e, hr⟩ => ⟨v, e, fin v w' hr⟩) hloc
  rename_i hwant
  rw [if_neg hwant]; exact fin undef w hloc
def isW (t : Tmp) : Env → Bool
  | [] => false
  | (d, .ws _ _ _) :: E => Nat.beq d t || isW t E
  | (_, .ex _) :: E => isW t E
  | (_, .vs _ _) :: E => isW t E
  | (_, .ad _) :: E => isW t E
theorem P5 {s : WS} {un : Bool} {b : Bx} {c' : Cx} {fr' : Fr} {L2 : List Fact} {hp' : Hp} {d : Tmp} (x : s.β) (hx : s.inv x) (hv : un = false → lk fr' d = some (s.val x)) (hh : (s.hp x).Sublist hp') (hL : LSub L2 (s.L x)) :
    HQ ⟨c'.P, c'.n, b, [], none⟩ (QR c' d (RW s un b)) .normal fr' hp' L2 := fun a w ha hw => ⟨ha.d, x, hx, fun hu => ha.at_ _ _ (hv hu), hw.weak hh hL.mem⟩
end
/-! ### The whole region -/
theorem W5 {b : Bx} {hp : Hp} {w : World} {a : Act} {n : Nat} {fr : Fr} {L : List Fact} {u : List Tmp} (hn0 : n ≤ 1000000) (hfn : ∀ t v, lk fr t = some v → t < n) : ∀ (E : Env) (K : Fr → List Fact → Prop), (∀ t ∈ E.map (·.1), t ∈ u) → (∀ p ∈ E, p.2.isUn = false → p.1 < n) → (∀ p ∈ E, p.2.isUn = true → 1000000 ≤ p.1) →
    (∀ p ∈ E, p.2.holds b hp w (a.tmps.getD p.1 undef)) → openB u E K fr L →
    ∃ fr' L', K fr' L' ∧ (∀ t, (t ∈ E.map (·.1) ∨ ∀ v, lk fr t = some v → a.tmps.getD t undef = v) → ∀ v, lk fr' t = some v → a.tmps.getD t undef = v) ∧ ∀ F ∈ L', F ∈ L ∨ Good b hp w F
  | [], K, _, _, _, _, h => ⟨fr, L, h, fun t hb v hv => by rcases hb with hb | hb; simp at hb; exact hb v hv, fun F hF => .inl hF⟩
  | (d, .ex v) :: E, K, hu, hn, hn2, hh, h => by
    obtain ⟨fr', L', h1, h2, h4⟩ := W5 hn0 hfn E _ (fun t ht => hu t (by simp at ht ⊢; exact .inr ht)) (fun p hp => hn p (by simp [hp])) (fun p hp => hn2 p (by simp [hp])) (fun p hp => hh p (by simp [hp])) h; refine ⟨(d, v) :: fr', L', h1, fun t hb v' hv' => ?_, h4⟩; rw [z8] at hv'
    split at hv'
    · rename_i e
      subst e
      cases hv'
      exact hh (d, .ex v) (by simp)
    rename_i e
    refine h2 t ?_ v' hv'
    rcases hb with hb | hb
    · simp only [List.map_cons, List.mem_cons] at hb
      rcases hb with hb | hb
      · exact absurd hb.symm e
      exact .inl hb
    exact .inr hb
  | (d, .ws s true l0) :: E, K, hu, hn, hn2, hh, h => by
    obtain ⟨fr', L', h1, h2, h4⟩ := W5 hn0 hfn E _ (fun t ht => hu t (by simp at ht ⊢; exact .inr ht)) (fun p hp => hn p (by simp [hp])) (fun p hp => hn2 p (by simp [hp])) (fun p hp => hh p (by simp [hp])) h; refine ⟨fr', L', h1, fun t hb v' hv' => h2 t ?_ v' hv', h4⟩
    rcases hb with hb | hb
    · simp only [List.map_cons, List.mem_cons] at hb
      rcases hb with hb | hb
      · right
        intro v hv; have h6 := hn2 (d, .ws s true l0) (by simp) rfl; have h7 := hfn t v hv; rw [hb] at h7; exact absurd h7 (Nat.not_lt.2 (Nat.le_trans hn0 h6))
      exact .inl hb
    exact .inr hb
  | (d, .ws s false l0) :: E, K, hu, hn, hn2, hh, h => by
    obtain ⟨fr', L', h1, h2, h4⟩ := W5 hn0 hfn E _ (fun t ht => hu t (by simp at ht ⊢; exact .inr ht)) (fun p hp => hn p (by simp [hp])) (fun p hp => hn2 p (by simp [hp])) (fun p hp => hh p (by simp [hp])) h; have hc : u.contains d = true := by simpa using hu d (by simp)
    rw [hc, cond_true] at h1; obtain ⟨x, hx, he, hL⟩ := hh (d, .ws s false l0) (by simp) rfl; refine ⟨(d, s.val x) :: fr', s.L x ++ L', h1 x hx, fun t hb v' hv' => ?_, fun F hF => ?_⟩
    · rw [z8] at hv'
      split at hv'
      · rename_i e
        subst e
        cases hv'
        exact he
      rename_i e
      refine h2 t ?_ v' hv'
      rcases hb with hb | hb
      · simp only [List.map_cons, List.mem_cons] at hb
        rcases hb with hb | hb
        · exact absurd hb.symm e
        exact .inl hb
      exact .inr hb
    rcases List.mem_append.1 hF with hF | hF
    · exact .inr (hL F hF)
    exact h4 F hF
  | (d, .vs s rd) :: E, K, hu, hn, hn2, hh, h => by
    obtain ⟨fr', L', h1, h2, h4⟩ := W5 hn0 hfn E _ (fun t ht => hu t (by simp at ht ⊢; exact .inr ht)) (fun p hp => hn p (by simp [hp])) (fun p hp => hn2 p (by simp [hp])) (fun p hp => hh p (by simp [hp])) h; have hc : u.contains d = true := by simpa using hu d (by simp)
    rw [hc, cond_true] at h1; obtain ⟨x, hx, he, hL⟩ := hh (d, .vs s rd) (by simp); refine ⟨(d, s.val x) :: fr', s.L x ++ L', h1 x hx, fun t hb v' hv' => ?_, fun F hF => ?_⟩
    · rw [z8] at hv'
      split at hv'
      · rename_i e
        subst e
        cases hv'
        exact he
      rename_i e
      refine h2 t ?_ v' hv'
      rcases hb with hb | hb
      · simp only [List.map_cons, List.mem_cons] at hb
        rcases hb with hb | hb
        · exact absurd hb.symm e
        exact .inl hb
      exact .inr hb
    rcases List.mem_append.1 hF with hF | hF
    · exact .inr (hL F hF)
    exact h4 F hF
  | (d, .ad s) :: E, K, hu, hn, hn2, hh, h => by
    have hc : u.contains d = true := by simpa using hu d (by simp)
    simp only [openB, hc, cond_true] at h
def LinkF (ks : List Tmp) (fr : Fr) (hp : Hp) (lks : List (Tmp × Nat)) : Prop := ∀ p ∈ lks, ks.contains p.1 = true → ∀ v, lk fr p.1 = some v → v = ptrOf hp p.2
def hasAd : Env → Bool
  | [] => false
  | (_, .ad _) :: _ => true
  | (_, .ex _) :: E => hasAd E
  | (_, .vs _ _) :: E => hasAd E
  | (_, .ws _ _ _) :: E => hasAd E
def openA : Env → (Fr → List Fact → Hp → Prop) → Fr → List Fact → Prop
  | [], K, fr, L => K fr L []
  | (d, .ex v) :: E, K, fr, L => openA E (fun fr' L' A' => K ((d, v) :: fr') L' A') fr L
  | (d, .vs s rd) :: E, K, fr, L => openA E (fun fr' L' A' => ∀ x, s.inv x → K ((d, s.val x) :: fr') (s.L x ++ L') A') fr L
  | (d, .ws s false _) :: E, K, fr, L => openA E (fun fr' L' A' => ∀ x, s.inv x → K ((d, s.val x) :: fr') (s.L x ++ L') A') fr L
  | (_, .ws _ true _) :: E, K, fr, L => openA E K fr L
  | (d, .ad s) :: E, K, fr, L => openA E (fun fr' L' A' => ∀ x, s.inv x → K ((d, s.val x) :: fr') L' (s.hp x ++ A')) fr L
def openE : Env → (Fr → List Fact → Hp → Prop) → Fr → List Fact → Hp → Prop
  | [], K, fr, L, O => K fr L O
  | (d, .ex v) :: E, K, fr, L, O => openE E (fun fr' L' O' => K ((d, v) :: fr') L' O') fr L O
  | (d, .vs s rd) :: E, K, fr, L, O => openE E (fun fr' L' O' => ∀ x, s.inv x → K ((d, s.val x) :: fr') (s.L x ++ L') O') fr L O
  | (d, .ws s false []) :: E, K, fr, L, _ => cond (hasAd E) (openA E (fun fr' L' A' => ∀ x, s.inv x → K ((d, s.val x) :: fr') (s.L x ++ L') (s.hp x ++ A')) fr L) (openB (E.map (·.1)) E (fun fr' L' => ∀ x, s.inv x → K ((d, s.val x) :: fr') (s.L x ++ L') (s.hp x)) fr L)
  | (_, .ws s true []) :: E, K, fr, L, _ => cond (hasAd E) (openA E (fun fr' L' A' => ∀ x, s.inv x → K fr' (s.L x ++ L') (s.hp x ++ A')) fr L) (openB (E.map (·.1)) E (fun fr' L' => ∀ x, s.inv x → K fr' (s.L x ++ L') (s.hp x)) fr L)
  | (d, .ws s false (l :: r)) :: E, K, fr, L, _ => cond (hasAd E) (openA E (fun fr' L' A' => ∀ x, s.inv x → LinkF (E.map (·.1)) fr' (s.hp x) (l :: r) → K ((d, s.val x) :: fr') (s.L x ++ L') (s.hp x ++ A')) fr L) (openB (E.map (·.1)) E (fun fr' L' => ∀ x, s.inv x → LinkF (E.map (·.1)) fr' (s.hp x) (l :: r) → K ((d, s.val x) :: fr') (s.L x ++ L') (s.hp x)) fr L)
  | (_, .ws s true (l :: r)) :: E, K, fr, L, _ => cond (hasAd E) (openA E (fun fr' L' A' => ∀ x, s.inv x → LinkF (E.map (·.1)) fr' (s.hp x) (l :: r) → K fr' (s.L x ++ L') (s.hp x ++ A')) fr L) (openB (E.map (·.1)) E (fun fr' L' => ∀ x, s.inv x → LinkF (E.map (·.1)) fr' (s.hp x) (l :: r) → K fr' (s.L x ++ L') (s.hp x)) fr L)
  | (d, .ad s) :: E, K, fr, L, O => openE E (fun fr' L' O' => ∀ x, s.inv x → K ((d, s.val x) :: fr') L' (s.hp x ++ O')) fr L O
theorem dx5 {u : List Tmp} {l : Array Bool} {a : Act} : ∀ (E : Env) {K : Fr → List Fact → Prop} {fr : Fr} {L : List Fact} {A : Hp}, (∀ t ∈ E.map (·.1), t ∈ u) → openB u E K fr L → AddE l a E A → A = []
  | [], _, _, _, _, _, _, h => h
  | (d, .ex v) :: E, _, _, _, _, hu, hh, h => dx5 E (fun t ht => hu t (by simp at ht ⊢; exact .inr ht)) hh h
  | (d, .vs s r) :: E, _, _, _, _, hu, hh, h => dx5 E (fun t ht => hu t (by simp at ht ⊢; exact .inr ht)) hh h
  | (d, .ws s false lks) :: E, _, _, _, _, hu, hh, h => dx5 E (fun t ht => hu t (by simp at ht ⊢; exact .inr ht)) hh h
  | (d, .ws s true lks) :: E, _, _, _, _, hu, hh, h => dx5 E (fun t ht => hu t (by simp at ht ⊢; exact .inr ht)) hh h
  | (d, .ad s) :: E, _, _, _, _, hu, hh, h => by
    have hc : u.contains d = true := by simpa using hu d (by simp)
    simp only [openB, hc, cond_true] at hh
theorem cF {b : Bx} {hp : Hp} {w : World} {a : Act} {n : Nat} {fr : Fr} {L : List Fact} {l : Array Bool} (hn0 : n ≤ 1000000) (hfn : ∀ t v, lk fr t = some v → t < n) : ∀ (E : Env) (K : Fr → List Fact → Hp → Prop) (A : Hp), (∀ i, i < E.length → l.getD i false = true) → AddE l a E A → (∀ p ∈ E, p.2.isUn = false → p.1 < n) → (∀ p ∈ E, p.2.isUn = true → 1000000 ≤ p.1) →
    (∀ p ∈ E, p.2.holds b hp w (a.tmps.getD p.1 undef)) → openA E K fr L →
    ∃ fr' L' A2, K fr' L' A2 ∧ A2.Perm A ∧ (∀ t, (t ∈ E.map (·.1) ∨ ∀ v, lk fr t = some v → a.tmps.getD t undef = v) → ∀ v, lk fr' t = some v → a.tmps.getD t undef = v) ∧ ∀ F ∈ L', F ∈ L ∨ Good b hp w F
  | [], K, A, _, hA, _, _, _, h => by
    have : A = [] := hA; subst this; exact ⟨fr, L, [], h, .refl _, fun t hb v hv => by rcases hb with hb | hb; simp at hb; exact hb v hv, fun F hF => .inl hF⟩
  | (d, .ex v) :: E, K, A, hl, hA, hn, hn2, hh, h => by
    obtain ⟨fr', L', A2, h1, hO2, h2, h4⟩ := cF hn0 hfn E _ A (fun i hi => hl i (by simp; omega)) hA (fun p hp => hn p (by simp [hp])) (fun p hp => hn2 p (by simp [hp])) (fun p hp => hh p (by simp [hp])) h; refine ⟨(d, v) :: fr', L', A2, h1, hO2, fun t hb v' hv' => ?_, h4⟩; rw [z8] at hv'
    split at hv'
    · rename_i e
      subst e
      cases hv'
      exact hh (d, .ex v) (by simp)
    rename_i e
    refine h2 t ?_ v' hv'
    rcases hb with hb | hb
    · simp only [List.map_cons, List.mem_cons] at hb
      rcases hb with hb | hb
      · exact absurd hb.symm e
      exact .inl hb
    exact .inr hb
  | (d, .vs s rd) :: E, K, A, hl, hA, hn, hn2, hh, h => by
    obtain ⟨fr', L', A2, h1, hO2, h2, h4⟩ := cF hn0 hfn E _ A (fun i hi => hl i (by simp; omega)) hA (fun p hp => hn p (by simp [hp])) (fun p hp => hn2 p (by simp [hp])) (fun p hp => hh p (by simp [hp])) h; obtain ⟨x, hx, he, hL⟩ := hh (d, .vs s rd) (by simp); refine ⟨(d, s.val x) :: fr', s.L x ++ L', A2, h1 x hx, hO2, fun t hb v' hv' => ?_, fun F hF => ?_⟩
    · rw [z8] at hv'
      split at hv'
      · rename_i e
        subst e
        cases hv'
        exact he
      rename_i e
      refine h2 t ?_ v' hv'
      rcases hb with hb | hb
      · simp only [List.map_cons, List.mem_cons] at hb
        rcases hb with hb | hb
        · exact absurd hb.symm e
        exact .inl hb
      exact .inr hb
    rcases List.mem_append.1 hF with hF | hF
    · exact .inr (hL F hF)
    exact h4 F hF
  | (d, .ws s false l0) :: E, K, A, hl, hA, hn, hn2, hh, h => by
    obtain ⟨fr', L', A2, h1, hO2, h2, h4⟩ := cF hn0 hfn E _ A (fun i hi => hl i (by simp; omega)) hA (fun p hp => hn p (by simp [hp])) (fun p hp => hn2 p (by simp [hp])) (fun p hp => hh p (by simp [hp])) h; obtain ⟨x, hx, he, hL⟩ := hh (d, .ws s false l0) (by simp) rfl; refine ⟨(d, s.val x) :: fr', s.L x ++ L', A2, h1 x hx, hO2, fun t hb v' hv' => ?_, fun F hF => ?_⟩
    · rw [z8] at hv'
      split at hv'
      · rename_i e
        subst e
        cases hv'
        exact he
      rename_i e
      refine h2 t ?_ v' hv'
      rcases hb with hb | hb
      · simp only [List.map_cons, List.mem_cons] at hb
        rcases hb with hb | hb
        · exact absurd hb.symm e
        exact .inl hb
      exact .inr hb
    rcases List.mem_append.1 hF with hF | hF
    · exact .inr (hL F hF)
    exact h4 F hF
  | (d, .ws s true l0) :: E, K, A, hl, hA, hn, hn2, hh, h => by
    obtain ⟨fr', L', A2, h1, hO2, h2, h4⟩ := cF hn0 hfn E _ A (fun i hi => hl i (by simp; omega)) hA (fun p hp => hn p (by simp [hp])) (fun p hp => hn2 p (by simp [hp])) (fun p hp => hh p (by simp [hp])) h; refine ⟨fr', L', A2, h1, hO2, fun t hb v' hv' => h2 t ?_ v' hv', h4⟩
    rcases hb with hb | hb
    · simp only [List.map_cons, List.mem_cons] at hb
      rcases hb with hb | hb
      · right
        intro v hv; have h6 := hn2 (d, .ws s true l0) (by simp) rfl; have h7 := hfn t v hv; rw [hb] at h7; exact absurd h7 (Nat.not_lt.2 (Nat.le_trans hn0 h6))
      exact .inl hb
    exact .inr hb
  | (d, .ad s) :: E, K, A, hl, hA, hn, hn2, hh, h => by
    unfold AddE at hA; rw [if_pos (hl E.length (by simp))] at hA; obtain ⟨x, A', hx, he, hA', hpA⟩ := hA; obtain ⟨fr', L', A2, h1, hO2, h2, h4⟩ := cF hn0 hfn E _ A' (fun i hi => hl i (by simp; omega)) hA' (fun p hp => hn p (by simp [hp])) (fun p hp => hn2 p (by simp [hp])) (fun p hp => hh p (by simp [hp])) h; refine ⟨(d, s.val x) :: fr', L', s.hp x ++ A2, h1 x hx, (List.Perm.append_left _ hO2).trans hpA.symm, fun t hb v' hv' => ?_, h4⟩; rw [z8] at hv'
    split at hv'
    · rename_i e
      subst e
      cases hv'
      exact he
    rename_i e
    refine h2 t ?_ v' hv'
    rcases hb with hb | hb
    · simp only [List.map_cons, List.mem_cons] at hb
      rcases hb with hb | hb
      · exact absurd hb.symm e
      exact .inl hb
    exact .inr hb
theorem pZ {b : Bx} {hp : Hp} {w : World} {a : Act} {n : Nat} {fr : Fr} {L : List Fact} {O0 O : Hp} {l : Array Bool} (hn0 : n ≤ 1000000) (hfn : ∀ t v, lk fr t = some v → t < n) : ∀ (E : Env) (K : Fr → List Fact → Hp → Prop) (A : Hp), (∀ i, i < E.length → l.getD i false = true) → AddE l a E A → (∀ p ∈ E, p.2.isUn = false → p.1 < n) → (∀ p ∈ E, p.2.isUn = true → 1000000 ≤ p.1) →
    (∀ p ∈ E, p.2.holds b (O ++ hp) w (a.tmps.getD p.1 undef)) → TokE b O0 hp E a w O → openE E K fr L O0 →
    ∃ fr' L' O2, K fr' L' O2 ∧ O2.Perm (O ++ A) ∧ (∀ t, (t ∈ E.map (·.1) ∨ ∀ v, lk fr t = some v → a.tmps.getD t undef = v) → ∀ v, lk fr' t = some v → a.tmps.getD t undef = v) ∧ ∀ F ∈ L', F ∈ L ∨ Good b (O ++ hp) w F
  | [], K, A, _, hA, _, _, _, ht, h => by
    have : O = O0 := ht; subst this; have : A = [] := hA; subst this; exact ⟨fr, L, O, h, by rw [List.append_nil], fun t hb v hv => by rcases hb with hb | hb; simp at hb; exact hb v hv, fun F hF => .inl hF⟩
  | (d, .ex v) :: E, K, A, hl, hA, hn, hn2, hh, htk, h => by
    obtain ⟨fr', L', O2, h1, hO2, h2, h4⟩ := pZ hn0 hfn E _ A (fun i hi => hl i (by simp; omega)) hA (fun p hp => hn p (by simp [hp])) (fun p hp => hn2 p (by simp [hp])) (fun p hp => hh p (by simp [hp])) htk h; refine ⟨(d, v) :: fr', L', O2, h1, hO2, fun t hb v' hv' => ?_, h4⟩; rw [z8] at hv'
    split at hv'
    · rename_i e
      subst e
      cases hv'
      exact hh (d, .ex v) (by simp)
    rename_i e
    refine h2 t ?_ v' hv'
    rcases hb with hb | hb
    · simp only [List.map_cons, List.mem_cons] at hb
      rcases hb with hb | hb
      · exact absurd hb.symm e
      exact .inl hb
    exact .inr hb
  | (d, .vs s rd) :: E, K, A, hl, hA, hn, hn2, hh, htk, h => by
    obtain ⟨fr', L', O2, h1, hO2, h2, h4⟩ := pZ hn0 hfn E _ A (fun i hi => hl i (by simp; omega)) hA (fun p hp => hn p (by simp [hp])) (fun p hp => hn2 p (by simp [hp])) (fun p hp => hh p (by simp [hp])) htk h; obtain ⟨x, hx, he, hL⟩ := hh (d, .vs s rd) (by simp); refine ⟨(d, s.val x) :: fr', s.L x ++ L', O2, h1 x hx, hO2, fun t hb v' hv' => ?_, fun F hF => ?_⟩
    · rw [z8] at hv'
      split at hv'
      · rename_i e
        subst e
        cases hv'
        exact he
      rename_i e
      refine h2 t ?_ v' hv'
      rcases hb with hb | hb
      · simp only [List.map_cons, List.mem_cons] at hb
        rcases hb with hb | hb
        · exact absurd hb.symm e
        exact .inl hb
      exact .inr hb
    rcases List.mem_append.1 hF with hF | hF
    · exact .inr (hL F hF)
    exact h4 F hF
  | (d, .ws s un l0) :: E, K, A, hl, hA, hn, hn2, hh, htk, h => by
    have hex : ∃ (fr' : Fr) (L' : List Fact) (f : s.β → Hp), (∀ x, (f x).Perm (s.hp x ++ A)) ∧ (∀ x, s.inv x → LinkF (E.map (·.1)) fr' (s.hp x) l0 → K (cond un fr' ((d, s.val x) :: fr')) (s.L x ++ L') (f x)) ∧ (∀ t, (t ∈ E.map (·.1) ∨ ∀ v, lk fr t = some v → a.tmps.getD t undef = v) → ∀ v, lk fr' t = some v → a.tmps.getD t undef = v) ∧ ∀ F ∈ L', F ∈ L ∨ Good b (O ++ hp) w F := by
      cases hE : hasAd E with
      | true =>
        have hgen : ∀ (K' : Fr → List Fact → Hp → Prop), openA E K' fr L → ∃ fr' L' A2, K' fr' L' A2 ∧ A2.Perm A ∧ (∀ t, (t ∈ E.map (·.1) ∨ ∀ v, lk fr t = some v → a.tmps.getD t undef = v) → ∀ v, lk fr' t = some v → a.tmps.getD t undef = v) ∧ ∀ F ∈ L', F ∈ L ∨ Good b (O ++ hp) w F := by
          intro K' h; exact cF hn0 hfn E K' A (fun i hi => hl i (by simp; omega)) hA (fun p hp => hn p (by simp [hp])) (fun p hp => hn2 p (by simp [hp])) (fun p hp => hh p (by simp [hp])) h
        cases un with
        | false =>
          cases l0 with
          | nil =>
            unfold openE at h; rw [hE, cond_true] at h; obtain ⟨fr', L', A2, q1, qp, q2⟩ := hgen _ h; exact ⟨fr', L', fun x => s.hp x ++ A2, fun x => List.Perm.append_left _ qp, fun x hx _ => q1 x hx, q2⟩
          | cons q r =>
            unfold openE at h; rw [hE, cond_true] at h; obtain ⟨fr', L', A2, q1, qp, q2⟩ := hgen _ h; exact ⟨fr', L', fun x => s.hp x ++ A2, fun x => List.Perm.append_left _ qp, q1, q2⟩
        | true =>
          cases l0 with
          | nil =>
            unfold openE at h; rw [hE, cond_true] at h; obtain ⟨fr', L', A2, q1, qp, q2⟩ := hgen _ h; exact ⟨fr', L', fun x => s.hp x ++ A2, fun x => List.Perm.append_left _ qp, fun x hx _ => q1 x hx, q2⟩
          | cons q r =>
            unfold openE at h; rw [hE, cond_true] at h; obtain ⟨fr', L', A2, q1, qp, q2⟩ := hgen _ h; exact ⟨fr', L', fun x => s.hp x ++ A2, fun x => List.Perm.append_left _ qp, q1, q2⟩
      | false =>
        have hgen : ∀ (K' : Fr → List Fact → Prop), openB (E.map (·.1)) E K' fr L → A = [] ∧ ∃ fr' L', K' fr' L' ∧ (∀ t, (t ∈ E.map (·.1) ∨ ∀ v, lk fr t = some v → a.tmps.getD t undef = v) → ∀ v, lk fr' t = some v → a.tmps.getD t undef = v) ∧ ∀ F ∈ L', F ∈ L ∨ Good b (O ++ hp) w F := by
          intro K' h; exact ⟨dx5 E (fun t ht => ht) h hA, W5 hn0 hfn E K' (fun t ht => ht) (fun p hp => hn p (by simp [hp])) (fun p hp => hn2 p (by simp [hp])) (fun p hp => hh p (by simp [hp])) h⟩
        cases un with
        | false =>
          cases l0 with
          | nil =>
            unfold openE at h; rw [hE, cond_false] at h; obtain ⟨rfl, fr', L', q1, q2⟩ := hgen _ h; exact ⟨fr', L', fun x => s.hp x, fun x => by rw [List.append_nil], fun x hx _ => q1 x hx, q2⟩
          | cons q r =>
            unfold openE at h; rw [hE, cond_false] at h; obtain ⟨rfl, fr', L', q1, q2⟩ := hgen _ h; exact ⟨fr', L', fun x => s.hp x, fun x => by rw [List.append_nil], q1, q2⟩
        | true =>
          cases l0 with
          | nil =>
            unfold openE at h; rw [hE, cond_false] at h; obtain ⟨rfl, fr', L', q1, q2⟩ := hgen _ h; exact ⟨fr', L', fun x => s.hp x, fun x => by rw [List.append_nil], fun x hx _ => q1 x hx, q2⟩
          | cons q r =>
            unfold openE at h; rw [hE, cond_false] at h; obtain ⟨rfl, fr', L', q1, q2⟩ := hgen _ h; exact ⟨fr', L', fun x => s.hp x, fun x => by rw [List.append_nil], q1, q2⟩
    obtain ⟨fr', L', f, hf, h1, h2, h4⟩ := hex; obtain ⟨x, hx, he, hlk, hL, rfl⟩ := htk
    have hlf : LinkF (E.map (·.1)) fr' (s.hp x) l0 := fun p hp hc v hv => by
      rw [← h2 p.1 (.inl (by simpa using hc)) v hv]; exact hlk p hp
    refine ⟨_, _, _, h1 x hx hlf, hf x, fun t hb v' hv' => ?_, fun F hF => ?_⟩
    · cases un with
      | false =>
        rw [cond_false, z8] at hv'
        split at hv'
        · rename_i e
          subst e
          cases hv'
          exact he rfl
        rename_i e
        refine h2 t ?_ v' hv'
        rcases hb with hb | hb
        · simp only [List.map_cons, List.mem_cons] at hb
          rcases hb with hb | hb
          · exact absurd hb.symm e
          exact .inl hb
        exact .inr hb
      | true =>
        rw [cond_true] at hv'; refine h2 t ?_ v' hv'
        rcases hb with hb | hb
        · simp only [List.map_cons, List.mem_cons] at hb
          rcases hb with hb | hb
          · right
            intro v hv; have h6 := hn2 (d, .ws s true l0) (by simp) rfl; have h7 := hfn t v hv; rw [hb] at h7; exact absurd h7 (Nat.not_lt.2 (Nat.le_trans hn0 h6))
          exact .inl hb
        exact .inr hb
    rcases List.mem_append.1 hF with hF | hF
    · exact .inr (hL F hF)
    exact h4 F hF
  | (d, .ad s) :: E, K, A, hl, hA, hn, hn2, hh, htk, h => by
    unfold AddE at hA; rw [if_pos (hl E.length (by simp))] at hA; obtain ⟨x, A', hx, he, hA', hpA⟩ := hA; obtain ⟨fr', L', O2, h1, hO2, h2, h4⟩ := pZ hn0 hfn E _ A' (fun i hi => hl i (by simp; omega)) hA' (fun p hp => hn p (by simp [hp])) (fun p hp => hn2 p (by simp [hp])) (fun p hp => hh p (by simp [hp])) htk h; refine ⟨(d, s.val x) :: fr', L', s.hp x ++ O2, h1 x hx, ?_, fun t hb v' hv' => ?_, h4⟩
    · refine (List.Perm.append_left _ hO2).trans ?_
      refine List.Perm.trans ?_ (List.Perm.append_left _ hpA.symm); rw [← List.append_assoc, ← List.append_assoc]; exact List.Perm.append_right _ List.perm_append_comm
    rw [z8] at hv'
    split at hv'
    · rename_i e
      subst e
      cases hv'
      exact he
    rename_i e
    refine h2 t ?_ v' hv'
    rcases hb with hb | hb
    · simp only [List.map_cons, List.mem_cons] at hb
      rcases hb with hb | hb
      · exact absurd hb.symm e
      exact .inl hb
    exact .inr hb
def tailSeq (ops : Array Oper) (m : Nat) : Bool := (List.range ops.size).all fun k => Nat.blt k m || (List.range k).all fun i => deps ops ops.size k i
theorem hx6 {n k : Nat} (h : k < n) : (firstM n k).setIfInBounds k true = firstM n (k + 1) := by
  refine wU (by simp [firstM]) fun i hi => ?_; rw [H4 (by simp [firstM]; omega), O8]
  split
  · subst_vars; simp
  rename_i e
  simp
  omega
theorem kx6 {P : Program} {ops : Array Oper} {Q : Exit → Act → World → Prop} {m : Nat} (hb : ∀ i, i < ops.size → ∀ j ∈ edgesOf ops i, j < i) (ht : ∀ k, m ≤ k → k < ops.size → ∀ i, i < k → deps ops ops.size k i = true) :
    ∀ (f k : Nat) (a : Act) (w : World), m ≤ k → k + f = ops.size → wpL P ops Q (ops.toList.drop k) a w → wpX P .any ops Q f (firstM ops.size k) a w := by
  intro f
  induction f with
  | zero =>
    intro k a w hk he h; have e : ops.toList.drop k = [] := List.drop_eq_nil_of_le (by simp; omega); rw [e] at h; refine ⟨?_, h⟩; rw [List.eq_nil_iff_forall_not_mem]; intro i hi; obtain ⟨h1, h2, _⟩ := qA.1 hi; have h3 := hZ h2; rw [O8] at h3
    simp at h3
    omega
  | succ f ih =>
    intro k a w hk he h; have hks : k < ops.size := by omega
    have e : ops.toList.drop k = ops[k] :: ops.toList.drop (k + 1) := by
      rw [List.drop_eq_getElem_cons (by simpa using hks)]
      rfl
    refine ⟨fun hr => ?_, fun i hi => ?_⟩
    · obtain ⟨q, hq⟩ := uZ hb (l := firstM ops.size k) (by simp [firstM]) hks (by rw [O8]; simp)
      rw [hr] at hq
      simp at hq
    obtain ⟨h1, h2, h3⟩ := qA.1 hi; have h4 := hZ h2; rw [O8] at h4
    have hik : i = k := by
      rcases Nat.lt_trichotomy i k with h | h | h
      · simp at h4; omega
      · exact h
      have hc : Closed ops (firstM ops.size k) := by
        intro x hx j hj; rw [O8] at hx ⊢; simp only [decide_eq_true_eq] at hx ⊢; have := hb x hx.1 j hj
        omega
      have := I3 hc _ _ _ h3 (ht i (by omega) h1 k h); rw [O8] at this
      simp at this
    subst hik; rw [e] at h; unfold wpO; rw [Array.getElem?_eq_getElem hks]
    simp only
    rw [hx6 hks]; have nx := fun a w => ih (i + 1) a w (by omega) (by omega); unfold wpL at h
    split at h
    · rename_i hw
      rw [if_pos hw]; exact dx3 nx h
    rename_i hw
    rw [if_neg hw]; exact nx _ _ h
def ordW (ops : Array Oper) (ws : List Nat) : Bool := ws.all fun i => Nat.blt ops.size 1000000 && ws.all fun j => Nat.ble 1000000 j || cond (Nat.blt i 1000000) (!Nat.blt i j || deps ops ops.size j i) (deps ops ops.size j (i - 1000000))
def wIdx : Env → List Nat
  | [] => []
  | (_, .ws _ _ _) :: E => E.length :: wIdx E
  | (_, .ex _) :: E => wIdx E
  | (_, .vs _ rd) :: E => cond rd ((1000000 + E.length) :: wIdx E) (wIdx E)
  | (_, .ad _) :: E => wIdx E
theorem yW {S : List (Tmp × OS)} {i : Nat} {d : Tmp} {s : WS} {un : Bool} {lks : List (Tmp × Nat)} (h : S[i]? = some (d, .ws s un lks)) : i ∈ wIdx S.reverse := by
  have key : ∀ (E : Env) (i : Nat), i < E.length → E[E.length - 1 - i]? = some (d, .ws s un lks) → i ∈ wIdx E := by
    intro E
    induction E with
    | nil => intro i hi; simp at hi
    | cons p E ih =>
      intro i hi h; simp only [List.length_cons] at hi
      by_cases e : i = E.length
      · subst e
        simp at h
        subst h
        simp [wIdx]
      have h1 : (p :: E).length - 1 - i = (E.length - 1 - i) + 1 := by simp; omega
      rw [h1, List.getElem?_cons_succ] at h; have := ih i (by omega) h; obtain ⟨d', s'⟩ := p
      cases s' with
      | vs s' rd => cases rd <;> simp only [wIdx, List.mem_cons, this, or_true, cond_true, cond_false]
      | _ => simp only [wIdx, List.mem_cons, this, or_true]
  have hlt := (List.getElem?_eq_some_iff.1 h).1; refine key S.reverse i (by simpa using hlt) ?_; rw [List.getElem?_reverse (by simp; omega)]; simp only [List.length_reverse]; rw [show S.length - 1 - (S.length - 1 - i) = i by omega, h]
theorem lj3 {S : List (Tmp × OS)} {i : Nat} {d : Tmp} {s : VS} (h : S[i]? = some (d, .vs s true)) : 1000000 + i ∈ wIdx S.reverse := by
  have key : ∀ (E : Env) (i : Nat), i < E.length → E[E.length - 1 - i]? = some (d, .vs s true) → 1000000 + i ∈ wIdx E := by
    intro E
    induction E with
    | nil => intro i hi; simp at hi
    | cons p E ih =>
      intro i hi h; simp only [List.length_cons] at hi
      by_cases e : i = E.length
      · subst e
        simp at h
        subst h
        simp [wIdx]
      have h1 : (p :: E).length - 1 - i = (E.length - 1 - i) + 1 := by simp; omega
      rw [h1, List.getElem?_cons_succ] at h; have := ih i (by omega) h; obtain ⟨d', s'⟩ := p
      cases s' with
      | vs s' rd => cases rd <;> simp only [wIdx, List.mem_cons, this, or_true, cond_true, cond_false]
      | _ => simp only [wIdx, List.mem_cons, this, or_true]
  have hlt := (List.getElem?_eq_some_iff.1 h).1; refine key S.reverse i (by simpa using hlt) ?_; rw [List.getElem?_reverse (by simp; omega)]; simp only [List.length_reverse]; rw [show S.length - 1 - (S.length - 1 - i) = i by omega, h]
theorem ordW_ww {ops : Array Oper} {ws : List Nat} {i j : Nat} (h : ordW ops ws = true) (hi : i ∈ ws) (hj : j ∈ ws) (hio : i < ops.size) (hjo : j < ops.size) (hij : i < j) : deps ops ops.size j i = true := by
  have h1 := (List.all_eq_true.1 h) i hi; rw [Bool.and_eq_true] at h1; have hb : ops.size < 1000000 := by simpa using h1.1
  have h2 := (List.all_eq_true.1 h1.2) j hj; rw [Bool.or_eq_true] at h2
  rcases h2 with h2 | h2
  · have h3 : 1000000 ≤ j := by simpa using h2
    omega
  rw [show Nat.blt i 1000000 = true by simp only [Nat.blt_eq]; omega, cond_true, show Nat.blt i j = true by simpa using hij] at h2
  simpa using h2
theorem ordW_rw {ops : Array Oper} {ws : List Nat} {i j : Nat} (h : ordW ops ws = true) (hi : 1000000 + i ∈ ws) (hj : j ∈ ws) (hjo : j < ops.size) : deps ops ops.size j i = true := by
  have h1 := (List.all_eq_true.1 h) _ hi; rw [Bool.and_eq_true] at h1; have hb : ops.size < 1000000 := by simpa using h1.1
  have h2 := (List.all_eq_true.1 h1.2) j hj; rw [Bool.or_eq_true] at h2
  rcases h2 with h2 | h2
  · have h3 : 1000000 ≤ j := by simpa using h2
    omega
  have e1 : Nat.blt (1000000 + i) 1000000 = false := by
    cases e : Nat.blt (1000000 + i) 1000000 with
    | false => rfl
    | true => rw [Nat.blt_eq] at e; omega
  rw [e1, cond_false, show 1000000 + i - 1000000 = i by omega] at h2; exact h2
theorem jx4 {c : Cx} {l : List Oper} {id : Nat} {Q : Exit → Act → World → Prop} {fr : Fr} {hp : Hp} {L : List Fact} (O0 hpR : Hp) (hpp : hp.Perm (O0 ++ hpR)) (m : Nat) (ws : List Nat) (hm : c.P.follows .mixedOrders = true) (hck : chk l.toArray m = true) (htl : tailSeq l.toArray m = true) (hws : ordW l.toArray ws = true)
    (hfn : fr.all (fun p => Nat.blt p.1 c.n) = true) (hdn : (l.take m).all (fun o => (o.dst.map fun d => Nat.blt d c.n).getD true) = true) (hbig : Nat.ble c.n 1000000 = true)
    (h : HB c l.toArray fr O0 hpR L (fun E => wIdx E = ws ∧ openE E (fun fr' L' O' => HL c l.toArray Q (l.drop m) fr' (O' ++ hpR) L') fr L O0) (l.take m) []) (hnd : noDefer c.rd l = true) : HC c (.region id l.toArray true) Q fr hp L := by
  refine gN hpp ?_; have hbig' : c.n ≤ 1000000 := Nat.le_of_ble_eq_true hbig; intro a w ha hw; obtain ⟨S, h1, h2, h3⟩ := HB.specs _ _ h
  have hlen : (l.take m).length = m := by
    have : ∀ i, i < m → i < l.length := by
      intro i hi; have q := hck; unfold chk at q; simp only [Bool.and_eq_true, List.all_eq_true, List.mem_range] at q; have q2 := q.1.2 i hi
      rcases Nat.lt_or_ge i l.length with h | h
      · exact h
      simp [h] at q2
    rw [List.length_take]
    rcases Nat.lt_or_ge l.length m with h | h
    · exact absurd (this l.length h) (Nat.lt_irrefl _)
    omega
  have hS : S.length = m := by rw [h1, hlen]
  have hsp : ∀ i o, i < m → l.toArray[i]? = some o → ∃ d s, S[i]? = some (d, s) ∧ DstOK o d s i ∧ ∀ A : Hp, StepX c l.toArray fr O0 (A ++ hpR) L (S.take i).reverse o s := by
    intro i o hi ho; obtain ⟨d, s, q1, q2, q3⟩ := h2 i o (by rw [List.getElem?_take, if_pos hi]; simpa using ho); exact ⟨d, s, q1, by simpa using q2, fun A => by simpa using q3 A⟩
  have ck := chkF hck hS (fun i o hi ho => by obtain ⟨d, s, q1, q2, _⟩ := hsp i o hi ho; exact ⟨d, s, q1, q2⟩)
  have hfn' : ∀ t v, lk fr t = some v → t < c.n := by
    intro t v ht
    have : ∃ p ∈ fr, p.1 = t := by
      clear hfn ha h h2 h3 hsp ck hw
      induction fr with
      | nil => simp [lk] at ht
      | cons p r ih =>
        obtain ⟨k, u⟩ := p; rw [z8] at ht
        split at ht
        · rename_i e; exact ⟨(k, u), by simp, e⟩
        obtain ⟨p, hp, e⟩ := ih ht; exact ⟨p, by simp [hp], e⟩
    obtain ⟨p, hp, rfl⟩ := this
    simpa using (List.all_eq_true.1 hfn) p hp
  have hdn' : ∀ p ∈ S, p.2.isUn = false → p.1 < c.n := by
    intro p hp hu; obtain ⟨i, hi⟩ := List.getElem?_of_mem hp; have him : i < m := by have := (List.getElem?_eq_some_iff.1 hi).1; omega
    have hil : i < l.length := by rw [List.length_take] at hlen; omega
    obtain ⟨d, s, q1, q2, _⟩ := hsp i l[i] him (by simp [hil]); rw [hi] at q1; simp only [Option.some.injEq] at q1; subst q1
    have q2 : l[i].dst = some d := by
      rcases q2 with ⟨q2, _⟩ | ⟨_, q2, _⟩
      · exact q2
      rw [q2] at hu; cases hu
    have := (List.all_eq_true.1 hdn) l[i] (List.mem_of_getElem? (i := i) (by rw [List.getElem?_take, if_pos him]; simp [hil]))
    simpa [q2] using this
  refine wpIn_region_any hm (bx0 (by simpa using hnd) ?_); have hw' : WI c.b { w with drawn := w.drawn + 1 } (O0 ++ hpR) L := hw.quiet (mq5 w)
  have tl : ∀ k, m ≤ k → k < l.toArray.size → ∀ i, i < k → deps l.toArray l.toArray.size k i = true := by
    intro k hk hks i hi; unfold tailSeq at htl; rw [List.all_eq_true] at htl; have := htl k (by simpa using hks); rw [Bool.or_eq_true, List.all_eq_true] at this
    rcases this with h | h
    · simp at h; omega
    exact h i (by simpa using hi)
  have hS1 : ∀ (i : Nat) p, S[i]? = some p → i < l.toArray.size := fun i p hi => by
    have := (List.getElem?_eq_some_iff.1 hi).1; have := ck.le
    omega
  have h3' : wIdx S.reverse = ws := by simpa using h3.1
  refine kq0 (fr := fr) (O0 := O0) (hp := hpR) (L := L) ck hS (fun i j d d' s s' un un' _ _ hi hj hij =>
    ordW_ww hws (h3' ▸ yW hi) (h3' ▸ yW hj) (hS1 i _ hi) (hS1 j _ hj) hij) (fun i j d d' s s' un' _ hi hj =>
    ordW_rw hws (h3' ▸ lj3 hi) (h3' ▸ yW hj) (hS1 j _ hj)) hsp (fun a w O A hA hwi hdf hts hseen htk => ?_) hdn' hfn' _ _ _ _ O0 [] ?_ ?_ ?_
  · refine kx6 ck.back tl _ m a w (Nat.le_refl _) (by have := ck.le; omega) ?_
    have hh : ∀ p ∈ S.reverse, p.2.holds c.b (O ++ (A ++ hpR)) w (a.tmps.getD p.1 undef) := by
      intro p hp; have := hseen p.1; unfold Seen at this; rw [tS (t := p.1) (s := p.2) hp (fun q hq e => ?_)] at this
      · exact this
      obtain ⟨i, hi⟩ := List.getElem?_of_mem (List.mem_reverse.1 hp); obtain ⟨j, hj⟩ := List.getElem?_of_mem (List.mem_reverse.1 hq); obtain ⟨p1, p2⟩ := p; obtain ⟨q1, q2⟩ := q; simp only at e; subst e; have := ck.dist i j _ _ _ hi hj; subst this; rw [hi] at hj; simp only [Option.some.injEq, Prod.mk.injEq, true_and] at hj; exact hj.symm
    have h3' := h3.2; simp only [List.append_nil] at h3'
    obtain ⟨fr', L', O2, q1, qO, q2, q3⟩ := pZ (hp := A ++ hpR) (O := O) hbig' hfn' S.reverse _ A (fun i hi => by
      rw [O8]; rw [List.length_reverse] at hi; have := ck.le; simp only [decide_eq_true_eq]
      omega) hA (fun p hp => hdn' p (by simpa using hp)) (fun p hp => ck.un p (by simpa using hp)) hh htk h3'
    have hfr : ∀ t v, lk fr' t = some v → a.tmps.getD t undef = v := fun t v ht => by
      refine q2 t ?_ v ht
      by_cases hm : t ∈ S.reverse.map (·.1)
      · exact .inl hm
      right
      have := hseen t; unfold Seen at this; rw [tR (fun p hp e => hm (List.mem_map.2 ⟨p, hp, e⟩))] at this; exact this
    have hwp : WI c.b w (O2 ++ hpR) L' := ((yJ hwi L' q3).weak (.refl _) (fun F hF => by simp [hF])).perm (by
      rw [← List.append_assoc]
      exact List.Perm.append_right _ qO.symm)
    have := q1 a w ⟨hdf, hts, hfr⟩ hwp
    simpa using this
  · have : ∀ E : Env, AddE (Array.replicate l.toArray.size false) a E [] := by
      intro E
      induction E with
      | nil => rfl
      | cons p E ih =>
        obtain ⟨d, o⟩ := p
        cases o with
        | ad s =>
          unfold AddE; rw [if_neg (by simp [Array.getD_eq_getD_getElem?, Array.getElem?_replicate]; split <;> simp)]; exact ih
        | ex v => exact ih
        | vs s r => exact ih
        | ws s u lks => exact ih
    exact this _
  · refine { sz := by simp, cl := ?_, lm := ?_, wi := hw', tk := .inl ⟨?_, rfl⟩, df := ha.d, ts := ha.sz, old := fun t v _ hv => ha.at_ t v hv, new := ?_ }
    · intro i hi
      simp [Array.getD_eq_getD_getElem?, Array.getElem?_replicate] at hi
      split at hi <;> simp at hi
    · intro i hi
      simp [Array.getD_eq_getD_getElem?, Array.getElem?_replicate] at hi
      split at hi <;> simp at hi
    · intro i d s un lks hi
      simp [Array.getD_eq_getD_getElem?, Array.getElem?_replicate] at hi
      split at hi <;> simp at hi
    intro i d s hi
    simp [Array.getD_eq_getD_getElem?, Array.getElem?_replicate] at hi
    split at hi <;> simp at hi
  simp [unl, List.countP_replicate]
theorem y8 {c : Cx} {ops : Array Oper} {fr : Fr} {O0 hp : Hp} {L : List Fact} {K : Env → Prop} {E : Env} (h : K E) : HB c ops fr O0 hp L K [] E := h
theorem I7 {P : Program} {n : Nat} {b : Bx} {D : List Deferred} {l : List Oper} {id : Nat} {Q : Exit → Act → World → Prop} {fr : Fr} {hp : Hp} {L : List Fact} (O0 hpR : Hp) (hpp : hp.Perm (O0 ++ hpR)) (m : Nat) (ws : List Nat) (hm : P.follows .mixedOrders = true) (hck : chk l.toArray m = true) (htl : tailSeq l.toArray m = true) (hws : ordW l.toArray ws = true)
    (hfn : fr.all (fun p => Nat.blt p.1 n) = true) (hdn : (l.take m).all (fun o => (o.dst.map fun d => Nat.blt d n).getD true) = true) (hbig : Nat.ble n 1000000 = true)
    (h : HB ⟨P, n, b, D, none⟩ l.toArray fr O0 hpR L (fun E => wIdx E = ws ∧ openE E (fun fr' L' O' => HL ⟨P, n, b, D, none⟩ l.toArray Q (l.drop m) fr' (O' ++ hpR) L') fr L O0) (l.take m) []) : HC ⟨P, n, b, D, none⟩ (.region id l.toArray true) Q fr hp L :=
  jx4 O0 hpR hpp m ws hm hck htl hws hfn hdn hbig h rfl
theorem G9 {P : Program} {n : Nat} {b : Bx} {D : List Deferred} {l : List Oper} {id : Nat} {Q : Exit → Act → World → Prop} {fr : Fr} {hp : Hp} {L : List Fact} (m : Nat) (hm : P.follows .mixedOrders = true) (hck : chk l.toArray m = true) (htl : tailSeq l.toArray m = true)
    (hfn : fr.all (fun p => Nat.blt p.1 n) = true) (hdn : (l.take m).all (fun o => (o.dst.map fun d => Nat.blt d n).getD true) = true)
    (h : HB ⟨P, n, b, D, none⟩ l.toArray fr [] hp L (fun E => wIdx E = [] ∧ openE E (fun fr' L' O' => HL ⟨P, n, b, D, none⟩ l.toArray Q (l.drop m) fr' (O' ++ hp) L') fr L []) (l.take m) []) (hbig : Nat.ble n 1000000 = true := by rfl) : HC ⟨P, n, b, D, none⟩ (.region id l.toArray true) Q fr hp L :=
  I7 [] hp (.refl _) m [] hm hck htl rfl hfn hdn hbig h
end Go.W
end
namespace Go.W
section
variable {c : Cx} {Q : Exit → Act → World → Prop} {fr : Fr} {hp : Hp} {L : List Fact} {ops : Array Oper} {rest : List Oper}
theorem mC {p : Prop} (h : p := by repeat constructor) : p := h
theorem nK {α : Type} {l : List α} : List.Sublist [] l := List.nil_sublist _
theorem k8 {α : Type} {l : List α} : List.Perm l l := List.Perm.refl _
theorem n2 {a b : Nat} (h : Nat.ble a b = true := by exact rfl) : a ≤ b := Nat.le_of_ble_eq_true h
theorem m7 {n : Int} (h : I64 n := by unfold I64; omega) : I64 n := h
theorem r9 {n k : Nat} (h : k < n) : n - (k + 1) < n - k := by omega
abbrev i7 (g : Nat) : Option Addr := some ⟨g, 0, none⟩
theorem b4 {d : Tmp} {x : Operand} {v : Value} {ty : TypeId} {pos : String} {af : Array Edge} (hx : ev fr x = some v) (k : HL c ops Q rest ((d, v) :: fr) hp L) (hd : Nat.blt d c.n = true := by exact rfl) : HL c ops Q (⟨some d, .move x, ty, pos, af, none⟩ :: rest) fr hp L := rE hd hx k
theorem b6 {d : Tmp} {x : Operand} {v : Value} {ty : TypeId} {pos : String} {af : Array Edge} (hx : ev fr x = some v) (k : HL c ops Q rest ((d, v) :: fr) hp L) (hd : Nat.blt d c.n = true := by exact rfl) : HL c ops Q (⟨some d, .assign x, ty, pos, af, none⟩ :: rest) fr hp L := lj1 hd hx k
theorem c3 {y : Code} (h : HC c y Q fr hp L) : HL c ops (Exit.then (cw c y Q) Q) [] fr hp L := b7 (c7 h)
theorem d4 {P : Program} {n : Nat} {b : Bx} {D : List Deferred} {id : Nat} {l : List Oper} {y : Code} (h : HL ⟨P, n, b, D, none⟩ l.toArray (Exit.then (cw ⟨P, n, b, D, none⟩ y Q) Q) l fr hp L) : HC ⟨P, n, b, D, none⟩ (.seq (.region id l.toArray false) y) Q fr hp L := d1 (c9 h)
theorem cW {x y z : Code} (h : HC c x (Exit.then (cw c y (Exit.then (cw c z Q) Q)) (Exit.then (cw c z Q) Q)) fr hp L) : HC c (.seq (.seq x y) z) Q fr hp L := d1 (d1 h)
theorem M2 {K : Act → World → Prop} (h : HQ c Q .ret fr hp L) : HC c .ret (Exit.then K Q) fr hp L := j6 (u4 h)
theorem v6 {K K' : Act → World → Prop} {id : Nat} (h : HQ c Q (.exit id) fr hp L) : HQ c (Exit.then K (Exit.then K' Q)) (.exit id) fr hp L := w4 (w4 h)
theorem A1 {K : Act → World → Prop} {id : Nat} (h : HQ c Q .ret fr hp L) : HQ c (Exit.inBlock id (Exit.then K Q)) .ret fr hp L := W6 (u4 h)
theorem tr_tr {K K' : Act → World → Prop} (h : HQ c Q .ret fr hp L) : HQ c (Exit.then K (Exit.then K' Q)) .ret fr hp L := u4 (u4 h)
theorem j4 {P : Program} {n : Nat} {b : Bx} {D : List Deferred} {id : Nat} {l : List Oper} {y : Code} (h : HL ⟨P, n, b, D, none⟩ l.toArray (Exit.then (cw ⟨P, n, b, D, none⟩ y Q) Q) l fr hp L) : HL ⟨P, n, b, D, none⟩ ops (Exit.then (cw ⟨P, n, b, D, none⟩ (.seq (.region id l.toArray false) y) Q) Q) [] fr hp L := b7 (c7 (d1 (c9 h)))
theorem n4 {op : Op} {ty : TypeId} {pos : String} {af : Array Edge} {d : Tmp} {j : Nat} {want b : Bool} {t : Tmp} (hb : (b == want) = false) (k : HL c ops Q rest ((d, undef) :: fr) hp L) (hd : Nat.blt d c.n = true := by exact rfl) (hj : (ops[j]?).bind (·.dst) = some t := by exact rfl) (hv : lk fr t = some (.bool b) := by exact rfl) : HL c ops Q (⟨some d, op, ty, pos, af, some (j, want)⟩ :: rest) fr hp L := D8 rfl rfl hd hj hv hb k
theorem k7 {dst : Option Tmp} {op : Op} {ty : TypeId} {pos : String} {af : Array Edge} {j : Nat} {want b : Bool} {t : Tmp} (hb : (b == want) = true) (k : HL c ops Q (⟨dst, op, ty, pos, af, none⟩ :: rest) fr hp L) (hj : (ops[j]?).bind (·.dst) = some t := by exact rfl) (hv : lk fr t = some (.bool b) := by exact rfl) : HL c ops Q (⟨dst, op, ty, pos, af, some (j, want)⟩ :: rest) fr hp L := cY hj hv hb k
theorem tK : True := trivial
theorem u0 {P : Program} {f : Nat} {fn : Func} (h1 : P.funcs[f]? = some fn) (h2 : (fn.name == "runtime.NumGoroutine") = false := by kernel_rfl) (h3 : fn.body.isNone = false := by kernel_rfl) : Callable P f := ⟨⟨_, h1, h2, h3⟩⟩
theorem aW {P : Program} {t : TypeId} {n : Nat} (h : (P.info? t).map (·.size) = some n := by kernel_rfl) : Sz P t n := h
theorem n9 {p : Prop} (h : p := by kernel_rfl) : p := h
theorem om_l {p : Prop} (h : p := by first | omega | (simp only [List.length_append]; omega)) : p := h
end
section
variable {c : Cx} {ops : Array Oper} {fr : Fr} {hp O0 : Hp} {L : List Fact} {E : Env} {K : Env → Prop} {r : List Oper} {d : Tmp}
theorem m6 {v : Value} {i : Op} {ty : TypeId} {pos : String} {af : Array Edge} {g : Option (Nat × Bool)} (h : openB ((⟨some d, i, ty, pos, af, g⟩ : Oper).looksAt ops) E (fun fr' L' => ∀ w0, HL (cx1 c w0 L') ops (QR c d (fun v' w' => Ext [] w0 w' ∧ v' = v)) [⟨some d, i, ty, pos, af, g⟩] fr' [] L') fr (blks hp ++ L)) (k : HB c ops fr O0 hp L K r ((d, .ex v) :: E)) (hs : noSelect (⟨some d, i, ty, pos, af, g⟩ : Oper) = true := by exact rfl) (hdn : Nat.blt d c.n = true := by exact rfl) (hbig : c.n ≤ 1000000 := by exact Nat.le_of_ble_eq_true rfl) : HB c ops fr O0 hp L K (⟨some d, i, ty, pos, af, g⟩ :: r) E := k9 v rfl hs hdn h k hbig
theorem q_z {v : Value} {w0 : World} {c' : Cx} {fr' : Fr} {L' L2 : List Fact} {hp' : Hp} {op : Array Oper} (hv : lk fr' d = some v) : HL (cx1 c w0 L') op (QR c' d (fun v' w' => Ext [] w0 w' ∧ v' = v)) [] fr' hp' L2 := b7 (i6 hv)
theorem p9 {v : Value} {x : Operand} {ty : TypeId} {pos : String} {af : Array Edge} (h : openB ((⟨some d, .move x, ty, pos, af, none⟩ : Oper).looksAt ops) E (fun fr' _ => ev fr' x = some v) fr (blks hp ++ L)) (k : HB c ops fr O0 hp L K r ((d, .ex v) :: E)) (hdn : Nat.blt d c.n = true := by exact rfl) (hbig : c.n ≤ 1000000 := by exact Nat.le_of_ble_eq_true rfl) : HB c ops fr O0 hp L K (⟨some d, .move x, ty, pos, af, none⟩ :: r) E := k9 v rfl rfl hdn (N5 E (fun fr' L' e w0 => rE hdn e (b7 (i6 (by rw [z8, if_pos rfl])))) h) k hbig
end
end Go.W
