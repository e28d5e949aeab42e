/- Texts. -/
import Derived.ProofKit
import Derived.OpenShut
import Derived.ShutString
import Derived.ChangeOld
import Derived.Below
import Derived.SliceStrings
import Derived.ChangeSlices
import Derived.Deep.Slices
import Derived.Test.YtpihanmcnmlodaaGreatDoorBAn
import Derived.Test.YtpihanmcnmlodaaGreatDoorBAl
import Derived.Test.YtpihanmcnmlodaaGreatDoorBAi
import Derived.Test.YtpihanmcnmlodaaGreatDoorBAh
import Derived.Test.YtpihanmcnmlodaaGreatDoorBAe
set_option linter.unusedVariables false
set_option linter.unusedSimpArgs false
section
namespace Go.Proofs.YtpihanmcnmlodaaGreatDoor
open Go Go.W Tryz T F
set_option maxRecDepth 20000
attribute [local irreducible] HL HC HQ HB Row Rows2 Blk Facts
theorem pR {cs : List Cl} {hs : List Hd} {pr ws : List Int} {p : Int} (h0 : checkT (trOf cs hs) = 0) (hl : pr.length = hs.length) (hp : ∀ x ∈ pr, prB x) (hw : ∀ w ∈ ws, 0 ≤ w ∧ w < (hs.length : Int)) (h6 : 0 ≤ p ∧ p ≤ 6) :
    (foundE cs hs pr ws p = ([], 0, 11) ∧ ∀ x, ¬ FoundS hs (reachK (trOf cs hs) p hs.length) pr ws x) ∨ ∃ b, foundE cs hs pr ws p = (b.1, b.2.2, 0) ∧ BestIs ordP (FoundS hs (reachK (trOf cs hs) p hs.length) pr ws) b := by
  rw [mq2 h0 hl hp hw h6]
  rcases fndB_is (t := trOf cs hs) (hs := hs) (pr := pr) (ws := ws) (p := p) with ⟨h1, h2⟩ | ⟨h1, h2⟩
  · exact .inl ⟨if_pos h1, h2⟩
  exact .inr ⟨_, if_neg (by rw [h1]; decide), h2⟩
theorem lz0 {cs : List Cl} {hs : List Hd} {pr ws : List Int} {p : Int} (h0 : checkT (trOf cs hs) = 0) (hl : pr.length = hs.length) (hp : ∀ x ∈ pr, prB x) (hw : ∀ w ∈ ws, 0 ≤ w ∧ w < (hs.length : Int)) (h6 : 0 ≤ p ∧ p ≤ 6) (he : (foundE cs hs pr ws p).2.2 = 0) :
    (∀ v ∈ (foundE cs hs pr ws p).1, (0 ≤ v ∧ v < (hs.length : Int)) ∧ 0 ≤ (hs.getD v.toNat default).2.1) ∧ (∀ w ∈ ws, missB (reachK (trOf cs hs) p hs.length) (foundE cs hs pr ws p).1 w.toNat = true) := by
  rcases pR (p := p) h0 hl hp hw h6 with ⟨a1, a2⟩ | ⟨b1, a1, a2⟩
  · rw [a1] at he; cases he
  rw [a1]; obtain ⟨c, h1, h2, rfl⟩ := a2.1; unfold fndOK at h2; rw [Bool.and_eq_true] at h2; refine ⟨fun v hv => ⟨by have := bx2 (h1.subset hv); omega, of_decide_eq_true (List.all_eq_true.1 h2.1 v hv)⟩, fun w hw => List.all_eq_true.1 h2.2 w hw⟩
theorem jz8 {cs : List Cl} {hs : List Hd} {pr ws : List Int} {p : Int} (h0 : checkT (trOf cs hs) = 0) (hl : pr.length = hs.length) (hp : ∀ x ∈ pr, prB x) (hw : ∀ w ∈ ws, 0 ≤ w ∧ w < (hs.length : Int)) (h6 : 0 ≤ p ∧ p ≤ 6) : (foundE cs hs pr ws p).1.length ≤ hs.length := by
  rcases pR (p := p) h0 hl hp hw h6 with ⟨a1, a2⟩ | ⟨b1, a1, a2⟩
  · rw [a1]; exact Nat.zero_le _
  rw [a1]; obtain ⟨c, h1, h2, rfl⟩ := a2.1; have := h1.length_le; rw [upI_len] at this; show c.length ≤ _
  omega
theorem lq4 {rs : List (List Bool)} {ks : List Int} {n : Nat} {w : Int} (h : missB rs ks w.toNat = true) : w ∉ missK rs ks n := fun hw => by
  obtain ⟨i, hi, rfl⟩ := List.mem_map.1 hw; rw [Int.toNat_natCast] at h; have := (List.mem_filter.1 hi).2; rw [h] at this; cases this
theorem jq4 {A B S : Option Addr} {ca cb sc : Nat} (cs : List Cl) (hs : List Hd) (ks : List Int) (p : Int) (hca : cs.length ≤ ca) (hcb : hs.length ≤ cb) (ha : ∀ h ∈ hs, h.2.2.2.l.length ≤ 1000000) (hkl : ks.length ≤ 1000000) {l : List Int} (hE : missE cs hs ks p = (l, 0)) : Meets prog X5 [.agg #[.slice A cs.length ca, .slice B hs.length cb], .slice S ks.length sc, int p] { LI := [Row A (rows cs), RowsF B hs Hd.row, Row S (rows ks)], inv := fun x : OutC => l.length ≤ x.2, val := fun x => .tuple #[.slice x.1 l.length x.2, int 0], LO := fun x => [Row x.1 (rows l)] } := by
  have h := vB (A := A) (B := B) (S := S) (ca := ca) (cb := cb) (sc := sc) cs hs ks p hca hcb ha hkl; rw [hE] at h; exact h
theorem at_is {l : List Int} {s z : Int} (h : AtInv l s z) (h0 : 0 ≤ z) : z.toNat < l.length ∧ l.getD z.toNat default = s := by
  obtain ⟨n, rfl⟩ := Int.eq_ofNat_of_zero_le h0; have hm := h.1.1 h0; have h1 := (h.2 hm (n + 1)).1 (by omega); have h2 : s ∉ l.take n := fun e => by have := (h.2 hm n).2 e; omega
  rw [Int.toNat_natCast]
  rcases Nat.lt_or_ge n l.length with hn | hn
  · refine ⟨hn, ?_⟩
    rw [A6 l n hn, List.mem_append] at h1
    rcases h1 with h1 | h1
    · exact absurd h1 h2
    exact (List.mem_singleton.1 h1).symm
  rw [List.take_of_length_le (by omega)] at h1; rw [List.take_of_length_le hn] at h2; exact absurd h1 h2
theorem uW {t : Tr} (h : TrOK t) {a : Nat} : ∀ (d : Nat) (x n e m : Int) (s : Nat), 0 ≤ x → x < (t.hs.length : Int) → n = (s : Int) → reachB t.hs.length (nextB t) a s x.toNat = true → followN t.hs d x n = some (e, m) → reachB t.hs.length (nextB t) a m.toNat e.toNat = true
  | 0, x, n, e, m, s, _, _, _, _, hf => by cases hf
  | d + 1, x, n, e, m, s, h0, hl, hn, hr, hf => by
    rw [followN] at hf
    split at hf
    · cases hf
      rw [hn, Int.toNat_natCast]; exact hr
    rename_i h1
    have hh := (h.h x.toNat (by omega)).s; refine uW h d _ _ e m (s + 1) (by omega) (by omega) (by omega) (Z1.2 (.inr ⟨x.toNat, by omega, hr, ?_⟩)) hf; unfold nextB; rw [Bool.or_eq_true]; exact .inl (decide_eq_true (by omega))
theorem dx8 {cs : List Cl} {hs : List Hd} (h0 : checkT (trOf cs hs) = 0) {w e m p : Int} (hw : 0 ≤ w ∧ w < (hs.length : Int)) (hf : followT (trOf cs hs) w = some (e, m)) (hm : m ≤ p) : nearB (trOf cs hs) p w e = true := by
  have hok := gL h0; have hl : (trOf cs hs).hs.length = hs.length := y6 cs hs; have hin := cH hok _ _ _ _ _ hw.1 (by omega) hf; have hen := mA _ _ _ _ _ _ hf; have hr := uW hok (a := w.toNat) _ _ _ _ _ 0 hw.1 (by omega) rfl (by unfold reachB; simp) hf; have hr2 := Z2 (show m.toNat ≤ p.toNat by omega) hr; have hd := (dist_le (n := (trOf cs hs).hs.length) (e := nextB (trOf cs hs)) (h := w.toNat) (i := e.toNat) (by omega) (by omega) p.toNat).2 hr2; unfold nearB
  have hg : (stepsT (trOf cs hs) w).getD e.toNat default = distI (trOf cs hs).hs.length (nextB (trOf cs hs)) w.toNat e.toNat := by
    unfold stepsT; rw [q7 (by rw [List.length_map, List.length_range]; omega), List.getElem_map, List.getElem_range]
  rw [hg]; exact decide_eq_true ⟨hd.1, by omega⟩
def seenC (n : Nat) (bs : List Bool) : List Int := (upI 0 n).filter fun k => bs.getD k.toNat false
def sumC (n : Nat) (pr : List Int) (bs : List Bool) : Int := ((seenC n bs).map fun k => pr.getD k.toNat default).sum
theorem aj9 {g : Int → Int} {f f' : Int → Bool} {e : Int} (h1 : f e = false) (h2 : f' e = true) (h3 : ∀ x, ¬ x = e → f' x = f x) : ∀ {l : List Int}, l.Nodup → ((l.filter f').map g).sum = ((l.filter f).map g).sum + (if e ∈ l then g e else 0)
  | [], _ => by simp
  | x :: l, hn => by
    rw [List.nodup_cons] at hn; have ih := aj9 (g := g) h1 h2 h3 hn.2
    by_cases hx : x = e
    · subst hx
      rw [if_neg hn.1] at ih; rw [List.filter_cons_of_pos h2, List.filter_cons_of_neg (by rw [h1]; decide), if_pos (List.mem_cons_self ..), List.map_cons, List.sum_cons, ih]
      omega
    have e2 : e ∈ x :: l ↔ e ∈ l := by rw [List.mem_cons]; exact ⟨fun h => h.elim (fun h => absurd h.symm hx) id, .inr⟩
    have e3 : (if e ∈ x :: l then g e else 0) = if e ∈ l then g e else 0 := by
      by_cases h9 : e ∈ l
      · rw [if_pos h9, if_pos (e2.2 h9)]
      rw [if_neg h9, if_neg (fun h => h9 (e2.1 h))]
    rw [e3]
    by_cases hf : f x = true
    · rw [List.filter_cons_of_pos (by rw [h3 x hx]; exact hf), List.filter_cons_of_pos hf, List.map_cons, List.sum_cons, List.map_cons, List.sum_cons, ih]
      omega
    rw [List.filter_cons_of_neg (by rw [h3 x hx]; exact hf), List.filter_cons_of_neg hf, ih]
theorem kx8 {n e : Nat} {pr : List Int} {bs : List Bool} (hl : bs.length = n) (he : e < n) (h : bs.getD e false = false) : sumC n pr (bs.set e true) = sumC n pr bs + pr.getD e default := by
  have hnd : (upI 0 n).Nodup := (upI_lt n).imp fun h => by omega
  have hm : (e : Int) ∈ upI 0 n := List.mem_map.2 ⟨e, List.mem_range'_1.2 (by omega), rfl⟩
  have key := aj9 (g := fun k => pr.getD k.toNat default) (f := fun k => bs.getD k.toNat false && decide (0 ≤ k)) (f' := fun k => (bs.set e true).getD k.toNat false && decide (0 ≤ k)) (e := (e : Int)) (by rw [Int.toNat_natCast, h]; rfl)
    (by rw [Int.toNat_natCast, List.getD_eq_getElem?_getD, List.getElem?_set_self (by omega)]; simp) (fun x hx => by
      by_cases h0 : 0 ≤ x
      · have : ¬ e = x.toNat := by omega
        rw [List.getD_eq_getElem?_getD, List.getElem?_set_ne this, List.getD_eq_getElem?_getD]
      simp [h0]) hnd
  rw [if_pos hm] at key
  have q : ∀ b : List Bool, (upI 0 n).filter (fun k => b.getD k.toNat false && decide (0 ≤ k)) = seenC n b := fun b => List.filter_congr fun x hx => by
    rw [decide_eq_true (show 0 ≤ x by have := bx2 hx; omega), Bool.and_true]
  rw [q, q] at key; rw [Int.toNat_natCast] at key; exact key
theorem zH (n : Nat) (pr : List Int) : sumC n pr (List.replicate n false) = 0 := by
  have : seenC n (List.replicate n false) = [] := List.filter_eq_nil_iff.2 fun x _ => by
    rw [List.getD_eq_getElem?_getD, List.getElem?_replicate]; split <;> simp
  unfold sumC; rw [this]; rfl
def GoodW (cs : List Cl) (hs : List Hd) (p : Int) (bs : List Bool) (w : Int) : Prop := ∃ e m, followT (trOf cs hs) w = some (e, m) ∧ m ≤ p ∧ bs.getD e.toNat false = true
def SeenOK (hs : List Hd) (bs : List Bool) : Prop := ∀ i, bs.getD i false = true → i < hs.length ∧ 0 ≤ (hs.getD i default).2.1
theorem cq9 {cs : List Cl} {hs : List Hd} {pr ws : List Int} {p : Int} {bs : List Bool} (h0 : checkT (trOf cs hs) = 0) (hw : ∀ w ∈ ws, 0 ≤ w ∧ w < (hs.length : Int)) (hs1 : SeenOK hs bs) (hg : ∀ w ∈ ws, GoodW cs hs p bs w) :
    FoundS hs (reachK (trOf cs hs) p hs.length) pr ws (fndH pr (seenC hs.length bs)) := by
  have hk : ∀ k ∈ seenC hs.length bs, 0 ≤ k ∧ k < (hs.length : Int) := fun k hk => by have := bx2 (List.mem_filter.1 hk).1; omega
  refine ⟨seenC hs.length bs, List.filter_sublist, ?_, rfl⟩; rw [mq3 h0 hw hk, Bool.and_eq_true]; refine ⟨List.all_eq_true.2 fun k hk2 => decide_eq_true (hs1 _ (List.mem_filter.1 hk2).2).2, List.all_eq_true.2 fun w hw2 => ?_⟩; obtain ⟨e, m, h1, h2, h3⟩ := hg w hw2; have hin := cH (gL h0) _ _ _ _ _ (hw w hw2).1 (by rw [y6]; exact (hw w hw2).2) h1; rw [y6] at hin; refine List.any_eq_true.2 ⟨e, List.mem_filter.2 ⟨List.mem_map.2 ⟨e.toNat, List.mem_range'_1.2 (by omega), by omega⟩, h3⟩, dx8 h0 (hw w hw2) h1 h2⟩
structure PlC (cs : List Cl) (hs : List Hd) (pr ws : List Int) (p : Int) (f : Bool) (met : Int) : Prop where
  a : (foundE cs hs pr ws p).2.2 = 0 ∨ (foundE cs hs pr ws p).2.2 = 11
  b : f = true → (foundE cs hs pr ws p).2.2 = 0
  c : f = true → (foundE cs hs pr ws p).2.1 ≤ met
theorem pl_c {cs : List Cl} {hs : List Hd} {pr ws : List Int} {p : Int} {f : Bool} {bs : List Bool} (h0 : checkT (trOf cs hs) = 0) (hl : pr.length = hs.length) (hp : ∀ x ∈ pr, prB x) (hw : ∀ w ∈ ws, 0 ≤ w ∧ w < (hs.length : Int)) (h6 : 0 ≤ p ∧ p ≤ 6) (hs1 : SeenOK hs bs) (hg : f = true → ∀ w ∈ ws, GoodW cs hs p bs w) : PlC cs hs pr ws p f (sumC hs.length pr bs) := by
  rcases pR (p := p) h0 hl hp hw h6 with ⟨a1, a2⟩ | ⟨b, a1, a2⟩
  · exact ⟨by rw [a1]; exact .inr rfl, fun hf => absurd (cq9 h0 hw hs1 (hg hf)) (a2 _), fun hf => absurd (cq9 h0 hw hs1 (hg hf)) (a2 _)⟩
  refine ⟨by rw [a1]; exact .inl rfl, fun _ => by rw [a1], fun hf => ?_⟩; have h3 := a2.2 _ (cq9 (pr := pr) h0 hw hs1 (hg hf)); rw [tN] at h3; rw [a1]; show b.2.2 ≤ (fndH pr (seenC hs.length bs)).2.2
  omega
theorem may_end {cs : List Cl} {hs : List Hd} (h0 : checkT (trOf cs hs) = 0) {w e m : Int} (hw : 0 ≤ w ∧ w < (hs.length : Int)) (hf : followT (trOf cs hs) w = some (e, m)) (hc : 0 ≤ (hs.getD e.toNat default).2.1) : e ∈ mayT (trOf cs hs) (hs.getD w.toNat default).1 := by
  have hl := y6 cs hs; have hin := cH (gL h0) _ _ _ _ _ hw.1 (by omega) hf; have hen := mA _ _ _ _ _ _ hf; refine (may_mem _ _ _).2 ⟨e.toNat, by omega, by omega, w.toNat, by omega, ?_⟩; unfold leadsB; have hg : ((trOf cs hs).hs.getD w.toNat default).1 = (hs.getD w.toNat default).1 := by show ((hs.map Hd.p).getD _ _).1 = _; rw [Q5 (by omega)]; rfl
  have hg2 : ((trOf cs hs).hs.getD e.toNat default).2.1 = (hs.getD e.toNat default).2.1 := by show ((hs.map Hd.p).getD _ _).2.1 = _; rw [Q5 (by omega)]; rfl
  rw [hg, Int.toNat_of_nonneg hw.1 |> fun h => (show followT (trOf cs hs) (w.toNat : Int) = some (e, m) by rw [h]; exact hf)]; simp only [List.prefix_refl, decide_true, Bool.true_and, Bool.and_eq_true, decide_eq_true_eq]; refine ⟨by omega, ?_⟩; unfold isTrB; rw [Bool.and_eq_true, decide_eq_true_eq, decide_eq_true_eq, hg2]; exact ⟨hen.1, by omega⟩
theorem iz4 {cs : List Cl} {hs : List Hd} (h0 : checkT (trOf cs hs) = 0) {e : Int} (he : 0 ≤ e ∧ e < (hs.length : Int)) (hc : 0 ≤ (hs.getD e.toNat default).2.1) : (hs.getD e.toNat default).2.1 < (cs.length : Int) ∧ e ∈ underT (trOf cs hs) (hs.getD e.toNat default).2.1 := by
  have hl := y6 cs hs; have hok := gL h0; have hg2 : ((trOf cs hs).hs.getD e.toNat default).2.1 = (hs.getD e.toNat default).2.1 := by show ((hs.map Hd.p).getD _ _).2.1 = _; rw [Q5 (by omega)]; rfl
  have hcl := (hok.h e.toNat (by omega)).c; rw [hg2] at hcl; refine ⟨hcl.2, List.mem_map.2 ⟨e.toNat, List.mem_filter.2 ⟨List.mem_range.2 (by omega), ?_⟩, by omega⟩⟩; rw [Bool.and_eq_true, decide_eq_true_eq, decide_eq_true_eq, hg2]; exact ⟨by omega, jj8 cs hok.c hc hcl.2⟩
theorem uX {cs : List Cl} {hs : List Hd} (h0 : checkT (trOf cs hs) = 0) {w e m x : Int} (hw : 0 ≤ w ∧ w < (hs.length : Int)) (hF : followE (trOf cs hs) w = (e, m, x)) : x = 9 ∨ (x = 0 ∧ followT (trOf cs hs) w = some (e, m) ∧ (0 ≤ e ∧ e < (hs.length : Int)) ∧ 0 ≤ m) := by
  have hl := y6 cs hs
  cases h : followT (trOf cs hs) w with
  | none => rw [kj0 h0 (by omega) h] at hF; cases hF; exact .inl rfl
  | some y =>
    obtain ⟨a, b⟩ := y; rw [kj1 h0 (by omega) h] at hF
    cases hF
    have hin := cH (gL h0) _ _ _ _ _ hw.1 (by omega) h; have hen := mA _ _ _ _ _ _ h; exact .inr ⟨rfl, rfl, by omega, by omega⟩
structure MetI (cs : List Cl) (hs : List Hd) (pr ws : List Int) (p : Int) (k : Nat) (bs : List Bool) (f : Bool) : Prop where
  n : bs.length = hs.length
  s : SeenOK hs bs
  g : f = true → ∀ q, q < k → GoodW cs hs p bs (ws.getD q default)
  lo : 0 ≤ sumC hs.length pr bs
  hi : sumC hs.length pr bs ≤ 40 * (k : Int)
section
variable {cs : List Cl} {hs : List Hd} {pr ws : List Int} {p : Int} {k : Nat} {bs : List Bool} {f : Bool}
theorem MetI.start : MetI cs hs pr ws p 0 (List.replicate hs.length false) true :=
  ⟨List.length_replicate, fun i h => by rw [List.getD_eq_getElem?_getD, List.getElem?_replicate] at h; split at h <;> simp at h, fun _ q hq => absurd hq (Nat.not_lt_zero _), by rw [zH]; exact Int.le_refl _, by rw [zH]; exact Int.le_refl _⟩
theorem MetI.skip (h : MetI cs hs pr ws p k bs f) : MetI cs hs pr ws p (k + 1) bs false := ⟨h.n, h.s, fun e => (Bool.noConfusion e), h.lo, (by have := h.hi; omega)⟩
theorem MetI.same (h : MetI cs hs pr ws p k bs f) {e m : Int} (hf : followT (trOf cs hs) (ws.getD k default) = some (e, m)) (hm : m ≤ p) (hb : bs.getD e.toNat false = true) : MetI cs hs pr ws p (k + 1) bs f :=
  ⟨h.n, h.s, fun e1 q hq => by
    rcases Nat.lt_succ_iff_lt_or_eq.1 hq with hq | rfl
    · exact h.g e1 q hq
    exact ⟨e, m, hf, hm, hb⟩, h.lo, by have := h.hi; omega⟩
theorem cq0 {bs : List Bool} {e i : Nat} (he : e < bs.length) : (bs.set e true).getD i false = true ↔ i = e ∨ bs.getD i false = true := by
  rw [List.getD_eq_getElem?_getD, List.getElem?_set]
  by_cases h : e = i
  · subst h; simp [he]
  rw [if_neg h, List.getD_eq_getElem?_getD]; exact ⟨.inr, fun h9 => h9.elim (fun h9 => absurd h9.symm h) id⟩
theorem dj4 (h : MetI cs hs pr ws p k bs f) {e : Nat} (he : e < hs.length) (hb : ¬ bs.getD e false = true) : sumC hs.length pr (bs.set e true) = sumC hs.length pr bs + pr.getD e default := kx8 h.n he (by simpa using hb)
theorem MetI.new (h : MetI cs hs pr ws p k bs f) {e m : Int} (hf : followT (trOf cs hs) (ws.getD k default) = some (e, m)) (hm : m ≤ p) (he : 0 ≤ e ∧ e < (hs.length : Int)) (hc : 0 ≤ (hs.getD e.toNat default).2.1) (hb : ¬ bs.getD e.toNat false = true) (hp : 0 ≤ pr.getD e.toNat default ∧ pr.getD e.toNat default ≤ 40) : MetI cs hs pr ws p (k + 1) (bs.set e.toNat true) f := by
  have hn := h.n; have hs1 := dj4 (pr := pr) h (e := e.toNat) (by omega) hb; have h1 := h.lo; have h2 := h.hi; refine ⟨by rw [List.length_set]; exact h.n, fun i hi => ?_, fun e1 q hq => ?_, by omega, by omega⟩
  · rcases (cq0 (by omega)).1 hi with rfl | hi
    · exact ⟨by omega, hc⟩
    exact h.s i hi
  rcases Nat.lt_succ_iff_lt_or_eq.1 hq with hq | rfl
  · obtain ⟨a, b, h3, h4, h5⟩ := h.g e1 q hq
    exact ⟨a, b, h3, h4, (cq0 (by omega)).2 (.inr h5)⟩
  exact ⟨e, m, hf, hm, (cq0 (by omega)).2 (.inl rfl)⟩
theorem MetI.fin (h : MetI cs hs pr ws p ws.length bs f) (h0 : checkT (trOf cs hs) = 0) (hl : pr.length = hs.length) (hp : ∀ x ∈ pr, prB x) (hw : ∀ w ∈ ws, 0 ≤ w ∧ w < (hs.length : Int)) (h6 : 0 ≤ p ∧ p ≤ 6) : PlC cs hs pr ws p f (sumC hs.length pr bs) :=
  pl_c h0 hl hp hw h6 h.s fun e w hw2 => by
    obtain ⟨q, hq, rfl⟩ := List.getElem_of_mem hw2; rw [← q7 hq]; exact h.g e q hq
end
def persL (f : List Int) (k : Nat) : List Pn := (List.range k).map fun i : Nat => (sAnn, 0, (i : Int) + 1, f.getD i default, false)
theorem P6 (f : List Int) (k : Nat) : (persL f k).length = k := by simp [persL]
theorem hj6 (f : List Int) (k : Nat) : persL f (k + 1) = persL f k ++ [(sAnn, 0, (k : Int) + 1, f.getD k default, false)] := by simp [persL, List.range_succ]
theorem lj6 {f : List Int} {n i : Nat} (h : i < n) : (persL f n).getD i default = (sAnn, 0, (i : Int) + 1, f.getD i default, false) := by
  rw [q7 (by rw [P6]; exact h)]; simp [persL]
theorem lj5 {hs : List Hd} {f : List Int} (h6 : f.length ≤ 6) (hf : ∀ v ∈ f, (0 ≤ v ∧ v < (hs.length : Int)) ∧ 0 ≤ (hs.getD v.toNat default).2.1) : ∀ p ∈ persL f f.length, POK hs p := by
  intro p hp; obtain ⟨i, hi, rfl⟩ := List.mem_map.1 hp; have hi := List.mem_range.1 hi; have := hf _ (n7 hi); exact ⟨rfl, rfl, by show 1 ≤ (i : Int) + 1 ∧ (i : Int) + 1 ≤ 40; omega, this.1, this.2⟩
theorem miss_ok {cs : List Cl} {hs : List Hd} {ks : List Int} {p : Int} (h0 : checkT (trOf cs hs) = 0) (hf : ∀ v ∈ ks, (0 ≤ v ∧ v < (hs.length : Int)) ∧ 0 ≤ (hs.getD v.toNat default).2.1) (h6 : 0 ≤ p ∧ p ≤ 6) : missE cs hs ks p = (missK (reachK (trOf cs hs) p hs.length) ks hs.length, 0) := by
  rw [missE, if_neg (Classical.not_not.2 h0), if_neg (Classical.not_not.2 (dx0 hf)), if_neg (Classical.not_not.2 h6)]
set_option maxHeartbeats 4000000 in
theorem qJ {A : Option Addr} {cn : Nat} (nums : List Int) (hn : nums.length ≤ 9223372036854775807) : Meets prog jX [.slice A nums.length cn] { LI := [Row A (rows nums)], val := fun _ : Unit => .bool true } := by
 refine d3 rX rfl n2 fun w0 => ?_; refine d4 (b6 rfl (j4 (b4 rfl ?_))); refine i5 uN rfl rfl (tV nums) k8 mC fun g _ => ?_; refine b6 rfl (j4 (b4 rfl ?_)); refine i5 sE rfl rfl (rO 3 6 hn (dok0 nums) (by decide) (by decide)) k8 mC fun x hx => ?_; obtain ⟨sd, cs, hs, ⟨CA, ca⟩, ⟨HB, cb⟩⟩ := x; obtain ⟨hsd, hT⟩ := hx; have hca : cs.length ≤ ca := hT.ca; have hcb : hs.length ≤ cb := hT.cb; have ha : ∀ h ∈ hs, h.2.2.2.l.length ≤ 1000000 := hT.ha; have hT0 : checkT (trOf cs hs) = 0 := hT.ok; have hok : TrOK (trOf cs hs) := gL hT0; clear hT; have h6 : cs.length ≤ 6 := hok.c6; have h6h := hok.h6; have hln := y6 cs hs; rw [hln] at h6h; have hcl : ∀ i, i < cs.length → ClsOK cs i := hok.c; refine B2 rfl (fun _ => P3 _) fun gT => E0 (cs := #[.slice CA cs.length ca, .slice HB hs.length cb]) rfl rfl (.refl _) j0 (by rfl) (by rfl) ?_; refine c3 (d1 (v7 (c9 ?_)))
 first | refine b2 ⟨_, 1, none⟩ rfl rfl d8 rfl ?_ | refine b2 _ rfl rfl d8 rfl ?_
 first | refine b3 rfl b8 rfl (j3 mB rfl) ?_ | refine b3 rfl b8 rfl (d5 mB rfl) ?_ | refine b3 rfl b8 rfl (i1 mB (c5 (by omega) rfl)) ?_ | refine b3 rfl b8 rfl (i3 mB (rows_get (by omega) rfl)) ?_ | refine b3 rfl b8 rfl (j8 mB rfl) ?_
 refine k5 rfl l4 rfl ?_; refine b6 rfl (j4 (b4 rfl (b4 rfl ?_))); refine i5 sF rfl rfl (rP hs.length hn hsd (by omega)) k8 mC fun xs2 hs2 => ?_; obtain ⟨s2, y⟩ := xs2; obtain ⟨hs2, hy⟩ := hs2; simp only at hs2; obtain ⟨pr, pA, pC⟩ := y; obtain ⟨hpl, hp40, hpc⟩ := hy; simp only at hpl hp40 hpc; have hprb := made_pr hp40; refine b4 rfl (b4 rfl ?_); refine i5 uO rfl rfl (tW hs.length 3 hn hs2 (by omega) (by decide)) k8 mC fun xs3 hs3 => ?_; obtain ⟨s3, y⟩ := xs3; obtain ⟨hs3, hy⟩ := hs3; simp only at hs3; obtain ⟨ws, wA, wC⟩ := y; obtain ⟨hw3, hwb, hwc⟩ := hy; simp only at hw3 hwb hwc; refine b4 rfl (i5 R5 rfl rfl (Q3 (1) (6) hn hs3 (by omega)) k8 mC fun xs4 hs4 => ?_); obtain ⟨s4, z⟩ := xs4; obtain ⟨hs4, hz⟩ := hs4; simp only at hs4; have hz : 1 ≤ z ∧ z ≤ 6 := from_bd hz (by omega); refine b6 rfl (b6 rfl (b6 rfl (j4 ?_)))
 first | refine J5 rfl i9 j0 rfl mB (by rfl) ?_ | refine w7 rfl i9 j0 rfl mB (by rfl) ?_ | refine y9 rfl i9 j0 rfl rfl (w5 mB (z6 (by omega))) ?_
 refine b4 rfl (b4 rfl (b4 rfl ?_)); refine i5 kK rfl rfl (kO cs hs pr ws z hca hcb ha (by omega) (by omega)) k8 mC fun x1 _ => ?_; obtain ⟨a1, c1⟩ := x1; refine b4 rfl (k4 rfl rfl rfl (k4 rfl rfl rfl (k4 rfl rfl rfl (b6 rfl (b6 rfl (b6 rfl (j4 (b6 rfl ?_)))))))); refine b6 rfl (j4 (b4 rfl ?_)); refine ij9 (α := Bool) (n := hs.length) (bytes := 1) (z := .bool false) false rfl aJ n9 rfl rfl rfl rfl (by omega) (by omega) fun gb => ?_; refine b6 rfl (c3 (d1 (d4 (b6 rfl (c3 (i8 ?_)))))); refine p6 (β := Nat × List Bool × Bool) ⟨fun x => x.1 ≤ ws.length ∧ MetI cs hs pr ws z x.1 x.2.1 x.2.2, fun x => [(4, .pointer (i7 gT)), (5, int hs.length), (6, .slice pA pr.length pC), (7, .slice wA ws.length wC), (8, int z), (9, .slice a1 (foundE cs hs pr ws z).1.length c1), (10, int (foundE cs hs pr ws z).2.1), (11, int (foundE cs hs pr ws z).2.2), (12, .bool x.2.2), (13, int (sumC hs.length pr x.2.1)), (14, .slice (i7 gb) hs.length hs.length), (15, int x.1)], fun x => [(gb, .cells (rows x.2.1).toArray kV (0, 0))], fun _ => [Row a1 (rows (foundE cs hs pr ws z).1), Blk gT (.cells #[.slice CA cs.length ca, .slice HB hs.length cb] m5 (0, 0)), Row CA (rows cs), RowsF HB hs Hd.row, Row pA (rows pr), Row wA (rows ws)]⟩ (fun x => ws.length - x.1) (0, List.replicate hs.length false, true) ⟨Nat.zero_le _, MetI.start⟩ ⟨rfl, rfl, rfl, rfl, rfl, rfl, rfl, rfl, rfl, by rw [zH]; rfl, rfl, rfl, tK⟩ (.cons_cons _ nK) mC fun x hx => ?_; obtain ⟨k, bs, f⟩ := x; obtain ⟨hk, hI⟩ := hx; simp only at hk hI; have hbl := hI.n; refine d1 (d4 (b4 rfl (b4 rfl ?_))); refine k5 rfl j2 rfl ?_; refine u7 rfl rfl rfl (c3 ?_)
 first | refine j9 rfl (fun hb1 => ?_) (fun hb1 => ?_) | refine d6 rfl (fun hb1 => ?_) (fun hb1 => ?_)
 ·have hb1' := hb1; try simp at hb1'
  have hk2 : k < ws.length := by omega
  have hwk := hwb _ (n7 hk2); obtain ⟨fe, fm, fx, hFO⟩ : ∃ a b c, followE (trOf cs hs) (ws.getD k default) = (a, b, c) := ⟨_, _, _, rfl⟩; have hfc := uX hT0 hwk hFO; refine i4 (c7 (d1 (i8 (d1 ?_)))); refine G9 12 mixed (by decide) (by decide) rfl rfl (m6 (fun w1 => w7 (cs := #[.slice CA cs.length ca, .slice HB hs.length cb]) rfl i9 j0 rfl mB rfl (q_z rfl)) (p9 rfl (p9 rfl (m6 (fun w1 => p8 (α := Int) ws k rfl j2 k6 rfl rfl rfl mB rfl (hk2) (by decide) (q_z rfl)) (m6 (fun w1 => b3 (v := int ((ws.getD k default))) rfl b5 rfl (i1 mB (c5 (hk2) rfl)) (q_z rfl)) ?_)))))
  apply k9 _ rfl rfl rfl
  ·intro w1; have hfm := S7 (A := CA) (B := HB) (ca := ca) (cb := cb) cs hs (ws.getD k default) hca hcb ha; rw [hFO] at hfm; refine i5 U3 rfl rfl (hfm) k8 mC fun _ _ => b7 ?_; exact i6 rfl
  refine p9 rfl (m6 (fun w1 => k4 rfl rfl rfl (q_z rfl)) (m6 (fun w1 => k4 rfl rfl rfl (q_z rfl)) (m6 (fun w1 => k4 rfl rfl rfl (q_z rfl)) (m6 (fun w1 => b6 rfl (q_z rfl)) (m6 (fun w1 => b6 rfl (q_z rfl)) ?_))))); refine y8 ⟨rfl, ?_⟩; refine b6 rfl (c3 (d1 (d4 (b4 rfl (B9 rfl rfl rfl (b4 rfl ?_)))))); refine q6 rfl rfl ?_ ?_
  ·intro hg1; have hg1' := hg1; try simp at hg1'
   have hx0 : fx = 0 := by first | exact hg1 | (simpa using hg1)
   obtain ⟨hfo, hfe, hfm0⟩ : followT (trOf cs hs) (ws.getD k default) = some (fe, fm) ∧ (0 ≤ fe ∧ fe < (hs.length : Int)) ∧ 0 ≤ fm := by
     rcases hfc with h | h
     · omega
     exact h.2
   refine k7 hg1 (b4 rfl (k7 hg1 (b4 rfl (k7 hg1 (K5 rfl rfl rfl ?_))))); refine p_f rfl rfl (bf1 hg1) rfl (b4 rfl ?_); refine q6 rfl rfl ?_ ?_
   ·intro hg2; have hg2' := hg2; try simp at hg2'
    have hfz : fm ≤ z := by have h9 : ¬ fm > z := (by first | exact of_decide_eq_false (bf1 hg2) | simpa using hg2); omega
    refine k7 hg2 (b4 rfl (k7 hg2 (u7 rfl rfl rfl ?_))); refine p_f rfl rfl (bf1 hg2) rfl (b4 rfl ?_); refine q6 rfl rfl ?_ ?_
    ·intro hg3; have hg3' := hg3; try simp at hg3'
     refine k7 hg3 (b4 rfl (k7 hg3 (b4 rfl (k7 hg3 (cT rfl rfl rfl ?_))))); refine p_f rfl rfl (bf1 hg3) rfl (b4 rfl ?_); refine q6 rfl rfl ?_ ?_
     ·intro hg4; have hg4' := hg4; try simp at hg4'
      refine k7 hg4 ?_
      first | refine b2 ⟨_, 1, none⟩ rfl rfl d8 rfl ?_ | refine b2 _ rfl rfl d8 rfl ?_
      refine k7 hg4 (b3 (v := .slice HB hs.length cb) rfl b8 rfl (d5 mB rfl) ?_); refine k7 hg4 (b4 rfl (k7 hg4 ?_)); refine P9 (A := HB) (ps := hs) (f := Hd.row) mB (p8 (α := Hd) hs fe.toNat rfl l4 m8 rfl rfl (by omega) mB rfl (by omega) (by decide) (k7 hg4 ?_))
      first | refine b2 ⟨_, 1, none⟩ rfl rfl l6 rfl ?_ | refine b2 _ rfl rfl l6 rfl ?_
      refine k7 hg4 (b3 (v := int (hs.getD fe.toNat default).2.1) rfl b5 rfl (i3 mB (rows_get (by omega) (j := 1) rfl)) ?_); refine k7 hg4 (u7 rfl rfl rfl ?_); refine p_f rfl rfl (bf1 hg4) rfl (c3 ?_)
      first | refine j9 rfl (fun hb2 => ?_) (fun hb2 => ?_) | refine d6 rfl (fun hb2 => ?_) (fun hb2 => ?_)
      ·have hb2' := hb2; try simp at hb2'
       refine d4 (b6 rfl (c3 (m4 (w4 (l9 (c7 (c9 (b4 rfl ?_)))))))); refine r4 _ rfl rfl rfl rfl m7 ?_; refine b6 rfl (b7 ?_); exact again _ (k + 1, bs, false) ⟨by show k + 1 ≤ ws.length; omega, hI.skip⟩ (r9 (by omega)) mC (.refl _) mC
      have hb2' := hb2; try simp at hb2'
      have hcl0 : 0 ≤ (hs.getD fe.toNat default).2.1 := by omega
      have hpe := hp40 _ (n7 (l := pr) (k := fe.toNat) (by omega)); refine i4 (c7 (d4 (b4 rfl (b4 rfl ?_)))); refine p7 fe.toNat fe.toNat rfl aJ J9 rfl rfl (by omega) (by omega) (by omega) ?_; refine b3 (v := .bool (bs.getD fe.toNat false)) rfl C2 rfl (kj6 (α := Bool) (k := fe.toNat) (f := 0) mB (by show fe.toNat = fe.toNat * 1 + 0; omega) (by omega) rfl) ?_; refine I6 rfl rfl (c3 ?_)
      first | refine j9 rfl (fun hb3 => ?_) (fun hb3 => ?_) | refine d6 rfl (fun hb3 => ?_) (fun hb3 => ?_)
      ·have hb3' := hb3; try simp at hb3'
       have hbn : ¬ bs.getD fe.toNat false = true := by simpa using hb3
       have hss := dj4 (pr := pr) hI (e := fe.toNat) (by omega) hbn; have hlo := hI.lo; have hhi := hI.hi; refine c9 (b4 rfl (b4 rfl (b4 rfl (b4 rfl (b4 rfl ?_))))); refine p8 (α := Int) pr fe.toNat rfl j2 k6 rfl rfl (by omega) mB rfl (by omega) (by decide) (b3 (v := int (pr.getD fe.toNat default)) rfl b5 rfl (i1 mB (c5 (by omega) rfl)) ?_); refine r4 (sumC hs.length pr (bs.set fe.toNat true)) rfl rfl rfl (by rw [hss]) (by rw [hss]; unfold I64; omega) ?_; refine p7 fe.toNat fe.toNat rfl aJ J9 rfl rfl (by omega) (by omega) (by omega) ?_; refine dq2 (α := Bool) (k := fe.toNat) (f := 0) (hp' := []) true rfl (by show fe.toNat = fe.toNat * 1 + 0; omega) rfl (.refl _) J9 (show fe.toNat < bs.length by omega) (by decide) rfl rfl ?_; refine b6 rfl (b7 (q8 (c7 (c9 (b4 rfl ?_))))); refine r4 _ rfl rfl rfl rfl m7 ?_; refine b6 rfl (b7 ?_); exact again _ (k + 1, bs.set fe.toNat true, f) ⟨by show k + 1 ≤ ws.length; omega, hI.new hfo hfz hfe hcl0 hbn hpe⟩ (r9 (by omega)) mC (.refl _) mC
      have hb3' := hb3; try simp at hb3'
      have hby : bs.getD fe.toNat false = true := by simpa using hb3
      refine i4 (q8 (c7 (c9 (b4 rfl ?_)))); refine r4 _ rfl rfl rfl rfl m7 ?_; refine b6 rfl (b7 ?_); exact again _ (k + 1, bs, f) ⟨by show k + 1 ≤ ws.length; omega, hI.same hfo hfz hby⟩ (r9 (by omega)) mC (.refl _) mC
     intro hg4; have hg4' := hg4; try simp at hg4'
     refine n4 hg4 (n4 hg4 (n4 hg4 (n4 hg4 (n4 hg4 (n4 hg4 (n4 hg4 ?_)))))); refine p_t rfl rfl (bt2 hg4) rfl ?_; refine c3 (c_t rfl rfl (d4 (b6 rfl (c3 (m4 (w4 (l9 (c7 ?_)))))))); refine c9 (b4 rfl ?_); refine r4 _ rfl rfl rfl rfl m7 ?_; refine b6 rfl (b7 ?_); exact again _ (k + 1, bs, false) ⟨by show k + 1 ≤ ws.length; omega, hI.skip⟩ (r9 (by omega)) mC (.refl _) mC
    intro hg3; have hg3' := hg3; try simp at hg3'
    refine n4 hg3 (n4 hg3 (n4 hg3 ?_)); refine p_t rfl rfl (bt2 hg3) rfl ?_; refine b4 rfl (D8 rfl rfl rfl rfl rfl rfl (D8 rfl rfl rfl rfl rfl rfl (D8 rfl rfl rfl rfl rfl rfl (D8 rfl rfl rfl rfl rfl rfl (D8 rfl rfl rfl rfl rfl rfl (D8 rfl rfl rfl rfl rfl rfl (D8 rfl rfl rfl rfl rfl rfl (p_t rfl rfl rfl rfl (c3 (c_t rfl rfl ?_)))))))))); refine d4 (b6 rfl (c3 (m4 (w4 (l9 (c7 (c9 (b4 rfl ?_)))))))); refine r4 _ rfl rfl rfl rfl m7 ?_; refine b6 rfl (b7 ?_); exact again _ (k + 1, bs, false) ⟨by show k + 1 ≤ ws.length; omega, hI.skip⟩ (r9 (by omega)) mC (.refl _) mC
   intro hg2; have hg2' := hg2; try simp at hg2'
   refine n4 hg2 (n4 hg2 ?_); refine p_t rfl rfl (bt2 hg2) rfl ?_; refine b4 rfl (D8 rfl rfl rfl rfl rfl rfl (D8 rfl rfl rfl rfl rfl rfl (D8 rfl rfl rfl rfl rfl rfl (p_t rfl rfl rfl rfl (b4 rfl (D8 rfl rfl rfl rfl rfl rfl (D8 rfl rfl rfl rfl rfl rfl (D8 rfl rfl rfl rfl rfl rfl (D8 rfl rfl rfl rfl rfl rfl (D8 rfl rfl rfl rfl rfl rfl (D8 rfl rfl rfl rfl rfl rfl ?_))))))))))); refine D8 rfl rfl rfl rfl rfl rfl (p_t rfl rfl rfl rfl (c3 (c_t rfl rfl (d4 (b6 rfl (c3 (m4 (w4 ?_)))))))); refine l9 (c7 (c9 (b4 rfl ?_))); refine r4 _ rfl rfl rfl rfl m7 ?_; refine b6 rfl (b7 ?_); exact again _ (k + 1, bs, false) ⟨by show k + 1 ≤ ws.length; omega, hI.skip⟩ (r9 (by omega)) mC (.refl _) mC
  intro hg1; have hg1' := hg1; try simp at hg1'
  refine n4 hg1 (n4 hg1 (n4 hg1 ?_)); refine p_t rfl rfl (bt2 hg1) rfl ?_; refine b4 rfl (D8 rfl rfl rfl rfl rfl rfl (D8 rfl rfl rfl rfl rfl rfl (p_t rfl rfl rfl rfl (b4 rfl (D8 rfl rfl rfl rfl rfl rfl (D8 rfl rfl rfl rfl rfl rfl (D8 rfl rfl rfl rfl rfl rfl (p_t rfl rfl rfl rfl (b4 rfl (D8 rfl rfl rfl rfl rfl rfl (D8 rfl rfl rfl rfl rfl rfl ?_))))))))))); refine D8 rfl rfl rfl rfl rfl rfl (D8 rfl rfl rfl rfl rfl rfl (D8 rfl rfl rfl rfl rfl rfl (D8 rfl rfl rfl rfl rfl rfl (D8 rfl rfl rfl rfl rfl rfl (p_t rfl rfl rfl rfl (c3 (c_t rfl rfl (d4 (b6 rfl ?_))))))))); refine c3 (m4 (w4 (l9 (c7 (c9 (b4 rfl ?_)))))); refine r4 _ rfl rfl rfl rfl m7 ?_; refine b6 rfl (b7 ?_); exact again _ (k + 1, bs, false) ⟨by show k + 1 ≤ ws.length; omega, hI.skip⟩ (r9 (by omega)) mC (.refl _) mC
 have hb1' := hb1; try simp at hb1'
 obtain rfl : k = ws.length := by omega
 have hPL := hI.fin hT0 hpl hprb hwb (by omega); refine m4 (v6 (l9 (c7 (d1 (d4 (b4 rfl (B9 rfl rfl rfl (c3 ?_))))))))
 first | refine j9 rfl (fun hb4 => ?_) (fun hb4 => ?_) | refine d6 rfl (fun hb4 => ?_) (fun hb4 => ?_)
 ·have hb4' := hb4; try simp at hb4'
  have he11 : (foundE cs hs pr ws z).2.2 = 11 := hPL.a.resolve_left hb4; refine d4 (b4 rfl (I2 rfl rfl rfl (b4 rfl ?_))); refine q6 rfl rfl ?_ ?_
  ·intro hg5; have hg5' := hg5; try simp at hg5'
   refine k7 hg5 (b4 rfl (k7 hg5 (I6 rfl rfl ?_))); refine p_t rfl rfl (bt1 hg5) rfl (b4 rfl ?_); refine q6 rfl rfl ?_ ?_
   ·intro hg6; have hg6' := hg6; try simp at hg6'
    refine k7 hg6 (i5 Y6 rfl rfl (Y4) k8 tK fun _ _ => p_t rfl rfl (bt1 hg6) rfl ?_); refine b6 rfl (c3 (M2 ?_)); exact ret1 () rfl rfl rfl tK nK tK
   intro hg6; have hg6' := hg6; try simp at hg6'
   all_goals (exfalso; have h9 : f = true := (by simpa using hg6); have := hPL.b h9; omega)
  intro hg5; have hg5' := hg5; try simp at hg5'
  all_goals (have h9 := of_decide_eq_false (bf2 hg5); exact absurd he11 h9)
 have hb4' := hb4; try simp at hb4'
 have he0 : (foundE cs hs pr ws z).2.2 = 0 := Classical.not_not.1 hb4; have hhd := lz0 hT0 hpl hprb hwb (by omega) he0; have hfl := jz8 (p := z) hT0 hpl hprb hwb (by omega); refine i4 (c7 ?_); refine M6 ⟨fun _ : Unit => True, fun _ => [(4, .pointer (i7 gT)), (5, int hs.length), (7, .slice wA ws.length wC), (8, int z), (9, .slice a1 (foundE cs hs pr ws z).1.length c1)], fun _ => [], fun _ => [Row a1 (rows (foundE cs hs pr ws z).1), Blk gT (.cells #[.slice CA cs.length ca, .slice HB hs.length cb] m5 (0, 0)), Row CA (rows cs), RowsF HB hs Hd.row, Row pA (rows pr), Row wA (rows ws)]⟩ ?_ ?_
 ·skip
  refine d4 (b4 rfl (b4 rfl ?_)); refine q6 rfl rfl ?_ ?_
  ·intro hg7; have hg7' := hg7; try simp at hg7'
   have hft : f = true := by first | exact hg7 | simpa using hg7
   refine k7 hg7 (b4 rfl (k7 hg7 (b4 rfl (k7 hg7 (K5 rfl rfl rfl ?_))))); refine p_t rfl rfl (bt1 hg7) rfl (b4 rfl ?_); refine q6 rfl rfl ?_ ?_
   ·intro hg8; have hg8' := hg8; try simp at hg8'
    refine k7 hg8 (b4 rfl (k7 hg8 ?_)); refine k5 rfl j2 rfl ?_; refine k7 hg8 (K5 rfl rfl rfl ?_); refine p_f rfl rfl (bf1 hg8) rfl (c3 ?_)
    first | refine j9 rfl (fun hb5 => ?_) (fun hb5 => ?_) | refine d6 rfl (fun hb5 => ?_) (fun hb5 => ?_)
    ·exact absurd hb5 (by omega)
    have hb5' := hb5; try simp at hb5'
    refine i4 ?_; exact E3 _ () tK mC nK mC
   intro hg8; have hg8' := hg8; try simp at hg8'
   all_goals (exfalso; have h9 := of_decide_eq_true (bt2 hg8); have := hPL.c hft; omega)
  intro hg7; have hg7' := hg7; try simp at hg7'
  refine n4 hg7 (n4 hg7 (n4 hg7 ?_)); refine p_f rfl rfl (bf2 hg7) rfl ?_; refine b4 rfl (cY rfl rfl rfl (b4 rfl (cY rfl rfl rfl ?_))); refine k5 rfl j2 rfl ?_; refine cY rfl rfl rfl (K5 rfl rfl rfl (p_f rfl rfl rfl rfl (c3 ?_)))
  first | refine j9 rfl (fun hb5 => ?_) (fun hb5 => ?_) | refine d6 rfl (fun hb5 => ?_) (fun hb5 => ?_)
  ·exact absurd hb5 (by omega)
  have hb5' := hb5; try simp at hb5'
  refine i4 ?_; exact E3 _ () tK mC nK mC
 intro _ _; refine d4 (w7 (cs := #[.slice CA cs.length ca, .slice HB hs.length cb]) rfl i9 j0 rfl mB rfl (H6 _ rfl rfl (fun _ => hJ ..) (B2 rfl (fun _ => jD _) fun gV => E0 (cs := #[int 1, int 6, int 4, .slice CA cs.length ca, .slice HB hs.length cb, .slice none 0 0, .slice none 0 0]) rfl rfl (.refl _) B0 (by rfl) (by rfl) (P8 (hp' := [(gV, .cells #[int 1, int 6, int 4, .slice CA cs.length ca, .slice HB hs.length cb, .slice none 0 0, .slice none 0 0] C8 (0, 0))]) (.refl _) ?_)))); refine c3 (d1 (d4 (b6 rfl (c3 (i8 ?_))))); refine p6 (β := Nat × OutC × Hp) ⟨fun x => x.1 ≤ (foundE cs hs pr ws z).1.length ∧ Grow I1 5 x.2.1.1 x.1 x.2.1.2 (rows (persL (foundE cs hs pr ws z).1 x.1)) x.2.2, fun x => [(4, .pointer (i7 gT)), (5, int hs.length), (7, .slice wA ws.length wC), (8, int z), (9, .slice a1 (foundE cs hs pr ws z).1.length c1), (19, .pointer (i7 gV)), (20, int x.1)], fun x => (gV, .cells #[int 1, int 6, int 4, .slice CA cs.length ca, .slice HB hs.length cb, .slice none 0 0, .slice x.2.1.1 x.1 x.2.1.2] C8 (0, 0)) :: x.2.2, fun _ => [Row a1 (rows (foundE cs hs pr ws z).1), Blk gT (.cells #[.slice CA cs.length ca, .slice HB hs.length cb] m5 (0, 0)), Row CA (rows cs), RowsF HB hs Hd.row, Row pA (rows pr), Row wA (rows ws)]⟩ (fun x => (foundE cs hs pr ws z).1.length - x.1) (0, (none, 0), []) ⟨Nat.zero_le _, Grow.nil _ _⟩ mC (.refl _) mC fun x hx => ?_; obtain ⟨k, ⟨oA, oc⟩, og⟩ := x; obtain ⟨hk, hG⟩ := hx; simp only at hk hG; refine d1 (d4 (b4 rfl (b4 rfl ?_))); refine k5 rfl j2 rfl ?_; refine u7 rfl rfl rfl (c3 ?_)
 first | refine j9 rfl (fun hb6 => ?_) (fun hb6 => ?_) | refine d6 rfl (fun hb6 => ?_) (fun hb6 => ?_)
 ·have hb6' := hb6; try simp at hb6'
  have hk2 : k < (foundE cs hs pr ws z).1.length := by omega
  have hvk := hhd.1 _ (n7 hk2); have hv1 := hvk.1; have hv2 := hvk.2; have hpsu := hj6 (foundE cs hs pr ws z).1 k; refine i4 (c7 (d1 (i8 (cW ?_)))); refine I7 (og) ([_]) (List.perm_append_comm (l₁ := [_])) 20 [] mixed (by decide) (by decide) (by decide) rfl rfl rfl (p9 rfl (p9 rfl (m6 (fun w1 => p8 (α := Int) (foundE cs hs pr ws z).1 k rfl j2 k6 rfl rfl rfl mB rfl (hk2) (by decide) (q_z rfl)) (m6 (fun w1 => b3 (v := int (((foundE cs hs pr ws z).1.getD k default))) rfl b5 rfl (i1 mB (c5 (hk2) rfl)) (q_z rfl)) (m6 (fun w1 => u7 rfl rfl rfl (q_z rfl)) (p9 rfl ?_)))))); refine jO (t := 148) (want := false) rfl ?_ ?_
  ·intro hg9; have hg9' := hg9; try simp at hg9'
   apply k9 _ rfl rfl rfl
   ·intro w1; refine k7 hg9 (b4 rfl (b7 ?_)); exact i6 rfl
   apply k9 _ rfl rfl rfl
   ·intro w1; refine k7 hg9 (b4 rfl (b7 ?_)); exact i6 rfl
   apply k9 _ rfl rfl rfl
   ·intro w1; refine k7 hg9 (p8 (α := Int) (foundE cs hs pr ws z).1 k rfl j2 k6 rfl rfl rfl mB rfl (hk2) (by decide) (b7 ?_)); exact i6 rfl
   apply k9 _ rfl rfl rfl
   ·intro w1; refine k7 hg9 (b3 (v := int (((foundE cs hs pr ws z).1.getD k default))) rfl b5 rfl (i1 mB (c5 (hk2) rfl)) (b7 ?_)); exact i6 rfl
   apply k9 _ rfl rfl rfl
   ·intro w1; refine k7 hg9 (b4 rfl (b7 ?_)); exact i6 rfl
   apply k9 _ rfl rfl rfl
   ·intro w1; refine k7 hg9 (cT rfl rfl rfl (b7 ?_)); exact i6 rfl
   refine m6 (fun w1 => p_f rfl rfl (bf1 hg9) rfl (q_z rfl)) (p9 rfl ?_); refine jO (t := 156) (want := false) rfl ?_ ?_
   ·intro hg10; have hg10' := hg10; try simp at hg10'
    apply k9 _ rfl rfl rfl
    ·intro w1; refine k7 hg10 ?_
     first | refine b2 ⟨_, 1, none⟩ rfl rfl d8 rfl ?_ | refine b2 _ rfl rfl d8 rfl ?_
     refine b7 ?_; exact i6 rfl
    apply k9 _ rfl rfl rfl
    ·intro w1; refine k7 hg10 (b3 (v := .slice HB hs.length cb) rfl b8 rfl (d5 mB rfl) (b7 ?_)); exact i6 rfl
    apply k9 _ rfl rfl rfl
    ·intro w1; refine k7 hg10 (b4 rfl (b7 ?_)); exact i6 rfl
    apply k9 _ rfl rfl rfl
    ·intro w1; refine k7 hg10 (b4 rfl (b7 ?_)); exact i6 rfl
    apply k9 _ rfl rfl rfl
    ·intro w1; refine k7 hg10 (p8 (α := Int) (foundE cs hs pr ws z).1 k rfl j2 k6 rfl rfl rfl mB rfl (hk2) (by decide) (b7 ?_)); exact i6 rfl
    apply k9 _ rfl rfl rfl
    ·intro w1; refine k7 hg10 (b3 (v := int (((foundE cs hs pr ws z).1.getD k default))) rfl b5 rfl (i1 mB (c5 (hk2) rfl)) (b7 ?_)); exact i6 rfl
    refine y8 ⟨rfl, ?_⟩; refine k7 hg10 (P9 (A := HB) (ps := hs) (f := Hd.row) mB (p8 (α := Hd) hs ((foundE cs hs pr ws z).1.getD k default).toNat rfl l4 m8 rfl rfl (by omega) mB rfl (by omega) (by decide) (k7 hg10 ?_)))
    first | refine b2 ⟨_, 1, none⟩ rfl rfl l6 rfl ?_ | refine b2 _ rfl rfl l6 rfl ?_
    refine k7 hg10 (b3 (v := int (hs.getD ((foundE cs hs pr ws z).1.getD k default).toNat default).2.1) rfl b5 rfl (i3 mB (rows_get (by omega) (j := 1) rfl)) ?_); refine k7 hg10 (u7 rfl rfl rfl ?_); refine p_f rfl rfl (bf1 hg10) rfl (c3 ?_)
    first | refine j9 rfl (fun hb7 => ?_) (fun hb7 => ?_) | refine d6 rfl (fun hb7 => ?_) (fun hb7 => ?_)
    ·exact absurd hb7 (by omega)
    have hb7' := hb7; try simp at hb7'
    refine i4 (c7 ?_); refine I7 (og) ([_]) (.refl _) 10 [] mixed (by decide) (by decide) (by decide) rfl rfl rfl ?_
    apply k9 _ rfl rfl rfl
    ·intro w1
     first | refine b2 ⟨_, 6, none⟩ rfl rfl u5 rfl ?_ | refine b2 _ rfl rfl u5 rfl ?_
     refine b7 ?_; exact i6 rfl
    refine m6 (fun w1 => b3 (v := .slice oA k oc) rfl y7 rfl (d5 mB rfl) (q_z rfl)) (p9 rfl (m6 (fun w1 => r4 ((k : Int) + 1) rfl rfl rfl rfl m7 (q_z rfl)) (p9 rfl (p9 rfl (m6 (fun w1 => p8 (α := Int) (foundE cs hs pr ws z).1 k rfl j2 k6 rfl rfl rfl mB rfl (hk2) (by decide) (q_z rfl)) (m6 (fun w1 => b3 (v := int (((foundE cs hs pr ws z).1.getD k default))) rfl b5 rfl (i1 mB (c5 (hk2) rfl)) (q_z rfl)) (m6 (fun w1 => H6 _ rfl rfl (fun _ => W0 ..) (q_z rfl)) ?_))))))); refine N6 ⟨Nat, fun _ => True, fun g => .slice (i7 g) 1 1, fun g => [Row (i7 g) (rows [((sAnn, 0, (k : Int) + 1, ((foundE cs hs pr ws z).1.getD k default), false) : Pn)])]⟩ rfl rfl rfl ?_ ?_
    ·intro w1; refine l5 _ rfl rfl (fun _ => aL ..) fun gS => b7 (J7 (rows [((sAnn, 0, (k : Int) + 1, ((foundE cs hs pr ws z).1.getD k default), false) : Pn)]) (List.prefix_refl _) ?_); exact D1 gS tK rfl ⟨m0, tK⟩
    refine y8 ⟨rfl, ?_⟩; intro g9 _; refine C0 (k + 1) (rows (persL (foundE cs hs pr ws z).1 (k + 1))) qX rfl rfl rfl hG (hp' := [(gV, .cells #[int 1, int 6, int 4, .slice CA cs.length ca, .slice HB hs.length cb, .slice none 0 0, .slice oA k oc] C8 (0, 0))]) (.refl _) (Src.row (news := rows [((sAnn, 0, (k : Int) + 1, ((foundE cs hs pr ws z).1.getD k default), false) : Pn)]) (m := 1) mB rfl (D0 _) (by decide)) rfl (by rw [hpsu]; exact (r8 _ _).symm) (by unfold maxLen; omega) (by omega) fun A8 c8 og8 hx10 => ?_
    first | refine b2 ⟨_, 6, none⟩ rfl rfl u5 rfl ?_ | refine b2 _ rfl rfl u5 rfl ?_
    refine P8 (hp' := (gV, .cells #[int 1, int 6, int 4, .slice CA cs.length ca, .slice HB hs.length cb, .slice none 0 0, .slice oA k oc] C8 (0, 0)) :: og8) (List.perm_append_comm (l₂ := [_])) (u9 rfl rfl (.refl _) qW (by rfl) (by rfl) (P8 (hp' := (gV, .cells #[int 1, int 6, int 4, .slice CA cs.length ca, .slice HB hs.length cb, .slice none 0 0, .slice A8 (k + 1) c8] C8 (0, 0)) :: og8) (.refl _) ?_)); refine b7 (q8 (c7 (c9 (b4 rfl ?_)))); refine r4 _ rfl rfl rfl rfl m7 ?_; refine b6 rfl (b7 ?_); exact again _ (k + 1, (A8, c8), og8) ⟨by show k + 1 ≤ (foundE cs hs pr ws z).1.length; omega, hx10⟩ (r9 (by omega)) mC (.refl _) mC
   intro hg10; have hg10' := hg10; try simp at hg10'
   all_goals (exfalso; have h9 := of_decide_eq_true (bt2 hg10); omega)
  intro hg9; have hg9' := hg9; try simp at hg9'
  all_goals (exfalso; have h9 := of_decide_eq_true (bt2 hg9); omega)
 have hb6' := hb6; try simp at hb6'
 obtain rfl : k = (foundE cs hs pr ws z).1.length := by omega
 refine m4 (v6 (l9 (c7 (d1 ?_)))); refine gN (List.perm_append_comm (l₁ := [_])) ?_; refine pE hG (v7 ?_); have hpok := lj5 (hs := hs) (f := (foundE cs hs pr ws z).1) (by omega) hhd.1; refine c9 (w7 (cs := #[.slice CA cs.length ca, .slice HB hs.length cb]) rfl i9 j0 rfl mB rfl ?_); refine b4 rfl (b4 rfl ?_); refine i5 uT rfl rfl (jq4 cs hs (foundE cs hs pr ws z).1 z hca hcb ha (by omega) (miss_ok hT0 hhd.1 (by omega))) k8 mC fun x9 _ => ?_; refine b4 rfl (k4 rfl rfl rfl (k4 rfl rfl rfl (b6 rfl (b6 rfl (c3 (d1 (d4 (b4 rfl (B9 rfl rfl rfl ?_))))))))); refine c3 ?_
 first | refine j9 rfl (fun hb8 => ?_) (fun hb8 => ?_) | refine d6 rfl (fun hb8 => ?_) (fun hb8 => ?_)
 ·have hb8' := hb8; try simp at hb8'
 have hb8' := hb8; try simp at hb8'
 refine i4 (c7 (d1 (d4 (b6 rfl (c3 (i8 ?_)))))); refine p6 (β := Nat) ⟨fun k => k ≤ ws.length, fun k => [(4, .pointer (i7 gT)), (5, int hs.length), (7, .slice wA ws.length wC), (9, .slice a1 (foundE cs hs pr ws z).1.length c1), (19, .pointer (i7 gV)), (21, .slice x9.1 (missK (reachK (trOf cs hs) z hs.length) (foundE cs hs pr ws z).1 hs.length).length x9.2), (23, int k)], fun _ => [], fun _ => [Blk gV (.cells #[int 1, int 6, int 4, .slice CA cs.length ca, .slice HB hs.length cb, .slice none 0 0, .slice oA (foundE cs hs pr ws z).1.length oc] C8 (0, 0)), Row oA (rows (persL (foundE cs hs pr ws z).1 (foundE cs hs pr ws z).1.length)), Row x9.1 (rows (missK (reachK (trOf cs hs) z hs.length) (foundE cs hs pr ws z).1 hs.length)), Row a1 (rows (foundE cs hs pr ws z).1), Blk gT (.cells #[.slice CA cs.length ca, .slice HB hs.length cb] m5 (0, 0)), Row CA (rows cs), RowsF HB hs Hd.row, Row pA (rows pr), Row wA (rows ws)]⟩ (fun k => ws.length - k) 0 (Nat.zero_le _) mC nK mC fun k hk => ?_; simp only at hk; have hmsl := bj2 (reachK (trOf cs hs) z hs.length) (foundE cs hs pr ws z).1 hs.length; refine d1 (d4 (b4 rfl (b4 rfl ?_))); refine k5 rfl j2 rfl ?_; refine u7 rfl rfl rfl (c3 ?_)
 first | refine j9 rfl (fun hb9 => ?_) (fun hb9 => ?_) | refine d6 rfl (fun hb9 => ?_) (fun hb9 => ?_)
 ·have hb9' := hb9; try simp at hb9'
  have hk2 : k < ws.length := by omega
  have hwk := hwb _ (n7 hk2); obtain ⟨fe, fm, fx, hFO⟩ : ∃ a b c, followE (trOf cs hs) (ws.getD k default) = (a, b, c) := ⟨_, _, _, rfl⟩; have hfc := uX hT0 hwk hFO; obtain ⟨wn, hwn⟩ := Int.eq_ofNat_of_zero_le hwk.1; have hwn2 : wn < hs.length := by omega
  refine i4 (c7 (d1 (i8 (d1 (d4 (b4 rfl (b4 rfl (b4 rfl ?_)))))))); refine p8 (α := Int) ws k rfl j2 k6 rfl rfl rfl mB rfl (hk2) (by decide) (b3 (v := int ((ws.getD k default))) rfl b5 rfl (i1 mB (c5 (hk2) rfl)) (i5 M4 rfl rfl (M3 (missK (reachK (trOf cs hs) z hs.length) (foundE cs hs pr ws z).1 hs.length) (ws.getD k default) (by omega)) k8 mC fun z1 hz1 => ?_)); refine cT rfl rfl rfl (c3 ?_)
  first | refine j9 rfl (fun hb10 => ?_) (fun hb10 => ?_) | refine d6 rfl (fun hb10 => ?_) (fun hb10 => ?_)
  ·exact absurd (hz1.1.1 hb10) (lq4 (hhd.2 _ (n7 hk2)))
  have hb10' := hb10; try simp at hb10'
  refine i4 (c7 (d1 ?_)); refine G9 12 mixed (by decide) (by decide) rfl rfl (m6 (fun w1 => w7 (cs := #[.slice CA cs.length ca, .slice HB hs.length cb]) rfl i9 j0 rfl mB rfl (q_z rfl)) (p9 rfl (p9 rfl (m6 (fun w1 => p8 (α := Int) ws k rfl j2 k6 rfl rfl rfl mB rfl (hk2) (by decide) (q_z rfl)) (m6 (fun w1 => b3 (v := int ((ws.getD k default))) rfl b5 rfl (i1 mB (c5 (hk2) rfl)) (q_z rfl)) ?_)))))
  apply k9 _ rfl rfl rfl
  ·intro w1; have hfm := S7 (A := CA) (B := HB) (ca := ca) (cb := cb) cs hs (ws.getD k default) hca hcb ha; rw [hFO] at hfm; refine i5 U3 rfl rfl (hfm) k8 mC fun _ _ => b7 ?_; exact i6 rfl
  refine p9 rfl (m6 (fun w1 => k4 rfl rfl rfl (q_z rfl)) (m6 (fun w1 => k4 rfl rfl rfl (q_z rfl)) (m6 (fun w1 => k4 rfl rfl rfl (q_z rfl)) (m6 (fun w1 => b6 rfl (q_z rfl)) (m6 (fun w1 => b6 rfl (q_z rfl)) ?_))))); refine y8 ⟨rfl, ?_⟩; refine b6 rfl (j4 (b4 rfl (b4 rfl ?_))); refine i5 M4 rfl rfl (M3 (foundE cs hs pr ws z).1 fe (by omega)) k8 mC fun za hza => ?_; refine b6 rfl (c3 (d1 (d4 (b4 rfl (B9 rfl rfl rfl (b4 rfl ?_)))))); refine q6 rfl rfl ?_ ?_
  ·intro hg11; have hg11' := hg11; try simp at hg11'
   have hx0 : fx = 0 := by first | exact hg11 | (simpa using hg11)
   obtain ⟨hfo, hfe, hfm0⟩ : followT (trOf cs hs) (ws.getD k default) = some (fe, fm) ∧ (0 ≤ fe ∧ fe < (hs.length : Int)) ∧ 0 ≤ fm := by
     rcases hfc with h | h
     · omega
     exact h.2
   refine k7 hg11 (b4 rfl (k7 hg11 (u7 rfl rfl rfl ?_))); refine p_f rfl rfl (bf1 hg11) rfl (c3 ?_)
   first | refine j9 rfl (fun hb11 => ?_) (fun hb11 => ?_) | refine d6 rfl (fun hb11 => ?_) (fun hb11 => ?_)
   ·have hb11' := hb11; try simp at hb11'
    refine m4 (w4 (l9 (c7 (c9 (b4 rfl ?_))))); refine r4 _ rfl rfl rfl rfl m7 ?_; refine b6 rfl (b7 ?_); exact again _ (k + 1) (by show k + 1 ≤ ws.length; omega) (r9 (by omega)) mC nK mC
   have hb11' := hb11; try simp at hb11'
   have hza0 : 0 ≤ za := by omega
   obtain ⟨hal, hav⟩ := at_is hza hza0; have hcl := (hhd.1 _ (n7 hal)).2; rw [hav] at hcl; have hpat := lj6 (f := (foundE cs hs pr ws z).1) hal; have hmay := may_end hT0 hwk hfo hcl; rw [hwn, Int.toNat_natCast] at hmay; have hund := iz4 hT0 hfe hcl; have hzn : ((za.toNat : Nat) : Int) = za := Int.toNat_of_nonneg hza0; refine i4 (c7 (cW ?_)); refine G9 15 mixed (by decide) (by decide) rfl rfl (m6 (fun w1 => w7 (cs := #[int 1, int 6, int 4, .slice CA cs.length ca, .slice HB hs.length cb, .slice none 0 0, .slice oA (foundE cs hs pr ws z).1.length oc]) rfl C9 B0 rfl mB rfl (q_z rfl)) ?_)
   apply k9 _ rfl rfl rfl
   ·intro w1
    first | refine b2 ⟨_, 1, none⟩ rfl rfl d8 rfl ?_ | refine b2 _ rfl rfl d8 rfl ?_
    refine b7 ?_; exact i6 rfl
   refine m6 (fun w1 => b3 (v := .slice HB hs.length cb) rfl b8 rfl (d5 mB rfl) (q_z rfl)) (p9 rfl (p9 rfl (m6 (fun w1 => p8 (α := Int) ws k rfl j2 k6 rfl rfl rfl mB rfl (hk2) (by decide) (q_z rfl)) ?_))); refine m6 (fun w1 => b3 (v := int ((wn : Int))) rfl b5 rfl (i1 mB (by rw [← hwn]; exact c5 (hk2) rfl)) (q_z rfl)) ?_
   apply k9 _ rfl rfl rfl
   ·intro w1; refine P9 (A := HB) (ps := hs) (f := Hd.row) mB (p8 (α := Hd) hs wn rfl l4 m8 rfl rfl rfl mB rfl hwn2 (by decide) (b7 ?_)); exact i6 rfl
   apply k9 _ rfl rfl rfl
   ·intro w1
    first | refine b2 ⟨_, 0, none⟩ rfl rfl u2 rfl ?_ | refine b2 _ rfl rfl u2 rfl ?_
    refine b7 ?_; exact i6 rfl
   apply k9 _ rfl rfl rfl
   ·intro w1; refine P9 (A := HB) (ps := hs) (f := Hd.row) mB (b3 (v := str (hs.getD wn default).1) rfl j7 rfl (i3 mB (rows_get hwn2 (j := 0) rfl)) (b7 ?_)); exact i6 rfl
   refine N6 ⟨List Int × OutC, fun x => ByH (persL (foundE cs hs pr ws z).1 (foundE cs hs pr ws z).1.length) (mayT (trOf cs hs) (hs.getD wn default).1) x.1, fun x => .tuple #[.slice x.2.1 x.1.length x.2.2, int 0], fun x => [Row x.2.1 (rows x.1)]⟩ rfl rfl rfl ?_ ?_
   ·intro w1; have hFd := mK (A := CA) (B := HB) (PA := oA) (ca := ca) (cb := cb) (pc := oc) cs hs (persL (foundE cs hs pr ws z).1 (foundE cs hs pr ws z).1.length) (hs.getD wn default).1 hca hcb ha hT0 (by omega) (by rw [P6]; omega) hpok; rw [P6] at hFd; refine i5 mP rfl rfl (hFd) k8 mC fun r hr => b7 ?_; exact D1 r hr rfl ⟨m0, tK⟩
   refine N6 ⟨List Int × OutC, fun x => ByH (persL (foundE cs hs pr ws z).1 (foundE cs hs pr ws z).1.length) (mayT (trOf cs hs) (hs.getD wn default).1) x.1, fun x => .tuple #[.slice x.2.1 x.1.length x.2.2, int 0], fun x => [Row x.2.1 (rows x.1)]⟩ rfl rfl rfl ?_ ?_
   ·intro x10 hx10; intro w1; refine b4 rfl (b7 ?_); exact D1 x10 hx10 rfl ⟨m0, tK⟩
   refine N6 ⟨List Int × OutC, fun x => ByH (persL (foundE cs hs pr ws z).1 (foundE cs hs pr ws z).1.length) (mayT (trOf cs hs) (hs.getD wn default).1) x.1, fun x => .slice x.2.1 x.1.length x.2.2, fun x => [Row x.2.1 (rows x.1)]⟩ rfl rfl rfl ?_ ?_
   ·intro x11 hx11; intro w1; refine k4 rfl rfl rfl (b7 ?_); exact D1 x11 hx11 rfl ⟨m0, tK⟩
   apply k9 _ rfl rfl rfl
   ·intro x11 hx11; intro w1; refine k4 rfl rfl rfl (b7 ?_); exact i6 rfl
   refine N6 ⟨List Int × OutC, fun x => ByH (persL (foundE cs hs pr ws z).1 (foundE cs hs pr ws z).1.length) (mayT (trOf cs hs) (hs.getD wn default).1) x.1, fun x => .slice x.2.1 x.1.length x.2.2, fun x => [Row x.2.1 (rows x.1)]⟩ rfl rfl rfl ?_ ?_
   ·intro x12 hx12; intro w1; refine b6 rfl (b7 ?_); exact D1 x12 hx12 rfl ⟨m0, tK⟩
   refine y8 ⟨rfl, ?_⟩; intro x10 hx10 x11 hx11 x12 hx12 x14 hx14; obtain ⟨fl, fo⟩ := x14; have hby := ByH.mem hx14 (k := za.toNat) (by rw [P6]; exact hal) (by rw [hpat]; show _ ∈ _; simp only; rw [hav]; exact hmay); have hfll := ByH.len hx14; rw [P6] at hfll; simp only at hby hfll; refine b6 rfl (j4 (b4 rfl (B9 rfl rfl rfl (b4 rfl ?_)))); refine q6 rfl rfl ?_ ?_
   ·intro hg12; have hg12' := hg12; try simp at hg12'
    refine k7 hg12 (b4 rfl (k7 hg12 (b4 rfl (k7 hg12 ?_)))); refine i5 M4 rfl rfl (M3 fl za (by omega)) k8 mC fun zb hzb => ?_; refine k7 hg12 (u7 rfl rfl rfl ?_); refine p_f rfl rfl (bf1 hg12) rfl (c3 ?_)
    first | refine j9 rfl (fun hb12 => ?_) (fun hb12 => ?_) | refine d6 rfl (fun hb12 => ?_) (fun hb12 => ?_)
    ·exact absurd (hzb.1.2 (by rw [← hzn]; exact hby)) (by omega)
    have hb12' := hb12; try simp at hb12'
    refine i4 (c7 (d1 ?_)); refine G9 12 mixed (by decide) (by decide) rfl rfl (m6 (fun w1 => w7 (cs := #[int 1, int 6, int 4, .slice CA cs.length ca, .slice HB hs.length cb, .slice none 0 0, .slice oA (foundE cs hs pr ws z).1.length oc]) rfl C9 B0 rfl mB rfl (q_z rfl)) ?_)
    apply k9 _ rfl rfl rfl
    ·intro w1
     first | refine b2 ⟨_, 1, none⟩ rfl rfl d8 rfl ?_ | refine b2 _ rfl rfl d8 rfl ?_
     refine b7 ?_; exact i6 rfl
    refine m6 (fun w1 => b3 (v := .slice HB hs.length cb) rfl b8 rfl (d5 mB rfl) (q_z rfl)) (p9 rfl ?_)
    apply k9 _ rfl rfl rfl
    ·intro w1; refine P9 (A := HB) (ps := hs) (f := Hd.row) mB (p8 (α := Hd) hs fe.toNat rfl l4 m8 rfl rfl (by omega) mB rfl (by omega) (by decide) (b7 ?_)); exact i6 rfl
    apply k9 _ rfl rfl rfl
    ·intro w1
     first | refine b2 ⟨_, 1, none⟩ rfl rfl l6 rfl ?_ | refine b2 _ rfl rfl l6 rfl ?_
     refine b7 ?_; exact i6 rfl
    apply k9 _ rfl rfl rfl
    ·intro w1; refine P9 (A := HB) (ps := hs) (f := Hd.row) mB (b3 (v := int (hs.getD fe.toNat default).2.1) rfl b5 rfl (i3 mB (rows_get (by omega) (j := 1) rfl)) (b7 ?_)); exact i6 rfl
    refine N6 ⟨List Int × OutC, fun x => ByH (persL (foundE cs hs pr ws z).1 (foundE cs hs pr ws z).1.length) (underT (trOf cs hs) (hs.getD fe.toNat default).2.1) x.1, fun x => .tuple #[.slice x.2.1 x.1.length x.2.2, int 0], fun x => [Row x.2.1 (rows x.1)]⟩ rfl rfl rfl ?_ ?_
    ·intro w1; have hUd := vT (A := CA) (B := HB) (PA := oA) (ca := ca) (cb := cb) (pc := oc) cs hs (persL (foundE cs hs pr ws z).1 (foundE cs hs pr ws z).1.length) (hs.getD fe.toNat default).2.1 hca hcb ha hT0 (by omega) (by rw [P6]; omega) hpok (by have := hund.1; omega); rw [P6] at hUd; refine i5 wM rfl rfl (hUd) k8 mC fun r hr => b7 ?_; exact D1 r hr rfl ⟨m0, tK⟩
    refine N6 ⟨List Int × OutC, fun x => ByH (persL (foundE cs hs pr ws z).1 (foundE cs hs pr ws z).1.length) (underT (trOf cs hs) (hs.getD fe.toNat default).2.1) x.1, fun x => .tuple #[.slice x.2.1 x.1.length x.2.2, int 0], fun x => [Row x.2.1 (rows x.1)]⟩ rfl rfl rfl ?_ ?_
    ·intro x10 hx10; intro w1; refine b4 rfl (b7 ?_); exact D1 x10 hx10 rfl ⟨m0, tK⟩
    refine N6 ⟨List Int × OutC, fun x => ByH (persL (foundE cs hs pr ws z).1 (foundE cs hs pr ws z).1.length) (underT (trOf cs hs) (hs.getD fe.toNat default).2.1) x.1, fun x => .slice x.2.1 x.1.length x.2.2, fun x => [Row x.2.1 (rows x.1)]⟩ rfl rfl rfl ?_ ?_
    ·intro x11 hx11; intro w1; refine k4 rfl rfl rfl (b7 ?_); exact D1 x11 hx11 rfl ⟨m0, tK⟩
    apply k9 _ rfl rfl rfl
    ·intro x11 hx11; intro w1; refine k4 rfl rfl rfl (b7 ?_); exact i6 rfl
    refine N6 ⟨List Int × OutC, fun x => ByH (persL (foundE cs hs pr ws z).1 (foundE cs hs pr ws z).1.length) (underT (trOf cs hs) (hs.getD fe.toNat default).2.1) x.1, fun x => .slice x.2.1 x.1.length x.2.2, fun x => [Row x.2.1 (rows x.1)]⟩ rfl rfl rfl ?_ ?_
    ·intro x12 hx12; intro w1; refine b6 rfl (b7 ?_); exact D1 x12 hx12 rfl ⟨m0, tK⟩
    refine y8 ⟨rfl, ?_⟩; intro x10 hx10 x11 hx11 x12 hx12 x14 hx14; obtain ⟨ul, uo⟩ := x14; have hby2 := ByH.mem hx14 (k := za.toNat) (by rw [P6]; exact hal) (by rw [hpat]; show _ ∈ _; simp only; rw [hav]; exact hund.2); have hull := ByH.len hx14; rw [P6] at hull; simp only at hby2 hull; refine b6 rfl (j4 (b4 rfl (B9 rfl rfl rfl (b4 rfl ?_)))); refine q6 rfl rfl ?_ ?_
    ·intro hg13; have hg13' := hg13; try simp at hg13'
     refine k7 hg13 (b4 rfl (k7 hg13 (b4 rfl (k7 hg13 ?_)))); refine i5 M4 rfl rfl (M3 ul za (by omega)) k8 mC fun zc hzc => ?_; refine k7 hg13 (u7 rfl rfl rfl ?_); refine p_f rfl rfl (bf1 hg13) rfl (c3 ?_)
     first | refine j9 rfl (fun hb13 => ?_) (fun hb13 => ?_) | refine d6 rfl (fun hb13 => ?_) (fun hb13 => ?_)
     ·exact absurd (hzc.1.2 (by rw [← hzn]; exact hby2)) (by omega)
     have hb13' := hb13; try simp at hb13'
     refine i4 (q8 (c7 (c9 (b4 rfl ?_)))); refine r4 _ rfl rfl rfl rfl m7 ?_; refine b6 rfl (b7 ?_); exact again _ (k + 1) (by show k + 1 ≤ ws.length; omega) (r9 (by omega)) mC nK mC
    intro hg13; have hg13' := hg13; try simp at hg13'
   intro hg12; have hg12' := hg12; try simp at hg12'
  intro hg11; have hg11' := hg11; try simp at hg11'
  refine n4 hg11 (n4 hg11 ?_); refine p_t rfl rfl (bt2 hg11) rfl ?_; refine c3 (c_t rfl rfl (m4 (w4 (l9 (c7 (c9 (b4 rfl ?_))))))); refine r4 _ rfl rfl rfl rfl m7 ?_; refine b6 rfl (b7 ?_); exact again _ (k + 1) (by show k + 1 ≤ ws.length; omega) (r9 (by omega)) mC nK mC
 have hb9' := hb9; try simp at hb9'
 obtain rfl : k = ws.length := by omega
 refine m4 (v6 (l9 (c7 (d4 ?_)))); refine i5 Y6 rfl rfl (Y4) k8 tK fun _ _ => ?_; refine b6 rfl (c3 (j6 ?_)); exact ret1 () rfl rfl rfl tK nK tK
end Go.Proofs.YtpihanmcnmlodaaGreatDoor
end
section
namespace Go.W
open Go Go.RowKit Go.ChangeShapes Go.WideShapes
section
variable {H : Type} {enc : TypeId × Value → H} {P : Program} {w : World} {base : Nat} {spare : Nat → Bool} {held : Bool}
theorem row_of {α : Type} [El α] (h1 : El.sz α = 1) {a : Addr} {l : List α} (h : ∀ j (hj : j < l.length), ∃ v, El.cells l[j] = [v] ∧ w.cell? (a.add j) = some v) : (Row (some a) (rows l)).P w := by
  intro j u hu; refine ⟨a, rfl, ?_⟩
  have hj : j < l.length := by
    have := (List.getElem?_eq_some_iff.1 hu).1; rw [S1, h1, Nat.mul_one] at this; exact this
  obtain ⟨v, hv, hc⟩ := h j hj; have h2 := rows_get (l := l) (i := j) (j := 0) (v := v) hj (by simp [List.getD_eq_getElem?_getD, hj, hv]); rw [h1] at h2; simp only [Nat.mul_one, Nat.add_zero] at h2; rw [hu] at h2
  cases h2
  exact hc
theorem in_ints {t e : TypeId} {A : Option Addr} {n c fuel : Nat} {x : DataW H × List MemPlace} (ht : P.underlying t = some (.slice e)) (he : P.underlying e = some (.int .i64)) (hc : P.cellsOf e = 1)
    (h : DataW.trod enc P w base spare held fuel t [.slice A n c] = some x) : ∃ l : List Int, n = l.length ∧ l.length ≤ c ∧ c ≤ maxLen ∧ (Row A (rows l)).P w ∧ ∀ z ∈ l, I64 z := by
  rcases open_ints ht he hc h with ⟨hcs, _⟩ | ⟨a, len, cap, zs, hcs, _, hl, hm, hlen, _, hcell, hwf⟩
  · simp at hcs
    obtain ⟨rfl, rfl, rfl⟩ := hcs; exact ⟨[], rfl, Nat.le_refl _, by unfold maxLen; omega, Row.nil _ _, by intro z hz; simp at hz⟩
  simp at hcs
  obtain ⟨rfl, rfl, rfl⟩ := hcs; have hle : n ≤ zs.length := by rw [hlen]; split <;> omega
  have hlen2 : (zs.take n).length = n := by rw [List.length_take]; omega
  refine ⟨zs.take n, hlen2.symm, by rw [hlen2]; exact hl, hm, row_of rfl fun j hj => ?_, fun z hz => ?_⟩
  · rw [hlen2] at hj
    refine ⟨int zs[j], by simp [El.cells], ?_⟩; rw [hcell j (by omega)]
    simp [List.getD_eq_getElem?_getD, show j < zs.length by omega]
  have := hwf z (List.mem_of_mem_take hz)
  simp [Lit.wf, IntKind.min, IntKind.max, IntKind.signed, IntKind.bits] at this
  exact ⟨by omega, by omega⟩
theorem jq7 {f : Nat} {args : List Value} {LI : List Fact} (h : Meets P f args ({ LI := LI, val := fun _ : Unit => .bool true } : Con Unit)) (hL : ∀ F ∈ LI, F.P w) : Calls P f args.toArray w fun e w' => e = .returned (.bool true) ∧ Below w.heap.size w w' := by
  refine (h w ⟨Ext.refl _ _, by simp, by simp, by simp, hL, by simp, fun F hF k hk => .inr (.inr ⟨F, hF, hk⟩)⟩).mono fun e w' hp => ?_; obtain ⟨_, rfl, _, hwi⟩ := hp; exact ⟨rfl, hwi.ext.below⟩
end
end Go.W
end
