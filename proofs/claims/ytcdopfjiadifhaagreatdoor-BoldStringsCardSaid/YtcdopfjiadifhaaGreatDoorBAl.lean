/- Texts. -/

import Derived.Test.YtcdopfjiadifhaaGreatDoorBAk
import Derived.Test.YtcdopfjiadifhaaGreatDoorBAf
import Derived.Test.YtcdopfjiadifhaaGreatDoorBAg
import Derived.Test.YtcdopfjiadifhaaGreatDoorBAh
set_option linter.unusedVariables false
set_option linter.unusedSimpArgs false
section
namespace Go.Proofs.YtcdopfjiadifhaaGreatDoor
open Go Go.W Go.Conc
set_option maxRecDepth 20000
attribute [local irreducible] HL HC HQ HB Row Rows2 Blk Facts
set_option maxRecDepth 20000
section
variable {W : World} {Fc Lf o how b3 b5 b6 b7 : Nat} {ad : Addr} {off : Int} {acc : List Ac} {cap : Nat} {Goal : Goroutine → World → Prop}
def acOut (how : Nat) (off : Int) (acc : List Ac) : List Int := (List.range acc.length).map fun j => acN how off acc j
theorem gets {b2 : Nat} {c : Cx} {b : Frame} {cs : List Frame} {k : List Item} (hP : c.P = Tryz.prog) (hn : c.n = 41) (hD : c.D = []) (hk : b.kind ≠ .early) (h : Main0 W Fc Lf o how b3 b5 b6 b7 ad off acc)
    (hend : ∀ w, Sur (ph W Fc Lf o acc.length (acV how off acc)) w → w.heap[o]? = some (.cells (rows (acOut how off acc)).toArray 3 (0, 0)) → ∀ a, Ok c a (fr0 b2 b3 b5 b6 b7) → Co Tryz.prog (G (b.at a k) cs) w Goal) :
    ∀ (m : Nat) (R : List Nat) (us : Array Value), R.length = m → R.Nodup → (∀ j ∈ R, j < acc.length) → us.size = acc.length → (∀ j, j < acc.length → j ∉ R → us[j]? = some (int (acN how off acc j))) →
      TC (.folM (ph W Fc Lf o acc.length (acV how off acc)) Goal (.ga R)) c b cs (40 * m + 20) (.code bodyB :: .inLoop bodyB :: .inBlock 2 :: k) ((30, .chan (some Fc)) :: fr0 b2 b3 b5 b6 b7) [(o, .cells us 3 (0, 0))] := by
  obtain ⟨P, cn, cb, D, rd⟩ := c; simp only at hP hn hD; subst hP hn hD; have hk' : b.kind ≠ .early := hk; have hl := h.lenA; intro m
  induction m with
  | zero =>
    intro R us hR hnd hlt hsz hus; obtain rfl : R = [] := List.eq_nil_of_length_eq_zero hR; refine P3 (H4 ?_); refine xx1 rfl rfl hk' Tryz.underlying149 (fun _ => p9) rfl (fun j hj => by cases hj) fun _ w he hh a ha => ?_; refine co_op (K := fun a' w' => a' = a.put (some 32) (.bool false) ∧ ∃ d, w' = w.at d) (Q := fun _ _ _ => False) hk' rfl rfl (fun d => ⟨jI rfl _, ?_⟩) (fun a' w' hK => ?_) (fun _ _ h => h.elim)
    · have h1 := ha.ev (x := .tmp 31) rfl
      have : (execOp a.eval (⟨some 32, .extract (.tmp 31) 1, 4, "bold.go:186", #[⟨0, .data⟩], none⟩ : Oper)).run Tryz.prog (w.at d) = .ok (.value (.bool false)) (w.at d) := by simp [execOp, h1, Instr.extract]
      show uponB Tryz.prog (⟨some 32, .extract (.tmp 31) 1, 4, "bold.go:186", #[⟨0, .data⟩], none⟩ : Oper) a _ _ ((execOp a.eval (⟨some 32, .extract (.tmp 31) 1, 4, "bold.go:186", #[⟨0, .data⟩], none⟩ : Oper)).run Tryz.prog (w.at d))
      rw [this]; exact ⟨rfl, d, rfl⟩
    obtain ⟨rfl, d, rfl⟩ := hK; have ha' := ha.put (d := 32) (by show 32 < 41; decide) (.bool false); refine L5 rfl (fun _ => stepG_region_end) (L5 rfl (fun _ => stepG_seq) (L5 rfl (fun _ => stepG_cond (t := false) (ha'.ev rfl)) (L5 rfl (fun _ => stepG_exit (k' := k) rfl) ?_))); refine hend (w.at d) (he.at d) ?_ _ (ha'.sub mC); have h1 := hh _ (List.mem_cons_self ..)
    have e : us = (rows (acOut how off acc)).toArray := by
      apply Array.ext_getElem?
      intro j
      have hrl : rows (acOut how off acc) = (acOut how off acc).map int := by
        unfold rows
        induction acOut how off acc with
        | nil => rfl
        | cons x l ih => rw [List.flatMap_cons, ih]; rfl
      have e2 : (rows (acOut how off acc)).toArray[j]? = ((acOut how off acc).map int)[j]? := by rw [hrl]; simp
      rw [e2, List.getElem?_map]
      by_cases hj : j < acc.length
      · rw [hus j hj (by simp)]
        unfold acOut; rw [List.getElem?_map, List.getElem?_range hj]
        rfl
      rw [Array.getElem?_eq_none (by omega), List.getElem?_eq_none (by unfold acOut; simp; omega)]
      rfl
    rw [← e]; exact h1
  | succ m ih =>
    intro R us hR hnd hlt hsz hus; refine P3 (H4 ?_); refine gJ (m := 40 * m + 20 + 30) (by omega) ?_; refine xx1 rfl rfl hk' Tryz.underlying149 (fun _ => p9) rfl (fun j hj => ?_) (fun e => by subst e; cases hR); have hjl := hlt j hj; refine kq2 rfl rfl hk' rfl rfl ?_; refine U6 (P3 (cq6 true rfl (nq7 (rZ (P3 (H4 ?_)))))); refine kq2 (v := acV how off acc j) rfl rfl hk' rfl rfl ?_; refine kq4 rfl rfl hk' T.zP (fun _ _ => p9) fun g hg hng => ?_; have ngo : ¬ Has [(o, Obj.cells us 3 (0, 0))] g := hng; refine mj6 (us := #[int j, int (acN how off acc j)]) (hp' := [(o, Obj.cells us 3 (0, 0))]) rfl hk' rfl rfl p6 ngo T.zH rfl rfl ?_; refine U6 (H4 ?_); refine D9 (v := .slice (d6 o) acc.length acc.length) rfl rfl hk' T.k8 rfl (I3 h.h5 h.n5.1 h.n5.2.1 h.n5.2.2 rfl) ?_; refine bJ ⟨g, 0, none⟩ rfl rfl hk' rfl T.vV (fun _ _ _ => p9) rfl ?_; refine D9 (v := int j) rfl rfl hk' T.b9 rfl (aR (vs := #[int j, int (acN how off acc j)]) (List.mem_cons_self ..) rfl) ?_; refine bJ ⟨g, 1, none⟩ rfl rfl hk' rfl T.vU (fun _ _ _ => p9) rfl ?_; refine D9 (v := int (acN how off acc j)) rfl rfl hk' T.b9 rfl (aR (vs := #[int j, int (acN how off acc j)]) (List.mem_cons_self ..) rfl) ?_; refine bz9 j ⟨o, j, none⟩ rfl rfl hk' Tryz.underlying24 T.m9 rfl rfl rfl hjl (by rw [bI]; simp) ?_
    have nog : ¬ Has [(g, Obj.cells #[int j, int (acN how off acc j)] 154 (0, 0))] o := by
      rintro ⟨q, hq, e⟩
      simp at hq
      subst hq; exact ngo ⟨_, List.mem_cons_self .., e.symm⟩
    refine pz0 (u := us[j]'(by omega)) (hp' := [(g, Obj.cells #[int j, int (acN how off acc j)] 154 (0, 0))]) rfl hk' rfl rfl (List.Perm.swap _ _ _) nog T.m9 (Array.getElem?_eq_getElem (by omega)) rfl ?_; refine U6 (ax0 ?_); refine rq2 (hp' := [(o, Obj.cells (us.setIfInBounds j (int (acN how off acc j))) 3 (0, 0))]) (by intro q hq; simp at hq; subst hq; simp) ?_; refine gJ (m := 40 * m + 20) (by omega) (D8 mC (ih (R.erase j) _ ?_ (hnd.erase j) (fun i hi => hlt i (List.mem_of_mem_erase hi)) (by simp [hsz]) fun i hi hni => ?_))
    · rw [List.length_erase_of_mem hj]; omega
    by_cases hij : j = i
    · subst hij
      rw [Array.getElem?_setIfInBounds_self_of_lt (by omega)]
    rw [Array.getElem?_setIfInBounds_ne hij]; exact hus i hi fun hm => hni ((hnd.mem_erase_iff).2 ⟨Ne.symm hij, hm⟩)
end
end Go.Proofs.YtcdopfjiadifhaaGreatDoor
end
section
namespace Go.W
open Go Go.RowKit
section
variable {κ : Type} [DecidableEq κ]
def updF (f : κ → Nat) (k : κ) (n : Nat) : κ → Nat := fun x => if x = k then n else f x
structure MapIs (l : List (Ment κ)) (clk : Nat) (f : κ → Nat) : Prop where
  bs : (l.map (·.2.2)).Pairwise (· < ·)
  lt : ∀ p ∈ l, p.2.2 < clk
  nd : (l.map (·.1)).Nodup
  vl : ∀ p ∈ l, p.2.1 = int (f p.1) ∧ 0 < f p.1
  al : ∀ k, 0 < f k → k ∈ l.map (·.1)
theorem MapIs.nil : MapIs ([] : List (Ment κ)) 0 (fun _ => 0) := ⟨.nil, by simp, by simp, by simp, fun k h => by omega⟩
theorem gz6 {l : List (Ment κ)} {k : κ} : getM l k = none ↔ k ∉ l.map (·.1) := by
  induction l with
  | nil => simp [getM, findM]
  | cons p l ih =>
    rw [uq3]
    by_cases h : p.1 = k
    · rw [if_pos h]; simp [h]
    rw [if_neg h, ih, List.map_cons, List.mem_cons]; simp only [not_or]; exact ⟨fun e => ⟨fun e2 => h e2.symm, e⟩, fun e => e.2⟩
theorem MapIs.get {l : List (Ment κ)} {clk : Nat} {f : κ → Nat} (h : MapIs l clk f) (k : κ) : getM l k = if f k = 0 then none else some (int (f k)) := by
  split
  · rename_i e
    refine gz6.2 fun hm => ?_; obtain ⟨p, hp, rfl⟩ := List.mem_map.1 hm; have := (h.vl p hp).2
    omega
  rename_i e
  cases hg : getM l k with
  | none => exact absurd (h.al k (by omega)) (gz6.1 hg)
  | some v =>
    obtain ⟨p, hp, e1, e2⟩ := wz3 hg; rw [← e2, (h.vl p hp).1, e1]
theorem gx8 (p : Ment κ) (l : List (Ment κ)) (k : κ) (v : Value) (clk : Nat) : putM (p :: l) k v clk = if p.1 = k then (k, v, p.2.2) :: l else p :: putM l k v clk := by
  by_cases h : p.1 = k
  · simp [putM, findM, h]
  simp only [putM, findM, h, if_false]; rw [bx2]
  cases hf : findM k l 0 with
  | none => simp
  | some q => simp
theorem lj9 {l : List (Ment κ)} {k : κ} : findM k l 0 = none ↔ k ∉ l.map (·.1) := by
  rw [← gz6]; unfold getM
  cases findM k l 0 <;> simp
theorem tj6 (l : List (Ment κ)) (k : κ) (clk : Nat) : clkM l k clk = if k ∈ l.map (·.1) then clk else clk + 1 := by
  unfold clkM
  cases hf : findM k l 0 with
  | none => rw [if_neg (lj9.1 hf)]; rfl
  | some q =>
    have h1 : k ∈ l.map (·.1) := Classical.byContradiction fun h => by rw [lj9.2 h] at hf; cases hf
    rw [if_pos h1]
    rfl
theorem gx7 (l : List (Ment κ)) (k : κ) (v : Value) (clk : Nat) : (putM l k v clk).map (·.1) = if k ∈ l.map (·.1) then l.map (·.1) else l.map (·.1) ++ [k] := by
  induction l with
  | nil => simp [putM, findM]
  | cons p l ih =>
    rw [gx8]
    by_cases h : p.1 = k
    · rw [if_pos h, if_pos (by simp [h])]
      simp [h]
    rw [if_neg h, List.map_cons, ih, List.map_cons]
    by_cases h2 : k ∈ l.map (·.1)
    · rw [if_pos h2, if_pos (List.mem_cons_of_mem _ h2)]
    rw [if_neg h2, if_neg (by rw [List.mem_cons, not_or]; exact ⟨fun e => h e.symm, h2⟩)]
    rfl
theorem ax8 (l : List (Ment κ)) (k : κ) (v : Value) (clk : Nat) : (putM l k v clk).map (·.2.2) = if k ∈ l.map (·.1) then l.map (·.2.2) else l.map (·.2.2) ++ [clk] := by
  induction l with
  | nil => simp [putM, findM]
  | cons p l ih =>
    rw [gx8]
    by_cases h : p.1 = k
    · rw [if_pos h, if_pos (by simp [h])]
      simp
    rw [if_neg h, List.map_cons, ih, List.map_cons, List.map_cons]
    by_cases h2 : k ∈ l.map (·.1)
    · rw [if_pos h2, if_pos (List.mem_cons_of_mem _ h2)]
    rw [if_neg h2, if_neg (by rw [List.mem_cons, not_or]; exact ⟨fun e => h e.symm, h2⟩)]
    rfl
theorem putM_in {l : List (Ment κ)} {k : κ} {v : Value} {clk : Nat} (hn : (l.map (·.1)).Nodup) {p : Ment κ} (h : p ∈ putM l k v clk) : (p.1 = k ∧ p.2.1 = v) ∨ (p ∈ l ∧ p.1 ≠ k) := by
  induction l with
  | nil => simp [putM, findM] at h; subst h; exact .inl ⟨rfl, rfl⟩
  | cons q l ih =>
    rw [gx8] at h; rw [List.map_cons, List.nodup_cons] at hn
    by_cases e : q.1 = k
    · rw [if_pos e] at h
      rcases List.mem_cons.1 h with rfl | h
      · exact .inl ⟨rfl, rfl⟩
      refine .inr ⟨List.mem_cons_of_mem _ h, fun e2 => hn.1 ?_⟩; rw [e, ← e2]; exact List.mem_map_of_mem h
    rw [if_neg e] at h
    rcases List.mem_cons.1 h with rfl | h
    · exact .inr ⟨List.mem_cons_self, e⟩
    exact (ih hn.2 h).imp id fun h => ⟨List.mem_cons_of_mem _ h.1, h.2⟩
theorem MapIs.put {l : List (Ment κ)} {clk : Nat} {f : κ → Nat} (h : MapIs l clk f) (k : κ) {n : Nat} (hn : 0 < n) : MapIs (putM l k (int n) clk) (clkM l k clk) (updF f k n) where
  bs := by
    rw [ax8]
    split
    · exact h.bs
    refine List.pairwise_append.2 ⟨h.bs, by simp, fun a ha b hb => ?_⟩; obtain ⟨p, hp, rfl⟩ := List.mem_map.1 ha; rw [List.mem_singleton.1 hb]; exact h.lt p hp
  lt p hp := by
    have h1 : p.2.2 ∈ (putM l k (int n) clk).map (·.2.2) := List.mem_map_of_mem hp; rw [ax8] at h1; rw [tj6]
    split at h1
    · rename_i e
      rw [if_pos e]; obtain ⟨q, hq, e2⟩ := List.mem_map.1 h1; rw [← e2]; exact h.lt q hq
    rename_i e
    rw [if_neg e]
    rcases List.mem_append.1 h1 with h1 | h1
    · obtain ⟨q, hq, e2⟩ := List.mem_map.1 h1
      have := h.lt q hq
      omega
    rw [List.mem_singleton.1 h1]; omega
  nd := by
    rw [gx7]
    split
    · exact h.nd
    rename_i e
    refine List.nodup_append.2 ⟨h.nd, by simp, fun a ha b hb e2 => e ?_⟩; rw [← List.mem_singleton.1 hb, ← e2]; exact ha
  vl p hp := by
    unfold updF
    rcases putM_in h.nd hp with ⟨e1, e2⟩ | ⟨e1, e2⟩
    · rw [if_pos e1]; exact ⟨e2, hn⟩
    rw [if_neg e2]; exact h.vl p e1
  al x hx := by
    rw [gx7]; unfold updF at hx
    by_cases e : x = k
    · subst e
      split
      · assumption
      simp
    rw [if_neg e] at hx; have := h.al x hx
    split
    · exact this
    exact List.mem_append_left _ this
def delM (l : List (Ment κ)) (k : κ) : List (Ment κ) := match findM k l 0 with | some (i, _) => l.eraseIdx i | none => l
omit [DecidableEq κ] in
theorem MapIs.congr {l : List (Ment κ)} {clk : Nat} {f g : κ → Nat} (h : MapIs l clk f) (e : ∀ k, f k = g k) : MapIs l clk g := by
  have : f = g := funext e; exact this ▸ h
theorem iR {α : Type} [DecidableEq α] : ∀ {l K : List α}, l.Nodup → (∀ x ∈ l, x ∈ K) → l.length ≤ K.length
  | [], K, _, _ => Nat.zero_le _
  | x :: l, K, hn, h => by
    rw [List.nodup_cons] at hn; have h1 := h x List.mem_cons_self; have h2 := iR (K := K.erase x) hn.2 fun y hy => (List.mem_erase_of_ne (fun e : y = x => hn.1 (by rw [← e]; exact hy))).2 (h y (List.mem_cons_of_mem _ hy)); rw [List.length_erase_of_mem h1] at h2; have := List.length_pos_of_mem h1; rw [List.length_cons]
    omega
theorem MapIs.len {l : List (Ment κ)} {clk : Nat} {f : κ → Nat} (h : MapIs l clk f) {K : List κ} (hK : ∀ k, 0 < f k → k ∈ K) : l.length ≤ K.length := by
  have h2 := iR (K := K) h.nd fun k hk => by
    obtain ⟨p, hp, rfl⟩ := List.mem_map.1 hk; exact hK _ (h.vl p hp).2
  rwa [List.length_map] at h2
end
structure Vis {κ : Type} (l vis : List (Ment κ)) : Prop where
  sub : ∀ p ∈ vis, p ∈ l
  nd : (vis.map (·.2.2)).Nodup
theorem Vis.nil {κ : Type} (l : List (Ment κ)) : Vis l [] := ⟨by simp, by simp⟩
theorem Vis.snoc {κ : Type} {l vis : List (Ment κ)} (h : Vis l vis) {p : Ment κ} (hp : p ∈ l) (hn : p.2.2 ∉ vis.map (·.2.2)) : Vis l (vis ++ [p]) := by
  refine ⟨fun q hq => ?_, ?_⟩
  · rcases List.mem_append.1 hq with hq | hq
    · exact h.sub q hq
    rw [List.mem_singleton.1 hq]; exact hp
  rw [List.map_append]; refine List.nodup_append.2 ⟨h.nd, by simp, fun a ha b hb e => hn ?_⟩; have h1 : b = p.2.2 := by simpa using hb
  rw [← h1, ← e]; exact ha
theorem Vis.len {κ : Type} {l vis : List (Ment κ)} (h : Vis l vis) : vis.length ≤ l.length := by
  have h2 := iR (K := l.map (·.2.2)) h.nd fun b hb => by
    obtain ⟨p, hp, rfl⟩ := List.mem_map.1 hb; exact List.mem_map_of_mem (h.sub p hp)
  rwa [List.length_map, List.length_map] at h2
theorem Vis.lt {κ : Type} {l vis : List (Ment κ)} (h : Vis l vis) {p : Ment κ} (hp : p ∈ l) (hn : p.2.2 ∉ vis.map (·.2.2)) : vis.length < l.length := by
  have := (h.snoc hp hn).len
  simp at this
  omega
theorem MapIs.born {κ : Type} {l : List (Ment κ)} (h : (l.map (·.2.2)).Pairwise (· < ·)) {p q : Ment κ} (hp : p ∈ l) (hq : q ∈ l) (e : p.2.2 = q.2.2) : p = q := by
  induction l with
  | nil => cases hp
  | cons x l ih =>
    rw [List.map_cons, List.pairwise_cons] at h
    rcases List.mem_cons.1 hp with h1 | h1 <;> rcases List.mem_cons.1 hq with h2 | h2
    · rw [h1, h2]
    · have := h.1 _ (List.mem_map_of_mem h2); rw [h1] at e; omega
    · have := h.1 _ (List.mem_map_of_mem h1); rw [h2] at e; omega
    exact ih h.2 h1 h2
theorem MapIs.key {κ : Type} {l : List (Ment κ)} (h : (l.map (·.1)).Nodup) {p q : Ment κ} (hp : p ∈ l) (hq : q ∈ l) (e : p.1 = q.1) : p = q := by
  induction l with
  | nil => cases hp
  | cons x l ih =>
    rw [List.map_cons, List.nodup_cons] at h
    rcases List.mem_cons.1 hp with h1 | h1 <;> rcases List.mem_cons.1 hq with h2 | h2
    · rw [h1, h2]
    · exact absurd (by rw [← h1, e]; exact List.mem_map_of_mem h2) h.1
    · exact absurd (by rw [← h2, ← e]; exact List.mem_map_of_mem h1) h.1
    exact ih h.2 h1 h2
section
variable {κ : Type} [DecidableEq κ] {enc : κ → Value} {kt e : TypeId}
variable {c : Cx} {Q : Exit → Act → World → Prop} {fr : Fr} {hp : Hp} {L : List Fact} {ops : Array Oper} {rest : List Oper}
variable {d : Tmp} {ty : TypeId} {pos : String} {af : Array Edge}
/-! ### A map that is ranged over -/
def iterM (g clk : Nat) (vis : List (Ment κ)) : Obj := .mapIter (some g) clk (vis.map (·.2.2)).toArray clk
def nextMV (enc : κ → Value) : Option (Ment κ) → Value
  | none => .tuple #[.bool false]
  | some p => .tuple #[.bool true, enc p.1, p.2.1]
omit [DecidableEq κ] in
theorem vz1 {t : TypeId} {x : Operand} {g : Nat} {l : List (Ment κ)} {clk : Nat} (hd : Nat.blt d c.n = true) (ht : c.P.underlying t = some (.map kt e)) (hx : ev fr x = some (.map (some g))) (hm : MapAt c.b hp L g (mapO enc l clk)) (k : ∀ gi, HL c ops Q rest ((d, .pointer (d6 gi)) :: fr) ((gi, iterM g clk ([] : List (Ment κ))) :: hp) L) : HL c ops Q (⟨some d, .range t x, ty, pos, af, none⟩ :: rest) fr hp L :=
  uH (iterM g clk ([] : List (Ment κ))) (fun g => .pointer (d6 g)) rfl rfl hd (fun a w ha hw => by
    have hg : w.heap[g]? = some (.map (l.map (entOf enc)).toArray clk) := hm w hw; simp only [execOp, ha.ev hx, Instr.range, Sem.run_bind, run_underlying ht, Result.andThen_ok, MapKept.run_getObj_map hg]
    simp [run_newObj_alloc, iterM]) k
theorem pz8 (P : Program) (n : Nat) (w : World) : ∃ j w', (choose (.mapNext n)).run P w = .ok j w' ∧ (0 < n → j < n) ∧ (n ≤ 1 → j = 0) ∧ Ext [] w w' ∧ w'.heap = w.heap := by
  by_cases h : n ≤ 1
  · refine ⟨0, w, ?_, fun h => h, fun _ => rfl, Ext.refl _ _, rfl⟩
    have hf : (Question.mapNext n).forced = true := decide_eq_true h; show Sem.run P (Sem.choose (.mapNext n) Sem.pure) w = _; simp only [Sem.run, hf, if_true]
  refine ⟨(w.tape w.drawn (.mapNext n)) % n, w.drew, ?_, ?_, fun h2 => absurd h2 h, lq2 w, rfl⟩
  · have hf : (Question.mapNext n).forced = false := decide_eq_false h
    show Sem.run P (Sem.choose (.mapNext n) Sem.pure) w = _; simp only [Sem.run, hf, Bool.false_eq_true, if_false]
    rfl
  exact fun h0 => Nat.mod_lt _ h0
omit [DecidableEq κ] in
theorem mq4 {P : Program} {w : World} {r : Nat} {m : Option Nat} {a z : Nat} {s : Array Nat} (hb : w.heap[r]? = some (.mapIter m a s z)) : (getObj r).run P w = .ok (.mapIter m a s z) w := by simp [getObj, Sem.run, hb]
omit [DecidableEq κ] in
theorem tx4 {P : Program} {w : World} {r : Nat} {m : Option Nat} {a z : Nat} {s : Array Nat} (o : Obj) (hb : w.heap[r]? = some (.mapIter m a s z)) : (setObj r o).run P w = .ok () { w with heap := w.heap.setIfInBounds r o } := by simp [setObj, Sem.run, hb]
def restM (l vis : List (Ment κ)) : List (Ment κ) := l.filter fun p => !(vis.map (·.2.2)).contains p.2.2
omit [DecidableEq κ] in
theorem r_nextM {x : Operand} {gi g : Nat} {l vis : List (Ment κ)} {clk : Nat} {hp' : Hp} (hd : Nat.blt d c.n = true) (hx : ev fr x = some (.pointer (d6 gi))) (hm : MapAt c.b hp L g (mapO enc l clk)) (hlt : ∀ p ∈ l, p.2.2 < clk) (hpp : hp.Perm ((gi, iterM g clk vis) :: hp'))
    (kk : ∀ x : Option (Ment κ), (x = none → ∀ p ∈ l, p.2.2 ∈ vis.map (·.2.2)) → (∀ p, x = some p → p ∈ l ∧ p.2.2 ∉ vis.map (·.2.2)) → HL c ops Q rest ((d, nextMV enc x) :: fr) ((gi, iterM g clk (vis ++ x.toList)) :: hp') L) :
    HL c ops Q (⟨some d, .next x false, ty, pos, af, none⟩ :: rest) fr hp L :=
  uI rfl rfl hd fun a w ha hw => by
    have hw' := hw.perm hpp; have hg : w.heap[g]? = some (.map (l.map (entOf enc)).toArray clk) := hm w hw; have hi : w.heap[gi]? = some (.mapIter (some g) clk (vis.map (·.2.2)).toArray clk) := hw'.own (gi, iterM g clk vis) (by simp); obtain ⟨j, w1, hch, hj, hj0, hext, hheap⟩ := pz8 c.P ((if (restM l vis).isEmpty then 1 else 0) + (restM l vis).length) w; have hi1 : w1.heap[gi]? = some (.mapIter (some g) clk (vis.map (·.2.2)).toArray clk) := by rw [hheap]; exact hi
    have hcond : (!(vis.map (·.2.2)).toArray.isEmpty && !(l.map (entOf enc)).toArray.isEmpty && (l.map (entOf enc)).toArray.all (fun e => decide (e.born ≥ clk))) = false := by
      cases l with
      | nil => simp
      | cons p l =>
        have := hlt p List.mem_cons_self
        simp [entOf]
        intro _ h
        omega
    have hleft : (l.map (entOf enc)).toArray.filter (fun e => !(vis.map (·.2.2)).toArray.contains e.born) = ((restM l vis).map (entOf enc)).toArray := by
      simp only [List.filter_toArray, List.filter_map, restM]
      congr 2
      apply List.filter_congr
      intro p _; show (!(vis.map (·.2.2)).toArray.contains p.2.2) = !(vis.map (·.2.2)).contains p.2.2; rw [List.contains_toArray]
    have hold : ((restM l vis).map (entOf enc)).toArray.filter (fun e => decide (e.born < clk)) = ((restM l vis).map (entOf enc)).toArray := by
      simp only [List.filter_toArray]
      congr 1
      rw [List.filter_eq_self]; intro e he; obtain ⟨p, hp, rfl⟩ := List.mem_map.1 he; exact decide_eq_true (show p.2.2 < clk from hlt p (List.mem_filter.1 hp).1)
    have hnew : ((restM l vis).map (entOf enc)).toArray.filter (fun e => decide (e.born ≥ clk)) = #[] := by
      simp only [List.filter_toArray]
      congr 1
      rw [List.filter_eq_nil_iff]; intro e he; obtain ⟨p, hp, rfl⟩ := List.mem_map.1 he; have := hlt p (List.mem_filter.1 hp).1
      simp [entOf]
      omega
    cases hr : restM l vis with
    | nil =>
      have hall : ∀ p ∈ l, p.2.2 ∈ vis.map (·.2.2) := by
        intro p hp; have := (List.filter_eq_nil_iff.1 hr) p hp
        simpa using this
      rw [hr] at hch hj0 hleft hold hnew; have hj0' := hj0 (by simp); subst hj0'; refine ⟨nextMV enc none, w1, hp, L, ?_, hw.quiet hext, ?_⟩
      · simp only [execOp, ha.ev hx, Instr.next, Sem.run_bind, mq4 hi, Result.andThen_ok, MapKept.run_getObj_map hg, hcond, Bool.false_eq_true, if_false, Sem.run_pure, hleft, hold, hnew]
        simp at hch
        simp [hch, nextMV]
      have k0 := kk none (fun _ => hall) (fun p h => by cases h); simp only [Option.toList_none, List.append_nil] at k0; exact fun a w ha hw => k0 a w ha (hw.perm hpp)
    | cons p0 r0 =>
      have hjl : j < (restM l vis).length := by
        have := hj (by rw [hr]; simp); rw [hr] at this ⊢
        simpa using this
      have hmem := List.getElem_mem hjl; have hin := List.mem_filter.1 hmem
      have hni : ((restM l vis)[j]).2.2 ∉ vis.map (·.2.2) := by
        have := hin.2
        simpa using this
      have hne : ((restM l vis).map (entOf enc)).toArray.isEmpty = false := by rw [hr]; simp
      rw [show (restM l vis).isEmpty = false by rw [hr]; rfl] at hch; simp only [Bool.false_eq_true, if_false, Nat.zero_add] at hch; have hcs : ((((restM l vis).map (entOf enc)).toArray ++ #[]).map some).size = (restM l vis).length := by simp
      have hce : ((((restM l vis).map (entOf enc)).toArray ++ #[]).map some)[j]? = some (some (entOf enc (restM l vis)[j])) := by simp [hjl]
      refine ⟨nextMV enc (some (restM l vis)[j]), { w1 with heap := w1.heap.setIfInBounds gi (iterM g clk (vis ++ [(restM l vis)[j]])) }, (gi, iterM g clk (vis ++ [(restM l vis)[j]])) :: hp', L, ?_, ((hw'.quiet hext).write (o' := iterM g clk (vis ++ [(restM l vis)[j]])) ⟨rfl, rfl, rfl, by simp, fun q _ hn => by simp only [List.mem_singleton] at hn; simp [Array.getElem?_setIfInBounds_ne (Ne.symm hn)], Nat.le_refl _⟩ ?_), kk (some (restM l vis)[j]) (fun h => by cases h) (fun p h => by cases h; exact ⟨hin.1, hni⟩)⟩
      · simp only [execOp, ha.ev hx, Instr.next, Sem.run_bind, mq4 hi, Result.andThen_ok, MapKept.run_getObj_map hg, hcond, Bool.false_eq_true, if_false, Sem.run_pure, hleft, hold, hnew, hne, Array.empty_append, hcs, hch, hce, tx4 _ hi1]
        simp [entOf, nextMV, iterM]
      have := I4 hi1
      simp [this]
omit [DecidableEq κ] in
theorem r_mext0 {x : Operand} {o : Option (Ment κ)} (hd : Nat.blt d c.n = true) (hx : ev fr x = some (nextMV enc o)) (k : HL c ops Q rest ((d, .bool o.isSome) :: fr) hp L) : HL c ops Q (⟨some d, .extract x 0, ty, pos, af, none⟩ :: rest) fr hp L := by
  cases o with
  | none => exact m4 hd hx rfl k
  | some p => exact m4 hd hx rfl k
end
end Go.W
end
section
namespace Go.Proofs.YtcdopfjiadifhaaGreatDoor
open Go Go.W Tryz T F
set_option maxRecDepth 20000
attribute [local irreducible] HL HC HQ HB Row Rows2 Blk Facts
abbrev Ch := Int × Int × Int × Int × Int × Int
abbrev chV (c : Ch) : Value := .agg #[int c.1, int c.2.1, int c.2.2.1, int c.2.2.2.1, int c.2.2.2.2.1, int c.2.2.2.2.2]
abbrev Ad := Int × Int × Int
instance : El Ad where
  default := (0, 0, 0)
  cells x := [int x.1, int x.2.1, int x.2.2]
  sz := 3
  len _ := rfl
  one a u h := by simp at h; rcases h with h | h | h <;> subst h <;> rfl
abbrev adV (x : Ad) : Value := .agg #[int x.1, int x.2.1, int x.2.2]
def priceN (c : Ch) (x : Ad) : Int := if x.2.1 = 1 then c.1 else if x.2.1 = 2 then c.2.1 + (x.2.2 - 1) * c.2.2.1 else x.2.2 * c.2.2.2.1
def adI (g : Nat) (x : Ad) : Value := if x.2.1 = 1 then .iface cJ (.agg #[.pointer (d6 g)]) else if x.2.1 = 2 then .iface gE (.agg #[.pointer (d6 g), int x.2.2]) else .iface lG (.agg #[.pointer (d6 g), int x.2.2])
abbrev tarL (g : Nat) (c : Ch) : Fact := Row (d6 g) [int c.1, int c.2.1, int c.2.2.1, int c.2.2.2.1]
def ChOK (c : Ch) : Prop := (0 ≤ c.1 ∧ c.1 ≤ 999) ∧ (0 ≤ c.2.1 ∧ c.2.1 ≤ 999) ∧ (0 ≤ c.2.2.1 ∧ c.2.2.1 ≤ 999) ∧ (0 ≤ c.2.2.2.1 ∧ c.2.2.2.1 ≤ 999) ∧ (0 ≤ c.2.2.2.2.1 ∧ c.2.2.2.2.1 ≤ 50) ∧ (1 ≤ c.2.2.2.2.2 ∧ c.2.2.2.2.2 ≤ 5)
theorem nz5 {a b A B : Int} (ha : 0 ≤ a ∧ a ≤ A) (hb : 0 ≤ b ∧ b ≤ B) : 0 ≤ a * b ∧ a * b ≤ A * B := ⟨Int.mul_nonneg ha.1 hb.1, Int.mul_le_mul ha.2 hb.2 hb.1 (by omega)⟩
theorem A7 (n lo hi : Int) : Meets prog kU [int n, int lo, int hi] { val := fun _ : Unit => .bool (decide (lo ≤ n ∧ n ≤ hi)) } := by
 refine j3 dz7 rfl t8 fun w0 => ?_; refine d9 (c7 rfl (k6 (b8 rfl (b8 rfl (xT rfl rfl rfl (b8 rfl ?_)))))); refine t7 rfl rfl ?_ ?_
 ·intro hg1; have hg1' := hg1; try simp at hg1'
  refine l9 hg1 (b8 rfl (l9 hg1 (b8 rfl (l9 hg1 (xT rfl rfl rfl ?_))))); refine p_t rfl rfl (bt1 hg1) rfl ?_; refine c7 rfl (d8 (k5 ?_)); exact ret1 () rfl (congrArg (fun b => some (Value.bool b)) (by simp [hg1'])) rfl tK nK tK
 intro hg1; have hg1' := hg1; try simp at hg1'
 refine q7 hg1 (q7 hg1 (q7 hg1 ?_)); refine p_f rfl rfl (bf2 hg1) rfl ?_; refine c7 rfl (d8 (k5 ?_)); exact ret1 () rfl (congrArg (fun b => some (Value.bool b)) (by simp [Int.not_le.2 hg1'])) rfl tK nK tK
theorem aj8 (c : Ch) : Meets prog bq7 [chV c] { inv := fun _ : Nat => True, val := fun g => .pointer (d6 g), LO := fun g => [tarL g c] } := by
 refine j3 pj5 rfl t8 fun w0 => d9 (J5 rfl rfl fun gB => ?_); refine c7 rfl (k6 ?_); refine a9 ⟨_, 0, none⟩ rfl rfl N7 rfl (c8 rfl b9 rfl (m3 mB rfl) (a9 ⟨_, 1, none⟩ rfl rfl N6 rfl (c8 rfl b9 rfl (m3 mB rfl) (a9 ⟨_, 2, none⟩ rfl rfl N5 rfl (c8 rfl b9 rfl (m3 mB rfl) (a9 ⟨_, 3, none⟩ rfl rfl N4 rfl (c8 rfl b9 rfl (m3 mB rfl) (v9 _ rfl rfl (fun _ => pF ..) (J5 rfl rfl fun gB => E0 [int c.1, int c.2.1, int c.2.2.1, int c.2.2.2.1] (List.prefix_refl _) ?_))))))))); refine c7 rfl (d8 (k5 ?_)); exact ret1 gB rfl rfl rfl tK nK ⟨by repeat constructor, tK⟩
theorem cS (g : Nat) (x : Ad) : Meets prog aL [.pointer (d6 g), adV x] { val := fun _ : Unit => adI g x } := by
 refine j3 tJ rfl t8 fun w0 => d9 (J5 rfl rfl fun gB => ?_); refine c7 rfl (d8 (i7 (d9 ?_))); refine a9 ⟨_, 1, none⟩ rfl rfl A9 rfl (c8 rfl b9 rfl (m3 mB rfl) ?_); refine d8 (j8 (d9 (G2 rfl rfl rfl (c7 rfl (d8 ?_))))); refine m6 rfl (fun hb1 => ?_) (fun hb1 => ?_)
 ·refine d9 (b8 rfl ?_); refine v9 _ rfl rfl (fun _ => aq7 ..) (jR rfl ⟨_, underlying124, rfl⟩ rfl ?_); refine c7 rfl (d8 (k5 (G6 ?_))); exact ret1 () rfl (by show some _ = some (adI g x); unfold adI; rw [if_pos hb1]) rfl tK nK tK
 refine d9 (G2 rfl rfl rfl (c7 rfl (d8 ?_))); refine m6 rfl (fun hb2 => ?_) (fun hb2 => ?_)
 ·refine d9 (b8 rfl ?_); refine a9 ⟨_, 2, none⟩ rfl rfl z9 rfl (c8 rfl b9 rfl (m3 mB rfl) (v9 _ rfl rfl (fun _ => zO ..) (jR rfl ⟨_, underlying126, rfl⟩ rfl ?_))); refine c7 rfl (d8 (k5 (G6 ?_))); exact ret1 () rfl (by show some _ = some (adI g x); unfold adI; rw [if_neg hb1, if_pos hb2]) rfl tK nK tK
 refine j6 (w9 (i8 (d9 (b8 rfl ?_)))); refine a9 ⟨_, 2, none⟩ rfl rfl z9 rfl (c8 rfl b9 rfl (m3 mB rfl) (v9 _ rfl rfl (fun _ => zN ..) (jR rfl ⟨_, underlying127, rfl⟩ rfl ?_))); refine c7 rfl (d8 (k5 ?_)); exact ret1 () rfl (by show some _ = some (adI g x); unfold adI; rw [if_neg hb1, if_neg hb2]) rfl tK nK tK
theorem vF (g : Nat) (c : Ch) : Meets prog R6 [.agg #[.pointer (d6 g)]] { LI := [tarL g c], val := fun _ : Unit => int c.1 } := by
 refine j3 wJ rfl t8 fun w0 => d9 (J5 rfl rfl fun gB => ?_); refine c7 rfl (k6 ?_); refine a9 ⟨_, 0, none⟩ rfl rfl aq0 rfl (c8 rfl U3 rfl (m3 mB rfl) (r9 rfl rfl (aW 0 0 rfl underlying122 m9 rfl rfl rfl (by decide) rfl (c8 (v := int c.1) rfl b9 rfl (k9 (A := some ⟨g, 0, none⟩) (j := 0) mB rfl) ?_)))); refine c7 rfl (d8 (k5 ?_)); exact ret1 () rfl (by show some _ = some (int c.1); rfl) rfl tK nK tK
theorem wS (g : Nat) (c : Ch) (l : Int) (hc : ChOK c) (hl : 1 ≤ l ∧ l ≤ 6) : Meets prog U2 [.agg #[.pointer (d6 g), int l]] { LI := [tarL g c], val := fun _ : Unit => int (c.2.1 + (l - 1) * c.2.2.1) } := by
 have hcl := hc.2.2.1; have hcb := hc.2.1; have hm := nz5 (a := l - 1) (A := 5) ⟨by omega, by omega⟩ hcl; refine j3 yL rfl t8 fun w0 => d9 (J5 rfl rfl fun gB => ?_); refine c7 rfl (d8 (i7 ?_)); refine J0 14 mixed (by decide) (by decide) rfl rfl (k7 (fun w1 => a9 ⟨_, 0, none⟩ rfl rfl pQ rfl (q_z rfl)) (k7 (fun w1 => c8 rfl U3 rfl (l4 mB rfl) (q_z rfl)) (k7 (fun w1 => r9 rfl rfl (q_z rfl)) (k7 (fun w1 => aW 1 1 rfl underlying122 m9 rfl rfl rfl (by decide) rfl (q_z rfl)) (k7 (fun w1 => c8 (v := int c.2.1) rfl b9 rfl (k9 (A := some ⟨g, 0, none⟩) (j := 1) mB rfl) (q_z rfl)) (k7 (fun w1 => a9 ⟨_, 1, none⟩ rfl rfl pP rfl (q_z rfl)) (k7 (fun w1 => c8 rfl b9 rfl (l4 mB rfl) (q_z rfl)) (k7 (fun w1 => W9 _ rfl rfl rfl rfl r6 (q_z rfl)) (k7 (fun w1 => a9 ⟨_, 0, none⟩ rfl rfl pQ rfl (q_z rfl)) (k7 (fun w1 => c8 rfl U3 rfl (l4 mB rfl) (q_z rfl)) (k7 (fun w1 => r9 rfl rfl (q_z rfl)) ?_))))))))))); refine k7 (fun w1 => aW 2 2 rfl underlying122 m9 rfl rfl rfl (by decide) rfl (q_z rfl)) (k7 (fun w1 => c8 (v := int c.2.2.1) rfl b9 rfl (k9 (A := some ⟨g, 0, none⟩) (j := 2) mB rfl) (q_z rfl)) (k7 (fun w1 => cx2 _ rfl rfl rfl rfl r6 (q_z rfl)) ?_)); refine E1 ⟨rfl, ?_⟩; refine v8 _ rfl rfl rfl rfl r6 ?_; refine c7 rfl (d8 (k5 ?_)); exact ret1 () rfl (by show some _ = some (int (c.2.1 + (l - 1) * c.2.2.1)); rfl) rfl tK nK tK
theorem wR (g : Nat) (c : Ch) (l : Int) (hc : ChOK c) (hl : 1 ≤ l ∧ l ≤ 6) : Meets prog U1 [.agg #[.pointer (d6 g), int l]] { LI := [tarL g c], val := fun _ : Unit => int (l * c.2.2.2.1) } := by
 have hm := nz5 (a := l) (A := 6) ⟨by omega, by omega⟩ hc.2.2.2.1; refine j3 yK rfl t8 fun w0 => d9 (J5 rfl rfl fun gB => ?_); refine c7 rfl (d8 (i7 ?_)); refine J0 7 mixed (by decide) (by decide) rfl rfl (k7 (fun w1 => a9 ⟨_, 1, none⟩ rfl rfl pO rfl (q_z rfl)) (k7 (fun w1 => c8 rfl b9 rfl (l4 mB rfl) (q_z rfl)) (k7 (fun w1 => a9 ⟨_, 0, none⟩ rfl rfl cj2 rfl (q_z rfl)) (k7 (fun w1 => c8 rfl U3 rfl (l4 mB rfl) (q_z rfl)) (k7 (fun w1 => r9 rfl rfl (q_z rfl)) (k7 (fun w1 => aW 3 3 rfl underlying122 m9 rfl rfl rfl (by decide) rfl (q_z rfl)) (k7 (fun w1 => c8 (v := int c.2.2.2.1) rfl b9 rfl (k9 (A := some ⟨g, 0, none⟩) (j := 3) mB rfl) (q_z rfl)) ?_))))))); refine E1 ⟨rfl, ?_⟩; refine cx2 _ rfl rfl rfl rfl r6 ?_; refine c7 rfl (d8 (k5 ?_)); exact ret1 () rfl (by show some _ = some (int (l * c.2.2.2.1)); rfl) rfl tK nK tK
end Go.Proofs.YtcdopfjiadifhaaGreatDoor
end
section
namespace Go.W
open Go Go.RowKit
section
variable {κ : Type} [DecidableEq κ] {enc : κ → Value} {kt e : TypeId}
structure SetM (l : List (Ment κ)) (clk : Nat) (S : κ → Prop) : Prop where
  bs : (l.map (·.2.2)).Pairwise (· < ·)
  lt : ∀ p ∈ l, p.2.2 < clk
  nd : (l.map (·.1)).Nodup
  al : ∀ k, k ∈ l.map (·.1) ↔ S k
omit [DecidableEq κ] in
theorem SetM.nil (clk : Nat) : SetM ([] : List (Ment κ)) clk (fun _ => False) := ⟨.nil, by simp, by simp, by simp⟩
omit [DecidableEq κ] in
theorem SetM.congr {l : List (Ment κ)} {clk : Nat} {S S' : κ → Prop} (h : SetM l clk S) (e : ∀ k, S k ↔ S' k) : SetM l clk S' := ⟨h.bs, h.lt, h.nd, fun k => (h.al k).trans (e k)⟩
theorem SetM.put {l : List (Ment κ)} {clk : Nat} {S : κ → Prop} (h : SetM l clk S) (k : κ) (v : Value) : SetM (putM l k v clk) (clkM l k clk) (fun x => S x ∨ x = k) := by
  have hk := gx7 l k v clk; have hb := ax8 l k v clk; have hc := tj6 l k clk
  by_cases hm : k ∈ l.map (·.1)
  · rw [if_pos hm] at hk hb hc
    refine ⟨by rw [hb]; exact h.bs, fun p hp => ?_, by rw [hk]; exact h.nd, fun x => ?_⟩
    · have : p.2.2 ∈ (putM l k v clk).map (·.2.2) := List.mem_map.2 ⟨p, hp, rfl⟩
      rw [hb] at this; obtain ⟨q, hq, e⟩ := List.mem_map.1 this; rw [hc, ← e]; exact h.lt q hq
    rw [hk, h.al]; exact ⟨.inl, fun hx => hx.elim id fun e => by subst e; exact (h.al x).1 hm⟩
  rw [if_neg hm] at hk hb hc; refine ⟨?_, fun p hp => ?_, ?_, fun x => ?_⟩
  · rw [hb, List.pairwise_append]
    refine ⟨h.bs, List.pairwise_singleton _ _, fun a ha b hb' => ?_⟩; obtain ⟨q, hq, rfl⟩ := List.mem_map.1 ha; rw [List.mem_singleton] at hb'; subst hb'; exact h.lt q hq
  · have : p.2.2 ∈ (putM l k v clk).map (·.2.2) := List.mem_map.2 ⟨p, hp, rfl⟩
    rw [hb] at this; rw [hc]
    rcases List.mem_append.1 this with h1 | h1
    · obtain ⟨q, hq, e⟩ := List.mem_map.1 h1
      have := h.lt q hq
      omega
    rw [List.mem_singleton] at h1; omega
  · rw [hk, List.nodup_append]
    refine ⟨h.nd, by simp, fun a ha b hb' => ?_⟩; rw [List.mem_singleton] at hb'; subst hb'; exact fun e => hm (e ▸ ha)
  rw [hk, List.mem_append, List.mem_singleton, h.al]
theorem SetM.count {l vis : List (Ment κ)} {clk : Nat} {S : κ → Prop} (h : SetM l clk S) (hv : Vis l vis) (ha : ∀ p ∈ l, p.2.2 ∈ vis.map (·.2.2)) {K : List κ} (hK : K.Nodup) (hS : ∀ k, S k ↔ k ∈ K) : vis.length = K.length := by
  have h1 : vis.length = l.length := by
    refine Nat.le_antisymm hv.len ?_; have hb : (l.map (·.2.2)).Nodup := h.bs.imp (fun h => Nat.ne_of_lt h); have := iR hb (K := vis.map (·.2.2)) (fun x hx => by obtain ⟨p, hp, rfl⟩ := List.mem_map.1 hx; exact ha p hp)
    simpa using this
  have h2 := iR h.nd (K := K) (fun x hx => (hS x).1 ((h.al x).1 hx)); have h3 := iR hK (K := l.map (·.1)) (fun x hx => (h.al x).2 ((hS x).2 hx))
  simp at h2 h3
  omega
variable {c : Cx} {Q : Exit → Act → World → Prop} {fr : Fr} {hp : Hp} {L : List Fact} {ops : Array Oper} {rest : List Oper}
variable {d : Tmp} {ty : TypeId} {pos : String} {af : Array Edge}
omit [DecidableEq κ] in
theorem vz6 {t : TypeId} {x : Operand} {g : Nat} {l : List (Ment κ)} {clk : Nat} {hp' : Hp} (ht : c.P.underlying t = some (.map kt e)) (hx : ev fr x = some (.map (some g))) (hpp : hp.Perm ((g, mapO enc l clk) :: hp'))
    (k : HL c ops Q rest fr ((g, mapO enc ([] : List (Ment κ)) clk) :: hp') L) : HL c ops Q (⟨none, .call ⟨.builtin .clear, #[x], #[t]⟩, ty, pos, af, none⟩ :: rest) fr hp L :=
  hl_eff rfl rfl fun a w ha hw => by
    have hw' := hw.perm hpp; have hg := hw'.own (g, mapO enc l clk) (by simp); have hg' : w.heap[g]? = some (.map (l.map (entOf enc)).toArray clk) := hg; refine ⟨.tuple #[], { w with heap := w.heap.setIfInBounds g (mapO enc ([] : List (Ment κ)) clk) }, _, L, ?_, hw'.write (o' := mapO enc ([] : List (Ment κ)) clk) ⟨rfl, rfl, rfl, by simp, fun j hj hn => by simp only [List.mem_singleton] at hn; simp [Array.getElem?_setIfInBounds_ne (Ne.symm hn)], Nat.le_refl _⟩ ?_, k⟩
    · simp [execOp, resolve, invoke, builtin, Builtin.clear_, ha.ev hx, run_underlying ht, MapKept.run_getObj_map hg', MapKept.run_setObj_map _ hg', mapO]
    have := I4 hg; simp only at this
    simp [this]
end
end Go.W
end
section
namespace Go.Proofs.YtcdopfjiadifhaaGreatDoor
open Go Go.W Tryz T F
set_option maxRecDepth 20000
attribute [local irreducible] HL HC HQ HB Row Rows2 Blk Facts
abbrev saC (c : Ch) (ps : Sl Int) (qs : Sl Ad) : Array Value := #[int c.1, int c.2.1, int c.2.2.1, int c.2.2.2.1, int c.2.2.2.2.1, int c.2.2.2.2.2, .slice ps.a ps.l.length ps.c, .slice qs.a qs.l.length qs.c]
abbrev saV (c : Ch) (ps : Sl Int) (qs : Sl Ad) : Value := .agg (saC c ps qs)
abbrev saL (ps : Sl Int) (qs : Sl Ad) : List Fact := [Row ps.a (rows ps.l), Row qs.a (rows qs.l)]
structure SaOK (c : Ch) (ss : List Int) (xs : List Ad) : Prop where
  ch : ChOK c
  n1 : 1 ≤ ss.length
  n5 : ss.length ≤ 5
  st : ∀ s ∈ ss, 0 ≤ s ∧ s ≤ 9
  x8 : xs.length ≤ 8
  ad : ∀ x ∈ xs, (0 ≤ x.1 ∧ x.1 < (ss.length : Int)) ∧ (1 ≤ x.2.1 ∧ x.2.1 ≤ 3) ∧ (1 ≤ x.2.2 ∧ x.2.2 ≤ 6)
def hereB (ss : List Int) (xs : List Ad) (s : Int) (i : Nat) : Bool := xs.any (fun x => decide (x.1 = (i : Int))) && decide (ss.getD i default = s)
def offCnt (ss : List Int) (xs : List Ad) (s : Int) : Nat := ((List.range ss.length).filter (hereB ss xs s)).length
def offB (c : Ch) (ss : List Int) (xs : List Ad) (s : Int) : Bool := decide (c.2.2.2.2.2 ≤ (offCnt ss xs s : Int))
def discK (c : Ch) (ss : List Int) (xs : List Ad) (k : Nat) : List Int := ((List.range k).filter fun i : Nat => offB c ss xs (i : Int)).map fun i : Nat => (i : Int)
theorem vB (c : Ch) (ss : List Int) (xs : List Ad) (k : Nat) : discK c ss xs (k + 1) = if offB c ss xs (k : Int) = true then discK c ss xs k ++ [(k : Int)] else discK c ss xs k := by
  unfold discK; rw [List.range_succ, List.filter_append, List.map_append, List.filter_cons, List.filter_nil]
  by_cases e : offB c ss xs (k : Int) = true
  · rw [if_pos e, if_pos e]; rfl
  rw [if_neg e, if_neg e]; simp
theorem mz8 (c : Ch) (ss : List Int) (xs : List Ad) (k : Nat) : (discK c ss xs k).length ≤ k := by
  unfold discK; rw [List.length_map]; exact Nat.le_trans (List.length_filter_le _ _) (by simp)
def hereS (ss : List Int) (xs : List Ad) (s : Int) (k : Nat) (v : Int) : Prop := ∃ x ∈ xs.take k, x.1 = v ∧ ss.getD v.toNat default = s
theorem rz1 (ss : List Int) (xs : List Ad) (s v : Int) : False ↔ hereS ss xs s 0 v := by simp [hereS]
theorem uj7 {ss : List Int} {xs : List Ad} {s : Int} {k : Nat} (hk : k < xs.length) (h : ss.getD (xs.getD k default).1.toNat default = s) (v : Int) : (hereS ss xs s k v ∨ v = (xs.getD k default).1) ↔ hereS ss xs s (k + 1) v := by
  unfold hereS; rw [List.take_succ_eq_append_getElem hk]; have e : xs.getD k default = xs[k] := D7 hk; rw [e] at h ⊢; simp only [List.mem_append, List.mem_singleton]
  constructor
  · rintro (⟨x, hx, h1⟩ | rfl)
    · exact ⟨x, .inl hx, h1⟩
    exact ⟨xs[k], .inr rfl, rfl, h⟩
  rintro ⟨x, hx | rfl, h1, h2⟩
  · exact .inl ⟨x, hx, h1, h2⟩
  exact .inr h1.symm
theorem wx7 {ss : List Int} {xs : List Ad} {s : Int} {k : Nat} (hk : k < xs.length) (h : ¬ ss.getD (xs.getD k default).1.toNat default = s) (v : Int) : hereS ss xs s k v ↔ hereS ss xs s (k + 1) v := by
  unfold hereS; rw [List.take_succ_eq_append_getElem hk]; have e : xs.getD k default = xs[k] := D7 hk; rw [e] at h; simp only [List.mem_append, List.mem_singleton]
  constructor
  · rintro ⟨x, hx, h1⟩
    exact ⟨x, .inl hx, h1⟩
  rintro ⟨x, hx | rfl, h1, h2⟩
  · exact ⟨x, hx, h1, h2⟩
  rw [h1] at h; exact absurd h2 h
theorem mx8 {c : Ch} {ss : List Int} {xs : List Ad} (h : SaOK c ss xs) (s v : Int) : hereS ss xs s xs.length v ↔ v ∈ ((List.range ss.length).filter (hereB ss xs s)).map (fun i : Nat => (i : Int)) := by
  unfold hereS; rw [List.take_length]; simp only [List.mem_map, List.mem_filter, List.mem_range, hereB, Bool.and_eq_true, List.any_eq_true, decide_eq_true_eq]
  constructor
  · rintro ⟨x, hx, rfl, h2⟩
    have := (h.ad x hx).1; exact ⟨x.1.toNat, ⟨by omega, ⟨x, hx, by omega⟩, h2⟩, by omega⟩
  rintro ⟨i, ⟨_, ⟨x, hx, h1⟩, h2⟩, rfl⟩; exact ⟨x, hx, h1, by simpa using h2⟩
theorem qq1 {l : List Nat} (h : l.Nodup) : (l.map fun i : Nat => (i : Int)).Nodup := by
  rw [List.nodup_iff_pairwise_ne, List.pairwise_map]; exact h.imp fun hab e => hab (by omega)
theorem qx1 {ss : List Int} {v : Int} (h0 : 0 ≤ v) (h1 : v < (ss.length : Int)) : v.toNat < ss.length := by omega
theorem vq8 {c : Ch} {ss : List Int} {xs : List Ad} (h : SaOK c ss xs) {s : Int} {l : List (Ment Int)} {clk : Nat} (hM : SetM l clk (hereS ss xs s xs.length)) : l.length ≤ 5 := by
  have h1 := iR hM.nd (fun x hx => (mx8 h s x).1 ((hM.al x).1 hx)); rw [List.length_map, List.length_map] at h1; have h2 := List.length_filter_le (hereB ss xs s) (List.range ss.length); rw [List.length_range] at h2; have := h.n5
  omega
abbrev KI : KeyC prog H8 int := KeyC.int underlying3
theorem yQ (c : Ch) (ps : Sl Int) (qs : Sl Ad) (h : SaOK c ps.l qs.l) : Meets prog hJ [saV c ps qs] { LI := saL ps qs, inv := fun x : OutC => (discK c ps.l qs.l 10).length ≤ x.2, val := fun x => .slice x.1 (discK c ps.l qs.l 10).length x.2, LO := fun x => [Row x.1 (rows (discK c ps.l qs.l 10))] } := by
 have hx8 := h.x8; refine j3 zY rfl t8 fun w0 => d9 (J5 rfl rfl fun gB => ?_); refine c7 rfl (k6 (c7 rfl (k6 ?_))); refine rx0 int rfl fun gm => ?_; refine c7 rfl (d8 (i7 (d9 (b8 rfl (d8 (j8 ?_)))))); refine y8 (β := Nat × OutC × Hp × List (Ment Int) × Nat) ⟨fun x => x.1 ≤ 10 ∧ Grow H8 1 x.2.1.1 (discK c ps.l qs.l x.1).length x.2.1.2 (rows (discK c ps.l qs.l x.1)) x.2.2.1, fun x => [(1, .pointer (d6 gB)), (3, .slice x.2.1.1 (discK c ps.l qs.l x.1).length x.2.1.2), (4, .map (some gm)), (10, int x.1)], fun x => [(gm, mapO int x.2.2.2.1 x.2.2.2.2), (gB, .cells (saC c ps qs) r7 (0, 0))] ++ x.2.2.1, fun _ => saL ps qs⟩ (fun x => 10 - x.1) (0, (none, 0), [], [], 0) ⟨Nat.zero_le _, Grow.nil _ _⟩ mC (.refl _) mC fun x hx => ?_; obtain ⟨i, ⟨na, nc⟩, og, l0, clk0⟩ := x; obtain ⟨hi, hG⟩ := hx; simp only at hi hG; have hdl := mz8 c ps.l qs.l i; refine d9 (C4 rfl rfl rfl (d8 (i7 ?_))); refine m6 rfl (fun hb1 => ?_) (fun hb1 => ?_)
 ·have hi2 : i < 10 := by omega
  refine j6 (i8 (i7 (j8 (d9 (b8 rfl (c7 rfl (k6 ?_))))))); refine b8 rfl (vz6 (enc := int) (l := l0) (clk := clk0) dX rfl (.refl _) ?_); refine d8 (i7 (d9 ?_)); refine a9 ⟨_, 7, none⟩ rfl rfl m5 rfl (c8 rfl k4 rfl (m3 mB rfl) (l7 rfl u0 rfl ?_)); refine b8 rfl (d8 (j8 ?_)); refine y8 (β := Nat × List (Ment Int) × Nat) ⟨fun x => x.1 ≤ qs.l.length ∧ SetM x.2.1 x.2.2 (hereS ps.l qs.l (i : Int) x.1), fun x => [(1, .pointer (d6 gB)), (3, .slice (na, nc).1 (discK c ps.l qs.l i).length (na, nc).2), (4, .map (some gm)), (10, int i), (5, int i), (15, .slice qs.a qs.l.length qs.c), (16, int qs.l.length), (17, int x.1)], fun x => [(gm, mapO int x.2.1 x.2.2), (gB, .cells (saC c ps qs) r7 (0, 0))] ++ og, fun _ => saL ps qs⟩ (fun x => qs.l.length - x.1) (0, [], clk0) ⟨Nat.zero_le _, (SetM.nil clk0).congr fun v => rz1 _ _ _ v⟩ mC (.refl _) mC fun x hx => ?_; obtain ⟨k, l, clk⟩ := x; obtain ⟨hk, hM⟩ := hx; simp only at hk hM; refine d9 (C4 rfl rfl rfl (d8 (i7 ?_))); refine m6 rfl (fun hb2 => ?_) (fun hb2 => ?_)
  ·have hk2 : k < qs.l.length := by omega
   have hxk := (h.ad _ (A3 hk2)).1; have hsk := qx1 hxk.1 hxk.2; refine j6 (i8 (i7 (j8 (d9 ?_)))); refine r8 (α := Ad) _ _ rfl u0 d7 rfl rfl rfl mB rfl (by omega) (by decide) (I0 rfl i9 d7 rfl rfl (H5 mB (K2 (by omega))) (B3 rfl (fun _ => J2 _) fun gA => t6 rfl rfl gP d7 (by rfl) (by rfl) (k6 (a9 ⟨_, 6, none⟩ rfl rfl q9 rfl (c8 rfl k8 rfl (m3 mB rfl) (a9 ⟨_, 0, none⟩ rfl rfl I6 rfl (c8 rfl b9 rfl (m3 mB rfl) (r8 (α := Int) ps.l (qs.l.getD k default).1.toNat rfl l8 m9 rfl rfl (Int.toNat_of_nonneg hxk.1).symm mB rfl (by omega) (by decide) (c8 rfl b9 rfl (k9 mB (j9 (by omega) rfl)) ?_))))))))); refine b8 rfl (G2 rfl rfl rfl (d8 ?_)); refine m6 rfl (fun hb3 => ?_) (fun hb3 => ?_)
   ·refine j0 (b8 rfl ?_); refine a9 ⟨_, 0, none⟩ rfl rfl I6 rfl (c8 rfl b9 rfl (m3 mB rfl) (vz5 (k := (qs.l.getD k default).1) (v := .bool true) KI (.inl rfl) dX rfl rfl rfl (l := l) (clk := clk) (hp' := (gA, _) :: (gB, .cells (saC c ps qs) r7 (0, 0)) :: og) (.swap _ _ _) ?_)); refine j4 (w9 (i8 (j0 ?_))); refine v8 _ rfl rfl rfl rfl r6 ?_; refine b8 rfl (j4 ?_); exact again _ (k + 1, putM l (qs.l.getD k default).1 (.bool true) clk, clkM l (qs.l.getD k default).1 clk) ⟨by show k + 1 ≤ qs.l.length; omega, (hM.put _ _).congr fun v => uj7 hk2 hb3 v⟩ (C8 (by omega)) mC (.cons_cons _ (.cons _ (.refl _))) mC
   refine j6 (w9 (i8 (j0 ?_))); refine v8 _ rfl rfl rfl rfl r6 ?_; refine b8 rfl (j4 ?_); exact again _ (k + 1, l, clk) ⟨by show k + 1 ≤ qs.l.length; omega, hM.congr fun v => wx7 hk2 hb3 v⟩ (C8 (by omega)) mC (.cons _ (.refl _)) mC
  have hk2 : k = qs.l.length := by omega
  subst hk2; have hl5 := vq8 h hM; refine w8 (E4 (w6 (i8 (d9 (c7 rfl (d8 (dj7 ?_))))))); refine j0 (b8 rfl ?_); refine vz1 rfl dX rfl (sx6 m0) fun gi => ?_; refine d8 (j8 ?_); refine y8 (β := List (Ment Int)) ⟨fun vis => Vis l vis, fun vis => [(1, .pointer (d6 gB)), (3, .slice (na, nc).1 (discK c ps.l qs.l i).length (na, nc).2), (4, .map (some gm)), (10, int i), (5, int i), (34, .pointer (d6 gi)), (8, int vis.length)], fun vis => [(gi, iterM gm clk vis), (gm, mapO int l clk), (gB, .cells (saC c ps qs) r7 (0, 0))] ++ og, fun _ => saL ps qs⟩ (fun vis => l.length - vis.length) [] (Vis.nil _) mC (.refl _) mC fun vis hV => ?_; simp only at hV; refine d9 (r_nextM (enc := int) rfl rfl (sx6 m1) hM.lt p6 fun x hx0 hx1 => r_mext0 (enc := int) rfl rfl ?_); refine d8 (i7 ?_); refine D0 rfl (fun hb4 => ?_) (fun hb4 => ?_)
  ·obtain ⟨q, rfl⟩ := Option.isSome_iff_exists.1 hb4; obtain ⟨hq1, hq2⟩ := hx1 q rfl; have hlt := hV.lt hq1 hq2; refine j6 (i8 (j8 (j0 (b8 rfl ?_)))); refine v8 _ rfl rfl rfl rfl r6 ?_; refine c7 rfl (j4 (w9 ?_)); exact again _ (vis ++ [q]) (hV.snoc hq1 hq2) (by show l.length - (vis ++ [q]).length < l.length - vis.length; rw [List.length_append, List.length_singleton]; omega) ⟨rfl, rfl, rfl, rfl, rfl, rfl, by show some (int ((vis.length : Int) + 1)) = some (int ((vis ++ [q]).length : Int)); rw [List.length_append]; rfl, tK⟩ (.refl _) mC
  have hx : x = none := by cases x with | none => rfl | some q => simp at hb4
  subst hx
  have hcn : vis.length = offCnt ps.l qs.l (i : Int) := by
    rw [hM.count hV (hx0 rfl) (qq1 (List.nodup_range.filter _)) (mx8 h (i : Int)), List.length_map]; rfl
  refine w8 (E4 (w6 (i8 (d9 (b8 rfl ?_))))); refine a9 ⟨_, 0, none⟩ rfl rfl E9 rfl (a9 ⟨_, 5, none⟩ rfl rfl N2 rfl (c8 rfl b9 rfl (m3 mB rfl) ?_)); refine aX rfl rfl rfl (d8 ?_); refine m6 rfl (fun hb5 => ?_) (fun hb5 => ?_)
  ·have hof : offB c ps.l qs.l (i : Int) = true := by unfold offB; rw [← hcn]; exact decide_eq_true hb5
   refine j0 (b8 rfl (b8 rfl ?_)); refine p7 _ rfl rfl (fun _ => R8 ..) fun gS => E0 (rows [(i : Int)]) (List.prefix_refl _) ?_; refine M2 (hp' := [(gi, iterM gm clk (vis ++ [])), (gm, mapO int l clk), (gB, .cells (saC c ps qs) r7 (0, 0))]) ((discK c ps.l qs.l i).length + 1) (rows (discK c ps.l qs.l i ++ [(i : Int)])) mG rfl rfl rfl hG (Z2 fun q => by simp only [Option.toList_none, List.append_eq, List.cons_append, List.nil_append, List.countP_append, List.countP_cons, List.countP_nil]; omega) (Src.row (news := rows [(i : Int)]) (m := 1) m0 rfl (M1 _) (by decide)) rfl (C9 _ _).symm (by unfold maxLen; omega) (by omega) fun A' c' og' hG' => ?_; refine c7 rfl (j4 (w9 (i8 (j0 ?_)))); refine v8 _ rfl rfl rfl rfl r6 ?_; refine b8 rfl (j4 ?_); refine Z3 (hp' := (gi, iterM gm clk (vis ++ [])) :: (gm, mapO int l clk) :: (gB, .cells (saC c ps qs) r7 (0, 0)) :: og') (Z2 fun q => by simp only [List.append_eq, List.cons_append, List.nil_append, List.countP_append, List.countP_cons, List.countP_nil]; omega) ?_; exact again _ (i + 1, (A', c'), og', l, clk) ⟨by show i + 1 ≤ 10; omega, by show Grow H8 1 A' (discK c ps.l qs.l (i + 1)).length c' (rows (discK c ps.l qs.l (i + 1))) og'; rw [vB, if_pos hof, List.length_append]; exact hG'⟩ (C8 (by omega)) ⟨rfl, by show some (Value.slice A' ((discK c ps.l qs.l i).length + 1) c') = some (Value.slice A' (discK c ps.l qs.l (i + 1)).length c'); rw [vB, if_pos hof, List.length_append]; rfl, rfl, rfl, tK⟩ (.cons _ (.refl _)) mC
  have hof : ¬ offB c ps.l qs.l (i : Int) = true := by unfold offB; rw [← hcn, decide_eq_true_eq]; omega
  refine j6 (w9 (i8 (j0 ?_))); refine v8 _ rfl rfl rfl rfl r6 ?_; refine b8 rfl (j4 ?_); exact again _ (i + 1, (na, nc), og, l, clk) ⟨by show i + 1 ≤ 10; omega, by show Grow H8 1 na (discK c ps.l qs.l (i + 1)).length nc (rows (discK c ps.l qs.l (i + 1))) og; rw [vB, if_neg hof]; exact hG⟩ (C8 (by omega)) ⟨rfl, by show some (Value.slice na (discK c ps.l qs.l i).length nc) = some (Value.slice na (discK c ps.l qs.l (i + 1)).length nc); rw [vB, if_neg hof], rfl, rfl, tK⟩ (.cons _ (.refl _)) mC
 have hi2 : i = 10 := by omega
 subst hi2; refine w8 (E4 (w6 (i8 (d9 (b8 rfl (c7 rfl (d8 (k5 ?_)))))))); refine Z3 (hp' := og ++ [(gm, mapO int l0 clk0), (gB, .cells (saC c ps qs) r7 (0, 0))]) (Z2 fun q => by simp only [List.append_eq, List.cons_append, List.nil_append, List.countP_append, List.countP_cons, List.countP_nil]; omega) ?_; refine dj8 hG ?_; exact ret1 (na, nc) rfl rfl rfl hG.le nK mC
end Go.Proofs.YtcdopfjiadifhaaGreatDoor
end
section
namespace Go.W
open Go Go.RowKit
theorem madeR {α : Type} [El α] (a0 : α) {zc : Array Value} (hz : zc.toList = El.cells a0) (n : Nat) : madeCells zc (n * El.sz α) = (rows (List.replicate n a0)).toArray := by
  have hsz : zc.size = El.sz α := by rw [← El.len a0, ← hz, Array.length_toList]
  apply Array.ext
  · simp [madeCells, Z7]
  intro i h1 h2; have hi : i < n * El.sz α := by simpa [madeCells] using h1
  have hs0 : 0 < El.sz α := Nat.pos_of_ne_zero fun h => by rw [h] at hi; omega
  have hq : i / El.sz α < n := Nat.div_lt_of_lt_mul (by rw [Nat.mul_comm]; exact hi); have hm : i % El.sz α < El.sz α := Nat.mod_lt _ hs0; have e : i = i / El.sz α * El.sz α + i % El.sz α := by rw [Nat.mul_comm]; exact (Nat.div_add_mod _ _).symm
  have h3 := rows_get' (List.replicate n a0) (i / El.sz α) (i % El.sz α) (by simpa using hq) hm; rw [← e] at h3; have h4 : (List.replicate n a0).getD (i / El.sz α) default = a0 := by simp [List.getD_eq_getElem?_getD, hq]
  rw [h4, ← hz] at h3; have h5 : i < (rows (List.replicate n a0)).length := by rw [Z7, List.length_replicate]; exact hi
  rw [List.getElem?_eq_getElem h5, List.getElem?_eq_getElem (by rw [Array.length_toList, hsz]; exact hm)] at h3; have h6 := Option.some.inj h3; have h7 : (rows (List.replicate n a0)).toArray[i] = (rows (List.replicate n a0))[i] := by simp
  have hm' : i % zc.size < zc.size := by rw [hsz]; exact hm
  have h8 : (madeCells zc (n * El.sz α))[i] = zc[i % zc.size] := by
    simp only [madeCells, Array.getElem_map, Array.getElem_range]; exact getElem!_pos zc _ hm'
  rw [h7, h6, h8]
  simp [hsz]
theorem kj0 {α : Type} [El α] (a0 : α) {c : Cx} {Q : Exit → Act → World → Prop} {fr : Fr} {hp : Hp} {L : List Fact} {ops : Array Oper} {rest : List Oper} {d : Tmp} {ty : TypeId} {pos : String} {af : Array Edge}
    {t e : TypeId} {x y : Operand} {n bytes : Nat} {z : Value} {m : Int} (hd : Nat.blt d c.n = true) (ht : c.P.underlying t = some (.slice e)) (hi : (c.P.info? e).map (fun i => (i.zero, i.size, i.bytes)) = some (some z, El.sz α, bytes)) (hz : z.cells.toList = El.cells a0)
    (hx : ev fr x = some (int m)) (hy : ev fr y = some (int m)) (hm : m = (n : Int)) (hb : bytes * n ≤ 140737488355328) (hn : n ≤ 140737488355328)
    (k : ∀ g, HL c ops Q rest ((d, .slice (d6 g) n n) :: fr) ((g, .cells (rows (List.replicate n a0)).toArray e (0, 0)) :: hp) L) : HL c ops Q (⟨some d, .makeSlice t x y, ty, pos, af, none⟩ :: rest) fr hp L :=
  uH (.cells (rows (List.replicate n a0)).toArray e (0, 0)) (fun g => .slice (d6 g) n n) rfl rfl hd (fun a w ha _ => by
    subst hm; obtain ⟨i, h1, h2, h3, h4⟩ := info_parts hi
    have hb' : (i.bytes : Int) * (n : Int) ≤ 281474976710656 := by
      have h : ((i.bytes * n : Nat) : Int) ≤ 281474976710656 := by rw [h4]; omega
      rwa [Int.natCast_mul] at h
    have hr := run_make (P := c.P) w t e i z ht h1 h2 .i64 .i64 n n (by omega) (Int.le_refl _) hb' (by omega); simp only [Int.toNat_natCast, h3, madeR a0 hz] at hr
    simp only [execOp, ha.ev hx, ha.ev hy, Sem.run_bind, hr, Result.andThen_ok, Sem.run_pure]) k
theorem sK {α : Type} [El α] (a : α) {c : Cx} {Q : Exit → Act → World → Prop} {fr : Fr} {hp : Hp} {L : List Fact} {ops : Array Oper} {rest : List Oper} {ty : TypeId} {pos : String} {af : Array Edge}
    {t e : TypeId} {x y : Operand} {g q k f : Nat} {l : List α} {v : Value} {hp' : Hp} (hx : ev fr x = some (.pointer (some ⟨g, q, none⟩))) (hq : q = k * El.sz α + f) (hy : ev fr y = some v) (hpp : hp.Perm ((g, .cells (rows l).toArray e (0, 0)) :: hp'))
    (hz : Sz c.P t 1) (hk : k < l.length) (hf : f < El.sz α) (hc : El.cells a = (El.cells (l.getD k default)).set f v) (h1 : v.oneCell' = true)
    (kk : HL c ops Q rest fr ((g, .cells (rows (l.set k a)).toArray e (0, 0)) :: hp') L) : HL c ops Q (⟨none, .store t x y, ty, pos, af, none⟩ :: rest) fr hp L := by
  subst hq
  have hlt : k * El.sz α + f < (rows l).length := by
    rw [Z7]; have : (k + 1) * El.sz α ≤ l.length * El.sz α := Nat.mul_le_mul_right _ hk; rw [Nat.add_mul, Nat.one_mul] at this
    omega
  refine z8 (u := (rows l)[k * El.sz α + f]) hx hy hpp hz (by rw [List.getElem?_toArray, List.getElem?_eq_getElem hlt]) h1 ?_
  have e : (rows l).toArray.setIfInBounds (k * El.sz α + f) v = (rows (l.set k a)).toArray := by
    rw [← mq9 hf hk hc]
    simp
  rw [e]; exact kk
theorem nj2 {α : Type} [El α] {b : Bx} {hp : Hp} {L : List Fact} {g q k f : Nat} {l : List α} {t : TypeId} {fz : Nat × Nat} {v : Value} (h : Blk g (Obj.cells (rows l).toArray t fz) ∈ L) (hq : q = k * El.sz α + f) (hk : k < l.length) (hv : (El.cells (l.getD k default))[f]? = some v) : Cell b hp L ⟨g, q, none⟩ v := by
  subst hq; exact l4 h (by rw [List.getElem?_toArray]; exact rows_get hk hv)
end Go.W
end
section
namespace Go.Proofs.YtcdopfjiadifhaaGreatDoor
open Go Go.W Tryz T F
set_option maxRecDepth 20000
attribute [local irreducible] HL HC HQ HB Row Rows2 Blk Facts
theorem sE {A : Option Addr} {c : Nat} (l : List Int) (s : Int) (hl : l.length ≤ 1000000) : Meets prog bD [.slice A l.length c, int s] { LI := [Row A (rows l)], inv := fun z : Int => AtInv l s z, val := fun z => int z } := by
 refine j3 uQ rfl t8 fun w0 => ?_; refine d9 (c7 rfl (d8 (i7 (d9 (b8 rfl ?_))))); refine l7 rfl l8 rfl ?_; refine b8 rfl (d8 (j8 ?_)); refine y8 (β := Nat) ⟨fun k => k ≤ l.length ∧ s ∉ l.take k, fun k => [(0, .slice A l.length c), (1, int s), (7, int l.length), (8, int k)], fun _ => [], fun _ => [Row A (rows l)]⟩ (fun k => l.length - k) 0 ⟨Nat.zero_le _, by simp⟩ mC nK mC fun k hk => ?_; obtain ⟨hk, ht⟩ := hk; refine d9 (C4 rfl rfl rfl (d8 (i7 ?_))); refine m6 rfl (fun hb1 => ?_) (fun hb1 => ?_)
 ·have hk2 : k < l.length := by omega
  refine j6 (i8 (i7 (j8 (d9 (b8 rfl (c7 rfl (k6 ?_))))))); refine b8 rfl (b8 rfl (b8 rfl ?_)); refine r8 (α := Int) _ _ rfl l8 m9 rfl rfl rfl mB rfl (by omega) (by decide) (c8 rfl b9 rfl (k9 mB (j9 (by omega) rfl)) ?_); refine G2 rfl rfl rfl (d8 ?_); refine m6 rfl (fun hb2 => ?_) (fun hb2 => ?_)
  ·refine d9 (b8 rfl (c7 rfl (d8 (k5 (G6 (C5 (G6 ?_))))))); exact ret1 (k : Int) rfl rfl rfl (xx2 hk2 hb2.symm ht) nK tK
  refine j6 (w9 (i8 (j0 ?_))); refine v8 _ rfl rfl rfl rfl r6 ?_; refine b8 rfl (j4 ?_); exact again _ (k + 1) ⟨by omega, by rw [P8 l k hk2]; simp only [List.mem_append, List.mem_singleton, not_or]; exact ⟨ht, hb2⟩⟩ (C8 (by omega)) mC nK mC
 obtain rfl : k = l.length := by omega
 rw [List.take_length] at ht; refine w8 (E4 (w6 (i8 (d9 (c7 rfl (d8 (k5 ?_))))))); exact ret1 (-1) rfl rfl rfl (at_none ht) nK tK
theorem mK {A : Option Addr} {c : Nat} (l : List Int) (s : Int) (hl : l.length ≤ 1000000) : Meets prog Y6 [.slice A l.length c, int s] { LI := [Row A (rows l)], val := fun _ : Unit => .bool (decide (s ∈ l)) } := by
 refine j3 pI rfl t8 fun w0 => ?_; refine d9 (c7 rfl (k6 (b8 rfl (b8 rfl ?_)))); refine j5 tE rfl rfl (sE l s hl) p6 mC fun z hz => ?_; refine aX rfl rfl rfl (c7 rfl (d8 (k5 ?_))); exact ret1 () rfl (congrArg (fun b => some (Value.bool b)) (decide_eq_decide.2 hz.1)) rfl tK nK tK
abbrev Ac2 := Int × Option (Option Nat)
def ruleV2 : Option (Option Nat) → Value
  | none => .nilFunc
  | some r => ruleV r
instance : El Ac2 where
  default := (0, none)
  cells x := [int x.1, ruleV2 x.2]
  sz := 2
  len _ := rfl
  one a u h := by
    simp at h
    rcases h with h | h <;> subst h
    · rfl
    cases a.2 with
    | none => rfl
    | some r => cases r <;> rfl
def ruleN (c : Ch) (ss : List Int) (xs : List Ad) (g i : Nat) : Option Nat := if offB c ss xs (ss.getD i default) = true then some g else none
def sumK (c : Ch) (xs : List Ad) (k i : Nat) : Int := (((xs.take k).filter fun x => decide (x.1 = (i : Int))).map (priceN c)).sum
def acA (c : Ch) (ss : List Int) (xs : List Ad) (g k i : Nat) : Ac2 := (0, if i < k then some (ruleN c ss xs g i) else none)
def acS (c : Ch) (ss : List Int) (xs : List Ad) (g k i : Nat) : Ac2 := (sumK c xs k i, some (ruleN c ss xs g i))
def accs (c : Ch) (ss : List Int) (xs : List Ad) (g : Nat) : List Ac := (List.range ss.length).map fun i => (sumK c xs xs.length i, ruleN c ss xs g i)
theorem gx4 {α : Type} {n k : Nat} (f : Nat → α) (v : α) (hk : k < n) : ((List.range n).map f).set k v = (List.range n).map fun i => if i = k then v else f i := by
  apply List.ext_getElem?
  intro j
  by_cases hj : j < n
  · rw [List.getElem?_map, List.getElem?_range hj, List.getElem?_set]
    by_cases e : k = j
    · subst e; simp [hk]
    rw [if_neg e, List.getElem?_map, List.getElem?_range hj]
    simp [Ne.symm e]
  rw [List.getElem?_eq_none (by simp; omega), List.getElem?_eq_none (by simp; omega)]
theorem mN {α : Type} [Inhabited α] {n k : Nat} (f : Nat → α) (hk : k < n) : ((List.range n).map f).getD k default = f k := by
  rw [List.getD_eq_getElem?_getD, List.getElem?_map, List.getElem?_range hk]; rfl
theorem yV {α : Type} (n : Nat) (f : Nat → α) : ((List.range n).map f).length = n := by simp
theorem xz2 (c : Ch) (ss : List Int) (xs : List Ad) (g n : Nat) : List.replicate n ((0, none) : Ac2) = (List.range n).map (acA c ss xs g 0) := by
  apply List.ext_getElem?
  intro j
  by_cases hj : j < n
  · rw [List.getElem?_map, List.getElem?_range hj, List.getElem?_replicate, if_pos hj]; simp [acA]
  rw [List.getElem?_eq_none (by simp; omega), List.getElem?_eq_none (by simp; omega)]
theorem qz8 (c : Ch) (ss : List Int) (xs : List Ad) (g k : Nat) : (fun i => if i = k then ((0, some (ruleN c ss xs g k)) : Ac2) else acA c ss xs g k i) = acA c ss xs g (k + 1) := by
  funext i
  unfold acA
  by_cases e : i = k
  · subst e; simp
  rw [if_neg e]
  by_cases h : i < k
  · rw [if_pos h, if_pos (by omega)]
  rw [if_neg h, if_neg (by omega)]
theorem acA_at (c : Ch) (ss : List Int) (xs : List Ad) (g k : Nat) : acA c ss xs g k k = (0, none) := by simp [acA]
theorem xz3 {c : Ch} {ss : List Int} {xs : List Ad} {g : Nat} : (List.range ss.length).map (acA c ss xs g ss.length) = (List.range ss.length).map (acS c ss xs g 0) := by
  refine List.map_congr_left fun i hi => ?_; rw [List.mem_range] at hi
  simp [acA, acS, hi, sumK]
theorem mq0 (c : Ch) {xs : List Ad} {k : Nat} (hk : k < xs.length) (i : Nat) : sumK c xs (k + 1) i = if (xs.getD k default).1 = (i : Int) then sumK c xs k i + priceN c (xs.getD k default) else sumK c xs k i := by
  unfold sumK; rw [List.take_succ_eq_append_getElem hk, ← D7 hk, List.filter_append, List.map_append, List.sum_append]
  by_cases e : (xs.getD k default).1 = (i : Int)
  · rw [if_pos e, List.filter_cons, if_pos (decide_eq_true e)]; simp
  rw [if_neg e, List.filter_cons, if_neg (by simpa using e)]; simp
theorem xz0 (c : Ch) (ss : List Int) {xs : List Ad} (g : Nat) {k m : Nat} (hk : k < xs.length) (hm : (xs.getD k default).1 = (m : Int)) : (fun i => if i = m then ((sumK c xs k m + priceN c (xs.getD k default), some (ruleN c ss xs g m)) : Ac2) else acS c ss xs g k i) = acS c ss xs g (k + 1) := by
  funext i
  unfold acS; rw [mq0 c hk]
  by_cases e : i = m
  · subst e; rw [if_pos rfl, if_pos hm]
  rw [if_neg e, if_neg (by omega)]
theorem rq6 {α β γ : Type} [El α] [El β] {l : List γ} {f : γ → α} {g : γ → β} (h : ∀ x ∈ l, El.cells (f x) = El.cells (g x)) : rows (l.map f) = rows (l.map g) := by
  induction l with
  | nil => rfl
  | cons x l ih => rw [List.map_cons, List.map_cons, V0, V0, h x (by simp), ih fun y hy => h y (by simp [hy])]
theorem uz0 (c : Ch) (ss : List Int) (xs : List Ad) (g : Nat) : rows ((List.range ss.length).map (acS c ss xs g xs.length)) = rows (accs c ss xs g) := rq6 fun _ _ => rfl
theorem qj6 {c : Ch} {x : Ad} (hc : ChOK c) (hl : 1 ≤ x.2.2 ∧ x.2.2 ≤ 6) : 0 ≤ priceN c x ∧ priceN c x ≤ 6000 := by
  have h1 := hc.1; have h2 := hc.2.1; have m1 := nz5 (a := x.2.2 - 1) (A := 5) ⟨by omega, by omega⟩ hc.2.2.1; have m2 := nz5 (a := x.2.2) (A := 6) ⟨by omega, by omega⟩ hc.2.2.2.1; unfold priceN
  split
  · omega
  split <;> omega
theorem jz7 {c : Ch} {ss : List Int} {xs : List Ad} (h : SaOK c ss xs) (i : Nat) : ∀ k, k ≤ xs.length → 0 ≤ sumK c xs k i ∧ sumK c xs k i ≤ 6000 * (k : Int)
  | 0, _ => by simp [sumK]
  | k + 1, hk => by
    have ih := jz7 h i k (by omega); have hp := qj6 h.ch (h.ad _ (A3 (show k < xs.length by omega))).2.2; rw [mq0 c (by omega)]
    split <;> omega
theorem qz0 {c : Ch} {ss : List Int} {xs : List Ad} (h : SaOK c ss xs) {i : Nat} (hi : i < ss.length) : ss.getD i default ∈ discK c ss xs 10 ↔ offB c ss xs (ss.getD i default) = true := by
  have hs := h.st _ (A3 hi); generalize ss.getD i default = s at *; unfold discK; simp only [List.mem_map, List.mem_filter, List.mem_range]
  constructor
  · rintro ⟨j, ⟨_, h1⟩, rfl⟩; exact h1
  intro h1; exact ⟨s.toNat, ⟨by omega, by rwa [Int.toNat_of_nonneg hs.1]⟩, by omega⟩
theorem acA_yes {c : Ch} {ss : List Int} {xs : List Ad} {g k : Nat} (h : offB c ss xs (ss.getD k default) = true) : (fun i => if i = k then ((0, some (some g)) : Ac2) else if i = k then ((0, some none) : Ac2) else acA c ss xs g k i) = acA c ss xs g (k + 1) := by
  rw [← qz8]
  funext i
  by_cases e : i = k
  · rw [if_pos e, if_pos e, ruleN, if_pos h]
  rw [if_neg e, if_neg e, if_neg e]
theorem acA_no {c : Ch} {ss : List Int} {xs : List Ad} {g k : Nat} (h : ¬ offB c ss xs (ss.getD k default) = true) : (fun i => if i = k then ((0, some none) : Ac2) else acA c ss xs g k i) = acA c ss xs g (k + 1) := by
  rw [← qz8]
  funext i
  by_cases e : i = k
  · rw [if_pos e, if_pos e, ruleN, if_neg h]
  rw [if_neg e, if_neg e]
theorem jH {us rest : List Value} {cs : Array Value} (h : cs.toList = us ++ rest) : ∀ i u, us[i]? = some u → cs[0 + i]? = some u := fun i u hu => by
  rw [Nat.zero_add, ← Array.getElem?_toList, h, List.getElem?_append_left (List.getElem?_eq_some_iff.1 hu).1]; exact hu
theorem wj9 (v : Value) (w : World) : (method (prog.types.size + Made.depth) cJ v "wayzgoose/bold.price").run prog w = .ok (R6, v) w := p9
theorem mt_bold (v : Value) (w : World) : (method (prog.types.size + Made.depth) gE v "wayzgoose/bold.price").run prog w = .ok (U2, v) w := p9
theorem mt_card (v : Value) (w : World) : (method (prog.types.size + Made.depth) lG v "wayzgoose/bold.price").run prog w = .ok (U1, v) w := p9
theorem r_price {cx : Cx} {Q : Exit → Act → World → Prop} {fr : Fr} {hp : Hp} {L : List Fact} {ops : Array Oper} {rest : List Oper} {d : Tmp} {ty : TypeId} {pos : String} {af : Array Edge} {ats : Array TypeId}
    {x : Operand} {g : Nat} {a : Ad} {c : Ch} (hd : Nat.blt d cx.n = true) (hP : cx.P = prog) (hx : ev fr x = some (adI g a)) (hc : ChOK c) (hl : 1 ≤ a.2.2 ∧ a.2.2 ≤ 6) (hL : tarL g c ∈ L)
    (k : HL cx ops Q rest ((d, int (priceN c a)) :: fr) hp L) : HL cx ops Q (⟨some d, .call ⟨.invoke x "wayzgoose/bold.price", #[], ats⟩, ty, pos, af, none⟩ :: rest) fr hp L := by
  unfold adI at hx; unfold priceN at k
  split at hx
  · rename_i e
    rw [if_pos e] at k; have hm := vF g c; rw [← hP] at hm; exact lX (f := R6) (hpR := hp) (by rw [hP]; exact uX) hd hx (by rw [hP]; exact wj9 _) hm p6 ⟨hL, tK⟩ fun _ _ => k
  rename_i e
  rw [if_neg e] at k
  split at hx
  · rename_i e2
    rw [if_pos e2] at k; have hm := wS g c a.2.2 hc hl; rw [← hP] at hm; exact lX (f := U2) (hpR := hp) (by rw [hP]; exact wM) hd hx (by rw [hP]; exact mt_bold _) hm p6 ⟨hL, tK⟩ fun _ _ => k
  rename_i e2
  rw [if_neg e2] at k; have hm := wR g c a.2.2 hc hl; rw [← hP] at hm; exact lX (f := U1) (hpR := hp) (by rw [hP]; exact wL) hd hx (by rw [hP]; exact mt_card _) hm p6 ⟨hL, tK⟩ fun _ _ => k
theorem aj0 (c : Ch) (ps : Sl Int) (qs : Sl Ad) (h : SaOK c ps.l qs.l) : Meets prog jG [saV c ps qs] { LI := saL ps qs, inv := fun _ : Nat × Nat => True, val := fun x => .slice (some ⟨x.1, 0, none⟩) ps.l.length ps.l.length, LO := fun x => [Blk x.2 (.cells (saC c ps qs) r7 (0, 0)), Row (some ⟨x.1, 0, none⟩) (rows (accs c ps.l qs.l x.2))] } := by
 have hx8 := h.x8; have hn5 := h.n5; have hn1 := h.n1; have hd10 := mz8 c ps.l qs.l 10; refine j3 bq8 rfl t8 fun w0 => d9 (J5 rfl rfl fun gB => ?_); refine c7 rfl (k6 ?_); refine a9 ⟨_, 6, none⟩ rfl rfl q9 rfl (c8 rfl k8 rfl (m3 mB rfl) (l7 rfl l8 rfl (kj0 (α := Ac2) (n := ps.l.length) (bytes := 16) (z := .agg #[.int .i64 0, .nilFunc]) ((0, none) : Ac2) rfl underlying151 p9 rfl rfl rfl rfl (by omega) (by omega) fun go => ?_))); rw [xz2 c ps.l qs.l gB]; refine c7 rfl (k6 ?_); refine B8 rfl l6 j7 rfl mB (by rfl) ?_; refine j5 yH rfl rfl (yQ c ps qs h) p6 mC fun x hx => ?_; obtain ⟨da, dc⟩ := x
 simp only
 refine c7 rfl (d8 (i7 (d9 ?_))); refine a9 ⟨_, 6, none⟩ rfl rfl q9 rfl (c8 rfl k8 rfl (m3 mB rfl) (l7 rfl l8 rfl ?_)); refine b8 rfl (d8 (j8 ?_)); refine y8 (β := Nat) ⟨fun k => k ≤ ps.l.length, fun k => [(1, .pointer (d6 gB)), (3, .slice (d6 go) ps.l.length ps.l.length), (4, .slice da (discK c ps.l qs.l 10).length dc), (17, .slice ps.a ps.l.length ps.c), (18, int ps.l.length), (19, int k)], fun k => [(go, Obj.cells (rows ((List.range ps.l.length).map (acA c ps.l qs.l gB k))).toArray L7 (0, 0)), (gB, Obj.cells (saC c ps qs) r7 (0, 0))], fun _ => Row da (rows (discK c ps.l qs.l 10)) :: saL ps qs⟩ (fun k => ps.l.length - k) 0 (Nat.zero_le _) mC (.refl _) mC fun k hk => ?_; simp only at hk; refine d9 (C4 rfl rfl rfl (d8 (i7 ?_))); refine m6 rfl (fun hb1 => ?_) (fun hb1 => ?_)
 ·have hk2 : k < ps.l.length := by omega
  refine j6 (i8 (i7 (j8 (d9 (b8 rfl ?_))))); refine r8 (α := Int) _ _ rfl l8 m9 rfl rfl rfl mB rfl (by omega) (by decide) (c8 rfl b9 rfl (k9 mB (j9 (by omega) rfl)) ?_); refine c7 rfl (c7 rfl (k6 (b8 rfl (b8 rfl ?_)))); refine B9 k (k * 2) rfl Q9 B6 rfl rfl rfl hk2 (by omega) (a9 ⟨go, k * 2 + 1, none⟩ rfl rfl aT (bI ..) ?_); refine sK (α := Ac2) (k := k) (f := 1) ((0, some none) : Ac2) rfl rfl rfl (.refl _) mF (by rw [yV]; exact hk2) (by decide) (by rw [mN _ hk2, acA_at]; rfl) rfl ?_; rw [gx4 _ _ hk2]; refine k6 (b8 rfl (b8 rfl ?_)); refine j5 nF rfl rfl (mK (discK c ps.l qs.l 10) (ps.l.getD k default) (by omega)) p6 mC fun _ _ => d8 ?_; refine m6 rfl (fun hb2 => ?_) (fun hb2 => ?_)
  ·have hof := (qz0 h hk2).1 hb2; refine j0 (b8 rfl (b8 rfl (mP rfl rfl rfl ?_))); refine B9 k (k * 2) rfl Q9 B6 rfl rfl rfl hk2 (by omega) (a9 ⟨go, k * 2 + 1, none⟩ rfl rfl aT (bI ..) ?_); refine sK (α := Ac2) (k := k) (f := 1) ((0, some (some gB)) : Ac2) rfl rfl rfl (.refl _) mF (by rw [yV]; exact hk2) (by decide) (by rw [mN _ hk2, if_pos rfl]; rfl) rfl ?_; rw [gx4 _ _ hk2, acA_yes hof]; refine j4 (w9 (i8 (j0 ?_))); refine v8 _ rfl rfl rfl rfl r6 ?_; refine b8 rfl (j4 ?_); exact again _ (k + 1) (by show k + 1 ≤ ps.l.length; omega) (C8 (by omega)) mC (.refl _) mC
  have hof := mt (qz0 h hk2).2 hb2; rw [acA_no hof]; refine j6 (w9 (i8 (j0 ?_))); refine v8 _ rfl rfl rfl rfl r6 ?_; refine b8 rfl (j4 ?_); exact again _ (k + 1) (by show k + 1 ≤ ps.l.length; omega) (C8 (by omega)) mC (.refl _) mC
 obtain rfl : k = ps.l.length := by omega
 refine pZ (hp' := [(go, Obj.cells (rows ((List.range ps.l.length).map (acS c ps.l qs.l gB 0))).toArray L7 (0, 0)), (gB, Obj.cells (saC c ps qs) r7 (0, 0))]) (by show List.Perm [(go, Obj.cells (rows ((List.range ps.l.length).map (acA c ps.l qs.l gB ps.l.length))).toArray L7 (0, 0)), (gB, Obj.cells (saC c ps qs) r7 (0, 0))] _; rw [xz3]) ?_; refine w8 (E4 (w6 (i8 (d9 ?_)))); refine a9 ⟨_, 0, none⟩ rfl rfl E9 rfl (I0 (cs := [int c.1, int c.2.1, int c.2.2.1, int c.2.2.2.1, int c.2.2.2.2.1, int c.2.2.2.2.2]) rfl C2 u3 rfl rfl (dV (o := 0) mB (jH rfl)) (j5 aj7 rfl rfl (aj8 c) p6 tK fun tg _ => ?_)); refine c7 rfl (d8 (i7 (d9 ?_))); refine a9 ⟨_, 7, none⟩ rfl rfl m5 rfl (c8 rfl k4 rfl (m3 mB rfl) (l7 rfl u0 rfl ?_)); refine b8 rfl (d8 (j8 ?_)); refine y8 (β := Nat) ⟨fun k => k ≤ qs.l.length, fun k => [(1, .pointer (d6 gB)), (3, .slice (d6 go) ps.l.length ps.l.length), (4, .slice da (discK c ps.l qs.l 10).length dc), (7, .pointer (d6 tg)), (41, .slice qs.a qs.l.length qs.c), (42, int qs.l.length), (43, int k)], fun k => [(go, Obj.cells (rows ((List.range ps.l.length).map (acS c ps.l qs.l gB k))).toArray L7 (0, 0)), (gB, Obj.cells (saC c ps qs) r7 (0, 0))], fun _ => tarL tg c :: saL ps qs⟩ (fun k => qs.l.length - k) 0 (Nat.zero_le _) mC (.refl _) mC fun k hk => ?_; simp only at hk; refine d9 (C4 rfl rfl rfl (d8 (i7 ?_))); refine m6 rfl (fun hb3 => ?_) (fun hb3 => ?_)
 ·have hk3 : k < qs.l.length := by omega
  have hxk := h.ad _ (A3 hk3); obtain ⟨m, hxm⟩ := Int.eq_ofNat_of_zero_le hxk.1.1; have hm2 : m < ps.l.length := by omega
  have hsb := jz7 h m k (by omega); have hpb := qj6 h.ch hxk.2.2; refine j6 (i8 (i7 (j8 (d9 ?_)))); refine r8 (α := Ad) _ _ rfl u0 d7 rfl rfl rfl mB rfl (by omega) (by decide) (I0 rfl i9 d7 rfl rfl (H5 mB (K2 (by omega))) (B3 rfl (fun _ => J2 _) fun gA => t6 rfl rfl gP d7 (by rfl) (by rfl) (d8 (J0 10 mixed (by decide) (by decide) rfl rfl (u4 rfl (k7 (fun w1 => a9 ⟨_, 0, none⟩ rfl rfl I6 rfl (q_z rfl)) (k7 (fun w1 => c8 rfl b9 rfl (l4 mB rfl) (q_z rfl)) (k7 (fun w1 => B9 m (m * 2) rfl Q9 B6 rfl rfl hxm hm2 (by omega) (q_z rfl)) (k7 (fun w1 => a9 ⟨go, m * 2, none⟩ rfl rfl aU rfl (q_z rfl)) ?_))))))))); refine k7 (fun w1 => c8 (v := int (sumK c qs.l k m)) rfl b9 rfl (nj2 (α := Ac2) (k := m) (f := 0) (l := (List.range ps.l.length).map (acS c ps.l qs.l gB k)) (t := L7) (fz := (0, 0)) mC rfl (by rw [yV]; exact hm2) (by rw [mN _ hm2]; rfl)) (q_z rfl)) ?_; refine u4 rfl (k7 (fun w1 => R9 rfl i9 d7 rfl mB (by rfl) (q_z rfl)) ?_); refine k7 (fun w1 => j5 cP rfl rfl (cS tg (qs.l.getD k default)) p6 tK fun _ _ => (q_z rfl)) ?_; refine k7 (fun w1 => r_price (c := c) rfl rfl rfl h.ch hxk.2.2 mB (q_z rfl)) ?_; refine E1 ⟨rfl, ?_⟩; refine v8 _ rfl rfl rfl rfl r6 (B9 m (m * 2) rfl Q9 B6 rfl rfl hxm hm2 (by omega) (a9 ⟨go, m * 2, none⟩ rfl rfl aU rfl ?_)); refine sK (α := Ac2) (k := m) (f := 0) ((sumK c qs.l k m + priceN c (qs.l.getD k default), some (ruleN c ps.l qs.l gB m)) : Ac2) rfl rfl rfl (.swap _ _ _) m9 (by rw [yV]; exact hm2) (by decide) (by rw [mN _ hm2]; rfl) rfl ?_; rw [gx4 _ _ hm2, xz0 c ps.l gB hk3 hxm]; refine j4 (w9 (i8 (j0 ?_))); refine v8 _ rfl rfl rfl rfl r6 ?_; refine b8 rfl (j4 ?_); exact again _ (k + 1) (by show k + 1 ≤ qs.l.length; omega) (C8 (by omega)) mC (.cons_cons _ (.cons _ (.refl _))) mC
 obtain rfl : k = qs.l.length := by omega
 refine w8 (E4 (w6 (i8 (d9 (b8 rfl (c7 rfl (d8 (k5 ?_)))))))); refine Z3 (hp' := [(go, Obj.cells (rows (accs c ps.l qs.l gB)).toArray L7 (0, 0)), (gB, Obj.cells (saC c ps qs) r7 (0, 0))]) (by show List.Perm [(go, Obj.cells (rows ((List.range ps.l.length).map (acS c ps.l qs.l gB qs.l.length))).toArray L7 (0, 0)), (gB, Obj.cells (saC c ps qs) r7 (0, 0))] _; rw [uz0]) ?_; refine H6 (rows (accs c ps.l qs.l gB)) (List.prefix_refl _) (uj4 ?_); exact ret1 (go, gB) rfl rfl rfl tK nK mC
open Go.Conc
def sumN (c : Ch) (xs : List Ad) (i : Nat) : Int := sumK c xs xs.length i
def bilN (c : Ch) (ss : List Int) (xs : List Ad) (i : Nat) : Int := if offB c ss xs (ss.getD i default) = true then offN c.2.2.2.2.1 (sumN c xs i) else sumN c xs i
def numsN (how : Nat) (c : Ch) (ss : List Int) (xs : List Ad) : List Int := (List.range ss.length).map fun i => if how = 70 then bilN c ss xs i else sumN c xs i - bilN c ss xs i
theorem qz7 (c : Ch) (ss : List Int) (xs : List Ad) (g : Nat) : (accs c ss xs g).length = ss.length := by simp [accs]
theorem xz1 (how : Nat) (c : Ch) (ss : List Int) (xs : List Ad) (g : Nat) : acOut how c.2.2.2.2.1 (accs c ss xs g) = numsN how c ss xs := by
  unfold acOut numsN; rw [qz7]; refine List.map_congr_left fun i hi => ?_; rw [List.mem_range] at hi; unfold acN accs numN billN bilN sumN; rw [mN _ hi]
  by_cases e : offB c ss xs (ss.getD i default) = true
  · simp only [ruleN, if_pos e, Option.isSome_some, if_true]
  simp only [ruleN, if_neg e, Option.isSome_none, Bool.false_eq_true, if_false]
theorem wx1 : ∃ i, prog.info? 154 = some i ∧ i.bytes = 16 := by
  have h : (prog.info? 154).map (·.bytes) = some 16 := p9
  obtain ⟨i, hi, hb⟩ := Option.map_eq_some_iff.1 h; exact ⟨i, hi, hb⟩
theorem uj3 : ∃ i, prog.info? 4 = some i ∧ i.bytes = 1 := by
  have h : (prog.info? 4).map (·.bytes) = some 1 := p9
  obtain ⟨i, hi, hb⟩ := Option.map_eq_some_iff.1 h; exact ⟨i, hi, hb⟩
abbrev reckCon (how : Nat) (c : Ch) (ps : Sl Int) (qs : Sl Ad) : Con Nat := { LI := saL ps qs, inv := fun _ : Nat => True, val := fun g => .slice (d6 g) ps.l.length ps.l.length, hpO := fun g => [(g, .cells (rows (numsN how c ps.l qs.l)).toArray H8 (0, 0))] }
set_option maxHeartbeats 1000000 in
theorem gj7 (c : Ch) (ps : Sl Int) (qs : Sl Ad) (how : Nat) (hw : how = 70 ∨ how = 70) (h : SaOK c ps.l qs.l) : Meets prog nY [saV c ps qs, .func (.func how) #[] #[]] (reckCon how c ps qs) := by
  have hx8 := h.x8; have hn5 := h.n5; have hn1 := h.n1; refine j3 hz6 rfl t8 fun w0 => d9 (J5 rfl rfl fun gs => J5 rfl rfl fun g3 => ?_); refine c7 rfl (k6 ?_); refine a9 ⟨gs, 6, none⟩ rfl rfl q9 rfl (c8 (v := .slice ps.a ps.l.length ps.c) rfl k8 rfl (m3 mC rfl) (l7 rfl l8 rfl (nx8 (n := ps.l.length) (bytes := 8) (z := int 0) rfl l8 p9 rfl rfl rfl rfl (by omega) (by omega) fun go => B3 rfl (fun _ => rj8 _) fun g5 => z8 rfl rfl (.refl _) tT (by rfl) (by rfl) (k6 ?_)))); obtain ⟨i1, hi1, hby1⟩ := wx1; refine ax6 (n := 0) rfl underlying149 hi1 rfl (by omega) (by rw [hby1]; omega) fun gF => ?_; refine B3 rfl (fun _ => qQ _) fun g6 => z8 rfl rfl (.refl _) qN (by rfl) (by rfl) (k6 (c8 (v := .slice (d6 go) ps.l.length ps.l.length) rfl k8 rfl (m3 mC rfl) (l7 rfl l8 rfl ?_))); obtain ⟨i2, hi2, hby2⟩ := uj3; refine ax6 (n := ps.l.length) rfl underlying150 hi2 rfl (by omega) (by rw [hby2]; omega) fun gL => ?_; refine B3 rfl (fun _ => jj5 _) fun g7 => z8 rfl rfl (.refl _) jj0 (by rfl) (by rfl) (d8 (pZ (hp' := [(g7, Obj.cells #[.chan (some gL)] 150 (0, 0)), (gL, chanO ps.l.length [] 0 0), (g6, .cells #[.chan (some gF)] 149 (0, 0)), (gF, chanO 0 [] 0 0), (g5, .cells #[.slice (d6 go) ps.l.length ps.l.length] 24 (0, 0)), (go, .cells (List.replicate ps.l.length (int 0)).toArray 3 (0, 0)), (g3, .cells #[.func (.func how) #[] #[]] 138 (0, 0)), (gs, .cells (saC c ps qs) 27 (0, 0))]) (.refl _) ?_)); refine hc_sub (fr' := fr0 gs g3 g5 g6 g7) mC (.refl _) (by repeat constructor : LSub _ (saL ps qs)) ?_; refine hc_co fun a w ha hw1 b k cs Goal hk hc => ?_; refine L5 rfl (fun _ => stepG_seq) (L5 rfl (fun _ => stepG_seq) ?_)
  let Q4 : Exit → Act → World → Prop := fun e a w => e = .normal ∧ ∃ x : Nat × Nat, Ok ⟨prog, f69.ntmps, (reckCon how c ps qs).entry w0, [], none⟩ a ((22, int 0) :: (20, .slice (some ⟨x.1, 0, none⟩) ps.l.length ps.l.length) :: (21, int ps.l.length) :: fr0 gs g3 g5 g6 g7) ∧
    WI ((reckCon how c ps qs).entry w0) w [(g7, Obj.cells #[.chan (some gL)] 150 (0, 0)), (gL, chanO ps.l.length [] 0 0), (g6, .cells #[.chan (some gF)] 149 (0, 0)), (gF, chanO 0 [] 0 0), (g5, .cells #[.slice (d6 go) ps.l.length ps.l.length] 24 (0, 0)), (go, .cells (List.replicate ps.l.length (int 0)).toArray 3 (0, 0)), (g3, .cells #[.func (.func how) #[] #[]] 138 (0, 0)), (gs, .cells (saC c ps qs) 27 (0, 0))] (Blk x.2 (.cells (saC c ps qs) r7 (0, 0)) :: Row (some ⟨x.1, 0, none⟩) (rows (accs c ps.l qs.l x.2)) :: saL ps qs)
  refine co_hc (Q := Q4) (fr := fr0 gs g3 g5 g6 g7) ?_ ha hw1 hk fun e a' w' hq => ?_
  · refine j0 ?_
    refine B8 rfl l6 j7 rfl mC (by rfl) (j5 zZ rfl rfl (aj0 c ps qs h) p6 ⟨mC, mC, tK⟩ fun x _ => l7 rfl Q9 rfl ?_); refine b8 rfl (j4 ?_); exact hq_of fun a w ha hw => ⟨rfl, x, ha.sub mC, hw⟩
  obtain ⟨rfl, ⟨gA, gB⟩, hok, hwi⟩ := hq; have nd := hwi.nd; simp only [List.map_cons, List.map_nil, List.nodup_cons, List.mem_cons, List.not_mem_nil, or_false, not_or] at nd; obtain ⟨⟨n71, n72, n73, n74, n75, n76, n77⟩, ⟨nL2, nL3, nL4, nL5, nL6, nL7⟩, ⟨n63, n64, n65, n66, n67⟩, ⟨nF4, nF5, nF6, nF7⟩, ⟨n55, n56, n57⟩, ⟨no6, no7⟩, n37, _⟩ := nd; have o7 := hwi.own (g7, .cells #[.chan (some gL)] 150 (0, 0)) (by simp); have oL := hwi.own (gL, chanO ps.l.length [] 0 0) (by simp); have o6 := hwi.own (g6, .cells #[.chan (some gF)] 149 (0, 0)) (by simp); have oF := hwi.own (gF, chanO 0 [] 0 0) (by simp); have o5 := hwi.own (g5, .cells #[.slice (d6 go) ps.l.length ps.l.length] 24 (0, 0)) (by simp); have oo := hwi.own (go, .cells (List.replicate ps.l.length (int 0)).toArray 3 (0, 0)) (by simp); have o3 := hwi.own (g3, .cells #[.func (.func how) #[] #[]] 138 (0, 0)) (by simp); have fB := blk_P (hwi.fs (Blk gB (.cells (saC c ps qs) r7 (0, 0))) (by simp)); have fA := hwi.fs (Row (d6 gA) (rows (accs c ps.l qs.l gB))) (by simp); have hal := qz7 c ps.l qs.l gB
  have hne : rows (accs c ps.l qs.l gB) ≠ [] := fun e => by
    have := Z7 (accs c ps.l qs.l gB); rw [e, hal] at this; have h2 : El.sz Ac = 2 := rfl; rw [h2] at this
    simp at this
    omega
  have aB := blk_ne (g := gB) (o := .cells (saC c ps qs) r7 (0, 0)) hwi (by simp); have aA := row_ne (ad := ⟨gA, 0, none⟩) (us := rows (accs c ps.l qs.l gB)) hwi (by simp) hne
  have hM : Main0 w' gF gL go how g3 g5 g6 g7 ⟨gA, 0, none⟩ c.2.2.2.2.1 (accs c ps.l qs.l gB) :=
    ⟨⟨o3, ⟨fun e => nF6 e.symm, fun e => nL6 e.symm, fun e => no6 e.symm⟩, o6, ⟨n63, fun e => nL2 e.symm, n65⟩, o7, ⟨n73, n71, n75⟩⟩, hw, (by rw [hal]; exact o5), ⟨fun e => nF4 e.symm, fun e => nL4 e.symm, n55⟩, fA,
      ⟨fun e => aA (gF, chanO 0 [] 0 0) (by simp) e.symm, fun e => aA (gL, chanO ps.l.length [] 0 0) (by simp) e.symm, fun e => aA (go, .cells (List.replicate ps.l.length (int 0)).toArray 3 (0, 0)) (by simp) e.symm⟩,
      (by rw [hal]; omega), (by have := h.ch.2.2.2.2.1; omega), (fun x hx => by
        obtain ⟨i, hi, rfl⟩ := List.mem_map.1 hx; have hs := jz7 h i qs.l.length (Nat.le_refl _); refine ⟨by simp only; omega, ?_⟩; simp only [ruleN]
        split
        · exact ⟨fun e => aB (gF, chanO 0 [] 0 0) (by simp) e.symm, fun e => aB (gL, chanO ps.l.length [] 0 0) (by simp) e.symm, fun e => aB (go, .cells (List.replicate ps.l.length (int 0)).toArray 3 (0, 0)) (by simp) e.symm, _, _, _, fB, rfl⟩
        trivial)⟩
  refine phase (p := ph w' gF gL go (accs c ps.l qs.l gB).length (acV how c.2.2.2.2.1 (accs c ps.l qs.l gB))) (B := 2000) (hp := [(go, .cells (List.replicate ps.l.length (int 0)).toArray 3 (0, 0))]) ⟨fun e => nL3 e.symm, I4 oF, I4 oL, nF5, nL5⟩ oF (by show w'.heap[gL]? = some (.chan (accs c ps.l qs.l gB).length #[] false 0 0 false); rw [hal]; exact oL) ?_ (fun q hq => by simp at hq; subst hq; exact oo) (fun q hq => by simp at hq; subst hq; rfl); have hk' : b.kind ≠ .early := hk; have hrl : (List.range (accs c ps.l qs.l gB).length).length = (accs c ps.l qs.l gB).length := List.length_range; refine folM_of (c := ⟨prog, f69.ntmps, (reckCon how c ps qs).entry w0, [], none⟩) (fr := (22, int 0) :: (20, .slice (d6 gA) ps.l.length ps.l.length) :: (21, int ps.l.length) :: fr0 gs g3 g5 g6 g7) ?_ hok; refine rZ (nq8 ?_); refine gJ (m := (40 * (accs c ps.l qs.l gB).length + 20 + 40) + 10 + 40 * (accs c ps.l qs.l gB).length) (by omega) ?_; refine D8 (by rw [← hal]; repeat constructor) (spawns (b2 := gs) (cap := ps.l.length) rfl rfl hk hM _ ?_ (accs c ps.l qs.l gB).length 0 (by omega)); refine P3 (H4 ?_); refine ix0 rfl rfl hk' rfl rfl ?_; refine at_go (f := 82) (cap := [ptrB g5, ptrB g7, ptrB g6]) (h1 := []) (h2 := [(go, .cells (List.replicate ps.l.length (int 0)).toArray 3 (0, 0))]) rfl hk' rfl (by simp) (fun q hq => hq) (by rintro k ⟨q, hq, _⟩; cases hq) (by simp) (.inr ⟨rfl, fol_c (by omega) hM.hB hM.h5 hM.n5, ?_⟩); refine U6 (P3 (P3 (H4 ?_))); refine D9 (v := .chan (some gF)) rfl rfl hk' w7 rfl (I3 hM.hB.h6 hM.hB.n6.1 hM.hB.n6.2.1 hM.hB.n6.2.2 rfl) ?_; refine U6 (rZ (nq8 ?_)); refine gJ (m := 40 * (accs c ps.l qs.l gB).length + 20) (by omega) ?_; refine D8 mC (gets (b2 := gs) rfl rfl rfl hk hM (fun w he ho a ha => ?_) (accs c ps.l qs.l gB).length (List.range (accs c ps.l qs.l gB).length) _ hrl List.nodup_range (fun j hj => List.mem_range.1 hj) (by simp [hal]) (fun j hj hn => absurd (List.mem_range.2 hj) hn)); rw [xz1] at ho; refine co_hc (fr := fr0 gs g3 g5 g6 g7) ?_ ha (uz7 (p := ph w' gF gL go (accs c ps.l qs.l gB).length (acV how c.2.2.2.2.1 (accs c ps.l qs.l gB))) hwi (f := chanO 0 [] 0 0) (l := chanO ps.l.length [] 0 0) (o := .cells (List.replicate ps.l.length (int 0)).toArray 3 (0, 0)) (rest := [(g7, Obj.cells #[.chan (some gL)] 150 (0, 0)), (g6, .cells #[.chan (some gF)] 149 (0, 0)), (g5, .cells #[.slice (d6 go) ps.l.length ps.l.length] 24 (0, 0)), (g3, .cells #[.func (.func how) #[] #[]] 138 (0, 0)), (gs, .cells (saC c ps qs) 27 (0, 0))]) (Z2 fun q => by simp only [List.countP_cons, List.countP_nil]; omega) he ho) hk hc; refine d9 (c8 (v := .slice (d6 go) ps.l.length ps.l.length) rfl k8 rfl (m3 mC rfl) ?_); refine c7 rfl (d8 (k5 ?_)); exact ret1 go rfl rfl rfl tK (.cons_cons _ nK) tK
end Go.Proofs.YtcdopfjiadifhaaGreatDoor
end
