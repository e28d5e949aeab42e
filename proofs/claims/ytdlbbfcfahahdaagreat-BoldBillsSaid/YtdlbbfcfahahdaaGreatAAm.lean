/- Texts of this claim, one behind another. -/

import Derived.Test.YtdlbbfcfahahdaaGreatAAl
import Derived.Test.YtdlbbfcfahahdaaGreatAAh
import Derived.Test.YtdlbbfcfahahdaaGreatAAf
set_option linter.unusedVariables false
set_option linter.unusedSimpArgs false
section
namespace Go.W
open Go Go.RowKit
section
variable {κ : Type} [DecidableEq κ] {enc : κ → Value} {kt e : TypeId}
structure SetM (l : List (Ment κ)) (clk : Nat) (S : κ → Prop) : Prop where
  bs : (l.map (·.2.2)).Pairwise (· < ·)
  lt : ∀ p ∈ l, p.2.2 < clk
  nd : (l.map (·.1)).Nodup
  al : ∀ k, k ∈ l.map (·.1) ↔ S k
omit [DecidableEq κ] in
theorem SetM.nil (clk : Nat) : SetM ([] : List (Ment κ)) clk (fun _ => False) := ⟨.nil, by simp, by simp, by simp⟩
omit [DecidableEq κ] in
theorem SetM.congr {l : List (Ment κ)} {clk : Nat} {S S' : κ → Prop} (h : SetM l clk S) (e : ∀ k, S k ↔ S' k) : SetM l clk S' := ⟨h.bs, h.lt, h.nd, fun k => (h.al k).trans (e k)⟩
theorem SetM.put {l : List (Ment κ)} {clk : Nat} {S : κ → Prop} (h : SetM l clk S) (k : κ) (v : Value) : SetM (putM l k v clk) (clkM l k clk) (fun x => S x ∨ x = k) := by
  have hk := putM_keys l k v clk; have hb := putM_borns l k v clk; have hc := clkM_eq l k clk
  by_cases hm : k ∈ l.map (·.1)
  · rw [if_pos hm] at hk hb hc
    refine ⟨by rw [hb]; exact h.bs, fun p hp => ?_, by rw [hk]; exact h.nd, fun x => ?_⟩
    · have : p.2.2 ∈ (putM l k v clk).map (·.2.2) := List.mem_map.2 ⟨p, hp, rfl⟩
      rw [hb] at this; obtain ⟨q, hq, e⟩ := List.mem_map.1 this; rw [hc, ← e]; exact h.lt q hq
    · rw [hk, h.al]
      exact ⟨.inl, fun hx => hx.elim id fun e => by subst e; exact (h.al x).1 hm⟩
  · rw [if_neg hm] at hk hb hc
    refine ⟨?_, fun p hp => ?_, ?_, fun x => ?_⟩
    · rw [hb, List.pairwise_append]
      refine ⟨h.bs, List.pairwise_singleton _ _, fun a ha b hb' => ?_⟩; obtain ⟨q, hq, rfl⟩ := List.mem_map.1 ha; rw [List.mem_singleton] at hb'; subst hb'; exact h.lt q hq
    · have : p.2.2 ∈ (putM l k v clk).map (·.2.2) := List.mem_map.2 ⟨p, hp, rfl⟩
      rw [hb] at this; rw [hc]
      rcases List.mem_append.1 this with h1 | h1
      · obtain ⟨q, hq, e⟩ := List.mem_map.1 h1
        have := h.lt q hq
        omega
      · rw [List.mem_singleton] at h1; omega
    · rw [hk, List.nodup_append]
      refine ⟨h.nd, by simp, fun a ha b hb' => ?_⟩; rw [List.mem_singleton] at hb'; subst hb'; exact fun e => hm (e ▸ ha)
    · rw [hk, List.mem_append, List.mem_singleton, h.al]
theorem SetM.count {l vis : List (Ment κ)} {clk : Nat} {S : κ → Prop} (h : SetM l clk S) (hv : Vis l vis) (ha : ∀ p ∈ l, p.2.2 ∈ vis.map (·.2.2)) {K : List κ} (hK : K.Nodup) (hS : ∀ k, S k ↔ k ∈ K) : vis.length = K.length := by
  have h1 : vis.length = l.length := by
    refine Nat.le_antisymm hv.len ?_; have hb : (l.map (·.2.2)).Nodup := h.bs.imp (fun h => Nat.ne_of_lt h); have := nodup_len hb (K := vis.map (·.2.2)) (fun x hx => by obtain ⟨p, hp, rfl⟩ := List.mem_map.1 hx; exact ha p hp)
    simpa using this
  have h2 := nodup_len h.nd (K := K) (fun x hx => (hS x).1 ((h.al x).1 hx)); have h3 := nodup_len hK (K := l.map (·.1)) (fun x hx => (h.al x).2 ((hS x).2 hx))
  simp at h2 h3
  omega
variable {c : Cx} {Q : Exit → Act → World → Prop} {fr : Fr} {hp : Hp} {L : List Fact} {ops : Array Oper} {rest : List Oper}
variable {d : Tmp} {ty : TypeId} {pos : String} {af : Array Edge}
omit [DecidableEq κ] in
theorem r_clearM {t : TypeId} {x : Operand} {g : Nat} {l : List (Ment κ)} {clk : Nat} {hp' : Hp} (ht : c.P.underlying t = some (.map kt e)) (hx : ev fr x = some (.map (some g))) (hpp : hp.Perm ((g, mapO enc l clk) :: hp'))
    (k : HL c ops Q rest fr ((g, mapO enc ([] : List (Ment κ)) clk) :: hp') L) : HL c ops Q (⟨none, .call ⟨.builtin .clear, #[x], #[t]⟩, ty, pos, af, none⟩ :: rest) fr hp L :=
  hl_eff rfl rfl fun a w ha hw => by
    have hw' := hw.perm hpp; have hg := hw'.own (g, mapO enc l clk) (by simp); have hg' : w.heap[g]? = some (.map (l.map (entOf enc)).toArray clk) := hg; refine ⟨.tuple #[], { w with heap := w.heap.setIfInBounds g (mapO enc ([] : List (Ment κ)) clk) }, _, L, ?_, hw'.write (o' := mapO enc ([] : List (Ment κ)) clk) ⟨rfl, rfl, rfl, by simp, fun j hj hn => by simp only [List.mem_singleton] at hn; simp [Array.getElem?_setIfInBounds_ne (Ne.symm hn)], Nat.le_refl _⟩ ?_, k⟩
    · simp [execOp, resolve, invoke, builtin, Builtin.clear_, ha.ev hx, run_underlying ht, MapKept.run_getObj_map hg', MapKept.run_setObj_map _ hg', mapO]
    · have := lt_of_own hg
      simp only at this
      simp [this]
end
end Go.W
end
section
namespace Go.Proofs.YtdlbbfcfahahdaaGreat
open Go Go.W
set_option maxRecDepth 20000
attribute [local irreducible] HL HC HQ HB Row Rows2 Blk Facts
abbrev saC (c : Ch) (ps : Sl Int) (qs : Sl Ad) : Array Value := #[int c.1, int c.2.1, int c.2.2.1, int c.2.2.2.1, int c.2.2.2.2.1, int c.2.2.2.2.2, .slice ps.a ps.l.length ps.c, .slice qs.a qs.l.length qs.c]
abbrev saV (c : Ch) (ps : Sl Int) (qs : Sl Ad) : Value := .agg (saC c ps qs)
abbrev saL (ps : Sl Int) (qs : Sl Ad) : List Fact := [Row ps.a (rows ps.l), Row qs.a (rows qs.l)]
structure SaOK (c : Ch) (ss : List Int) (xs : List Ad) : Prop where
  ch : ChOK c
  n1 : 1 ≤ ss.length
  n5 : ss.length ≤ 5
  st : ∀ s ∈ ss, 0 ≤ s ∧ s ≤ 9
  x8 : xs.length ≤ 8
  ad : ∀ x ∈ xs, (0 ≤ x.1 ∧ x.1 < (ss.length : Int)) ∧ (1 ≤ x.2.1 ∧ x.2.1 ≤ 3) ∧ (1 ≤ x.2.2 ∧ x.2.2 ≤ 6)
def hereB (ss : List Int) (xs : List Ad) (s : Int) (i : Nat) : Bool := xs.any (fun x => decide (x.1 = (i : Int))) && decide (ss.getD i default = s)
def offCnt (ss : List Int) (xs : List Ad) (s : Int) : Nat := ((List.range ss.length).filter (hereB ss xs s)).length
def offB (c : Ch) (ss : List Int) (xs : List Ad) (s : Int) : Bool := decide (c.2.2.2.2.2 ≤ (offCnt ss xs s : Int))
def discK (c : Ch) (ss : List Int) (xs : List Ad) (k : Nat) : List Int := ((List.range k).filter fun i : Nat => offB c ss xs (i : Int)).map fun i : Nat => (i : Int)
theorem discK_succ (c : Ch) (ss : List Int) (xs : List Ad) (k : Nat) : discK c ss xs (k + 1) = if offB c ss xs (k : Int) = true then discK c ss xs k ++ [(k : Int)] else discK c ss xs k := by
  unfold discK; rw [List.range_succ, List.filter_append, List.map_append, List.filter_cons, List.filter_nil]
  by_cases e : offB c ss xs (k : Int) = true
  · rw [if_pos e, if_pos e]; rfl
  · rw [if_neg e, if_neg e]; simp
theorem discK_len (c : Ch) (ss : List Int) (xs : List Ad) (k : Nat) : (discK c ss xs k).length ≤ k := by
  unfold discK; rw [List.length_map]; exact Nat.le_trans (List.length_filter_le _ _) (by simp)
def hereS (ss : List Int) (xs : List Ad) (s : Int) (k : Nat) (v : Int) : Prop := ∃ x ∈ xs.take k, x.1 = v ∧ ss.getD v.toNat default = s
theorem hereS_zero (ss : List Int) (xs : List Ad) (s v : Int) : False ↔ hereS ss xs s 0 v := by simp [hereS]
theorem hereS_yes {ss : List Int} {xs : List Ad} {s : Int} {k : Nat} (hk : k < xs.length) (h : ss.getD (xs.getD k default).1.toNat default = s) (v : Int) : (hereS ss xs s k v ∨ v = (xs.getD k default).1) ↔ hereS ss xs s (k + 1) v := by
  unfold hereS; rw [List.take_succ_eq_append_getElem hk]; have e : xs.getD k default = xs[k] := getD_at hk; rw [e] at h ⊢; simp only [List.mem_append, List.mem_singleton]
  constructor
  · rintro (⟨x, hx, h1⟩ | rfl)
    · exact ⟨x, .inl hx, h1⟩
    · exact ⟨xs[k], .inr rfl, rfl, h⟩
  · rintro ⟨x, hx | rfl, h1, h2⟩
    · exact .inl ⟨x, hx, h1, h2⟩
    · exact .inr h1.symm
theorem hereS_no {ss : List Int} {xs : List Ad} {s : Int} {k : Nat} (hk : k < xs.length) (h : ¬ ss.getD (xs.getD k default).1.toNat default = s) (v : Int) : hereS ss xs s k v ↔ hereS ss xs s (k + 1) v := by
  unfold hereS; rw [List.take_succ_eq_append_getElem hk]; have e : xs.getD k default = xs[k] := getD_at hk; rw [e] at h; simp only [List.mem_append, List.mem_singleton]
  constructor
  · rintro ⟨x, hx, h1⟩
    exact ⟨x, .inl hx, h1⟩
  · rintro ⟨x, hx | rfl, h1, h2⟩
    · exact ⟨x, hx, h1, h2⟩
    · rw [h1] at h; exact absurd h2 h
theorem hereS_all {c : Ch} {ss : List Int} {xs : List Ad} (h : SaOK c ss xs) (s v : Int) : hereS ss xs s xs.length v ↔ v ∈ ((List.range ss.length).filter (hereB ss xs s)).map (fun i : Nat => (i : Int)) := by
  unfold hereS; rw [List.take_length]; simp only [List.mem_map, List.mem_filter, List.mem_range, hereB, Bool.and_eq_true, List.any_eq_true, decide_eq_true_eq]
  constructor
  · rintro ⟨x, hx, rfl, h2⟩
    have := (h.ad x hx).1; exact ⟨x.1.toNat, ⟨by omega, ⟨x, hx, by omega⟩, h2⟩, by omega⟩
  · rintro ⟨i, ⟨_, ⟨x, hx, h1⟩, h2⟩, rfl⟩
    exact ⟨x, hx, h1, by simpa using h2⟩
theorem nodup_ofNat {l : List Nat} (h : l.Nodup) : (l.map fun i : Nat => (i : Int)).Nodup := by
  rw [List.nodup_iff_pairwise_ne, List.pairwise_map]; exact h.imp fun hab e => hab (by omega)
theorem getD_street {ss : List Int} {v : Int} (h0 : 0 ≤ v) (h1 : v < (ss.length : Int)) : v.toNat < ss.length := by omega
theorem setm_len {c : Ch} {ss : List Int} {xs : List Ad} (h : SaOK c ss xs) {s : Int} {l : List (Ment Int)} {clk : Nat} (hM : SetM l clk (hereS ss xs s xs.length)) : l.length ≤ 5 := by
  have h1 := nodup_len hM.nd (fun x hx => (hereS_all h s x).1 ((hM.al x).1 hx)); rw [List.length_map, List.length_map] at h1; have h2 := List.length_filter_le (hereB ss xs s) (List.range ss.length); rw [List.length_range] at h2; have := h.n5
  omega
abbrev KI : KeyC Tryz.prog T.int int := KeyC.int Tryz.underlying3
theorem bold_discounts_meets (c : Ch) (ps : Sl Int) (qs : Sl Ad) (h : SaOK c ps.l qs.l) : Meets Tryz.prog F.bold_discounts [saV c ps qs] { LI := saL ps qs, inv := fun x : OutC => (discK c ps.l qs.l 10).length ≤ x.2, val := fun x => .slice x.1 (discK c ps.l qs.l 10).length x.2, LO := fun x => [Row x.1 (rows (discK c ps.l qs.l 10))] } := by
 have hx8 := h.x8; refine meets_intro F.bold_discounts_f rfl (Nat.le_of_ble_eq_true rfl) fun w0 => ?_; refine hc_seq (hc_region ?_); refine r_box rfl rfl fun gB => ?_; refine r_assign rfl rfl (hl_nil (then_n (hc_seq (hc_region (r_assign rfl rfl (hl_nil (then_n (hc_seq (hc_region ?_))))))))); refine r_makeMapM int rfl fun gm => ?_; refine r_assign rfl rfl (hl_nil (then_n (hc_seq (hc_seq (hc_region (r_move rfl rfl (hl_nil (then_n (hc_block ?_))))))))); refine hc_loop (β := Nat × OutC × Hp × List (Ment Int) × Nat) ⟨fun x => x.1 ≤ 10 ∧ Grow T.int 1 x.2.1.1 (discK c ps.l qs.l x.1).length x.2.1.2 (rows (discK c ps.l qs.l x.1)) x.2.2.1, fun x => [(1, .pointer (some ⟨gB, 0, none⟩)), (3, .slice x.2.1.1 (discK c ps.l qs.l x.1).length x.2.1.2), (4, .map (some gm)), (10, int x.1)], fun x => [(gm, mapO int x.2.2.2.1 x.2.2.2.2), (gB, .cells (saC c ps qs) T.api_Sales (0, 0))] ++ x.2.2.1, fun _ => saL ps qs⟩ (fun x => 10 - x.1) (0, (none, 0), [], [], 0) ⟨Nat.zero_le _, Grow.nil _ _⟩ ⟨rfl, rfl, rfl, rfl, trivial⟩ (.refl _) ⟨mB, mB, trivial⟩ fun x hx => ?_; obtain ⟨i, ⟨na, nc⟩, og, l0, clk0⟩ := x; obtain ⟨hi, hG⟩ := hx; simp only at hi hG; have hdl := discK_len c ps.l qs.l i; refine hc_seq (hc_region (r_lss rfl rfl rfl (hl_nil (then_n (hc_seq ?_))))); refine c_dec rfl (fun hb1 => ?_) (fun hb1 => ?_)
 ·have hb1' := hb1; try simp at hb1'
  have hi2 : i < 10 := by omega
  refine hc_skip (then_n (hc_seq (hc_block (hc_seq (hc_region (r_move rfl rfl (r_assign rfl rfl (hl_nil (then_n (hc_seq (hc_region ?_))))))))))); refine r_move rfl rfl ?_; refine r_clearM (enc := int) (l := l0) (clk := clk0) T.u_map_int_bool rfl (.refl _) ?_; refine hl_nil (then_n (hc_seq (hc_seq (hc_region ?_)))); refine r_fieldAddr ⟨_, 7, none⟩ rfl rfl T.fa_api_Sales_2 rfl ?_; refine r_load rfl T.cell_L_api_Advert rfl (cell_own mB rfl) ?_; refine r_len_sl rfl T.u_L_api_Advert rfl ?_; refine r_move rfl rfl (hl_nil (then_n (hc_block ?_))); refine hc_loop (β := Nat × List (Ment Int) × Nat) ⟨fun x => x.1 ≤ qs.l.length ∧ SetM x.2.1 x.2.2 (hereS ps.l qs.l (i : Int) x.1), fun x => [(1, .pointer (some ⟨gB, 0, none⟩)), (3, .slice (na, nc).1 (discK c ps.l qs.l i).length (na, nc).2), (4, .map (some gm)), (10, int i), (5, int i), (15, .slice qs.a qs.l.length qs.c), (16, int qs.l.length), (17, int x.1)], fun x => [(gm, mapO int x.2.1 x.2.2), (gB, .cells (saC c ps qs) T.api_Sales (0, 0))] ++ og, fun _ => saL ps qs⟩ (fun x => qs.l.length - x.1) (0, [], clk0) ⟨Nat.zero_le _, (SetM.nil clk0).congr fun v => hereS_zero _ _ _ v⟩ ⟨rfl, rfl, rfl, rfl, rfl, rfl, rfl, rfl, trivial⟩ (.refl _) ⟨mB, mB, trivial⟩ fun x hx => ?_; obtain ⟨k, l, clk⟩ := x; obtain ⟨hk, hM⟩ := hx; simp only at hk hM; refine hc_seq (hc_region (r_lss rfl rfl rfl (hl_nil (then_n (hc_seq ?_))))); refine c_dec rfl (fun hb2 => ?_) (fun hb2 => ?_)
  ·have hb2' := hb2; try simp at hb2'
   have hk2 : k < qs.l.length := by omega
   have hxk := (h.ad _ (getD_mem hk2)).1; have hsk := getD_street hxk.1 hxk.2; refine hc_skip (then_n (hc_seq (hc_block (hc_seq (hc_region ?_))))); refine r_elem (α := Ad) _ _ rfl T.u_L_api_Advert T.sz_api_Advert rfl rfl rfl mB rfl (by omega) (by decide) ?_; refine r_loadS rfl T.row_api_Advert T.sz_api_Advert rfl rfl (cells_row mB (rows_all (by omega))) ?_; refine r_alloc rfl (fun _ => T.al_api_Advert _) fun gA => ?_; refine r_storeS rfl rfl (by first | exact .refl _ | exact perm2 _ _ _ | exact perm3 _ _ _ _ | exact perm4 _ _ _ _ _) T.sz_api_Advert (by rfl) (by rfl) ?_; refine hl_nil (then_n (hc_seq (hc_region ?_))); refine r_fieldAddr ⟨_, 6, none⟩ rfl rfl T.fa_api_Sales_1 rfl ?_; refine r_load rfl T.cell_ints rfl (cell_own mB rfl) ?_; refine r_fieldAddr ⟨_, 0, none⟩ rfl rfl T.fa_api_Advert_0 rfl ?_; refine r_load rfl T.cell_int rfl (cell_own mB rfl) ?_; refine r_elem (α := Int) ps.l (qs.l.getD k default).1.toNat rfl T.u_ints T.sz_int rfl rfl (Int.toNat_of_nonneg hxk.1).symm mB rfl (by omega) (by decide) ?_; refine r_load rfl T.cell_int rfl (cell_row mB (rows_get0 (by omega) rfl)) ?_; refine r_move rfl rfl (r_eql rfl rfl rfl (hl_nil (then_n ?_))); refine c_dec rfl (fun hb3 => ?_) (fun hb3 => ?_)
   ·have hb3' := hb3; try simp at hb3'
    refine hc_region (r_move rfl rfl ?_); refine r_fieldAddr ⟨_, 0, none⟩ rfl rfl T.fa_api_Advert_0 rfl ?_; refine r_load rfl T.cell_int rfl (cell_own mB rfl) ?_; refine r_insert (k := (qs.l.getD k default).1) (v := .bool true) KI (.inl rfl) T.u_map_int_bool rfl rfl rfl (l := l) (clk := clk) (hp' := (gA, _) :: (gB, .cells (saC c ps qs) T.api_Sales (0, 0)) :: og) (.swap _ _ _) ?_; refine hl_nil (inb_n (then_n (hc_region ?_))); refine r_add _ rfl rfl rfl rfl (by unfold I64; omega) ?_; refine r_move rfl rfl (hl_nil ?_); exact again _ (k + 1, putM l (qs.l.getD k default).1 (.bool true) clk, clkM l (qs.l.getD k default).1 clk) ⟨by show k + 1 ≤ qs.l.length; omega, (hM.put _ _).congr fun v => hereS_yes hk2 hb3 v⟩ (by show qs.l.length - (k + 1) < qs.l.length - k; omega) ⟨rfl, rfl, rfl, rfl, rfl, rfl, rfl, rfl, trivial⟩ (.cons_cons _ (.cons _ (.refl _))) ⟨mB, mB, trivial⟩
   ·have hb3' := hb3; try simp at hb3'
    refine hc_skip (inb_n (then_n (hc_region ?_))); refine r_add _ rfl rfl rfl rfl (by unfold I64; omega) ?_; refine r_move rfl rfl (hl_nil ?_); exact again _ (k + 1, l, clk) ⟨by show k + 1 ≤ qs.l.length; omega, hM.congr fun v => hereS_no hk2 hb3 v⟩ (by show qs.l.length - (k + 1) < qs.l.length - k; omega) ⟨rfl, rfl, rfl, rfl, rfl, rfl, rfl, rfl, trivial⟩ (.cons _ (.refl _)) ⟨mB, mB, trivial⟩
  ·have hb2' := hb2; try simp at hb2'
   have hk2 : k = qs.l.length := by omega
   subst hk2; have hl5 := setm_len h hM; refine hc_exit (then_exit (then_exit (inb_hit (then_n (hc_seq (hc_region (r_assign rfl rfl (hl_nil (then_n (hc_seq (hc_seq ?_))))))))))); refine hc_region (r_move rfl rfl ?_); refine r_rangeM rfl T.u_map_int_bool rfl (map_own m0) fun gi => ?_; refine hl_nil (then_n (hc_block ?_)); refine hc_loop (β := List (Ment Int)) ⟨fun vis => Vis l vis, fun vis => [(1, .pointer (some ⟨gB, 0, none⟩)), (3, .slice (na, nc).1 (discK c ps.l qs.l i).length (na, nc).2), (4, .map (some gm)), (10, int i), (5, int i), (34, .pointer (some ⟨gi, 0, none⟩)), (8, int vis.length)], fun vis => [(gi, iterM gm clk vis), (gm, mapO int l clk), (gB, .cells (saC c ps qs) T.api_Sales (0, 0))] ++ og, fun _ => saL ps qs⟩ (fun vis => l.length - vis.length) [] (Vis.nil _) ⟨rfl, rfl, rfl, rfl, rfl, rfl, rfl, trivial⟩ (.refl _) ⟨mB, mB, trivial⟩ fun vis hV => ?_; simp only at hV; refine hc_seq (hc_region ?_); refine r_nextM (enc := int) rfl rfl (map_own m1) hM.lt (List.Perm.refl _) fun x hx0 hx1 => ?_; refine r_mext0 (enc := int) rfl rfl ?_; refine hl_nil (then_n (hc_seq ?_)); refine hc_cond rfl (fun hb4 => ?_) (fun hb4 => ?_)
   ·have hb4' := hb4; try simp at hb4'
    obtain ⟨q, rfl⟩ := Option.isSome_iff_exists.1 hb4; obtain ⟨hq1, hq2⟩ := hx1 q rfl; have hlt := hV.lt hq1 hq2; refine hc_skip (then_n (hc_block (hc_region (r_move rfl rfl ?_)))); refine r_add _ rfl rfl rfl rfl (by unfold I64; omega) ?_; refine r_assign rfl rfl (hl_nil (inb_n ?_)); exact again _ (vis ++ [q]) (hV.snoc hq1 hq2) (by show l.length - (vis ++ [q]).length < l.length - vis.length; rw [List.length_append, List.length_singleton]; omega) ⟨rfl, rfl, rfl, rfl, rfl, rfl, by show some (int ((vis.length : Int) + 1)) = some (int ((vis ++ [q]).length : Int)); rw [List.length_append]; rfl, trivial⟩ (.refl _) ⟨mB, mB, trivial⟩
   ·have hb4' := hb4; try simp at hb4'
    have hx : x = none := by cases x with | none => rfl | some q => simp at hb4
    subst hx
    have hcn : vis.length = offCnt ps.l qs.l (i : Int) := by
      rw [hM.count hV (hx0 rfl) (nodup_ofNat (List.nodup_range.filter _)) (hereS_all h (i : Int)), List.length_map]; rfl
    refine hc_exit (then_exit (then_exit (inb_hit (then_n (hc_seq (hc_region (r_move rfl rfl ?_))))))); refine r_fieldAddr ⟨_, 0, none⟩ rfl rfl T.fa_api_Sales_0 rfl ?_; refine r_fieldAddr ⟨_, 5, none⟩ rfl rfl T.fa_api_Charges_5 rfl ?_; refine r_load rfl T.cell_int rfl (cell_own mB rfl) ?_; refine r_geq rfl rfl rfl (hl_nil (then_n ?_)); refine c_dec rfl (fun hb5 => ?_) (fun hb5 => ?_)
    ·have hb5' := hb5; try simp at hb5'
     have hof : offB c ps.l qs.l (i : Int) = true := by unfold offB; rw [← hcn]; exact decide_eq_true hb5
     refine hc_region (r_move rfl rfl (r_move rfl rfl ?_)); refine r_buildSlice _ rfl rfl (fun _ => T.bs_ints_1 ..) fun gS => ?_; refine hl_letgo (rows [(i : Int)]) (List.prefix_refl _) ?_; refine r_append (hp' := [(gi, iterM gm clk (vis ++ [])), (gm, mapO int l clk), (gB, .cells (saC c ps qs) T.api_Sales (0, 0))]) ((discK c ps.l qs.l i).length + 1) (rows (discK c ps.l qs.l i ++ [(i : Int)])) T.el_ints rfl rfl rfl hG (perm_of fun q => by simp only [Option.toList_none, List.append_eq, List.cons_append, List.nil_append, List.countP_append, List.countP_cons, List.countP_nil]; omega) (Src.row (news := rows [(i : Int)]) (m := 1) m0 rfl (rows_one _) (by decide)) rfl (rows_append _ _).symm (by unfold maxLen; omega) (by omega) fun A' c' og' hG' => ?_; refine r_assign rfl rfl (hl_nil (inb_n (then_n (hc_region ?_)))); refine r_add _ rfl rfl rfl rfl (by unfold I64; omega) ?_; refine r_move rfl rfl (hl_nil ?_); refine hq_perm (hp' := (gi, iterM gm clk (vis ++ [])) :: (gm, mapO int l clk) :: (gB, .cells (saC c ps qs) T.api_Sales (0, 0)) :: og') (perm_of fun q => by simp only [List.append_eq, List.cons_append, List.nil_append, List.countP_append, List.countP_cons, List.countP_nil]; omega) ?_; exact again _ (i + 1, (A', c'), og', l, clk) ⟨by show i + 1 ≤ 10; omega, by show Grow T.int 1 A' (discK c ps.l qs.l (i + 1)).length c' (rows (discK c ps.l qs.l (i + 1))) og'; rw [discK_succ, if_pos hof, List.length_append]; exact hG'⟩ (by show 10 - (i + 1) < 10 - i; omega) ⟨rfl, by show some (Value.slice A' ((discK c ps.l qs.l i).length + 1) c') = some (Value.slice A' (discK c ps.l qs.l (i + 1)).length c'); rw [discK_succ, if_pos hof, List.length_append]; rfl, rfl, rfl, trivial⟩ (.cons _ (.refl _)) ⟨mB, mB, trivial⟩
    ·have hb5' := hb5; try simp at hb5'
     have hof : ¬ offB c ps.l qs.l (i : Int) = true := by unfold offB; rw [← hcn, decide_eq_true_eq]; omega
     refine hc_skip (inb_n (then_n (hc_region ?_))); refine r_add _ rfl rfl rfl rfl (by unfold I64; omega) ?_; refine r_move rfl rfl (hl_nil ?_); exact again _ (i + 1, (na, nc), og, l, clk) ⟨by show i + 1 ≤ 10; omega, by show Grow T.int 1 na (discK c ps.l qs.l (i + 1)).length nc (rows (discK c ps.l qs.l (i + 1))) og; rw [discK_succ, if_neg hof]; exact hG⟩ (by show 10 - (i + 1) < 10 - i; omega) ⟨rfl, by show some (Value.slice na (discK c ps.l qs.l i).length nc) = some (Value.slice na (discK c ps.l qs.l (i + 1)).length nc); rw [discK_succ, if_neg hof], rfl, rfl, trivial⟩ (.cons _ (.refl _)) ⟨mB, mB, trivial⟩
 ·have hb1' := hb1; try simp at hb1'
  have hi2 : i = 10 := by omega
  subst hi2; refine hc_exit (then_exit (then_exit (inb_hit (then_n (hc_seq (hc_region (r_move rfl rfl (r_assign rfl rfl (hl_nil (then_n (hc_ret ?_))))))))))); refine hq_perm (hp' := og ++ [(gm, mapO int l0 clk0), (gB, .cells (saC c ps qs) T.api_Sales (0, 0))]) (perm_of fun q => by simp only [List.append_eq, List.cons_append, List.nil_append, List.countP_append, List.countP_cons, List.countP_nil]; omega) ?_; refine hq_grown hG ?_; exact ret1 (na, nc) rfl rfl rfl hG.le (List.nil_sublist _) ⟨mB, trivial⟩
end Go.Proofs.YtdlbbfcfahahdaaGreat
end
section
namespace Go.W
open Go Go.RowKit
theorem madeR {α : Type} [El α] (a0 : α) {zc : Array Value} (hz : zc.toList = El.cells a0) (n : Nat) : madeCells zc (n * El.sz α) = (rows (List.replicate n a0)).toArray := by
  have hsz : zc.size = El.sz α := by rw [← El.len a0, ← hz, Array.length_toList]
  apply Array.ext
  · simp [madeCells, rows_len]
  · intro i h1 h2
    have hi : i < n * El.sz α := by simpa [madeCells] using h1
    have hs0 : 0 < El.sz α := Nat.pos_of_ne_zero fun h => by rw [h] at hi; omega
    have hq : i / El.sz α < n := Nat.div_lt_of_lt_mul (by rw [Nat.mul_comm]; exact hi); have hm : i % El.sz α < El.sz α := Nat.mod_lt _ hs0; have e : i = i / El.sz α * El.sz α + i % El.sz α := by rw [Nat.mul_comm]; exact (Nat.div_add_mod _ _).symm
    have h3 := rows_get' (List.replicate n a0) (i / El.sz α) (i % El.sz α) (by simpa using hq) hm; rw [← e] at h3; have h4 : (List.replicate n a0).getD (i / El.sz α) default = a0 := by simp [List.getD_eq_getElem?_getD, hq]
    rw [h4, ← hz] at h3; have h5 : i < (rows (List.replicate n a0)).length := by rw [rows_len, List.length_replicate]; exact hi
    rw [List.getElem?_eq_getElem h5, List.getElem?_eq_getElem (by rw [Array.length_toList, hsz]; exact hm)] at h3; have h6 := Option.some.inj h3; have h7 : (rows (List.replicate n a0)).toArray[i] = (rows (List.replicate n a0))[i] := by simp
    have hm' : i % zc.size < zc.size := by rw [hsz]; exact hm
    have h8 : (madeCells zc (n * El.sz α))[i] = zc[i % zc.size] := by
      simp only [madeCells, Array.getElem_map, Array.getElem_range]; exact getElem!_pos zc _ hm'
    rw [h7, h6, h8]
    simp [hsz]
theorem r_makeR {α : Type} [El α] (a0 : α) {c : Cx} {Q : Exit → Act → World → Prop} {fr : Fr} {hp : Hp} {L : List Fact} {ops : Array Oper} {rest : List Oper} {d : Tmp} {ty : TypeId} {pos : String} {af : Array Edge}
    {t e : TypeId} {x y : Operand} {n bytes : Nat} {z : Value} {m : Int} (hd : Nat.blt d c.n = true) (ht : c.P.underlying t = some (.slice e)) (hi : (c.P.info? e).map (fun i => (i.zero, i.size, i.bytes)) = some (some z, El.sz α, bytes)) (hz : z.cells.toList = El.cells a0)
    (hx : ev fr x = some (int m)) (hy : ev fr y = some (int m)) (hm : m = (n : Int)) (hb : bytes * n ≤ 140737488355328) (hn : n ≤ 140737488355328)
    (k : ∀ g, HL c ops Q rest ((d, .slice (some ⟨g, 0, none⟩) n n) :: fr) ((g, .cells (rows (List.replicate n a0)).toArray e (0, 0)) :: hp) L) : HL c ops Q (⟨some d, .makeSlice t x y, ty, pos, af, none⟩ :: rest) fr hp L :=
  hl_new (.cells (rows (List.replicate n a0)).toArray e (0, 0)) (fun g => .slice (some ⟨g, 0, none⟩) n n) rfl rfl hd (fun a w ha _ => by
    subst hm; obtain ⟨i, h1, h2, h3, h4⟩ := info_parts hi
    have hb' : (i.bytes : Int) * (n : Int) ≤ 281474976710656 := by
      have h : ((i.bytes * n : Nat) : Int) ≤ 281474976710656 := by rw [h4]; omega
      rwa [Int.natCast_mul] at h
    have hr := run_make (P := c.P) w t e i z ht h1 h2 .i64 .i64 n n (by omega) (Int.le_refl _) hb' (by omega); simp only [Int.toNat_natCast, h3, madeR a0 hz] at hr
    simp only [execOp, ha.ev hx, ha.ev hy, Sem.run_bind, hr, Result.andThen_ok, Sem.run_pure]) k
theorem r_storef {α : Type} [El α] (a : α) {c : Cx} {Q : Exit → Act → World → Prop} {fr : Fr} {hp : Hp} {L : List Fact} {ops : Array Oper} {rest : List Oper} {ty : TypeId} {pos : String} {af : Array Edge}
    {t e : TypeId} {x y : Operand} {g q k f : Nat} {l : List α} {v : Value} {hp' : Hp} (hx : ev fr x = some (.pointer (some ⟨g, q, none⟩))) (hq : q = k * El.sz α + f) (hy : ev fr y = some v) (hpp : hp.Perm ((g, .cells (rows l).toArray e (0, 0)) :: hp'))
    (hz : Sz c.P t 1) (hk : k < l.length) (hf : f < El.sz α) (hc : El.cells a = (El.cells (l.getD k default)).set f v) (h1 : v.oneCell' = true)
    (kk : HL c ops Q rest fr ((g, .cells (rows (l.set k a)).toArray e (0, 0)) :: hp') L) : HL c ops Q (⟨none, .store t x y, ty, pos, af, none⟩ :: rest) fr hp L := by
  subst hq
  have hlt : k * El.sz α + f < (rows l).length := by
    rw [rows_len]; have : (k + 1) * El.sz α ≤ l.length * El.sz α := Nat.mul_le_mul_right _ hk; rw [Nat.add_mul, Nat.one_mul] at this
    omega
  refine r_store (u := (rows l)[k * El.sz α + f]) hx hy hpp hz (by rw [List.getElem?_toArray, List.getElem?_eq_getElem hlt]) h1 ?_
  have e : (rows l).toArray.setIfInBounds (k * El.sz α + f) v = (rows (l.set k a)).toArray := by
    rw [← rows_setf hf hk hc]
    simp
  rw [e]; exact kk
theorem cell_blkf {α : Type} [El α] {b : Bx} {hp : Hp} {L : List Fact} {g q k f : Nat} {l : List α} {t : TypeId} {fz : Nat × Nat} {v : Value} (h : Blk g (Obj.cells (rows l).toArray t fz) ∈ L) (hq : q = k * El.sz α + f) (hk : k < l.length) (hv : (El.cells (l.getD k default))[f]? = some v) : Cell b hp L ⟨g, q, none⟩ v := by
  subst hq; exact cell_blk h (by rw [List.getElem?_toArray]; exact rows_get hk hv)
end Go.W
end
section
namespace Go.Proofs.YtdlbbfcfahahdaaGreat
open Go Go.W
set_option maxRecDepth 20000
attribute [local irreducible] HL HC HQ HB Row Rows2 Blk Facts
theorem slices_Index_ints_meets {A : Option Addr} {c : Nat} (l : List Int) (s : Int) (hl : l.length ≤ 1000000) : Meets Tryz.prog F.slices_Index_ints [.slice A l.length c, int s] { LI := [Row A (rows l)], inv := fun z : Int => AtInv l s z, val := fun z => int z } := by
 refine meets_intro F.slices_Index_ints_f rfl (Nat.le_of_ble_eq_true rfl) fun w0 => ?_; refine hc_seq (hc_region (r_assign rfl rfl (hl_nil (then_n (hc_seq (hc_seq (hc_region (r_move rfl rfl ?_)))))))); refine r_len_sl rfl T.u_ints rfl ?_; refine r_move rfl rfl (hl_nil (then_n (hc_block ?_))); refine hc_loop (β := Nat) ⟨fun k => k ≤ l.length ∧ s ∉ l.take k, fun k => [(0, .slice A l.length c), (1, int s), (7, int l.length), (8, int k)], fun _ => [], fun _ => [Row A (rows l)]⟩ (fun k => l.length - k) 0 ⟨Nat.zero_le _, by simp⟩ ⟨rfl, rfl, rfl, rfl, trivial⟩ (List.nil_sublist _) ⟨mB, trivial⟩ fun k hk => ?_; obtain ⟨hk, ht⟩ := hk; refine hc_seq (hc_region (r_lss rfl rfl rfl (hl_nil (then_n (hc_seq ?_))))); refine c_dec rfl (fun hb1 => ?_) (fun hb1 => ?_)
 ·have hb1' := hb1; try simp at hb1'
  have hk2 : k < l.length := by omega
  refine hc_skip (then_n (hc_seq (hc_block (hc_seq (hc_region (r_move rfl rfl (r_assign rfl rfl (hl_nil (then_n (hc_seq (hc_region ?_))))))))))); refine r_move rfl rfl (r_move rfl rfl (r_move rfl rfl ?_)); refine r_elem (α := Int) _ _ rfl T.u_ints T.sz_int rfl rfl rfl mB rfl (by omega) (by decide) ?_; refine r_load rfl T.cell_int rfl (cell_row mB (rows_get0 (by omega) rfl)) ?_; refine r_eql rfl rfl rfl (hl_nil (then_n ?_)); refine c_dec rfl (fun hb2 => ?_) (fun hb2 => ?_)
  ·have hb2' := hb2; try simp at hb2'
   refine hc_seq (hc_region (r_move rfl rfl (r_assign rfl rfl (hl_nil (then_n (hc_ret (inb_ret (then_ret (then_ret (inb_ret (then_ret ?_))))))))))); exact ret1 (k : Int) rfl rfl rfl (at_found hk2 hb2.symm ht) (List.nil_sublist _) trivial
  ·have hb2' := hb2; try simp at hb2'
   refine hc_skip (inb_n (then_n (hc_region ?_))); refine r_add _ rfl rfl rfl rfl (by unfold I64; omega) ?_; refine r_move rfl rfl (hl_nil ?_); exact again _ (k + 1) ⟨by omega, by rw [take_succ_getD l k hk2]; simp only [List.mem_append, List.mem_singleton, not_or]; exact ⟨ht, hb2⟩⟩ (by show l.length - (k + 1) < l.length - k; omega) ⟨rfl, rfl, rfl, rfl, trivial⟩ (List.nil_sublist _) ⟨mB, trivial⟩
 ·have hb1' := hb1; try simp at hb1'
  obtain rfl : k = l.length := by omega
  rw [List.take_length] at ht; refine hc_exit (then_exit (then_exit (inb_hit (then_n (hc_seq (hc_region (r_assign rfl rfl (hl_nil (then_n (hc_ret ?_)))))))))); exact ret1 (-1) rfl rfl rfl (at_none ht) (List.nil_sublist _) trivial
theorem slices_Contains_ints_meets {A : Option Addr} {c : Nat} (l : List Int) (s : Int) (hl : l.length ≤ 1000000) : Meets Tryz.prog F.slices_Contains_ints [.slice A l.length c, int s] { LI := [Row A (rows l)], val := fun _ : Unit => .bool (decide (s ∈ l)) } := by
 refine meets_intro F.slices_Contains_ints_f rfl (Nat.le_of_ble_eq_true rfl) fun w0 => ?_; refine hc_seq (hc_region (r_assign rfl rfl (hl_nil (then_n (hc_seq (hc_region (r_move rfl rfl (r_move rfl rfl ?_)))))))); refine hl_call F.slices_Index_ints_cb rfl rfl (slices_Index_ints_meets l s hl) (List.Perm.refl _) ⟨mB, trivial⟩ fun z hz => ?_; refine r_geq rfl rfl rfl (r_assign rfl rfl (hl_nil (then_n (hc_ret ?_)))); exact ret1 () rfl (congrArg (fun b => some (Value.bool b)) (decide_eq_decide.2 hz.1)) rfl trivial (List.nil_sublist _) trivial
abbrev Ac2 := Int × Option (Option Nat)
def ruleV2 : Option (Option Nat) → Value
  | none => .nilFunc
  | some r => ruleV r
instance : El Ac2 where
  default := (0, none)
  cells x := [int x.1, ruleV2 x.2]
  sz := 2
  len _ := rfl
  one a u h := by
    simp at h
    rcases h with h | h <;> subst h
    · rfl
    · cases a.2 with
      | none => rfl
      | some r => cases r <;> rfl
def ruleN (c : Ch) (ss : List Int) (xs : List Ad) (g i : Nat) : Option Nat := if offB c ss xs (ss.getD i default) = true then some g else none
def sumK (c : Ch) (xs : List Ad) (k i : Nat) : Int := (((xs.take k).filter fun x => decide (x.1 = (i : Int))).map (priceN c)).sum
def acA (c : Ch) (ss : List Int) (xs : List Ad) (g k i : Nat) : Ac2 := (0, if i < k then some (ruleN c ss xs g i) else none)
def acS (c : Ch) (ss : List Int) (xs : List Ad) (g k i : Nat) : Ac2 := (sumK c xs k i, some (ruleN c ss xs g i))
def accs (c : Ch) (ss : List Int) (xs : List Ad) (g : Nat) : List Ac := (List.range ss.length).map fun i => (sumK c xs xs.length i, ruleN c ss xs g i)
theorem range_set {α : Type} {n k : Nat} (f : Nat → α) (v : α) (hk : k < n) : ((List.range n).map f).set k v = (List.range n).map fun i => if i = k then v else f i := by
  apply List.ext_getElem?
  intro j
  by_cases hj : j < n
  · rw [List.getElem?_map, List.getElem?_range hj, List.getElem?_set]
    by_cases e : k = j
    · subst e; simp [hk]
    · rw [if_neg e, List.getElem?_map, List.getElem?_range hj]
      simp [Ne.symm e]
  · rw [List.getElem?_eq_none (by simp; omega), List.getElem?_eq_none (by simp; omega)]
theorem range_getD {α : Type} [Inhabited α] {n k : Nat} (f : Nat → α) (hk : k < n) : ((List.range n).map f).getD k default = f k := by
  rw [List.getD_eq_getElem?_getD, List.getElem?_map, List.getElem?_range hk]; rfl
theorem range_len {α : Type} (n : Nat) (f : Nat → α) : ((List.range n).map f).length = n := by simp
theorem acA_zero (c : Ch) (ss : List Int) (xs : List Ad) (g n : Nat) : List.replicate n ((0, none) : Ac2) = (List.range n).map (acA c ss xs g 0) := by
  apply List.ext_getElem?
  intro j
  by_cases hj : j < n
  · rw [List.getElem?_map, List.getElem?_range hj, List.getElem?_replicate, if_pos hj]; simp [acA]
  · rw [List.getElem?_eq_none (by simp; omega), List.getElem?_eq_none (by simp; omega)]
theorem acA_succ (c : Ch) (ss : List Int) (xs : List Ad) (g k : Nat) : (fun i => if i = k then ((0, some (ruleN c ss xs g k)) : Ac2) else acA c ss xs g k i) = acA c ss xs g (k + 1) := by
  funext i
  unfold acA
  by_cases e : i = k
  · subst e; simp
  · rw [if_neg e]
    by_cases h : i < k
    · rw [if_pos h, if_pos (by omega)]
    · rw [if_neg h, if_neg (by omega)]
theorem acA_at (c : Ch) (ss : List Int) (xs : List Ad) (g k : Nat) : acA c ss xs g k k = (0, none) := by simp [acA]
theorem acA_full {c : Ch} {ss : List Int} {xs : List Ad} {g : Nat} : (List.range ss.length).map (acA c ss xs g ss.length) = (List.range ss.length).map (acS c ss xs g 0) := by
  refine List.map_congr_left fun i hi => ?_; rw [List.mem_range] at hi
  simp [acA, acS, hi, sumK]
theorem sumK_succ (c : Ch) {xs : List Ad} {k : Nat} (hk : k < xs.length) (i : Nat) : sumK c xs (k + 1) i = if (xs.getD k default).1 = (i : Int) then sumK c xs k i + priceN c (xs.getD k default) else sumK c xs k i := by
  unfold sumK; rw [List.take_succ_eq_append_getElem hk, ← getD_at hk, List.filter_append, List.map_append, List.sum_append]
  by_cases e : (xs.getD k default).1 = (i : Int)
  · rw [if_pos e, List.filter_cons, if_pos (decide_eq_true e)]; simp
  · rw [if_neg e, List.filter_cons, if_neg (by simpa using e)]; simp
theorem acS_succ (c : Ch) (ss : List Int) {xs : List Ad} (g : Nat) {k m : Nat} (hk : k < xs.length) (hm : (xs.getD k default).1 = (m : Int)) : (fun i => if i = m then ((sumK c xs k m + priceN c (xs.getD k default), some (ruleN c ss xs g m)) : Ac2) else acS c ss xs g k i) = acS c ss xs g (k + 1) := by
  funext i
  unfold acS; rw [sumK_succ c hk]
  by_cases e : i = m
  · subst e; rw [if_pos rfl, if_pos hm]
  · rw [if_neg e, if_neg (by omega)]
theorem rows_congr {α β γ : Type} [El α] [El β] {l : List γ} {f : γ → α} {g : γ → β} (h : ∀ x ∈ l, El.cells (f x) = El.cells (g x)) : rows (l.map f) = rows (l.map g) := by
  induction l with
  | nil => rfl
  | cons x l ih => rw [List.map_cons, List.map_cons, rows_cons, rows_cons, h x (by simp), ih fun y hy => h y (by simp [hy])]
theorem accs_rows (c : Ch) (ss : List Int) (xs : List Ad) (g : Nat) : rows ((List.range ss.length).map (acS c ss xs g xs.length)) = rows (accs c ss xs g) := rows_congr fun _ _ => rfl
theorem price_bd {c : Ch} {x : Ad} (hc : ChOK c) (hl : 1 ≤ x.2.2 ∧ x.2.2 ≤ 6) : 0 ≤ priceN c x ∧ priceN c x ≤ 6000 := by
  have h1 := hc.1; have h2 := hc.2.1; have m1 := mul_bd (a := x.2.2 - 1) (A := 5) ⟨by omega, by omega⟩ hc.2.2.1; have m2 := mul_bd (a := x.2.2) (A := 6) ⟨by omega, by omega⟩ hc.2.2.2.1; unfold priceN
  split
  · omega
  · split <;> omega
theorem sumK_bd {c : Ch} {ss : List Int} {xs : List Ad} (h : SaOK c ss xs) (i : Nat) : ∀ k, k ≤ xs.length → 0 ≤ sumK c xs k i ∧ sumK c xs k i ≤ 6000 * (k : Int)
  | 0, _ => by simp [sumK]
  | k + 1, hk => by
    have ih := sumK_bd h i k (by omega); have hp := price_bd h.ch (h.ad _ (getD_mem (show k < xs.length by omega))).2.2; rw [sumK_succ c (by omega)]
    split <;> omega
theorem disc_mem {c : Ch} {ss : List Int} {xs : List Ad} (h : SaOK c ss xs) {i : Nat} (hi : i < ss.length) : ss.getD i default ∈ discK c ss xs 10 ↔ offB c ss xs (ss.getD i default) = true := by
  have hs := h.st _ (getD_mem hi); generalize ss.getD i default = s at *; unfold discK; simp only [List.mem_map, List.mem_filter, List.mem_range]
  constructor
  · rintro ⟨j, ⟨_, h1⟩, rfl⟩; exact h1
  · intro h1; exact ⟨s.toNat, ⟨by omega, by rwa [Int.toNat_of_nonneg hs.1]⟩, by omega⟩
theorem acA_yes {c : Ch} {ss : List Int} {xs : List Ad} {g k : Nat} (h : offB c ss xs (ss.getD k default) = true) : (fun i => if i = k then ((0, some (some g)) : Ac2) else if i = k then ((0, some none) : Ac2) else acA c ss xs g k i) = acA c ss xs g (k + 1) := by
  rw [← acA_succ]
  funext i
  by_cases e : i = k
  · rw [if_pos e, if_pos e, ruleN, if_pos h]
  · rw [if_neg e, if_neg e, if_neg e]
theorem acA_no {c : Ch} {ss : List Int} {xs : List Ad} {g k : Nat} (h : ¬ offB c ss xs (ss.getD k default) = true) : (fun i => if i = k then ((0, some none) : Ac2) else acA c ss xs g k i) = acA c ss xs g (k + 1) := by
  rw [← acA_succ]
  funext i
  by_cases e : i = k
  · rw [if_pos e, if_pos e, ruleN, if_neg h]
  · rw [if_neg e, if_neg e]
theorem cells_pre {us rest : List Value} {cs : Array Value} (h : cs.toList = us ++ rest) : ∀ i u, us[i]? = some u → cs[0 + i]? = some u := fun i u hu => by
  rw [Nat.zero_add, ← Array.getElem?_toList, h, List.getElem?_append_left (List.getElem?_eq_some_iff.1 hu).1]; exact hu
theorem mt_plain (v : Value) (w : World) : (method (Tryz.prog.types.size + Made.depth) T.bold_plain v "wayzgoose/bold.price").run Tryz.prog w = .ok (F.bold_plain_price, v) w := by kernel_rfl
theorem mt_bold (v : Value) (w : World) : (method (Tryz.prog.types.size + Made.depth) T.bold_bold v "wayzgoose/bold.price").run Tryz.prog w = .ok (F.bold_bold_price, v) w := by kernel_rfl
theorem mt_card (v : Value) (w : World) : (method (Tryz.prog.types.size + Made.depth) T.bold_card v "wayzgoose/bold.price").run Tryz.prog w = .ok (F.bold_card_price, v) w := by kernel_rfl
theorem r_price {cx : Cx} {Q : Exit → Act → World → Prop} {fr : Fr} {hp : Hp} {L : List Fact} {ops : Array Oper} {rest : List Oper} {d : Tmp} {ty : TypeId} {pos : String} {af : Array Edge} {ats : Array TypeId}
    {x : Operand} {g : Nat} {a : Ad} {c : Ch} (hd : Nat.blt d cx.n = true) (hP : cx.P = Tryz.prog) (hx : ev fr x = some (adI g a)) (hc : ChOK c) (hl : 1 ≤ a.2.2 ∧ a.2.2 ≤ 6) (hL : tarL g c ∈ L)
    (k : HL cx ops Q rest ((d, int (priceN c a)) :: fr) hp L) : HL cx ops Q (⟨some d, .call ⟨.invoke x "wayzgoose/bold.price", #[], ats⟩, ty, pos, af, none⟩ :: rest) fr hp L := by
  unfold adI at hx; unfold priceN at k
  split at hx
  · rename_i e
    rw [if_pos e] at k; have hm := bold_plain_price_meets g c; rw [← hP] at hm; exact hl_invoke (f := F.bold_plain_price) (hpR := hp) (by rw [hP]; exact F.bold_plain_price_cb) hd hx (by rw [hP]; exact mt_plain _) hm (List.Perm.refl _) ⟨hL, trivial⟩ fun _ _ => k
  · rename_i e
    rw [if_neg e] at k
    split at hx
    · rename_i e2
      rw [if_pos e2] at k; have hm := bold_bold_price_meets g c a.2.2 hc hl; rw [← hP] at hm; exact hl_invoke (f := F.bold_bold_price) (hpR := hp) (by rw [hP]; exact F.bold_bold_price_cb) hd hx (by rw [hP]; exact mt_bold _) hm (List.Perm.refl _) ⟨hL, trivial⟩ fun _ _ => k
    · rename_i e2
      rw [if_neg e2] at k; have hm := bold_card_price_meets g c a.2.2 hc hl; rw [← hP] at hm; exact hl_invoke (f := F.bold_card_price) (hpR := hp) (by rw [hP]; exact F.bold_card_price_cb) hd hx (by rw [hP]; exact mt_card _) hm (List.Perm.refl _) ⟨hL, trivial⟩ fun _ _ => k
theorem bold_accounts_meets (c : Ch) (ps : Sl Int) (qs : Sl Ad) (h : SaOK c ps.l qs.l) : Meets Tryz.prog F.bold_accounts [saV c ps qs] { LI := saL ps qs, inv := fun _ : Nat × Nat => True, val := fun x => .slice (some ⟨x.1, 0, none⟩) ps.l.length ps.l.length, LO := fun x => [Blk x.2 (.cells (saC c ps qs) T.api_Sales (0, 0)), Row (some ⟨x.1, 0, none⟩) (rows (accs c ps.l qs.l x.2))] } := by
 have hx8 := h.x8; have hn5 := h.n5; have hn1 := h.n1; have hd10 := discK_len c ps.l qs.l 10; refine meets_intro F.bold_accounts_f rfl (Nat.le_of_ble_eq_true rfl) fun w0 => ?_; refine hc_seq (hc_region ?_); refine r_box rfl rfl fun gB => ?_; refine r_assign rfl rfl (hl_nil (then_n (hc_seq (hc_region ?_)))); refine r_fieldAddr ⟨_, 6, none⟩ rfl rfl T.fa_api_Sales_1 rfl ?_; refine r_load rfl T.cell_ints rfl (cell_own mB rfl) ?_; refine r_len_sl rfl T.u_ints rfl ?_; refine r_makeR (α := Ac2) (n := ps.l.length) (bytes := 16) (z := .agg #[.int .i64 0, .nilFunc]) ((0, none) : Ac2) rfl Tryz.underlying138 (by kernel_rfl) rfl rfl rfl rfl (by omega) (by omega) fun go => ?_; rw [acA_zero c ps.l qs.l gB]; refine r_assign rfl rfl (hl_nil (then_n (hc_seq (hc_region ?_)))); refine r_loadA rfl T.row_api_Sales T.sz_api_Sales rfl mB (by rfl) ?_; refine hl_call F.bold_discounts_cb rfl rfl (bold_discounts_meets c ps qs h) (List.Perm.refl _) ⟨mB, mB, trivial⟩ fun x hx => ?_; obtain ⟨da, dc⟩ := x
 simp only
 refine r_assign rfl rfl (hl_nil (then_n (hc_seq (hc_seq (hc_region ?_))))); refine r_fieldAddr ⟨_, 6, none⟩ rfl rfl T.fa_api_Sales_1 rfl ?_; refine r_load rfl T.cell_ints rfl (cell_own mB rfl) ?_; refine r_len_sl rfl T.u_ints rfl ?_; refine r_move rfl rfl (hl_nil (then_n (hc_block ?_))); refine hc_loop (β := Nat) ⟨fun k => k ≤ ps.l.length, fun k => [(1, .pointer (some ⟨gB, 0, none⟩)), (3, .slice (some ⟨go, 0, none⟩) ps.l.length ps.l.length), (4, .slice da (discK c ps.l qs.l 10).length dc), (17, .slice ps.a ps.l.length ps.c), (18, int ps.l.length), (19, int k)], fun k => [(go, Obj.cells (rows ((List.range ps.l.length).map (acA c ps.l qs.l gB k))).toArray T.bold_account (0, 0)), (gB, Obj.cells (saC c ps qs) T.api_Sales (0, 0))], fun _ => Row da (rows (discK c ps.l qs.l 10)) :: saL ps qs⟩ (fun k => ps.l.length - k) 0 (Nat.zero_le _) ⟨rfl, rfl, rfl, rfl, rfl, rfl, trivial⟩ (.refl _) ⟨mB, mB, mB, trivial⟩ fun k hk => ?_; simp only at hk; refine hc_seq (hc_region (r_lss rfl rfl rfl (hl_nil (then_n (hc_seq ?_))))); refine c_dec rfl (fun hb1 => ?_) (fun hb1 => ?_)
 ·have hb1' := hb1; try simp at hb1'
  have hk2 : k < ps.l.length := by omega
  refine hc_skip (then_n (hc_seq (hc_block (hc_seq (hc_region (r_move rfl rfl ?_)))))); refine r_elem (α := Int) _ _ rfl T.u_ints T.sz_int rfl rfl rfl mB rfl (by omega) (by decide) ?_; refine r_load rfl T.cell_int rfl (cell_row mB (rows_get0 (by omega) rfl)) ?_; refine r_assign rfl rfl (r_assign rfl rfl (hl_nil (then_n (hc_seq (hc_region (r_move rfl rfl (r_move rfl rfl ?_))))))); refine r_indexAddr_own k (k * 2) rfl T.u_L_bold_account T.sz_bold_account rfl rfl rfl hk2 (by omega) ?_; refine r_fieldAddr ⟨go, k * 2 + 1, none⟩ rfl rfl T.fa_bold_account_1 (add_mk ..) ?_; refine r_storef (α := Ac2) (k := k) (f := 1) ((0, some none) : Ac2) rfl rfl rfl (.refl _) T.sz_func_int_int (by rw [range_len]; exact hk2) (by decide) (by rw [range_getD _ hk2, acA_at]; rfl) rfl ?_; rw [range_set _ _ hk2]; refine hl_nil (then_n (hc_seq (hc_region (r_move rfl rfl (r_move rfl rfl ?_))))); refine hl_call F.slices_Contains_ints_cb rfl rfl (slices_Contains_ints_meets (discK c ps.l qs.l 10) (ps.l.getD k default) (by omega)) (List.Perm.refl _) ⟨mB, trivial⟩ fun _ _ => ?_; refine hl_nil (then_n ?_); refine c_dec rfl (fun hb2 => ?_) (fun hb2 => ?_)
  ·have hb2' := hb2; try simp at hb2'
   have hof := (disc_mem h hk2).1 hb2; refine hc_region (r_move rfl rfl (r_move rfl rfl (r_makeFunc rfl rfl rfl ?_))); refine r_indexAddr_own k (k * 2) rfl T.u_L_bold_account T.sz_bold_account rfl rfl rfl hk2 (by omega) ?_; refine r_fieldAddr ⟨go, k * 2 + 1, none⟩ rfl rfl T.fa_bold_account_1 (add_mk ..) ?_; refine r_storef (α := Ac2) (k := k) (f := 1) ((0, some (some gB)) : Ac2) rfl rfl rfl (.refl _) T.sz_func_int_int (by rw [range_len]; exact hk2) (by decide) (by rw [range_getD _ hk2, if_pos rfl]; rfl) rfl ?_; rw [range_set _ _ hk2, acA_yes hof]; refine hl_nil (inb_n (then_n (hc_region ?_))); refine r_add _ rfl rfl rfl rfl (by unfold I64; omega) ?_; refine r_move rfl rfl (hl_nil ?_); exact again _ (k + 1) (by show k + 1 ≤ ps.l.length; omega) (by show ps.l.length - (k + 1) < ps.l.length - k; omega) ⟨rfl, rfl, rfl, rfl, rfl, rfl, trivial⟩ (.refl _) ⟨mB, mB, mB, trivial⟩
  ·have hb2' := hb2; try simp at hb2'
   have hof := mt (disc_mem h hk2).2 hb2; rw [acA_no hof]; refine hc_skip (inb_n (then_n (hc_region ?_))); refine r_add _ rfl rfl rfl rfl (by unfold I64; omega) ?_; refine r_move rfl rfl (hl_nil ?_); exact again _ (k + 1) (by show k + 1 ≤ ps.l.length; omega) (by show ps.l.length - (k + 1) < ps.l.length - k; omega) ⟨rfl, rfl, rfl, rfl, rfl, rfl, trivial⟩ (.refl _) ⟨mB, mB, mB, trivial⟩
 ·have hb1' := hb1; try simp at hb1'
  obtain rfl : k = ps.l.length := by omega
  refine hc_perm (hp' := [(go, Obj.cells (rows ((List.range ps.l.length).map (acS c ps.l qs.l gB 0))).toArray T.bold_account (0, 0)), (gB, Obj.cells (saC c ps qs) T.api_Sales (0, 0))]) (by show List.Perm [(go, Obj.cells (rows ((List.range ps.l.length).map (acA c ps.l qs.l gB ps.l.length))).toArray T.bold_account (0, 0)), (gB, Obj.cells (saC c ps qs) T.api_Sales (0, 0))] _; rw [acA_full]) ?_; refine hc_exit (then_exit (then_exit (inb_hit (then_n (hc_seq (hc_region ?_)))))); refine r_fieldAddr ⟨_, 0, none⟩ rfl rfl T.fa_api_Sales_0 rfl ?_; refine r_loadS (cs := [int c.1, int c.2.1, int c.2.2.1, int c.2.2.2.1, int c.2.2.2.2.1, int c.2.2.2.2.2]) rfl T.row_api_Charges T.sz_api_Charges rfl rfl (cells_own (o := 0) mB (cells_pre rfl)) ?_; refine hl_call F.bold_of_cb rfl rfl (bold_of_meets c) (List.Perm.refl _) trivial fun tg _ => ?_; refine r_assign rfl rfl (hl_nil (then_n (hc_seq (hc_seq (hc_region ?_))))); refine r_fieldAddr ⟨_, 7, none⟩ rfl rfl T.fa_api_Sales_2 rfl ?_; refine r_load rfl T.cell_L_api_Advert rfl (cell_own mB rfl) ?_; refine r_len_sl rfl T.u_L_api_Advert rfl ?_; refine r_move rfl rfl (hl_nil (then_n (hc_block ?_))); refine hc_loop (β := Nat) ⟨fun k => k ≤ qs.l.length, fun k => [(1, .pointer (some ⟨gB, 0, none⟩)), (3, .slice (some ⟨go, 0, none⟩) ps.l.length ps.l.length), (4, .slice da (discK c ps.l qs.l 10).length dc), (7, .pointer (some ⟨tg, 0, none⟩)), (41, .slice qs.a qs.l.length qs.c), (42, int qs.l.length), (43, int k)], fun k => [(go, Obj.cells (rows ((List.range ps.l.length).map (acS c ps.l qs.l gB k))).toArray T.bold_account (0, 0)), (gB, Obj.cells (saC c ps qs) T.api_Sales (0, 0))], fun _ => tarL tg c :: saL ps qs⟩ (fun k => qs.l.length - k) 0 (Nat.zero_le _) ⟨rfl, rfl, rfl, rfl, rfl, rfl, rfl, trivial⟩ (.refl _) ⟨mB, mB, mB, trivial⟩ fun k hk => ?_; simp only at hk; refine hc_seq (hc_region (r_lss rfl rfl rfl (hl_nil (then_n (hc_seq ?_))))); refine c_dec rfl (fun hb3 => ?_) (fun hb3 => ?_)
  ·have hb3' := hb3; try simp at hb3'
   have hk3 : k < qs.l.length := by omega
   have hxk := h.ad _ (getD_mem hk3); obtain ⟨m, hxm⟩ := Int.eq_ofNat_of_zero_le hxk.1.1; have hm2 : m < ps.l.length := by omega
   have hsb := sumK_bd h m k (by omega); have hpb := price_bd h.ch hxk.2.2; refine hc_skip (then_n (hc_seq (hc_block (hc_seq (hc_region ?_))))); refine r_elem (α := Ad) _ _ rfl T.u_L_api_Advert T.sz_api_Advert rfl rfl rfl mB rfl (by omega) (by decide) ?_; refine r_loadS rfl T.row_api_Advert T.sz_api_Advert rfl rfl (cells_row mB (rows_all (by omega))) ?_; refine r_alloc rfl (fun _ => T.al_api_Advert _) fun gA => ?_; refine r_storeS rfl rfl (by first | exact .refl _ | exact perm2 _ _ _ | exact perm3 _ _ _ _ | exact perm4 _ _ _ _ _) T.sz_api_Advert (by rfl) (by rfl) ?_; refine hl_nil (then_n ?_); refine hc_draw 10 mixed (by decide) (by decide) rfl rfl ?_; refine hb_ex _ rfl rfl rfl (fun w1 => r_move rfl rfl (hl_nil (qe_done rfl))) ?_; refine hb_ex _ rfl rfl rfl (fun w1 => r_fieldAddr ⟨_, 0, none⟩ rfl rfl T.fa_api_Advert_0 rfl (hl_nil (qe_done rfl))) ?_; refine hb_ex _ rfl rfl rfl (fun w1 => r_load rfl T.cell_int rfl (cell_blk mB rfl) (hl_nil (qe_done rfl))) ?_; refine hb_ex _ rfl rfl rfl (fun w1 => r_indexAddr_own m (m * 2) rfl T.u_L_bold_account T.sz_bold_account rfl rfl hxm hm2 (by omega) (hl_nil (qe_done rfl))) ?_; refine hb_ex _ rfl rfl rfl (fun w1 => r_fieldAddr ⟨go, m * 2, none⟩ rfl rfl T.fa_bold_account_0 rfl (hl_nil (qe_done rfl))) ?_; refine hb_ex _ rfl rfl rfl (fun w1 => r_load (v := int (sumK c qs.l k m)) rfl T.cell_int rfl (cell_blkf (α := Ac2) (k := m) (f := 0) (l := (List.range ps.l.length).map (acS c ps.l qs.l gB k)) (t := T.bold_account) (fz := (0, 0)) (by repeat constructor) rfl (by rw [range_len]; exact hm2) (by rw [range_getD _ hm2]; rfl)) (hl_nil (qe_done rfl))) ?_; refine hb_ex _ rfl rfl rfl (fun w1 => r_move rfl rfl (hl_nil (qe_done rfl))) ?_; refine hb_ex _ rfl rfl rfl (fun w1 => r_loadB rfl T.row_api_Advert T.sz_api_Advert rfl mB (by rfl) (hl_nil (qe_done rfl))) ?_; refine hb_ex _ rfl rfl rfl (fun w1 => hl_call F.bold_tariff_advert_cb rfl rfl (bold_tariff_advert_meets tg (qs.l.getD k default)) (List.Perm.refl _) trivial fun _ _ => (hl_nil (qe_done rfl))) ?_; refine hb_ex _ rfl rfl rfl (fun w1 => r_price (c := c) rfl rfl rfl h.ch hxk.2.2 mB (hl_nil (qe_done rfl))) ?_; refine hb_nil ⟨rfl, ?_⟩; refine r_add _ rfl rfl rfl rfl (by unfold I64; omega) ?_; refine r_indexAddr_own m (m * 2) rfl T.u_L_bold_account T.sz_bold_account rfl rfl hxm hm2 (by omega) ?_; refine r_fieldAddr ⟨go, m * 2, none⟩ rfl rfl T.fa_bold_account_0 rfl ?_; refine r_storef (α := Ac2) (k := m) (f := 0) ((sumK c qs.l k m + priceN c (qs.l.getD k default), some (ruleN c ps.l qs.l gB m)) : Ac2) rfl rfl rfl (.swap _ _ _) T.sz_int (by rw [range_len]; exact hm2) (by decide) (by rw [range_getD _ hm2]; rfl) rfl ?_; rw [range_set _ _ hm2, acS_succ c ps.l gB hk3 hxm]; refine hl_nil (inb_n (then_n (hc_region ?_))); refine r_add _ rfl rfl rfl rfl (by unfold I64; omega) ?_; refine r_move rfl rfl (hl_nil ?_); exact again _ (k + 1) (by show k + 1 ≤ qs.l.length; omega) (by show qs.l.length - (k + 1) < qs.l.length - k; omega) ⟨rfl, rfl, rfl, rfl, rfl, rfl, rfl, trivial⟩ (.cons_cons _ (.cons _ (.refl _))) ⟨mB, mB, mB, trivial⟩
  ·have hb3' := hb3; try simp at hb3'
   obtain rfl : k = qs.l.length := by omega
   refine hc_exit (then_exit (then_exit (inb_hit (then_n (hc_seq (hc_region (r_move rfl rfl (r_assign rfl rfl (hl_nil (then_n (hc_ret ?_))))))))))); refine hq_perm (hp' := [(go, Obj.cells (rows (accs c ps.l qs.l gB)).toArray T.bold_account (0, 0)), (gB, Obj.cells (saC c ps qs) T.api_Sales (0, 0))]) (by show List.Perm [(go, Obj.cells (rows ((List.range ps.l.length).map (acS c ps.l qs.l gB qs.l.length))).toArray T.bold_account (0, 0)), (gB, Obj.cells (saC c ps qs) T.api_Sales (0, 0))] _; rw [accs_rows]) ?_; refine hq_letgo (rows (accs c ps.l qs.l gB)) (List.prefix_refl _) ?_; refine hq_letgoB ?_; exact ret1 (go, gB) rfl rfl rfl trivial (List.nil_sublist _) ⟨mB, mB, trivial⟩
end Go.Proofs.YtdlbbfcfahahdaaGreat
end
section
namespace Go.Proofs.YtdlbbfcfahahdaaGreat
open Go Go.W
set_option maxRecDepth 20000
attribute [local irreducible] HL HC HQ HB Row Rows2 Blk Facts
open Go.Conc
def sumN (c : Ch) (xs : List Ad) (i : Nat) : Int := sumK c xs xs.length i
def bilN (c : Ch) (ss : List Int) (xs : List Ad) (i : Nat) : Int := if offB c ss xs (ss.getD i default) = true then offN c.2.2.2.2.1 (sumN c xs i) else sumN c xs i
def numsN (how : Nat) (c : Ch) (ss : List Int) (xs : List Ad) : List Int := (List.range ss.length).map fun i => if how = 58 then bilN c ss xs i else sumN c xs i - bilN c ss xs i
theorem accs_len (c : Ch) (ss : List Int) (xs : List Ad) (g : Nat) : (accs c ss xs g).length = ss.length := by simp [accs]
theorem acOut_eq (how : Nat) (c : Ch) (ss : List Int) (xs : List Ad) (g : Nat) : acOut how c.2.2.2.2.1 (accs c ss xs g) = numsN how c ss xs := by
  unfold acOut numsN; rw [accs_len]; refine List.map_congr_left fun i hi => ?_; rw [List.mem_range] at hi; unfold acN accs numN billN bilN sumN; rw [range_getD _ hi]
  by_cases e : offB c ss xs (ss.getD i default) = true
  · simp only [ruleN, if_pos e, Option.isSome_some, if_true]
  · simp only [ruleN, if_neg e, Option.isSome_none, Bool.false_eq_true, if_false]
theorem info_num : ∃ i, Tryz.prog.info? 141 = some i ∧ i.bytes = 16 := by
  have h : (Tryz.prog.info? 141).map (·.bytes) = some 16 := by kernel_rfl
  obtain ⟨i, hi, hb⟩ := Option.map_eq_some_iff.1 h; exact ⟨i, hi, hb⟩
theorem info_bool : ∃ i, Tryz.prog.info? 4 = some i ∧ i.bytes = 1 := by
  have h : (Tryz.prog.info? 4).map (·.bytes) = some 1 := by kernel_rfl
  obtain ⟨i, hi, hb⟩ := Option.map_eq_some_iff.1 h; exact ⟨i, hi, hb⟩
abbrev reckCon (how : Nat) (c : Ch) (ps : Sl Int) (qs : Sl Ad) : Con Nat := { LI := saL ps qs, inv := fun _ : Nat => True, val := fun g => .slice (some ⟨g, 0, none⟩) ps.l.length ps.l.length, hpO := fun g => [(g, .cells (rows (numsN how c ps.l qs.l)).toArray T.int (0, 0))] }
set_option maxHeartbeats 1000000 in
theorem bold_reckon_meets (c : Ch) (ps : Sl Int) (qs : Sl Ad) (how : Nat) (hw : how = 57 ∨ how = 58) (h : SaOK c ps.l qs.l) : Meets Tryz.prog F.bold_reckon [saV c ps qs, .func (.func how) #[] #[]] (reckCon how c ps qs) := by
  have hx8 := h.x8; have hn5 := h.n5; have hn1 := h.n1; refine meets_intro F.bold_reckon_f rfl (Nat.le_of_ble_eq_true rfl) fun w0 => ?_; refine hc_seq (hc_region ?_); refine r_box rfl rfl fun gs => ?_; refine r_box rfl rfl fun g3 => ?_; refine r_assign rfl rfl (hl_nil (then_n (hc_seq (hc_region ?_)))); refine r_fieldAddr ⟨gs, 6, none⟩ rfl rfl T.fa_api_Sales_1 rfl ?_; refine r_load (v := .slice ps.a ps.l.length ps.c) rfl T.cell_ints rfl (cell_own (by repeat constructor) rfl) ?_; refine r_len_sl rfl T.u_ints rfl ?_; refine r_make1 (n := ps.l.length) (bytes := 8) (z := int 0) rfl T.u_ints (by kernel_rfl) rfl rfl rfl rfl (by omega) (by omega) fun go => ?_; refine r_alloc rfl (fun _ => T.al_ints _) fun g5 => ?_; refine r_store rfl rfl (.refl _) T.sz_ints (by rfl) (by rfl) ?_; refine hl_nil (then_n (hc_seq (hc_region ?_))); obtain ⟨i1, hi1, hby1⟩ := info_num; refine r_makeChan (n := 0) rfl Tryz.underlying136 hi1 rfl (by omega) (by rw [hby1]; omega) fun gF => ?_; refine r_alloc rfl (fun _ => T.al_chan_bold_numbered _) fun g6 => ?_; refine r_store rfl rfl (.refl _) T.sz_chan_bold_numbered (by rfl) (by rfl) ?_; refine hl_nil (then_n (hc_seq (hc_region ?_))); refine r_load (v := .slice (some ⟨go, 0, none⟩) ps.l.length ps.l.length) rfl T.cell_ints rfl (cell_own (by repeat constructor) rfl) ?_; refine r_len_sl rfl T.u_ints rfl ?_; obtain ⟨i2, hi2, hby2⟩ := info_bool; refine r_makeChan (n := ps.l.length) rfl Tryz.underlying137 hi2 rfl (by omega) (by rw [hby2]; omega) fun gL => ?_; refine r_alloc rfl (fun _ => T.al_chan_bool _) fun g7 => ?_; refine r_store rfl rfl (.refl _) T.sz_chan_bool (by rfl) (by rfl) ?_; refine hl_nil (then_n ?_); refine hc_perm (hp' := [(g7, Obj.cells #[.chan (some gL)] 137 (0, 0)), (gL, chanO ps.l.length [] 0 0), (g6, .cells #[.chan (some gF)] 136 (0, 0)), (gF, chanO 0 [] 0 0), (g5, .cells #[.slice (some ⟨go, 0, none⟩) ps.l.length ps.l.length] 24 (0, 0)), (go, .cells (List.replicate ps.l.length (int 0)).toArray 3 (0, 0)), (g3, .cells #[.func (.func how) #[] #[]] 96 (0, 0)), (gs, .cells (saC c ps qs) 27 (0, 0))]) (.refl _) ?_; refine hc_sub (fr' := fr0 gs g3 g5 g6 g7) (by repeat constructor) (.refl _) (by repeat constructor : LSub _ (saL ps qs)) ?_; refine hc_co fun a w ha hw1 b k cs Goal hk hc => ?_; refine co_ctl rfl (fun _ => stepG_seq) ?_; refine co_ctl rfl (fun _ => stepG_seq) ?_
  let Q4 : Exit → Act → World → Prop := fun e a w => e = .normal ∧ ∃ x : Nat × Nat, Ok ⟨Tryz.prog, Tryz.f56.ntmps, (reckCon how c ps qs).entry w0, [], none⟩ a ((22, int 0) :: (20, .slice (some ⟨x.1, 0, none⟩) ps.l.length ps.l.length) :: (21, int ps.l.length) :: fr0 gs g3 g5 g6 g7) ∧
    WI ((reckCon how c ps qs).entry w0) w [(g7, Obj.cells #[.chan (some gL)] 137 (0, 0)), (gL, chanO ps.l.length [] 0 0), (g6, .cells #[.chan (some gF)] 136 (0, 0)), (gF, chanO 0 [] 0 0), (g5, .cells #[.slice (some ⟨go, 0, none⟩) ps.l.length ps.l.length] 24 (0, 0)), (go, .cells (List.replicate ps.l.length (int 0)).toArray 3 (0, 0)), (g3, .cells #[.func (.func how) #[] #[]] 96 (0, 0)), (gs, .cells (saC c ps qs) 27 (0, 0))] (Blk x.2 (.cells (saC c ps qs) T.api_Sales (0, 0)) :: Row (some ⟨x.1, 0, none⟩) (rows (accs c ps.l qs.l x.2)) :: saL ps qs)
  refine co_hc (Q := Q4) (fr := fr0 gs g3 g5 g6 g7) ?_ ha hw1 hk fun e a' w' hq => ?_
  · refine hc_region ?_
    refine r_loadA rfl T.row_api_Sales T.sz_api_Sales rfl (by repeat constructor) (by rfl) ?_; refine hl_call F.bold_accounts_cb rfl rfl (bold_accounts_meets c ps qs h) (List.Perm.refl _) ⟨(by repeat constructor), (by repeat constructor), trivial⟩ fun x _ => ?_; refine r_len_sl rfl T.u_L_bold_account rfl ?_; refine r_move rfl rfl (hl_nil ?_); exact hq_of fun a w ha hw => ⟨rfl, x, ha.sub (by repeat constructor), hw⟩
  obtain ⟨rfl, ⟨gA, gB⟩, hok, hwi⟩ := hq; have nd := hwi.nd; simp only [List.map_cons, List.map_nil, List.nodup_cons, List.mem_cons, List.not_mem_nil, or_false, not_or] at nd; obtain ⟨⟨n71, n72, n73, n74, n75, n76, n77⟩, ⟨nL2, nL3, nL4, nL5, nL6, nL7⟩, ⟨n63, n64, n65, n66, n67⟩, ⟨nF4, nF5, nF6, nF7⟩, ⟨n55, n56, n57⟩, ⟨no6, no7⟩, n37, _⟩ := nd; have o7 := hwi.own (g7, .cells #[.chan (some gL)] 137 (0, 0)) (by simp); have oL := hwi.own (gL, chanO ps.l.length [] 0 0) (by simp); have o6 := hwi.own (g6, .cells #[.chan (some gF)] 136 (0, 0)) (by simp); have oF := hwi.own (gF, chanO 0 [] 0 0) (by simp); have o5 := hwi.own (g5, .cells #[.slice (some ⟨go, 0, none⟩) ps.l.length ps.l.length] 24 (0, 0)) (by simp); have oo := hwi.own (go, .cells (List.replicate ps.l.length (int 0)).toArray 3 (0, 0)) (by simp); have o3 := hwi.own (g3, .cells #[.func (.func how) #[] #[]] 96 (0, 0)) (by simp); have fB := blk_P (hwi.fs (Blk gB (.cells (saC c ps qs) T.api_Sales (0, 0))) (by simp)); have fA := hwi.fs (Row (some ⟨gA, 0, none⟩) (rows (accs c ps.l qs.l gB))) (by simp); have hal := accs_len c ps.l qs.l gB
  have hne : rows (accs c ps.l qs.l gB) ≠ [] := fun e => by
    have := rows_len (accs c ps.l qs.l gB); rw [e, hal] at this; have h2 : El.sz Ac = 2 := rfl; rw [h2] at this
    simp at this
    omega
  have aB := blk_ne (g := gB) (o := .cells (saC c ps qs) T.api_Sales (0, 0)) hwi (by simp); have aA := row_ne (ad := ⟨gA, 0, none⟩) (us := rows (accs c ps.l qs.l gB)) hwi (by simp) hne
  have hM : Main0 w' gF gL go how g3 g5 g6 g7 ⟨gA, 0, none⟩ c.2.2.2.2.1 (accs c ps.l qs.l gB) :=
    ⟨⟨o3, ⟨fun e => nF6 e.symm, fun e => nL6 e.symm, fun e => no6 e.symm⟩, o6, ⟨n63, fun e => nL2 e.symm, n65⟩, o7, ⟨n73, n71, n75⟩⟩, hw, (by rw [hal]; exact o5), ⟨fun e => nF4 e.symm, fun e => nL4 e.symm, n55⟩, fA,
      ⟨fun e => aA (gF, chanO 0 [] 0 0) (by simp) e.symm, fun e => aA (gL, chanO ps.l.length [] 0 0) (by simp) e.symm, fun e => aA (go, .cells (List.replicate ps.l.length (int 0)).toArray 3 (0, 0)) (by simp) e.symm⟩,
      (by rw [hal]; omega), (by have := h.ch.2.2.2.2.1; omega), (fun x hx => by
        obtain ⟨i, hi, rfl⟩ := List.mem_map.1 hx; have hs := sumK_bd h i qs.l.length (Nat.le_refl _); refine ⟨by simp only; omega, ?_⟩; simp only [ruleN]
        split
        · exact ⟨fun e => aB (gF, chanO 0 [] 0 0) (by simp) e.symm, fun e => aB (gL, chanO ps.l.length [] 0 0) (by simp) e.symm, fun e => aB (go, .cells (List.replicate ps.l.length (int 0)).toArray 3 (0, 0)) (by simp) e.symm, _, _, _, fB, rfl⟩
        · trivial)⟩
  refine phase (p := ph w' gF gL go (accs c ps.l qs.l gB).length (acV how c.2.2.2.2.1 (accs c ps.l qs.l gB))) (B := 2000) (hp := [(go, .cells (List.replicate ps.l.length (int 0)).toArray 3 (0, 0))]) ⟨fun e => nL3 e.symm, lt_of_own oF, lt_of_own oL, nF5, nL5⟩ oF (by show w'.heap[gL]? = some (.chan (accs c ps.l qs.l gB).length #[] false 0 0 false); rw [hal]; exact oL) ?_ (fun q hq => by simp at hq; subst hq; exact oo) (fun q hq => by simp at hq; subst hq; rfl); have hk' : b.kind ≠ .early := by rw [hk]; exact fun h => by cases h
  have hrl : (List.range (accs c ps.l qs.l gB).length).length = (accs c ps.l qs.l gB).length := List.length_range; refine folM_of (c := ⟨Tryz.prog, Tryz.f56.ntmps, (reckCon how c ps qs).entry w0, [], none⟩) (fr := (22, int 0) :: (20, .slice (some ⟨gA, 0, none⟩) ps.l.length ps.l.length) :: (21, int ps.l.length) :: fr0 gs g3 g5 g6 g7) ?_ hok; refine tc_block (tc_loop ?_); refine tc_more (m := (40 * (accs c ps.l qs.l gB).length + 20 + 40) + 10 + 40 * (accs c ps.l qs.l gB).length) (by omega) ?_; refine tc_sub (by rw [← hal]; repeat constructor) (spawns (b2 := gs) (cap := ps.l.length) rfl rfl hk hM _ ?_ (accs c ps.l qs.l gB).length 0 (by omega)); refine tc_seq (tc_region ?_); refine tr_makeFunc rfl rfl hk' rfl rfl ?_; refine at_go (f := 89) (cap := [ptrB g5, ptrB g7, ptrB g6]) (h1 := []) (h2 := [(go, .cells (List.replicate ps.l.length (int 0)).toArray 3 (0, 0))]) rfl hk' rfl (by simp) (fun q hq => hq) (by rintro k ⟨q, hq, _⟩; cases hq) (by simp) (.inr ⟨rfl, fol_c (by omega) hM.hB hM.h5 hM.n5, ?_⟩); refine tc_nil (tc_seq (tc_seq (tc_region ?_))); refine tr_load (v := .chan (some gF)) rfl rfl hk' T.cell_chan_bold_numbered rfl (atc_base hM.hB.h6 hM.hB.n6.1 hM.hB.n6.2.1 hM.hB.n6.2.2 rfl) ?_; refine tc_nil (tc_block (tc_loop ?_)); refine tc_more (m := 40 * (accs c ps.l qs.l gB).length + 20) (by omega) ?_; refine tc_sub (by repeat constructor) (gets (b2 := gs) rfl rfl rfl hk hM (fun w he ho a ha => ?_) (accs c ps.l qs.l gB).length (List.range (accs c ps.l qs.l gB).length) _ hrl List.nodup_range (fun j hj => List.mem_range.1 hj) (by simp [hal]) (fun j hj hn => absurd (List.mem_range.2 hj) hn)); rw [acOut_eq] at ho; refine co_hc (fr := fr0 gs g3 g5 g6 g7) ?_ ha (wi_after (p := ph w' gF gL go (accs c ps.l qs.l gB).length (acV how c.2.2.2.2.1 (accs c ps.l qs.l gB))) hwi (f := chanO 0 [] 0 0) (l := chanO ps.l.length [] 0 0) (o := .cells (List.replicate ps.l.length (int 0)).toArray 3 (0, 0)) (rest := [(g7, Obj.cells #[.chan (some gL)] 137 (0, 0)), (g6, .cells #[.chan (some gF)] 136 (0, 0)), (g5, .cells #[.slice (some ⟨go, 0, none⟩) ps.l.length ps.l.length] 24 (0, 0)), (g3, .cells #[.func (.func how) #[] #[]] 96 (0, 0)), (gs, .cells (saC c ps qs) 27 (0, 0))]) (perm_of fun q => by simp only [List.countP_cons, List.countP_nil]; omega) he ho) hk hc; refine hc_seq (hc_region ?_); refine r_load (v := .slice (some ⟨go, 0, none⟩) ps.l.length ps.l.length) rfl T.cell_ints rfl (cell_own (by repeat constructor) rfl) ?_; refine r_assign rfl rfl (hl_nil (then_n (hc_ret ?_))); exact ret1 go rfl rfl rfl trivial (.cons_cons _ (List.nil_sublist _)) trivial
end Go.Proofs.YtdlbbfcfahahdaaGreat
end
section
namespace Go.Proofs.YtdlbbfcfahahdaaGreat
open Go Go.W
set_option maxRecDepth 20000
attribute [local irreducible] HL HC HQ HB Row Rows2 Blk Facts
def adErr (n : Nat) (x : Ad) : Int := if ¬ (0 ≤ x.1 ∧ x.1 ≤ (n : Int) - 1) then 3 else if ¬ (1 ≤ x.2.1 ∧ x.2.1 ≤ 3) then 8 else if ¬ (1 ≤ x.2.2 ∧ x.2.2 ≤ 6) ∨ (x.2.1 = 1 ∧ ¬ x.2.2 = 1) then 1 else 0
def firstE (n : Nat) : List Ad → Int
  | [] => 0
  | x :: r => if ¬ adErr n x = 0 then adErr n x else firstE n r
def chQ (c : Ch) : List Int := [c.1, c.2.1, c.2.2.1, c.2.2.2.1]
def chkS (c : Ch) (ss : List Int) (xs : List Ad) : Int :=
  if ¬ ∀ v ∈ chQ c, 0 ≤ v ∧ v ≤ 999 then 1 else if ¬ (0 ≤ c.2.2.2.2.1 ∧ c.2.2.2.2.1 ≤ 50) ∨ ¬ (1 ≤ c.2.2.2.2.2 ∧ c.2.2.2.2.2 ≤ 5) then 1 else if ss.length = 0 then 7 else if 5 < ss.length then 6
  else if ¬ ∀ s ∈ ss, 0 ≤ s ∧ s ≤ 9 then 1 else if 8 < xs.length then 6 else firstE ss.length xs
theorem firstE_drop (n : Nat) {xs : List Ad} {k : Nat} (hk : k < xs.length) : firstE n (xs.drop k) = if ¬ adErr n (xs.getD k default) = 0 then adErr n (xs.getD k default) else firstE n (xs.drop (k + 1)) := by
  rw [List.drop_eq_getElem_cons hk, firstE, getD_at hk]
theorem firstE_zero {n : Nat} : ∀ {xs : List Ad}, firstE n xs = 0 → ∀ x ∈ xs, adErr n x = 0
  | [], _, x, hx => by cases hx
  | y :: r, h, x, hx => by
    rw [firstE] at h
    split at h
    · rename_i e; exact absurd h e
    · rename_i e
      rcases List.mem_cons.1 hx with rfl | hx
      · exact Classical.not_not.1 e
      · exact firstE_zero h x hx
theorem ad_ok {n : Nat} {x : Ad} (h : adErr n x = 0) : (0 ≤ x.1 ∧ x.1 < (n : Int)) ∧ (1 ≤ x.2.1 ∧ x.2.1 ≤ 3) ∧ (1 ≤ x.2.2 ∧ x.2.2 ≤ 6) := by
  unfold adErr at h
  split at h
  · cases h
  · split at h
    · cases h
    · split at h
      · cases h
      · omega
theorem sa_ok {c : Ch} {ss : List Int} {xs : List Ad} (h : chkS c ss xs = 0) : SaOK c ss xs := by
  unfold chkS at h
  split at h
  · cases h
  · rename_i h1
    split at h
    · cases h
    · rename_i h2
      split at h
      · cases h
      · rename_i h3
        split at h
        · cases h
        · rename_i h4
          split at h
          · cases h
          · rename_i h5
            split at h
            · cases h
            · rename_i h6
              have h1 := Classical.not_not.1 h1; have h5 := Classical.not_not.1 h5; have q1 := h1 c.1 (by simp [chQ]); have q2 := h1 c.2.1 (by simp [chQ]); have q3 := h1 c.2.2.1 (by simp [chQ]); have q4 := h1 c.2.2.2.1 (by simp [chQ]); exact ⟨⟨q1, q2, q3, q4, by omega, by omega⟩, by omega, by omega, h5, by omega, fun x hx => ad_ok (firstE_zero h x hx)⟩
theorem nbt {p : Prop} [Decidable p] (h : (!decide p) = true) : ¬ p := by simpa using h
theorem nbf {p : Prop} [Decidable p] (h : (!decide p) = false) : p := by simpa using h
theorem all_take {α : Type} [Inhabited α] {l : List α} {p : α → Prop} (h : ∀ j, j < l.length → p (l.getD j default)) : ∀ x ∈ l, p x := fun x hx => by
  obtain ⟨j, hj, rfl⟩ := List.getElem_of_mem hx; rw [← getD_at hj]; exact h j hj
theorem nall_at {α : Type} [Inhabited α] {l : List α} {p : α → Prop} {k : Nat} (hk : k < l.length) (h : ¬ p (l.getD k default)) : ¬ ∀ x ∈ l, p x := fun ha => h (ha _ (getD_mem hk))
theorem bold_advertError_meets (c : Ch) (ps : Sl Int) (qs : Sl Ad) (x : Ad) (hn : ps.l.length ≤ 1000000) : Meets Tryz.prog F.bold_advertError [saV c ps qs, adV x] { LI := saL ps qs, val := fun _ : Unit => int (adErr ps.l.length x) } := by
 refine meets_intro F.bold_advertError_f rfl (Nat.le_of_ble_eq_true rfl) fun w0 => ?_; refine hc_seq (hc_region ?_); refine r_box rfl rfl fun gB => ?_; refine r_box rfl rfl fun gB => ?_; refine r_assign rfl rfl (hl_nil (then_n (hc_seq (hc_block (hc_seq (hc_region ?_)))))); refine r_fieldAddr ⟨_, 0, none⟩ rfl rfl T.fa_api_Advert_0 rfl ?_; refine r_load rfl T.cell_int rfl (cell_own mB rfl) ?_; refine r_fieldAddr ⟨_, 6, none⟩ rfl rfl T.fa_api_Sales_1 rfl ?_; refine r_load rfl T.cell_ints rfl (cell_own mB rfl) ?_; refine r_len_sl rfl T.u_ints rfl ?_; refine r_sub _ rfl rfl rfl rfl (by unfold I64; omega) ?_; refine hl_call F.bold_between_cb rfl rfl (bold_between_meets _ _ _) (List.Perm.refl _) trivial fun _ _ => ?_; refine r_not rfl rfl (r_assign rfl rfl (hl_nil (then_n ?_))); refine hc_cond rfl (fun hb1 => ?_) (fun hb1 => ?_)
 ·have hb1' := hb1; try simp at hb1'
  refine hc_seq (hc_region (r_assign rfl rfl (hl_nil (then_n (hc_ret (inb_ret (then_ret ?_))))))); exact ret1 () rfl (by show some _ = some (int (adErr ps.l.length x)); unfold adErr; rw [if_pos (by omega)]) rfl trivial (List.nil_sublist _) trivial
 ·have hb1' := hb1; try simp at hb1'
  refine hc_seq (hc_region ?_); refine r_fieldAddr ⟨_, 1, none⟩ rfl rfl T.fa_api_Advert_1 rfl ?_; refine r_load rfl T.cell_int rfl (cell_own mB rfl) ?_; refine hl_call F.bold_between_cb rfl rfl (bold_between_meets _ _ _) (List.Perm.refl _) trivial fun _ _ => ?_; refine r_not rfl rfl (r_assign rfl rfl (hl_nil (then_n ?_))); refine hc_cond rfl (fun hb2 => ?_) (fun hb2 => ?_)
  ·have hb2' := hb2; try simp at hb2'
   refine hc_seq (hc_region (r_assign rfl rfl (hl_nil (then_n (hc_ret (inb_ret (then_ret ?_))))))); exact ret1 () rfl (by show some _ = some (int (adErr ps.l.length x)); unfold adErr; rw [if_neg (by omega), if_pos (by omega)]) rfl trivial (List.nil_sublist _) trivial
  ·have hb2' := hb2; try simp at hb2'
   refine hc_seq (hc_region ?_); refine r_fieldAddr ⟨_, 2, none⟩ rfl rfl T.fa_api_Advert_2 rfl ?_; refine r_load rfl T.cell_int rfl (cell_own mB rfl) ?_; refine hl_call F.bold_between_cb rfl rfl (bold_between_meets _ _ _) (List.Perm.refl _) trivial fun _ _ => ?_; refine r_not rfl rfl (r_move rfl rfl ?_); refine g_split rfl rfl ?_ ?_
   ·intro hg1; have hg1' := hg1; try simp at hg1'
    refine g_yes rfl rfl hg1 ?_; refine r_fieldAddr ⟨_, 1, none⟩ rfl rfl T.fa_api_Advert_1 rfl ?_; refine g_yes rfl rfl hg1 ?_; refine r_load rfl T.cell_int rfl (cell_own mB rfl) ?_; refine g_yes rfl rfl hg1 (r_eql rfl rfl rfl (g_yes rfl rfl hg1 (r_move rfl rfl ?_))); refine g_split rfl rfl ?_ ?_
    ·intro hg2; have hg2' := hg2; try simp at hg2'
     refine g_yes rfl rfl hg2 ?_; refine r_fieldAddr ⟨_, 2, none⟩ rfl rfl T.fa_api_Advert_2 rfl ?_; refine g_yes rfl rfl hg2 ?_; refine r_load rfl T.cell_int rfl (cell_own mB rfl) ?_; refine g_yes rfl rfl hg2 (r_neq rfl rfl rfl (g_yes rfl rfl hg1 ?_)); refine p_t rfl rfl (bt1 hg2) rfl ?_; refine p_f rfl rfl (bf1 hg1) rfl ?_; refine r_assign rfl rfl (hl_nil (then_n ?_)); refine c_dec rfl (fun hb3 => ?_) (fun hb3 => ?_)
     ·have hb3' := hb3; try simp at hb3'
      refine hc_seq (hc_region (r_assign rfl rfl (hl_nil (then_n (hc_ret (inb_ret (then_ret ?_))))))); exact ret1 () rfl (by show some _ = some (int (adErr ps.l.length x)); unfold adErr; rw [if_neg (by omega), if_neg (by omega), if_pos (by omega)]) rfl trivial (List.nil_sublist _) trivial
     ·have hb3' := hb3; try simp at hb3'
      refine hc_skip (inb_n (then_n (hc_seq (hc_region (r_assign rfl rfl (hl_nil (then_n (hc_ret ?_)))))))); exact ret1 () rfl (by show some _ = some (int (adErr ps.l.length x)); unfold adErr; rw [if_neg (by omega), if_neg (by omega), if_neg (by omega)]) rfl trivial (List.nil_sublist _) trivial
    ·intro hg2; have hg2' := hg2; try simp at hg2'
     refine g_no rfl rfl rfl rfl rfl hg2 (g_no rfl rfl rfl rfl rfl hg2 (g_no rfl rfl rfl rfl rfl hg2 (g_yes rfl rfl hg1 ?_))); refine p_f rfl rfl (bf2 hg2) rfl ?_; refine p_f rfl rfl (bf1 hg1) rfl ?_; refine r_assign rfl rfl (hl_nil (then_n (c_f rfl rfl (hc_skip (inb_n (then_n (hc_seq (hc_region (r_assign rfl rfl (hl_nil (then_n ?_))))))))))); refine hc_ret ?_; exact ret1 () rfl (by show some _ = some (int (adErr ps.l.length x)); unfold adErr; rw [if_neg (by omega), if_neg (by omega), if_neg (by omega)]) rfl trivial (List.nil_sublist _) trivial
   ·intro hg1; have hg1' := hg1; try simp at hg1'
    refine g_no rfl rfl rfl rfl rfl hg1 (g_no rfl rfl rfl rfl rfl hg1 (g_no rfl rfl rfl rfl rfl hg1 (g_no rfl rfl rfl rfl rfl hg1 (g_und rfl rfl rfl rfl rfl rfl (g_und rfl rfl rfl rfl rfl rfl (g_und rfl rfl rfl rfl rfl rfl (g_no rfl rfl rfl rfl rfl hg1 ?_))))))); refine p_t rfl rfl (bt2 hg1) rfl ?_; refine r_assign rfl rfl (hl_nil (then_n (c_t rfl rfl (hc_seq (hc_region (r_assign rfl rfl (hl_nil (then_n (hc_ret (inb_ret (then_ret ?_))))))))))); exact ret1 () rfl (by show some _ = some (int (adErr ps.l.length x)); unfold adErr; rw [if_neg (by omega), if_neg (by omega), if_pos (by omega)]) rfl trivial (List.nil_sublist _) trivial
theorem bold_Check_meets (c : Ch) (ps : Sl Int) (qs : Sl Ad) (hn : ps.l.length ≤ 1000000) (hm : qs.l.length ≤ 1000000) : Meets Tryz.prog F.bold_Check [saV c ps qs] { LI := saL ps qs, val := fun _ : Unit => int (chkS c ps.l qs.l) } := by
 refine meets_intro F.bold_Check_f rfl (Nat.le_of_ble_eq_true rfl) fun w0 => ?_; refine hc_seq (hc_region ?_); refine r_box rfl rfl fun gB => ?_; refine r_assign rfl rfl (hl_nil (then_n (hc_seq (hc_region ?_)))); refine r_fieldAddr ⟨_, 0, none⟩ rfl rfl T.fa_api_Sales_0 rfl ?_; refine r_loadS (cs := [int c.1, int c.2.1, int c.2.2.1, int c.2.2.2.1, int c.2.2.2.2.1, int c.2.2.2.2.2]) rfl T.row_api_Charges T.sz_api_Charges rfl rfl (cells_own (o := 0) mB (cells_pre rfl)) ?_; refine r_alloc rfl (fun _ => T.al_api_Charges _) fun gA => ?_; refine r_storeS rfl rfl (by first | exact .refl _ | exact perm2 _ _ _ | exact perm3 _ _ _ _ | exact perm4 _ _ _ _ _) T.sz_api_Charges (by rfl) (by rfl) ?_; refine hl_nil (then_n (hc_seq (hc_seq (hc_region ?_)))); refine r_fieldAddr ⟨_, 0, none⟩ rfl rfl T.fa_api_Charges_0 rfl ?_; refine r_load rfl T.cell_int rfl (cell_own mB rfl) ?_; refine r_fieldAddr ⟨_, 1, none⟩ rfl rfl T.fa_api_Charges_1 rfl ?_; refine r_load rfl T.cell_int rfl (cell_own mB rfl) ?_; refine r_fieldAddr ⟨_, 2, none⟩ rfl rfl T.fa_api_Charges_2 rfl ?_; refine r_load rfl T.cell_int rfl (cell_own mB rfl) ?_; refine r_fieldAddr ⟨_, 3, none⟩ rfl rfl T.fa_api_Charges_3 rfl ?_; refine r_load rfl T.cell_int rfl (cell_own mB rfl) ?_; refine r_buildSlice _ rfl rfl (fun _ => T.bs_ints_4 ..) fun gS => ?_; refine hl_letgo (rows (chQ c)) (List.prefix_refl _) ?_; refine r_len_sl rfl T.u_ints rfl ?_; refine r_move rfl rfl (hl_nil (then_n (hc_block ?_))); refine hc_loop (β := Nat) ⟨fun k => k ≤ 4 ∧ ∀ j, j < k → (fun v : Int => 0 ≤ v ∧ v ≤ 999) ((chQ c).getD j default), fun k => [(1, .pointer (some ⟨gB, 0, none⟩)), (3, .pointer (some ⟨gA, 0, none⟩)), (21, .slice (some ⟨gS, 0, none⟩) 4 4), (22, int 4), (23, int k)], fun _ => [(gA, Obj.cells #[int c.1, int c.2.1, int c.2.2.1, int c.2.2.2.1, int c.2.2.2.2.1, int c.2.2.2.2.2] T.api_Charges (0, 0)), (gB, Obj.cells (saC c ps qs) T.api_Sales (0, 0))], fun _ => Row (some ⟨gS, 0, none⟩) (rows (chQ c)) :: saL ps qs⟩ (fun k => 4 - k) 0 ⟨Nat.zero_le _, fun j hj => absurd hj (Nat.not_lt_zero j)⟩ ⟨rfl, rfl, rfl, rfl, rfl, trivial⟩ (.refl _) ⟨mB, mB, mB, trivial⟩ fun k hk => ?_; obtain ⟨hk, hq⟩ := hk; refine hc_seq (hc_region (r_lss rfl rfl rfl (hl_nil (then_n (hc_seq ?_))))); refine c_dec rfl (fun hb1 => ?_) (fun hb1 => ?_)
 ·have hb1' := hb1; try simp at hb1'
  have hk2 : k < (chQ c).length := by show k < 4; omega
  refine hc_skip (then_n (hc_seq (hc_block (hc_seq (hc_region ?_))))); refine r_elem (α := Int) (chQ c) k rfl T.u_ints T.sz_int rfl rfl rfl mB rfl hk2 (by decide) ?_; refine r_load (v := int ((chQ c).getD k default)) rfl T.cell_int rfl (cell_row mB (rows_get0 hk2 rfl)) ?_; refine r_assign rfl rfl (hl_nil (then_n (hc_seq (hc_region (r_move rfl rfl ?_))))); refine hl_call F.bold_between_cb rfl rfl (bold_between_meets _ _ _) (List.Perm.refl _) trivial fun _ _ => ?_; refine r_not rfl rfl (hl_nil (then_n ?_)); refine hc_cond rfl (fun hb2 => ?_) (fun hb2 => ?_)
  ·have hb2' := hb2; try simp at hb2'
   refine hc_seq (hc_region (r_assign rfl rfl (hl_nil (then_n (hc_ret (inb_ret (then_ret (then_ret (inb_ret (then_ret ?_)))))))))); exact ret1 () rfl (by show some _ = some (int (chkS c ps.l qs.l)); unfold chkS; rw [if_pos (nall_at (p := fun v : Int => 0 ≤ v ∧ v ≤ 999) hk2 (nbt hb2))]) rfl trivial (List.nil_sublist _) trivial
  ·have hb2' := hb2; try simp at hb2'
   refine hc_skip (inb_n (then_n (hc_region ?_))); refine r_add _ rfl rfl rfl rfl (by unfold I64; omega) ?_; refine r_move rfl rfl (hl_nil ?_); exact again _ (k + 1) ⟨by show k + 1 ≤ 4; omega, fun j hj => (Nat.lt_succ_iff_lt_or_eq.1 hj).elim (hq j) fun e => by subst e; exact nbf hb2⟩ (by show 4 - (k + 1) < 4 - k; omega) ⟨rfl, rfl, rfl, rfl, rfl, trivial⟩ (.refl _) ⟨mB, mB, mB, trivial⟩
 ·have hb1' := hb1; try simp at hb1'
  obtain rfl : k = 4 := by omega
  have hq := all_take (l := chQ c) (p := fun v : Int => 0 ≤ v ∧ v ≤ 999) hq; refine hc_exit (then_exit (then_exit (inb_hit (then_n (hc_seq (hc_block (hc_seq (hc_region ?_)))))))); refine r_fieldAddr ⟨_, 4, none⟩ rfl rfl T.fa_api_Charges_4 rfl ?_; refine r_load rfl T.cell_int rfl (cell_own mB rfl) ?_; refine hl_call F.bold_between_cb rfl rfl (bold_between_meets _ _ _) (List.Perm.refl _) trivial fun _ _ => ?_; refine r_not rfl rfl (r_move rfl rfl ?_); refine g_split rfl rfl ?_ ?_
  ·intro hg1; have hg1' := hg1; try simp at hg1'
   refine g_yes rfl rfl hg1 ?_; refine r_fieldAddr ⟨_, 5, none⟩ rfl rfl T.fa_api_Charges_5 rfl ?_; refine g_yes rfl rfl hg1 ?_; refine r_load rfl T.cell_int rfl (cell_own mB rfl) ?_; refine g_yes rfl rfl hg1 ?_; refine hl_call F.bold_between_cb rfl rfl (bold_between_meets _ _ _) (List.Perm.refl _) trivial fun _ _ => ?_; refine g_yes rfl rfl hg1 (r_not rfl rfl ?_); refine p_f rfl rfl (bf1 hg1) rfl ?_; refine r_assign rfl rfl (hl_nil (then_n ?_)); refine hc_cond rfl (fun hb3 => ?_) (fun hb3 => ?_)
   ·have hb3' := hb3; try simp at hb3'
    refine hc_seq (hc_region (r_assign rfl rfl (hl_nil (then_n (hc_ret (inb_ret (then_ret ?_))))))); exact ret1 () rfl (by show some _ = some (int (chkS c ps.l qs.l)); unfold chkS; rw [if_neg (Classical.not_not.2 hq), if_pos (.inr (nbt hb3))]) rfl trivial (List.nil_sublist _) trivial
   ·have hb3' := hb3; try simp at hb3'
    have hq2 : ¬ (¬ (0 ≤ c.2.2.2.2.1 ∧ c.2.2.2.2.1 ≤ 50) ∨ ¬ (1 ≤ c.2.2.2.2.2 ∧ c.2.2.2.2.2 ≤ 5)) := fun e => e.elim (fun e => e hg1') (fun e => e (nbf hb3)); refine hc_seq (hc_region ?_); refine r_fieldAddr ⟨_, 6, none⟩ rfl rfl T.fa_api_Sales_1 rfl ?_; refine r_load rfl T.cell_ints rfl (cell_own mB rfl) ?_; refine r_len_sl rfl T.u_ints rfl ?_; refine r_eql rfl rfl rfl (r_assign rfl rfl (hl_nil (then_n ?_))); refine c_dec rfl (fun hb4 => ?_) (fun hb4 => ?_)
    ·have hb4' := hb4; try simp at hb4'
     refine hc_seq (hc_region (r_assign rfl rfl (hl_nil (then_n (hc_ret (inb_ret (then_ret ?_))))))); exact ret1 () rfl (by show some _ = some (int (chkS c ps.l qs.l)); unfold chkS; rw [if_neg (Classical.not_not.2 hq), if_neg hq2, if_pos (by omega)]) rfl trivial (List.nil_sublist _) trivial
    ·have hb4' := hb4; try simp at hb4'
     refine hc_seq (hc_region ?_); refine r_fieldAddr ⟨_, 6, none⟩ rfl rfl T.fa_api_Sales_1 rfl ?_; refine r_load rfl T.cell_ints rfl (cell_own mB rfl) ?_; refine r_len_sl rfl T.u_ints rfl ?_; refine r_gtr rfl rfl rfl (r_assign rfl rfl (hl_nil (then_n ?_))); refine c_dec rfl (fun hb5 => ?_) (fun hb5 => ?_)
     ·have hb5' := hb5; try simp at hb5'
      refine hc_seq (hc_region (r_assign rfl rfl (hl_nil (then_n (hc_ret (inb_ret (then_ret ?_))))))); exact ret1 () rfl (by show some _ = some (int (chkS c ps.l qs.l)); unfold chkS; rw [if_neg (Classical.not_not.2 hq), if_neg hq2, if_neg (by omega), if_pos (by omega)]) rfl trivial (List.nil_sublist _) trivial
     ·have hb5' := hb5; try simp at hb5'
      refine hc_skip (inb_n (then_n (hc_seq (hc_seq (hc_region ?_))))); refine r_fieldAddr ⟨_, 6, none⟩ rfl rfl T.fa_api_Sales_1 rfl ?_; refine r_load rfl T.cell_ints rfl (cell_own mB rfl) ?_; refine r_len_sl rfl T.u_ints rfl ?_; refine r_move rfl rfl (hl_nil (then_n (hc_block ?_))); refine hc_loop (β := Nat) ⟨fun k => k ≤ ps.l.length ∧ ∀ j, j < k → (fun v : Int => 0 ≤ v ∧ v ≤ 9) (ps.l.getD j default), fun k => [(1, .pointer (some ⟨gB, 0, none⟩)), (53, .slice ps.a ps.l.length ps.c), (54, int ps.l.length), (55, int k)], fun _ => [(gB, Obj.cells (saC c ps qs) T.api_Sales (0, 0))], fun _ => saL ps qs⟩ (fun k => ps.l.length - k) 0 ⟨Nat.zero_le _, fun j hj => absurd hj (Nat.not_lt_zero j)⟩ ⟨rfl, rfl, rfl, rfl, trivial⟩ (.cons _ (.refl _)) ⟨mB, mB, trivial⟩ fun k hk => ?_; obtain ⟨hk, hq3⟩ := hk; refine hc_seq (hc_region (r_lss rfl rfl rfl (hl_nil (then_n (hc_seq ?_))))); refine c_dec rfl (fun hb6 => ?_) (fun hb6 => ?_)
      ·have hb6' := hb6; try simp at hb6'
       have hk6 : k < ps.l.length := by omega
       refine hc_skip (then_n (hc_seq (hc_block (hc_seq (hc_region ?_))))); refine r_elem (α := Int) _ _ rfl T.u_ints T.sz_int rfl rfl rfl mB rfl (by omega) (by decide) ?_; refine r_load rfl T.cell_int rfl (cell_row mB (rows_get0 (by omega) rfl)) ?_; refine r_assign rfl rfl (hl_nil (then_n (hc_seq (hc_region (r_move rfl rfl ?_))))); refine hl_call F.bold_between_cb rfl rfl (bold_between_meets _ _ _) (List.Perm.refl _) trivial fun _ _ => ?_; refine r_not rfl rfl (hl_nil (then_n ?_)); refine hc_cond rfl (fun hb7 => ?_) (fun hb7 => ?_)
       ·have hb7' := hb7; try simp at hb7'
        refine hc_seq (hc_region (r_assign rfl rfl (hl_nil (then_n (hc_ret (inb_ret (then_ret (then_ret (inb_ret (then_ret ?_)))))))))); exact ret1 () rfl (by show some _ = some (int (chkS c ps.l qs.l)); unfold chkS; rw [if_neg (Classical.not_not.2 hq), if_neg hq2, if_neg (by omega), if_neg (by omega), if_pos (nall_at (p := fun v : Int => 0 ≤ v ∧ v ≤ 9) hk6 (nbt hb7))]) rfl trivial (List.nil_sublist _) trivial
       ·have hb7' := hb7; try simp at hb7'
        refine hc_skip (inb_n (then_n (hc_region ?_))); refine r_add _ rfl rfl rfl rfl (by unfold I64; omega) ?_; refine r_move rfl rfl (hl_nil ?_); exact again _ (k + 1) ⟨by show k + 1 ≤ ps.l.length; omega, fun j hj => (Nat.lt_succ_iff_lt_or_eq.1 hj).elim (hq3 j) fun e => by subst e; exact nbf hb7⟩ (by show ps.l.length - (k + 1) < ps.l.length - k; omega) ⟨rfl, rfl, rfl, rfl, trivial⟩ (.refl _) ⟨mB, mB, trivial⟩
      ·have hb6' := hb6; try simp at hb6'
       obtain rfl : k = ps.l.length := by omega
       have hq3 := all_take (l := ps.l) (p := fun v : Int => 0 ≤ v ∧ v ≤ 9) hq3; refine hc_exit (then_exit (then_exit (inb_hit (then_n (hc_seq (hc_seq (hc_region ?_))))))); refine r_fieldAddr ⟨_, 7, none⟩ rfl rfl T.fa_api_Sales_2 rfl ?_; refine r_load rfl T.cell_L_api_Advert rfl (cell_own mB rfl) ?_; refine r_len_sl rfl T.u_L_api_Advert rfl ?_; refine r_gtr rfl rfl rfl (hl_nil (then_n ?_)); refine c_dec rfl (fun hb8 => ?_) (fun hb8 => ?_)
       ·have hb8' := hb8; try simp at hb8'
        refine hc_seq (hc_region (r_assign rfl rfl (hl_nil (then_n (hc_ret (then_ret ?_)))))); exact ret1 () rfl (by show some _ = some (int (chkS c ps.l qs.l)); unfold chkS; rw [if_neg (Classical.not_not.2 hq), if_neg hq2, if_neg (by omega), if_neg (by omega), if_neg (Classical.not_not.2 hq3), if_pos (by omega)]) rfl trivial (List.nil_sublist _) trivial
       ·have hb8' := hb8; try simp at hb8'
        refine hc_skip (then_n (hc_seq (hc_seq (hc_region ?_)))); refine r_fieldAddr ⟨_, 7, none⟩ rfl rfl T.fa_api_Sales_2 rfl ?_; refine r_load rfl T.cell_L_api_Advert rfl (cell_own mB rfl) ?_; refine r_len_sl rfl T.u_L_api_Advert rfl ?_; refine r_move rfl rfl (hl_nil (then_n (hc_block ?_))); refine hc_loop (β := Nat) ⟨fun k => k ≤ qs.l.length ∧ firstE ps.l.length qs.l = firstE ps.l.length (qs.l.drop k), fun k => [(1, .pointer (some ⟨gB, 0, none⟩)), (68, .slice qs.a qs.l.length qs.c), (69, int qs.l.length), (70, int k)], fun _ => [(gB, Obj.cells (saC c ps qs) T.api_Sales (0, 0))], fun _ => saL ps qs⟩ (fun k => qs.l.length - k) 0 ⟨Nat.zero_le _, rfl⟩ ⟨rfl, rfl, rfl, rfl, trivial⟩ (.refl _) ⟨mB, mB, trivial⟩ fun k hk => ?_; obtain ⟨hk, hfe⟩ := hk; refine hc_seq (hc_region (r_lss rfl rfl rfl (hl_nil (then_n (hc_seq ?_))))); refine c_dec rfl (fun hb9 => ?_) (fun hb9 => ?_)
        ·have hb9' := hb9; try simp at hb9'
         have hk9 : k < qs.l.length := by omega
         refine hc_skip (then_n (hc_seq (hc_block (hc_seq (hc_region ?_))))); refine r_elem (α := Ad) _ _ rfl T.u_L_api_Advert T.sz_api_Advert rfl rfl rfl mB rfl (by omega) (by decide) ?_; refine r_loadS rfl T.row_api_Advert T.sz_api_Advert rfl rfl (cells_row mB (rows_all (by omega))) ?_; refine r_alloc rfl (fun _ => T.al_api_Advert _) fun gA => ?_; refine r_storeS rfl rfl (by first | exact .refl _ | exact perm2 _ _ _ | exact perm3 _ _ _ _ | exact perm4 _ _ _ _ _) T.sz_api_Advert (by rfl) (by rfl) ?_; refine hl_nil (then_n (hc_seq (hc_region ?_))); refine r_loadA rfl T.row_api_Sales T.sz_api_Sales rfl mB (by rfl) ?_; refine r_loadA rfl T.row_api_Advert T.sz_api_Advert rfl mB (by rfl) ?_; refine hl_call F.bold_advertError_cb rfl rfl (bold_advertError_meets c ps qs (qs.l.getD k default) hn) (List.Perm.refl _) ⟨mB, mB, trivial⟩ fun _ _ => ?_; refine r_assign rfl rfl (hl_nil (then_n (hc_seq (hc_region (r_move rfl rfl (r_neq rfl rfl rfl (hl_nil (then_n ?_)))))))); refine c_dec rfl (fun hb10 => ?_) (fun hb10 => ?_)
         ·have hb10' := hb10; try simp at hb10'
          refine hc_seq (hc_region (r_move rfl rfl (r_assign rfl rfl (hl_nil (then_n (hc_ret (inb_ret (then_ret (then_ret (inb_ret (then_ret ?_))))))))))); exact ret1 () rfl (by show some _ = some (int (chkS c ps.l qs.l)); unfold chkS; rw [if_neg (Classical.not_not.2 hq), if_neg hq2, if_neg (by omega), if_neg (by omega), if_neg (Classical.not_not.2 hq3), if_neg (by omega), hfe, firstE_drop _ hk9, if_pos hb10]) rfl trivial (List.nil_sublist _) trivial
         ·have hb10' := hb10; try simp at hb10'
          refine hc_skip (inb_n (then_n (hc_region ?_))); refine r_add _ rfl rfl rfl rfl (by unfold I64; omega) ?_; refine r_move rfl rfl (hl_nil ?_); exact again _ (k + 1) ⟨by show k + 1 ≤ qs.l.length; omega, by rw [hfe, firstE_drop _ hk9, if_neg hb10]⟩ (by show qs.l.length - (k + 1) < qs.l.length - k; omega) ⟨rfl, rfl, rfl, rfl, trivial⟩ (.cons _ (.refl _)) ⟨mB, mB, trivial⟩
        ·have hb9' := hb9; try simp at hb9'
         obtain rfl : k = qs.l.length := by omega
         refine hc_exit (then_exit (then_exit (inb_hit (then_n (hc_seq (hc_region (r_assign rfl rfl (hl_nil (then_n (hc_ret ?_)))))))))); exact ret1 () rfl (by show some _ = some (int (chkS c ps.l qs.l)); unfold chkS; rw [if_neg (Classical.not_not.2 hq), if_neg hq2, if_neg (by omega), if_neg (by omega), if_neg (Classical.not_not.2 hq3), if_neg (by omega), hfe, List.drop_length]; rfl) rfl trivial (List.nil_sublist _) trivial
  ·intro hg1; have hg1' := hg1; try simp at hg1'
   refine g_no rfl rfl rfl rfl rfl hg1 (g_no rfl rfl rfl rfl rfl hg1 (g_no rfl rfl rfl rfl rfl hg1 (g_no rfl rfl rfl rfl rfl hg1 ?_))); refine p_t rfl rfl (bt2 hg1) rfl ?_; refine r_assign rfl rfl (hl_nil (then_n (c_t rfl rfl (hc_seq (hc_region (r_assign rfl rfl (hl_nil (then_n (hc_ret (inb_ret (then_ret ?_))))))))))); exact ret1 () rfl (by show some _ = some (int (chkS c ps.l qs.l)); unfold chkS; rw [if_neg (Classical.not_not.2 hq), if_pos (.inl (by omega))]) rfl trivial (List.nil_sublist _) trivial
theorem bold_bills_meets (c : Ch) (ps : Sl Int) (qs : Sl Ad) (h : SaOK c ps.l qs.l) : Meets Tryz.prog F.bold_bills [saV c ps qs] (reckCon 58 c ps qs) := by
 refine meets_intro F.bold_bills_f rfl (Nat.le_of_ble_eq_true rfl) fun w0 => ?_; refine hc_seq (hc_region ?_); refine r_box rfl rfl fun gB => ?_; refine r_assign rfl rfl (hl_nil (then_n (hc_seq (hc_region ?_)))); refine r_loadA rfl T.row_api_Sales T.sz_api_Sales rfl mB (by rfl) ?_; refine hl_call F.bold_reckon_cb rfl rfl (bold_reckon_meets c ps qs 58 (.inr rfl) h) (List.Perm.refl _) ⟨mB, mB, trivial⟩ fun g _ => ?_; refine r_assign rfl rfl (hl_nil (then_n (hc_ret ?_))); exact ret1 g rfl rfl rfl trivial (.cons_cons _ (List.nil_sublist _)) trivial
end Go.Proofs.YtdlbbfcfahahdaaGreat
end
section
namespace Go.Proofs.YtdlbbfcfahahdaaGreat
open Go Go.W
set_option maxRecDepth 20000
attribute [local irreducible] HL HC HQ HB Row Rows2 Blk Facts
theorem sum_take {l : List Int} {k : Nat} (hk : k < l.length) : (l.take (k + 1)).sum = (l.take k).sum + l.getD k default := by
  rw [List.take_succ_eq_append_getElem hk, List.sum_append, getD_at hk]; simp
theorem sum_bd {l : List Int} (h : ∀ v ∈ l, 0 ≤ v ∧ v ≤ 1000000000) : ∀ k, 0 ≤ (l.take k).sum ∧ (l.take k).sum ≤ 1000000000 * (k : Int)
  | 0 => by simp
  | k + 1 => by
    have ih := sum_bd h k
    rcases Nat.lt_or_ge k l.length with hk | hk
    · rw [sum_take hk]
      have := h _ (getD_mem hk)
      omega
    · rw [List.take_of_length_le (by omega)]
      rw [List.take_of_length_le hk] at ih
      omega
theorem bold_sum_meets {A : Option Addr} {c : Nat} (l : List Int) (h : ∀ v ∈ l, 0 ≤ v ∧ v ≤ 1000000000) (hn : l.length ≤ 1000000) : Meets Tryz.prog F.bold_sum [.slice A l.length c] { LI := [Row A (rows l)], val := fun _ : Unit => int l.sum } := by
 refine meets_intro F.bold_sum_f rfl (Nat.le_of_ble_eq_true rfl) fun w0 => ?_; refine hc_seq (hc_region (r_assign rfl rfl (hl_nil (then_n (hc_seq (hc_region (r_assign rfl rfl (hl_nil (then_n (hc_seq (hc_seq ?_))))))))))); refine hc_region (r_move rfl rfl ?_); refine r_len_sl rfl T.u_ints rfl ?_; refine r_move rfl rfl (hl_nil (then_n (hc_block ?_))); refine hc_loop (β := Nat) ⟨fun k => k ≤ l.length, fun k => [(6, .slice A l.length c), (7, int l.length), (3, int (l.take k).sum), (8, int k)], fun _ => [], fun _ => [Row A (rows l)]⟩ (fun k => l.length - k) 0 (Nat.zero_le _) ⟨rfl, rfl, rfl, rfl, trivial⟩ (.refl _) ⟨mB, trivial⟩ fun k hk => ?_; simp only at hk; have hb0 := sum_bd h k; refine hc_seq (hc_region (r_lss rfl rfl rfl (hl_nil (then_n (hc_seq ?_)))))
 first | refine c_dec rfl (fun hb1 => ?_) (fun hb1 => ?_) | refine hc_cond rfl (fun hb1 => ?_) (fun hb1 => ?_)
 ·have hb1' := hb1; try simp at hb1'
  have hk2 : k < l.length := by omega
  have hv := h _ (getD_mem hk2); refine hc_skip (then_n (hc_seq (hc_block (hc_seq (hc_region ?_))))); refine r_elem (α := Int) _ _ rfl T.u_ints T.sz_int rfl rfl rfl mB rfl (by omega) (by decide) ?_; refine r_load rfl T.cell_int rfl (cell_row mB (rows_get0 (by omega) rfl)) ?_; refine r_assign rfl rfl (hl_nil (then_n (hc_region (r_move rfl rfl (r_move rfl rfl ?_))))); refine r_add _ rfl rfl rfl rfl (by unfold I64; omega) ?_; refine r_assign rfl rfl (hl_nil (inb_n (then_n (hc_region ?_)))); refine r_add _ rfl rfl rfl rfl (by unfold I64; omega) ?_; refine r_move rfl rfl (hl_nil ?_); exact again _ (k + 1) (by show k + 1 ≤ l.length; omega) (by show l.length - (k + 1) < l.length - k; omega) ⟨rfl, rfl, by show some (int ((l.take k).sum + l.getD k default)) = some (int (l.take (k + 1)).sum); rw [sum_take hk2], rfl, trivial⟩ (.refl _) ⟨mB, trivial⟩
 ·have hb1' := hb1; try simp at hb1'
  obtain rfl : k = l.length := by omega
  refine hc_exit (then_exit (then_exit (inb_hit (then_n (hc_seq (hc_region (r_move rfl rfl (r_assign rfl rfl (hl_nil (then_n (hc_ret ?_))))))))))); exact ret1 () rfl (by show some _ = some (int l.sum); rw [List.take_length]) rfl trivial (List.nil_sublist _) trivial
theorem bold_with_meets (c : Ch) (ps : Sl Int) (qs : Sl Ad) (x : Ad) (hl : qs.l.length ≤ 1000) (hc : qs.l.length ≤ qs.c) : Meets Tryz.prog F.bold_with [saV c ps qs, adV x] { LI := saL ps qs, inv := fun q : Sl Ad => q.l = qs.l ++ [x] ∧ q.l.length ≤ q.c, val := fun q => saV c ps q, LO := fun q => [Row q.a (rows q.l)] } := by
 refine meets_intro F.bold_with_f rfl (Nat.le_of_ble_eq_true rfl) fun w0 => ?_; refine hc_seq (hc_region ?_); refine r_box rfl rfl fun gT => ?_; refine r_box rfl rfl fun gB => ?_; refine r_alloc rfl (fun _ => T.al_api_Sales _) fun gA => ?_; refine hl_nil (then_n (hc_seq (hc_region ?_)))
 first | refine r_fieldAddr ⟨_, 7, none⟩ rfl rfl T.fa_api_Sales_2 rfl ?_ | refine r_fieldAddr _ rfl rfl T.fa_api_Sales_2 rfl ?_
 first | refine r_load rfl T.cell_L_api_Advert rfl (cell_own mB rfl) ?_ | refine r_load rfl T.cell_L_api_Advert rfl (cell_blk mB rfl) ?_ | refine r_load rfl T.cell_L_api_Advert rfl (cell_row mB (rows_get0 (by omega) rfl)) ?_ | refine r_load rfl T.cell_L_api_Advert rfl (cell_row_f mB (rows_get (by omega) rfl)) ?_ | refine r_load rfl T.cell_L_api_Advert rfl (cell_rowg mB rfl) ?_
 refine r_len_sl rfl T.u_L_api_Advert rfl ?_; refine r_assign rfl rfl (hl_nil (then_n (hc_seq ?_))); refine hc_draw 7 mixed (by decide) (by decide) rfl rfl ?_
 apply hb_ex _ rfl rfl rfl
 ·intro w1
  first | refine r_fieldAddr ⟨_, 7, none⟩ rfl rfl T.fa_api_Sales_2 rfl ?_ | refine r_fieldAddr _ rfl rfl T.fa_api_Sales_2 rfl ?_
  refine hl_nil ?_; exact qe_done rfl
 apply hb_ex _ rfl rfl rfl
 ·intro w1
  first | refine r_load rfl T.cell_L_api_Advert rfl (cell_blk mB rfl) ?_ | refine r_load rfl T.cell_L_api_Advert rfl (cell_own mB rfl) ?_ | refine r_load rfl T.cell_L_api_Advert rfl (cell_row mB (rows_get0 (by omega) rfl)) ?_ | refine r_load rfl T.cell_L_api_Advert rfl (cell_row_f mB (rows_get (by omega) rfl)) ?_ | refine r_load rfl T.cell_L_api_Advert rfl (cell_rowg mB rfl) ?_
  refine hl_nil ?_; exact qe_done rfl
 refine hb_ex _ rfl rfl rfl (fun w1 => r_move rfl rfl (hl_nil (qe_done rfl))) ?_; refine hb_ex _ rfl rfl rfl (fun w1 => r_move rfl rfl (hl_nil (qe_done rfl))) ?_; refine hb_ex _ rfl rfl rfl (fun w1 => r_slice_hm qs.l.length qs.l.length rfl T.u_L_api_Advert T.sz_api_Advert rfl rfl rfl rfl rfl (Nat.le_refl _) hc (hl_nil (qe_done rfl))) ?_
 apply hb_ex _ rfl rfl rfl
 ·intro w1
  first | refine r_loadA rfl T.row_api_Advert T.sz_api_Advert rfl mB (by rfl) ?_ | refine r_loadB rfl T.row_api_Advert T.sz_api_Advert rfl mB (by rfl) ?_ | refine r_loadS rfl T.row_api_Advert T.sz_api_Advert rfl rfl (cells_row mB (rows_all (by omega))) ?_
  refine hl_nil ?_; exact qe_done rfl
 refine hb_vs ⟨Nat, fun _ => True, fun g1 => .slice (some ⟨g1, 0, none⟩) 1 1, fun g1 => [Row (some ⟨g1, 0, none⟩) (rows [x])]⟩ rfl rfl rfl ?_ ?_
 ·intro w1; refine r_buildSlice _ rfl rfl (fun _ => T.bs_L_api_Advert_1 ..) fun gS => ?_; refine hl_nil ?_; refine hq_letgo (rows [x]) (List.prefix_refl _) ?_; exact qv_done gS trivial rfl ⟨m0, trivial⟩
 refine hb_nil ⟨rfl, ?_⟩; intro g1 _; refine r_append_full (qs.l ++ [x]).length (rows (qs.l ++ [x])) T.el_L_api_Advert rfl rfl rfl mB (rows_len qs.l) (Src.row (news := rows [x]) (m := 1) mB rfl (rows_one _) (by decide)) (by simp) (rows_append qs.l [x]).symm (by simp; unfold maxLen; omega) (by simp; omega) fun A1 c1 hc1 => ?_
 first | refine r_fieldAddr ⟨_, 7, none⟩ rfl rfl T.fa_api_Sales_2 rfl ?_ | refine r_fieldAddr _ rfl rfl T.fa_api_Sales_2 rfl ?_
 refine r_store rfl rfl (by first | exact .refl _ | exact perm2 _ _ _ | exact perm3 _ _ _ _ | exact perm4 _ _ _ _ _) T.sz_L_api_Advert (by rfl) (by rfl) ?_; refine hl_nil (then_n (hc_seq (hc_region ?_)))
 first | refine r_loadA rfl T.row_api_Sales T.sz_api_Sales rfl mB (by rfl) ?_ | refine r_loadB rfl T.row_api_Sales T.sz_api_Sales rfl mB (by rfl) ?_ | refine r_loadS rfl T.row_api_Sales T.sz_api_Sales rfl rfl (cells_row mB (rows_all (by omega))) ?_
 refine r_storeS rfl rfl (by first | exact .refl _ | exact perm2 _ _ _ | exact perm3 _ _ _ _ | exact perm4 _ _ _ _ _) T.sz_api_Sales (by rfl) (by rfl) ?_; refine hl_nil (then_n (hc_ret ?_)); exact ret_row (⟨A1, c1, qs.l ++ [x]⟩ : Sl Ad) rfl rfl T.row_api_Sales T.sz_api_Sales rfl m0 rfl rfl ⟨rfl, hc1⟩ (List.nil_sublist _) ⟨mB, trivial⟩
end Go.Proofs.YtdlbbfcfahahdaaGreat
end
