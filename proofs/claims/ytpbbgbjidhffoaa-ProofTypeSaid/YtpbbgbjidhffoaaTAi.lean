/- Texts of this claim, one behind another. -/
import Derived.Shelf.SlSortCmp.NoneTotal
import Derived.Test.YtpbbgbjidhffoaaTAh
set_option linter.unusedVariables false
set_option linter.unusedSimpArgs false
section
namespace Go.Proofs.Ytpbbgbjidhffoaa
open Go Go.W
set_option maxRecDepth 20000
attribute [local irreducible] HL HC HQ HB Row Rows2 Blk Facts
theorem countN_cons (s x : Str) (l : List Str) : countN (x :: l) s = (if x = s then 1 else 0) + countN l s := by
  unfold countN; rw [List.filter_cons]
  by_cases h : x = s
  · rw [if_pos h, if_pos (by simp [h]), List.length_cons]; omega
  · rw [if_neg h, if_neg (by simp [h])]; omega
theorem stock_fold (s : Str) : ∀ (ps : List (Sl Str)) (n : Nat), 0 < ps.foldl (fun n p => max n (countN p.l s)) n ↔ 0 < n ∨ ∃ p ∈ ps, s ∈ p.l
  | [], n => by simp
  | p :: ps, n => by
    rw [List.foldl_cons, stock_fold s ps]
    have h1 : 0 < countN p.l s ↔ s ∈ p.l := by
      unfold countN; rw [List.length_pos_iff_exists_mem]
      simp
    constructor
    · rintro (h | ⟨q, hq, hs⟩)
      · by_cases h2 : 0 < n
        · exact .inl h2
        · exact .inr ⟨p, List.mem_cons_self, h1.1 (by omega)⟩
      · exact .inr ⟨q, List.mem_cons_of_mem _ hq, hs⟩
    · rintro (h | ⟨q, hq, hs⟩)
      · left; omega
      · rcases List.mem_cons.1 hq with rfl | hq
        · left; have := h1.2 hs; omega
        · exact .inr ⟨q, hq, hs⟩
def freshN (f : Str → Nat) : List Str → Nat
  | [] => 0
  | s :: r => if f s = 0 then 1 + freshN f r else freshN (updF f s (f s - 1)) r
def sumN (K : List Str) (g : Str → Nat) : Nat := (K.map g).sum
theorem sumN_congr {K : List Str} {g h : Str → Nat} (e : ∀ s ∈ K, g s = h s) : sumN K g = sumN K h := by
  unfold sumN; rw [List.map_congr_left e]
theorem sumN_add (K : List Str) (g h : Str → Nat) : sumN K (fun s => g s + h s) = sumN K g + sumN K h := by
  unfold sumN
  induction K with
  | nil => rfl
  | cons x K ih => simp only [List.map_cons, List.sum_cons, ih]; omega
theorem sumN_point {K : List Str} (hK : K.Nodup) {s : Str} (hs : s ∈ K) {g h : Str → Nat} (e1 : g s = 1 + h s) (e2 : ∀ x, x ≠ s → g x = h x) : sumN K g = 1 + sumN K h := by
  unfold sumN
  induction K with
  | nil => cases hs
  | cons y K ih =>
    rw [List.nodup_cons] at hK; simp only [List.map_cons, List.sum_cons]
    by_cases e : y = s
    · subst e
      have : (K.map g) = K.map h := List.map_congr_left fun x hx => e2 x fun e3 => hK.1 (e3 ▸ hx); rw [this, e1]
      omega
    · rw [ih hK.2 ((List.mem_cons.1 hs).resolve_left fun e3 => e e3.symm), e2 y e]
      omega
theorem sumN_zero (K : List Str) : sumN K (fun _ => 0) = 0 := by
  unfold sumN
  induction K with
  | nil => rfl
  | cons x K ih => rw [List.map_cons, List.sum_cons, ih]
theorem fresh_sum {K : List Str} (hK : K.Nodup) : ∀ (p : List Str) (f : Str → Nat), (∀ s ∈ p, s ∈ K) → freshN f p = sumN K fun s => countN p s - f s
  | [], f, _ => by
    have : sumN K (fun s => countN [] s - f s) = sumN K fun _ => 0 := sumN_congr fun s _ => Nat.zero_sub _; rw [this]; exact (sumN_zero K).symm
  | s :: r, f, h => by
    have hs := h s List.mem_cons_self; have hr : ∀ x ∈ r, x ∈ K := fun x hx => h x (List.mem_cons_of_mem _ hx); rw [freshN]
    split
    · rename_i e0
      rw [fresh_sum hK r f hr, sumN_point hK hs (g := fun x => countN (s :: r) x - f x) (h := fun x => countN r x - f x)]
      · show countN (s :: r) s - f s = 1 + (countN r s - f s)
        rw [countN_cons, if_pos rfl, e0]; omega
      · intro x hx
        show countN (s :: r) x - f x = countN r x - f x; rw [countN_cons, if_neg (fun e => hx e.symm)]; omega
    · rename_i e0
      rw [fresh_sum hK r _ hr]; refine sumN_congr fun x _ => ?_; show countN r x - updF f s (f s - 1) x = countN (s :: r) x - f x; unfold updF; rw [countN_cons]
      by_cases e : x = s
      · subst e; rw [if_pos rfl, if_pos rfl]; omega
      · rw [if_neg e, if_neg (fun e2 => e e2.symm)]; omega
theorem fresh_le : ∀ (p : List Str) (f : Str → Nat), freshN f p ≤ p.length
  | [], f => Nat.le_refl _
  | s :: r, f => by
    rw [freshN, List.length_cons]
    split
    · have := fresh_le r f; omega
    · have := fresh_le r (updF f s (f s - 1)); omega
theorem fresh_mono : ∀ (p : List Str) (f g : Str → Nat), (∀ s, f s ≤ g s) → freshN g p ≤ freshN f p
  | [], f, g, _ => Nat.le_refl _
  | s :: r, f, g, h => by
    have hs := h s; rw [freshN, freshN]
    by_cases e1 : f s = 0
    · rw [if_pos e1]
      by_cases e2 : g s = 0
      · rw [if_pos e2]
        have := fresh_mono r f g h
        omega
      · rw [if_neg e2]
        have := fresh_mono r f (updF g s (g s - 1)) fun x => by
          unfold updF
          by_cases e : x = s
          · subst e; rw [if_pos rfl]; omega
          · rw [if_neg e]; exact h x
        omega
    · rw [if_neg e1, if_neg (by omega)]
      refine fresh_mono r _ _ fun x => ?_; unfold updF
      by_cases e : x = s
      · subst e; rw [if_pos rfl, if_pos rfl]; omega
      · rw [if_neg e, if_neg e]; exact h x
theorem fresh_zero : ∀ (p : List Str) (f : Str → Nat), (∀ s, countN p s ≤ f s) → freshN f p = 0
  | [], f, _ => rfl
  | s :: r, f, h => by
    have hs := h s; rw [countN_cons, if_pos rfl] at hs; rw [freshN, if_neg (by omega)]; refine fresh_zero r _ fun x => ?_; have hx := h x; rw [countN_cons] at hx; unfold updF
    by_cases e : x = s
    · subst e; rw [if_pos rfl]; omega
    · rw [if_neg e]
      rw [if_neg (fun e2 => e e2.symm)] at hx
      omega
theorem stock_mono (ps : List (Sl Str)) (s : Str) (k : Nat) : stockN (ps.take k) s ≤ stockN (ps.take (k + 1)) s := by
  rcases Nat.lt_or_ge k ps.length with h | h
  · rw [stockN_take h]; exact Nat.le_max_left ..
  · rw [List.take_of_length_le h, List.take_of_length_le (by omega)]; exact Nat.le_refl _
theorem stock_mono2 (ps : List (Sl Str)) (s : Str) (j : Nat) : ∀ d, stockN (ps.take j) s ≤ stockN (ps.take (j + d)) s
  | 0 => Nat.le_refl _
  | d + 1 => Nat.le_trans (stock_mono2 ps s j d) (stock_mono ps s (j + d))
theorem stock_page {ps : List (Sl Str)} {k : Nat} (h : k < ps.length) (s : Str) : countN (ps.getD k default).l s ≤ stockN ps s := by
  have h1 := stock_mono2 ps s (k + 1) (ps.length - (k + 1)); rw [show k + 1 + (ps.length - (k + 1)) = ps.length by omega, List.take_length, stockN_take h] at h1
  omega
theorem stock_snoc (ps : List (Sl Str)) (p : Sl Str) (s : Str) : stockN (ps ++ [p]) s = max (stockN ps s) (countN p.l s) := by
  unfold stockN; rw [List.foldl_append]
  rfl
theorem stock_pos {ps : List (Sl Str)} {s : Str} : 0 < stockN ps s ↔ ∃ p ∈ ps, s ∈ p.l := by
  unfold stockN; rw [stock_fold]
  simp
def linesOf (ps : List (Sl Str)) : List Str := ps.flatMap (·.l)
theorem lines_len {ps : List (Sl Str)} {m : Nat} (h : ∀ p ∈ ps, p.l.length ≤ m) : (linesOf ps).length ≤ ps.length * m := by
  unfold linesOf
  induction ps with
  | nil => simp
  | cons p ps ih =>
    have h1 := h p List.mem_cons_self; have h2 := ih fun q hq => h q (List.mem_cons_of_mem _ hq); rw [List.flatMap_cons, List.length_append, List.length_cons, Nat.add_mul]
    omega
theorem stock_lines {ps : List (Sl Str)} {s : Str} (h : 0 < stockN ps s) : s ∈ linesOf ps := by
  obtain ⟨p, hp, hs⟩ := stock_pos.1 h; exact List.mem_flatMap.2 ⟨p, hp, hs⟩
theorem count_lines {ps : List (Sl Str)} {k : Nat} (h : k < ps.length) {s : Str} (hs : s ∈ (ps.getD k default).l) : 0 < stockN ps s := stock_pos.2 ⟨_, getD_mem h, hs⟩
theorem stock_sum {ps : List (Sl Str)} {K : List Str} (hK : K.Nodup) (hin : ∀ s, 0 < stockN ps s → s ∈ K) {k : Nat} (h : k < ps.length) : sumN K (stockN (ps.take (k + 1))) = sumN K (stockN (ps.take k)) + freshN (stockN (ps.take k)) (ps.getD k default).l := by
  rw [fresh_sum hK _ _ fun s hs => hin s (count_lines h hs), ← sumN_add]; refine sumN_congr fun s _ => ?_; show _ = _ + (_ - _); rw [stockN_take h]
  omega
theorem stock_none (K : List Str) : sumN K (stockN []) = 0 := by
  unfold sumN
  induction K with
  | nil => rfl
  | cons x K ih => rw [List.map_cons, List.sum_cons, ih]; rfl
-- a list of lines with their numbers, in order
abbrev Ty := Str × Int
structure StockIs (ps : List (Sl Str)) (ts : List Ty) : Prop where
  asc : ts.Pairwise fun a b => a.1 < b.1
  mem : ∀ s n, (s, n) ∈ ts ↔ 0 < stockN ps s ∧ n = (stockN ps s : Int)
theorem lt_irr (a : Str) : ¬ a < a := List.lt_irrefl a
theorem lt_asm {a b : Str} (h : a < b) : ¬ b < a := List.lt_asymm h
theorem StockIs.nodup {ps : List (Sl Str)} {ts : List Ty} (h : StockIs ps ts) : (ts.map (·.1)).Nodup := by
  rw [List.Nodup, List.pairwise_map]; exact h.asc.imp fun {a b} (h1 : a.1 < b.1) (e : a.1 = b.1) => lt_irr b.1 (by rw [e] at h1; exact h1)
theorem StockIs.all {ps : List (Sl Str)} {ts : List Ty} (h : StockIs ps ts) {s : Str} (hs : 0 < stockN ps s) : s ∈ ts.map (·.1) := List.mem_map.2 ⟨(s, _), (h.mem s _).2 ⟨hs, rfl⟩, rfl⟩
theorem StockIs.at {ps : List (Sl Str)} {ts : List Ty} (h : StockIs ps ts) {t : Ty} (ht : t ∈ ts) : t.2 = (stockN ps t.1 : Int) ∧ 0 < stockN ps t.1 := by
  have := (h.mem t.1 t.2).1 ht; exact ⟨this.2, this.1⟩
theorem StockIs.sum {ps : List (Sl Str)} {ts : List Ty} (h : StockIs ps ts) : (ts.map (·.2)).sum = (sumN (ts.map (·.1)) (stockN ps) : Int) := by
  have h1 : ∀ l : List Ty, (∀ t ∈ l, t.2 = (stockN ps t.1 : Int)) → (l.map (·.2)).sum = (sumN (l.map (·.1)) (stockN ps) : Int) := by
    intro l
    induction l with
    | nil => intro _; rfl
    | cons t l ih =>
      intro hl; unfold sumN at ih ⊢; rw [List.map_cons, List.sum_cons, List.map_cons, List.map_cons, List.sum_cons, ih fun t ht => hl t (List.mem_cons_of_mem _ ht), hl t List.mem_cons_self]
      push_cast
      rfl
  exact h1 ts fun t ht => (h.at ht).1
theorem StockIs.len {ps : List (Sl Str)} {ts : List Ty} (h : StockIs ps ts) {m : Nat} (hp : ∀ p ∈ ps, p.l.length ≤ m) : ts.length ≤ ps.length * m := by
  have h2 := nodup_len (K := linesOf ps) h.nodup fun s hs => by
    obtain ⟨t, ht, rfl⟩ := List.mem_map.1 hs; exact stock_lines (h.at ht).2
  rw [List.length_map] at h2; exact Nat.le_trans h2 (lines_len hp)
end Go.Proofs.Ytpbbgbjidhffoaa
end
section
namespace Go.Proofs.Ytpbbgbjidhffoaa
open Go Go.W
set_option maxRecDepth 20000
attribute [local irreducible] HL HC HQ HB Row Rows2 Blk Facts
abbrev KS : KeyC Try.prog T.string str := KeyC.str T.u_string
theorem zv_int (w : World) : (zeroValue T.int).run Try.prog w = .ok (int 0) w := by kernel_rfl
theorem countN_up {p : List Str} {k : Nat} (h : k < p.length) (s : Str) : updF (countN (p.take k)) (p.getD k default) (countN (p.take k) (p.getD k default) + 1) s = countN (p.take (k + 1)) s := by
  rw [countN_take h]; unfold updF
  by_cases e : s = p.getD k default
  · subst e; rw [if_pos rfl, if_pos rfl]
  · rw [if_neg e, if_neg (fun e2 => e e2.symm)]; omega
theorem proof_counts_meets {B : Option Addr} {cb : Nat} (p : List Str) (hl : p.length ≤ 1000000) : Meets Try.prog F.proof_counts [.slice B p.length cb] { LI := [Row B (rows p)], inv := fun x : Nat × List (Ment Str) × Nat => MapIs x.2.1 x.2.2 (countN p), val := fun x => .map (some x.1), hpO := fun x => [(x.1, mapO str x.2.1 x.2.2)] } := by
 refine meets_intro F.proof_counts_f rfl (Nat.le_of_ble_eq_true rfl) fun w0 => ?_; refine hc_seq (hc_region (r_assign rfl rfl (hl_nil (then_n (hc_seq (hc_region ?_)))))); refine r_makeMapM str rfl fun gm => ?_; refine r_assign rfl rfl (hl_nil (then_n (hc_seq (hc_seq (hc_region (r_move rfl rfl ?_)))))); refine r_len_sl rfl T.u_strs rfl ?_; refine r_move rfl rfl (hl_nil (then_n (hc_block ?_))); refine hc_loop (β := Nat × List (Ment Str) × Nat) ⟨fun x => x.1 ≤ p.length ∧ MapIs x.2.1 x.2.2 (countN (p.take x.1)), fun x => [(3, .map (some gm)), (7, .slice B p.length cb), (8, int p.length), (9, int x.1)], fun x => [(gm, mapO str x.2.1 x.2.2)], fun _ => [Row B (rows p)]⟩ (fun x => p.length - x.1) (0, [], 0) ⟨Nat.zero_le _, MapIs.nil.congr fun s => rfl⟩ ⟨rfl, rfl, rfl, rfl, trivial⟩ (.refl _) ⟨m0, trivial⟩ fun x hx => ?_; obtain ⟨k, l, clk⟩ := x; obtain ⟨hk, hM⟩ := hx; simp only at hk hM; refine hc_seq (hc_region (r_lss rfl rfl rfl (hl_nil (then_n (hc_seq ?_)))))
 first | refine c_dec rfl (fun hb1 => ?_) (fun hb1 => ?_) | refine hc_cond rfl (fun hb1 => ?_) (fun hb1 => ?_)
 ·have hb1' := hb1; try simp at hb1'
  have hk2 : k < p.length := by omega
  have hcl := countN_le (p.take k) (p.getD k default); rw [List.length_take] at hcl; refine hc_skip (then_n (hc_seq (hc_block (hc_seq (hc_region ?_))))); refine r_elem (α := Str) _ _ rfl T.u_strs T.sz_string rfl rfl rfl mB rfl (by omega) (by decide) ?_; refine r_load rfl T.cell_string rfl (cell_row mB (rows_get0 (by omega) rfl)) ?_; refine r_assign rfl rfl (hl_nil (then_n (hc_region (r_move rfl rfl (r_move rfl rfl ?_))))); refine r_lookN (k := (p.getD k default)) KS rfl T.u_map_string_int rfl rfl (map_own m0) zv_int hM ?_; refine r_add (((countN (p.take k) (p.getD k default)) + 1 : Nat) : Int) rfl rfl rfl (by show (((countN (p.take k) (p.getD k default)) : Nat) : Int) + 1 = (((countN (p.take k) (p.getD k default)) + 1 : Nat) : Int); omega) (by unfold I64; omega) ?_; refine r_insert (k := (p.getD k default)) (v := int (((countN (p.take k) (p.getD k default)) + 1 : Nat) : Int)) KS (.inl rfl) T.u_map_string_int rfl rfl rfl (List.Perm.refl _) ?_; refine hl_nil (inb_n (then_n (hc_region ?_))); refine r_add _ rfl rfl rfl rfl (by unfold I64; omega) ?_; refine r_move rfl rfl (hl_nil ?_); exact again _ (k + 1, putM l (p.getD k default) (int (((countN (p.take k) (p.getD k default)) + 1 : Nat) : Int)) clk, clkM l (p.getD k default) clk) ⟨by show k + 1 ≤ p.length; omega, (hM.put (p.getD k default) (Nat.succ_pos _)).congr (countN_up hk2)⟩ (by show p.length - (k + 1) < p.length - k; omega) ⟨rfl, rfl, rfl, rfl, trivial⟩ (.refl _) ⟨m0, trivial⟩
 ·have hb1' := hb1; try simp at hb1'
  have hk2 : k = p.length := by omega
  subst hk2; rw [List.take_length] at hM; refine hc_exit (then_exit (then_exit (inb_hit (then_n (hc_seq (hc_region (r_move rfl rfl (r_assign rfl rfl (hl_nil (then_n (hc_ret ?_))))))))))); exact ret1 (gm, l, clk) rfl rfl rfl hM (.refl _) trivial
-- the stock while a page is gone through
def stV (f c : Str → Nat) (vis : List (Ment Str)) (s : Str) : Nat := if s ∈ vis.map (·.1) then max (f s) (c s) else f s
theorem stV_nil (f c : Str → Nat) (s : Str) : f s = stV f c [] s := by unfold stV; rw [if_neg (by simp)]
theorem stV_new {f c : Str → Nat} {vis : List (Ment Str)} {s : Str} (h : s ∉ vis.map (·.1)) : stV f c vis s = f s := by unfold stV; rw [if_neg h]
theorem stV_up {f c : Str → Nat} {vis : List (Ment Str)} {q : Ment Str} (h : q.1 ∉ vis.map (·.1)) (s : Str) : updF (stV f c vis) q.1 (max (f q.1) (c q.1)) s = stV f c (vis ++ [q]) s := by
  unfold updF stV; rw [List.map_append]
  by_cases e : s = q.1
  · subst e; rw [if_pos rfl, if_pos (by simp)]
  · rw [if_neg e]
    by_cases h2 : s ∈ vis.map (·.1)
    · rw [if_pos h2, if_pos (List.mem_append_left _ h2)]
    · rw [if_neg h2, if_neg (by rw [List.mem_append, not_or]; exact ⟨h2, by simpa using e⟩)]
theorem stV_end {f c : Str → Nat} {vis : List (Ment Str)} (h : ∀ s, 0 < c s → s ∈ vis.map (·.1)) (s : Str) : stV f c vis s = max (f s) (c s) := by
  unfold stV
  by_cases h2 : s ∈ vis.map (·.1)
  · rw [if_pos h2]
  · rw [if_neg h2]
    have : c s = 0 := by
      rcases Nat.eq_zero_or_pos (c s) with h3 | h3
      · exact h3
      · exact absurd (h s h3) h2
    omega
theorem proof_stock_meets {A : Option Addr} {c : Nat} (ps : List (Sl Str)) (hl : ps.length ≤ 1000000) (hp : ∀ p ∈ ps, p.l.length ≤ 1000000) : Meets Try.prog F.proof_stock [.slice A ps.length c] { LI := [Rows2 A ps], inv := fun x : Nat × List (Ment Str) × Nat => MapIs x.2.1 x.2.2 (stockN ps), val := fun x => .map (some x.1), hpO := fun x => [(x.1, mapO str x.2.1 x.2.2)] } := by
 refine meets_intro F.proof_stock_f rfl (Nat.le_of_ble_eq_true rfl) fun w0 => ?_; refine hc_seq (hc_region (r_assign rfl rfl (hl_nil (then_n (hc_seq (hc_region ?_)))))); refine r_makeMapM str rfl fun gm => ?_; refine r_assign rfl rfl (hl_nil (then_n (hc_seq (hc_seq ?_)))); refine hc_outer (A := A) (ps := ps) mB ?_; refine hc_region (r_move rfl rfl ?_); refine r_len_sl rfl T.u_pages rfl ?_; refine r_move rfl rfl (hl_nil (then_n (hc_block ?_))); refine hc_loop (β := Nat × List (Ment Str) × Nat) ⟨fun x => x.1 ≤ ps.length ∧ MapIs x.2.1 x.2.2 (stockN (ps.take x.1)), fun x => [(3, .map (some gm)), (9, .slice A ps.length c), (10, int ps.length), (11, int x.1)], fun x => [(gm, mapO str x.2.1 x.2.2)], fun _ => [Row A (rows ps), Rows2 A ps]⟩ (fun x => ps.length - x.1) (0, [], 0) ⟨Nat.zero_le _, MapIs.nil.congr fun s => rfl⟩ ⟨rfl, rfl, rfl, rfl, trivial⟩ (.refl _) ⟨mB, mB, trivial⟩ fun x hx => ?_; obtain ⟨k, l, clk⟩ := x; obtain ⟨hk, hM⟩ := hx; simp only at hk hM; refine hc_seq (hc_region (r_lss rfl rfl rfl (hl_nil (then_n (hc_seq ?_)))))
 first | refine c_dec rfl (fun hb1 => ?_) (fun hb1 => ?_) | refine hc_cond rfl (fun hb1 => ?_) (fun hb1 => ?_)
 ·have hb1' := hb1; try simp at hb1'
  have hk2 : k < ps.length := by omega
  have hpk := hp _ (getD_mem hk2); refine hc_skip (then_n (hc_seq (hc_block (hc_seq (hc_region ?_))))); refine r_elem (α := (Sl Str)) _ _ rfl T.u_pages T.sz_strs rfl rfl rfl mB rfl (by omega) (by decide) ?_; refine r_load rfl T.cell_strs rfl (cell_row mB (rows_get0 (by omega) rfl)) ?_; refine r_assign rfl rfl (hl_nil (then_n (hc_seq (hc_region (r_move rfl rfl ?_))))); refine hl_inner (A := A) (ps := ps) (p := (ps.getD k default)) mB (getD_mem hk2) ?_; refine hl_call F.proof_counts_cb rfl rfl (proof_counts_meets (ps.getD k default).l hpk) (hpR := [_]) (List.Perm.refl _) ⟨mB, trivial⟩ fun x2 hx2 => ?_; obtain ⟨g2, l2, clk2⟩ := x2; have hM2 : MapIs l2 clk2 (countN (ps.getD k default).l) := hx2; clear hx2; refine r_rangeM rfl T.u_map_string_int rfl (map_own m0) fun gi => ?_; refine hl_nil (then_n (hc_block ?_)); refine hc_loop (β := List (Ment Str) × List (Ment Str) × Nat) ⟨fun x => Vis l2 x.1 ∧ MapIs x.2.1 x.2.2 (stV (stockN (ps.take k)) (countN (ps.getD k default).l) x.1), fun x => [(3, .map (some gm)), (9, .slice A ps.length c), (10, int ps.length), (11, int k), (17, .pointer (some ⟨gi, 0, none⟩))], fun x => [(gi, iterM g2 clk2 x.1), (g2, mapO str l2 clk2), (gm, mapO str x.2.1 x.2.2)], fun _ => [Row A (rows ps), Rows2 A ps]⟩ (fun x => l2.length - x.1.length) ([], l, clk) ⟨Vis.nil _, hM.congr (stV_nil _ _)⟩ ⟨rfl, rfl, rfl, rfl, rfl, trivial⟩ (.refl _) ⟨mB, mB, trivial⟩ fun x hx => ?_; clear hM; obtain ⟨vis, l, clk⟩ := x; obtain ⟨hV, hM⟩ := hx; simp only at hV hM; refine hc_seq (hc_region ?_); refine r_nextM (enc := str) rfl rfl (map_own m1) hM2.lt (List.Perm.refl _) fun x hx0 hx1 => ?_; refine r_mext0 (enc := str) rfl rfl ?_; refine hl_nil (then_n (hc_seq ?_))
  first | refine c_dec rfl (fun hb2 => ?_) (fun hb2 => ?_) | refine hc_cond rfl (fun hb2 => ?_) (fun hb2 => ?_)
  ·have hb2' := hb2; try simp at hb2'
   obtain ⟨q, rfl⟩ := Option.isSome_iff_exists.1 hb2; obtain ⟨hq1, hq2⟩ := hx1 q rfl; have hqk := hM2.newKey hV hq1 hq2; have hqv := hM2.vl q hq1; have hlt := hV.lt hq1 hq2; obtain ⟨s, v, b⟩ := q; simp only at hqk hqv; obtain ⟨rfl, hqp⟩ := hqv; have hsv : stV (stockN (ps.take k)) (countN (ps.getD k default).l) vis s = (stockN (ps.take k)) s := stV_new hqk; refine hc_skip (then_n (hc_block (hc_seq (hc_region ?_)))); refine r_entry (p := (s, int (((countN (ps.getD k default).l) s : Nat) : Int), b)) rfl rfl (map_own m1) (map_own m0) hq1 hM2.bs ?_; refine r_extract rfl rfl rfl (r_extract rfl rfl rfl (r_assign rfl rfl (r_assign rfl rfl (hl_nil (then_n (hc_region (r_move rfl rfl (r_move rfl rfl (r_move rfl rfl (r_move rfl rfl ?_)))))))))); refine r_lookN (k := s) KS rfl T.u_map_string_int rfl rfl (map_own m2) zv_int hM ?_; rw [hsv]; refine r_move rfl rfl ?_; refine r_max (((max ((stockN (ps.take k)) s) ((countN (ps.getD k default).l) s)) : Nat) : Int) rfl rfl rfl (by split <;> omega) ?_; refine r_insert (k := s) (v := int (((max ((stockN (ps.take k)) s) ((countN (ps.getD k default).l) s)) : Nat) : Int)) KS (.inl rfl) T.u_map_string_int rfl rfl rfl (l := l) (clk := clk) (hp' := [(gi, iterM g2 clk2 (vis ++ [(s, int ((((countN (ps.getD k default).l) s : Nat)) : Int), b)])), (g2, mapO str l2 clk2)]) (perm_of fun q => by simp only [List.countP_cons, List.countP_nil, Option.toList_some]; omega) ?_; refine hl_nil (inb_n ?_); refine hq_perm (hp' := [(gi, iterM g2 clk2 (vis ++ [(s, int ((((countN (ps.getD k default).l) s : Nat)) : Int), b)])), (g2, mapO str l2 clk2), (gm, mapO str (putM l s (int (((max ((stockN (ps.take k)) s) ((countN (ps.getD k default).l) s)) : Nat) : Int)) clk) (clkM l s clk))]) (perm_of fun q => by simp only [List.countP_cons, List.countP_nil, Option.toList_some]; omega) ?_; exact again _ (vis ++ [(s, int ((((countN (ps.getD k default).l) s : Nat)) : Int), b)], putM l s (int ((((max ((stockN (ps.take k)) s) ((countN (ps.getD k default).l) s)) : Nat)) : Int)) clk, clkM l s clk) ⟨hV.snoc hq1 hq2, (hM.put s (Nat.lt_of_lt_of_le hqp (Nat.le_max_right ..))).congr (stV_up (q := (s, int ((((countN (ps.getD k default).l) s : Nat)) : Int), b)) hqk)⟩ (by show l2.length - (vis ++ [_]).length < l2.length - vis.length; rw [List.length_append, List.length_singleton]; omega) ⟨rfl, rfl, rfl, rfl, rfl, trivial⟩ (.refl _) ⟨mB, mB, trivial⟩
  ·have hb2' := hb2; try simp at hb2'
   have hx : x = none := by cases x with | none => rfl | some q => simp at hb2
   subst hx; refine hc_exit (then_exit (then_exit (inb_hit (inb_n (then_n (hc_region ?_)))))); refine r_add _ rfl rfl rfl rfl (by unfold I64; omega) ?_; refine r_move rfl rfl (hl_nil ?_); exact again _ (k + 1, l, clk) ⟨by show k + 1 ≤ ps.length; omega, hM.congr fun s => by rw [stockN_take hk2]; exact stV_end (fun s hs => hM2.allVis hV (hx0 rfl) hs) s⟩ (by show ps.length - (k + 1) < ps.length - k; omega) ⟨rfl, rfl, rfl, rfl, trivial⟩ (.cons _ (.cons _ (.refl _))) ⟨mB, mB, trivial⟩
 ·have hb1' := hb1; try simp at hb1'
  have hk2 : k = ps.length := by omega
  subst hk2; rw [List.take_length] at hM; refine hc_exit (then_exit (then_exit (inb_hit (then_n (hc_seq (hc_region (r_move rfl rfl (r_assign rfl rfl (hl_nil (then_n (hc_ret ?_))))))))))); exact ret1 (gm, l, clk) rfl rfl rfl hM (.refl _) trivial
theorem fresh_drop {f : Str → Nat} {p : List Str} {k : Nat} (h : k < p.length) : freshN f (p.drop k) = if f (p.getD k default) = 0 then 1 + freshN f (p.drop (k + 1)) else freshN (updF f (p.getD k default) (f (p.getD k default) - 1)) (p.drop (k + 1)) := by
  rw [drop_getD h, freshN]
theorem stock_bd {m : Nat} {ps : List (Sl Str)} (h : ∀ p ∈ ps, p.l.length ≤ m) (s : Str) : stockN ps s ≤ m := by
  have h1 : ∀ (l : List (Sl Str)) (n : Nat), (∀ p ∈ l, p.l.length ≤ m) → n ≤ m → l.foldl (fun n p => max n (countN p.l s)) n ≤ m := by
    intro l
    induction l with
    | nil => intro n _ hn; exact hn
    | cons p l ih =>
      intro n hl hn; have h2 := hl p List.mem_cons_self; have h3 := countN_le p.l s; exact ih _ (fun q hq => hl q (List.mem_cons_of_mem _ hq)) (Nat.max_le.2 ⟨hn, by omega⟩)
  exact h1 ps 0 h (Nat.zero_le _)
theorem updF_bd {f : Str → Nat} {m n : Nat} (h : ∀ s, f s ≤ m) (hn : n ≤ m) (k s : Str) : updF f k n s ≤ m := by
  unfold updF
  split
  · exact hn
  · exact h s
def freshE (ps : List (Sl Str)) (p : List Str) : Nat := if askedErr (years ps) p = 0 then freshN (stockN ps) p else 0
theorem proof_Fresh_meets {A B : Option Addr} {ca cb : Nat} (ps : List (Sl Str)) (p : List Str) : Meets Try.prog F.proof_Fresh [.slice A ps.length ca, .slice B p.length cb] { LI := [Rows2 A ps, Row B (rows p)], val := fun _ : Unit => .tuple #[int (freshE ps p : Nat), int (askedErr (years ps) p)] } := by
 refine meets_intro F.proof_Fresh_f rfl (Nat.le_of_ble_eq_true rfl) fun w0 => ?_; refine hc_seq (hc_region (r_assign rfl rfl (r_assign rfl rfl (hl_nil (then_n (hc_seq (hc_seq (hc_region (r_move rfl rfl (r_move rfl rfl ?_)))))))))); refine hl_call F.proof_asked_cb rfl rfl (proof_asked_meets ps p) (List.Perm.refl _) ⟨mB, mB, trivial⟩ fun _ _ => ?_; refine r_assign rfl rfl (hl_nil (then_n (hc_seq (hc_region (r_move rfl rfl (r_neq rfl rfl rfl (hl_nil (then_n ?_))))))))
 first | refine c_dec rfl (fun hb1 => ?_) (fun hb1 => ?_) | refine hc_cond rfl (fun hb1 => ?_) (fun hb1 => ?_)
 ·have hb1' := hb1; try simp at hb1'
  refine hc_seq (hc_region (r_move rfl rfl (r_assign rfl rfl (r_assign rfl rfl (hl_nil (then_n (hc_ret (then_ret ?_)))))))); exact ret2 () rfl rfl rfl (by show Value.tuple #[int (freshE ps p : Nat), _] = _; rw [freshE, if_neg hb1]; rfl) rfl trivial (.refl _) trivial
 ·have hb1' := hb1; try simp at hb1'
  have hq0 := Classical.not_not.1 hb1; obtain ⟨hy0, hp0⟩ := askedErr_zero hq0; obtain ⟨hy4, hy6⟩ := yearsErr_zero hy0; have hp6 := pageErr_zero hp0; refine hc_skip (then_n (hc_seq (hc_region (r_move rfl rfl ?_)))); refine hl_call F.proof_stock_cb rfl rfl (proof_stock_meets ps (by omega) (fun q hq => by have := hy6 q hq; omega)) (List.Perm.refl _) ⟨mB, trivial⟩ fun x hx => ?_; obtain ⟨gm, l0, clk0⟩ := x; have hM0 : MapIs l0 clk0 (stockN ps) := hx; clear hx; refine r_assign rfl rfl (r_assign rfl rfl (hl_nil (then_n (hc_seq (hc_seq (hc_region (r_move rfl rfl ?_))))))); refine r_len_sl rfl T.u_strs rfl ?_; refine r_move rfl rfl (hl_nil (then_n (hc_block ?_))); refine hc_loop (β := Nat × Nat × List (Ment Str) × Nat × (Str → Nat)) ⟨fun x => x.1 ≤ p.length ∧ MapIs x.2.2.1 x.2.2.2.1 x.2.2.2.2 ∧ freshN (stockN ps) p = x.2.1 + freshN x.2.2.2.2 (p.drop x.1) ∧ x.2.1 ≤ x.1 ∧ ∀ s, x.2.2.2.2 s ≤ 6, fun x => [(7, int (x.2.1 : Nat)), (8, .map (some gm)), (19, .slice B p.length cb), (20, int p.length), (21, int x.1)], fun x => [(gm, mapO str x.2.2.1 x.2.2.2.1)], fun _ => [Rows2 A ps, Row B (rows p)]⟩ (fun x => p.length - x.1) (0, 0, l0, clk0, stockN ps) ⟨Nat.zero_le _, hM0, by show _ = 0 + freshN _ p; rw [Nat.zero_add], Nat.le_refl _, stock_bd hy6⟩ ⟨rfl, rfl, rfl, rfl, rfl, trivial⟩ (.refl _) ⟨mB, mB, trivial⟩ fun x hx => ?_; clear hM0; obtain ⟨k, n, l, clk, f⟩ := x; obtain ⟨hk, hM, hfr, hnk, hfb⟩ := hx; simp only at hk hM hfr hnk hfb; refine hc_seq (hc_region (r_lss rfl rfl rfl (hl_nil (then_n (hc_seq ?_)))))
  first | refine c_dec rfl (fun hb2 => ?_) (fun hb2 => ?_) | refine hc_cond rfl (fun hb2 => ?_) (fun hb2 => ?_)
  ·have hb2' := hb2; try simp at hb2'
   have hk2 : k < p.length := by omega
   rw [fresh_drop hk2] at hfr; refine hc_skip (then_n (hc_seq (hc_block (hc_seq (hc_region ?_))))); refine r_elem (α := Str) _ _ rfl T.u_strs T.sz_string rfl rfl rfl mB rfl (by omega) (by decide) ?_; refine r_load rfl T.cell_string rfl (cell_row mB (rows_get0 (by omega) rfl)) ?_; refine r_assign rfl rfl (hl_nil (then_n (hc_seq (hc_region (r_move rfl rfl (r_move rfl rfl ?_)))))); refine r_lookN (k := (p.getD k default)) KS rfl T.u_map_string_int rfl rfl (map_own m0) zv_int hM ?_; refine hl_nil (then_n (hc_block (hc_seq (hc_region (r_eql rfl rfl rfl (r_assign rfl rfl (hl_nil (then_n ?_))))))))
   first | refine c_dec rfl (fun hb3 => ?_) (fun hb3 => ?_) | refine hc_cond rfl (fun hb3 => ?_) (fun hb3 => ?_)
   ·have hb3' := hb3; try simp at hb3'
    have h0 : (f (p.getD k default)) = 0 := by omega
    rw [if_pos h0] at hfr; refine hc_region (r_move rfl rfl ?_); refine r_add ((n + 1 : Nat) : Int) rfl rfl rfl (by show (n : Int) + 1 = ((n + 1 : Nat) : Int); omega) (by unfold I64; omega) ?_; refine r_assign rfl rfl (hl_nil (inb_n (inb_n (then_n (hc_region ?_))))); refine r_add _ rfl rfl rfl rfl (by unfold I64; omega) ?_; refine r_move rfl rfl (hl_nil ?_); exact again _ (k + 1, (n + 1), l, clk, f) ⟨by show k + 1 ≤ p.length; omega, hM, by show freshN (stockN ps) p = (n + 1) + freshN f (p.drop (k + 1)); omega, by show (n + 1) ≤ k + 1; omega, hfb⟩ (by show p.length - (k + 1) < p.length - k; omega) ⟨rfl, rfl, rfl, rfl, rfl, trivial⟩ (.refl _) ⟨mB, mB, trivial⟩
   ·have hb3' := hb3; try simp at hb3'
    have h0 : ¬ (f (p.getD k default)) = 0 := by omega
    rw [if_neg h0] at hfr; refine hc_seq (hc_region (r_eql rfl rfl rfl (r_assign rfl rfl (hl_nil (then_n ?_)))))
    first | refine c_dec rfl (fun hb4 => ?_) (fun hb4 => ?_) | refine hc_cond rfl (fun hb4 => ?_) (fun hb4 => ?_)
    ·have hb4' := hb4; try simp at hb4'
     have h1 : (f (p.getD k default)) = 1 := by omega
     rw [h1] at hfr; refine hc_region (r_move rfl rfl (r_move rfl rfl ?_)); refine r_delete (k := (p.getD k default)) KS T.u_map_string_int rfl rfl (List.Perm.refl _) ?_; refine hl_nil (inb_n (inb_n (then_n (hc_region ?_)))); refine r_add _ rfl rfl rfl rfl (by unfold I64; omega) ?_; refine r_move rfl rfl (hl_nil ?_); exact again _ (k + 1, n, (delM l (p.getD k default)), clk, (updF f (p.getD k default) 0)) ⟨by show k + 1 ≤ p.length; omega, hM.del (p.getD k default), by show freshN (stockN ps) p = n + freshN (updF f (p.getD k default) 0) (p.drop (k + 1)); exact hfr, by show n ≤ k + 1; omega, updF_bd hfb (Nat.zero_le _) _⟩ (by show p.length - (k + 1) < p.length - k; omega) ⟨rfl, rfl, rfl, rfl, rfl, trivial⟩ (.refl _) ⟨mB, mB, trivial⟩
    ·have hb4' := hb4; try simp at hb4'
     have h1 : ¬ (f (p.getD k default)) = 1 := by omega
     refine hc_region (r_move rfl rfl (r_move rfl rfl ?_)); refine r_lookN (k := (p.getD k default)) KS rfl T.u_map_string_int rfl rfl (map_own m0) zv_int hM ?_; refine r_sub (((f (p.getD k default)) - 1 : Nat) : Int) rfl rfl rfl (by show (((f (p.getD k default)) : Nat) : Int) - 1 = (((f (p.getD k default)) - 1 : Nat) : Int); omega) (by have hb := hfb (p.getD k default); unfold I64; omega) ?_; refine r_insert (k := (p.getD k default)) (v := int (((f (p.getD k default)) - 1 : Nat) : Int)) KS (.inl rfl) T.u_map_string_int rfl rfl rfl (List.Perm.refl _) ?_; refine hl_nil (inb_n (inb_n (then_n (hc_region ?_)))); refine r_add _ rfl rfl rfl rfl (by unfold I64; omega) ?_; refine r_move rfl rfl (hl_nil ?_); exact again _ (k + 1, n, (putM l (p.getD k default) (int (((f (p.getD k default)) - 1 : Nat) : Int)) clk), (clkM l (p.getD k default) clk), (updF f (p.getD k default) ((f (p.getD k default)) - 1))) ⟨by show k + 1 ≤ p.length; omega, hM.put (p.getD k default) (by omega), by show freshN (stockN ps) p = n + freshN (updF f (p.getD k default) ((f (p.getD k default)) - 1)) (p.drop (k + 1)); exact hfr, by show n ≤ k + 1; omega, updF_bd hfb (by have := hfb (p.getD k default); omega) _⟩ (by show p.length - (k + 1) < p.length - k; omega) ⟨rfl, rfl, rfl, rfl, rfl, trivial⟩ (.refl _) ⟨mB, mB, trivial⟩
  ·have hb2' := hb2; try simp at hb2'
   have hk2 : k = p.length := by omega
   subst hk2; rw [List.drop_length] at hfr; refine hc_exit (then_exit (then_exit (inb_hit (then_n (hc_seq (hc_region (r_move rfl rfl (r_assign rfl rfl (r_assign rfl rfl (hl_nil (then_n ?_))))))))))); refine hc_ret ?_; exact ret2 () rfl rfl rfl (by show Value.tuple #[int (freshE ps p : Nat), int (askedErr (years ps) p)] = Value.tuple #[int (n : Nat), int 0]; rw [freshE, if_pos hq0, hq0, hfr]; rfl) rfl trivial (List.nil_sublist _) trivial
end Go.Proofs.Ytpbbgbjidhffoaa
end
section
namespace Go.W
open Go Go.RowKit Go.Sort Go.Proofs Go.Shelf
theorem ext_grow {w w' : World} (e : Ext [] w w') : ∃ q os, w' = grow (w.drewN q) os := by
  refine ⟨w'.drawn - w.drawn, w'.heap.extract w.heap.size w'.heap.size, ?_⟩
  have h1 : w'.heap = w.heap ++ w'.heap.extract w.heap.size w'.heap.size := by
    apply Array.ext_getElem?
    intro i; rw [Array.getElem?_append]
    by_cases hi : i < w.heap.size
    · rw [if_pos hi]
      exact e.block i hi (by simp)
    · rw [if_neg hi, Array.getElem?_extract]
      have := e.size
      by_cases h2 : i < w'.heap.size
      · rw [if_pos (by omega), show w.heap.size + (i - w.heap.size) = i by omega]
      · rw [if_neg (by omega)]
        exact Array.getElem?_eq_none (by omega)
  have h2 : w'.drawn = w.drawn + (w'.drawn - w.drawn) := by have := e.dr; omega
  obtain ⟨a, b, c, d, f⟩ := w; obtain ⟨a', b', c', d', f'⟩ := w'; have e1 := e.tape; have e2 := e.os; have e3 := e.output; simp only at e1 e2 e3 h1 h2; subst e1 e2 e3; unfold grow World.drewN
  simp only
  rw [← h1, ← h2]
theorem cmp_lays {P : Program} {α : Type} [El α] {g : Nat} {cf : α → α → Int} (h : ∀ x y : α, Meets P g [.agg (El.cells x).toArray, .agg (El.cells y).toArray] ({ val := fun _ : Unit => int (cf x y) } : Con Unit)) (blk off size : Nat) (w : World) : CmpLays P g #[] El.cells (El.sz α) cf blk off size w := by
  intro m os dk hdk x y; have h1 := h x y (sortWorldK El.cells (El.sz α) w blk off m dk os) ⟨Ext.refl _ _, by simp, by simp, by simp, by simp, by simp, by simp⟩; refine Calls.mono h1 fun e w' hp => ?_; obtain ⟨_, rfl, _, hw⟩ := hp; exact ⟨rfl, ext_grow hw.ext⟩
theorem flat_rows {α : Type} [El α] (hz : 0 < El.sz α) (l : List α) : (flatK El.cells (El.sz α) l.toArray).toList = rows l := by
  refine List.ext_getElem (by simp [rows_len]) fun t h1 h2 => ?_; have ht : t < l.length * El.sz α := by simpa using h1
  have hq : t / El.sz α < l.length := Nat.div_lt_of_lt_mul (by rw [Nat.mul_comm]; exact ht); have hm : t % El.sz α < El.sz α := Nat.mod_lt _ hz; have h3 := get_flatK El.cells (El.sz α) l.toArray t (by simpa using ht); rw [getElem!_pos _ t (by simpa using ht)] at h3; rw [Array.getElem_toList, h3]; have h4 : l.toArray[t / El.sz α]! = l[t / El.sz α] := by rw [getElem!_pos _ _ (by simpa using hq)]; simp
  rw [h4, getElem!_pos _ _ (by rw [El.len]; exact hm)]; have h5 := rows_get (l := l) (i := t / El.sz α) (j := t % El.sz α) hq (v := (El.cells l[t / El.sz α])[t % El.sz α]'(by rw [El.len]; exact hm)) (by rw [List.getD_eq_getElem?_getD, List.getElem?_eq_getElem hq]; exact List.getElem?_eq_getElem _); rw [show t / El.sz α * El.sz α + t % El.sz α = t from Nat.div_add_mod' t (El.sz α)] at h5; rw [List.getElem?_eq_getElem h2] at h5; exact (Option.some.inj h5).symm
theorem sort_world {α : Type} [El α] (hz : 0 < El.sz α) {w : World} {g : Nat} {cur : Array Value} {e : TypeId} (hg : w.heap[g]? = some (.cells cur e (0, 0))) (n : Nat) (d : Array α) (os : Array Obj) (hs : d.size * El.sz α ≤ cur.size) :
    ∃ cur', (sortWorldK El.cells (El.sz α) w g 0 n d os).heap[g]? = some (.cells cur' e (0, 0)) ∧ cur'.size = cur.size ∧ cur'.toList.take (d.size * El.sz α) = rows d.toList ∧ Ext [g] w (sortWorldK El.cells (El.sz α) w g 0 n d os) := by
  have hlt : g < w.heap.size := lt_of_own hg; refine ⟨putCells id 0 (flatK El.cells (El.sz α) d) cur, ?_, by simp [putCells], ?_, rfl, rfl, rfl, ?_, fun k hk hn => ?_, by simp [sortWorldK, grow, putRowK, putRow, mapBlock, Sort.ahead]⟩
  · simp only [sortWorldK, grow, putRowK, putRow, mapBlock, Sort.ahead]
    rw [Array.getElem?_append_left (by simpa using hlt), Array.getElem?_modify, if_pos rfl, hg]
    rfl
  · have hf := flat_rows hz d.toList
    rw [Array.toArray_toList] at hf; rw [← hf]; refine List.ext_getElem (by simp [putCells]; omega) fun t h1 h2 => ?_; have ht : t < d.size * El.sz α := by simpa using h2
    rw [List.getElem_take, Array.getElem_toList, Array.getElem_toList]; unfold putCells; rw [Array.getElem_mapIdx, if_pos (by simp; exact ht)]; simp only [id, Nat.sub_zero]; exact getElem!_pos _ t (by simpa using ht)
  · simp [sortWorldK, grow, putRowK, putRow, mapBlock, Sort.ahead]
  · simp only [sortWorldK, grow, putRowK, putRow, mapBlock, Sort.ahead]
    rw [Array.getElem?_append_left (by simpa using hk), Array.getElem?_modify, if_neg (fun h => hn (by simp [h]))]
theorem sortFunc_meets {P : Program} {ρ : Ren} (L : SlLaysF0.n6 P ρ) {α : Type} [El α] (hz : 0 < El.sz α) (aE : ∀ w, (isAgg (ρ.t 24)).run P w = .ok true w) (zE : ∀ w, (Go.sizeOf (ρ.t 24)).run P w = .ok (El.sz α) w) {cf : α → α → Int} (hO : SWO (ltOf cf)) {f g : Nat} (hf : ρ.f 6 = f) (eg : ∀ args w, (callFunc g args).run P w = .ok (.enter g args) w)
    (hcmp : ∀ x y : α, Meets P g [.agg (El.cells x).toArray, .agg (El.cells y).toArray] ({ val := fun _ : Unit => int (cf x y) } : Con Unit)) {A : Option Addr} {cap : Nat} {e : TypeId} (l : List α) {og : Hp} (hG : Grow e (El.sz α) A l.length cap (rows l) og) (hl : l.length < 4611686018427387904) :
    Meets P f [.slice A l.length cap, .func (.func g) #[] #[]] { hpI := og, inv := fun x : List α × Hp => x.1.Perm l ∧ x.1.Pairwise (fun a b => ltOf cf b a = false) ∧ Grow e (El.sz α) A x.1.length cap (rows x.1) x.2, val := fun _ => .tuple #[], hpO := fun x => x.2 } := by
  subst hf; intro w hw
  rcases hG with ⟨hlen, ⟨rfl, h0, rfl, rfl⟩ | ⟨g0, cur, rfl, rfl, h1, h2, h3, h4⟩⟩
  · have hl0 : l = [] := List.eq_nil_of_length_eq_zero h0
    subst hl0; refine Calls.mono (AnyF.slices_SortFunc_none L none 0 (.func (.func g) #[] #[]) w) fun e w' hp => ?_; obtain ⟨rfl, rfl⟩ := hp; exact ⟨([], []), rfl, ⟨.refl _, .nil, Grow.nil _ _⟩, hw⟩
  · have hg : w.heap[g0]? = some (.cells cur e (0, 0)) := hw.own (g0, .cells cur e (0, 0)) (by simp)
    have hH : HoldsK El.cells (El.sz α) w g0 0 l.toArray := by
      intro j hj; have hj2 : j < l.length * El.sz α := by simpa using hj
      have hjc : j < cur.size := by rw [h3]; exact Nat.lt_of_lt_of_le hj2 (Nat.mul_le_mul_right _ h1)
      have hv : cur[j]? = some ((flatK El.cells (El.sz α) l.toArray)[j]!) := by
        have e1 := flat_rows hz l; rw [← h4] at e1; have e2 : (flatK El.cells (El.sz α) l.toArray).toList[j]? = cur.toList[j]? := by rw [e1, List.getElem?_take, if_pos hj2]
        rw [getElem!_pos _ j (by simpa using hj), ← Array.getElem?_toList, ← e2, Array.getElem?_toList, Array.getElem?_eq_getElem hj]
      refine ⟨?_, by simp [World.frozen?, hg]⟩; simp only [World.cell?, hg, Nat.zero_add, id]
      simpa using hv
    refine Calls.mono (AnyQ.slices_SortFunc L (El.sz α) aE zE El.cells El.len El.one cf hO g #[] g0 0 cap l.toArray w eg (cmp_lays hcmp g0 0 _ w) hH (lt_of_own hg) (by simpa using hl)) fun e' w' hp => ?_; obtain ⟨rfl, d', n, os, hpm, hso, rfl⟩ := hp; have hds : d'.size = l.length := by simpa using hpm.1
    obtain ⟨cur', q1, q2, q3, q4⟩ := sort_world hz hg n d' os (by rw [hds, h3]; exact Nat.mul_le_mul_right _ h1)
    have hperm : d'.toList.Perm l := by
      have := hpm.2.2; rw [show l.toArray.size = d'.size by simp [hds], Array.extract_size] at this; rw [hds, show l.length = l.toArray.size by simp, Array.extract_size] at this
      simpa using this
    refine ⟨(d'.toList, [(g0, .cells cur' e (0, 0))]), rfl, ⟨hperm, ?_, ?_⟩, hw.write q4 q1⟩
    · rw [List.pairwise_iff_getElem]
      intro i j hi hj hij; have := hso i j (Nat.zero_le _) hij (by simpa [hds] using hj); rw [getElem!_pos d' j (by simpa using hj), getElem!_pos d' i (by simpa using hi)] at this
      simpa using this
    · rw [show d'.toList.length = l.length by simp [hds]]
      exact ⟨by rw [rows_len]; simp [hds], .inr ⟨g0, cur', rfl, rfl, h1, h2, by rw [q2, h3], by rw [← hds]; exact q3⟩⟩
end Go.W
end
section
namespace Go.Proofs.Ytpbbgbjidhffoaa
open Go Go.W
set_option maxRecDepth 20000
attribute [local irreducible] HL HC HQ HB Row Rows2 Blk Facts
def cmpB (a b : UInt8) : Int := if a.toNat < b.toNat then -1 else if b.toNat < a.toNat then 1 else 0
def cmpT : Str → Str → Int
  | [], [] => 0
  | [], _ :: _ => -1
  | _ :: _, [] => 1
  | a :: l, b :: l' => if ¬ cmpB a b = 0 then cmpB a b else cmpT l l'
theorem cmpB_zero {a b : UInt8} (h : cmpB a b = 0) : a = b := by
  unfold cmpB at h
  split at h
  · cases h
  · split at h
    · cases h
    · exact UInt8.toNat_inj.1 (by omega)
theorem cmpB_self (a : UInt8) : cmpB a a = 0 := by unfold cmpB; rw [if_neg (by omega), if_neg (by omega)]
theorem cmpT_lt : ∀ a b : Str, cmpT a b < 0 ↔ a < b
  | [], [] => by simp [cmpT]
  | [], b :: l => by simp [cmpT]
  | a :: l, [] => by simp [cmpT]
  | a :: l, b :: l' => by
    rw [List.cons_lt_cons_iff, cmpT]
    by_cases h : cmpB a b = 0
    · have e := cmpB_zero h
      subst e; rw [if_neg (not_not_intro h), cmpT_lt l l']
      constructor
      · intro h; exact .inr ⟨rfl, h⟩
      · rintro (h | h)
        · exact absurd h (UInt8.lt_irrefl _)
        · exact h.2
    · rw [if_pos h]
      have hne : a ≠ b := fun e => h (by rw [e]; exact cmpB_self b); unfold cmpB
      constructor
      · intro h1
        left
        rw [UInt8.lt_iff_toNat_lt]
        split at h1
        · assumption
        · split at h1 <;> omega
      · rintro (h1 | h1)
        · rw [UInt8.lt_iff_toNat_lt] at h1
          rw [if_pos h1]; decide
        · exact absurd h1.1 hne
theorem cmpT_eq : ∀ {a b : Str}, ¬ a < b → ¬ b < a → a = b := fun {a b} h1 h2 => List.le_antisymm (List.not_lt.1 h2) (List.not_lt.1 h1)
theorem cmpT_drop {a b : Str} {k : Nat} (ha : k < a.length) (hb : k < b.length) : cmpT (a.drop k) (b.drop k) = if ¬ cmpB (a.getD k default) (b.getD k default) = 0 then cmpB (a.getD k default) (b.getD k default) else cmpT (a.drop (k + 1)) (b.drop (k + 1)) := by
  rw [drop_getD ha, drop_getD hb, cmpT]
theorem cmpT_le {a : Str} : cmpT a [] = if a.length = 0 then 0 else 1 := by cases a <;> rfl
theorem cmpT_ge {b : Str} : cmpT [] b = if b.length = 0 then 0 else -1 := by cases b <;> rfl
abbrev cfT (x y : Ty) : Int := cmpT x.1 y.1
theorem ltT (x y : Ty) : Go.Proofs.ltOf cfT x y = decide (x.1 < y.1) := decide_eq_decide.2 (cmpT_lt x.1 y.1)
theorem swoT : Go.Sort.SWO (Go.Proofs.ltOf cfT) where
  irrefl x := by rw [ltT]; exact decide_eq_false (List.lt_irrefl _)
  trans x y z h1 h2 := by
    rw [ltT, decide_eq_true_eq] at *; exact List.lt_trans h1 h2
  ntrans x y z h1 h2 := by
    rw [ltT, decide_eq_false_iff_not] at *; exact List.not_lt.2 (List.le_trans (List.not_lt.1 h2) (List.not_lt.1 h1))
instance : El Ty where
  default := ([], 0)
  cells x := [str x.1, int x.2]
  sz := 2
  len _ := rfl
  one a u h := by simp at h; rcases h with h | h <;> subst h <;> rfl
abbrev TyB := { t : Ty // t.1.length ≤ 1000000 }
instance : El TyB where
  default := ⟨([], 0), Nat.zero_le _⟩
  cells x := [str x.1.1, int x.1.2]
  sz := 2
  len _ := rfl
  one a u h := by simp at h; rcases h with h | h <;> subst h <;> rfl
abbrev cfB (x y : TyB) : Int := cmpT x.1.1 y.1.1
theorem swoB : Go.Sort.SWO (Go.Proofs.ltOf cfB) := ⟨fun x => swoT.irrefl x.1, fun x y z => swoT.trans x.1 y.1 z.1, fun x y z => swoT.ntrans x.1 y.1 z.1⟩
theorem rows_val : ∀ l : List TyB, rows l = rows (l.map (·.1))
  | [] => rfl
  | x :: l => by rw [List.map_cons, rows_cons, rows_cons, rows_val l]; rfl
def tyOf (ps : List (Sl Str)) (vis : List (Ment Str)) : List Ty := vis.map fun q => (q.1, (stockN ps q.1 : Int))
theorem tyOf_snoc (ps : List (Sl Str)) (vis : List (Ment Str)) (q : Ment Str) : tyOf ps (vis ++ [q]) = tyOf ps vis ++ [(q.1, (stockN ps q.1 : Int))] := by unfold tyOf; rw [List.map_append]; rfl
theorem stock_is {ps : List (Sl Str)} {l vis : List (Ment Str)} {clk : Nat} {ts : List Ty} (hM : MapIs l clk (stockN ps)) (hV : Vis l vis) (ha : ∀ p ∈ l, p.2.2 ∈ vis.map (·.2.2)) (hp : ts.Perm (tyOf ps vis)) (hs : ts.Pairwise fun a b => Go.Proofs.ltOf cfT b a = false) : StockIs ps ts := by
  have hnd : (ts.map (·.1)).Nodup := by
    refine (hp.map _).nodup_iff.2 ?_; have e : (tyOf ps vis).map (·.1) = vis.map (·.1) := by unfold tyOf; rw [List.map_map]; rfl
    rw [e]; have h1 := hV.nd; have h2 := hV.sub; clear hp hs ha e hV
    induction vis with
    | nil => simp
    | cons q vis ih =>
      rw [List.map_cons, List.nodup_cons] at h1 ⊢; refine ⟨fun hm => h1.1 ?_, ih h1.2 fun p hp => h2 p (List.mem_cons_of_mem _ hp)⟩; obtain ⟨r, hr, e⟩ := List.mem_map.1 hm; have := MapIs.key hM.nd (h2 r (List.mem_cons_of_mem _ hr)) (h2 q List.mem_cons_self) e; subst this; exact List.mem_map_of_mem hr
  constructor
  · rw [List.Nodup, List.pairwise_map] at hnd
    refine (hs.and hnd).imp fun {a b} h => ?_; have h1 : ¬ b.1 < a.1 := by have := h.1; rw [ltT] at this; exact of_decide_eq_false this
    exact Classical.byContradiction fun h2 => h.2 (cmpT_eq h2 h1)
  · intro s n
    rw [hp.mem_iff]; unfold tyOf; rw [List.mem_map]
    constructor
    · rintro ⟨q, hq, e⟩
      obtain ⟨rfl, rfl⟩ := Prod.mk.inj e; exact ⟨(hM.vl q (hV.sub q hq)).2, rfl⟩
    · rintro ⟨h1, rfl⟩
      obtain ⟨q, hq, rfl⟩ := List.mem_map.1 (hM.allVis hV ha h1); exact ⟨q, hq, rfl⟩
theorem cmp_isNaN_byte_meets (a : UInt8) : Meets Try.prog F.cmp_isNaN_byte [(.int .u8 (a.toNat : Nat))] { val := fun _ : Unit => .bool false } := by
 refine meets_intro F.cmp_isNaN_byte_f rfl (Nat.le_of_ble_eq_true rfl) fun w0 => ?_; refine hc_seq (hc_region (r_assign rfl rfl (hl_nil (then_n (hc_seq (hc_region (r_move rfl rfl (r_move rfl rfl (r_neq rfl rfl rfl (r_assign rfl rfl (hl_nil ?_))))))))))); refine then_n (hc_ret ?_); exact ret1 () rfl (congrArg (fun b => some (Value.bool b)) (by simp)) rfl trivial (.refl _) trivial
theorem cmp_Compare_byte_meets (a b : UInt8) : Meets Try.prog F.cmp_Compare_byte [(.int .u8 (a.toNat : Nat)), (.int .u8 (b.toNat : Nat))] { val := fun _ : Unit => int (cmpB a b) } := by
 refine meets_intro F.cmp_Compare_byte_f rfl (Nat.le_of_ble_eq_true rfl) fun w0 => ?_; refine hc_seq (hc_region (r_assign rfl rfl (hl_nil (then_n (hc_seq (hc_region (r_move rfl rfl ?_))))))); refine hl_call F.cmp_isNaN_byte_cb rfl rfl (cmp_isNaN_byte_meets _) (.refl _) trivial fun _ _ => ?_; refine r_assign rfl rfl (hl_nil (then_n (hc_seq (hc_region (r_move rfl rfl ?_))))); refine hl_call F.cmp_isNaN_byte_cb rfl rfl (cmp_isNaN_byte_meets _) (.refl _) trivial fun _ _ => ?_; refine r_assign rfl rfl (hl_nil (then_n (hc_seq (hc_seq (hc_region (r_move rfl rfl (hl_nil (then_n ?_)))))))); refine c_f rfl (by first | rfl | assumption | exact bf1 (by assumption) | exact bf2 (by assumption)) ?_; refine hc_skip (then_n (hc_seq (hc_seq (hc_region (r_move rfl rfl (hl_nil (then_n ?_))))))); refine c_f rfl (by first | rfl | assumption | exact bf1 (by assumption) | exact bf2 (by assumption)) ?_; refine hc_skip (then_n (hc_seq (hc_seq (hc_region (r_move rfl rfl (r_move rfl rfl (r_lss rfl rfl rfl (hl_nil (then_n ?_)))))))))
 first | refine c_dec rfl (fun hb4 => ?_) (fun hb4 => ?_) | refine hc_cond rfl (fun hb4 => ?_) (fun hb4 => ?_)
 ·have hb4' := hb4; try simp at hb4'
  refine hc_seq (hc_region (r_assign rfl rfl (hl_nil (then_n (hc_ret (then_ret ?_)))))); exact ret1 () rfl (congrArg (fun n => some (int n)) (by rw [cmpB, if_pos (by omega)])) rfl trivial (List.nil_sublist _) trivial
 ·have hb4' := hb4; try simp at hb4'
  refine hc_skip (then_n (hc_seq (hc_seq (hc_region (r_move rfl rfl (r_move rfl rfl (r_gtr rfl rfl rfl (hl_nil (then_n ?_)))))))))
  first | refine c_dec rfl (fun hb5 => ?_) (fun hb5 => ?_) | refine hc_cond rfl (fun hb5 => ?_) (fun hb5 => ?_)
  ·have hb5' := hb5; try simp at hb5'
   refine hc_seq (hc_region (r_assign rfl rfl (hl_nil (then_n (hc_ret (then_ret ?_)))))); exact ret1 () rfl (congrArg (fun n => some (int n)) (by rw [cmpB, if_neg (by omega), if_pos (by omega)])) rfl trivial (List.nil_sublist _) trivial
  ·have hb5' := hb5; try simp at hb5'
   refine hc_skip (then_n (hc_seq (hc_region (r_assign rfl rfl (hl_nil (then_n (hc_ret ?_))))))); exact ret1 () rfl (congrArg (fun n => some (int n)) (by rw [cmpB, if_neg (by omega), if_neg (by omega)])) rfl trivial (List.nil_sublist _) trivial
theorem slices_Compare_bytes_meets {A B : Option Addr} {ca cb : Nat} (a b : Str) (ha : a.length ≤ 1000000) (hb : b.length ≤ 1000000) : Meets Try.prog F.slices_Compare_byte_byte [.slice A a.length ca, .slice B b.length cb] { LI := [Row A (rows a), Row B (rows b)], val := fun _ : Unit => int (cmpT a b) } := by
 refine meets_intro F.slices_Compare_byte_byte_f rfl (Nat.le_of_ble_eq_true rfl) fun w0 => ?_; refine hc_seq (hc_region (r_assign rfl rfl (hl_nil (then_n (hc_seq (hc_seq (hc_region (r_move rfl rfl ?_)))))))); refine r_len_sl rfl T.u_L_uint8 rfl ?_; refine r_move rfl rfl (hl_nil (then_n (hc_block ?_))); refine hc_loop (β := Nat) ⟨fun k => k ≤ a.length ∧ k ≤ b.length ∧ cmpT a b = cmpT (a.drop k) (b.drop k), fun k => [(0, .slice A a.length ca), (1, .slice B b.length cb), (9, .slice A a.length ca), (10, int a.length), (11, int k)], fun _ => [], fun _ => [Row A (rows a), Row B (rows b)]⟩ (fun k => a.length - k) 0 ⟨Nat.zero_le _, Nat.zero_le _, rfl⟩ ⟨rfl, rfl, rfl, rfl, rfl, trivial⟩ (.refl _) ⟨mB, mB, trivial⟩ fun k hk => ?_; obtain ⟨hk, hkb, ht⟩ := hk; refine hc_seq (hc_region (r_lss rfl rfl rfl (hl_nil (then_n (hc_seq ?_)))))
 first | refine c_dec rfl (fun hb1 => ?_) (fun hb1 => ?_) | refine hc_cond rfl (fun hb1 => ?_) (fun hb1 => ?_)
 ·have hb1' := hb1; try simp at hb1'
  have hk2 : k < a.length := by omega
  refine hc_skip (then_n (hc_seq (hc_block (hc_seq (hc_region (r_move rfl rfl ?_)))))); refine r_elem (α := UInt8) _ _ rfl T.u_L_uint8 T.sz_u8 rfl rfl rfl mB rfl (by omega) (by decide) ?_; refine r_load rfl T.cell_u8 rfl (cell_row mB (rows_get0 (by omega) rfl)) ?_; refine r_assign rfl rfl (r_assign rfl rfl (hl_nil (then_n (hc_seq (hc_seq (hc_region (r_move rfl rfl (r_move rfl rfl ?_)))))))); refine r_len_sl rfl T.u_L_uint8 rfl ?_; refine r_geq rfl rfl rfl (hl_nil (then_n ?_))
  first | refine c_dec rfl (fun hb2 => ?_) (fun hb2 => ?_) | refine hc_cond rfl (fun hb2 => ?_) (fun hb2 => ?_)
  ·have hb2' := hb2; try simp at hb2'
   have hkb2 : k = b.length := by omega
   rw [hkb2, List.drop_length, cmpT_le, List.length_drop, if_neg (by omega)] at ht; refine hc_seq (hc_region (r_assign rfl rfl (hl_nil (then_n (hc_ret (then_ret (inb_ret (then_ret (then_ret (inb_ret (then_ret ?_))))))))))); exact ret1 () rfl (congrArg (fun n => some (int n)) (by rw [ht])) rfl trivial (List.nil_sublist _) trivial
  ·have hb2' := hb2; try simp at hb2'
   have hkb2 : k < b.length := by omega
   rw [cmpT_drop hk2 hkb2] at ht; refine hc_skip (then_n (hc_seq (hc_region (r_move rfl rfl (r_move rfl rfl ?_))))); refine r_elem (α := UInt8) _ _ rfl T.u_L_uint8 T.sz_u8 rfl rfl rfl mB rfl (by omega) (by decide) ?_; refine r_load rfl T.cell_u8 rfl (cell_row mB (rows_get0 (by omega) rfl)) ?_; refine r_assign rfl rfl (hl_nil (then_n (hc_seq (hc_region (r_move rfl rfl (r_move rfl rfl ?_)))))); refine hl_call F.cmp_Compare_byte_cb rfl rfl (cmp_Compare_byte_meets (a.getD k default) (b.getD k default)) (List.Perm.refl _) trivial fun _ _ => ?_; refine r_assign rfl rfl (hl_nil (then_n (hc_seq (hc_region (r_move rfl rfl (r_neq rfl rfl rfl (hl_nil (then_n ?_))))))))
   first | refine c_dec rfl (fun hb3 => ?_) (fun hb3 => ?_) | refine hc_cond rfl (fun hb3 => ?_) (fun hb3 => ?_)
   ·have hb3' := hb3; try simp at hb3'
    rw [if_pos hb3] at ht; refine hc_seq (hc_region (r_move rfl rfl (r_assign rfl rfl (hl_nil (then_n (hc_ret (inb_ret (then_ret (then_ret (inb_ret (then_ret ?_))))))))))); exact ret1 () rfl (congrArg (fun n => some (int n)) (by rw [ht])) rfl trivial (List.nil_sublist _) trivial
   ·have hb3' := hb3; try simp at hb3'
    rw [if_neg hb3] at ht; refine hc_skip (inb_n (then_n (hc_region ?_))); refine r_add _ rfl rfl rfl rfl (by unfold I64; omega) ?_; refine r_move rfl rfl (hl_nil ?_); exact again _ (k + 1) ⟨by show k + 1 ≤ a.length; omega, by show k + 1 ≤ b.length; omega, ht⟩ (by show a.length - (k + 1) < a.length - k; omega) ⟨rfl, rfl, rfl, rfl, rfl, trivial⟩ (.refl _) ⟨mB, mB, trivial⟩
 ·have hb1' := hb1; try simp at hb1'
  obtain rfl : k = a.length := by omega
  rw [List.drop_length, cmpT_ge, List.length_drop] at ht; refine hc_exit (then_exit (then_exit (inb_hit (then_n (hc_seq (hc_seq (hc_region (r_move rfl rfl ?_)))))))); refine r_len_sl rfl T.u_L_uint8 rfl ?_; refine r_move rfl rfl ?_; refine r_len_sl rfl T.u_L_uint8 rfl ?_; refine r_lss rfl rfl rfl (hl_nil (then_n ?_))
  first | refine c_dec rfl (fun hb4 => ?_) (fun hb4 => ?_) | refine hc_cond rfl (fun hb4 => ?_) (fun hb4 => ?_)
  ·have hb4' := hb4; try simp at hb4'
   refine hc_seq (hc_region (r_assign rfl rfl (hl_nil (then_n (hc_ret (then_ret ?_)))))); exact ret1 () rfl (congrArg (fun n => some (int n)) (by rw [ht, if_neg (by omega)])) rfl trivial (List.nil_sublist _) trivial
  ·have hb4' := hb4; try simp at hb4'
   refine hc_skip (then_n (hc_seq (hc_region (r_assign rfl rfl (hl_nil (then_n (hc_ret ?_))))))); exact ret1 () rfl (congrArg (fun n => some (int n)) (by rw [ht, if_pos (by omega)])) rfl trivial (List.nil_sublist _) trivial
theorem proof_Stock_1_meets (x y : Ty) (hx : x.1.length ≤ 1000000) (hy : y.1.length ≤ 1000000) : Meets Try.prog F.proof_Stock_1 [.agg #[str x.1, int x.2], .agg #[str y.1, int y.2]] { val := fun _ : Unit => int (cmpT x.1 y.1) } := by
 refine meets_intro F.proof_Stock_1_f rfl (Nat.le_of_ble_eq_true rfl) fun w0 => ?_; refine hc_seq (hc_region ?_); refine r_box rfl rfl fun ga => ?_; refine r_box rfl rfl fun gb => ?_; refine r_assign rfl rfl (hl_nil (then_n (hc_seq (hc_region ?_))))
 first | refine r_fieldAddr ⟨_, 0, none⟩ rfl rfl T.fa_api_Type_0 rfl ?_ | refine r_fieldAddr _ rfl rfl T.fa_api_Type_0 rfl ?_
 first | refine r_load rfl T.cell_string rfl (cell_own mB rfl) ?_ | refine r_load rfl T.cell_string rfl (cell_blk mB rfl) ?_ | refine r_load rfl T.cell_string rfl (cell_row mB (rows_get0 (by omega) rfl)) ?_ | refine r_load rfl T.cell_string rfl (cell_row_f mB (rows_get (by omega) rfl)) ?_
 refine r_bytes rfl T.u_string T.u_L_uint8 T.u_u8 rfl fun g1 cap1 => ?_
 first | refine r_fieldAddr ⟨_, 0, none⟩ rfl rfl T.fa_api_Type_0 rfl ?_ | refine r_fieldAddr _ rfl rfl T.fa_api_Type_0 rfl ?_
 first | refine r_load rfl T.cell_string rfl (cell_own mB rfl) ?_ | refine r_load rfl T.cell_string rfl (cell_blk mB rfl) ?_ | refine r_load rfl T.cell_string rfl (cell_row mB (rows_get0 (by omega) rfl)) ?_ | refine r_load rfl T.cell_string rfl (cell_row_f mB (rows_get (by omega) rfl)) ?_
 refine r_bytes rfl T.u_string T.u_L_uint8 T.u_u8 rfl fun g2 cap2 => ?_; refine hl_call F.slices_Compare_byte_byte_cb rfl rfl (slices_Compare_bytes_meets x.1 y.1 hx hy) (hpR := [_, _]) (List.Perm.refl _) ⟨mB, mB, trivial⟩ fun _ _ => ?_; refine r_assign rfl rfl (hl_nil (then_n (hc_ret ?_))); exact ret1 () rfl rfl rfl trivial (List.nil_sublist _) trivial
def Layed.sort_ren : Go.Shelf.Ren := ⟨fun | 6 => 83 | 15 => 104 | 14 => 103 | 28 => 126 | 29 => 127 | 20 => 118 | 21 => 119 | 22 => 120 | 23 => 121 | 24 => 122 | 25 => 123 | 26 => 124 | 27 => 125 | 46 => 132 | 47 => 133 | 48 => 134 | 49 => 135 | 50 => 136 | 57 => 138 | n => n, fun | 22 => 78 | 24 => 82 | 25 => 115 | 3 => 3 | 39 => 94 | 0 => 0 | 53 => 156 | 55 => 88 | 4 => 4 | 46 => 150 | 45 => 149 | 50 => 74 | 5 => 5 | 9 => 9 | 66 => 161 | 70 => 164 | 76 => 167 | 77 => 168 | n => n, fun | n => n⟩
theorem Layed.sort : Go.Proofs.SlLaysF0.n6 Try.prog Layed.sort_ren where
  mixed := by kernel_rfl
  f6 := ⟨"slices.SortFunc[[]wayzgoose/api.Type,wayzgoose/api.Type]", by decide, Try.func83.trans (congrArg some (by kernel_rfl))⟩
  f14 := ⟨"slices.pdqsortCmpFunc[wayzgoose/api.Type]", by decide, Try.func103.trans (congrArg some (by kernel_rfl))⟩
  f15 := Try.func104.trans (congrArg some (by kernel_rfl))
  f20 := ⟨"slices.insertionSortCmpFunc[wayzgoose/api.Type]", by decide, Try.func118.trans (congrArg some (by kernel_rfl))⟩
  f21 := ⟨"slices.heapSortCmpFunc[wayzgoose/api.Type]", by decide, Try.func119.trans (congrArg some (by kernel_rfl))⟩
  f22 := ⟨"slices.breakPatternsCmpFunc[wayzgoose/api.Type]", by decide, Try.func120.trans (congrArg some (by kernel_rfl))⟩
  f23 := ⟨"slices.choosePivotCmpFunc[wayzgoose/api.Type]", by decide, Try.func121.trans (congrArg some (by kernel_rfl))⟩
  f24 := ⟨"slices.reverseRangeCmpFunc[wayzgoose/api.Type]", by decide, Try.func122.trans (congrArg some (by kernel_rfl))⟩
  f25 := ⟨"slices.partialInsertionSortCmpFunc[wayzgoose/api.Type]", by decide, Try.func123.trans (congrArg some (by kernel_rfl))⟩
  f26 := ⟨"slices.partitionEqualCmpFunc[wayzgoose/api.Type]", by decide, Try.func124.trans (congrArg some (by kernel_rfl))⟩
  f27 := ⟨"slices.partitionCmpFunc[wayzgoose/api.Type]", by decide, Try.func125.trans (congrArg some (by kernel_rfl))⟩
  f28 := Try.func126.trans (congrArg some (by kernel_rfl))
  f29 := Try.func127.trans (congrArg some (by kernel_rfl))
  f46 := ⟨"slices.siftDownCmpFunc[wayzgoose/api.Type]", by decide, Try.func132.trans (congrArg some (by kernel_rfl))⟩
  f47 := Try.func133.trans (congrArg some (by kernel_rfl))
  f48 := Try.func134.trans (congrArg some (by kernel_rfl))
  f49 := ⟨"slices.medianAdjacentCmpFunc[wayzgoose/api.Type]", by decide, Try.func135.trans (congrArg some (by kernel_rfl))⟩
  f50 := ⟨"slices.medianCmpFunc[wayzgoose/api.Type]", by decide, Try.func136.trans (congrArg some (by kernel_rfl))⟩
  f57 := ⟨"slices.order2CmpFunc[wayzgoose/api.Type]", by decide, Try.func138.trans (congrArg some (by kernel_rfl))⟩
  t0 := Try.underlying0
  a0 := Try.isAgg0
  z0 := Try.sizeOf0
  v0 := Try.zeroValue0
  t3 := Try.underlying3
  a3 := Try.isAgg3
  z3 := Try.sizeOf3
  v3 := Try.zeroValue3
  t4 := Try.underlying4
  a4 := Try.isAgg4
  z4 := Try.sizeOf4
  v4 := Try.zeroValue4
  t5 := Try.underlying5
  a5 := Try.isAgg5
  z5 := Try.sizeOf5
  v5 := Try.zeroValue5
  t9 := Try.underlying9
  a9 := Try.isAgg9
  z9 := Try.sizeOf9
  v9 := Try.zeroValue9
  t22 := Try.underlying78
  a22 := Try.isAgg78
  z22 := Try.sizeOf78
  v22 := Try.zeroValue78
  t25 := Try.underlying115
  a25 := Try.isAgg115
  z25 := Try.sizeOf115
  v25 := Try.zeroValue115
  t39 := Try.underlying94
  a39 := Try.isAgg94
  z39 := Try.sizeOf94
  v39 := Try.zeroValue94
  t45 := Try.underlying149
  a45 := Try.isAgg149
  z45 := Try.sizeOf149
  v45 := Try.zeroValue149
  t46 := Try.underlying150
  a46 := Try.isAgg150
  z46 := Try.sizeOf150
  v46 := Try.zeroValue150
  t50 := Try.underlying74
  a50 := Try.isAgg74
  z50 := Try.sizeOf74
  v50 := Try.zeroValue74
  t53 := Try.underlying156
  a53 := Try.isAgg156
  z53 := Try.sizeOf156
  v53 := Try.zeroValue156
  t55 := Try.underlying88
  a55 := Try.isAgg88
  z55 := Try.sizeOf88
  v55 := Try.zeroValue88
  t66 := Try.underlying161
  a66 := Try.isAgg161
  z66 := Try.sizeOf161
  v66 := Try.zeroValue161
  t70 := Try.underlying164
  a70 := Try.isAgg164
  z70 := Try.sizeOf164
  v70 := Try.zeroValue164
  t76 := Try.underlying167
  a76 := Try.isAgg167
  z76 := Try.sizeOf167
  v76 := Try.zeroValue167
  t77 := Try.underlying168
  a77 := Try.isAgg168
  z77 := Try.sizeOf168
  v77 := Try.zeroValue168
theorem sort_types_meets {A : Option Addr} {cap : Nat} (l : List Ty) (hb : ∀ t ∈ l, t.1.length ≤ 1000000) {og : Hp} (hG : Grow T.api_Type 2 A l.length cap (rows l) og) (hl : l.length < 4611686018427387904) :
    Meets Try.prog F.slices_SortFunc [.slice A l.length cap, .func (.func F.proof_Stock_1) #[] #[]] { hpI := og, inv := fun x : List Ty × Hp => x.1.Perm l ∧ x.1.Pairwise (fun a b => Go.Proofs.ltOf cfT b a = false) ∧ Grow T.api_Type 2 A x.1.length cap (rows x.1) x.2, val := fun _ => .tuple #[], hpO := fun x => x.2 } := by
  obtain ⟨lb, rfl⟩ : ∃ lb : List TyB, l = lb.map (·.1) := ⟨l.pmap (fun t h => ⟨t, h⟩) hb, by rw [List.map_pmap]; simp⟩; rw [← rows_val, List.length_map] at hG; rw [List.length_map] at hl ⊢; have h := sortFunc_meets Layed.sort (α := TyB) (by decide) (fun w => by kernel_rfl) (fun w => by kernel_rfl) swoB (f := F.slices_SortFunc) (g := F.proof_Stock_1) rfl (fun args w => Callable.run F.proof_Stock_1_cb args w) (fun x y => proof_Stock_1_meets x.1 y.1 x.2 y.2) lb hG hl; intro w hw; refine Calls.mono (h w hw) fun e w' hp => ?_; obtain ⟨x, rfl, ⟨h1, h2, h3⟩, h4⟩ := hp; refine ⟨(x.1.map (·.1), x.2), rfl, ⟨h1.map _, ?_, ?_⟩, h4⟩
  · rw [List.pairwise_map]; exact h2
  · rw [← rows_val, List.length_map]; exact h3
end Go.Proofs.Ytpbbgbjidhffoaa
end
section
namespace Go.Proofs.Ytpbbgbjidhffoaa
open Go Go.W
set_option maxRecDepth 20000
attribute [local irreducible] HL HC HQ HB Row Rows2 Blk Facts
theorem stock_line {ps : List (Sl Str)} {s : Str} (h : yearsErr (years ps) = 0) (hs : 0 < stockN ps s) : s.length ≤ 1000000 := by
  obtain ⟨p, hp, hm⟩ := stock_pos.1 hs; rw [yearsErr_of] at h
  split at h
  · omega
  · have h1 := firstErr_zero h p hp
    unfold pageErr at h1
    split at h1
    · omega
    · have h2 := firstErr_zero h1 s hm
      unfold lineErr at h2
      split at h2
      · omega
      · split at h2
        · omega
        · omega
structure StockR (ps : List (Sl Str)) (ts : List Ty) : Prop where
  ok : yearsErr (years ps) = 0 → StockIs ps ts
  no : ¬ yearsErr (years ps) = 0 → ts = []
set_option maxHeartbeats 1000000 in
theorem proof_Stock_any {A : Option Addr} {c : Nat} (ps : List (Sl Str)) : Meets Try.prog F.proof_Stock [.slice A ps.length c] { LI := [Rows2 A ps], inv := fun x : List Ty × OutC => StockR ps x.1, val := fun x => .tuple #[.slice x.2.1 x.1.length x.2.2, int (yearsErr (years ps))], LO := fun x => [Row x.2.1 (rows x.1)] } := by
 refine meets_intro F.proof_Stock_f rfl (Nat.le_of_ble_eq_true rfl) fun w0 => ?_; refine hc_seq (hc_region (r_assign rfl rfl (r_assign rfl rfl (hl_nil (then_n (hc_seq (hc_seq (hc_region (r_move rfl rfl ?_))))))))); refine hl_call F.proof_yearsError_cb rfl rfl (proof_yearsError_meets ps) (List.Perm.refl _) ⟨mB, trivial⟩ fun _ _ => ?_; refine r_assign rfl rfl (hl_nil (then_n (hc_seq (hc_region (r_move rfl rfl (r_neq rfl rfl rfl (hl_nil (then_n ?_))))))))
 first | refine c_dec rfl (fun hb1 => ?_) (fun hb1 => ?_) | refine hc_cond rfl (fun hb1 => ?_) (fun hb1 => ?_)
 ·have hb1' := hb1; try simp at hb1'
  refine hc_seq (hc_region (r_move rfl rfl (r_assign rfl rfl (r_assign rfl rfl (hl_nil (then_n (hc_ret (then_ret ?_)))))))); refine hq_nilrow (α := Ty) ?_; exact ret2 (([] : List Ty), (none, 0)) rfl rfl rfl rfl rfl ⟨fun h => absurd h hb1, fun _ => rfl⟩ (List.nil_sublist _) ⟨m0, trivial⟩
 ·have hb1' := hb1; try simp at hb1'
  have hy0 := Classical.not_not.1 hb1; obtain ⟨hy4, hy6⟩ := yearsErr_zero hy0; have hsb := stock_bd hy6; refine hc_skip (then_n (hc_seq (hc_region (r_assign rfl rfl (hl_nil (then_n (hc_seq (hc_seq (hc_region (r_move rfl rfl ?_)))))))))); refine hl_call F.proof_stock_cb rfl rfl (proof_stock_meets ps (by omega) (fun q hq => by have := hy6 q hq; omega)) (List.Perm.refl _) ⟨mB, trivial⟩ fun x hx => ?_; obtain ⟨gm, l0, clk0⟩ := x; have hM : MapIs l0 clk0 (stockN ps) := hx; clear hx; have hll := hM.len (K := linesOf ps) fun s hs => stock_lines hs; have hl24 := lines_len hy6; refine r_rangeM rfl T.u_map_string_int rfl (map_own m0) fun gi => ?_; refine hl_nil (then_n (hc_block ?_)); refine hc_loop (β := List (Ment Str) × OutC × Hp) ⟨fun x => Vis l0 x.1 ∧ Grow T.api_Type 2 x.2.1.1 x.1.length x.2.1.2 (rows (tyOf ps x.1)) x.2.2, fun x => [(5, .slice x.2.1.1 x.1.length x.2.1.2), (15, .pointer (some ⟨gi, 0, none⟩))], fun x => x.2.2 ++ [(gi, iterM gm clk0 x.1), (gm, mapO str l0 clk0)], fun _ => []⟩ (fun x => l0.length - x.1.length) ([], (none, 0), []) ⟨Vis.nil _, Grow.nil _ _⟩ ⟨rfl, rfl, trivial⟩ (.refl _) trivial fun x hx => ?_; obtain ⟨vis, ⟨na, nc⟩, og⟩ := x; obtain ⟨hV, hG⟩ := hx; simp only at hV hG; have hvl := hV.len; refine hc_seq (hc_region ?_); refine r_nextM (enc := str) (vis := vis) (hp' := og ++ [(gm, mapO str l0 clk0)]) rfl rfl (map_own (List.mem_append_right _ m1)) hM.lt (perm_of fun q => by simp only [List.countP_append, List.countP_cons, List.countP_nil]; omega) fun x hx0 hx1 => ?_; refine r_mext0 (enc := str) rfl rfl ?_; refine hl_nil (then_n (hc_seq ?_))
  first | refine c_dec rfl (fun hb2 => ?_) (fun hb2 => ?_) | refine hc_cond rfl (fun hb2 => ?_) (fun hb2 => ?_)
  ·have hb2' := hb2; try simp at hb2'
   obtain ⟨q, rfl⟩ := Option.isSome_iff_exists.1 hb2; obtain ⟨hq1, hq2⟩ := hx1 q rfl; have hqv := hM.vl q hq1; have hlt := hV.lt hq1 hq2; obtain ⟨s, v, b⟩ := q; simp only at hqv; obtain ⟨rfl, hqp⟩ := hqv; have hts := tyOf_snoc ps vis (s, int ((stockN ps s : Nat) : Int), b); refine hc_skip (then_n (hc_block (hc_seq (hc_region ?_)))); refine r_entry (p := (s, int ((stockN ps s : Nat) : Int), b)) rfl rfl (map_own (List.mem_cons_of_mem _ (List.mem_append_right _ m0))) (map_own m0) hq1 hM.bs ?_; refine r_extract rfl rfl rfl (r_extract rfl rfl rfl (r_assign rfl rfl (r_assign rfl rfl (hl_nil (then_n (hc_region (r_move rfl rfl (r_move rfl rfl (r_move rfl rfl ?_))))))))); refine r_build _ rfl rfl (fun _ => T.bd_api_Type_0_1 ..) ?_; refine r_buildSlice _ rfl rfl (fun _ => T.bs_L_api_Type_1 ..) fun gS => ?_; refine r_append (vis.length + 1) (rows (tyOf ps (vis ++ [(s, int ((stockN ps s : Nat) : Int), b)]))) T.el_L_api_Type rfl rfl rfl hG (hp' := [(gS, .cells #[str s, int ((stockN ps s : Nat) : Int)] T.api_Type (0, 0)), (gi, iterM gm clk0 (vis ++ [(s, int ((stockN ps s : Nat) : Int), b)])), (gm, mapO str l0 clk0)]) (show List.Perm ((gS, Obj.cells #[str s, int ((stockN ps s : Nat) : Int)] T.api_Type (0, 0)) :: (gi, iterM gm clk0 (vis ++ [(s, int ((stockN ps s : Nat) : Int), b)])) :: (og ++ [(gm, mapO str l0 clk0)])) (og ++ [(gS, Obj.cells #[str s, int ((stockN ps s : Nat) : Int)] T.api_Type (0, 0)), (gi, iterM gm clk0 (vis ++ [(s, int ((stockN ps s : Nat) : Int), b)])), (gm, mapO str l0 clk0)]) from perm_of fun q => by simp only [List.countP_append, List.countP_cons, List.countP_nil]; omega) (Src.own (cs := #[str s, int ((stockN ps s : Nat) : Int)]) (m := 1) (List.mem_append_right _ m0) rfl rfl) rfl (by rw [hts, rows_append]; rfl) (by unfold maxLen; omega) (by omega) fun A' c' og' hG' => ?_; refine r_assign rfl rfl (hl_nil (inb_n ?_)); exact again _ (vis ++ [(s, int ((stockN ps s : Nat) : Int), b)], (A', c'), og') ⟨hV.snoc hq1 hq2, by show Grow _ _ _ (vis ++ [_]).length _ _ _; rw [List.length_append]; exact hG'⟩ (by show l0.length - (vis ++ [_]).length < l0.length - vis.length; rw [List.length_append, List.length_singleton]; omega) ⟨by show some (Value.slice A' (vis.length + 1) c') = some (Value.slice A' (vis ++ [_]).length c'); rw [List.length_append]; rfl, rfl, trivial⟩ (List.Sublist.append_left (.cons _ (.refl _)) _) trivial
  ·have hb2' := hb2; try simp at hb2'
   have hx : x = none := by cases x with | none => rfl | some q => simp at hb2
   subst hx; refine hc_exit (then_exit (then_exit (inb_hit (then_n (hc_seq (hc_region (r_move rfl rfl ?_))))))); have hG2 : Grow T.api_Type 2 na (tyOf ps vis).length nc (rows (tyOf ps vis)) og := by unfold tyOf; rw [List.length_map]; exact hG
   have hso := sort_types_meets (tyOf ps vis) (fun t ht => by obtain ⟨q, hq, rfl⟩ := List.mem_map.1 ht; exact stock_line hy0 (hM.vl q (hV.sub q hq)).2) hG2 (by unfold tyOf; rw [List.length_map]; omega); rw [show (tyOf ps vis).length = vis.length by unfold tyOf; rw [List.length_map]] at hso; refine hl_call F.slices_SortFunc_cb rfl rfl hso (hpR := [(gi, iterM gm clk0 vis), (gm, mapO str l0 clk0)]) (perm_of fun q => by simp only [List.countP_append, List.countP_cons, List.countP_nil, Option.toList_none, List.append_nil]; omega) trivial fun y hy => ?_; obtain ⟨ts, og2⟩ := y; obtain ⟨hp1, hp2, hp3⟩ := hy; simp only at hp1 hp2 hp3; refine hl_nil (then_n (hc_seq (hc_region (r_move rfl rfl (r_assign rfl rfl (r_assign rfl rfl (hl_nil (then_n (hc_ret ?_))))))))); have htl : ts.length = vis.length := by have := hp1.length_eq; rw [show (tyOf ps vis).length = vis.length by unfold tyOf; rw [List.length_map]] at this; exact this
   refine hq_grown hp3 ?_; exact ret2 (ts, (na, nc)) rfl rfl rfl (by show Value.tuple #[.slice na ts.length nc, int (yearsErr (years ps))] = _; rw [htl, hy0]) rfl ⟨fun _ => stock_is hM hV (hx0 rfl) hp1 hp2, fun h => absurd hy0 h⟩ (List.nil_sublist _) ⟨m0, trivial⟩
theorem proof_Stock_meets {A : Option Addr} {c : Nat} (ps : List (Sl Str)) (h : yearsErr (years ps) = 0) : Meets Try.prog F.proof_Stock [.slice A ps.length c] { LI := [Rows2 A ps], inv := fun x : List Ty × OutC => StockIs ps x.1, val := fun x => .tuple #[.slice x.2.1 x.1.length x.2.2, int 0], LO := fun x => [Row x.2.1 (rows x.1)] } := by
  intro w hw; refine Calls.mono (proof_Stock_any ps w hw) fun e w' hp => ?_; obtain ⟨x, rfl, h1, h2⟩ := hp; exact ⟨x, by show Ending.returned (.tuple #[_, int (yearsErr (years ps))]) = _; rw [h], h1.ok h, h2⟩
end Go.Proofs.Ytpbbgbjidhffoaa
end
