/- Texts of this claim, one behind another. -/
import Derived.Shelf.SlSortCmp.NoneTotal
import Derived.Test.YtpbbgbjidhffoaaGreatYAi
set_option linter.unusedVariables false
set_option linter.unusedSimpArgs false
section
namespace Go.Proofs.YtpbbgbjidhffoaaGreat
open Go Go.W
set_option maxRecDepth 20000
attribute [local irreducible] HL HC HQ HB Row Rows2 Blk Facts
abbrev KS : KeyC Tryz.prog T.string str := KeyC.str T.u_string
theorem zv_int (w : World) : (zeroValue T.int).run Tryz.prog w = .ok (int 0) w := by kernel_rfl
theorem countN_up {p : List Str} {k : Nat} (h : k < p.length) (s : Str) : updF (countN (p.take k)) (p.getD k default) (countN (p.take k) (p.getD k default) + 1) s = countN (p.take (k + 1)) s := by
  rw [countN_take h]; unfold updF
  by_cases e : s = p.getD k default
  · subst e; rw [if_pos rfl, if_pos rfl]
  · rw [if_neg e, if_neg (fun e2 => e e2.symm)]; omega
theorem proof_counts_meets {B : Option Addr} {cb : Nat} (p : List Str) (hl : p.length ≤ 1000000) : Meets Tryz.prog F.proof_counts [.slice B p.length cb] { LI := [Row B (rows p)], inv := fun x : Nat × List (Ment Str) × Nat => MapIs x.2.1 x.2.2 (countN p), val := fun x => .map (some x.1), hpO := fun x => [(x.1, mapO str x.2.1 x.2.2)] } := by
 refine meets_intro F.proof_counts_f rfl (Nat.le_of_ble_eq_true rfl) fun w0 => ?_; refine hc_seq (hc_region (r_assign rfl rfl (hl_nil (then_n (hc_seq (hc_region ?_)))))); refine r_makeMapM str rfl fun gm => ?_; refine r_assign rfl rfl (hl_nil (then_n (hc_seq (hc_seq (hc_region (r_move rfl rfl ?_)))))); refine r_len_sl rfl T.u_strs rfl ?_; refine r_move rfl rfl (hl_nil (then_n (hc_block ?_))); refine hc_loop (β := Nat × List (Ment Str) × Nat) ⟨fun x => x.1 ≤ p.length ∧ MapIs x.2.1 x.2.2 (countN (p.take x.1)), fun x => [(3, .map (some gm)), (7, .slice B p.length cb), (8, int p.length), (9, int x.1)], fun x => [(gm, mapO str x.2.1 x.2.2)], fun _ => [Row B (rows p)]⟩ (fun x => p.length - x.1) (0, [], 0) ⟨Nat.zero_le _, MapIs.nil.congr fun s => rfl⟩ ⟨rfl, rfl, rfl, rfl, trivial⟩ (.refl _) ⟨m0, trivial⟩ fun x hx => ?_; obtain ⟨k, l, clk⟩ := x; obtain ⟨hk, hM⟩ := hx; simp only at hk hM; refine hc_seq (hc_region (r_lss rfl rfl rfl (hl_nil (then_n (hc_seq ?_)))))
 first | refine c_dec rfl (fun hb1 => ?_) (fun hb1 => ?_) | refine hc_cond rfl (fun hb1 => ?_) (fun hb1 => ?_)
 ·have hb1' := hb1; try simp at hb1'
  have hk2 : k < p.length := by omega
  have hcl := countN_le (p.take k) (p.getD k default); rw [List.length_take] at hcl; refine hc_skip (then_n (hc_seq (hc_block (hc_seq (hc_region ?_))))); refine r_elem (α := Str) _ _ rfl T.u_strs T.sz_string rfl rfl rfl mB rfl (by omega) (by decide) ?_; refine r_load rfl T.cell_string rfl (cell_row mB (rows_get0 (by omega) rfl)) ?_; refine r_assign rfl rfl (hl_nil (then_n (hc_region (r_move rfl rfl (r_move rfl rfl ?_))))); refine r_lookN (k := (p.getD k default)) KS rfl T.u_map_string_int rfl rfl (map_own m0) zv_int hM ?_; refine r_add (((countN (p.take k) (p.getD k default)) + 1 : Nat) : Int) rfl rfl rfl (by show (((countN (p.take k) (p.getD k default)) : Nat) : Int) + 1 = (((countN (p.take k) (p.getD k default)) + 1 : Nat) : Int); omega) (by unfold I64; omega) ?_; refine r_insert (k := (p.getD k default)) (v := int (((countN (p.take k) (p.getD k default)) + 1 : Nat) : Int)) KS (.inl rfl) T.u_map_string_int rfl rfl rfl (List.Perm.refl _) ?_; refine hl_nil (inb_n (then_n (hc_region ?_))); refine r_add _ rfl rfl rfl rfl (by unfold I64; omega) ?_; refine r_move rfl rfl (hl_nil ?_); exact again _ (k + 1, putM l (p.getD k default) (int (((countN (p.take k) (p.getD k default)) + 1 : Nat) : Int)) clk, clkM l (p.getD k default) clk) ⟨by show k + 1 ≤ p.length; omega, (hM.put (p.getD k default) (Nat.succ_pos _)).congr (countN_up hk2)⟩ (by show p.length - (k + 1) < p.length - k; omega) ⟨rfl, rfl, rfl, rfl, trivial⟩ (.refl _) ⟨m0, trivial⟩
 ·have hb1' := hb1; try simp at hb1'
  have hk2 : k = p.length := by omega
  subst hk2; rw [List.take_length] at hM; refine hc_exit (then_exit (then_exit (inb_hit (then_n (hc_seq (hc_region (r_move rfl rfl (r_assign rfl rfl (hl_nil (then_n (hc_ret ?_))))))))))); exact ret1 (gm, l, clk) rfl rfl rfl hM (.refl _) trivial
-- the stock while a page is gone through
def stV (f c : Str → Nat) (vis : List (Ment Str)) (s : Str) : Nat := if s ∈ vis.map (·.1) then max (f s) (c s) else f s
theorem stV_nil (f c : Str → Nat) (s : Str) : f s = stV f c [] s := by unfold stV; rw [if_neg (by simp)]
theorem stV_new {f c : Str → Nat} {vis : List (Ment Str)} {s : Str} (h : s ∉ vis.map (·.1)) : stV f c vis s = f s := by unfold stV; rw [if_neg h]
theorem stV_up {f c : Str → Nat} {vis : List (Ment Str)} {q : Ment Str} (h : q.1 ∉ vis.map (·.1)) (s : Str) : updF (stV f c vis) q.1 (max (f q.1) (c q.1)) s = stV f c (vis ++ [q]) s := by
  unfold updF stV; rw [List.map_append]
  by_cases e : s = q.1
  · subst e; rw [if_pos rfl, if_pos (by simp)]
  · rw [if_neg e]
    by_cases h2 : s ∈ vis.map (·.1)
    · rw [if_pos h2, if_pos (List.mem_append_left _ h2)]
    · rw [if_neg h2, if_neg (by rw [List.mem_append, not_or]; exact ⟨h2, by simpa using e⟩)]
theorem stV_end {f c : Str → Nat} {vis : List (Ment Str)} (h : ∀ s, 0 < c s → s ∈ vis.map (·.1)) (s : Str) : stV f c vis s = max (f s) (c s) := by
  unfold stV
  by_cases h2 : s ∈ vis.map (·.1)
  · rw [if_pos h2]
  · rw [if_neg h2]
    have : c s = 0 := by
      rcases Nat.eq_zero_or_pos (c s) with h3 | h3
      · exact h3
      · exact absurd (h s h3) h2
    omega
theorem proof_stock_meets {A : Option Addr} {c : Nat} (ps : List (Sl Str)) (hl : ps.length ≤ 1000000) (hp : ∀ p ∈ ps, p.l.length ≤ 1000000) : Meets Tryz.prog F.proof_stock [.slice A ps.length c] { LI := [Rows2 A ps], inv := fun x : Nat × List (Ment Str) × Nat => MapIs x.2.1 x.2.2 (stockN ps), val := fun x => .map (some x.1), hpO := fun x => [(x.1, mapO str x.2.1 x.2.2)] } := by
 refine meets_intro F.proof_stock_f rfl (Nat.le_of_ble_eq_true rfl) fun w0 => ?_; refine hc_seq (hc_region (r_assign rfl rfl (hl_nil (then_n (hc_seq (hc_region ?_)))))); refine r_makeMapM str rfl fun gm => ?_; refine r_assign rfl rfl (hl_nil (then_n (hc_seq (hc_seq ?_)))); refine hc_outer (A := A) (ps := ps) mB ?_; refine hc_region (r_move rfl rfl ?_); refine r_len_sl rfl T.u_pages rfl ?_; refine r_move rfl rfl (hl_nil (then_n (hc_block ?_))); refine hc_loop (β := Nat × List (Ment Str) × Nat) ⟨fun x => x.1 ≤ ps.length ∧ MapIs x.2.1 x.2.2 (stockN (ps.take x.1)), fun x => [(3, .map (some gm)), (9, .slice A ps.length c), (10, int ps.length), (11, int x.1)], fun x => [(gm, mapO str x.2.1 x.2.2)], fun _ => [Row A (rows ps), Rows2 A ps]⟩ (fun x => ps.length - x.1) (0, [], 0) ⟨Nat.zero_le _, MapIs.nil.congr fun s => rfl⟩ ⟨rfl, rfl, rfl, rfl, trivial⟩ (.refl _) ⟨mB, mB, trivial⟩ fun x hx => ?_; obtain ⟨k, l, clk⟩ := x; obtain ⟨hk, hM⟩ := hx; simp only at hk hM; refine hc_seq (hc_region (r_lss rfl rfl rfl (hl_nil (then_n (hc_seq ?_)))))
 first | refine c_dec rfl (fun hb1 => ?_) (fun hb1 => ?_) | refine hc_cond rfl (fun hb1 => ?_) (fun hb1 => ?_)
 ·have hb1' := hb1; try simp at hb1'
  have hk2 : k < ps.length := by omega
  have hpk := hp _ (getD_mem hk2); refine hc_skip (then_n (hc_seq (hc_block (hc_seq (hc_region ?_))))); refine r_elem (α := (Sl Str)) _ _ rfl T.u_pages T.sz_strs rfl rfl rfl mB rfl (by omega) (by decide) ?_; refine r_load rfl T.cell_strs rfl (cell_row mB (rows_get0 (by omega) rfl)) ?_; refine r_assign rfl rfl (hl_nil (then_n (hc_seq (hc_region (r_move rfl rfl ?_))))); refine hl_inner (A := A) (ps := ps) (p := (ps.getD k default)) mB (getD_mem hk2) ?_; refine hl_call F.proof_counts_cb rfl rfl (proof_counts_meets (ps.getD k default).l hpk) (hpR := [_]) (List.Perm.refl _) ⟨mB, trivial⟩ fun x2 hx2 => ?_; obtain ⟨g2, l2, clk2⟩ := x2; have hM2 : MapIs l2 clk2 (countN (ps.getD k default).l) := hx2; clear hx2; refine r_rangeM rfl T.u_map_string_int rfl (map_own m0) fun gi => ?_; refine hl_nil (then_n (hc_block ?_)); refine hc_loop (β := List (Ment Str) × List (Ment Str) × Nat) ⟨fun x => Vis l2 x.1 ∧ MapIs x.2.1 x.2.2 (stV (stockN (ps.take k)) (countN (ps.getD k default).l) x.1), fun x => [(3, .map (some gm)), (9, .slice A ps.length c), (10, int ps.length), (11, int k), (17, .pointer (some ⟨gi, 0, none⟩))], fun x => [(gi, iterM g2 clk2 x.1), (g2, mapO str l2 clk2), (gm, mapO str x.2.1 x.2.2)], fun _ => [Row A (rows ps), Rows2 A ps]⟩ (fun x => l2.length - x.1.length) ([], l, clk) ⟨Vis.nil _, hM.congr (stV_nil _ _)⟩ ⟨rfl, rfl, rfl, rfl, rfl, trivial⟩ (.refl _) ⟨mB, mB, trivial⟩ fun x hx => ?_; clear hM; obtain ⟨vis, l, clk⟩ := x; obtain ⟨hV, hM⟩ := hx; simp only at hV hM; refine hc_seq (hc_region ?_); refine r_nextM (enc := str) rfl rfl (map_own m1) hM2.lt (List.Perm.refl _) fun x hx0 hx1 => ?_; refine r_mext0 (enc := str) rfl rfl ?_; refine hl_nil (then_n (hc_seq ?_))
  first | refine c_dec rfl (fun hb2 => ?_) (fun hb2 => ?_) | refine hc_cond rfl (fun hb2 => ?_) (fun hb2 => ?_)
  ·have hb2' := hb2; try simp at hb2'
   obtain ⟨q, rfl⟩ := Option.isSome_iff_exists.1 hb2; obtain ⟨hq1, hq2⟩ := hx1 q rfl; have hqk := hM2.newKey hV hq1 hq2; have hqv := hM2.vl q hq1; have hlt := hV.lt hq1 hq2; obtain ⟨s, v, b⟩ := q; simp only at hqk hqv; obtain ⟨rfl, hqp⟩ := hqv; have hsv : stV (stockN (ps.take k)) (countN (ps.getD k default).l) vis s = (stockN (ps.take k)) s := stV_new hqk; refine hc_skip (then_n (hc_block (hc_seq (hc_region ?_)))); refine r_entry (p := (s, int (((countN (ps.getD k default).l) s : Nat) : Int), b)) rfl rfl (map_own m1) (map_own m0) hq1 hM2.bs ?_; refine r_extract rfl rfl rfl (r_extract rfl rfl rfl (r_assign rfl rfl (r_assign rfl rfl (hl_nil (then_n (hc_region (r_move rfl rfl (r_move rfl rfl (r_move rfl rfl (r_move rfl rfl ?_)))))))))); refine r_lookN (k := s) KS rfl T.u_map_string_int rfl rfl (map_own m2) zv_int hM ?_; rw [hsv]; refine r_move rfl rfl ?_; refine r_max (((max ((stockN (ps.take k)) s) ((countN (ps.getD k default).l) s)) : Nat) : Int) rfl rfl rfl (by split <;> omega) ?_; refine r_insert (k := s) (v := int (((max ((stockN (ps.take k)) s) ((countN (ps.getD k default).l) s)) : Nat) : Int)) KS (.inl rfl) T.u_map_string_int rfl rfl rfl (l := l) (clk := clk) (hp' := [(gi, iterM g2 clk2 (vis ++ [(s, int ((((countN (ps.getD k default).l) s : Nat)) : Int), b)])), (g2, mapO str l2 clk2)]) (perm_of fun q => by simp only [List.countP_cons, List.countP_nil, Option.toList_some]; omega) ?_; refine hl_nil (inb_n ?_); refine hq_perm (hp' := [(gi, iterM g2 clk2 (vis ++ [(s, int ((((countN (ps.getD k default).l) s : Nat)) : Int), b)])), (g2, mapO str l2 clk2), (gm, mapO str (putM l s (int (((max ((stockN (ps.take k)) s) ((countN (ps.getD k default).l) s)) : Nat) : Int)) clk) (clkM l s clk))]) (perm_of fun q => by simp only [List.countP_cons, List.countP_nil, Option.toList_some]; omega) ?_; exact again _ (vis ++ [(s, int ((((countN (ps.getD k default).l) s : Nat)) : Int), b)], putM l s (int ((((max ((stockN (ps.take k)) s) ((countN (ps.getD k default).l) s)) : Nat)) : Int)) clk, clkM l s clk) ⟨hV.snoc hq1 hq2, (hM.put s (Nat.lt_of_lt_of_le hqp (Nat.le_max_right ..))).congr (stV_up (q := (s, int ((((countN (ps.getD k default).l) s : Nat)) : Int), b)) hqk)⟩ (by show l2.length - (vis ++ [_]).length < l2.length - vis.length; rw [List.length_append, List.length_singleton]; omega) ⟨rfl, rfl, rfl, rfl, rfl, trivial⟩ (.refl _) ⟨mB, mB, trivial⟩
  ·have hb2' := hb2; try simp at hb2'
   have hx : x = none := by cases x with | none => rfl | some q => simp at hb2
   subst hx; refine hc_exit (then_exit (then_exit (inb_hit (inb_n (then_n (hc_region ?_)))))); refine r_add _ rfl rfl rfl rfl (by unfold I64; omega) ?_; refine r_move rfl rfl (hl_nil ?_); exact again _ (k + 1, l, clk) ⟨by show k + 1 ≤ ps.length; omega, hM.congr fun s => by rw [stockN_take hk2]; exact stV_end (fun s hs => hM2.allVis hV (hx0 rfl) hs) s⟩ (by show ps.length - (k + 1) < ps.length - k; omega) ⟨rfl, rfl, rfl, rfl, trivial⟩ (.cons _ (.cons _ (.refl _))) ⟨mB, mB, trivial⟩
 ·have hb1' := hb1; try simp at hb1'
  have hk2 : k = ps.length := by omega
  subst hk2; rw [List.take_length] at hM; refine hc_exit (then_exit (then_exit (inb_hit (then_n (hc_seq (hc_region (r_move rfl rfl (r_assign rfl rfl (hl_nil (then_n (hc_ret ?_))))))))))); exact ret1 (gm, l, clk) rfl rfl rfl hM (.refl _) trivial
theorem fresh_drop {f : Str → Nat} {p : List Str} {k : Nat} (h : k < p.length) : freshN f (p.drop k) = if f (p.getD k default) = 0 then 1 + freshN f (p.drop (k + 1)) else freshN (updF f (p.getD k default) (f (p.getD k default) - 1)) (p.drop (k + 1)) := by
  rw [drop_getD h, freshN]
theorem stock_bd {m : Nat} {ps : List (Sl Str)} (h : ∀ p ∈ ps, p.l.length ≤ m) (s : Str) : stockN ps s ≤ m := by
  have h1 : ∀ (l : List (Sl Str)) (n : Nat), (∀ p ∈ l, p.l.length ≤ m) → n ≤ m → l.foldl (fun n p => max n (countN p.l s)) n ≤ m := by
    intro l
    induction l with
    | nil => intro n _ hn; exact hn
    | cons p l ih =>
      intro n hl hn; have h2 := hl p List.mem_cons_self; have h3 := countN_le p.l s; exact ih _ (fun q hq => hl q (List.mem_cons_of_mem _ hq)) (Nat.max_le.2 ⟨hn, by omega⟩)
  exact h1 ps 0 h (Nat.zero_le _)
theorem updF_bd {f : Str → Nat} {m n : Nat} (h : ∀ s, f s ≤ m) (hn : n ≤ m) (k s : Str) : updF f k n s ≤ m := by
  unfold updF
  split
  · exact hn
  · exact h s
def freshE (ps : List (Sl Str)) (p : List Str) : Nat := if askedErr (years ps) p = 0 then freshN (stockN ps) p else 0
theorem proof_Fresh_meets {A B : Option Addr} {ca cb : Nat} (ps : List (Sl Str)) (p : List Str) : Meets Tryz.prog F.proof_Fresh [.slice A ps.length ca, .slice B p.length cb] { LI := [Rows2 A ps, Row B (rows p)], val := fun _ : Unit => .tuple #[int (freshE ps p : Nat), int (askedErr (years ps) p)] } := by
 refine meets_intro F.proof_Fresh_f rfl (Nat.le_of_ble_eq_true rfl) fun w0 => ?_; refine hc_seq (hc_region (r_assign rfl rfl (r_assign rfl rfl (hl_nil (then_n (hc_seq (hc_seq (hc_region (r_move rfl rfl (r_move rfl rfl ?_)))))))))); refine hl_call F.proof_asked_cb rfl rfl (proof_asked_meets ps p) (List.Perm.refl _) ⟨mB, mB, trivial⟩ fun _ _ => ?_; refine r_assign rfl rfl (hl_nil (then_n (hc_seq (hc_region (r_move rfl rfl (r_neq rfl rfl rfl (hl_nil (then_n ?_))))))))
 first | refine c_dec rfl (fun hb1 => ?_) (fun hb1 => ?_) | refine hc_cond rfl (fun hb1 => ?_) (fun hb1 => ?_)
 ·have hb1' := hb1; try simp at hb1'
  refine hc_seq (hc_region (r_move rfl rfl (r_assign rfl rfl (r_assign rfl rfl (hl_nil (then_n (hc_ret (then_ret ?_)))))))); exact ret2 () rfl rfl rfl (by show Value.tuple #[int (freshE ps p : Nat), _] = _; rw [freshE, if_neg hb1]; rfl) rfl trivial (.refl _) trivial
 ·have hb1' := hb1; try simp at hb1'
  have hq0 := Classical.not_not.1 hb1; obtain ⟨hy0, hp0⟩ := askedErr_zero hq0; obtain ⟨hy4, hy6⟩ := yearsErr_zero hy0; have hp6 := pageErr_zero hp0; refine hc_skip (then_n (hc_seq (hc_region (r_move rfl rfl ?_)))); refine hl_call F.proof_stock_cb rfl rfl (proof_stock_meets ps (by omega) (fun q hq => by have := hy6 q hq; omega)) (List.Perm.refl _) ⟨mB, trivial⟩ fun x hx => ?_; obtain ⟨gm, l0, clk0⟩ := x; have hM0 : MapIs l0 clk0 (stockN ps) := hx; clear hx; refine r_assign rfl rfl (r_assign rfl rfl (hl_nil (then_n (hc_seq (hc_seq (hc_region (r_move rfl rfl ?_))))))); refine r_len_sl rfl T.u_strs rfl ?_; refine r_move rfl rfl (hl_nil (then_n (hc_block ?_))); refine hc_loop (β := Nat × Nat × List (Ment Str) × Nat × (Str → Nat)) ⟨fun x => x.1 ≤ p.length ∧ MapIs x.2.2.1 x.2.2.2.1 x.2.2.2.2 ∧ freshN (stockN ps) p = x.2.1 + freshN x.2.2.2.2 (p.drop x.1) ∧ x.2.1 ≤ x.1 ∧ ∀ s, x.2.2.2.2 s ≤ 6, fun x => [(7, int (x.2.1 : Nat)), (8, .map (some gm)), (19, .slice B p.length cb), (20, int p.length), (21, int x.1)], fun x => [(gm, mapO str x.2.2.1 x.2.2.2.1)], fun _ => [Rows2 A ps, Row B (rows p)]⟩ (fun x => p.length - x.1) (0, 0, l0, clk0, stockN ps) ⟨Nat.zero_le _, hM0, by show _ = 0 + freshN _ p; rw [Nat.zero_add], Nat.le_refl _, stock_bd hy6⟩ ⟨rfl, rfl, rfl, rfl, rfl, trivial⟩ (.refl _) ⟨mB, mB, trivial⟩ fun x hx => ?_; clear hM0; obtain ⟨k, n, l, clk, f⟩ := x; obtain ⟨hk, hM, hfr, hnk, hfb⟩ := hx; simp only at hk hM hfr hnk hfb; refine hc_seq (hc_region (r_lss rfl rfl rfl (hl_nil (then_n (hc_seq ?_)))))
  first | refine c_dec rfl (fun hb2 => ?_) (fun hb2 => ?_) | refine hc_cond rfl (fun hb2 => ?_) (fun hb2 => ?_)
  ·have hb2' := hb2; try simp at hb2'
   have hk2 : k < p.length := by omega
   rw [fresh_drop hk2] at hfr; refine hc_skip (then_n (hc_seq (hc_block (hc_seq (hc_region ?_))))); refine r_elem (α := Str) _ _ rfl T.u_strs T.sz_string rfl rfl rfl mB rfl (by omega) (by decide) ?_; refine r_load rfl T.cell_string rfl (cell_row mB (rows_get0 (by omega) rfl)) ?_; refine r_assign rfl rfl (hl_nil (then_n (hc_seq (hc_region (r_move rfl rfl (r_move rfl rfl ?_)))))); refine r_lookN (k := (p.getD k default)) KS rfl T.u_map_string_int rfl rfl (map_own m0) zv_int hM ?_; refine hl_nil (then_n (hc_block (hc_seq (hc_region (r_eql rfl rfl rfl (r_assign rfl rfl (hl_nil (then_n ?_))))))))
   first | refine c_dec rfl (fun hb3 => ?_) (fun hb3 => ?_) | refine hc_cond rfl (fun hb3 => ?_) (fun hb3 => ?_)
   ·have hb3' := hb3; try simp at hb3'
    have h0 : (f (p.getD k default)) = 0 := by omega
    rw [if_pos h0] at hfr; refine hc_region (r_move rfl rfl ?_); refine r_add ((n + 1 : Nat) : Int) rfl rfl rfl (by show (n : Int) + 1 = ((n + 1 : Nat) : Int); omega) (by unfold I64; omega) ?_; refine r_assign rfl rfl (hl_nil (inb_n (inb_n (then_n (hc_region ?_))))); refine r_add _ rfl rfl rfl rfl (by unfold I64; omega) ?_; refine r_move rfl rfl (hl_nil ?_); exact again _ (k + 1, (n + 1), l, clk, f) ⟨by show k + 1 ≤ p.length; omega, hM, by show freshN (stockN ps) p = (n + 1) + freshN f (p.drop (k + 1)); omega, by show (n + 1) ≤ k + 1; omega, hfb⟩ (by show p.length - (k + 1) < p.length - k; omega) ⟨rfl, rfl, rfl, rfl, rfl, trivial⟩ (.refl _) ⟨mB, mB, trivial⟩
   ·have hb3' := hb3; try simp at hb3'
    have h0 : ¬ (f (p.getD k default)) = 0 := by omega
    rw [if_neg h0] at hfr; refine hc_seq (hc_region (r_eql rfl rfl rfl (r_assign rfl rfl (hl_nil (then_n ?_)))))
    first | refine c_dec rfl (fun hb4 => ?_) (fun hb4 => ?_) | refine hc_cond rfl (fun hb4 => ?_) (fun hb4 => ?_)
    ·have hb4' := hb4; try simp at hb4'
     have h1 : (f (p.getD k default)) = 1 := by omega
     rw [h1] at hfr; refine hc_region (r_move rfl rfl (r_move rfl rfl ?_)); refine r_delete (k := (p.getD k default)) KS T.u_map_string_int rfl rfl (List.Perm.refl _) ?_; refine hl_nil (inb_n (inb_n (then_n (hc_region ?_)))); refine r_add _ rfl rfl rfl rfl (by unfold I64; omega) ?_; refine r_move rfl rfl (hl_nil ?_); exact again _ (k + 1, n, (delM l (p.getD k default)), clk, (updF f (p.getD k default) 0)) ⟨by show k + 1 ≤ p.length; omega, hM.del (p.getD k default), by show freshN (stockN ps) p = n + freshN (updF f (p.getD k default) 0) (p.drop (k + 1)); exact hfr, by show n ≤ k + 1; omega, updF_bd hfb (Nat.zero_le _) _⟩ (by show p.length - (k + 1) < p.length - k; omega) ⟨rfl, rfl, rfl, rfl, rfl, trivial⟩ (.refl _) ⟨mB, mB, trivial⟩
    ·have hb4' := hb4; try simp at hb4'
     have h1 : ¬ (f (p.getD k default)) = 1 := by omega
     refine hc_region (r_move rfl rfl (r_move rfl rfl ?_)); refine r_lookN (k := (p.getD k default)) KS rfl T.u_map_string_int rfl rfl (map_own m0) zv_int hM ?_; refine r_sub (((f (p.getD k default)) - 1 : Nat) : Int) rfl rfl rfl (by show (((f (p.getD k default)) : Nat) : Int) - 1 = (((f (p.getD k default)) - 1 : Nat) : Int); omega) (by have hb := hfb (p.getD k default); unfold I64; omega) ?_; refine r_insert (k := (p.getD k default)) (v := int (((f (p.getD k default)) - 1 : Nat) : Int)) KS (.inl rfl) T.u_map_string_int rfl rfl rfl (List.Perm.refl _) ?_; refine hl_nil (inb_n (inb_n (then_n (hc_region ?_)))); refine r_add _ rfl rfl rfl rfl (by unfold I64; omega) ?_; refine r_move rfl rfl (hl_nil ?_); exact again _ (k + 1, n, (putM l (p.getD k default) (int (((f (p.getD k default)) - 1 : Nat) : Int)) clk), (clkM l (p.getD k default) clk), (updF f (p.getD k default) ((f (p.getD k default)) - 1))) ⟨by show k + 1 ≤ p.length; omega, hM.put (p.getD k default) (by omega), by show freshN (stockN ps) p = n + freshN (updF f (p.getD k default) ((f (p.getD k default)) - 1)) (p.drop (k + 1)); exact hfr, by show n ≤ k + 1; omega, updF_bd hfb (by have := hfb (p.getD k default); omega) _⟩ (by show p.length - (k + 1) < p.length - k; omega) ⟨rfl, rfl, rfl, rfl, rfl, trivial⟩ (.refl _) ⟨mB, mB, trivial⟩
  ·have hb2' := hb2; try simp at hb2'
   have hk2 : k = p.length := by omega
   subst hk2; rw [List.drop_length] at hfr; refine hc_exit (then_exit (then_exit (inb_hit (then_n (hc_seq (hc_region (r_move rfl rfl (r_assign rfl rfl (r_assign rfl rfl (hl_nil (then_n ?_))))))))))); refine hc_ret ?_; exact ret2 () rfl rfl rfl (by show Value.tuple #[int (freshE ps p : Nat), int (askedErr (years ps) p)] = Value.tuple #[int (n : Nat), int 0]; rw [freshE, if_pos hq0, hq0, hfr]; rfl) rfl trivial (List.nil_sublist _) trivial
end Go.Proofs.YtpbbgbjidhffoaaGreat
end
section
namespace Go.W
open Go Go.RowKit Go.Sort Go.Proofs Go.Shelf
theorem ext_grow {w w' : World} (e : Ext [] w w') : ∃ q os, w' = grow (w.drewN q) os := by
  refine ⟨w'.drawn - w.drawn, w'.heap.extract w.heap.size w'.heap.size, ?_⟩
  have h1 : w'.heap = w.heap ++ w'.heap.extract w.heap.size w'.heap.size := by
    apply Array.ext_getElem?
    intro i; rw [Array.getElem?_append]
    by_cases hi : i < w.heap.size
    · rw [if_pos hi]
      exact e.block i hi (by simp)
    · rw [if_neg hi, Array.getElem?_extract]
      have := e.size
      by_cases h2 : i < w'.heap.size
      · rw [if_pos (by omega), show w.heap.size + (i - w.heap.size) = i by omega]
      · rw [if_neg (by omega)]
        exact Array.getElem?_eq_none (by omega)
  have h2 : w'.drawn = w.drawn + (w'.drawn - w.drawn) := by have := e.dr; omega
  obtain ⟨a, b, c, d, f⟩ := w; obtain ⟨a', b', c', d', f'⟩ := w'; have e1 := e.tape; have e2 := e.os; have e3 := e.output; simp only at e1 e2 e3 h1 h2; subst e1 e2 e3; unfold grow World.drewN
  simp only
  rw [← h1, ← h2]
theorem cmp_lays {P : Program} {α : Type} [El α] {g : Nat} {cf : α → α → Int} (h : ∀ x y : α, Meets P g [.agg (El.cells x).toArray, .agg (El.cells y).toArray] ({ val := fun _ : Unit => int (cf x y) } : Con Unit)) (blk off size : Nat) (w : World) : CmpLays P g #[] El.cells (El.sz α) cf blk off size w := by
  intro m os dk hdk x y; have h1 := h x y (sortWorldK El.cells (El.sz α) w blk off m dk os) ⟨Ext.refl _ _, by simp, by simp, by simp, by simp, by simp, by simp⟩; refine Calls.mono h1 fun e w' hp => ?_; obtain ⟨_, rfl, _, hw⟩ := hp; exact ⟨rfl, ext_grow hw.ext⟩
theorem flat_rows {α : Type} [El α] (hz : 0 < El.sz α) (l : List α) : (flatK El.cells (El.sz α) l.toArray).toList = rows l := by
  refine List.ext_getElem (by simp [rows_len]) fun t h1 h2 => ?_; have ht : t < l.length * El.sz α := by simpa using h1
  have hq : t / El.sz α < l.length := Nat.div_lt_of_lt_mul (by rw [Nat.mul_comm]; exact ht); have hm : t % El.sz α < El.sz α := Nat.mod_lt _ hz; have h3 := get_flatK El.cells (El.sz α) l.toArray t (by simpa using ht); rw [getElem!_pos _ t (by simpa using ht)] at h3; rw [Array.getElem_toList, h3]; have h4 : l.toArray[t / El.sz α]! = l[t / El.sz α] := by rw [getElem!_pos _ _ (by simpa using hq)]; simp
  rw [h4, getElem!_pos _ _ (by rw [El.len]; exact hm)]; have h5 := rows_get (l := l) (i := t / El.sz α) (j := t % El.sz α) hq (v := (El.cells l[t / El.sz α])[t % El.sz α]'(by rw [El.len]; exact hm)) (by rw [List.getD_eq_getElem?_getD, List.getElem?_eq_getElem hq]; exact List.getElem?_eq_getElem _); rw [show t / El.sz α * El.sz α + t % El.sz α = t from Nat.div_add_mod' t (El.sz α)] at h5; rw [List.getElem?_eq_getElem h2] at h5; exact (Option.some.inj h5).symm
theorem sort_world {α : Type} [El α] (hz : 0 < El.sz α) {w : World} {g : Nat} {cur : Array Value} {e : TypeId} (hg : w.heap[g]? = some (.cells cur e (0, 0))) (n : Nat) (d : Array α) (os : Array Obj) (hs : d.size * El.sz α ≤ cur.size) :
    ∃ cur', (sortWorldK El.cells (El.sz α) w g 0 n d os).heap[g]? = some (.cells cur' e (0, 0)) ∧ cur'.size = cur.size ∧ cur'.toList.take (d.size * El.sz α) = rows d.toList ∧ Ext [g] w (sortWorldK El.cells (El.sz α) w g 0 n d os) := by
  have hlt : g < w.heap.size := lt_of_own hg; refine ⟨putCells id 0 (flatK El.cells (El.sz α) d) cur, ?_, by simp [putCells], ?_, rfl, rfl, rfl, ?_, fun k hk hn => ?_, by simp [sortWorldK, grow, putRowK, putRow, mapBlock, Sort.ahead]⟩
  · simp only [sortWorldK, grow, putRowK, putRow, mapBlock, Sort.ahead]
    rw [Array.getElem?_append_left (by simpa using hlt), Array.getElem?_modify, if_pos rfl, hg]
    rfl
  · have hf := flat_rows hz d.toList
    rw [Array.toArray_toList] at hf; rw [← hf]; refine List.ext_getElem (by simp [putCells]; omega) fun t h1 h2 => ?_; have ht : t < d.size * El.sz α := by simpa using h2
    rw [List.getElem_take, Array.getElem_toList, Array.getElem_toList]; unfold putCells; rw [Array.getElem_mapIdx, if_pos (by simp; exact ht)]; simp only [id, Nat.sub_zero]; exact getElem!_pos _ t (by simpa using ht)
  · simp [sortWorldK, grow, putRowK, putRow, mapBlock, Sort.ahead]
  · simp only [sortWorldK, grow, putRowK, putRow, mapBlock, Sort.ahead]
    rw [Array.getElem?_append_left (by simpa using hk), Array.getElem?_modify, if_neg (fun h => hn (by simp [h]))]
theorem sortFunc_meets {P : Program} {ρ : Ren} (L : SlLaysF0.n6 P ρ) {α : Type} [El α] (hz : 0 < El.sz α) (aE : ∀ w, (isAgg (ρ.t 24)).run P w = .ok true w) (zE : ∀ w, (Go.sizeOf (ρ.t 24)).run P w = .ok (El.sz α) w) {cf : α → α → Int} (hO : SWO (ltOf cf)) {f g : Nat} (hf : ρ.f 6 = f) (eg : ∀ args w, (callFunc g args).run P w = .ok (.enter g args) w)
    (hcmp : ∀ x y : α, Meets P g [.agg (El.cells x).toArray, .agg (El.cells y).toArray] ({ val := fun _ : Unit => int (cf x y) } : Con Unit)) {A : Option Addr} {cap : Nat} {e : TypeId} (l : List α) {og : Hp} (hG : Grow e (El.sz α) A l.length cap (rows l) og) (hl : l.length < 4611686018427387904) :
    Meets P f [.slice A l.length cap, .func (.func g) #[] #[]] { hpI := og, inv := fun x : List α × Hp => x.1.Perm l ∧ x.1.Pairwise (fun a b => ltOf cf b a = false) ∧ Grow e (El.sz α) A x.1.length cap (rows x.1) x.2, val := fun _ => .tuple #[], hpO := fun x => x.2 } := by
  subst hf; intro w hw
  rcases hG with ⟨hlen, ⟨rfl, h0, rfl, rfl⟩ | ⟨g0, cur, rfl, rfl, h1, h2, h3, h4⟩⟩
  · have hl0 : l = [] := List.eq_nil_of_length_eq_zero h0
    subst hl0; refine Calls.mono (AnyF.slices_SortFunc_none L none 0 (.func (.func g) #[] #[]) w) fun e w' hp => ?_; obtain ⟨rfl, rfl⟩ := hp; exact ⟨([], []), rfl, ⟨.refl _, .nil, Grow.nil _ _⟩, hw⟩
  · have hg : w.heap[g0]? = some (.cells cur e (0, 0)) := hw.own (g0, .cells cur e (0, 0)) (by simp)
    have hH : HoldsK El.cells (El.sz α) w g0 0 l.toArray := by
      intro j hj; have hj2 : j < l.length * El.sz α := by simpa using hj
      have hjc : j < cur.size := by rw [h3]; exact Nat.lt_of_lt_of_le hj2 (Nat.mul_le_mul_right _ h1)
      have hv : cur[j]? = some ((flatK El.cells (El.sz α) l.toArray)[j]!) := by
        have e1 := flat_rows hz l; rw [← h4] at e1; have e2 : (flatK El.cells (El.sz α) l.toArray).toList[j]? = cur.toList[j]? := by rw [e1, List.getElem?_take, if_pos hj2]
        rw [getElem!_pos _ j (by simpa using hj), ← Array.getElem?_toList, ← e2, Array.getElem?_toList, Array.getElem?_eq_getElem hj]
      refine ⟨?_, by simp [World.frozen?, hg]⟩; simp only [World.cell?, hg, Nat.zero_add, id]
      simpa using hv
    refine Calls.mono (AnyQ.slices_SortFunc L (El.sz α) aE zE El.cells El.len El.one cf hO g #[] g0 0 cap l.toArray w eg (cmp_lays hcmp g0 0 _ w) hH (lt_of_own hg) (by simpa using hl)) fun e' w' hp => ?_; obtain ⟨rfl, d', n, os, hpm, hso, rfl⟩ := hp; have hds : d'.size = l.length := by simpa using hpm.1
    obtain ⟨cur', q1, q2, q3, q4⟩ := sort_world hz hg n d' os (by rw [hds, h3]; exact Nat.mul_le_mul_right _ h1)
    have hperm : d'.toList.Perm l := by
      have := hpm.2.2; rw [show l.toArray.size = d'.size by simp [hds], Array.extract_size] at this; rw [hds, show l.length = l.toArray.size by simp, Array.extract_size] at this
      simpa using this
    refine ⟨(d'.toList, [(g0, .cells cur' e (0, 0))]), rfl, ⟨hperm, ?_, ?_⟩, hw.write q4 q1⟩
    · rw [List.pairwise_iff_getElem]
      intro i j hi hj hij; have := hso i j (Nat.zero_le _) hij (by simpa [hds] using hj); rw [getElem!_pos d' j (by simpa using hj), getElem!_pos d' i (by simpa using hi)] at this
      simpa using this
    · rw [show d'.toList.length = l.length by simp [hds]]
      exact ⟨by rw [rows_len]; simp [hds], .inr ⟨g0, cur', rfl, rfl, h1, h2, by rw [q2, h3], by rw [← hds]; exact q3⟩⟩
end Go.W
end
section
namespace Go.Proofs.YtpbbgbjidhffoaaGreat
open Go Go.W
set_option maxRecDepth 20000
attribute [local irreducible] HL HC HQ HB Row Rows2 Blk Facts
def cmpB (a b : UInt8) : Int := if a.toNat < b.toNat then -1 else if b.toNat < a.toNat then 1 else 0
def cmpT : Str → Str → Int
  | [], [] => 0
  | [], _ :: _ => -1
  | _ :: _, [] => 1
  | a :: l, b :: l' => if ¬ cmpB a b = 0 then cmpB a b else cmpT l l'
theorem cmpB_zero {a b : UInt8} (h : cmpB a b = 0) : a = b := by
  unfold cmpB at h
  split at h
  · cases h
  · split at h
    · cases h
    · exact UInt8.toNat_inj.1 (by omega)
theorem cmpB_self (a : UInt8) : cmpB a a = 0 := by unfold cmpB; rw [if_neg (by omega), if_neg (by omega)]
theorem cmpT_lt : ∀ a b : Str, cmpT a b < 0 ↔ a < b
  | [], [] => by simp [cmpT]
  | [], b :: l => by simp [cmpT]
  | a :: l, [] => by simp [cmpT]
  | a :: l, b :: l' => by
    rw [List.cons_lt_cons_iff, cmpT]
    by_cases h : cmpB a b = 0
    · have e := cmpB_zero h
      subst e; rw [if_neg (not_not_intro h), cmpT_lt l l']
      constructor
      · intro h; exact .inr ⟨rfl, h⟩
      · rintro (h | h)
        · exact absurd h (UInt8.lt_irrefl _)
        · exact h.2
    · rw [if_pos h]
      have hne : a ≠ b := fun e => h (by rw [e]; exact cmpB_self b); unfold cmpB
      constructor
      · intro h1
        left
        rw [UInt8.lt_iff_toNat_lt]
        split at h1
        · assumption
        · split at h1 <;> omega
      · rintro (h1 | h1)
        · rw [UInt8.lt_iff_toNat_lt] at h1
          rw [if_pos h1]; decide
        · exact absurd h1.1 hne
theorem cmpT_eq : ∀ {a b : Str}, ¬ a < b → ¬ b < a → a = b := fun {a b} h1 h2 => List.le_antisymm (List.not_lt.1 h2) (List.not_lt.1 h1)
theorem cmpT_drop {a b : Str} {k : Nat} (ha : k < a.length) (hb : k < b.length) : cmpT (a.drop k) (b.drop k) = if ¬ cmpB (a.getD k default) (b.getD k default) = 0 then cmpB (a.getD k default) (b.getD k default) else cmpT (a.drop (k + 1)) (b.drop (k + 1)) := by
  rw [drop_getD ha, drop_getD hb, cmpT]
theorem cmpT_le {a : Str} : cmpT a [] = if a.length = 0 then 0 else 1 := by cases a <;> rfl
theorem cmpT_ge {b : Str} : cmpT [] b = if b.length = 0 then 0 else -1 := by cases b <;> rfl
abbrev cfT (x y : Ty) : Int := cmpT x.1 y.1
theorem ltT (x y : Ty) : Go.Proofs.ltOf cfT x y = decide (x.1 < y.1) := decide_eq_decide.2 (cmpT_lt x.1 y.1)
theorem swoT : Go.Sort.SWO (Go.Proofs.ltOf cfT) where
  irrefl x := by rw [ltT]; exact decide_eq_false (List.lt_irrefl _)
  trans x y z h1 h2 := by
    rw [ltT, decide_eq_true_eq] at *; exact List.lt_trans h1 h2
  ntrans x y z h1 h2 := by
    rw [ltT, decide_eq_false_iff_not] at *; exact List.not_lt.2 (List.le_trans (List.not_lt.1 h2) (List.not_lt.1 h1))
instance : El Ty where
  default := ([], 0)
  cells x := [str x.1, int x.2]
  sz := 2
  len _ := rfl
  one a u h := by simp at h; rcases h with h | h <;> subst h <;> rfl
abbrev TyB := { t : Ty // t.1.length ≤ 1000000 }
instance : El TyB where
  default := ⟨([], 0), Nat.zero_le _⟩
  cells x := [str x.1.1, int x.1.2]
  sz := 2
  len _ := rfl
  one a u h := by simp at h; rcases h with h | h <;> subst h <;> rfl
abbrev cfB (x y : TyB) : Int := cmpT x.1.1 y.1.1
theorem swoB : Go.Sort.SWO (Go.Proofs.ltOf cfB) := ⟨fun x => swoT.irrefl x.1, fun x y z => swoT.trans x.1 y.1 z.1, fun x y z => swoT.ntrans x.1 y.1 z.1⟩
theorem rows_val : ∀ l : List TyB, rows l = rows (l.map (·.1))
  | [] => rfl
  | x :: l => by rw [List.map_cons, rows_cons, rows_cons, rows_val l]; rfl
def tyOf (ps : List (Sl Str)) (vis : List (Ment Str)) : List Ty := vis.map fun q => (q.1, (stockN ps q.1 : Int))
theorem tyOf_snoc (ps : List (Sl Str)) (vis : List (Ment Str)) (q : Ment Str) : tyOf ps (vis ++ [q]) = tyOf ps vis ++ [(q.1, (stockN ps q.1 : Int))] := by unfold tyOf; rw [List.map_append]; rfl
theorem stock_is {ps : List (Sl Str)} {l vis : List (Ment Str)} {clk : Nat} {ts : List Ty} (hM : MapIs l clk (stockN ps)) (hV : Vis l vis) (ha : ∀ p ∈ l, p.2.2 ∈ vis.map (·.2.2)) (hp : ts.Perm (tyOf ps vis)) (hs : ts.Pairwise fun a b => Go.Proofs.ltOf cfT b a = false) : StockIs ps ts := by
  have hnd : (ts.map (·.1)).Nodup := by
    refine (hp.map _).nodup_iff.2 ?_; have e : (tyOf ps vis).map (·.1) = vis.map (·.1) := by unfold tyOf; rw [List.map_map]; rfl
    rw [e]; have h1 := hV.nd; have h2 := hV.sub; clear hp hs ha e hV
    induction vis with
    | nil => simp
    | cons q vis ih =>
      rw [List.map_cons, List.nodup_cons] at h1 ⊢; refine ⟨fun hm => h1.1 ?_, ih h1.2 fun p hp => h2 p (List.mem_cons_of_mem _ hp)⟩; obtain ⟨r, hr, e⟩ := List.mem_map.1 hm; have := MapIs.key hM.nd (h2 r (List.mem_cons_of_mem _ hr)) (h2 q List.mem_cons_self) e; subst this; exact List.mem_map_of_mem hr
  constructor
  · rw [List.Nodup, List.pairwise_map] at hnd
    refine (hs.and hnd).imp fun {a b} h => ?_; have h1 : ¬ b.1 < a.1 := by have := h.1; rw [ltT] at this; exact of_decide_eq_false this
    exact Classical.byContradiction fun h2 => h.2 (cmpT_eq h2 h1)
  · intro s n
    rw [hp.mem_iff]; unfold tyOf; rw [List.mem_map]
    constructor
    · rintro ⟨q, hq, e⟩
      obtain ⟨rfl, rfl⟩ := Prod.mk.inj e; exact ⟨(hM.vl q (hV.sub q hq)).2, rfl⟩
    · rintro ⟨h1, rfl⟩
      obtain ⟨q, hq, rfl⟩ := List.mem_map.1 (hM.allVis hV ha h1); exact ⟨q, hq, rfl⟩
theorem cmp_isNaN_byte_meets (a : UInt8) : Meets Tryz.prog F.cmp_isNaN_byte [(.int .u8 (a.toNat : Nat))] { val := fun _ : Unit => .bool false } := by
 refine meets_intro F.cmp_isNaN_byte_f rfl (Nat.le_of_ble_eq_true rfl) fun w0 => ?_; refine hc_seq (hc_region (r_assign rfl rfl (hl_nil (then_n (hc_seq (hc_region (r_move rfl rfl (r_move rfl rfl (r_neq rfl rfl rfl (r_assign rfl rfl (hl_nil ?_))))))))))); refine then_n (hc_ret ?_); exact ret1 () rfl (congrArg (fun b => some (Value.bool b)) (by simp)) rfl trivial (.refl _) trivial
theorem cmp_Compare_byte_meets (a b : UInt8) : Meets Tryz.prog F.cmp_Compare_byte [(.int .u8 (a.toNat : Nat)), (.int .u8 (b.toNat : Nat))] { val := fun _ : Unit => int (cmpB a b) } := by
 refine meets_intro F.cmp_Compare_byte_f rfl (Nat.le_of_ble_eq_true rfl) fun w0 => ?_; refine hc_seq (hc_region (r_assign rfl rfl (hl_nil (then_n (hc_seq (hc_region (r_move rfl rfl ?_))))))); refine hl_call F.cmp_isNaN_byte_cb rfl rfl (cmp_isNaN_byte_meets _) (.refl _) trivial fun _ _ => ?_; refine r_assign rfl rfl (hl_nil (then_n (hc_seq (hc_region (r_move rfl rfl ?_))))); refine hl_call F.cmp_isNaN_byte_cb rfl rfl (cmp_isNaN_byte_meets _) (.refl _) trivial fun _ _ => ?_; refine r_assign rfl rfl (hl_nil (then_n (hc_seq (hc_seq (hc_region (r_move rfl rfl (hl_nil (then_n ?_)))))))); refine c_f rfl (by first | rfl | assumption | exact bf1 (by assumption) | exact bf2 (by assumption)) ?_; refine hc_skip (then_n (hc_seq (hc_seq (hc_region (r_move rfl rfl (hl_nil (then_n ?_))))))); refine c_f rfl (by first | rfl | assumption | exact bf1 (by assumption) | exact bf2 (by assumption)) ?_; refine hc_skip (then_n (hc_seq (hc_seq (hc_region (r_move rfl rfl (r_move rfl rfl (r_lss rfl rfl rfl (hl_nil (then_n ?_)))))))))
 first | refine c_dec rfl (fun hb4 => ?_) (fun hb4 => ?_) | refine hc_cond rfl (fun hb4 => ?_) (fun hb4 => ?_)
 ·have hb4' := hb4; try simp at hb4'
  refine hc_seq (hc_region (r_assign rfl rfl (hl_nil (then_n (hc_ret (then_ret ?_)))))); exact ret1 () rfl (congrArg (fun n => some (int n)) (by rw [cmpB, if_pos (by omega)])) rfl trivial (List.nil_sublist _) trivial
 ·have hb4' := hb4; try simp at hb4'
  refine hc_skip (then_n (hc_seq (hc_seq (hc_region (r_move rfl rfl (r_move rfl rfl (r_gtr rfl rfl rfl (hl_nil (then_n ?_)))))))))
  first | refine c_dec rfl (fun hb5 => ?_) (fun hb5 => ?_) | refine hc_cond rfl (fun hb5 => ?_) (fun hb5 => ?_)
  ·have hb5' := hb5; try simp at hb5'
   refine hc_seq (hc_region (r_assign rfl rfl (hl_nil (then_n (hc_ret (then_ret ?_)))))); exact ret1 () rfl (congrArg (fun n => some (int n)) (by rw [cmpB, if_neg (by omega), if_pos (by omega)])) rfl trivial (List.nil_sublist _) trivial
  ·have hb5' := hb5; try simp at hb5'
   refine hc_skip (then_n (hc_seq (hc_region (r_assign rfl rfl (hl_nil (then_n (hc_ret ?_))))))); exact ret1 () rfl (congrArg (fun n => some (int n)) (by rw [cmpB, if_neg (by omega), if_neg (by omega)])) rfl trivial (List.nil_sublist _) trivial
theorem slices_Compare_bytes_meets {A B : Option Addr} {ca cb : Nat} (a b : Str) (ha : a.length ≤ 1000000) (hb : b.length ≤ 1000000) : Meets Tryz.prog F.slices_Compare_byte_byte [.slice A a.length ca, .slice B b.length cb] { LI := [Row A (rows a), Row B (rows b)], val := fun _ : Unit => int (cmpT a b) } := by
 refine meets_intro F.slices_Compare_byte_byte_f rfl (Nat.le_of_ble_eq_true rfl) fun w0 => ?_; refine hc_seq (hc_region (r_assign rfl rfl (hl_nil (then_n (hc_seq (hc_seq (hc_region (r_move rfl rfl ?_)))))))); refine r_len_sl rfl T.u_L_uint8 rfl ?_; refine r_move rfl rfl (hl_nil (then_n (hc_block ?_))); refine hc_loop (β := Nat) ⟨fun k => k ≤ a.length ∧ k ≤ b.length ∧ cmpT a b = cmpT (a.drop k) (b.drop k), fun k => [(0, .slice A a.length ca), (1, .slice B b.length cb), (9, .slice A a.length ca), (10, int a.length), (11, int k)], fun _ => [], fun _ => [Row A (rows a), Row B (rows b)]⟩ (fun k => a.length - k) 0 ⟨Nat.zero_le _, Nat.zero_le _, rfl⟩ ⟨rfl, rfl, rfl, rfl, rfl, trivial⟩ (.refl _) ⟨mB, mB, trivial⟩ fun k hk => ?_; obtain ⟨hk, hkb, ht⟩ := hk; refine hc_seq (hc_region (r_lss rfl rfl rfl (hl_nil (then_n (hc_seq ?_)))))
 first | refine c_dec rfl (fun hb1 => ?_) (fun hb1 => ?_) | refine hc_cond rfl (fun hb1 => ?_) (fun hb1 => ?_)
 ·have hb1' := hb1; try simp at hb1'
  have hk2 : k < a.length := by omega
  refine hc_skip (then_n (hc_seq (hc_block (hc_seq (hc_region (r_move rfl rfl ?_)))))); refine r_elem (α := UInt8) _ _ rfl T.u_L_uint8 T.sz_u8 rfl rfl rfl mB rfl (by omega) (by decide) ?_; refine r_load rfl T.cell_u8 rfl (cell_row mB (rows_get0 (by omega) rfl)) ?_; refine r_assign rfl rfl (r_assign rfl rfl (hl_nil (then_n (hc_seq (hc_seq (hc_region (r_move rfl rfl (r_move rfl rfl ?_)))))))); refine r_len_sl rfl T.u_L_uint8 rfl ?_; refine r_geq rfl rfl rfl (hl_nil (then_n ?_))
  first | refine c_dec rfl (fun hb2 => ?_) (fun hb2 => ?_) | refine hc_cond rfl (fun hb2 => ?_) (fun hb2 => ?_)
  ·have hb2' := hb2; try simp at hb2'
   have hkb2 : k = b.length := by omega
   rw [hkb2, List.drop_length, cmpT_le, List.length_drop, if_neg (by omega)] at ht; refine hc_seq (hc_region (r_assign rfl rfl (hl_nil (then_n (hc_ret (then_ret (inb_ret (then_ret (then_ret (inb_ret (then_ret ?_))))))))))); exact ret1 () rfl (congrArg (fun n => some (int n)) (by rw [ht])) rfl trivial (List.nil_sublist _) trivial
  ·have hb2' := hb2; try simp at hb2'
   have hkb2 : k < b.length := by omega
   rw [cmpT_drop hk2 hkb2] at ht; refine hc_skip (then_n (hc_seq (hc_region (r_move rfl rfl (r_move rfl rfl ?_))))); refine r_elem (α := UInt8) _ _ rfl T.u_L_uint8 T.sz_u8 rfl rfl rfl mB rfl (by omega) (by decide) ?_; refine r_load rfl T.cell_u8 rfl (cell_row mB (rows_get0 (by omega) rfl)) ?_; refine r_assign rfl rfl (hl_nil (then_n (hc_seq (hc_region (r_move rfl rfl (r_move rfl rfl ?_)))))); refine hl_call F.cmp_Compare_byte_cb rfl rfl (cmp_Compare_byte_meets (a.getD k default) (b.getD k default)) (List.Perm.refl _) trivial fun _ _ => ?_; refine r_assign rfl rfl (hl_nil (then_n (hc_seq (hc_region (r_move rfl rfl (r_neq rfl rfl rfl (hl_nil (then_n ?_))))))))
   first | refine c_dec rfl (fun hb3 => ?_) (fun hb3 => ?_) | refine hc_cond rfl (fun hb3 => ?_) (fun hb3 => ?_)
   ·have hb3' := hb3; try simp at hb3'
    rw [if_pos hb3] at ht; refine hc_seq (hc_region (r_move rfl rfl (r_assign rfl rfl (hl_nil (then_n (hc_ret (inb_ret (then_ret (then_ret (inb_ret (then_ret ?_))))))))))); exact ret1 () rfl (congrArg (fun n => some (int n)) (by rw [ht])) rfl trivial (List.nil_sublist _) trivial
   ·have hb3' := hb3; try simp at hb3'
    rw [if_neg hb3] at ht; refine hc_skip (inb_n (then_n (hc_region ?_))); refine r_add _ rfl rfl rfl rfl (by unfold I64; omega) ?_; refine r_move rfl rfl (hl_nil ?_); exact again _ (k + 1) ⟨by show k + 1 ≤ a.length; omega, by show k + 1 ≤ b.length; omega, ht⟩ (by show a.length - (k + 1) < a.length - k; omega) ⟨rfl, rfl, rfl, rfl, rfl, trivial⟩ (.refl _) ⟨mB, mB, trivial⟩
 ·have hb1' := hb1; try simp at hb1'
  obtain rfl : k = a.length := by omega
  rw [List.drop_length, cmpT_ge, List.length_drop] at ht; refine hc_exit (then_exit (then_exit (inb_hit (then_n (hc_seq (hc_seq (hc_region (r_move rfl rfl ?_)))))))); refine r_len_sl rfl T.u_L_uint8 rfl ?_; refine r_move rfl rfl ?_; refine r_len_sl rfl T.u_L_uint8 rfl ?_; refine r_lss rfl rfl rfl (hl_nil (then_n ?_))
  first | refine c_dec rfl (fun hb4 => ?_) (fun hb4 => ?_) | refine hc_cond rfl (fun hb4 => ?_) (fun hb4 => ?_)
  ·have hb4' := hb4; try simp at hb4'
   refine hc_seq (hc_region (r_assign rfl rfl (hl_nil (then_n (hc_ret (then_ret ?_)))))); exact ret1 () rfl (congrArg (fun n => some (int n)) (by rw [ht, if_neg (by omega)])) rfl trivial (List.nil_sublist _) trivial
  ·have hb4' := hb4; try simp at hb4'
   refine hc_skip (then_n (hc_seq (hc_region (r_assign rfl rfl (hl_nil (then_n (hc_ret ?_))))))); exact ret1 () rfl (congrArg (fun n => some (int n)) (by rw [ht, if_pos (by omega)])) rfl trivial (List.nil_sublist _) trivial
theorem proof_Stock_1_meets (x y : Ty) (hx : x.1.length ≤ 1000000) (hy : y.1.length ≤ 1000000) : Meets Tryz.prog F.proof_Stock_1 [.agg #[str x.1, int x.2], .agg #[str y.1, int y.2]] { val := fun _ : Unit => int (cmpT x.1 y.1) } := by
 refine meets_intro F.proof_Stock_1_f rfl (Nat.le_of_ble_eq_true rfl) fun w0 => ?_; refine hc_seq (hc_region ?_); refine r_box rfl rfl fun ga => ?_; refine r_box rfl rfl fun gb => ?_; refine r_assign rfl rfl (hl_nil (then_n (hc_seq (hc_region ?_))))
 first | refine r_fieldAddr ⟨_, 0, none⟩ rfl rfl T.fa_api_Type_0 rfl ?_ | refine r_fieldAddr _ rfl rfl T.fa_api_Type_0 rfl ?_
 first | refine r_load rfl T.cell_string rfl (cell_own mB rfl) ?_ | refine r_load rfl T.cell_string rfl (cell_blk mB rfl) ?_ | refine r_load rfl T.cell_string rfl (cell_row mB (rows_get0 (by omega) rfl)) ?_ | refine r_load rfl T.cell_string rfl (cell_row_f mB (rows_get (by omega) rfl)) ?_
 refine r_bytes rfl T.u_string T.u_L_uint8 T.u_u8 rfl fun g1 cap1 => ?_
 first | refine r_fieldAddr ⟨_, 0, none⟩ rfl rfl T.fa_api_Type_0 rfl ?_ | refine r_fieldAddr _ rfl rfl T.fa_api_Type_0 rfl ?_
 first | refine r_load rfl T.cell_string rfl (cell_own mB rfl) ?_ | refine r_load rfl T.cell_string rfl (cell_blk mB rfl) ?_ | refine r_load rfl T.cell_string rfl (cell_row mB (rows_get0 (by omega) rfl)) ?_ | refine r_load rfl T.cell_string rfl (cell_row_f mB (rows_get (by omega) rfl)) ?_
 refine r_bytes rfl T.u_string T.u_L_uint8 T.u_u8 rfl fun g2 cap2 => ?_; refine hl_call F.slices_Compare_byte_byte_cb rfl rfl (slices_Compare_bytes_meets x.1 y.1 hx hy) (hpR := [_, _]) (List.Perm.refl _) ⟨mB, mB, trivial⟩ fun _ _ => ?_; refine r_assign rfl rfl (hl_nil (then_n (hc_ret ?_))); exact ret1 () rfl rfl rfl trivial (List.nil_sublist _) trivial
def Layed.sort_ren : Go.Shelf.Ren := ⟨fun | 6 => 43 | 15 => 60 | 14 => 59 | 28 => 83 | 29 => 84 | 20 => 75 | 21 => 76 | 22 => 77 | 23 => 78 | 24 => 79 | 25 => 80 | 26 => 81 | 27 => 82 | 46 => 97 | 47 => 98 | 48 => 99 | 49 => 100 | 50 => 101 | 57 => 106 | n => n, fun | 22 => 38 | 24 => 79 | 25 => 83 | 3 => 3 | 39 => 93 | 0 => 0 | 53 => 128 | 55 => 66 | 4 => 4 | 46 => 121 | 45 => 120 | 50 => 125 | 5 => 5 | 9 => 9 | 66 => 138 | 70 => 141 | 76 => 144 | 77 => 145 | n => n, fun | n => n⟩
theorem Layed.sort : Go.Proofs.SlLaysF0.n6 Tryz.prog Layed.sort_ren where
  mixed := by kernel_rfl
  f6 := ⟨"slices.SortFunc[[]wayzgoose/api.Type,wayzgoose/api.Type]", by decide, Tryz.func43.trans (congrArg some (by kernel_rfl))⟩
  f14 := ⟨"slices.pdqsortCmpFunc[wayzgoose/api.Type]", by decide, Tryz.func59.trans (congrArg some (by kernel_rfl))⟩
  f15 := Tryz.func60.trans (congrArg some (by kernel_rfl))
  f20 := ⟨"slices.insertionSortCmpFunc[wayzgoose/api.Type]", by decide, Tryz.func75.trans (congrArg some (by kernel_rfl))⟩
  f21 := ⟨"slices.heapSortCmpFunc[wayzgoose/api.Type]", by decide, Tryz.func76.trans (congrArg some (by kernel_rfl))⟩
  f22 := ⟨"slices.breakPatternsCmpFunc[wayzgoose/api.Type]", by decide, Tryz.func77.trans (congrArg some (by kernel_rfl))⟩
  f23 := ⟨"slices.choosePivotCmpFunc[wayzgoose/api.Type]", by decide, Tryz.func78.trans (congrArg some (by kernel_rfl))⟩
  f24 := ⟨"slices.reverseRangeCmpFunc[wayzgoose/api.Type]", by decide, Tryz.func79.trans (congrArg some (by kernel_rfl))⟩
  f25 := ⟨"slices.partialInsertionSortCmpFunc[wayzgoose/api.Type]", by decide, Tryz.func80.trans (congrArg some (by kernel_rfl))⟩
  f26 := ⟨"slices.partitionEqualCmpFunc[wayzgoose/api.Type]", by decide, Tryz.func81.trans (congrArg some (by kernel_rfl))⟩
  f27 := ⟨"slices.partitionCmpFunc[wayzgoose/api.Type]", by decide, Tryz.func82.trans (congrArg some (by kernel_rfl))⟩
  f28 := Tryz.func83.trans (congrArg some (by kernel_rfl))
  f29 := Tryz.func84.trans (congrArg some (by kernel_rfl))
  f46 := ⟨"slices.siftDownCmpFunc[wayzgoose/api.Type]", by decide, Tryz.func97.trans (congrArg some (by kernel_rfl))⟩
  f47 := Tryz.func98.trans (congrArg some (by kernel_rfl))
  f48 := Tryz.func99.trans (congrArg some (by kernel_rfl))
  f49 := ⟨"slices.medianAdjacentCmpFunc[wayzgoose/api.Type]", by decide, Tryz.func100.trans (congrArg some (by kernel_rfl))⟩
  f50 := ⟨"slices.medianCmpFunc[wayzgoose/api.Type]", by decide, Tryz.func101.trans (congrArg some (by kernel_rfl))⟩
  f57 := ⟨"slices.order2CmpFunc[wayzgoose/api.Type]", by decide, Tryz.func106.trans (congrArg some (by kernel_rfl))⟩
  t0 := Tryz.underlying0
  a0 := Tryz.isAgg0
  z0 := Tryz.sizeOf0
  v0 := Tryz.zeroValue0
  t3 := Tryz.underlying3
  a3 := Tryz.isAgg3
  z3 := Tryz.sizeOf3
  v3 := Tryz.zeroValue3
  t4 := Tryz.underlying4
  a4 := Tryz.isAgg4
  z4 := Tryz.sizeOf4
  v4 := Tryz.zeroValue4
  t5 := Tryz.underlying5
  a5 := Tryz.isAgg5
  z5 := Tryz.sizeOf5
  v5 := Tryz.zeroValue5
  t9 := Tryz.underlying9
  a9 := Tryz.isAgg9
  z9 := Tryz.sizeOf9
  v9 := Tryz.zeroValue9
  t22 := Tryz.underlying38
  a22 := Tryz.isAgg38
  z22 := Tryz.sizeOf38
  v22 := Tryz.zeroValue38
  t25 := Tryz.underlying83
  a25 := Tryz.isAgg83
  z25 := Tryz.sizeOf83
  v25 := Tryz.zeroValue83
  t39 := Tryz.underlying93
  a39 := Tryz.isAgg93
  z39 := Tryz.sizeOf93
  v39 := Tryz.zeroValue93
  t45 := Tryz.underlying120
  a45 := Tryz.isAgg120
  z45 := Tryz.sizeOf120
  v45 := Tryz.zeroValue120
  t46 := Tryz.underlying121
  a46 := Tryz.isAgg121
  z46 := Tryz.sizeOf121
  v46 := Tryz.zeroValue121
  t50 := Tryz.underlying125
  a50 := Tryz.isAgg125
  z50 := Tryz.sizeOf125
  v50 := Tryz.zeroValue125
  t53 := Tryz.underlying128
  a53 := Tryz.isAgg128
  z53 := Tryz.sizeOf128
  v53 := Tryz.zeroValue128
  t55 := Tryz.underlying66
  a55 := Tryz.isAgg66
  z55 := Tryz.sizeOf66
  v55 := Tryz.zeroValue66
  t66 := Tryz.underlying138
  a66 := Tryz.isAgg138
  z66 := Tryz.sizeOf138
  v66 := Tryz.zeroValue138
  t70 := Tryz.underlying141
  a70 := Tryz.isAgg141
  z70 := Tryz.sizeOf141
  v70 := Tryz.zeroValue141
  t76 := Tryz.underlying144
  a76 := Tryz.isAgg144
  z76 := Tryz.sizeOf144
  v76 := Tryz.zeroValue144
  t77 := Tryz.underlying145
  a77 := Tryz.isAgg145
  z77 := Tryz.sizeOf145
  v77 := Tryz.zeroValue145
theorem sort_types_meets {A : Option Addr} {cap : Nat} (l : List Ty) (hb : ∀ t ∈ l, t.1.length ≤ 1000000) {og : Hp} (hG : Grow T.api_Type 2 A l.length cap (rows l) og) (hl : l.length < 4611686018427387904) :
    Meets Tryz.prog F.slices_SortFunc [.slice A l.length cap, .func (.func F.proof_Stock_1) #[] #[]] { hpI := og, inv := fun x : List Ty × Hp => x.1.Perm l ∧ x.1.Pairwise (fun a b => Go.Proofs.ltOf cfT b a = false) ∧ Grow T.api_Type 2 A x.1.length cap (rows x.1) x.2, val := fun _ => .tuple #[], hpO := fun x => x.2 } := by
  obtain ⟨lb, rfl⟩ : ∃ lb : List TyB, l = lb.map (·.1) := ⟨l.pmap (fun t h => ⟨t, h⟩) hb, by rw [List.map_pmap]; simp⟩; rw [← rows_val, List.length_map] at hG; rw [List.length_map] at hl ⊢; have h := sortFunc_meets Layed.sort (α := TyB) (by decide) (fun w => by kernel_rfl) (fun w => by kernel_rfl) swoB (f := F.slices_SortFunc) (g := F.proof_Stock_1) rfl (fun args w => Callable.run F.proof_Stock_1_cb args w) (fun x y => proof_Stock_1_meets x.1 y.1 x.2 y.2) lb hG hl; intro w hw; refine Calls.mono (h w hw) fun e w' hp => ?_; obtain ⟨x, rfl, ⟨h1, h2, h3⟩, h4⟩ := hp; refine ⟨(x.1.map (·.1), x.2), rfl, ⟨h1.map _, ?_, ?_⟩, h4⟩
  · rw [List.pairwise_map]; exact h2
  · rw [← rows_val, List.length_map]; exact h3
end Go.Proofs.YtpbbgbjidhffoaaGreat
end
section
namespace Go.Proofs.YtpbbgbjidhffoaaGreat
open Go Go.W
set_option maxRecDepth 20000
attribute [local irreducible] HL HC HQ HB Row Rows2 Blk Facts
theorem stock_line {ps : List (Sl Str)} {s : Str} (h : yearsErr (years ps) = 0) (hs : 0 < stockN ps s) : s.length ≤ 1000000 := by
  obtain ⟨p, hp, hm⟩ := stock_pos.1 hs; rw [yearsErr_of] at h
  split at h
  · omega
  · have h1 := firstErr_zero h p hp
    unfold pageErr at h1
    split at h1
    · omega
    · have h2 := firstErr_zero h1 s hm
      unfold lineErr at h2
      split at h2
      · omega
      · split at h2
        · omega
        · omega
structure StockR (ps : List (Sl Str)) (ts : List Ty) : Prop where
  ok : yearsErr (years ps) = 0 → StockIs ps ts
  no : ¬ yearsErr (years ps) = 0 → ts = []
set_option maxHeartbeats 1000000 in
theorem proof_Stock_any {A : Option Addr} {c : Nat} (ps : List (Sl Str)) : Meets Tryz.prog F.proof_Stock [.slice A ps.length c] { LI := [Rows2 A ps], inv := fun x : List Ty × OutC => StockR ps x.1, val := fun x => .tuple #[.slice x.2.1 x.1.length x.2.2, int (yearsErr (years ps))], LO := fun x => [Row x.2.1 (rows x.1)] } := by
 refine meets_intro F.proof_Stock_f rfl (Nat.le_of_ble_eq_true rfl) fun w0 => ?_; refine hc_seq (hc_region (r_assign rfl rfl (r_assign rfl rfl (hl_nil (then_n (hc_seq (hc_seq (hc_region (r_move rfl rfl ?_))))))))); refine hl_call F.proof_yearsError_cb rfl rfl (proof_yearsError_meets ps) (List.Perm.refl _) ⟨mB, trivial⟩ fun _ _ => ?_; refine r_assign rfl rfl (hl_nil (then_n (hc_seq (hc_region (r_move rfl rfl (r_neq rfl rfl rfl (hl_nil (then_n ?_))))))))
 first | refine c_dec rfl (fun hb1 => ?_) (fun hb1 => ?_) | refine hc_cond rfl (fun hb1 => ?_) (fun hb1 => ?_)
 ·have hb1' := hb1; try simp at hb1'
  refine hc_seq (hc_region (r_move rfl rfl (r_assign rfl rfl (r_assign rfl rfl (hl_nil (then_n (hc_ret (then_ret ?_)))))))); refine hq_nilrow (α := Ty) ?_; exact ret2 (([] : List Ty), (none, 0)) rfl rfl rfl rfl rfl ⟨fun h => absurd h hb1, fun _ => rfl⟩ (List.nil_sublist _) ⟨m0, trivial⟩
 ·have hb1' := hb1; try simp at hb1'
  have hy0 := Classical.not_not.1 hb1; obtain ⟨hy4, hy6⟩ := yearsErr_zero hy0; have hsb := stock_bd hy6; refine hc_skip (then_n (hc_seq (hc_region (r_assign rfl rfl (hl_nil (then_n (hc_seq (hc_seq (hc_region (r_move rfl rfl ?_)))))))))); refine hl_call F.proof_stock_cb rfl rfl (proof_stock_meets ps (by omega) (fun q hq => by have := hy6 q hq; omega)) (List.Perm.refl _) ⟨mB, trivial⟩ fun x hx => ?_; obtain ⟨gm, l0, clk0⟩ := x; have hM : MapIs l0 clk0 (stockN ps) := hx; clear hx; have hll := hM.len (K := linesOf ps) fun s hs => stock_lines hs; have hl24 := lines_len hy6; refine r_rangeM rfl T.u_map_string_int rfl (map_own m0) fun gi => ?_; refine hl_nil (then_n (hc_block ?_)); refine hc_loop (β := List (Ment Str) × OutC × Hp) ⟨fun x => Vis l0 x.1 ∧ Grow T.api_Type 2 x.2.1.1 x.1.length x.2.1.2 (rows (tyOf ps x.1)) x.2.2, fun x => [(5, .slice x.2.1.1 x.1.length x.2.1.2), (15, .pointer (some ⟨gi, 0, none⟩))], fun x => x.2.2 ++ [(gi, iterM gm clk0 x.1), (gm, mapO str l0 clk0)], fun _ => []⟩ (fun x => l0.length - x.1.length) ([], (none, 0), []) ⟨Vis.nil _, Grow.nil _ _⟩ ⟨rfl, rfl, trivial⟩ (.refl _) trivial fun x hx => ?_; obtain ⟨vis, ⟨na, nc⟩, og⟩ := x; obtain ⟨hV, hG⟩ := hx; simp only at hV hG; have hvl := hV.len; refine hc_seq (hc_region ?_); refine r_nextM (enc := str) (vis := vis) (hp' := og ++ [(gm, mapO str l0 clk0)]) rfl rfl (map_own (List.mem_append_right _ m1)) hM.lt (perm_of fun q => by simp only [List.countP_append, List.countP_cons, List.countP_nil]; omega) fun x hx0 hx1 => ?_; refine r_mext0 (enc := str) rfl rfl ?_; refine hl_nil (then_n (hc_seq ?_))
  first | refine c_dec rfl (fun hb2 => ?_) (fun hb2 => ?_) | refine hc_cond rfl (fun hb2 => ?_) (fun hb2 => ?_)
  ·have hb2' := hb2; try simp at hb2'
   obtain ⟨q, rfl⟩ := Option.isSome_iff_exists.1 hb2; obtain ⟨hq1, hq2⟩ := hx1 q rfl; have hqv := hM.vl q hq1; have hlt := hV.lt hq1 hq2; obtain ⟨s, v, b⟩ := q; simp only at hqv; obtain ⟨rfl, hqp⟩ := hqv; have hts := tyOf_snoc ps vis (s, int ((stockN ps s : Nat) : Int), b); refine hc_skip (then_n (hc_block (hc_seq (hc_region ?_)))); refine r_entry (p := (s, int ((stockN ps s : Nat) : Int), b)) rfl rfl (map_own (List.mem_cons_of_mem _ (List.mem_append_right _ m0))) (map_own m0) hq1 hM.bs ?_; refine r_extract rfl rfl rfl (r_extract rfl rfl rfl (r_assign rfl rfl (r_assign rfl rfl (hl_nil (then_n (hc_region (r_move rfl rfl (r_move rfl rfl (r_move rfl rfl ?_))))))))); refine r_build _ rfl rfl (fun _ => T.bd_api_Type_0_1 ..) ?_; refine r_buildSlice _ rfl rfl (fun _ => T.bs_L_api_Type_1 ..) fun gS => ?_; refine r_append (vis.length + 1) (rows (tyOf ps (vis ++ [(s, int ((stockN ps s : Nat) : Int), b)]))) T.el_L_api_Type rfl rfl rfl hG (hp' := [(gS, .cells #[str s, int ((stockN ps s : Nat) : Int)] T.api_Type (0, 0)), (gi, iterM gm clk0 (vis ++ [(s, int ((stockN ps s : Nat) : Int), b)])), (gm, mapO str l0 clk0)]) (show List.Perm ((gS, Obj.cells #[str s, int ((stockN ps s : Nat) : Int)] T.api_Type (0, 0)) :: (gi, iterM gm clk0 (vis ++ [(s, int ((stockN ps s : Nat) : Int), b)])) :: (og ++ [(gm, mapO str l0 clk0)])) (og ++ [(gS, Obj.cells #[str s, int ((stockN ps s : Nat) : Int)] T.api_Type (0, 0)), (gi, iterM gm clk0 (vis ++ [(s, int ((stockN ps s : Nat) : Int), b)])), (gm, mapO str l0 clk0)]) from perm_of fun q => by simp only [List.countP_append, List.countP_cons, List.countP_nil]; omega) (Src.own (cs := #[str s, int ((stockN ps s : Nat) : Int)]) (m := 1) (List.mem_append_right _ m0) rfl rfl) rfl (by rw [hts, rows_append]; rfl) (by unfold maxLen; omega) (by omega) fun A' c' og' hG' => ?_; refine r_assign rfl rfl (hl_nil (inb_n ?_)); exact again _ (vis ++ [(s, int ((stockN ps s : Nat) : Int), b)], (A', c'), og') ⟨hV.snoc hq1 hq2, by show Grow _ _ _ (vis ++ [_]).length _ _ _; rw [List.length_append]; exact hG'⟩ (by show l0.length - (vis ++ [_]).length < l0.length - vis.length; rw [List.length_append, List.length_singleton]; omega) ⟨by show some (Value.slice A' (vis.length + 1) c') = some (Value.slice A' (vis ++ [_]).length c'); rw [List.length_append]; rfl, rfl, trivial⟩ (List.Sublist.append_left (.cons _ (.refl _)) _) trivial
  ·have hb2' := hb2; try simp at hb2'
   have hx : x = none := by cases x with | none => rfl | some q => simp at hb2
   subst hx; refine hc_exit (then_exit (then_exit (inb_hit (then_n (hc_seq (hc_region (r_move rfl rfl ?_))))))); have hG2 : Grow T.api_Type 2 na (tyOf ps vis).length nc (rows (tyOf ps vis)) og := by unfold tyOf; rw [List.length_map]; exact hG
   have hso := sort_types_meets (tyOf ps vis) (fun t ht => by obtain ⟨q, hq, rfl⟩ := List.mem_map.1 ht; exact stock_line hy0 (hM.vl q (hV.sub q hq)).2) hG2 (by unfold tyOf; rw [List.length_map]; omega); rw [show (tyOf ps vis).length = vis.length by unfold tyOf; rw [List.length_map]] at hso; refine hl_call F.slices_SortFunc_cb rfl rfl hso (hpR := [(gi, iterM gm clk0 vis), (gm, mapO str l0 clk0)]) (perm_of fun q => by simp only [List.countP_append, List.countP_cons, List.countP_nil, Option.toList_none, List.append_nil]; omega) trivial fun y hy => ?_; obtain ⟨ts, og2⟩ := y; obtain ⟨hp1, hp2, hp3⟩ := hy; simp only at hp1 hp2 hp3; refine hl_nil (then_n (hc_seq (hc_region (r_move rfl rfl (r_assign rfl rfl (r_assign rfl rfl (hl_nil (then_n (hc_ret ?_))))))))); have htl : ts.length = vis.length := by have := hp1.length_eq; rw [show (tyOf ps vis).length = vis.length by unfold tyOf; rw [List.length_map]] at this; exact this
   refine hq_grown hp3 ?_; exact ret2 (ts, (na, nc)) rfl rfl rfl (by show Value.tuple #[.slice na ts.length nc, int (yearsErr (years ps))] = _; rw [htl, hy0]) rfl ⟨fun _ => stock_is hM hV (hx0 rfl) hp1 hp2, fun h => absurd hy0 h⟩ (List.nil_sublist _) ⟨m0, trivial⟩
end Go.Proofs.YtpbbgbjidhffoaaGreat
end
section
namespace Go.Proofs.YtpbbgbjidhffoaaGreat
open Go Go.W
set_option maxRecDepth 20000
attribute [local irreducible] HL HC HQ HB Row Rows2 Blk Facts
theorem find_succ {α : Type} {f : Nat → Option α} {k : Nat} (h : (List.range k).findSome? f = none) (h1 : f k = none) : (List.range (k + 1)).findSome? f = none := by
  rw [List.range_succ, List.findSome?_append, h]; simp [h1]
theorem find_at {α : Type} {f : Nat → Option α} {k n : Nat} {x : α} (hk : k < n) (h : (List.range k).findSome? f = none) (h1 : f k = some x) : (List.range n).findSome? f = some x := by
  have e : List.range n = List.range (k + 1) ++ (List.range (n - (k + 1))).map (fun i => (k + 1) + i) := by
    have := List.range_add (n := k + 1) (m := n - (k + 1)); rw [← this]
    congr 1
    omega
  rw [e, List.range_succ, List.findSome?_append, List.findSome?_append, h]
  simp [h1]
def growF (n : Nat) (p : List Int → Bool) : Nat → List Int → Option (List Int)
  | 0, l => if p l = true then some l else none
  | d + 1, l => (List.range n).findSome? fun i : Nat => if (i : Int) ∈ l then none else growF n p d (l ++ [(i : Int)])
def InR (n : Nat) (l : List Int) : Prop := ∀ i ∈ l, 0 ≤ i ∧ i < (n : Int)
theorem InR.snoc {n : Nat} {l : List Int} {i : Nat} (h : InR n l) (hi : i < n) : InR n (l ++ [(i : Int)]) := by
  intro x hx
  rcases List.mem_append.1 hx with hx | hx
  · exact h x hx
  · simp at hx; omega
abbrev GrowI (o : OutC) (l : List Int) (og : Hp) : Prop := Grow T.int 1 o.1 l.length o.2 (rows l) og
theorem slices_Clone_ints_meets {A : Option Addr} {c : Nat} (l : List Int) (hl : l.length ≤ 1000000) : Meets Tryz.prog F.slices_Clone_ints [.slice A l.length c] { LI := [Row A (rows l)], inv := fun x : OutC × Hp => GrowI x.1 l x.2, val := fun x => .slice x.1.1 l.length x.1.2, hpO := fun x => x.2 } := by
 refine meets_intro F.slices_Clone_ints_f rfl (Nat.le_of_ble_eq_true rfl) fun w0 => ?_; refine hc_seq (hc_region (r_assign rfl rfl (hl_nil (then_n (hc_seq (hc_seq (hc_region (r_move rfl rfl (r_eqlnil rfl T.u_ints rfl rfl (hl_nil (then_n ?_))))))))))); refine hc_cond rfl (fun hb1 => ?_) (fun hb1 => ?_)
 ·have hb1' := hb1; try simp at hb1'
  have hA : A = none := by cases A with | none => rfl | some a => cases hb1
  subst hA; refine hc_pure (φ := l = []) (fun w hw => row_none (by decide) (hw.fs (Row none (rows l)) m0)) fun hl0 => ?_; subst hl0; refine hc_seq (hc_region (r_assign rfl rfl (hl_nil (then_n (hc_ret (then_ret ?_)))))); exact ret1 ((none, 0), []) rfl rfl rfl (Grow.nil _ _) (.refl _) trivial
 ·have hb1' := hb1; try simp at hb1'
  refine hc_skip (then_n (hc_seq (hc_region ?_))); refine r_buildSlice _ rfl rfl (fun _ => T.bs_ints_0 ..) fun gS => ?_; refine r_move rfl rfl ?_; refine r_append l.length (rows l) T.el_ints rfl rfl rfl (Grow.new (cs := #[]) (n := 0) rfl (Nat.zero_le _)) (.refl _) (Src.row m0 (rows_len l) (rows_one l) (by decide)) (by omega) rfl (by unfold maxLen; omega) (by omega) fun A' c' og' hG => ?_; refine r_assign rfl rfl (hl_nil (then_n (hc_ret ?_))); exact ret1 ((A', c'), og') rfl rfl rfl hG (List.sublist_append_left _ _) trivial
section
variable (lb : Nat) (rc : Option Code → Loop) (R0 : Hp) (R1 : List Int → OutC → Hp) (LI0 : List Fact) (p : List Int → Bool)
def yCon (o : List Int) (A : Option Addr) (c : Nat) : Con Unit :=
  { hpI := (lb, .loop (rc none)) :: R0, LI := Row A (rows o) :: LI0, val := fun _ => .bool (!(p o)), hpO := fun _ => if p o = true then (lb, .loop (rc (some .ret))) :: R1 o (A, c) else (lb, .loop (rc none)) :: R0 }
abbrev OrdO := Option (List Int × OutC)
def ordR (x : OrdO) : Hp := match x with | none => R0 | some y => R1 y.1 y.2
def ordL (x : OrdO) : List Fact := match x with | none => [] | some y => [Row y.2.1 (rows y.1)]
def ordJ (x : OrdO) : Option Code := match x with | none => none | some _ => some .ret
def ordCon (LI : List Fact) (q : Option (List Int)) (val : OrdO → Value) : Con OrdO :=
  { hpI := (lb, .loop (rc none)) :: R0, LI := LI ++ LI0, inv := fun x => q = x.map (·.1), val := val, hpO := fun x => (lb, .loop (rc (ordJ x))) :: ordR R0 R1 x, LO := ordL }
end
def boxN (g : Nat) (n : Int) : Fact := Blk g (.cells #[int n] T.int (0, 0))
def boxF (g : Nat) (v : Value) : Fact := Blk g (.cells #[v] T.func_L_int_bool (0, 0))
def ptr (g : Nat) : Value := .pointer (some ⟨g, 0, none⟩)
def growV (gn gy gg : Nat) : Value := .func (.func F.proof_orders_1_1) #[] [ptr gn, ptr gy, ptr gg].toArray
theorem proof_orders_1_1_meets {lb : Nat} {rc : Option Code → Loop} {R0 : Hp} {R1 : List Int → OutC → Hp} {LI0 : List Fact} {p : List Int → Bool} {n : Nat} {gn gy gg : Nat} (hn : n ≤ 1000) (hY : ∀ (o : List Int) (A : Option Addr) (c : Nat), o.length = n → InR n o → MeetsY Tryz.prog lb [.slice A o.length c] (yCon lb rc R0 R1 LI0 p o A c)) :
    ∀ (d : Nat) (l : List Int) (A : Option Addr) (c : Nat), l.length + d = n → InR n l → Meets Tryz.prog F.proof_orders_1_1 [.slice A l.length c, ptr gn, ptr gy, ptr gg] (ordCon lb rc R0 R1 LI0 [Row A (rows l), boxN gn n, boxF gy (yieldV lb), boxF gg (growV gn gy gg)] (growF n p d l) (fun x => .bool x.isNone)) := by
 intro d
 induction d using Nat.strongRecOn
 rename_i d ih
 intro l A c hd hR; refine meets_intro F.proof_orders_1_1_f rfl (Nat.le_of_ble_eq_true rfl) fun w0 => ?_; refine hc_seq (hc_region (r_assign rfl rfl (hl_nil (then_n (hc_seq (hc_seq (hc_region (r_move rfl rfl ?_)))))))); refine r_len_sl rfl T.u_ints rfl ?_
 first | refine r_load rfl T.cell_int rfl (cell_own mB rfl) ?_ | refine r_load rfl T.cell_int rfl (cell_blk mB rfl) ?_ | refine r_load rfl T.cell_int rfl (cell_row mB (rows_get0 (by omega) rfl)) ?_ | refine r_load rfl T.cell_int rfl (cell_row_f mB (rows_get (by omega) rfl)) ?_
 refine r_eql rfl rfl rfl (hl_nil (then_n ?_))
 first | refine c_dec rfl (fun hb1 => ?_) (fun hb1 => ?_) | refine hc_cond rfl (fun hb1 => ?_) (fun hb1 => ?_)
 ·have hb1' := hb1; try simp at hb1'
  have h0 : d = 0 := by omega
  subst h0; have hlen : l.length = n := by omega
  refine hc_seq (hc_region ?_)
  first | refine r_load rfl T.cell_func_L_int_bool rfl (cell_own mB rfl) ?_ | refine r_load rfl T.cell_func_L_int_bool rfl (cell_blk mB rfl) ?_ | refine r_load rfl T.cell_func_L_int_bool rfl (cell_row mB (rows_get0 (by omega) rfl)) ?_ | refine r_load rfl T.cell_func_L_int_bool rfl (cell_row_f mB (rows_get (by omega) rfl)) ?_
  refine r_move rfl rfl ?_; refine hl_yield (k := yCon lb rc R0 R1 LI0 p l A c) rfl rfl rfl (hY l A c hlen hR) (hpR := []) (by rw [List.append_nil]; exact .refl _) ⟨m0, (LSub.of_mem fun F hF => by repeat (first | exact hF | apply List.Mem.tail))⟩ fun _ _ => ?_; refine r_assign rfl rfl (hl_nil (then_n (hc_ret (then_ret ?_))))
  by_cases hp : p l = true
  · exact ret1 (some (l, (A, c))) rfl (by show some (Value.bool (!(p l))) = some (Value.bool false); rw [hp]; rfl) rfl (by show growF n p 0 l = some l; rw [growF, if_pos hp]) (by show List.Sublist _ ((if p l = true then _ else _) ++ []); rw [if_pos hp, List.append_nil]; exact .refl _) ⟨m0, trivial⟩
  · exact ret1 none rfl (by show some (Value.bool (!(p l))) = some (Value.bool true); rw [Bool.eq_false_iff.2 hp]; rfl) rfl (by show growF n p 0 l = none; rw [growF, if_neg hp]) (by show List.Sublist _ ((if p l = true then _ else _) ++ []); rw [if_neg hp, List.append_nil]; exact .refl _) trivial
 ·have hb1' := hb1; try simp at hb1'
  obtain ⟨d0, rfl⟩ : ∃ d0, d = d0 + 1 := ⟨d - 1, by omega⟩; refine hc_skip (then_n (hc_seq (hc_seq (hc_region ?_))))
  first | refine r_load rfl T.cell_int rfl (cell_own mB rfl) ?_ | refine r_load rfl T.cell_int rfl (cell_blk mB rfl) ?_ | refine r_load rfl T.cell_int rfl (cell_row mB (rows_get0 (by omega) rfl)) ?_ | refine r_load rfl T.cell_int rfl (cell_row_f mB (rows_get (by omega) rfl)) ?_
  refine r_move rfl rfl (hl_nil (then_n (hc_block ?_))); refine hc_loop (β := Nat) ⟨fun k => k ≤ n ∧ (List.range k).findSome? (fun i : Nat => if (i : Int) ∈ l then none else growF n p d0 (l ++ [(i : Int)])) = none, fun k => [(0, .slice A l.length c), (1, ptr gn), (2, ptr gy), (3, ptr gg), (14, int n), (15, int k)], fun _ => (lb, .loop (rc none)) :: R0, fun _ => [Row A (rows l), boxN gn n, boxF gy (yieldV lb), boxF gg (growV gn gy gg)] ++ LI0⟩ (fun k => n - k) 0 ⟨Nat.zero_le _, rfl⟩ ⟨rfl, rfl, rfl, rfl, rfl, rfl, trivial⟩ (.refl _) ⟨m0, m1, m2, m3, (LSub.of_mem fun F hF => by repeat (first | exact hF | apply List.Mem.tail))⟩ fun k hk => ?_; obtain ⟨hk, ht⟩ := hk; refine hc_seq (hc_region (r_lss rfl rfl rfl (hl_nil (then_n (hc_seq ?_)))))
  first | refine c_dec rfl (fun hb2 => ?_) (fun hb2 => ?_) | refine hc_cond rfl (fun hb2 => ?_) (fun hb2 => ?_)
  ·have hb2' := hb2; try simp at hb2'
   have hk2 : k < n := by omega
   refine hc_skip (then_n (hc_seq (hc_block (hc_seq (hc_region (r_move rfl rfl (r_assign rfl rfl (hl_nil (then_n (hc_seq ?_)))))))))); refine hc_drawW ([]) (_) (.refl _) 11 [10, 7] mixed (by decide) (by decide) (by decide) rfl rfl rfl ?_; refine hb_ex _ rfl rfl rfl (fun w1 => r_move rfl rfl (hl_nil (qe_done rfl))) ?_; refine hb_ex _ rfl rfl rfl (fun w1 => r_move rfl rfl (hl_nil (qe_done rfl))) ?_; refine hb_ex _ rfl rfl rfl (fun w1 => hl_call F.slices_Contains_ints_cb rfl rfl (slices_Contains_ints_meets l (k : Int) (by omega)) (.refl _) ⟨.tail _ (List.mem_append_right _ m0), trivial⟩ fun _ _ => (hl_nil (qe_done rfl))) ?_; refine hb_ex _ rfl rfl rfl (fun w1 => r_not rfl rfl (hl_nil (qe_done rfl))) ?_; refine hb_ex _ rfl rfl rfl (fun w1 => r_move rfl rfl (hl_nil (qe_done rfl))) ?_; refine hb_split (t := 22) (want := true) rfl ?_ ?_
   ·intro hg1; have hg1' := hg1; try simp at hg1'
    have hni : ¬ (k : Int) ∈ l := by simpa using hg1
    apply hb_ex _ rfl rfl rfl
    ·intro w1; refine g_yes rfl rfl hg1 ?_; refine r_load rfl T.cell_func_L_int_bool rfl (cell_blk (.tail _ (List.mem_append_right _ m3)) rfl) ?_; refine hl_nil ?_; exact qe_done rfl
    apply hb_ex _ rfl rfl rfl
    ·intro w1; refine g_yes rfl rfl hg1 (r_move rfl rfl (hl_nil ?_)); exact qe_done rfl
    refine hb_wr ⟨OutC × Hp, fun x => GrowI x.1 l x.2, fun x => .slice x.1.1 l.length x.1.2, fun _ => [], fun x => x.2⟩ rfl rfl rfl ?_ ?_
    ·intro w1; refine g_yes rfl rfl hg1 ?_; refine hl_call F.slices_Clone_ints_cb rfl rfl (slices_Clone_ints_meets l (by omega)) (.refl _) ⟨m0, trivial⟩ fun x hx => ?_; refine hl_nil ?_; exact qw_done x hx (fun _ => rfl) (by rw [List.append_nil]; exact .refl _) trivial
    apply hb_ex _ rfl rfl rfl
    ·intro w1; refine g_yes rfl rfl hg1 (r_move rfl rfl (hl_nil ?_)); exact qe_done rfl
    refine hb_vs ⟨Nat, fun _ => True, fun g1 => .slice (some ⟨g1, 0, none⟩) 1 1, fun g1 => [Row (some ⟨g1, 0, none⟩) (rows [(k : Int)])]⟩ rfl rfl rfl ?_ ?_
    ·intro w1; refine g_yes rfl rfl hg1 ?_; refine r_buildSlice _ rfl rfl (fun _ => T.bs_ints_1 ..) fun gS => ?_; refine hl_nil ?_; refine hq_letgo (rows [(k : Int)]) (List.prefix_refl _) ?_; exact qv_done gS trivial rfl ⟨m0, trivial⟩
    refine hb_wr ⟨OutC × Hp, fun x => Grow T.int 1 x.1.1 (l.length + 1) x.1.2 (rows (l ++ [(k : Int)])) x.2, fun x => .slice x.1.1 (l.length + 1) x.1.2, fun _ => [], fun x => x.2⟩ rfl rfl rfl ?_ ?_
    ·intro x7 hx7 g9 _; intro w1; refine g_yes rfl rfl hg1 ?_; refine r_append (l.length + 1) (rows (l ++ [(k : Int)])) T.el_ints rfl rfl rfl hx7 (hp' := []) (by rw [List.append_nil]) (Src.row (news := rows [(k : Int)]) (m := 1) m0 rfl (rows_one _) (by decide)) rfl (rows_append l [(k : Int)]).symm (by unfold maxLen; omega) (by omega) fun A' c' og' hG' => ?_; refine hl_nil ?_; exact qw_done ((A', c'), og') hG' (fun _ => rfl) (by rw [List.append_nil]; exact .refl _) trivial
    refine hb_nil ⟨rfl, ?_⟩; intro x7 hx7 g9 _ x10 hx10; refine g_yes rfl rfl hg1 ?_; have ihk := ih d0 (by omega) (l ++ [(k : Int)]) x10.1.1 x10.1.2 (by rw [len_snoc]; omega) (hR.snoc hk2); rw [len_snoc] at ihk; refine hl_grown hx10 ?_; refine hl_callv (vs := [.slice x10.1.1 (l.length + 1) x10.1.2]) (cap := [ptr gn, ptr gy, ptr gg]) F.proof_orders_1_1_cb rfl rfl rfl ihk (hpR := []) (by rw [List.append_nil]; exact .refl _) ⟨m0, m3, m4, m5, (LSub.of_mem fun F hF => by repeat (first | exact hF | apply List.Mem.tail))⟩ fun y hy => ?_; have hy : growF n p d0 (l ++ [(k : Int)]) = y.map (·.1) := hy; refine g_yes rfl rfl hg1 (r_not rfl rfl ?_); refine p_t rfl rfl (bt1 hg1) rfl ?_; refine hl_nil (then_n ?_)
    first | refine c_dec rfl (fun hb3 => ?_) (fun hb3 => ?_) | refine hc_cond rfl (fun hb3 => ?_) (fun hb3 => ?_)
    ·have hb3' := hb3; try simp at hb3'
     obtain ⟨z, rfl⟩ : ∃ z, y = some z := by cases y with | none => cases hb3 | some z => exact ⟨z, rfl⟩
     refine hc_seq (hc_region (r_assign rfl rfl (hl_nil (then_n (hc_ret (inb_ret (then_ret (then_ret (inb_ret (then_ret ?_)))))))))); exact ret1 (some z) rfl rfl rfl (find_at hk2 ht (by rw [if_neg hni, hy]; rfl)) (by rw [List.append_nil]; exact .refl _) ⟨m0, trivial⟩
    ·have hb3' := hb3; try simp at hb3'
     have hyn : y = none := by cases y with | none => rfl | some z => cases hb3
     subst hyn; refine hc_skip (inb_n (then_n (hc_region ?_))); refine r_add _ rfl rfl rfl rfl (by unfold I64; omega) ?_; refine r_move rfl rfl (hl_nil ?_); exact again _ (k + 1) ⟨by omega, find_succ ht (by rw [if_neg hni, hy]; rfl)⟩ (by show n - (k + 1) < n - k; omega) ⟨rfl, rfl, rfl, rfl, rfl, rfl, trivial⟩ (by rw [List.append_nil]; exact .refl _) ⟨mB, mB, mB, mB, (LSub.of_mem fun F hF => by repeat (first | exact hF | apply List.Mem.tail))⟩
   ·intro hg1; have hg1' := hg1; try simp at hg1'
    have hin : (k : Int) ∈ l := by simpa using hg1
    refine hb_ex _ rfl rfl rfl (fun w1 => g_no rfl rfl rfl rfl rfl hg1 (hl_nil (qe_done rfl))) ?_; refine hb_ex _ rfl rfl rfl (fun w1 => g_no rfl rfl rfl rfl rfl hg1 (hl_nil (qe_done rfl))) ?_; refine hb_wr ⟨Unit, fun _ => True, fun _ => undef, fun _ => [], fun _ => []⟩ rfl rfl rfl ?_ ?_
    ·intro w1; refine g_no rfl rfl rfl rfl rfl hg1 (hl_nil ?_); exact qw_done () trivial (fun _ => rfl) (.refl _) trivial
    refine hb_ex _ rfl rfl rfl (fun w1 => g_no rfl rfl rfl rfl rfl hg1 (hl_nil (qe_done rfl))) ?_; refine hb_ex _ rfl rfl rfl (fun w1 => g_no rfl rfl rfl rfl rfl hg1 (hl_nil (qe_done rfl))) ?_; refine hb_wr ⟨Unit, fun _ => True, fun _ => undef, fun _ => [], fun _ => []⟩ rfl rfl rfl ?_ ?_
    ·intro _ _; intro w1; refine g_no rfl rfl rfl rfl rfl hg1 (hl_nil ?_); exact qw_done () trivial (fun _ => rfl) (.refl _) trivial
    refine hb_nil ⟨rfl, ?_⟩; intro _ _ _ _; refine g_no rfl rfl rfl rfl rfl hg1 (g_no rfl rfl rfl rfl rfl hg1 ?_); refine p_f rfl rfl (bf2 hg1) rfl ?_; refine hl_nil (then_n (c_f rfl rfl (hc_skip (inb_n (then_n (hc_region ?_)))))); refine r_add _ rfl rfl rfl rfl (by unfold I64; omega) ?_; refine r_move rfl rfl (hl_nil ?_); exact again _ (k + 1) ⟨by omega, find_succ ht (by rw [if_pos hin])⟩ (by show n - (k + 1) < n - k; omega) ⟨rfl, rfl, rfl, rfl, rfl, rfl, trivial⟩ (.refl _) ⟨mB, mB, mB, mB, (LSub.of_mem fun F hF => by repeat (first | exact hF | apply List.Mem.tail))⟩
  ·have hb2' := hb2; try simp at hb2'
   have hk2 : k = n := by omega
   subst hk2; refine hc_exit (then_exit (then_exit (inb_hit (then_n (hc_seq (hc_region (r_assign rfl rfl (hl_nil (then_n (hc_ret ?_)))))))))); exact ret1 none rfl rfl rfl ht (.refl _) trivial
theorem proof_orders_1_meets {lb : Nat} {rc : Option Code → Loop} {R0 : Hp} {R1 : List Int → OutC → Hp} {LI0 : List Fact} {p : List Int → Bool} {n : Nat} {gn : Nat} (hn : n ≤ 1000) (hY : ∀ (o : List Int) (A : Option Addr) (c : Nat), o.length = n → InR n o → MeetsY Tryz.prog lb [.slice A o.length c] (yCon lb rc R0 R1 LI0 p o A c)) : Meets Tryz.prog F.proof_orders_1 [yieldV lb, ptr gn] (ordCon lb rc R0 R1 LI0 [boxN gn n] (growF n p n []) (fun _ => .tuple #[])) := by
 refine meets_intro F.proof_orders_1_f rfl (Nat.le_of_ble_eq_true rfl) fun w0 => ?_; refine hc_seq (hc_region ?_); refine r_box rfl rfl fun gy => ?_; refine hl_nil (then_n (hc_seq (hc_region ?_))); refine r_alloc rfl (fun _ => T.al_func_L_int_bool _) fun gg => ?_; refine hl_nil (then_n (hc_seq (hc_region (r_makeFunc rfl rfl rfl ?_)))); refine r_store rfl rfl (.refl _) T.sz_func_L_int_bool (by rfl) (by rfl) ?_; refine hl_nil (then_n (hc_letgoB (hc_letgoB (hc_region ?_))))
 first | refine r_load rfl T.cell_func_L_int_bool rfl (cell_own mB rfl) ?_ | refine r_load rfl T.cell_func_L_int_bool rfl (cell_blk mB rfl) ?_ | refine r_load rfl T.cell_func_L_int_bool rfl (cell_row mB (rows_get0 (by omega) rfl)) ?_ | refine r_load rfl T.cell_func_L_int_bool rfl (cell_row_f mB (rows_get (by omega) rfl)) ?_
 refine hl_nilrow (α := Int) ?_; refine hl_callv (vs := [.slice none 0 0]) (cap := [ptr gn, ptr gy, ptr gg]) F.proof_orders_1_1_cb rfl rfl rfl (proof_orders_1_1_meets hn hY n [] none 0 (by simp) (by intro x hx; simp at hx)) (hpR := []) (by rw [List.append_nil]; exact .refl _) ⟨m0, m3, m1, m2, (LSub.of_mem fun F hF => by repeat (first | exact hF | apply List.Mem.tail))⟩ fun y hy => ?_; refine hl_nil ?_; exact ret0n y rfl rfl rfl hy (by rw [List.append_nil]; exact .refl _) (LSub.of_mem fun F hF => List.mem_append_left _ hF)
theorem proof_orders_meets (n : Int) : Meets Tryz.prog F.proof_orders [int n] { val := fun g : Nat => .func (.func F.proof_orders_1) #[] [ptr g].toArray, LO := fun g => [boxN g n] } := by
 refine meets_intro F.proof_orders_f rfl (Nat.le_of_ble_eq_true rfl) fun w0 => ?_; refine hc_seq (hc_region ?_); refine r_box rfl rfl fun gn => ?_; refine r_assign rfl rfl (hl_nil (then_n (hc_seq (hc_region (r_makeFunc rfl rfl rfl (r_assign rfl rfl (hl_nil (then_n (hc_ret (hq_letgoB ?_)))))))))); exact ret1 gn rfl rfl rfl trivial (.refl _) ⟨m0, trivial⟩
def orderOK (l : List Mk) (most : Int) : Int → List Int → Bool
  | _, [] => true
  | n, i :: r => if most < n + growsM (l.getD i.toNat default) then false else orderOK l most (n + growsM (l.getD i.toNat default)) r
def stepsP (p : List Str) (l : List Mk) (most : Int) : List Int × Int :=
  if ¬ checkErr p l = 0 then ([], checkErr p l) else if 5 < l.length then ([], 6) else if most < 0 then ([], 1) else if most < p.length then ([], 12)
  else ((growF l.length (orderOK l most p.length) l.length []).getD [], if (growF l.length (orderOK l most p.length) l.length []).isSome then 0 else 11)
theorem order_drop {l : List Mk} {most m : Int} {o : List Int} {k : Nat} (hk : k < o.length) : orderOK l most m (o.drop k) = if most < m + growsM (l.getD (o.getD k default).toNat default) then false else orderOK l most (m + growsM (l.getD (o.getD k default).toNat default)) (o.drop (k + 1)) := by
  rw [List.drop_eq_getElem_cons hk, orderOK, getD_at hk]
def cellI (g : Nat) (v : Value) : Nat × Obj := (g, .cells #[v] T.ints (0, 0))
def cellE (g : Nat) (e : Int) : Nat × Obj := (g, .cells #[int e] T.api_Errno (0, 0))
theorem proof_Steps_meets {A B : Option Addr} {ca cb : Nat} (p : List Str) (l : List Mk) (most : Int) : Meets Tryz.prog F.proof_Steps [.slice A p.length ca, .slice B l.length cb, int most] { outE (stepsP p l most) with LI := [Row A (rows p), Row B (rows l)] } := by
 refine meetsM_intro F.proof_Steps_f rfl (Nat.le_of_ble_eq_true rfl) fun w0 => ?_; refine hc_seq (hc_region ?_); refine r_box rfl rfl fun g3 => ?_; refine r_box rfl rfl fun g4 => ?_; refine r_box rfl rfl fun g5 => ?_; refine r_alloc rfl (fun _ => T.al_ints _) fun g6 => ?_; refine r_alloc rfl (fun _ => T.al_api_Errno _) fun g7 => ?_; refine hl_nil (then_n (hc_scope (hc_seq (hc_seq ?_)))); refine hc_perm (List.reverse_perm _).symm ?_; refine hc_letgoB (hc_letgoB (hc_letgoB (hc_region ?_)))
 first | refine r_load rfl T.cell_strs rfl (cell_own mB rfl) ?_ | refine r_load rfl T.cell_strs rfl (cell_blk mB rfl) ?_ | refine r_load rfl T.cell_strs rfl (cell_row mB (rows_get0 (by omega) rfl)) ?_ | refine r_load rfl T.cell_strs rfl (cell_row_f mB (rows_get (by omega) rfl)) ?_
 first | refine r_load rfl T.cell_L_api_Mark rfl (cell_own mB rfl) ?_ | refine r_load rfl T.cell_L_api_Mark rfl (cell_blk mB rfl) ?_ | refine r_load rfl T.cell_L_api_Mark rfl (cell_row mB (rows_get0 (by omega) rfl)) ?_ | refine r_load rfl T.cell_L_api_Mark rfl (cell_row_f mB (rows_get (by omega) rfl)) ?_
 refine hl_call F.proof_checked_cb rfl rfl (proof_checked_meets p l) (List.Perm.refl _) ⟨m3, m4, trivial⟩ fun _ _ => ?_; refine r_assign rfl rfl (hl_nil (then_n (hc_seq (hc_region (r_move rfl rfl (r_neq rfl rfl rfl (hl_nil (then_n ?_))))))))
 first | refine c_dec rfl (fun hb1 => ?_) (fun hb1 => ?_) | refine hc_cond rfl (fun hb1 => ?_) (fun hb1 => ?_)
 ·have hb1' := hb1; try simp at hb1'
  have e : stepsP p l most = ([], checkErr p l) := by rw [stepsP, if_pos hb1]
  rw [e]; refine hc_seq (hc_region (r_move rfl rfl ?_)); refine r_store rfl rfl (by first | exact .refl _ | exact perm2 _ _ _ | exact perm3 _ _ _ _ | exact perm4 _ _ _ _ _) T.sz_ints (by rfl) (by rfl) ?_; refine r_store rfl rfl (by first | exact .refl _ | exact perm2 _ _ _ | exact perm3 _ _ _ _ | exact perm4 _ _ _ _ _) T.sz_api_Errno (by rfl) (by rfl) ?_; refine hl_nil (then_n (hc_ret (then_ret (ng_ret ?_)))); refine hq_nilrow (α := Int) ?_; exact ret_marks [] (none, 0) rfl (.refl _) (res_cells2 rfl rfl rfl T.cell_ints T.cell_api_Errno (cell_own mB rfl) (cell_own mB rfl)) rfl trivial (List.nil_sublist _) ⟨m0, trivial⟩
 ·have hb1' := hb1; try simp at hb1'
  obtain ⟨hp6, hl12, hV⟩ := checkErr_zero (Classical.not_not.1 hb1); refine hc_skip (then_n (hc_seq (hc_block (hc_seq (hc_region ?_)))))
  first | refine r_load rfl T.cell_L_api_Mark rfl (cell_own mB rfl) ?_ | refine r_load rfl T.cell_L_api_Mark rfl (cell_blk mB rfl) ?_ | refine r_load rfl T.cell_L_api_Mark rfl (cell_row mB (rows_get0 (by omega) rfl)) ?_ | refine r_load rfl T.cell_L_api_Mark rfl (cell_row_f mB (rows_get (by omega) rfl)) ?_
  refine r_len_sl rfl T.u_L_api_Mark rfl ?_; refine r_gtr rfl rfl rfl (r_assign rfl rfl (hl_nil (then_n ?_)))
  first | refine c_dec rfl (fun hb2 => ?_) (fun hb2 => ?_) | refine hc_cond rfl (fun hb2 => ?_) (fun hb2 => ?_)
  ·have hb2' := hb2; try simp at hb2'
   have e : stepsP p l most = ([], 6) := by rw [stepsP, if_neg hb1, if_pos (by omega)]
   rw [e]; refine hc_seq (hc_region ?_); refine r_store rfl rfl (by first | exact .refl _ | exact perm2 _ _ _ | exact perm3 _ _ _ _ | exact perm4 _ _ _ _ _) T.sz_ints (by rfl) (by rfl) ?_; refine r_store rfl rfl (by first | exact .refl _ | exact perm2 _ _ _ | exact perm3 _ _ _ _ | exact perm4 _ _ _ _ _) T.sz_api_Errno (by rfl) (by rfl) ?_; refine hl_nil (then_n (hc_ret (inb_ret (then_ret (ng_ret ?_))))); refine hq_nilrow (α := Int) ?_; exact ret_marks [] (none, 0) rfl (.refl _) (res_cells2 rfl rfl rfl T.cell_ints T.cell_api_Errno (cell_own mB rfl) (cell_own mB rfl)) rfl trivial (List.nil_sublist _) ⟨m0, trivial⟩
  ·have hb2' := hb2; try simp at hb2'
   have hb2 : ¬ 5 < l.length := by omega
   refine hc_seq (hc_region ?_)
   first | refine r_load rfl T.cell_int rfl (cell_own mB rfl) ?_ | refine r_load rfl T.cell_int rfl (cell_blk mB rfl) ?_ | refine r_load rfl T.cell_int rfl (cell_row mB (rows_get0 (by omega) rfl)) ?_ | refine r_load rfl T.cell_int rfl (cell_row_f mB (rows_get (by omega) rfl)) ?_
   refine r_lss rfl rfl rfl (r_assign rfl rfl (hl_nil (then_n ?_)))
   first | refine c_dec rfl (fun hb3 => ?_) (fun hb3 => ?_) | refine hc_cond rfl (fun hb3 => ?_) (fun hb3 => ?_)
   ·have hb3' := hb3; try simp at hb3'
    have e : stepsP p l most = ([], 1) := by rw [stepsP, if_neg hb1, if_neg hb2, if_pos hb3]
    rw [e]; refine hc_seq (hc_region ?_); refine r_store rfl rfl (by first | exact .refl _ | exact perm2 _ _ _ | exact perm3 _ _ _ _ | exact perm4 _ _ _ _ _) T.sz_ints (by rfl) (by rfl) ?_; refine r_store rfl rfl (by first | exact .refl _ | exact perm2 _ _ _ | exact perm3 _ _ _ _ | exact perm4 _ _ _ _ _) T.sz_api_Errno (by rfl) (by rfl) ?_; refine hl_nil (then_n (hc_ret (inb_ret (then_ret (ng_ret ?_))))); refine hq_nilrow (α := Int) ?_; exact ret_marks [] (none, 0) rfl (.refl _) (res_cells2 rfl rfl rfl T.cell_ints T.cell_api_Errno (cell_own mB rfl) (cell_own mB rfl)) rfl trivial (List.nil_sublist _) ⟨m0, trivial⟩
   ·have hb3' := hb3; try simp at hb3'
    refine hc_seq (hc_region ?_)
    first | refine r_load rfl T.cell_strs rfl (cell_own mB rfl) ?_ | refine r_load rfl T.cell_strs rfl (cell_blk mB rfl) ?_ | refine r_load rfl T.cell_strs rfl (cell_row mB (rows_get0 (by omega) rfl)) ?_ | refine r_load rfl T.cell_strs rfl (cell_row_f mB (rows_get (by omega) rfl)) ?_
    refine r_len_sl rfl T.u_strs rfl ?_
    first | refine r_load rfl T.cell_int rfl (cell_own mB rfl) ?_ | refine r_load rfl T.cell_int rfl (cell_blk mB rfl) ?_ | refine r_load rfl T.cell_int rfl (cell_row mB (rows_get0 (by omega) rfl)) ?_ | refine r_load rfl T.cell_int rfl (cell_row_f mB (rows_get (by omega) rfl)) ?_
    refine r_gtr rfl rfl rfl (r_assign rfl rfl (hl_nil (then_n ?_)))
    first | refine c_dec rfl (fun hb4 => ?_) (fun hb4 => ?_) | refine hc_cond rfl (fun hb4 => ?_) (fun hb4 => ?_)
    ·have hb4' := hb4; try simp at hb4'
     have e : stepsP p l most = ([], 12) := by rw [stepsP, if_neg hb1, if_neg hb2, if_neg hb3, if_pos hb4]
     rw [e]; refine hc_seq (hc_region ?_); refine r_store rfl rfl (by first | exact .refl _ | exact perm2 _ _ _ | exact perm3 _ _ _ _ | exact perm4 _ _ _ _ _) T.sz_ints (by rfl) (by rfl) ?_; refine r_store rfl rfl (by first | exact .refl _ | exact perm2 _ _ _ | exact perm3 _ _ _ _ | exact perm4 _ _ _ _ _) T.sz_api_Errno (by rfl) (by rfl) ?_; refine hl_nil (then_n (hc_ret (inb_ret (then_ret (ng_ret ?_))))); refine hq_nilrow (α := Int) ?_; exact ret_marks [] (none, 0) rfl (.refl _) (res_cells2 rfl rfl rfl T.cell_ints T.cell_api_Errno (cell_own mB rfl) (cell_own mB rfl)) rfl trivial (List.nil_sublist _) ⟨m0, trivial⟩
    ·have hb4' := hb4; try simp at hb4'
     have e : stepsP p l most = ((growF l.length (orderOK l most p.length) l.length []).getD [], if (growF l.length (orderOK l most p.length) l.length []).isSome then 0 else 11) := by rw [stepsP, if_neg hb1, if_neg hb2, if_neg hb3, if_neg hb4]
     rw [e]; refine hc_skip (inb_n (then_n (hc_seq (hc_label (then_n (hc_seq (hc_seq (hc_region ?_))))))))
     first | refine r_load rfl T.cell_L_api_Mark rfl (cell_own mB rfl) ?_ | refine r_load rfl T.cell_L_api_Mark rfl (cell_blk mB rfl) ?_ | refine r_load rfl T.cell_L_api_Mark rfl (cell_row mB (rows_get0 (by omega) rfl)) ?_ | refine r_load rfl T.cell_L_api_Mark rfl (cell_row_f mB (rows_get (by omega) rfl)) ?_
     refine r_len_sl rfl T.u_L_api_Mark rfl ?_; refine hl_call F.proof_orders_cb rfl rfl (proof_orders_meets l.length) (List.Perm.refl _) trivial fun gn _ => ?_; refine hl_nil (then_n (hc_block ?_)); refine hc_rangeFunc (β := OrdO) (cap := [ptr gn]) (hpR := []) [cellI g6 (.slice none 0 0), cellE g7 0] ([boxN gn l.length] ++ [Row A (rows p), Row B (rows l), Blk g3 (.cells #[.slice A p.length ca] T.strs (0, 0)), Blk g4 (.cells #[.slice B l.length cb] T.L_api_Mark (0, 0)), Blk g5 (.cells #[int most] T.int (0, 0))]) (fun x => growF l.length (orderOK l most p.length) l.length [] = x.map (·.1)) (fun _ => .tuple #[]) ordJ (ordR [cellI g6 (.slice none 0 0), cellE g7 0] (fun o out => [cellI g6 (.slice out.1 o.length out.2), cellE g7 0])) ordL rfl F.proof_orders_1_cb (.refl _) ⟨m0, m4, m5, m3, m2, m1, trivial⟩ ?_ ?_ ?_
     ·intro lb d fn tmps hsz hfr; refine proof_orders_1_meets (lb := lb) (rc := recL fn tmps #[34] _ _ d) (R0 := [cellI g6 (.slice none 0 0), cellE g7 0]) (R1 := (fun o out => [cellI g6 (.slice out.1 o.length out.2), cellE g7 0])) (LI0 := [Row A (rows p), Row B (rows l), Blk g3 (.cells #[.slice A p.length ca] T.strs (0, 0)), Blk g4 (.cells #[.slice B l.length cb] T.L_api_Mark (0, 0)), Blk g5 (.cells #[int most] T.int (0, 0))]) (p := (orderOK l most p.length)) (n := l.length) (by omega) (fun o A2 c2 hlo hio => ?_); refine meetsY_intro m0 hsz hfr rfl (by intro t ht; simp at ht; subst ht; exact Nat.lt_of_lt_of_le (show 34 < 61 by decide) (Nat.le_refl _)) fun w => ?_; refine hc_regionR rfl (r_assign rfl rfl (hl_nil ?_)); refine then_begin (.refl _) ?_; refine hc_block (hc_seq (hc_regionR rfl ?_))
      first | refine r_load rfl T.cell_strs rfl (cell_own mB rfl) ?_ | refine r_load rfl T.cell_strs rfl (cell_blk mB rfl) ?_ | refine r_load rfl T.cell_strs rfl (cell_row mB (rows_get0 (by omega) rfl)) ?_ | refine r_load rfl T.cell_strs rfl (cell_row_f mB (rows_get (by omega) rfl)) ?_
      refine r_len_sl rfl T.u_strs rfl ?_; refine r_assign rfl rfl (hl_nil (then_n (hc_seq (hc_seq (hc_regionR rfl (r_move rfl rfl ?_)))))); refine r_len_sl rfl T.u_ints rfl ?_; refine r_move rfl rfl (hl_nil (then_n (hc_block ?_))); refine hc_loop (β := Nat × Int) ⟨fun ⟨k, m⟩ => k ≤ o.length ∧ orderOK l most p.length o = orderOK l most m (o.drop k) ∧ -(k : Int) ≤ m ∧ m ≤ 6 + k, fun ⟨k, m⟩ => [(3, ptr g3), (4, ptr g4), (5, ptr g5), (6, ptr g6), (7, ptr g7), (9, .slice A2 o.length c2), (10, int m), (37, .slice A2 o.length c2), (38, int o.length), (39, int k)], fun _ => (lb, .loop (recB fn tmps #[34] _ _ d)) :: [cellI g6 (.slice none 0 0), cellE g7 0], fun _ => [Row A2 (rows o), Row A (rows p), Row B (rows l), Blk g3 (.cells #[.slice A p.length ca] T.strs (0, 0)), Blk g4 (.cells #[.slice B l.length cb] T.L_api_Mark (0, 0)), Blk g5 (.cells #[int most] T.int (0, 0))]⟩ (fun x => o.length - x.1) (0, (p.length : Int)) ⟨Nat.zero_le _, rfl, by omega, by omega⟩ ⟨rfl, rfl, rfl, rfl, rfl, rfl, rfl, rfl, rfl, rfl, trivial⟩ (.refl _) ⟨m0, m1, m2, m3, m4, m5, trivial⟩ fun x hx => ?_; obtain ⟨k, m⟩ := x; obtain ⟨hk, hq, hm1, hm2⟩ := hx; refine hc_seq (hc_regionR rfl (r_lss rfl rfl rfl (hl_nil (then_n (hc_seq ?_)))))
      first | refine c_dec rfl (fun hb5 => ?_) (fun hb5 => ?_) | refine hc_cond rfl (fun hb5 => ?_) (fun hb5 => ?_)
      ·have hb5' := hb5; try simp at hb5'
       have hk2 : k < o.length := by omega
       have hio2 := hio _ (getD_mem hk2); have e2 : m + -1 = m - 1 := rfl; refine hc_skip (then_n (hc_seq (hc_block (hc_seq (hc_regionR rfl ?_))))); refine r_elem (α := Int) _ _ rfl T.u_ints T.sz_int rfl rfl rfl mB rfl (by omega) (by decide) ?_; refine r_load rfl T.cell_int rfl (cell_row mB (rows_get0 (by omega) rfl)) ?_; refine r_assign rfl rfl (hl_nil (then_n (hc_seq (hc_seq (hc_regionR rfl ?_)))))
       first | refine r_load rfl T.cell_L_api_Mark rfl (cell_own mB rfl) ?_ | refine r_load rfl T.cell_L_api_Mark rfl (cell_blk mB rfl) ?_ | refine r_load rfl T.cell_L_api_Mark rfl (cell_row mB (rows_get0 (by omega) rfl)) ?_ | refine r_load rfl T.cell_L_api_Mark rfl (cell_row_f mB (rows_get (by omega) rfl)) ?_
       refine r_move rfl rfl ?_; refine r_elem (α := Mk) l (o.getD k default).toNat rfl T.u_L_api_Mark T.sz_api_Mark rfl rfl (by omega) m2 rfl (by omega) (by decide) ?_
       first | refine r_fieldAddr ⟨_, 0, none⟩ rfl rfl T.fa_api_Mark_0 rfl ?_ | refine r_fieldAddr _ rfl rfl T.fa_api_Mark_0 rfl ?_
       refine r_load rfl T.cell_int rfl (cell_row mB (rows_get0 (by omega) rfl)) ?_; refine hl_nil (then_n (hc_block (hc_seq (hc_regionR rfl (r_eql rfl rfl rfl (r_assign rfl rfl (hl_nil (then_n ?_))))))))
       first | refine c_dec rfl (fun hb6 => ?_) (fun hb6 => ?_) | refine hc_cond rfl (fun hb6 => ?_) (fun hb6 => ?_)
       ·have hb6' := hb6; try simp at hb6'
        have hgr : growsM (l.getD (o.getD k default).toNat default) = 1 := by rw [growsM, if_pos hb6]
        refine hc_regionR rfl (r_move rfl rfl ?_); refine r_add _ rfl rfl rfl rfl (by unfold I64; omega) ?_; refine r_assign rfl rfl (hl_nil (inb_n (then_n (hc_seq (hc_regionR rfl (r_move rfl rfl ?_))))))
        first | refine r_load rfl T.cell_int rfl (cell_own mB rfl) ?_ | refine r_load rfl T.cell_int rfl (cell_blk mB rfl) ?_ | refine r_load rfl T.cell_int rfl (cell_row mB (rows_get0 (by omega) rfl)) ?_ | refine r_load rfl T.cell_int rfl (cell_row_f mB (rows_get (by omega) rfl)) ?_
        refine r_gtr rfl rfl rfl (hl_nil (then_n ?_))
        first | refine c_dec rfl (fun hb8 => ?_) (fun hb8 => ?_) | refine hc_cond rfl (fun hb8 => ?_) (fun hb8 => ?_)
        ·have hb8' := hb8; try simp at hb8'
         refine hc_exit (inb_miss rfl (then_exit (then_exit (inb_miss rfl (then_exit (inb_hit ?_)))))); have hf : orderOK l most p.length o = false := by rw [hq, order_drop hk2, hgr, if_pos hb8]
         exact rp_n () (.refl _) rfl (by show Value.bool (!(orderOK l most p.length o)) = _; rw [hf]; rfl) trivial (by show List.Sublist (if orderOK l most p.length o = true then _ else _) _; rw [if_neg (by rw [hf]; decide)]; exact .refl _) trivial
        ·have hb8' := hb8; try simp at hb8'
         refine hc_skip (inb_n (then_n (hc_regionR rfl ?_))); refine r_add _ rfl rfl rfl rfl (by unfold I64; omega) ?_; refine r_move rfl rfl (hl_nil ?_); exact again _ (k + 1, m + 1) ⟨by omega, by rw [hq, order_drop hk2]; rw [hgr, if_neg hb8], by omega, by omega⟩ (by show o.length - (k + 1) < o.length - k; omega) ⟨rfl, rfl, rfl, rfl, rfl, rfl, rfl, rfl, rfl, rfl, trivial⟩ (.refl _) ⟨m0, m1, m2, m3, m4, m5, trivial⟩
       ·have hb6' := hb6; try simp at hb6'
        refine hc_seq (hc_regionR rfl (r_eql rfl rfl rfl (r_assign rfl rfl (hl_nil (then_n ?_)))))
        first | refine c_dec rfl (fun hb7 => ?_) (fun hb7 => ?_) | refine hc_cond rfl (fun hb7 => ?_) (fun hb7 => ?_)
        ·have hb7' := hb7; try simp at hb7'
         have hgr : growsM (l.getD (o.getD k default).toNat default) = -1 := by rw [growsM, if_neg hb6, if_pos hb7]
         refine hc_regionR rfl (r_move rfl rfl ?_); refine r_sub _ rfl rfl rfl rfl (by unfold I64; omega) ?_; refine r_assign rfl rfl (hl_nil (inb_n (then_n (hc_seq (hc_regionR rfl (r_move rfl rfl ?_))))))
         first | refine r_load rfl T.cell_int rfl (cell_own mB rfl) ?_ | refine r_load rfl T.cell_int rfl (cell_blk mB rfl) ?_ | refine r_load rfl T.cell_int rfl (cell_row mB (rows_get0 (by omega) rfl)) ?_ | refine r_load rfl T.cell_int rfl (cell_row_f mB (rows_get (by omega) rfl)) ?_
         refine r_gtr rfl rfl rfl (hl_nil (then_n ?_))
         first | refine c_dec rfl (fun hb8 => ?_) (fun hb8 => ?_) | refine hc_cond rfl (fun hb8 => ?_) (fun hb8 => ?_)
         ·have hb8' := hb8; try simp at hb8'
          refine hc_exit (inb_miss rfl (then_exit (then_exit (inb_miss rfl (then_exit (inb_hit ?_)))))); have hf : orderOK l most p.length o = false := by rw [hq, order_drop hk2, hgr, e2, if_pos hb8]
          exact rp_n () (.refl _) rfl (by show Value.bool (!(orderOK l most p.length o)) = _; rw [hf]; rfl) trivial (by show List.Sublist (if orderOK l most p.length o = true then _ else _) _; rw [if_neg (by rw [hf]; decide)]; exact .refl _) trivial
         ·have hb8' := hb8; try simp at hb8'
          refine hc_skip (inb_n (then_n (hc_regionR rfl ?_))); refine r_add _ rfl rfl rfl rfl (by unfold I64; omega) ?_; refine r_move rfl rfl (hl_nil ?_); exact again _ (k + 1, m - 1) ⟨by omega, by rw [hq, order_drop hk2]; rw [hgr, e2, if_neg hb8], by omega, by omega⟩ (by show o.length - (k + 1) < o.length - k; omega) ⟨rfl, rfl, rfl, rfl, rfl, rfl, rfl, rfl, rfl, rfl, trivial⟩ (.refl _) ⟨m0, m1, m2, m3, m4, m5, trivial⟩
        ·have hb7' := hb7; try simp at hb7'
         have hgr : growsM (l.getD (o.getD k default).toNat default) = 0 := by rw [growsM, if_neg hb6, if_neg hb7]
         refine hc_skip (inb_n (then_n (hc_seq (hc_regionR rfl (r_move rfl rfl ?_)))))
         first | refine r_load rfl T.cell_int rfl (cell_own mB rfl) ?_ | refine r_load rfl T.cell_int rfl (cell_blk mB rfl) ?_ | refine r_load rfl T.cell_int rfl (cell_row mB (rows_get0 (by omega) rfl)) ?_ | refine r_load rfl T.cell_int rfl (cell_row_f mB (rows_get (by omega) rfl)) ?_
         refine r_gtr rfl rfl rfl (hl_nil (then_n ?_))
         first | refine c_dec rfl (fun hb8 => ?_) (fun hb8 => ?_) | refine hc_cond rfl (fun hb8 => ?_) (fun hb8 => ?_)
         ·have hb8' := hb8; try simp at hb8'
          refine hc_exit (inb_miss rfl (then_exit (then_exit (inb_miss rfl (then_exit (inb_hit ?_)))))); have hf : orderOK l most p.length o = false := by rw [hq, order_drop hk2, hgr, Int.add_zero, if_pos hb8]
          exact rp_n () (.refl _) rfl (by show Value.bool (!(orderOK l most p.length o)) = _; rw [hf]; rfl) trivial (by show List.Sublist (if orderOK l most p.length o = true then _ else _) _; rw [if_neg (by rw [hf]; decide)]; exact .refl _) trivial
         ·have hb8' := hb8; try simp at hb8'
          refine hc_skip (inb_n (then_n (hc_regionR rfl ?_))); refine r_add _ rfl rfl rfl rfl (by unfold I64; omega) ?_; refine r_move rfl rfl (hl_nil ?_); exact again _ (k + 1, m) ⟨by omega, by rw [hq, order_drop hk2]; rw [hgr, Int.add_zero, if_neg hb8], by omega, by omega⟩ (by show o.length - (k + 1) < o.length - k; omega) ⟨rfl, rfl, rfl, rfl, rfl, rfl, rfl, rfl, rfl, rfl, trivial⟩ (.refl _) ⟨m0, m1, m2, m3, m4, m5, trivial⟩
      ·have hb5' := hb5; try simp at hb5'
       have hk2 : k = o.length := by omega
       refine hc_exit (then_exit (then_exit (inb_hit (then_n (hc_seq (hc_regionR rfl (r_move rfl rfl ?_))))))); refine r_store rfl rfl (by first | exact .refl _ | exact perm2 _ _ _ | exact perm3 _ _ _ _ | exact perm4 _ _ _ _ _) T.sz_ints (by rfl) (by rfl) ?_; refine r_store rfl rfl (by first | exact .refl _ | exact perm2 _ _ _ | exact perm3 _ _ _ _ | exact perm4 _ _ _ _ _) T.sz_api_Errno (by rfl) (by rfl) ?_; refine hl_nil (then_n (hc_ret (inb_ret ?_))); have ht : orderOK l most p.length o = true := by rw [hq, hk2, List.drop_length]; rfl
       refine rp_ret (hp' := [cellI g6 (.slice A2 o.length c2), cellE g7 0]) () (List.reverse_perm _).symm rfl (by show Value.bool (!(orderOK l most p.length o)) = _; rw [ht]; rfl) trivial (by show List.Sublist (if orderOK l most p.length o = true then _ else _) _; rw [if_pos ht]; exact .refl _) trivial
     ·intro x d hx hp; obtain rfl : x = none := by cases x with | none => rfl | some y => cases hp
      refine inb_n (then_n (hc_seq (hc_region ?_))); refine r_store rfl rfl (by first | exact .refl _ | exact perm2 _ _ _ | exact perm3 _ _ _ _ | exact perm4 _ _ _ _ _) T.sz_ints (by rfl) (by rfl) ?_; refine r_store rfl rfl (by first | exact .refl _ | exact perm2 _ _ _ | exact perm3 _ _ _ _ | exact perm4 _ _ _ _ _) T.sz_api_Errno (by rfl) (by rfl) ?_; refine hl_nil (then_n (hc_ret (ng_ret ?_))); have hx : growF l.length (orderOK l most p.length) l.length [] = none := hx; rw [hx]; refine hq_nilrow (α := Int) ?_; exact ret_marks [d] (none, 0) rfl (List.reverse_perm _).symm (res_cells2 rfl rfl rfl T.cell_ints T.cell_api_Errno (cell_own mB rfl) (cell_own mB rfl)) rfl trivial (List.nil_sublist _) ⟨m0, trivial⟩
     ·intro x d j hx hp; obtain ⟨y, rfl⟩ : ∃ y, x = some y := by cases x with | none => cases hp | some y => exact ⟨y, rfl⟩
      cases hp
      refine hc_ret (inb_ret (then_ret (ng_ret ?_))); have hx : growF l.length (orderOK l most p.length) l.length [] = some y.1 := hx; rw [hx]; exact ret_marks [d] y.2 rfl (.refl _) (res_cells2 rfl rfl rfl T.cell_ints T.cell_api_Errno (cell_own mB rfl) (cell_own mB rfl)) rfl trivial (List.nil_sublist _) ⟨m0, trivial⟩
def stepsF (l : List Mk) (most : Int) : Nat → List Int → Int → Option (List Int)
  | 0, done, _ => some done
  | d + 1, done, lines => (List.range l.length).findSome? fun i : Nat => if (i : Int) ∈ done ∨ most < lines + growsM (l.getD i default) then none else stepsF l most d (done ++ [(i : Int)]) (lines + growsM (l.getD i default))
def outB (r : Option (List Int)) : Con OutC := { val := fun x => .tuple #[.slice x.1 (r.getD []).length x.2, .bool r.isSome], LO := fun x => [Row x.1 (rows (r.getD []))] }
def stepsR (p : List Str) (l : List Mk) (most : Int) : List Int × Int :=
  if ¬ checkErr p l = 0 then ([], checkErr p l) else if 5 < l.length then ([], 6) else if most < 0 then ([], 1) else if most < p.length then ([], 12)
  else if (stepsF l most l.length [] p.length).isSome then ((stepsF l most l.length [] p.length).getD [], 0) else ([], 11)
end Go.Proofs.YtpbbgbjidhffoaaGreat
end
