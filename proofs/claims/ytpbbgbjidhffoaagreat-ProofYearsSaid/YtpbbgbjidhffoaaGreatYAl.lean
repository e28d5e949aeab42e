/- Texts of this claim, one behind another. -/
import Derived.ProofKit
import Derived.OpenShut
import Derived.ShutString
import Derived.ChangeOld
import Derived.Below
import Derived.SliceStrings
import Derived.ChangeSlices
import Derived.Deep.Slices
import Derived.Deep.Strs
import Derived.Test.YtpbbgbjidhffoaaGreatYAj
import Derived.Test.YtpbbgbjidhffoaaGreatYAk
import Derived.Test.YtpbbgbjidhffoaaGreatYAi
set_option linter.unusedVariables false
set_option linter.unusedSimpArgs false
section
namespace Go.Proofs.YtpbbgbjidhffoaaGreat
open Go Go.W
set_option maxRecDepth 20000
attribute [local irreducible] HL HC HQ HB Row Rows2 Blk Facts
theorem count_pos {l : List Str} {s : Str} : 0 < countN l s ↔ s ∈ l := by
  unfold countN; rw [List.length_pos_iff_exists_mem]
  simp
def frK (f : Str → Nat) (p : List Str) : Nat → Nat
  | 0 => 0
  | k + 1 => frK f p k + (if f (p.getD k default) ≤ countN (p.take k) (p.getD k default) then 1 else 0)
theorem frK_le (f : Str → Nat) (p : List Str) : ∀ k, frK f p k ≤ k
  | 0 => Nat.le_refl _
  | k + 1 => by
    have := frK_le f p k; rw [frK]
    split <;> omega
theorem fr_all (f : Str → Nat) (p : List Str) : ∀ k, k ≤ p.length → freshN f p = frK f p k + freshN (fun x => f x - countN (p.take k) x) (p.drop k)
  | 0, _ => by
    rw [frK, Nat.zero_add, List.drop_zero]; exact fresh_congr (fun s => (Nat.sub_zero _).symm) p
  | k + 1, hk => by
    have ih := fr_all f p k (by omega); have hk2 : k < p.length := by omega
    rw [fresh_drop hk2] at ih; rw [ih, frK]
    by_cases h : f (p.getD k default) ≤ countN (p.take k) (p.getD k default)
    · rw [if_pos (by omega), if_pos h, Nat.add_assoc]
      congr 2
      refine fresh_congr (fun x => ?_) _; show f x - countN (p.take k) x = f x - countN (p.take (k + 1)) x; rw [countN_take hk2]
      by_cases e : p.getD k default = x
      · rw [if_pos e, ← e]; omega
      · rw [if_neg e]; omega
    · rw [if_neg (by omega), if_neg h, Nat.add_zero]
      congr 1
      refine fresh_congr (fun x => ?_) _; show updF (fun x => f x - countN (p.take k) x) (p.getD k default) (f (p.getD k default) - countN (p.take k) (p.getD k default) - 1) x = f x - countN (p.take (k + 1)) x; unfold updF; rw [countN_take hk2]
      by_cases e : x = p.getD k default
      · rw [if_pos e, if_pos e.symm, e]; omega
      · rw [if_neg e, if_neg (fun e2 => e e2.symm)]
        show f x - countN (p.take k) x = _
        omega
theorem fr_end (f : Str → Nat) (p : List Str) : freshN f p = frK f p p.length := by
  rw [fr_all f p p.length (Nat.le_refl _), List.drop_length]; rfl
structure Ins (ps : List (Sl Str)) (sn : Str → Prop) (ts : List Ty) : Prop where
  asc : ts.Pairwise fun a b => a.1 < b.1
  mem : ∀ s n, (s, n) ∈ ts ↔ sn s ∧ n = (stockN ps s : Int)
def seenY (ps : List (Sl Str)) (k i : Nat) (s : Str) : Prop := (∃ j, j < k ∧ s ∈ (ps.getD j default).l) ∨ s ∈ (ps.getD k default).l.take i
theorem ins_nil (ps : List (Sl Str)) : Ins ps (seenY ps 0 0) [] := ⟨.nil, fun s n => by
  constructor
  · intro h; cases h
  · rintro ⟨⟨j, h, _⟩ | h, _⟩
    · omega
    · simp at h⟩
theorem Ins.congr {ps : List (Sl Str)} {sn sn' : Str → Prop} {ts : List Ty} (h : Ins ps sn ts) (e : ∀ s, sn s ↔ sn' s) : Ins ps sn' ts := ⟨h.asc, fun s n => by rw [h.mem, e]⟩
theorem seen_row9 {ps : List (Sl Str)} {k : Nat} (s : Str) : seenY ps k (ps.getD k default).l.length s ↔ seenY ps (k + 1) 0 s := by
  unfold seenY; rw [List.take_length, List.take_zero]
  constructor
  · rintro (⟨j, h, h2⟩ | h)
    · exact .inl ⟨j, by omega, h2⟩
    · exact .inl ⟨k, by omega, h⟩
  · rintro (⟨j, h, h2⟩ | h)
    · by_cases e : j = k
      · subst e; exact .inr h2
      · exact .inl ⟨j, by omega, h2⟩
    · cases h
theorem seen_one9 {ps : List (Sl Str)} {k i : Nat} (hi : i < (ps.getD k default).l.length) (s : Str) : (seenY ps k i s ∨ s = (ps.getD k default).l.getD i default) ↔ seenY ps k (i + 1) s := by
  unfold seenY; rw [take_succ_getD _ i hi, List.mem_append, List.mem_singleton, or_assoc]
theorem ins_end {ps : List (Sl Str)} {ts : List Ty} (h : Ins ps (seenY ps ps.length 0) ts) : StockIs ps ts := ⟨h.asc, fun s n => by
  rw [h.mem, stock_pos]; unfold seenY; rw [List.take_zero]
  constructor
  · rintro ⟨⟨j, h1, h2⟩ | h1, h3⟩
    · exact ⟨⟨_, getD_mem h1, h2⟩, h3⟩
    · cases h1
  · rintro ⟨⟨q, h1, h2⟩, h3⟩
    obtain ⟨j, hj, e⟩ := List.getElem_of_mem h1
    exact ⟨.inl ⟨j, hj, by rw [getD_at hj, e]; exact h2⟩, h3⟩⟩
theorem Ins.old {ps : List (Sl Str)} {sn : Str → Prop} {ts : List Ty} (h : Ins ps sn ts) {s : Str} (hs : s ∈ ts.map (·.1)) : Ins ps (fun x => sn x ∨ x = s) ts := by
  obtain ⟨q, hq, e⟩ := List.mem_map.1 hs; have h1 := ((h.mem q.1 q.2).1 hq).1; refine h.congr fun x => ⟨.inl, fun h2 => h2.elim id fun e2 => ?_⟩; rw [e2, ← e]; exact h1
theorem Ins.new {ps : List (Sl Str)} {sn : Str → Prop} {ts : List Ty} (h : Ins ps sn ts) {s : Str} {j : Nat} (hlo : ∀ q, q < j → q < ts.length → (ts.getD q default).1 < s) (hhi : ∀ q, j ≤ q → q < ts.length → s < (ts.getD q default).1) :
    Ins ps (fun x => sn x ∨ x = s) (ts.take j ++ [(s, (stockN ps s : Int))] ++ ts.drop j) := by
  have l1 : ∀ a ∈ ts.take j, a.1 < s := fun a ha => by
    obtain ⟨q, hq, e⟩ := List.getElem_of_mem ha; rw [List.length_take] at hq; have := hlo q (by omega) (by omega); rw [getD_at (show q < ts.length by omega)] at this; rw [List.getElem_take] at e
    rwa [e] at this
  have l2 : ∀ b ∈ ts.drop j, s < b.1 := fun b hb => by
    obtain ⟨q, hq, e⟩ := List.getElem_of_mem hb; rw [List.length_drop] at hq; have := hhi (j + q) (by omega) (by omega); rw [getD_at (show j + q < ts.length by omega)] at this; rw [List.getElem_drop] at e
    rwa [e] at this
  refine ⟨?_, fun x n => ?_⟩
  · rw [List.append_assoc, List.pairwise_append]
    refine ⟨h.asc.sublist (List.take_sublist ..), ?_, fun a ha b hb => ?_⟩
    · rw [List.singleton_append, List.pairwise_cons]
      exact ⟨fun b hb => l2 b hb, h.asc.sublist (List.drop_sublist ..)⟩
    · rw [List.singleton_append] at hb
      rcases List.mem_cons.1 hb with e | hb
      · rw [e]; exact l1 a ha
      · exact List.lt_trans (l1 a ha) (l2 b hb)
  · have e : (x, n) ∈ ts.take j ++ [(s, (stockN ps s : Int))] ++ ts.drop j ↔ (x, n) ∈ ts ∨ (x, n) = (s, (stockN ps s : Int)) := by
      conv => rhs; rw [← List.take_append_drop j ts]
      simp only [List.mem_append, List.mem_singleton]
      constructor
      · rintro ((h | h) | h)
        · exact .inl (.inl h)
        · exact .inr h
        · exact .inl (.inr h)
      · rintro ((h | h) | h)
        · exact .inl (.inl h)
        · exact .inr h
        · exact .inl (.inr h)
    rw [e, h.mem]
    constructor
    · rintro (⟨h1, h2⟩ | h1)
      · exact ⟨.inl h1, h2⟩
      · obtain ⟨rfl, rfl⟩ := Prod.mk.inj h1
        exact ⟨.inr rfl, rfl⟩
    · rintro ⟨h1 | h1, h2⟩
      · exact .inl ⟨h1, h2⟩
      · exact .inr (by rw [h2, h1])
theorem ref07_checkBoth_meets {A B : Option Addr} {ca cb : Nat} (ps : List (Sl Str)) (p : List Str) : Meets Tryz.prog F.ref07_checkBoth [.slice A ps.length ca, .slice B p.length cb] { LI := [Rows2 A ps, Row B (rows p)], val := fun _ : Unit => int (askedErr (years ps) p) } := by
 refine meets_intro F.ref07_checkBoth_f rfl (Nat.le_of_ble_eq_true rfl) fun w0 => ?_; refine hc_seq (hc_region (r_assign rfl rfl (hl_nil (then_n (hc_seq (hc_seq (hc_region (r_move rfl rfl ?_)))))))); refine hl_call F.ref07_CheckYears_cb rfl rfl (ref07_CheckYears_meets ps) (.refl _) ⟨m0, trivial⟩ fun _ _ => ?_; refine r_assign rfl rfl (hl_nil (then_n (hc_seq (hc_region (r_move rfl rfl (r_neq rfl rfl rfl (hl_nil (then_n ?_))))))))
 first | refine c_dec rfl (fun hb1 => ?_) (fun hb1 => ?_) | refine hc_cond rfl (fun hb1 => ?_) (fun hb1 => ?_)
 ·have hb1' := hb1; try simp at hb1'
  refine hc_seq (hc_region (r_move rfl rfl (r_assign rfl rfl (hl_nil (then_n (hc_ret (then_ret ?_))))))); exact ret1 () rfl (congrArg (fun b => some (int b)) (by rw [askedErr, if_neg hb1])) rfl trivial (List.nil_sublist _) trivial
 ·have hb1' := hb1; try simp at hb1'
  refine hc_skip (then_n (hc_seq (hc_region (r_move rfl rfl ?_)))); refine hl_call F.ref07_Check_cb rfl rfl (ref07_Check_meets p) (.refl _) ⟨m1, trivial⟩ fun _ _ => ?_; refine r_assign rfl rfl (hl_nil (then_n (hc_ret ?_))); exact ret1 () rfl (congrArg (fun b => some (int b)) (by rw [askedErr, if_pos (Classical.not_not.1 hb1)])) rfl trivial (List.nil_sublist _) trivial
theorem kit_EqTypes_meets {A B : Option Addr} {ca cb : Nat} (a b : List Ty) (ha : a.length ≤ 9223372036854775806) :
    Meets Tryz.prog F.kit_EqTypes [.slice A a.length ca, .slice B b.length cb] { LI := [Row A (rows a), Row B (rows b)], val := fun _ : Unit => .bool (decide (a = b)) } := by
 refine meets_intro F.kit_EqTypes_f rfl (Nat.le_of_ble_eq_true rfl) fun w0 => ?_; refine hc_seq (hc_region (r_assign rfl rfl (hl_nil (then_n (hc_seq (hc_seq (hc_region (r_move rfl rfl ?_)))))))); refine r_len_sl rfl T.u_L_api_Type rfl ?_; refine r_move rfl rfl ?_; refine r_len_sl rfl T.u_L_api_Type rfl ?_; refine r_neq rfl rfl rfl (hl_nil (then_n ?_))
 first | refine c_dec rfl (fun hb1 => ?_) (fun hb1 => ?_) | refine hc_cond rfl (fun hb1 => ?_) (fun hb1 => ?_)
 ·have hb1' := hb1; try simp at hb1'
  have hb1 : ¬ a = b := fun e => by subst e; exact hb1 rfl
  refine hc_seq (hc_region (r_assign rfl rfl (hl_nil (then_n (hc_ret (then_ret ?_)))))); exact ret1 () rfl (by rw [decide_eq_false hb1]; rfl) rfl trivial (.refl _) trivial
 ·have hb1' := hb1; try simp at hb1'
  have hb1 : a.length = b.length := by omega
  refine hc_skip (then_n (hc_seq (hc_seq (hc_region (r_assign rfl rfl (hl_nil (then_n (hc_block ?_)))))))); refine hc_loop (β := Nat) ⟨fun k => k ≤ a.length ∧ a.take k = b.take k, fun k => [(0, .slice A a.length ca), (1, .slice B b.length cb), (5, int k)], fun _ => [], fun _ => [Row A (rows a), Row B (rows b)]⟩ (fun k => a.length - k) 0 ⟨Nat.zero_le _, rfl⟩ ⟨rfl, rfl, rfl, trivial⟩ (.refl _) ⟨m0, m1, trivial⟩ fun k hk => ?_; obtain ⟨hk, ht⟩ := hk; refine hc_seq (hc_seq (hc_region (r_move rfl rfl (r_move rfl rfl ?_)))); refine r_len_sl rfl T.u_L_api_Type rfl ?_; refine r_lss rfl rfl rfl (hl_nil (then_n ?_))
  first | refine c_dec rfl (fun hb2 => ?_) (fun hb2 => ?_) | refine hc_cond rfl (fun hb2 => ?_) (fun hb2 => ?_)
  ·have hb2' := hb2; try simp at hb2'
   have hb2 : k < a.length := by omega
   refine hc_skip (then_n (hc_seq (hc_block (hc_seq ?_)))); refine hc_draw 8 mixed (by decide) (by decide) rfl rfl ?_; refine hb_ex _ rfl rfl rfl (fun w1 => r_move rfl rfl (hl_nil (qe_done rfl))) ?_; refine hb_ex _ rfl rfl rfl (fun w1 => r_move rfl rfl (hl_nil (qe_done rfl))) ?_; refine hb_ex _ rfl rfl rfl (fun w1 => r_elem (α := Ty) _ _ rfl T.u_L_api_Type T.sz_api_Type rfl rfl rfl mB rfl (by omega) (by decide) (hl_nil (qe_done rfl))) ?_; refine hb_ex _ rfl rfl rfl (fun w1 => r_loadS rfl T.row_api_Type T.sz_api_Type rfl rfl (cells_row mB (rows_all (by omega))) (hl_nil (qe_done rfl))) ?_; refine hb_ex _ rfl rfl rfl (fun w1 => r_move rfl rfl (hl_nil (qe_done rfl))) ?_; refine hb_ex _ rfl rfl rfl (fun w1 => r_move rfl rfl (hl_nil (qe_done rfl))) ?_; refine hb_ex _ rfl rfl rfl (fun w1 => r_elem (α := Ty) _ _ rfl T.u_L_api_Type T.sz_api_Type rfl rfl rfl mB rfl (by omega) (by decide) (hl_nil (qe_done rfl))) ?_; refine hb_ex _ rfl rfl rfl (fun w1 => r_loadS rfl T.row_api_Type T.sz_api_Type rfl rfl (cells_row mB (rows_all (by omega))) (hl_nil (qe_done rfl))) ?_; refine hb_nil ⟨rfl, ?_⟩; refine r_bin _ rfl rfl rfl (fun _ => T.eqg_api_Type ..) (fun _ => T.neq_api_Type ..) ?_; refine hl_nil (then_n ?_)
   first | refine c_dec rfl (fun hb3 => ?_) (fun hb3 => ?_) | refine hc_cond rfl (fun hb3 => ?_) (fun hb3 => ?_)
   ·have hb3' := hb3; try simp at hb3'
    have hb3 : ¬ a = b := ne_at (a := a) (b := b) (k := k) hb3; refine hc_seq (hc_region (r_assign rfl rfl (hl_nil (then_n (hc_ret (inb_ret (then_ret (then_ret (inb_ret (then_ret ?_)))))))))); exact ret1 () rfl (by rw [decide_eq_false hb3]; rfl) rfl trivial (.refl _) trivial
   ·have hb3' := hb3; try simp at hb3'
    have hb3 : a.getD k default = b.getD k default := Classical.not_not.1 hb3; refine hc_skip (inb_n (then_n (hc_region (r_move rfl rfl ?_)))); refine r_add _ rfl rfl rfl rfl (by unfold I64; omega) ?_; refine r_assign rfl rfl (hl_nil ?_); exact again _ (k + 1) ⟨by omega, by rw [take_succ_getD a k hb2, take_succ_getD b k (by omega), ht, hb3]⟩ (by first | omega | (simp only; omega)) ⟨rfl, rfl, rfl, trivial⟩ (.refl _) ⟨m0, m1, trivial⟩
  ·have hb2' := hb2; try simp at hb2'
   have hb2 : k = a.length := by omega
   refine hc_exit (then_exit (then_exit (inb_hit (then_n (hc_seq (hc_region (r_assign rfl rfl (hl_nil (then_n (hc_ret ?_)))))))))); exact ret1 () rfl (by rw [decide_eq_true (eq_of_takes ht (by omega) (by omega))]; rfl) rfl trivial (.refl _) trivial
theorem ref07_Origin_meets {A B : Option Addr} {ca cb : Nat} (ps : List (Sl Str)) (p : List Str) : Meets Tryz.prog F.ref07_Origin [.slice A ps.length ca, .slice B p.length cb] { outErr (originE ps p) with LI := [Rows2 A ps, Row B (rows p)] } := by
 refine meets_intro F.ref07_Origin_f rfl (Nat.le_of_ble_eq_true rfl) fun w0 => ?_; refine hc_seq (hc_region (r_assign rfl rfl (r_assign rfl rfl (hl_nil (then_n (hc_seq (hc_seq (hc_region (r_move rfl rfl (r_move rfl rfl ?_)))))))))); refine hl_call F.ref07_checkBoth_cb rfl rfl (ref07_checkBoth_meets ps p) (.refl _) ⟨m0, m1, trivial⟩ fun _ _ => ?_; refine r_assign rfl rfl (hl_nil (then_n (hc_seq (hc_region (r_move rfl rfl (r_neq rfl rfl rfl (hl_nil (then_n ?_))))))))
 first | refine c_dec rfl (fun hb1 => ?_) (fun hb1 => ?_) | refine hc_cond rfl (fun hb1 => ?_) (fun hb1 => ?_)
 ·have hb1' := hb1; try simp at hb1'
  have e : originE ps p = ([], askedErr (years ps) p) := by rw [originE, if_pos hb1]
  rw [e]; refine hc_seq (hc_region (r_move rfl rfl (r_assign rfl rfl (r_assign rfl rfl (hl_nil (then_n (hc_ret (then_ret (hq_nil0 ?_))))))))); exact ret2 (none, 0) rfl rfl rfl rfl rfl (Nat.le_refl _) (List.nil_sublist _) ⟨m0, trivial⟩
 ·have hb1' := hb1; try simp at hb1'
  have e : originE ps p = (p.map fun s => originN ps s ps.length, 0) := by rw [originE, if_neg hb1]
  rw [e]; obtain ⟨h1, h2⟩ := askedErr_zero (Classical.not_not.1 hb1); obtain ⟨h3, h4⟩ := yearsErr_zero h1; have h5 := pageErr_zero h2; refine hc_outer (A := A) (ps := ps) mB ?_; refine hc_skip (then_n (hc_seq (hc_region (r_assign rfl rfl (hl_nil (then_n (hc_seq (hc_seq (hc_region (r_assign rfl rfl (hl_nil ?_))))))))))); refine then_n (hc_block ?_); refine hc_loop (β := Nat × OutC × Hp) ⟨fun ⟨k, o, og⟩ => k ≤ p.length ∧ Grow T.int 1 o.1 k o.2 (rows ((p.take k).map fun s => originN ps s ps.length)) og, fun ⟨k, o, og⟩ => [(0, .slice A ps.length ca), (1, .slice B p.length cb), (7, .slice o.1 k o.2), (8, int k)], fun ⟨k, o, og⟩ => og, fun _ => [Row A (rows ps), Rows2 A ps, Row B (rows p)]⟩ (fun x => p.length - x.1) (0, (none, 0), []) ⟨Nat.zero_le _, Grow.nil _ _⟩ ⟨rfl, rfl, rfl, rfl, trivial⟩ (.refl _) ⟨mB, mB, mB, trivial⟩ fun x hx => ?_; obtain ⟨k, o, og⟩ := x; obtain ⟨hk, hG⟩ := hx; refine hc_seq (hc_seq (hc_region (r_move rfl rfl (r_move rfl rfl ?_)))); refine r_len_sl rfl T.u_strs rfl ?_; refine r_lss rfl rfl rfl (hl_nil (then_n ?_))
  first | refine c_dec rfl (fun hb2 => ?_) (fun hb2 => ?_) | refine hc_cond rfl (fun hb2 => ?_) (fun hb2 => ?_)
  ·have hb2' := hb2; try simp at hb2'
   have hk2 : k < p.length := by omega
   have hst : (p.take (k + 1)).map (fun s => originN ps s ps.length) = (p.take k).map (fun s => originN ps s ps.length) ++ [originN ps (p.getD k default) ps.length] := by rw [take_succ_getD p k hk2, List.map_append]; rfl
   refine hc_skip (then_n (hc_seq (hc_block (hc_seq (hc_region (r_assign rfl rfl (hl_nil (then_n (hc_seq (hc_seq (hc_region ?_))))))))))); refine r_assign rfl rfl (hl_nil (then_n (hc_block ?_))); refine hc_loop (β := Nat) ⟨fun j => j ≤ ps.length, fun j => [(0, .slice A ps.length ca), (1, .slice B p.length cb), (7, .slice o.1 k o.2), (8, int k), (9, int (originN ps (p.getD k default) j)), (10, int j)], fun _ => og, fun _ => [Row A (rows ps), Rows2 A ps, Row B (rows p)]⟩ (fun j => ps.length - j) 0 (Nat.zero_le _) ⟨rfl, rfl, rfl, rfl, rfl, rfl, trivial⟩ (.refl _) ⟨mB, mB, mB, trivial⟩ fun j hj => ?_; simp only at hj; refine hc_seq (hc_seq (hc_region (r_move rfl rfl (r_move rfl rfl ?_)))); refine r_len_sl rfl T.u_pages rfl ?_; refine r_lss rfl rfl rfl (hl_nil (then_n ?_))
   first | refine c_dec rfl (fun hb3 => ?_) (fun hb3 => ?_) | refine hc_cond rfl (fun hb3 => ?_) (fun hb3 => ?_)
   ·have hb3' := hb3; try simp at hb3'
    have hj2 : j < ps.length := by omega
    have hjm := getD_mem hj2; have hjl := h4 _ hjm; refine hc_inner (A := A) (ps := ps) (p := ps.getD j default) mB hjm ?_; refine hc_skip (then_n (hc_seq (hc_block (hc_seq ?_)))); refine hc_drawW (og) ([]) (by rw [List.append_nil]) 8 [] mixed (by decide) (by decide) (by decide) rfl rfl rfl ?_; refine hb_ex _ rfl rfl rfl (fun w1 => r_move rfl rfl (hl_nil (qe_done rfl))) ?_; refine hb_ex _ rfl rfl rfl (fun w1 => r_move rfl rfl (hl_nil (qe_done rfl))) ?_; refine hb_ex _ rfl rfl rfl (fun w1 => r_elem (α := Sl Str) ps j rfl T.u_pages T.sz_strs rfl rfl rfl mB rfl hj2 (by decide) (hl_nil (qe_done rfl))) ?_; refine hb_ex _ rfl rfl rfl (fun w1 => r_load (v := .slice (ps.getD j default).a (ps.getD j default).l.length (ps.getD j default).c) rfl T.cell_strs rfl (cell_row mB (rows_get0 hj2 rfl)) (hl_nil (qe_done rfl))) ?_; refine hb_ex _ rfl rfl rfl (fun w1 => r_move rfl rfl (hl_nil (qe_done rfl))) ?_; refine hb_ex _ rfl rfl rfl (fun w1 => r_move rfl rfl (hl_nil (qe_done rfl))) ?_; refine hb_ex _ rfl rfl rfl (fun w1 => r_elem (α := Str) p k rfl T.u_strs T.sz_string rfl rfl rfl mB rfl hk2 (by decide) (hl_nil (qe_done rfl))) ?_; refine hb_ex _ rfl rfl rfl (fun w1 => r_load (v := str (p.getD k default)) rfl T.cell_string rfl (cell_row mB (rows_get0 hk2 rfl)) (hl_nil (qe_done rfl))) ?_; refine hb_nil ⟨rfl, ?_⟩; refine hl_call F.ref07_count_cb rfl rfl (ref07_count_meets (ps.getD j default).l (p.getD k default) (by omega)) (List.Perm.refl _) ⟨mB, trivial⟩ fun _ _ => ?_; refine r_gtr rfl rfl rfl (hl_nil (then_n ?_))
    first | refine c_dec rfl (fun hb4 => ?_) (fun hb4 => ?_) | refine hc_cond rfl (fun hb4 => ?_) (fun hb4 => ?_)
    ·have hb4' := hb4; try simp at hb4'
     have hin : (p.getD k default) ∈ (ps.getD j default).l := count_pos.1 (by omega); have hor : (originN ps (p.getD k default) (j + 1)) = (j : Int) := by rw [originN, if_pos hin]
     refine hc_region (r_move rfl rfl (r_assign rfl rfl (hl_nil (inb_n (then_n (hc_region (r_move rfl rfl ?_))))))); refine r_add _ rfl rfl rfl rfl (by unfold I64; omega) ?_; refine r_assign rfl rfl (hl_nil ?_); exact again _ (j + 1) (by show j + 1 ≤ ps.length; omega) (by show ps.length - (j + 1) < ps.length - j; omega) ⟨rfl, rfl, rfl, rfl, congrArg (fun n => some (int n)) hor.symm, rfl, trivial⟩ (by first | exact List.Sublist.refl _ | (rw [List.append_nil]; exact List.Sublist.refl _) | (simp; done)) ⟨mB, mB, mB, trivial⟩
    ·have hb4' := hb4; try simp at hb4'
     have hin : ¬ (p.getD k default) ∈ (ps.getD j default).l := fun h => by have := count_pos.2 h; omega
     have hor : (originN ps (p.getD k default) (j + 1)) = (originN ps (p.getD k default) j) := by rw [originN, if_neg hin]
     refine hc_skip (inb_n (then_n (hc_region (r_move rfl rfl ?_)))); refine r_add _ rfl rfl rfl rfl (by unfold I64; omega) ?_; refine r_assign rfl rfl (hl_nil ?_); exact again _ (j + 1) (by show j + 1 ≤ ps.length; omega) (by show ps.length - (j + 1) < ps.length - j; omega) ⟨rfl, rfl, rfl, rfl, congrArg (fun n => some (int n)) hor.symm, rfl, trivial⟩ (by first | exact List.Sublist.refl _ | (rw [List.append_nil]; exact List.Sublist.refl _) | (simp; done)) ⟨mB, mB, mB, trivial⟩
   ·have hb3' := hb3; try simp at hb3'
    obtain rfl : j = ps.length := by omega
    refine hc_exit (then_exit (then_exit (inb_hit (then_n (hc_region (r_move rfl rfl (r_move rfl rfl ?_))))))); refine r_buildSlice _ rfl rfl (fun _ => T.bs_ints_1 ..) fun gS => ?_; refine r_append (k + 1) (rows ((p.take (k + 1)).map fun s => originN ps s ps.length)) T.el_ints rfl rfl rfl hG (List.perm_append_comm (l₁ := [_])) (Src.own (cs := #[int (originN ps (p.getD k default) ps.length)]) (m := 1) (List.mem_append_right _ m0) rfl rfl) rfl (by rw [hst, rows_append]; rfl) (by unfold maxLen; omega) (by omega) fun A' c' og' hG' => ?_; refine r_assign rfl rfl (hl_nil (inb_n (then_n (hc_region (r_move rfl rfl ?_))))); refine r_add _ rfl rfl rfl rfl (by unfold I64; omega) ?_; refine r_assign rfl rfl (hl_nil ?_); exact again _ (k + 1, (A', c'), og') ⟨by omega, hG'⟩ (by show p.length - (k + 1) < p.length - k; omega) ⟨rfl, rfl, rfl, rfl, trivial⟩ (List.sublist_append_left _ _) ⟨mB, mB, mB, trivial⟩
  ·have hb2' := hb2; try simp at hb2'
   have hk2 : k = p.length := by omega
   subst hk2; rw [List.take_length] at hG; refine hc_exit (then_exit (then_exit (inb_hit (then_n (hc_seq (hc_region (r_move rfl rfl (r_assign rfl rfl (r_assign rfl rfl (hl_nil (then_n ?_))))))))))); refine hc_ret (hq_grown0 hG ?_); exact ret2 o rfl rfl rfl (by show Value.tuple #[.slice o.1 (p.map _).length o.2, int 0] = _; rw [List.length_map]) rfl (by show (p.map _).length ≤ o.2; rw [List.length_map]; exact hG.le) (.refl _) ⟨m0, trivial⟩
theorem ref07_Back_meets {A B : Option Addr} {ca cb : Nat} (ps : List (Sl Str)) (p : List Str) : Meets Tryz.prog F.ref07_Back [.slice A ps.length ca, .slice B p.length cb] { outE (backE ps p) with LI := [Rows2 A ps, Row B (rows p)] } := by
 refine meets_intro F.ref07_Back_f rfl (Nat.le_of_ble_eq_true rfl) fun w0 => ?_; refine hc_seq (hc_region (r_assign rfl rfl (r_assign rfl rfl (hl_nil (then_n (hc_seq (hc_region (r_move rfl rfl (r_move rfl rfl ?_))))))))); refine hl_call F.ref07_Origin_cb rfl rfl (ref07_Origin_meets ps p) (List.Perm.refl _) ⟨mB, mB, trivial⟩ fun y hy => ?_; obtain ⟨ya, yc⟩ := y; refine r_move rfl rfl (r_extract rfl rfl rfl (r_extract rfl rfl rfl (r_assign rfl rfl (r_assign rfl rfl (hl_nil (then_n (hc_seq (hc_seq (hc_region (r_move rfl rfl (r_neq rfl rfl rfl ?_))))))))))); refine hl_nil (then_n ?_)
 first | refine c_dec rfl (fun hb1 => ?_) (fun hb1 => ?_) | refine hc_cond rfl (fun hb1 => ?_) (fun hb1 => ?_)
 ·have hb1' := hb1; try simp at hb1'
  have ha : ¬ askedErr (years ps) p = 0 := fun h => hb1 (by rw [originE, if_neg (not_not_intro h)]); have e2 : (originE ps p).2 = askedErr (years ps) p := by rw [originE, if_pos ha]
  have e : backE ps p = ([], askedErr (years ps) p) := by rw [backE, if_pos ha]
  rw [e]; refine hc_seq (hc_region (r_move rfl rfl (r_assign rfl rfl (r_assign rfl rfl (hl_nil (then_n (hc_ret (then_ret (hq_nil0 ?_))))))))); exact ret2 (none, 0) rfl rfl rfl (by show Value.tuple #[.slice none 0 0, int (askedErr (years ps) p)] = Value.tuple #[.slice none 0 0, int (originE ps p).2]; rw [e2]) rfl trivial (List.nil_sublist _) ⟨m0, trivial⟩
 ·have hb1' := hb1; try simp at hb1'
  have ha : askedErr (years ps) p = 0 := Classical.byContradiction fun h => h (by have h9 := Classical.not_not.1 hb1; rw [originE, if_pos h] at h9; exact h9); have eo : (originE ps p) = (p.map fun s => originN ps s ps.length, 0) := by rw [originE, if_neg (not_not_intro ha)]
  have e : backE ps p = (backL ps p p.length, 0) := by rw [backE, if_neg (not_not_intro ha)]
  rw [e]; obtain ⟨h1, h2⟩ := askedErr_zero ha; obtain ⟨h3, h4⟩ := yearsErr_zero h1; have h5 := pageErr_zero h2; have hol : (originE ps p).1.length = p.length := by rw [eo]; exact List.length_map ..
  have hoa : ∀ k, k < p.length → (originE ps p).1.getD k default = originN ps (p.getD k default) ps.length := fun k hk => by rw [eo]; show (p.map _).getD k default = _; rw [getD_at (by rw [List.length_map]; exact hk), List.getElem_map, getD_at hk]
  refine hc_skip (then_n (hc_seq (hc_region (r_assign rfl rfl (hl_nil (then_n (hc_seq (hc_seq (hc_region (r_assign rfl rfl (hl_nil ?_))))))))))); refine then_n (hc_block ?_); refine hc_loop (β := Nat × OutC × Hp) ⟨fun ⟨k, o, og⟩ => k ≤ p.length ∧ Grow T.int 1 o.1 (backL ps p k).length o.2 (rows (backL ps p k)) og, fun ⟨k, o, og⟩ => [(0, .slice A ps.length ca), (6, .slice ya (originE ps p).1.length yc), (8, .slice o.1 (backL ps p k).length o.2), (9, int k)], fun ⟨k, o, og⟩ => og, fun _ => [Row ya (rows (originE ps p).1)]⟩ (fun x => p.length - x.1) (0, (none, 0), []) ⟨Nat.zero_le _, Grow.nil _ _⟩ ⟨rfl, rfl, rfl, rfl, trivial⟩ (.refl _) ⟨mB, trivial⟩ fun x hx => ?_; obtain ⟨k, o, og⟩ := x; obtain ⟨hk, hG⟩ := hx; refine hc_seq (hc_seq (hc_region (r_move rfl rfl (r_move rfl rfl ?_)))); refine r_len_sl rfl T.u_ints rfl ?_; refine r_lss rfl rfl rfl (hl_nil (then_n ?_))
  first | refine c_dec rfl (fun hb2 => ?_) (fun hb2 => ?_) | refine hc_cond rfl (fun hb2 => ?_) (fun hb2 => ?_)
  ·have hb2' := hb2; try simp at hb2'
   have hk2 : k < p.length := by omega
   have hbl := back_le ps p k; have hbs := back_succ ps p k; have ho := origin_ok ps (p.getD k default) ps.length; have ho1 := ho.lo; have ho2 := ho.hi; refine hc_skip (then_n (hc_seq (hc_block (hc_seq (hc_region (r_move rfl rfl (r_move rfl rfl ?_))))))); refine r_elem (α := Int) (originE ps p).1 k rfl T.u_ints T.sz_int rfl rfl rfl mB rfl (by omega) (by decide) ?_; refine r_load (v := int (originN ps (p.getD k default) ps.length)) rfl T.cell_int rfl (cell_row mB (by rw [← hoa k hk2]; exact rows_get0 (by omega) rfl)) ?_; refine r_geq rfl rfl rfl (r_move rfl rfl ?_); refine g_split rfl rfl ?_ ?_
   ·intro hg1; have hg1' := hg1; try simp at hg1'
    have hq1 : 0 ≤ originN ps (p.getD k default) ps.length := of_decide_eq_true (bt1 hg1); refine g_yes rfl rfl hg1 (r_move rfl rfl (g_yes rfl rfl hg1 (r_move rfl rfl (g_yes rfl rfl hg1 ?_)))); refine r_elem (α := Int) (originE ps p).1 k rfl T.u_ints T.sz_int rfl rfl rfl mB rfl (by omega) (by decide) ?_; refine g_yes rfl rfl hg1 ?_; refine r_load (v := int (originN ps (p.getD k default) ps.length)) rfl T.cell_int rfl (cell_row mB (by rw [← hoa k hk2]; exact rows_get0 (by omega) rfl)) ?_; refine g_yes rfl rfl hg1 (r_move rfl rfl (g_yes rfl rfl hg1 ?_)); refine r_len_sl rfl T.u_pages rfl ?_; refine g_yes rfl rfl hg1 ?_; refine r_sub _ rfl rfl rfl rfl (by unfold I64; omega) ?_; refine g_yes rfl rfl hg1 (r_lss rfl rfl rfl ?_); refine p_t rfl rfl (bt1 hg1) rfl ?_; refine hl_nil (then_n ?_)
    first | refine c_dec rfl (fun hb3 => ?_) (fun hb3 => ?_) | refine hc_cond rfl (fun hb3 => ?_) (fun hb3 => ?_)
    ·have hb3' := hb3; try simp at hb3'
     have hqt : qB ps p k = true := by unfold qB; rw [decide_eq_true hq1, decide_eq_true hb3]; rfl
     rw [if_pos hqt] at hbs; refine hc_region (r_move rfl rfl (r_move rfl rfl ?_)); refine r_buildSlice _ rfl rfl (fun _ => T.bs_ints_1 ..) fun gS => ?_; refine r_append ((backL ps p k).length + 1) (rows (backL ps p (k + 1))) T.el_ints rfl rfl rfl hG (List.perm_append_comm (l₁ := [_])) (Src.own (cs := #[int k]) (m := 1) (List.mem_append_right _ m0) rfl rfl) rfl (by rw [hbs, rows_append]; rfl) (by unfold maxLen; omega) (by omega) fun A' c' og' hG' => ?_; refine r_assign rfl rfl (hl_nil (inb_n (then_n (hc_region (r_move rfl rfl ?_))))); refine r_add _ rfl rfl rfl rfl (by unfold I64; omega) ?_; refine r_assign rfl rfl (hl_nil ?_); have hl2 : (backL ps p (k + 1)).length = (backL ps p k).length + 1 := by rw [hbs, len_snoc]
     exact again _ (k + 1, (A', c'), og') ⟨by omega, by rw [hl2]; exact hG'⟩ (by show p.length - (k + 1) < p.length - k; omega) ⟨rfl, rfl, by rw [hl2]; rfl, rfl, trivial⟩ (List.sublist_append_left _ _) ⟨mB, trivial⟩
    ·have hb3' := hb3; try simp at hb3'
     have hqf : ¬ qB ps p k = true := fun h => by unfold qB at h; rw [decide_eq_true hq1, decide_eq_false hb3] at h; cases h
     rw [if_neg hqf, List.append_nil] at hbs; refine hc_skip (inb_n (then_n (hc_region (r_move rfl rfl ?_)))); refine r_add _ rfl rfl rfl rfl (by unfold I64; omega) ?_; refine r_assign rfl rfl (hl_nil ?_); exact again _ (k + 1, o, og) ⟨by omega, by rw [hbs]; exact hG⟩ (by show p.length - (k + 1) < p.length - k; omega) ⟨rfl, rfl, by rw [hbs]; rfl, rfl, trivial⟩ (.refl _) ⟨mB, trivial⟩
   ·intro hg1; have hg1' := hg1; try simp at hg1'
    have hq1 : ¬ 0 ≤ originN ps (p.getD k default) ps.length := of_decide_eq_false (bf2 hg1); have hqf : ¬ qB ps p k = true := fun h => by unfold qB at h; rw [decide_eq_false hq1] at h; cases h
    rw [if_neg hqf, List.append_nil] at hbs; refine g_no rfl rfl rfl rfl rfl hg1 (g_no rfl rfl rfl rfl rfl hg1 (g_no rfl rfl rfl rfl rfl hg1 (g_no rfl rfl rfl rfl rfl hg1 (g_no rfl rfl rfl rfl rfl hg1 (g_no rfl rfl rfl rfl rfl hg1 (g_no rfl rfl rfl rfl rfl hg1 (g_no rfl rfl rfl rfl rfl hg1 ?_))))))); refine p_f rfl rfl (bf2 hg1) rfl ?_; refine hl_nil (then_n (c_f rfl rfl (hc_skip (inb_n (then_n (hc_region (r_move rfl rfl ?_))))))); refine r_add _ rfl rfl rfl rfl (by unfold I64; omega) ?_; refine r_assign rfl rfl (hl_nil ?_); exact again _ (k + 1, o, og) ⟨by omega, by rw [hbs]; exact hG⟩ (by show p.length - (k + 1) < p.length - k; omega) ⟨rfl, rfl, by rw [hbs]; rfl, rfl, trivial⟩ (.refl _) ⟨mB, trivial⟩
  ·have hb2' := hb2; try simp at hb2'
   have hk2 : k = p.length := by omega
   subst hk2; refine hc_exit (then_exit (then_exit (inb_hit (then_n (hc_seq (hc_region (r_move rfl rfl (r_assign rfl rfl (r_assign rfl rfl (hl_nil (then_n ?_))))))))))); refine hc_ret (hq_grown0 hG ?_); exact ret2 o rfl rfl rfl rfl rfl trivial (.refl _) ⟨m0, trivial⟩
theorem ref07_Fresh_meets {A B : Option Addr} {ca cb : Nat} (ps : List (Sl Str)) (p : List Str) (hcap : p.length ≤ cb) : Meets Tryz.prog F.ref07_Fresh [.slice A ps.length ca, .slice B p.length cb] { LI := [Rows2 A ps, Row B (rows p)], val := fun _ : Unit => .tuple #[int (freshE ps p : Nat), int (askedErr (years ps) p)] } := by
 refine meets_intro F.ref07_Fresh_f rfl (Nat.le_of_ble_eq_true rfl) fun w0 => ?_; refine hc_seq (hc_region (r_assign rfl rfl (r_assign rfl rfl (hl_nil (then_n (hc_seq (hc_seq (hc_region (r_move rfl rfl (r_move rfl rfl ?_)))))))))); refine hl_call F.ref07_checkBoth_cb rfl rfl (ref07_checkBoth_meets ps p) (.refl _) ⟨m0, m1, trivial⟩ fun _ _ => ?_; refine r_assign rfl rfl (hl_nil (then_n (hc_seq (hc_region (r_move rfl rfl (r_neq rfl rfl rfl (hl_nil (then_n ?_))))))))
 first | refine c_dec rfl (fun hb1 => ?_) (fun hb1 => ?_) | refine hc_cond rfl (fun hb1 => ?_) (fun hb1 => ?_)
 ·have hb1' := hb1; try simp at hb1'
  refine hc_seq (hc_region (r_move rfl rfl (r_assign rfl rfl (r_assign rfl rfl (hl_nil (then_n (hc_ret (then_ret ?_)))))))); exact ret2 () rfl rfl rfl (by show Value.tuple #[int (freshE ps p : Nat), _] = _; rw [freshE, if_neg hb1]; rfl) rfl trivial (.refl _) trivial
 ·have hb1' := hb1; try simp at hb1'
  have hq0 := Classical.not_not.1 hb1; obtain ⟨hy0, hp0⟩ := askedErr_zero hq0; obtain ⟨hy4, hy6⟩ := yearsErr_zero hy0; have hp6 := pageErr_zero hp0; have hfe : freshE ps p = freshN (stockN ps) p := by rw [freshE, if_pos hq0]
  rw [fr_end] at hfe; refine hc_skip (then_n (hc_seq (hc_region (r_assign rfl rfl (hl_nil (then_n (hc_seq (hc_seq (hc_region (r_assign rfl rfl (hl_nil ?_))))))))))); refine then_n (hc_block ?_); refine hc_loop (β := Nat) ⟨fun k => k ≤ p.length, fun k => [(0, .slice A ps.length ca), (1, .slice B p.length cb), (7, int ((frK (stockN ps) p k) : Nat)), (8, int k)], fun _ => [], fun _ => [Rows2 A ps, Row B (rows p)]⟩ (fun k => p.length - k) 0 (Nat.zero_le _) ⟨rfl, rfl, rfl, rfl, trivial⟩ (List.nil_sublist _) ⟨mB, mB, trivial⟩ fun k hk => ?_; simp only at hk; have hfl := frK_le (stockN ps) p k; refine hc_seq (hc_seq (hc_region (r_move rfl rfl (r_move rfl rfl ?_)))); refine r_len_sl rfl T.u_strs rfl ?_; refine r_lss rfl rfl rfl (hl_nil (then_n ?_))
  first | refine c_dec rfl (fun hb2 => ?_) (fun hb2 => ?_) | refine hc_cond rfl (fun hb2 => ?_) (fun hb2 => ?_)
  ·have hb2' := hb2; try simp at hb2'
   have hk2 : k < p.length := by omega
   have hct := ref07_count_meets (B := B) (cb := cb) (p.take k) (p.getD k default) (by rw [List.length_take]; omega); rw [List.length_take, Nat.min_eq_left hk] at hct; refine hc_skip (then_n (hc_seq (hc_block (hc_seq ?_)))); refine hc_draw 13 mixed (by decide) (by decide) rfl rfl ?_; refine hb_ex _ rfl rfl rfl (fun w1 => r_move rfl rfl (hl_nil (qe_done rfl))) ?_; refine hb_ex _ rfl rfl rfl (fun w1 => r_move rfl rfl (hl_nil (qe_done rfl))) ?_; refine hb_ex _ rfl rfl rfl (fun w1 => r_slice_hi k rfl T.u_strs T.sz_string rfl rfl rfl (by omega) (hl_nil (qe_done rfl))) ?_; refine hb_ex _ rfl rfl rfl (fun w1 => r_move rfl rfl (hl_nil (qe_done rfl))) ?_; refine hb_ex _ rfl rfl rfl (fun w1 => r_move rfl rfl (hl_nil (qe_done rfl))) ?_; refine hb_ex _ rfl rfl rfl (fun w1 => r_elem (α := Str) p k rfl T.u_strs T.sz_string rfl rfl rfl mB rfl hk2 (by decide) (hl_nil (qe_done rfl))) ?_; refine hb_ex _ rfl rfl rfl (fun w1 => r_load (v := str (p.getD k default)) rfl T.cell_string rfl (cell_row mB (rows_get0 hk2 rfl)) (hl_nil (qe_done rfl))) ?_
   apply hb_ex _ rfl rfl rfl
   ·intro w1; refine hl_takerow (A := B) (ps := p) k mB ?_; refine hl_call F.ref07_count_cb rfl rfl (hct) (List.Perm.refl _) ⟨mB, trivial⟩ fun _ _ => ?_; refine hl_nil ?_; exact qe_done rfl
   refine hb_ex _ rfl rfl rfl (fun w1 => r_move rfl rfl (hl_nil (qe_done rfl))) ?_; refine hb_ex _ rfl rfl rfl (fun w1 => r_move rfl rfl (hl_nil (qe_done rfl))) ?_; refine hb_ex _ rfl rfl rfl (fun w1 => r_move rfl rfl (hl_nil (qe_done rfl))) ?_; refine hb_ex _ rfl rfl rfl (fun w1 => r_elem (α := Str) p k rfl T.u_strs T.sz_string rfl rfl rfl mB rfl hk2 (by decide) (hl_nil (qe_done rfl))) ?_; refine hb_ex _ rfl rfl rfl (fun w1 => r_load (v := str (p.getD k default)) rfl T.cell_string rfl (cell_row mB (rows_get0 hk2 rfl)) (hl_nil (qe_done rfl))) ?_; refine hb_nil ⟨rfl, ?_⟩; refine hl_call F.ref07_stock_cb rfl rfl (ref07_stock_meets ps (p.getD k default) (by omega) (fun q hq => by have := hy6 q hq; omega)) (List.Perm.refl _) ⟨mB, trivial⟩ fun _ _ => ?_; refine r_geq rfl rfl rfl (hl_nil (then_n ?_))
   first | refine c_dec rfl (fun hb3 => ?_) (fun hb3 => ?_) | refine hc_cond rfl (fun hb3 => ?_) (fun hb3 => ?_)
   ·have hb3' := hb3; try simp at hb3'
    have hfs : (frK (stockN ps) p (k + 1)) = (frK (stockN ps) p k) + 1 := by rw [frK, if_pos (by omega)]
    refine hc_region (r_move rfl rfl ?_); refine r_add (((frK (stockN ps) p (k + 1)) : Nat) : Int) rfl rfl rfl (by rw [hfs]; rfl) (by rw [hfs]; unfold I64; omega) ?_; refine r_assign rfl rfl (hl_nil (inb_n (then_n (hc_region (r_move rfl rfl ?_))))); refine r_add _ rfl rfl rfl rfl (by unfold I64; omega) ?_; refine r_assign rfl rfl (hl_nil ?_); exact again _ (k + 1) (by show k + 1 ≤ p.length; omega) (by show p.length - (k + 1) < p.length - k; omega) ⟨rfl, rfl, rfl, rfl, trivial⟩ (List.nil_sublist _) ⟨mB, mB, trivial⟩
   ·have hb3' := hb3; try simp at hb3'
    have hfs : (frK (stockN ps) p (k + 1)) = (frK (stockN ps) p k) := by rw [frK, if_neg (by omega), Nat.add_zero]
    refine hc_skip (inb_n (then_n (hc_region (r_move rfl rfl ?_)))); refine r_add _ rfl rfl rfl rfl (by unfold I64; omega) ?_; refine r_assign rfl rfl (hl_nil ?_); exact again _ (k + 1) (by show k + 1 ≤ p.length; omega) (by show p.length - (k + 1) < p.length - k; omega) ⟨rfl, rfl, by rw [hfs]; rfl, rfl, trivial⟩ (List.nil_sublist _) ⟨mB, mB, trivial⟩
  ·have hb2' := hb2; try simp at hb2'
   obtain rfl : k = p.length := by omega
   refine hc_exit (then_exit (then_exit (inb_hit (then_n (hc_seq (hc_region (r_move rfl rfl (r_assign rfl rfl (r_assign rfl rfl (hl_nil (then_n ?_))))))))))); refine hc_ret ?_; exact ret2 () rfl rfl rfl (by show Value.tuple #[int (freshE ps p : Nat), int (askedErr (years ps) p)] = _; rw [hfe, hq0]) rfl trivial (List.nil_sublist _) trivial
set_option maxHeartbeats 1000000 in
theorem ref07_Stock_meets {A : Option Addr} {c : Nat} (ps : List (Sl Str)) : Meets Tryz.prog F.ref07_Stock [.slice A ps.length c] { LI := [Rows2 A ps], inv := fun x : List Ty × OutC => StockR ps x.1, val := fun x => .tuple #[.slice x.2.1 x.1.length x.2.2, int (yearsErr (years ps))], LO := fun x => [Row x.2.1 (rows x.1)] } := by
 refine meets_intro F.ref07_Stock_f rfl (Nat.le_of_ble_eq_true rfl) fun w0 => ?_; refine hc_seq (hc_region (r_assign rfl rfl (r_assign rfl rfl (hl_nil (then_n (hc_seq (hc_seq (hc_region (r_move rfl rfl ?_))))))))); refine hl_call F.ref07_CheckYears_cb rfl rfl (ref07_CheckYears_meets ps) (.refl _) ⟨m0, trivial⟩ fun _ _ => ?_; refine r_assign rfl rfl (hl_nil (then_n (hc_seq (hc_region (r_move rfl rfl (r_neq rfl rfl rfl (hl_nil (then_n ?_))))))))
 first | refine c_dec rfl (fun hb1 => ?_) (fun hb1 => ?_) | refine hc_cond rfl (fun hb1 => ?_) (fun hb1 => ?_)
 ·have hb1' := hb1; try simp at hb1'
  refine hc_seq (hc_region (r_move rfl rfl (r_assign rfl rfl (r_assign rfl rfl (hl_nil (then_n (hc_ret (then_ret ?_)))))))); refine hq_nilrow (α := Ty) ?_; exact ret2 (([] : List Ty), (none, 0)) rfl rfl rfl rfl rfl ⟨fun h => absurd h hb1, fun _ => rfl⟩ (List.nil_sublist _) ⟨m0, trivial⟩
 ·have hb1' := hb1; try simp at hb1'
  have hy0 := Classical.not_not.1 hb1; obtain ⟨hy4, hy6⟩ := yearsErr_zero hy0; refine hc_outer (A := A) (ps := ps) mB ?_; refine hc_nilrow (α := Ty) ?_; refine hc_skip (then_n (hc_seq (hc_region (r_assign rfl rfl (hl_nil (then_n (hc_seq (hc_seq (hc_region (r_assign rfl rfl (hl_nil ?_))))))))))); refine then_n (hc_block ?_); refine hc_loop (β := Nat × List Ty × OutC) ⟨fun ⟨k, ts, o⟩ => k ≤ ps.length ∧ Ins ps (seenY ps k 0) ts ∧ ts.length ≤ 6 * k ∧ ts.length ≤ o.2, fun ⟨k, ts, o⟩ => [(0, .slice A ps.length c), (5, .slice o.1 ts.length o.2), (6, int k)], fun _ => [], fun ⟨k, ts, o⟩ => [Row o.1 (rows ts), Row A (rows ps), Rows2 A ps]⟩ (fun x => ps.length - x.1) (0, [], (none, 0)) ⟨Nat.zero_le _, ins_nil ps, Nat.le_refl _, Nat.le_refl _⟩ ⟨rfl, rfl, rfl, trivial⟩ (List.nil_sublist _) ⟨mB, mB, mB, trivial⟩ fun x hx => ?_; obtain ⟨k, ts, o⟩ := x; obtain ⟨hk, hI, htl, hcap⟩ := hx
  try simp only at hk hI htl hcap
  refine hc_seq (hc_seq (hc_region (r_move rfl rfl (r_move rfl rfl ?_)))); refine r_len_sl rfl T.u_pages rfl ?_; refine r_lss rfl rfl rfl (hl_nil (then_n ?_))
  first | refine c_dec rfl (fun hb2 => ?_) (fun hb2 => ?_) | refine hc_cond rfl (fun hb2 => ?_) (fun hb2 => ?_)
  ·have hb2' := hb2; try simp at hb2'
   have hk2 : k < ps.length := by omega
   have hkm := getD_mem hk2; have hkl := hy6 _ hkm; refine hc_inner (A := A) (ps := ps) (p := (ps.getD k default)) mB hkm ?_; refine hc_skip (then_n (hc_seq (hc_block (hc_seq (hc_region (r_assign rfl rfl (hl_nil (then_n (hc_block ?_))))))))); refine hc_loop (β := Nat × List Ty × OutC) ⟨fun ⟨i, ts, o⟩ => i ≤ (ps.getD k default).l.length ∧ Ins ps (seenY ps k i) ts ∧ ts.length ≤ 6 * k + i ∧ ts.length ≤ o.2, fun ⟨i, ts, o⟩ => [(0, .slice A ps.length c), (5, .slice o.1 ts.length o.2), (6, int k), (7, int i)], fun _ => [], fun ⟨i, ts, o⟩ => [Row (ps.getD k default).a (rows (ps.getD k default).l), Row o.1 (rows ts), Row A (rows ps), Rows2 A ps]⟩ (fun x => (ps.getD k default).l.length - x.1) (0, ts, o) ⟨Nat.zero_le _, hI, htl, hcap⟩ ⟨rfl, rfl, rfl, rfl, trivial⟩ (.refl _) ⟨mB, mB, mB, mB, trivial⟩ fun x hx => ?_; clear hI htl hcap; obtain ⟨i, ts, o⟩ := x; obtain ⟨hi, hI, htl, hcap⟩ := hx
   try simp only at hi hI htl hcap
   refine hc_seq (hc_seq (hc_region (r_move rfl rfl (r_move rfl rfl (r_move rfl rfl ?_))))); refine r_elem (α := Sl Str) ps k rfl T.u_pages T.sz_strs rfl rfl rfl mB rfl hk2 (by decide) ?_; refine r_load (v := .slice (ps.getD k default).a (ps.getD k default).l.length (ps.getD k default).c) rfl T.cell_strs rfl (cell_row mB (rows_get0 hk2 rfl)) ?_; refine r_len_sl rfl T.u_strs rfl ?_; refine r_lss rfl rfl rfl (hl_nil (then_n ?_))
   first | refine c_dec rfl (fun hb3 => ?_) (fun hb3 => ?_) | refine hc_cond rfl (fun hb3 => ?_) (fun hb3 => ?_)
   ·have hb3' := hb3; try simp at hb3'
    have hi2 : i < (ps.getD k default).l.length := by omega
    refine hc_skip (then_n (hc_seq (hc_block (hc_seq (hc_region (r_move rfl rfl (r_move rfl rfl ?_))))))); refine r_elem (α := Sl Str) ps k rfl T.u_pages T.sz_strs rfl rfl rfl mB rfl hk2 (by decide) ?_; refine r_load (v := .slice (ps.getD k default).a (ps.getD k default).l.length (ps.getD k default).c) rfl T.cell_strs rfl (cell_row mB (rows_get0 hk2 rfl)) ?_; refine r_move rfl rfl ?_; refine r_elem (α := Str) (ps.getD k default).l i rfl T.u_strs T.sz_string rfl rfl rfl mB rfl hi2 (by decide) ?_; refine r_load (v := str ((ps.getD k default).l.getD i default)) rfl T.cell_string rfl (cell_row mB (rows_get0 hi2 rfl)) ?_; refine r_assign rfl rfl (hl_nil (then_n (hc_seq (hc_region (r_assign rfl rfl (hl_nil (then_n ?_))))))); refine hc_cut ⟨fun j : Nat => j ≤ ts.length ∧ (∀ q, q < j → (ts.getD q default).1 < ((ps.getD k default).l.getD i default)) ∧ (j < ts.length → ¬ (ts.getD j default).1 < ((ps.getD k default).l.getD i default)), fun j => [(0, .slice A ps.length c), (5, .slice o.1 ts.length o.2), (6, int k), (7, int i), (8, str ((ps.getD k default).l.getD i default)), (9, int j)], fun _ => [], fun _ => [Row (ps.getD k default).a (rows (ps.getD k default).l), Row o.1 (rows ts), Row A (rows ps), Rows2 A ps]⟩ ?_ ?_
    ·skip
     refine hc_block ?_; refine hc_loop (β := Nat) ⟨fun j => j ≤ ts.length ∧ ∀ q, q < j → (ts.getD q default).1 < ((ps.getD k default).l.getD i default), fun j => [(0, .slice A ps.length c), (5, .slice o.1 ts.length o.2), (6, int k), (7, int i), (8, str ((ps.getD k default).l.getD i default)), (9, int j)], fun _ => [], fun _ => [Row (ps.getD k default).a (rows (ps.getD k default).l), Row o.1 (rows ts), Row A (rows ps), Rows2 A ps]⟩ (fun j => ts.length - j) 0 ⟨Nat.zero_le _, fun q h => absurd h (Nat.not_lt_zero _)⟩ ⟨rfl, rfl, rfl, rfl, rfl, rfl, trivial⟩ (.refl _) ⟨mB, mB, mB, mB, trivial⟩ fun j hj => ?_; obtain ⟨hj, hlo⟩ := hj; refine hc_seq (hc_seq (hc_region (r_move rfl rfl (r_move rfl rfl ?_)))); refine r_len_sl rfl T.u_L_api_Type rfl ?_; refine r_lss rfl rfl rfl (r_move rfl rfl ?_); refine g_split rfl rfl ?_ ?_
     ·intro hg1; have hg1' := hg1; try simp at hg1'
      have hj2 : j < ts.length := by have h9 : (j : Int) < ts.length := of_decide_eq_true (bt1 hg1); omega
      refine g_yes rfl rfl hg1 (r_move rfl rfl (g_yes rfl rfl hg1 (r_move rfl rfl (g_yes rfl rfl hg1 ?_)))); refine r_elem (α := Ty) ts j rfl T.u_L_api_Type T.sz_api_Type rfl rfl rfl mB rfl (by omega) (by decide) ?_; refine g_yes rfl rfl hg1 ?_
      first | refine r_fieldAddr ⟨_, 0, none⟩ rfl rfl T.fa_api_Type_0 rfl ?_ | refine r_fieldAddr _ rfl rfl T.fa_api_Type_0 rfl ?_
      refine g_yes rfl rfl hg1 ?_; refine r_load (v := str (ts.getD j default).1) rfl T.cell_string rfl (cell_row_f mB (rows_get (by omega) rfl)) ?_; refine g_yes rfl rfl hg1 (r_move rfl rfl (g_yes rfl rfl hg1 (r_slss rfl rfl rfl ?_))); refine p_t rfl rfl (bt1 hg1) rfl ?_; refine hl_nil (then_n ?_)
      first | refine c_dec rfl (fun hb4 => ?_) (fun hb4 => ?_) | refine hc_cond rfl (fun hb4 => ?_) (fun hb4 => ?_)
      ·have hb4' := hb4; try simp at hb4'
       have hlt : (ts.getD j default).1 < ((ps.getD k default).l.getD i default) := by first | exact hb4 | (rw [bytesLess_eq] at hb4; exact of_decide_eq_true hb4)
       refine hc_skip (then_n (hc_block (hc_region (r_move rfl rfl ?_)))); refine r_add _ rfl rfl rfl rfl (by unfold I64; omega) ?_; refine r_assign rfl rfl (hl_nil (inb_n ?_)); exact again _ (j + 1) ⟨by show j + 1 ≤ ts.length; omega, fun q hq => (Nat.lt_succ_iff_lt_or_eq.1 hq).elim (hlo q) fun e => by rw [e]; exact hlt⟩ (by show ts.length - (j + 1) < ts.length - j; omega) ⟨rfl, rfl, rfl, rfl, rfl, rfl, trivial⟩ (.refl _) ⟨mB, mB, mB, mB, trivial⟩
      ·have hb4' := hb4; try simp at hb4'
       have hlt : ¬ (ts.getD j default).1 < ((ps.getD k default).l.getD i default) := by first | exact hb4 | (rw [bytesLess_eq] at hb4; exact of_decide_eq_false hb4)
       refine hc_exit (then_exit (then_exit (inb_hit ?_))); exact cut_n _ j ⟨hj, hlo, fun _ => hlt⟩ ⟨rfl, rfl, rfl, rfl, rfl, rfl, trivial⟩ (.refl _) ⟨mB, mB, mB, mB, trivial⟩
     ·intro hg1; have hg1' := hg1; try simp at hg1'
      have hj2 : j = ts.length := by have h9 : ¬ (j : Int) < ts.length := of_decide_eq_false (bf2 hg1); omega
      refine g_no rfl rfl rfl rfl rfl hg1 (g_no rfl rfl rfl rfl rfl hg1 (g_no rfl rfl rfl rfl rfl hg1 (g_no rfl rfl rfl rfl rfl hg1 (g_no rfl rfl rfl rfl rfl hg1 (g_no rfl rfl rfl rfl rfl hg1 (g_no rfl rfl rfl rfl rfl hg1 ?_)))))); refine p_f rfl rfl (bf2 hg1) rfl ?_; refine hl_nil (then_n (c_f rfl rfl (hc_exit (then_exit (then_exit (inb_hit ?_)))))); exact cut_n _ j ⟨hj, hlo, fun h => absurd h (by omega)⟩ ⟨rfl, rfl, rfl, rfl, rfl, rfl, trivial⟩ (.refl _) ⟨mB, mB, mB, mB, trivial⟩
    ·intro j hj; obtain ⟨hj, hlo, hno⟩ := hj; refine hc_cut ⟨fun _ : Unit => True, fun _ => [(0, .slice A ps.length c), (5, .slice o.1 ts.length o.2), (6, int k), (7, int i), (8, str ((ps.getD k default).l.getD i default)), (9, int j), (64, .bool (decide (j = ts.length ∨ ¬ (ts.getD j default).1 = ((ps.getD k default).l.getD i default))))], fun _ => [], fun _ => [Row (ps.getD k default).a (rows (ps.getD k default).l), Row o.1 (rows ts), Row A (rows ps), Rows2 A ps]⟩ ?_ ?_
     ·skip
      refine hc_region (r_move rfl rfl (r_move rfl rfl ?_)); refine r_len_sl rfl T.u_L_api_Type rfl ?_; refine r_eql rfl rfl rfl (r_move rfl rfl ?_); refine g_split rfl rfl ?_ ?_
      ·intro hg2; have hg2' := hg2; try simp at hg2'
       have hj2 : j < ts.length := by have h9 : ¬ (j : Int) = ts.length := of_decide_eq_false (bf1 hg2); omega
       refine g_yes rfl rfl hg2 (r_move rfl rfl (g_yes rfl rfl hg2 (r_move rfl rfl (g_yes rfl rfl hg2 ?_)))); refine r_elem (α := Ty) ts j rfl T.u_L_api_Type T.sz_api_Type rfl rfl rfl mB rfl (by omega) (by decide) ?_; refine g_yes rfl rfl hg2 ?_
       first | refine r_fieldAddr ⟨_, 0, none⟩ rfl rfl T.fa_api_Type_0 rfl ?_ | refine r_fieldAddr _ rfl rfl T.fa_api_Type_0 rfl ?_
       refine g_yes rfl rfl hg2 ?_; refine r_load (v := str (ts.getD j default).1) rfl T.cell_string rfl (cell_row_f mB (rows_get (by omega) rfl)) ?_; refine g_yes rfl rfl hg2 (r_move rfl rfl (g_yes rfl rfl hg2 (r_sneq rfl rfl rfl ?_))); refine p_f rfl rfl (bf1 hg2) rfl ?_; refine hl_nil ?_; exact cut_n _ () trivial ⟨rfl, rfl, rfl, rfl, rfl, rfl, congrArg (fun b => some (Value.bool b)) (by first | exact decide_eq_decide.2 ⟨fun e => .inr e, fun e => e.resolve_left (by omega)⟩ | (rw [show decide (j = ts.length ∨ ¬ (ts.getD j default).1 = ((ps.getD k default).l.getD i default)) = decide (¬ (ts.getD j default).1 = ((ps.getD k default).l.getD i default)) from decide_eq_decide.2 ⟨fun e => e.resolve_left (by omega), .inr⟩]; simp)), trivial⟩ (.refl _) ⟨mB, mB, mB, mB, trivial⟩
      ·intro hg2; have hg2' := hg2; try simp at hg2'
       have hj2 : j = ts.length := by have h9 : (j : Int) = ts.length := of_decide_eq_true (bt2 hg2); omega
       refine g_no rfl rfl rfl rfl rfl hg2 (g_no rfl rfl rfl rfl rfl hg2 (g_no rfl rfl rfl rfl rfl hg2 (g_no rfl rfl rfl rfl rfl hg2 (g_no rfl rfl rfl rfl rfl hg2 (g_no rfl rfl rfl rfl rfl hg2 (g_no rfl rfl rfl rfl rfl hg2 ?_)))))); refine p_t rfl rfl (bt2 hg2) rfl ?_; refine hl_nil ?_; exact cut_n _ () trivial ⟨rfl, rfl, rfl, rfl, rfl, rfl, congrArg (fun b => some (Value.bool b)) (by exact (decide_eq_true (.inl hj2)).symm), trivial⟩ (.refl _) ⟨mB, mB, mB, mB, trivial⟩
     ·refine fun _ _ => ?_
      first | refine c_dec rfl (fun hb5 => ?_) (fun hb5 => ?_) | refine hc_cond rfl (fun hb5 => ?_) (fun hb5 => ?_)
      ·have hb5' := hb5; try simp at hb5'
       have hhi : ∀ q, j ≤ q → q < ts.length → ((ps.getD k default).l.getD i default) < (ts.getD q default).1 := by
         intro q hq1 hq2; have hj3 : j < ts.length := by omega
         have hne : ¬ (ts.getD j default).1 = ((ps.getD k default).l.getD i default) := hb5.resolve_left (by omega); have hj4 : ((ps.getD k default).l.getD i default) < (ts.getD j default).1 := Classical.byContradiction fun h => hne (cmpT_eq (hno hj3) h)
         rcases Nat.lt_or_ge j q with h | h
         · have h9 := List.pairwise_iff_getElem.1 hI.asc j q hj3 hq2 h
           rw [← getD_at hj3, ← getD_at hq2] at h9; exact List.lt_trans hj4 h9
         · rw [show q = j by omega]; exact hj4
       have hIn := (hI.new (fun q h1 _ => hlo q h1) hhi).congr (seen_one9 hi2); have hnl : (ts.take j ++ [((((ps.getD k default).l.getD i default), (stockN ps ((ps.getD k default).l.getD i default) : Int)) : Ty)] ++ ts.drop j).length = ts.length + 1 := by rw [List.length_append, List.length_append, List.length_take, List.length_drop, Nat.min_eq_left hj, List.length_singleton]; omega
       refine hc_drawW ([]) ([]) (.refl _) 15 [11, 4, 0] mixed (by decide) (by decide) (by decide) rfl rfl rfl ?_; refine hb_wr ⟨OutC × Hp, fun x => Grow T.api_Type 2 x.1.1 0 x.1.2 ([]) x.2, fun x => .slice x.1.1 0 x.1.2, fun _ => [], fun x => x.2⟩ rfl rfl rfl ?_ ?_
       ·intro w1; refine r_buildSlice [] rfl rfl (fun _ => T.bs_L_api_Type_0 ..) fun gS => ?_; refine hl_nil ?_; exact qw_done ((some ⟨gS, 0, none⟩, 0), [_]) (Grow.new (cs := #[]) (n := 0) rfl (Nat.zero_le _)) (fun _ => rfl) (.refl _) trivial
       refine hb_ex _ rfl rfl rfl (fun w1 => r_move rfl rfl (hl_nil (qe_done rfl))) ?_; refine hb_ex _ rfl rfl rfl (fun w1 => r_move rfl rfl (hl_nil (qe_done rfl))) ?_; refine hb_ex _ rfl rfl rfl (fun w1 => r_slice_hi j rfl T.u_L_api_Type T.sz_api_Type rfl rfl rfl (by omega) (hl_nil (qe_done rfl))) ?_; refine hb_wr ⟨OutC × Hp, fun x => Grow T.api_Type 2 x.1.1 j x.1.2 (rows (ts.take j)) x.2, fun x => .slice x.1.1 j x.1.2, fun _ => [], fun x => x.2⟩ rfl rfl rfl ?_ ?_
       ·intro x0 hx0; intro w1; refine hl_takerow (A := o.1) (ps := ts) j mB ?_; refine r_append j (rows (ts.take j)) T.el_L_api_Type rfl rfl rfl hx0 (hp' := []) (by rw [List.append_nil]) (Src.row (news := rows (ts.take j)) (m := j) m0 (by rw [rows_len, List.length_take, Nat.min_eq_left hj]; rfl) (rows_one _) (by decide)) (by omega) rfl (by unfold maxLen; omega) (by omega) fun A1 c1 og1 hG1 => ?_; refine hl_nil ?_; exact qw_done ((A1, c1), og1) hG1 (fun _ => rfl) (by rw [List.append_nil]; exact .refl _) trivial
       refine hb_ex _ rfl rfl rfl (fun w1 => r_move rfl rfl (hl_nil (qe_done rfl))) ?_; refine hb_ex _ rfl rfl rfl (fun w1 => r_move rfl rfl (hl_nil (qe_done rfl))) ?_; refine hb_ex _ rfl rfl rfl (fun w1 => r_move rfl rfl (hl_nil (qe_done rfl))) ?_; refine hb_ex _ rfl rfl rfl (fun w1 => hl_call F.ref07_stock_cb rfl rfl (ref07_stock_meets ps ((ps.getD k default).l.getD i default) (by omega) (fun q hq => by have := hy6 q hq; omega)) (List.Perm.refl _) ⟨mB, trivial⟩ fun _ _ => (hl_nil (qe_done rfl))) ?_; refine hb_ex _ rfl rfl rfl (fun w1 => r_build _ rfl rfl (fun _ => T.bd_api_Type_0_1 ..) (hl_nil (qe_done rfl))) ?_; refine hb_vs ⟨Nat, fun _ => True, fun g => .slice (some ⟨g, 0, none⟩) 1 1, fun g => [Row (some ⟨g, 0, none⟩) (rows [((((ps.getD k default).l.getD i default), (stockN ps ((ps.getD k default).l.getD i default) : Int)) : Ty)])]⟩ rfl rfl rfl ?_ ?_
       ·intro w1; refine r_buildSlice _ rfl rfl (fun _ => T.bs_L_api_Type_1 ..) fun gS => ?_; refine hl_nil ?_; refine hq_letgo (rows [((((ps.getD k default).l.getD i default), (stockN ps ((ps.getD k default).l.getD i default) : Int)) : Ty)]) (List.prefix_refl _) ?_; exact qv_done gS trivial rfl ⟨m0, trivial⟩
       refine hb_wr ⟨OutC × Hp, fun x => Grow T.api_Type 2 x.1.1 (j + 1) x.1.2 (rows (ts.take j ++ [((((ps.getD k default).l.getD i default), (stockN ps ((ps.getD k default).l.getD i default) : Int)) : Ty)])) x.2, fun x => .slice x.1.1 (j + 1) x.1.2, fun _ => [], fun x => x.2⟩ rfl rfl rfl ?_ ?_
       ·intro x4 hx4 x10 hx10; intro w1; refine r_append (j + 1) (rows (ts.take j ++ [((((ps.getD k default).l.getD i default), (stockN ps ((ps.getD k default).l.getD i default) : Int)) : Ty)])) T.el_L_api_Type rfl rfl rfl hx4 (hp' := []) (by rw [List.append_nil]) (Src.row (news := rows [((((ps.getD k default).l.getD i default), (stockN ps ((ps.getD k default).l.getD i default) : Int)) : Ty)]) (m := 1) mB rfl (rows_one _) (by decide)) rfl (rows_append _ _).symm (by unfold maxLen; omega) (by omega) fun A1 c1 og1 hG1 => ?_; refine hl_nil ?_; exact qw_done ((A1, c1), og1) hG1 (fun _ => rfl) (by rw [List.append_nil]; exact .refl _) trivial
       refine hb_ex _ rfl rfl rfl (fun w1 => r_move rfl rfl (hl_nil (qe_done rfl))) ?_; refine hb_ex _ rfl rfl rfl (fun w1 => r_move rfl rfl (hl_nil (qe_done rfl))) ?_; refine hb_ex _ rfl rfl rfl (fun w1 => r_slice_lo j rfl T.u_L_api_Type T.sz_api_Type rfl rfl rfl (by omega) (hl_nil (qe_done rfl))) ?_; refine hb_nil ⟨rfl, ?_⟩; intro _ _ _ _ _ _ x11 hx11; refine hl_cut (A := o.1) (p := ts) (ca := o.2) j ts.length mB hcap ?_; rw [List.take_length]; refine r_append (ts.length + 1) (rows (ts.take j ++ [((((ps.getD k default).l.getD i default), (stockN ps ((ps.getD k default).l.getD i default) : Int)) : Ty)] ++ ts.drop j)) T.el_L_api_Type rfl rfl rfl hx11 (hp' := []) (by first | exact .refl _ | simp) (Src.row (news := rows (ts.drop j)) (m := ts.length - j) m0 (by rw [rows_len, List.length_drop]; rfl) (rows_one _) (by decide)) (by omega) (rows_append _ _).symm (by unfold maxLen; omega) (by omega) fun A1 c1 og1 hG1 => ?_; have hle1 := hG1.le; refine hl_grown hG1 (r_assign rfl rfl (hl_nil (inb_n (then_n (hc_region (r_move rfl rfl ?_)))))); refine r_add _ rfl rfl rfl rfl (by unfold I64; omega) ?_; refine r_assign rfl rfl (hl_nil ?_); exact again _ (i + 1, (ts.take j ++ [((((ps.getD k default).l.getD i default), (stockN ps ((ps.getD k default).l.getD i default) : Int)) : Ty)] ++ ts.drop j), (A1, c1)) ⟨by show i + 1 ≤ _; omega, hIn, by rw [hnl]; omega, by rw [hnl]; exact hle1⟩ (by show (ps.getD k default).l.length - (i + 1) < (ps.getD k default).l.length - i; omega) ⟨rfl, by rw [hnl]; rfl, rfl, rfl, trivial⟩ (List.nil_sublist _) ⟨mB, mB, mB, mB, trivial⟩
      ·have hb5' := hb5; try simp at hb5'
       have hj3 : j < ts.length := by omega
       have heq : (ts.getD j default).1 = ((ps.getD k default).l.getD i default) := Classical.byContradiction fun h => hb5 (.inr h); have hIo := (hI.old (s := ((ps.getD k default).l.getD i default)) (List.mem_map.2 ⟨_, getD_mem hj3, heq⟩)).congr (seen_one9 hi2); refine hc_skip (inb_n (then_n (hc_region (r_move rfl rfl ?_)))); refine r_add _ rfl rfl rfl rfl (by unfold I64; omega) ?_; refine r_assign rfl rfl (hl_nil ?_); exact again _ (i + 1, ts, o) ⟨by show i + 1 ≤ _; omega, hIo, by omega, hcap⟩ (by show (ps.getD k default).l.length - (i + 1) < (ps.getD k default).l.length - i; omega) ⟨rfl, rfl, rfl, rfl, trivial⟩ (List.nil_sublist _) ⟨mB, mB, mB, mB, trivial⟩
   ·have hb3' := hb3; try simp at hb3'
    obtain rfl : i = (ps.getD k default).l.length := by omega
    refine hc_exit (then_exit (then_exit (inb_hit (inb_n (then_n (hc_region (r_move rfl rfl ?_))))))); refine r_add _ rfl rfl rfl rfl (by unfold I64; omega) ?_; refine r_assign rfl rfl (hl_nil ?_); exact again _ (k + 1, ts, o) ⟨by show k + 1 ≤ _; omega, hI.congr seen_row9, by omega, hcap⟩ (by show ps.length - (k + 1) < ps.length - k; omega) ⟨rfl, rfl, rfl, trivial⟩ (List.nil_sublist _) ⟨mB, mB, mB, trivial⟩
  ·have hb2' := hb2; try simp at hb2'
   obtain rfl : k = ps.length := by omega
   refine hc_exit (then_exit (then_exit (inb_hit (then_n (hc_seq (hc_region (r_move rfl rfl (r_assign rfl rfl (r_assign rfl rfl (hl_nil (then_n ?_))))))))))); refine hc_ret ?_; exact ret2 (ts, o) rfl rfl rfl (by show Value.tuple #[.slice o.1 ts.length o.2, int (yearsErr (years ps))] = _; rw [hy0]) rfl ⟨fun _ => ins_end hI, fun h => absurd hy0 h⟩ (List.nil_sublist _) ⟨mB, trivial⟩
end Go.Proofs.YtpbbgbjidhffoaaGreat
end
section
namespace Go.Proofs.YtpbbgbjidhffoaaGreat
open Go Go.W
set_option maxRecDepth 20000
attribute [local irreducible] HL HC HQ HB Row Rows2 Blk Facts
theorem yl_at (a : List (Sl Str)) (k : Nat) : (a.getD k default).l = (years a).getD k default := by
  rw [List.getD_eq_getElem?_getD, List.getD_eq_getElem?_getD, List.getElem?_map]
  cases a[k]? <;> rfl
section
variable {a b : List (Sl Str)} (h : years a = years b)
include h
theorem yl_len : a.length = b.length := by
  have := congrArg List.length h
  rwa [years_len, years_len] at this
theorem originN_congr (s : Str) : ∀ k, originN a s k = originN b s k
  | 0 => rfl
  | k + 1 => by rw [originN, originN, originN_congr s k, yl_at a, yl_at b, h]
theorem originE_congr (p : List Str) : originE a p = originE b p := by
  unfold originE; rw [h, yl_len h]; have : (fun s => originN a s b.length) = fun s => originN b s b.length := funext fun s => originN_congr h s _; rw [this]
theorem backE_congr (p : List Str) : backE a p = backE b p := by
  unfold backE backL; rw [h]; have : qB a p = qB b p := funext fun i => by unfold qB; rw [originN_congr h, yl_len h]
  rw [this]
theorem stockN_congr (s : Str) : stockN a s = stockN b s := by
  have e : ∀ l : List (Sl Str), stockN l s = (years l).foldl (fun n p => max n (countN p s)) 0 := fun l => by
    unfold stockN; rw [List.foldl_map]
  rw [e, e, h]
theorem freshE_congr (p : List Str) : freshE a p = freshE b p := by
  unfold freshE; rw [h, show stockN a = stockN b from funext (stockN_congr h)]
theorem stockR_congr {ts : List Ty} (hr : StockR a ts) : StockR b ts := ⟨fun e => by
    have h1 := hr.ok (by rw [h]; exact e)
    exact ⟨h1.asc, fun s n => by rw [h1.mem, stockN_congr h]⟩, fun e => hr.no (by rw [h]; exact e)⟩
end
theorem stockR_uniq {ps : List (Sl Str)} {a b : List Ty} (ha : StockR ps a) (hb : StockR ps b) : a = b := by
  by_cases e : yearsErr (years ps) = 0
  · exact (ha.ok e).uniq (hb.ok e)
  · rw [ha.no e, hb.no e]
theorem stockR_len {ps : List (Sl Str)} {ts : List Ty} (h : StockR ps ts) : ts.length ≤ 24 := by
  by_cases e : yearsErr (years ps) = 0
  · obtain ⟨h4, h6⟩ := yearsErr_zero e
    have := (h.ok e).len h6
    omega
  · rw [h.no e]; exact Nat.zero_le _
theorem originE_len (ps : List (Sl Str)) (p : List Str) : (originE ps p).1.length ≤ p.length := by
  unfold originE
  split
  · exact Nat.zero_le _
  · exact Nat.le_of_eq (List.length_map ..)
theorem backE_len (ps : List (Sl Str)) (p : List Str) : (backE ps p).1.length ≤ p.length := by
  unfold backE
  split
  · exact Nat.zero_le _
  · exact back_le ps p _
set_option maxHeartbeats 4000000 in
theorem law07_ProofYears_meets {A B N : Option Addr} {ca cb cn : Nat} (ys : List (Sl Str)) (p : List Str) (nums : List Int) (hy : ys.length ≤ 9223372036854775807 ∧ ys.length ≤ ca) (hyq : ∀ q ∈ ys, q.l.length ≤ 9223372036854775807) (hp : p.length ≤ 9223372036854775807 ∧ p.length ≤ cb) (hn : nums.length ≤ 9223372036854775807) :
    Meets Tryz.prog F.law07_ProofYears [.slice A ys.length ca, .slice B p.length cb, .slice N nums.length cn] { LI := [Rows2 A ys, Row B (rows p), Row N (rows nums)], val := fun _ : Unit => .bool true } := by
 refine meets_intro F.law07_ProofYears_f rfl (Nat.le_of_ble_eq_true rfl) fun w0 => ?_; refine hc_seq (hc_region (r_assign rfl rfl (hl_nil (then_n (hc_seq (hc_seq (hc_region (r_move rfl rfl ?_)))))))); refine hl_call F.law07_old_cb rfl rfl (law07_old_meets ys hy.1 hyq) (List.Perm.refl _) ⟨mB, trivial⟩ fun _ _ => ?_; refine r_move rfl rfl ?_; refine g_split rfl rfl ?_ ?_
 ·intro hg1; have hg1' := hg1; try simp at hg1'
  have hold := bf1 hg1; have hold2 := oldP_false hold; rw [years_len] at hold2; have hyq2 : ∀ q ∈ ys, q.l.length ≤ 20 := fun q hq => hold2.2 _ (List.mem_map_of_mem hq); refine g_yes rfl rfl hg1 (r_move rfl rfl (g_yes rfl rfl hg1 ?_)); refine hl_call F.law07_long_cb rfl rfl (law07_long_meets p hp.1) (List.Perm.refl _) ⟨mB, trivial⟩ fun _ _ => ?_; refine p_f rfl rfl (bf1 hg1) rfl ?_; refine hl_nil (then_n ?_)
  first | refine c_dec rfl (fun hb1 => ?_) (fun hb1 => ?_) | refine hc_cond rfl (fun hb1 => ?_) (fun hb1 => ?_)
  ·have hb1' := hb1; try simp at hb1'
   refine hc_seq (hc_region ?_); refine hl_call F.law07_correcting_cb rfl rfl (law07_correcting_meets) (List.Perm.refl _) trivial fun _ _ => ?_; refine r_assign rfl rfl (hl_nil (then_n (hc_ret (then_ret ?_)))); exact ret1 () rfl rfl rfl trivial (List.nil_sublist _) trivial
  ·have hb1' := hb1; try simp at hb1'
   have hlon : longP p = false := by simpa using hb1
   have hpl := (longP_false hlon).1; refine hc_skip (then_n (hc_seq (hc_region (r_move rfl rfl ?_)))); refine hl_call F.kit_NewDice_cb rfl rfl (kit_NewDice_meets nums) (List.Perm.refl _) ⟨mB, trivial⟩ fun gd _ => ?_; refine r_assign rfl rfl (hl_nil (then_n (hc_seq (hc_region (r_move rfl rfl ?_))))); refine hl_call F.kit_YearsOf_cb rfl rfl (kit_YearsOf_meets 4 hn (dok0 nums) (by omega)) (.refl _) ⟨mB, trivial⟩ fun r hr => ?_; obtain ⟨s1, M, oM⟩ := r; obtain ⟨hs1, hMn, hMo, hMc⟩ := hr; simp only at hMn hMc hMo; have hjM : (s1, M, oM).snd.fst.length = M.length := rfl; refine r_assign rfl rfl (hl_nil (then_n (hc_seq (hc_region (r_move rfl rfl (r_move rfl rfl (r_move rfl rfl ?_))))))); refine r_buildSlice _ rfl rfl (fun _ => T.bs_L_L_L_string_3 ..) fun g50 => ?_; refine hl_letgo (rows [(⟨A, ca, ys⟩ : Sl (Sl Str)), ⟨oM.1, oM.2, M⟩, ⟨oM.1, oM.2, M⟩]) (List.prefix_refl _) ?_; refine r_move rfl rfl (r_move rfl rfl ?_); refine hl_call F.kit_PageOf_cb rfl rfl (kit_PageOf_meets 6 hn hs1 (by omega)) (.refl _) ⟨mB, trivial⟩ fun r hr => ?_; obtain ⟨s2, x, ox⟩ := r; obtain ⟨hs2, hxn, hxo, hxc⟩ := hr; simp only at hxn hxc hxo; have hjx : (s2, x, ox).snd.fst.length = x.length := rfl; refine r_move rfl rfl ?_; refine r_buildSlice _ rfl rfl (fun _ => T.bs_pages_3 ..) fun g52 => ?_; refine hl_letgo (rows [(⟨B, cb, p⟩ : Sl Str), ⟨ox.1, ox.2, x⟩, ⟨B, cb, p⟩]) (List.prefix_refl _) ?_; refine r_assign rfl rfl (r_assign rfl rfl (hl_nil (then_n (hc_seq (hc_seq ?_))))); have hM20 : ∀ q ∈ M, q.l.length ≤ 20 := fun q hq => by have := (hMo q hq).2.1; omega
   have yal : ∀ w ∈ [(⟨A, ca, ys⟩ : Sl (Sl Str)), ⟨oM.1, oM.2, M⟩, ⟨oM.1, oM.2, M⟩], w.l.length ≤ 20 ∧ w.l.length ≤ w.c ∧ ∀ q ∈ w.l, q.l.length ≤ 20 := by
     intro w hw; simp only [List.mem_cons, List.not_mem_nil, or_false] at hw
     rcases hw with rfl | rfl | rfl
     · exact ⟨hold2.1, hy.2, hyq2⟩
     all_goals exact ⟨by show M.length ≤ 20; omega, hMc, hM20⟩
   have pal : ∀ w ∈ [(⟨B, cb, p⟩ : Sl Str), ⟨ox.1, ox.2, x⟩, ⟨B, cb, p⟩], w.l.length ≤ 20 ∧ w.l.length ≤ w.c := by
     intro w hw; simp only [List.mem_cons, List.not_mem_nil, or_false] at hw
     rcases hw with rfl | rfl | rfl
     · exact ⟨hpl, hp.2⟩
     · exact ⟨by show x.length ≤ 20; omega, hxc⟩
     · exact ⟨hpl, hp.2⟩
   refine hc_facts (Fs := [(⟨A, ca, ys⟩ : Sl (Sl Str)), ⟨oM.1, oM.2, M⟩, ⟨oM.1, oM.2, M⟩].map fun w => Rows2 w.a w.l) (by intro F hF; left; simp only [List.map_cons, List.map_nil, List.mem_cons, List.not_mem_nil, or_false] at hF; rcases hF with rfl | rfl | rfl <;> repeat constructor) ?_; refine hc_rows2 (A := (some ⟨g52, 0, none⟩)) (ps := [(⟨B, cb, p⟩ : Sl Str), ⟨ox.1, ox.2, x⟩, ⟨B, cb, p⟩]) mB (by intro w hw; simp only [List.mem_cons, List.not_mem_nil, or_false] at hw; rcases hw with rfl | rfl | rfl <;> repeat constructor) ?_; have h3y : [(⟨A, ca, ys⟩ : Sl (Sl Str)), ⟨oM.1, oM.2, M⟩, ⟨oM.1, oM.2, M⟩].length = 3 := rfl; have h3p : [(⟨B, cb, p⟩ : Sl Str), ⟨ox.1, ox.2, x⟩, ⟨B, cb, p⟩].length = 3 := rfl; generalize [(⟨A, ca, ys⟩ : Sl (Sl Str)), ⟨oM.1, oM.2, M⟩, ⟨oM.1, oM.2, M⟩] = yL at *; generalize [(⟨B, cb, p⟩ : Sl Str), ⟨ox.1, ox.2, x⟩, ⟨B, cb, p⟩] = pL at *; refine hc_region (r_assign rfl rfl (hl_nil (then_n (hc_block ?_)))); refine hc_loop (β := Nat) ⟨fun i => i ≤ 3, fun i => [(9, .slice (some ⟨g50, 0, none⟩) 3 3), (10, .slice (some ⟨g52, 0, none⟩) 3 3), (11, int i)], fun _ => [], fun _ => [Row (some ⟨g52, 0, none⟩) (rows pL), Row (some ⟨g50, 0, none⟩) (rows yL), Rows2 (some ⟨g52, 0, none⟩) pL, Facts (yL.map fun p => Rows2 p.a p.l)]⟩ (fun i => 3 - i) 0 (Nat.zero_le _) ⟨rfl, rfl, rfl, trivial⟩ (List.nil_sublist _) ⟨mB, mB, mB, mB, trivial⟩ fun i hi => ?_; simp only at hi; refine hc_seq (hc_seq (hc_region (r_move rfl rfl (r_move rfl rfl ?_)))); refine r_len_sl rfl T.u_L_L_L_string rfl ?_; refine r_lss rfl rfl rfl (hl_nil (then_n ?_))
   first | refine c_dec rfl (fun hb2 => ?_) (fun hb2 => ?_) | refine hc_cond rfl (fun hb2 => ?_) (fun hb2 => ?_)
   ·have hb2' := hb2; try simp at hb2'
    have hi2 : i < 3 := by omega
    obtain ⟨Y, hY⟩ : ∃ Y, Y = yL.getD i default := ⟨_, rfl⟩; obtain ⟨Q, hQ⟩ : ∃ Q, Q = pL.getD i default := ⟨_, rfl⟩; have hmy : Y ∈ yL := by rw [hY]; exact getD_mem (by omega)
    have hmp : Q ∈ pL := by rw [hQ]; exact getD_mem (by omega)
    have hya := yal _ hmy; have hpa := pal _ hmp; refine hc_pick (F := Rows2 Y.a Y.l) (Fs := yL.map fun p => Rows2 p.a p.l) mB (List.mem_map.2 ⟨_, hmy, rfl⟩) ?_; refine hc_inner (A := (some ⟨g52, 0, none⟩)) (ps := pL) (p := Q) mB hmp ?_; refine hc_skip (then_n (hc_seq (hc_block (hc_seq ?_)))); refine hc_draw 9 mixed (by decide) (by decide) rfl rfl ?_; refine hb_ex _ rfl rfl rfl (fun w1 => r_move rfl rfl (hl_nil (qe_done rfl))) ?_; refine hb_ex _ rfl rfl rfl (fun w1 => r_move rfl rfl (hl_nil (qe_done rfl))) ?_; refine hb_ex _ rfl rfl rfl (fun w1 => r_elem (α := Sl (Sl Str)) yL i rfl T.u_L_L_L_string T.sz_pages rfl rfl rfl mB h3y.symm (by omega) (by decide) (hl_nil (qe_done rfl))) ?_; refine hb_ex _ rfl rfl rfl (fun w1 => r_load (v := .slice Y.a Y.l.length Y.c) rfl T.cell_pages rfl (cell_row mB (by rw [hY]; exact rows_get0 (by omega) rfl)) (hl_nil (qe_done rfl))) ?_; refine hb_vs ⟨List (Sl Str) × OutC, fun x => years x.1 = years Y.l ∧ CapOK x.1 ∧ x.1.length ≤ x.2.2, fun x => .slice x.2.1 x.1.length x.2.2, fun x => [Rows2 x.2.1 x.1]⟩ rfl rfl rfl ?_ ?_
    ·intro w1; refine hl_call F.kit_DupYears_cb rfl rfl (kit_DupYears_meets Y.l (by omega) (fun q hq => by have := hya.2.2 q hq; omega)) (List.Perm.refl _) ⟨mB, trivial⟩ fun z hz => ?_; refine hl_nil ?_; exact qv_done z hz rfl ⟨m0, trivial⟩
    refine hb_ex _ rfl rfl rfl (fun w1 => r_move rfl rfl (hl_nil (qe_done rfl))) ?_; refine hb_ex _ rfl rfl rfl (fun w1 => r_move rfl rfl (hl_nil (qe_done rfl))) ?_; refine hb_ex _ rfl rfl rfl (fun w1 => r_elem (α := Sl Str) pL i rfl T.u_pages T.sz_strs rfl rfl rfl mB h3p.symm (by omega) (by decide) (hl_nil (qe_done rfl))) ?_; refine hb_ex _ rfl rfl rfl (fun w1 => r_load (v := .slice Q.a Q.l.length Q.c) rfl T.cell_strs rfl (cell_row mB (by rw [hQ]; exact rows_get0 (by omega) rfl)) (hl_nil (qe_done rfl))) ?_; refine hb_nil ⟨rfl, ?_⟩; intro x4 hx4; obtain ⟨D, oD⟩ := x4; obtain ⟨hDy, hDc, hDl⟩ := hx4; simp only at hDy hDc hDl; refine hl_call F.kit_DupStrings_cb rfl rfl (kit_DupStrings_meets Q.l (by omega)) (List.Perm.refl _) ⟨mB, trivial⟩ fun x9 hx9 => ?_; refine r_assign rfl rfl (r_assign rfl rfl (hl_nil (then_n (hc_seq (hc_region (r_move rfl rfl (r_move rfl rfl ?_))))))); have hO := proof_Origin_meets (A := oD.1) (ca := oD.2) (B := x9.1) (cb := x9.2) D Q.l; rw [originE_congr hDy] at hO; have hol := originE_len Y.l Q.l; refine hl_call F.proof_Origin_cb rfl rfl (hO) (List.Perm.refl _) ⟨mB, mB, trivial⟩ fun r1 hr1 => ?_; refine r_move rfl rfl (r_extract rfl rfl rfl (r_extract rfl rfl rfl (r_assign rfl rfl (r_assign rfl rfl (hl_nil (then_n (hc_seq ?_))))))); refine hc_draw 13 mixed (by decide) (by decide) rfl rfl ?_; refine hb_ex _ rfl rfl rfl (fun w1 => r_move rfl rfl (hl_nil (qe_done rfl))) ?_; refine hb_ex _ rfl rfl rfl (fun w1 => r_move rfl rfl (hl_nil (qe_done rfl))) ?_; refine hb_ex _ rfl rfl rfl (fun w1 => r_elem (α := Sl (Sl Str)) yL i rfl T.u_L_L_L_string T.sz_pages rfl rfl rfl mB h3y.symm (by omega) (by decide) (hl_nil (qe_done rfl))) ?_; refine hb_ex _ rfl rfl rfl (fun w1 => r_load (v := .slice Y.a Y.l.length Y.c) rfl T.cell_pages rfl (cell_row mB (by rw [hY]; exact rows_get0 (by omega) rfl)) (hl_nil (qe_done rfl))) ?_; refine hb_ex _ rfl rfl rfl (fun w1 => r_move rfl rfl (hl_nil (qe_done rfl))) ?_; refine hb_ex _ rfl rfl rfl (fun w1 => r_move rfl rfl (hl_nil (qe_done rfl))) ?_; refine hb_ex _ rfl rfl rfl (fun w1 => r_elem (α := Sl Str) pL i rfl T.u_pages T.sz_strs rfl rfl rfl mB h3p.symm (by omega) (by decide) (hl_nil (qe_done rfl))) ?_; refine hb_ex _ rfl rfl rfl (fun w1 => r_load (v := .slice Q.a Q.l.length Q.c) rfl T.cell_strs rfl (cell_row mB (by rw [hQ]; exact rows_get0 (by omega) rfl)) (hl_nil (qe_done rfl))) ?_; refine hb_vs ⟨OutC, fun y => (originE Y.l Q.l).1.length ≤ y.2, fun y => .tuple #[.slice y.1 (originE Y.l Q.l).1.length y.2, int (originE Y.l Q.l).2], fun y => [Row y.1 (rows (originE Y.l Q.l).1)]⟩ rfl rfl rfl ?_ ?_
    ·intro w1; refine hl_call F.ref07_Origin_cb rfl rfl (ref07_Origin_meets (A := Y.a) (ca := Y.c) (B := Q.a) (cb := Q.c) Y.l Q.l) (List.Perm.refl _) ⟨mB, mB, trivial⟩ fun y hy => ?_; refine hl_nil ?_; exact qv_done y hy rfl ⟨m0, trivial⟩
    refine hb_vs ⟨OutC, fun y => (originE Y.l Q.l).1.length ≤ y.2, fun y => .tuple #[.slice y.1 (originE Y.l Q.l).1.length y.2, int (originE Y.l Q.l).2], fun y => [Row y.1 (rows (originE Y.l Q.l).1)]⟩ rfl rfl rfl ?_ ?_
    ·intro y hy; intro w1; refine r_move rfl rfl (hl_nil ?_); exact qv_done y hy rfl ⟨m0, trivial⟩
    refine hb_vs ⟨OutC, fun y => (originE Y.l Q.l).1.length ≤ y.2, fun y => .slice y.1 (originE Y.l Q.l).1.length y.2, fun y => [Row y.1 (rows (originE Y.l Q.l).1)]⟩ rfl rfl rfl ?_ ?_
    ·intro y hy; intro w1; refine r_extract rfl rfl rfl (hl_nil ?_); exact qv_done y hy rfl ⟨m0, trivial⟩
    apply hb_ex _ rfl rfl rfl
    ·intro y hy; intro w1; refine r_extract rfl rfl rfl (hl_nil ?_); exact qe_done rfl
    refine hb_vs ⟨OutC, fun y => (originE Y.l Q.l).1.length ≤ y.2, fun y => .slice y.1 (originE Y.l Q.l).1.length y.2, fun y => [Row y.1 (rows (originE Y.l Q.l).1)]⟩ rfl rfl rfl ?_ ?_
    ·intro y hy; intro w1; refine r_assign rfl rfl (hl_nil ?_); exact qv_done y hy rfl ⟨m0, trivial⟩
    refine hb_nil ⟨rfl, ?_⟩; intro _ _ _ _ _ _ q1 hq1; refine r_assign rfl rfl (hl_nil (then_n (hc_seq (hc_region (r_move rfl rfl (r_move rfl rfl ?_)))))); have hB := proof_Back_meets (A := oD.1) (ca := oD.2) (B := x9.1) (cb := x9.2) D Q.l; rw [backE_congr hDy] at hB; have hbl := backE_len Y.l Q.l; refine hl_call F.proof_Back_cb rfl rfl (hB) (List.Perm.refl _) ⟨mB, mB, trivial⟩ fun r2 hr2 => ?_; refine r_move rfl rfl (r_extract rfl rfl rfl (r_extract rfl rfl rfl (r_assign rfl rfl (r_assign rfl rfl (hl_nil (then_n (hc_seq ?_))))))); refine hc_draw 13 mixed (by decide) (by decide) rfl rfl ?_; refine hb_ex _ rfl rfl rfl (fun w1 => r_move rfl rfl (hl_nil (qe_done rfl))) ?_; refine hb_ex _ rfl rfl rfl (fun w1 => r_move rfl rfl (hl_nil (qe_done rfl))) ?_; refine hb_ex _ rfl rfl rfl (fun w1 => r_elem (α := Sl (Sl Str)) yL i rfl T.u_L_L_L_string T.sz_pages rfl rfl rfl mB h3y.symm (by omega) (by decide) (hl_nil (qe_done rfl))) ?_; refine hb_ex _ rfl rfl rfl (fun w1 => r_load (v := .slice Y.a Y.l.length Y.c) rfl T.cell_pages rfl (cell_row mB (by rw [hY]; exact rows_get0 (by omega) rfl)) (hl_nil (qe_done rfl))) ?_; refine hb_ex _ rfl rfl rfl (fun w1 => r_move rfl rfl (hl_nil (qe_done rfl))) ?_; refine hb_ex _ rfl rfl rfl (fun w1 => r_move rfl rfl (hl_nil (qe_done rfl))) ?_; refine hb_ex _ rfl rfl rfl (fun w1 => r_elem (α := Sl Str) pL i rfl T.u_pages T.sz_strs rfl rfl rfl mB h3p.symm (by omega) (by decide) (hl_nil (qe_done rfl))) ?_; refine hb_ex _ rfl rfl rfl (fun w1 => r_load (v := .slice Q.a Q.l.length Q.c) rfl T.cell_strs rfl (cell_row mB (by rw [hQ]; exact rows_get0 (by omega) rfl)) (hl_nil (qe_done rfl))) ?_; refine hb_vs ⟨OutC, fun y => True, fun y => .tuple #[.slice y.1 (backE Y.l Q.l).1.length y.2, int (backE Y.l Q.l).2], fun y => [Row y.1 (rows (backE Y.l Q.l).1)]⟩ rfl rfl rfl ?_ ?_
    ·intro w1; refine hl_call F.ref07_Back_cb rfl rfl (ref07_Back_meets (A := Y.a) (ca := Y.c) (B := Q.a) (cb := Q.c) Y.l Q.l) (List.Perm.refl _) ⟨mB, mB, trivial⟩ fun y hy => ?_; refine hl_nil ?_; exact qv_done y hy rfl ⟨m0, trivial⟩
    refine hb_vs ⟨OutC, fun y => True, fun y => .tuple #[.slice y.1 (backE Y.l Q.l).1.length y.2, int (backE Y.l Q.l).2], fun y => [Row y.1 (rows (backE Y.l Q.l).1)]⟩ rfl rfl rfl ?_ ?_
    ·intro y hy; intro w1; refine r_move rfl rfl (hl_nil ?_); exact qv_done y hy rfl ⟨m0, trivial⟩
    refine hb_vs ⟨OutC, fun y => True, fun y => .slice y.1 (backE Y.l Q.l).1.length y.2, fun y => [Row y.1 (rows (backE Y.l Q.l).1)]⟩ rfl rfl rfl ?_ ?_
    ·intro y hy; intro w1; refine r_extract rfl rfl rfl (hl_nil ?_); exact qv_done y hy rfl ⟨m0, trivial⟩
    apply hb_ex _ rfl rfl rfl
    ·intro y hy; intro w1; refine r_extract rfl rfl rfl (hl_nil ?_); exact qe_done rfl
    refine hb_vs ⟨OutC, fun y => True, fun y => .slice y.1 (backE Y.l Q.l).1.length y.2, fun y => [Row y.1 (rows (backE Y.l Q.l).1)]⟩ rfl rfl rfl ?_ ?_
    ·intro y hy; intro w1; refine r_assign rfl rfl (hl_nil ?_); exact qv_done y hy rfl ⟨m0, trivial⟩
    refine hb_nil ⟨rfl, ?_⟩; intro _ _ _ _ _ _ q2 hq2; refine r_assign rfl rfl (hl_nil (then_n (hc_seq (hc_region (r_move rfl rfl ?_))))); have hS := proof_Stock_any (A := oD.1) (c := oD.2) D; rw [hDy] at hS; refine hl_call F.proof_Stock_cb rfl rfl (hS) (List.Perm.refl _) ⟨mB, trivial⟩ fun x14 hx14 => ?_; obtain ⟨ts, ot⟩ := x14; have hts : StockR Y.l ts := stockR_congr hDy hx14; have htl := stockR_len hts; refine r_move rfl rfl (r_extract rfl rfl rfl (r_extract rfl rfl rfl (r_assign rfl rfl (r_assign rfl rfl (hl_nil (then_n (hc_seq (hc_region (r_move rfl rfl (r_move rfl rfl ?_)))))))))); refine r_elem (α := Sl (Sl Str)) yL i rfl T.u_L_L_L_string T.sz_pages rfl rfl rfl mB h3y.symm (by omega) (by decide) ?_; refine r_load (v := .slice Y.a Y.l.length Y.c) rfl T.cell_pages rfl (cell_row mB (by rw [hY]; exact rows_get0 (by omega) rfl)) ?_; refine hl_call F.ref07_Stock_cb rfl rfl (ref07_Stock_meets (A := Y.a) (c := Y.c) Y.l) (List.Perm.refl _) ⟨mB, trivial⟩ fun x15 hx15 => ?_; obtain ⟨ts2, ot2⟩ := x15; obtain rfl : ts = ts2 := stockR_uniq hts hx15; refine r_move rfl rfl (r_extract rfl rfl rfl (r_extract rfl rfl rfl (r_assign rfl rfl (r_assign rfl rfl (hl_nil (then_n (hc_seq (hc_region (r_move rfl rfl (r_move rfl rfl ?_)))))))))); have hF := proof_Fresh_meets (A := oD.1) (ca := oD.2) (B := x9.1) (cb := x9.2) D Q.l; rw [freshE_congr hDy, hDy] at hF; refine hl_call F.proof_Fresh_cb rfl rfl (hF) (List.Perm.refl _) ⟨mB, mB, trivial⟩ fun _ _ => ?_; refine r_move rfl rfl (r_extract rfl rfl rfl (r_extract rfl rfl rfl (r_assign rfl rfl (r_assign rfl rfl (hl_nil (then_n (hc_seq ?_))))))); refine hc_draw 13 mixed (by decide) (by decide) rfl rfl ?_; refine hb_ex _ rfl rfl rfl (fun w1 => r_move rfl rfl (hl_nil (qe_done rfl))) ?_; refine hb_ex _ rfl rfl rfl (fun w1 => r_move rfl rfl (hl_nil (qe_done rfl))) ?_; refine hb_ex _ rfl rfl rfl (fun w1 => r_elem (α := Sl (Sl Str)) yL i rfl T.u_L_L_L_string T.sz_pages rfl rfl rfl mB h3y.symm (by omega) (by decide) (hl_nil (qe_done rfl))) ?_; refine hb_ex _ rfl rfl rfl (fun w1 => r_load (v := .slice Y.a Y.l.length Y.c) rfl T.cell_pages rfl (cell_row mB (by rw [hY]; exact rows_get0 (by omega) rfl)) (hl_nil (qe_done rfl))) ?_; refine hb_ex _ rfl rfl rfl (fun w1 => r_move rfl rfl (hl_nil (qe_done rfl))) ?_; refine hb_ex _ rfl rfl rfl (fun w1 => r_move rfl rfl (hl_nil (qe_done rfl))) ?_; refine hb_ex _ rfl rfl rfl (fun w1 => r_elem (α := Sl Str) pL i rfl T.u_pages T.sz_strs rfl rfl rfl mB h3p.symm (by omega) (by decide) (hl_nil (qe_done rfl))) ?_; refine hb_ex _ rfl rfl rfl (fun w1 => r_load (v := .slice Q.a Q.l.length Q.c) rfl T.cell_strs rfl (cell_row mB (by rw [hQ]; exact rows_get0 (by omega) rfl)) (hl_nil (qe_done rfl))) ?_; refine hb_ex _ rfl rfl rfl (fun w1 => hl_call F.ref07_Fresh_cb rfl rfl (ref07_Fresh_meets (A := Y.a) (ca := Y.c) (B := Q.a) (cb := Q.c) Y.l Q.l hpa.2) (List.Perm.refl _) ⟨mB, mB, trivial⟩ fun _ _ => (hl_nil (qe_done rfl))) ?_; refine hb_ex _ rfl rfl rfl (fun w1 => r_move rfl rfl (hl_nil (qe_done rfl))) ?_; refine hb_ex _ rfl rfl rfl (fun w1 => r_extract rfl rfl rfl (hl_nil (qe_done rfl))) ?_; refine hb_ex _ rfl rfl rfl (fun w1 => r_extract rfl rfl rfl (hl_nil (qe_done rfl))) ?_; refine hb_ex _ rfl rfl rfl (fun w1 => r_assign rfl rfl (hl_nil (qe_done rfl))) ?_; refine hb_nil ⟨rfl, ?_⟩; refine r_assign rfl rfl (hl_nil (then_n (hc_seq (hc_region (r_move rfl rfl (r_move rfl rfl (r_neq rfl rfl rfl (r_move rfl rfl ?_)))))))); refine g_split rfl rfl ?_ ?_
    ·intro hg2; have hg2' := hg2; try simp at hg2'
     refine g_yes rfl rfl hg2 (r_move rfl rfl (g_yes rfl rfl hg2 (r_move rfl rfl (g_yes rfl rfl hg2 (r_neq rfl rfl rfl ?_))))); refine p_f rfl rfl (bf1 hg2) rfl ?_; refine r_move rfl rfl ?_; refine g_split rfl rfl ?_ ?_
     ·intro hg3; have hg3' := hg3; try simp at hg3'
      refine g_yes rfl rfl hg3 (r_move rfl rfl (g_yes rfl rfl hg3 (r_move rfl rfl (g_yes rfl rfl hg3 (r_neq rfl rfl rfl ?_))))); refine p_f rfl rfl (bf1 hg3) rfl ?_; refine r_move rfl rfl ?_; refine g_split rfl rfl ?_ ?_
      ·intro hg4; have hg4' := hg4; try simp at hg4'
       refine g_yes rfl rfl hg4 (r_move rfl rfl (g_yes rfl rfl hg4 (r_move rfl rfl (g_yes rfl rfl hg4 (r_neq rfl rfl rfl ?_))))); refine p_f rfl rfl (bf1 hg4) rfl ?_; refine r_move rfl rfl ?_; refine g_split rfl rfl ?_ ?_
       ·intro hg5; have hg5' := hg5; try simp at hg5'
        refine g_yes rfl rfl hg5 (r_move rfl rfl (g_yes rfl rfl hg5 (r_move rfl rfl (g_yes rfl rfl hg5 (r_neq rfl rfl rfl ?_))))); refine p_f rfl rfl (bf1 hg5) rfl ?_; refine r_move rfl rfl ?_; refine g_split rfl rfl ?_ ?_
        ·intro hg6; have hg6' := hg6; try simp at hg6'
         refine g_yes rfl rfl hg6 (r_move rfl rfl (g_yes rfl rfl hg6 (r_move rfl rfl (g_yes rfl rfl hg6 ?_)))); refine hl_call F.kit_EqInts_cb rfl rfl (kit_EqInts_meets (originE Y.l Q.l).1 (originE Y.l Q.l).1 (by omega)) (List.Perm.refl _) ⟨mB, mB, trivial⟩ fun _ _ => ?_; refine g_yes rfl rfl hg6 (r_not rfl rfl ?_); refine p_f rfl rfl (bf1 hg6) rfl ?_; refine r_move rfl rfl ?_; refine g_split rfl rfl ?_ ?_
         ·intro hg7; have hg7' := hg7; try simp at hg7'
          refine g_yes rfl rfl hg7 (r_move rfl rfl (g_yes rfl rfl hg7 (r_move rfl rfl (g_yes rfl rfl hg7 ?_)))); refine hl_call F.kit_EqInts_cb rfl rfl (kit_EqInts_meets (backE Y.l Q.l).1 (backE Y.l Q.l).1 (by omega)) (List.Perm.refl _) ⟨mB, mB, trivial⟩ fun _ _ => ?_; refine g_yes rfl rfl hg7 (r_not rfl rfl ?_); refine p_f rfl rfl (bf1 hg7) rfl ?_; refine r_move rfl rfl ?_; refine g_split rfl rfl ?_ ?_
          ·intro hg8; have hg8' := hg8; try simp at hg8'
           refine g_yes rfl rfl hg8 (r_move rfl rfl (g_yes rfl rfl hg8 (r_move rfl rfl (g_yes rfl rfl hg8 ?_)))); refine hl_call F.kit_EqTypes_cb rfl rfl (kit_EqTypes_meets ts ts (by omega)) (List.Perm.refl _) ⟨mB, mB, trivial⟩ fun _ _ => ?_; refine g_yes rfl rfl hg8 (r_not rfl rfl ?_); refine p_f rfl rfl (bf1 hg8) rfl ?_; refine r_move rfl rfl ?_; refine g_split rfl rfl ?_ ?_
           ·intro hg9; have hg9' := hg9; try simp at hg9'
            refine g_yes rfl rfl hg9 (r_move rfl rfl (g_yes rfl rfl hg9 (r_move rfl rfl (g_yes rfl rfl hg9 (r_move rfl rfl (g_yes rfl rfl hg9 ?_)))))); refine r_elem (α := Sl (Sl Str)) yL i rfl T.u_L_L_L_string T.sz_pages rfl rfl rfl mB h3y.symm (by omega) (by decide) ?_; refine g_yes rfl rfl hg9 ?_; refine r_load (v := .slice Y.a Y.l.length Y.c) rfl T.cell_pages rfl (cell_row mB (by rw [hY]; exact rows_get0 (by omega) rfl)) ?_; refine g_yes rfl rfl hg9 ?_; refine hl_call F.kit_EqYears_cb rfl rfl (kit_EqYears_meets D Y.l (by have := yl_len hDy; omega) (fun q hq => by obtain ⟨w, hw, e⟩ := List.mem_map.1 (hDy ▸ List.mem_map_of_mem hq : q.l ∈ years Y.l); have := hya.2.2 w hw; rw [← e]; omega)) (List.Perm.refl _) ⟨mB, mB, trivial⟩ fun _ _ => ?_; refine g_yes rfl rfl hg9 (r_not rfl rfl ?_); refine p_f rfl rfl (bf1 hg9) rfl ?_; refine r_move rfl rfl ?_; refine g_split rfl rfl ?_ ?_
            ·intro hg10; have hg10' := hg10; try simp at hg10'
             refine g_yes rfl rfl hg10 (r_move rfl rfl (g_yes rfl rfl hg10 (r_move rfl rfl (g_yes rfl rfl hg10 (r_move rfl rfl (g_yes rfl rfl hg10 ?_)))))); refine r_elem (α := Sl Str) pL i rfl T.u_pages T.sz_strs rfl rfl rfl mB h3p.symm (by omega) (by decide) ?_; refine g_yes rfl rfl hg10 ?_; refine r_load (v := .slice Q.a Q.l.length Q.c) rfl T.cell_strs rfl (cell_row mB (by rw [hQ]; exact rows_get0 (by omega) rfl)) ?_; refine g_yes rfl rfl hg10 ?_; refine hl_call F.kit_EqStrings_cb rfl rfl (kit_EqStrings_meets Q.l Q.l (by omega)) (List.Perm.refl _) ⟨mB, mB, trivial⟩ fun _ _ => ?_; refine g_yes rfl rfl hg10 (r_not rfl rfl ?_); refine p_f rfl rfl (bf1 hg10) rfl ?_; refine hl_nil (then_n ?_)
             first | refine c_dec rfl (fun hb3 => ?_) (fun hb3 => ?_) | refine hc_cond rfl (fun hb3 => ?_) (fun hb3 => ?_)
             ·have hb3' := hb3; try simp at hb3'
             ·have hb3' := hb3; try simp at hb3'
              refine hc_skip (inb_n (then_n (hc_region (r_move rfl rfl ?_)))); refine r_add _ rfl rfl rfl rfl (by unfold I64; omega) ?_; refine r_assign rfl rfl (hl_nil ?_); exact again _ (i + 1) (by show i + 1 ≤ 3; omega) (by show 3 - (i + 1) < 3 - i; omega) ⟨rfl, rfl, rfl, trivial⟩ (List.nil_sublist _) ⟨mB, mB, mB, mB, trivial⟩
            ·intro hg10; have hg10' := hg10; try simp at hg10'
             all_goals (rw [decide_eq_true hDy] at hg10; cases hg10)
           ·intro hg9; have hg9' := hg9; try simp at hg9'
          ·intro hg8; have hg8' := hg8; try simp at hg8'
         ·intro hg7; have hg7' := hg7; try simp at hg7'
        ·intro hg6; have hg6' := hg6; try simp at hg6'
       ·intro hg5; have hg5' := hg5; try simp at hg5'
      ·intro hg4; have hg4' := hg4; try simp at hg4'
     ·intro hg3; have hg3' := hg3; try simp at hg3'
    ·intro hg2; have hg2' := hg2; try simp at hg2'
   ·have hb2' := hb2; try simp at hb2'
    refine hc_exit (then_exit (then_exit (inb_hit (then_n (hc_seq (hc_region ?_)))))); refine hl_call F.law07_correcting_cb rfl rfl (law07_correcting_meets) (List.Perm.refl _) trivial fun _ _ => ?_; refine r_assign rfl rfl (hl_nil (then_n (hc_ret ?_))); exact ret1 () rfl rfl rfl trivial (List.nil_sublist _) trivial
 ·intro hg1; have hg1' := hg1; try simp at hg1'
  refine g_no rfl rfl rfl rfl rfl hg1 (g_no rfl rfl rfl rfl rfl hg1 ?_); refine p_t rfl rfl (bt2 hg1) rfl ?_; refine hl_nil (then_n (c_t rfl rfl (hc_seq (hc_region ?_)))); refine hl_call F.law07_correcting_cb rfl rfl (law07_correcting_meets) (List.Perm.refl _) trivial fun _ _ => ?_; refine r_assign rfl rfl (hl_nil (then_n (hc_ret (then_ret ?_)))); exact ret1 () rfl rfl rfl trivial (List.nil_sublist _) trivial
end Go.Proofs.YtpbbgbjidhffoaaGreat
end
section
namespace Go.W
open Go Go.RowKit Go.ChangeShapes Go.WideShapes
section
variable {H : Type} {enc : TypeId × Value → H} {P : Program} {w : World} {base : Nat} {spare : Nat → Bool} {held : Bool}
theorem row_of {α : Type} [El α] (h1 : El.sz α = 1) {a : Addr} {l : List α} (h : ∀ j (hj : j < l.length), ∃ v, El.cells l[j] = [v] ∧ w.cell? (a.add j) = some v) : (Row (some a) (rows l)).P w := by
  intro j u hu; refine ⟨a, rfl, ?_⟩
  have hj : j < l.length := by
    have := (List.getElem?_eq_some_iff.1 hu).1; rw [rows_len, h1, Nat.mul_one] at this; exact this
  obtain ⟨v, hv, hc⟩ := h j hj; have h2 := rows_get (l := l) (i := j) (j := 0) (v := v) hj (by simp [List.getD_eq_getElem?_getD, hj, hv]); rw [h1] at h2; simp only [Nat.mul_one, Nat.add_zero] at h2; rw [hu] at h2
  cases h2
  exact hc
theorem in_strs {t e : TypeId} {A : Option Addr} {n c fuel : Nat} {x : DataW H × List MemPlace} (ht : P.underlying t = some (.slice e)) (he : P.underlying e = some .string) (hc : P.cellsOf e = 1)
    (h : DataW.trod enc P w base spare held fuel t [.slice A n c] = some x) : ∃ l : List Str, n = l.length ∧ l.length ≤ c ∧ c ≤ maxLen ∧ (Row A (rows l)).P w := by
  rcases open_strings ht he hc h with ⟨hcs, _⟩ | ⟨a, len, cap, ss, hcs, _, hl, hm, hlen, _, hcell, hsz⟩
  · simp at hcs
    obtain ⟨rfl, rfl, rfl⟩ := hcs; exact ⟨[], rfl, Nat.le_refl _, by unfold maxLen; omega, Row.nil _ _⟩
  · simp at hcs
    obtain ⟨rfl, rfl, rfl⟩ := hcs; have hle : n ≤ ss.length := by rw [hlen]; split <;> omega
    have hlen2 : ((ss.take n).map fun b => b.data.toList).length = n := by rw [List.length_map, List.length_take]; omega
    refine ⟨(ss.take n).map fun b => b.data.toList, hlen2.symm, by rw [hlen2]; exact hl, hm, row_of rfl fun j hj => ?_⟩; rw [hlen2] at hj; refine ⟨.string ss[j], ?_, ?_⟩
    · show [str _] = _
      simp [str]
    · rw [hcell j (by omega)]
      simp [List.getD_eq_getElem?_getD, show j < ss.length by omega]
theorem in_ints {t e : TypeId} {A : Option Addr} {n c fuel : Nat} {x : DataW H × List MemPlace} (ht : P.underlying t = some (.slice e)) (he : P.underlying e = some (.int .i64)) (hc : P.cellsOf e = 1)
    (h : DataW.trod enc P w base spare held fuel t [.slice A n c] = some x) : ∃ l : List Int, n = l.length ∧ l.length ≤ c ∧ c ≤ maxLen ∧ (Row A (rows l)).P w ∧ ∀ z ∈ l, I64 z := by
  rcases open_ints ht he hc h with ⟨hcs, _⟩ | ⟨a, len, cap, zs, hcs, _, hl, hm, hlen, _, hcell, hwf⟩
  · simp at hcs
    obtain ⟨rfl, rfl, rfl⟩ := hcs; exact ⟨[], rfl, Nat.le_refl _, by unfold maxLen; omega, Row.nil _ _, by intro z hz; simp at hz⟩
  · simp at hcs
    obtain ⟨rfl, rfl, rfl⟩ := hcs; have hle : n ≤ zs.length := by rw [hlen]; split <;> omega
    have hlen2 : (zs.take n).length = n := by rw [List.length_take]; omega
    refine ⟨zs.take n, hlen2.symm, by rw [hlen2]; exact hl, hm, row_of rfl fun j hj => ?_, fun z hz => ?_⟩
    · rw [hlen2] at hj
      refine ⟨int zs[j], by simp [El.cells], ?_⟩; rw [hcell j (by omega)]
      simp [List.getD_eq_getElem?_getD, show j < zs.length by omega]
    · have := hwf z (List.mem_of_mem_take hz)
      simp [Lit.wf, IntKind.min, IntKind.max, IntKind.signed, IntKind.bits] at this
      exact ⟨by omega, by omega⟩
theorem law_calls {f : Nat} {args : List Value} {LI : List Fact} (h : Meets P f args ({ LI := LI, val := fun _ : Unit => .bool true } : Con Unit)) (hL : ∀ F ∈ LI, F.P w) : Calls P f args.toArray w fun e w' => e = .returned (.bool true) ∧ Below w.heap.size w w' := by
  refine (h w ⟨Ext.refl _ _, by simp, by simp, by simp, hL, by simp, fun F hF k hk => .inr (.inr ⟨F, hF, hk⟩)⟩).mono fun e w' hp => ?_; obtain ⟨_, rfl, _, hwi⟩ := hp; exact ⟨rfl, hwi.ext.below⟩
end
end Go.W
end
section
namespace Go.W
open Go Go.RowKit Go.ChangeShapes Go.WideShapes Go.Deep
section
variable {H : Type} {enc : TypeId × Value → H} {P : Program} {w : World} {base : Nat} {spare : Nat → Bool} {held : Bool}
theorem row_ofN {α : Type} [El α] (h0 : 0 < El.sz α) {a : Addr} {l : List α} (h : ∀ j, j < l.length → ∀ i v, (El.cells (l.getD j default))[i]? = some v → w.cell? (a.add (j * El.sz α + i)) = some v) : (Row (some a) (rows l)).P w := by
  intro k u hu; refine ⟨a, rfl, ?_⟩; have hk := (List.getElem?_eq_some_iff.1 hu).1; rw [rows_len] at hk; have hj : k / El.sz α < l.length := Nat.div_lt_of_lt_mul (by rw [Nat.mul_comm]; exact hk); have hd : k / El.sz α * El.sz α + k % El.sz α = k := by rw [Nat.mul_comm]; exact Nat.div_add_mod _ _
  have h2 := rows_get' l (k / El.sz α) (k % El.sz α) hj (Nat.mod_lt _ h0); rw [hd, hu] at h2; have := h _ hj _ _ h2.symm
  rwa [hd] at this
theorem in_pages {t e e2 : TypeId} {A : Option Addr} {n c fuel : Nat} {x : DataW H × List MemPlace} (ht : P.underlying t = some (.slice e)) (he : P.underlying e = some (.slice e2)) (hc : P.cellsOf e = 1) (he2 : P.underlying e2 = some .string) (hc2 : P.cellsOf e2 = 1)
    (h : DataW.trod enc P w base spare held fuel t [.slice A n c] = some x) : ∃ l : List (Sl Str), n = l.length ∧ l.length ≤ c ∧ c ≤ maxLen ∧ (Rows2 A l).P w ∧ ∀ q ∈ l, q.l.length ≤ q.c ∧ q.c ≤ maxLen := by
  rcases open_slice1 ht hc h with ⟨hcs, _⟩ | ⟨a, len, cap, m, n', V, D, Pl, hcs, _, hl, hm, hmm, _, hx⟩
  · simp at hcs
    obtain ⟨rfl, rfl, rfl⟩ := hcs; exact ⟨[], rfl, Nat.le_refl _, by unfold maxLen; omega, ⟨Row.nil _ _, by simp⟩, by simp⟩
  · simp at hcs
    obtain ⟨rfl, rfl, rfl⟩ := hcs; have hlm : n ≤ m := by rw [hmm]; split <;> omega
    have each : ∀ i, i < n → ∃ q : Sl Str, w.cell? (a.add i) = some (.slice q.a q.l.length q.c) ∧ (Row q.a (rows q.l)).P w ∧ q.l.length ≤ q.c ∧ q.c ≤ maxLen := by
      intro i hi; obtain ⟨h1, h2⟩ := hx i (by omega)
      obtain ⟨A', n2, c', hv⟩ : ∃ A' n2 c', V i = .slice A' n2 c' := by
        rcases open_strings he he2 hc2 h2 with ⟨h3, _⟩ | ⟨a', l', c', _, h3, _⟩
        · simp at h3; exact ⟨_, _, _, h3⟩
        · simp at h3; exact ⟨_, _, _, h3⟩
      rw [hv] at h1 h2; obtain ⟨l, rfl, hl1, hl2, hr⟩ := in_strs he he2 hc2 h2; exact ⟨⟨A', c', l⟩, h1, hr, hl1, hl2⟩
    obtain ⟨q, hq⟩ := choose_lt each; refine ⟨(List.range n).map q, by simp, by simpa using hl, hm, ⟨row_ofN (by decide) fun j hj i v hv => ?_, fun p hp => ?_⟩, fun p hp => ?_⟩
    · simp at hj
      have h1 := (hq j hj).1; have hi : i < 1 := (List.getElem?_eq_some_iff.1 hv).1; obtain rfl : i = 0 := by omega
      have e : ((List.range n).map q).getD j default = q j := by simp [List.getD_eq_getElem?_getD, hj]
      rw [e] at hv; have hv2 : some (Value.slice (q j).a (q j).l.length (q j).c) = some v := hv; rw [← hv2, ← h1]; show w.cell? (a.add (j * 1 + 0)) = _; rw [Nat.mul_one, Nat.add_zero]
    · obtain ⟨j, hj, rfl⟩ := List.mem_map.1 hp
      exact (hq j (List.mem_range.1 hj)).2.1
    · obtain ⟨j, hj, rfl⟩ := List.mem_map.1 hp
      exact (hq j (List.mem_range.1 hj)).2.2
end
end Go.W
end
