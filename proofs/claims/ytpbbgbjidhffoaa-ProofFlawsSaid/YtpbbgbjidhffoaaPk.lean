/- Walks of Look: the program's and the document's. -/
import Derived.Test.YtpbbgbjidhffoaaPj
import Derived.Test.YtpbbgbjidhffoaaWk
namespace Go.Proofs.Ytpbbgbjidhffoaa
open Go Go.W
set_option linter.unusedVariables false
set_option linter.unusedSimpArgs false
set_option maxRecDepth 20000
attribute [local irreducible] HL HC HQ HB Row Rows2 Blk Facts

def stockN (ps : List (Sl Str)) (s : Str) : Nat := ps.foldl (fun n p => max n (countN p.l s)) 0
theorem stockN_take {ps : List (Sl Str)} {s : Str} {k : Nat} (h : k < ps.length) : stockN (ps.take (k + 1)) s = max (stockN (ps.take k) s) (countN (ps.getD k default).l s) := by
  rw [take_succ_getD ps k h]
  unfold stockN
  rw [List.foldl_append]
  rfl
theorem originN_take {ps : List (Sl Str)} {s : Str} {n : Nat} : ∀ k, k ≤ n → n ≤ ps.length → originN (ps.take n) s k = originN ps s k
  | 0, _, _ => rfl
  | k + 1, h, h2 => by
    have : (ps.take n).getD k default = ps.getD k default := by
      rw [getD_at (by rw [List.length_take]; omega), getD_at (by omega), List.getElem_take]
    rw [originN, originN, this, originN_take k (by omega) h2]
theorem origin_take_meets {A : Option Addr} {c : Nat} {ps : List (Sl Str)} (s : Str) {n : Nat} (hn : n ≤ ps.length) (hl : ps.length ≤ 1000000) (hp : ∀ p ∈ ps, p.l.length ≤ 1000000) : Meets Try.prog F.proof_origin [.slice A n c, str s] { LI := [Rows2 A (ps.take n)], val := fun _ : Unit => int (originN ps s n) } := by
  have h := proof_origin_meets (A := A) (c := c) (ps.take n) s (by rw [List.length_take]; omega) (fun q hq => hp q (List.mem_of_mem_take hq))
  rw [List.length_take, Nat.min_eq_left hn, originN_take _ (Nat.le_refl _) hn] at h
  exact h
theorem stock_take_meets {A : Option Addr} {c : Nat} {ps : List (Sl Str)} (s : Str) {n : Nat} (hn : n ≤ ps.length) (hl : ps.length ≤ 1000000) (hp : ∀ p ∈ ps, p.l.length ≤ 1000000) (hm : ∀ {A : Option Addr} {c : Nat} (ps : List (Sl Str)) (s : Str) (hl : ps.length ≤ 1000000) (hp : ∀ p ∈ ps, p.l.length ≤ 1000000), Meets Try.prog F.ref07_stock [.slice A ps.length c, str s] { LI := [Rows2 A ps], val := fun _ : Unit => int (stockN ps s) }) :
    Meets Try.prog F.ref07_stock [.slice A n c, str s] { LI := [Rows2 A (ps.take n)], val := fun _ : Unit => int (stockN (ps.take n) s) } := by
  have h := hm (A := A) (c := c) (ps.take n) s (by rw [List.length_take]; omega) (fun q hq => hp q (List.mem_of_mem_take hq))
  rw [List.length_take, Nat.min_eq_left hn] at h
  exact h
theorem applyP_len (p : List Str) (l : List Mk) : (applyP p l).1.length ≤ 6 := by
  unfold applyP
  split
  · simp
  · split
    · simp
    · simp only; omega
theorem applyR_len (p : List Str) (l : List Mk) : (applyR p l).1.length ≤ 6 := by
  unfold applyR
  split
  · simp
  · split
    · simp
    · simp only; omega
def lastP (ps : List (Sl Str)) : Sl Str := ps.getD (ps.length - 1) default
def flawP (ps : List (Sl Str)) (r : List Str) (m : Mk) : Int × Int := (if m.1 = 3 then 1 else if ¬ m.2.2 ∈ r ∧ 0 ≤ originN ps m.2.2 (ps.length - 1) then 2 else 3, m.2.1)
def flawR (ps : List (Sl Str)) (r : List Str) (m : Mk) : Int × Int := (if m.1 = 3 then 1 else if countN r m.2.2 = 0 ∧ 0 < stockN (ps.take (ps.length - 1)) m.2.2 then 2 else 3, m.2.1)
def lookP (ps : List (Sl Str)) (l : List Mk) (p : List Str) : (Int × Int) × Int :=
  if ¬ yearsErr (years ps) = 0 then ((0, 0), yearsErr (years ps)) else if ps.length = 0 then ((0, 0), 7)
  else if ¬ (applyP (lastP ps).l l).2 = 0 then ((0, 0), (applyP (lastP ps).l l).2) else if ¬ pageErr p = 0 then ((0, 0), pageErr p)
  else if (diffP (applyP (lastP ps).l l).1 p 0 0).2.length = 0 then ((0, 0), 0)
  else (flawP ps (applyP (lastP ps).l l).1 ((diffP (applyP (lastP ps).l l).1 p 0 0).2.getD 0 default), 0)
def lookR (ps : List (Sl Str)) (l : List Mk) (p : List Str) : (Int × Int) × Int :=
  if ¬ yearsErr (years ps) = 0 then ((0, 0), yearsErr (years ps)) else if ps.length = 0 then ((0, 0), 7)
  else if ¬ (applyR (lastP ps).l l).2 = 0 then ((0, 0), (applyR (lastP ps).l l).2)
  else if ¬ (diffE (applyR (lastP ps).l l).1 p (diffR (applyR (lastP ps).l l).1 p 0 0)).2 = 0 then ((0, 0), (diffE (applyR (lastP ps).l l).1 p (diffR (applyR (lastP ps).l l).1 p 0 0)).2)
  else if (diffE (applyR (lastP ps).l l).1 p (diffR (applyR (lastP ps).l l).1 p 0 0)).1.length = 0 then ((0, 0), 0)
  else (flawR ps (applyR (lastP ps).l l).1 ((diffE (applyR (lastP ps).l l).1 p (diffR (applyR (lastP ps).l l).1 p 0 0)).1.getD 0 default), 0)
def lookV (r : (Int × Int) × Int) : Value := .tuple #[.agg #[int r.1.1, int r.1.2], int r.2]

theorem ref07_stock_meets {A : Option Addr} {c : Nat} (ps : List (Sl Str)) (s : Str) (hl : ps.length ≤ 1000000) (hp : ∀ p ∈ ps, p.l.length ≤ 1000000) : Meets Try.prog F.ref07_stock [.slice A ps.length c, str s] { LI := [Rows2 A ps], val := fun _ : Unit => int (stockN ps s) } := by
 refine meets_intro F.ref07_stock_f rfl (Nat.le_of_ble_eq_true rfl) fun w0 => ?_
 refine hc_seq ?_
 refine hc_outer m0 ?_
 refine hc_region ?_
 refine r_assign rfl rfl ?_
 refine hl_nil ?_
 refine then_n ?_
 refine hc_seq ?_
 refine hc_region ?_
 refine r_assign rfl rfl ?_
 refine hl_nil ?_
 refine then_n ?_
 refine hc_seq ?_
 refine hc_seq ?_
 refine hc_region ?_
 refine r_assign rfl rfl ?_
 refine hl_nil ?_
 refine then_n ?_
 refine hc_block ?_
 refine hc_loop (β := Nat) ⟨fun k => k ≤ ps.length, fun k => [(0, .slice A ps.length c), (1, str s), (5, int (stockN (ps.take k) s)), (6, int k)], fun _ => [], fun _ => [Row A (rows ps), Rows2 A ps]⟩ (fun k => ps.length - k) 0 (Nat.zero_le _) ⟨rfl, rfl, rfl, rfl, trivial⟩ (.refl _) ⟨m0, m1, trivial⟩ fun k hk => ?_
 simp only at hk
 refine hc_seq ?_
 refine hc_seq ?_
 refine hc_region ?_
 refine r_move rfl rfl ?_
 refine r_move rfl rfl ?_
 refine r_len_sl rfl T.u_pages rfl ?_
 refine r_lss rfl rfl rfl ?_
 refine hl_nil ?_
 refine then_n ?_
 first | refine c_dec rfl (fun hb1 => ?_) (fun hb1 => ?_) | refine hc_cond rfl (fun hb1 => ?_) (fun hb1 => ?_)
 ·have hb1' := hb1; try simp at hb1'
  have hk2 : k < ps.length := by omega
  have hst := stockN_take (s := s) hk2
  have hmem := getD_mem hk2
  refine hc_skip ?_
  refine then_n ?_
  refine hc_seq ?_
  refine hc_block ?_
  refine hc_region ?_
  refine r_move rfl rfl ?_
  refine r_move rfl rfl ?_
  refine r_move rfl rfl ?_
  refine r_elem (α := (Sl Str)) _ _ rfl T.u_pages T.sz_strs rfl rfl rfl (by repeat constructor) rfl (by omega) (by decide) ?_
  refine r_load rfl T.cell_strs rfl (cell_row (by repeat constructor) (rows_get0 (by omega) rfl)) ?_
  refine r_move rfl rfl ?_
  refine hl_inner (p := ps.getD k default) m1 hmem ?_
  refine hl_call F.ref07_count_cb rfl rfl (ref07_count_meets (ps.getD k default).l s (hp _ hmem)) (List.Perm.refl _) ⟨m0, trivial⟩ fun _ _ => ?_
  refine r_max (stockN (ps.take (k + 1)) s) rfl rfl rfl (by rw [hst]; show (if ((countN (ps.getD k default).l s : Nat) : Int) > (stockN (ps.take k) s : Nat) then ((countN (ps.getD k default).l s : Nat) : Int) else (stockN (ps.take k) s : Nat)) = _; split <;> omega) ?_
  refine r_assign rfl rfl ?_
  refine hl_nil ?_
  refine inb_n ?_
  refine then_n ?_
  refine hc_region ?_
  refine r_move rfl rfl ?_
  refine r_add _ rfl rfl rfl rfl (by unfold I64; omega) ?_
  refine r_assign rfl rfl ?_
  refine hl_nil ?_
  exact again _ (k + 1) (by show k + 1 ≤ ps.length; omega) (by show ps.length - (k + 1) < ps.length - k; omega) ⟨rfl, rfl, rfl, rfl, trivial⟩ (.refl _) ⟨m1, m2, trivial⟩
 ·have hb1' := hb1; try simp at hb1'
  have hk2 : k = ps.length := by omega
  subst hk2
  refine hc_exit ?_
  refine then_exit ?_
  refine then_exit ?_
  refine inb_hit ?_
  refine then_n ?_
  refine hc_seq ?_
  refine hc_region ?_
  refine r_move rfl rfl ?_
  refine r_assign rfl rfl ?_
  refine hl_nil ?_
  refine then_n ?_
  refine hc_ret ?_
  exact ret1 () rfl (congrArg (fun t => some (int (stockN t s : Nat))) List.take_length) rfl trivial (.refl _) trivial

theorem proof_Look_meets {A B C : Option Addr} {ca cb cc : Nat} (ps : List (Sl Str)) (l : List Mk) (p : List Str) (hca : ps.length ≤ ca) (hcap : ∀ q ∈ ps, q.l.length ≤ q.c) : Meets Try.prog F.proof_Look [.slice A ps.length ca, .slice B l.length cb, .slice C p.length cc] { LI := [Rows2 A ps, Row B (rows l), Row C (rows p)], val := fun _ : Unit => lookV (lookP ps l p) } := by
 refine meets_intro F.proof_Look_f rfl (Nat.le_of_ble_eq_true rfl) fun w0 => ?_
 refine hc_seq ?_
 refine hc_region ?_
 refine r_alloc rfl (fun _ => T.al_api_Flaw _) fun gA => ?_
 refine r_assign rfl rfl ?_
 refine hl_nil ?_
 refine then_n ?_
 refine hc_seq ?_
 refine hc_seq ?_
 refine hc_region ?_
 refine r_move rfl rfl ?_
 refine hl_call F.proof_yearsError_cb rfl rfl (proof_yearsError_meets ps) (List.Perm.refl _) ⟨m0, trivial⟩ fun _ _ => ?_
 refine r_assign rfl rfl ?_
 refine hl_nil ?_
 refine then_n ?_
 refine hc_seq ?_
 refine hc_region ?_
 refine r_move rfl rfl ?_
 refine r_neq rfl rfl rfl ?_
 refine hl_nil ?_
 refine then_n ?_
 first | refine c_dec rfl (fun hb1 => ?_) (fun hb1 => ?_) | refine hc_cond rfl (fun hb1 => ?_) (fun hb1 => ?_)
 ·have hb1' := hb1; try simp at hb1'
  have e : lookP ps l p = ((0, 0), yearsErr (years ps)) := by rw [lookP, if_pos hb1]
  rw [e]
  refine hc_seq ?_
  refine hc_region ?_
  refine r_build _ rfl rfl (fun _ => T.bd_api_Flaw_ ..) ?_
  refine r_move rfl rfl ?_
  refine r_storeS rfl rfl (by first | exact .refl _ | exact perm2 _ _ _ | exact perm3 _ _ _ _ | exact perm4 _ _ _ _ _) T.sz_api_Flaw (by rfl) (by rfl) ?_
  refine r_assign rfl rfl ?_
  refine hl_nil ?_
  refine then_n ?_
  refine hc_ret ?_
  refine then_ret ?_
  exact ret_row_tmp () rfl rfl rfl T.row_api_Flaw T.sz_api_Flaw rfl m0 rfl rfl trivial (List.nil_sublist _) trivial
 ·have hb1' := hb1; try simp at hb1'
  obtain ⟨h3, h4⟩ := yearsErr_zero (Classical.not_not.1 hb1)
  refine hc_skip ?_
  refine then_n ?_
  refine hc_seq ?_
  refine hc_seq ?_
  refine hc_region ?_
  refine r_move rfl rfl ?_
  refine r_len_sl rfl T.u_pages rfl ?_
  refine r_eql rfl rfl rfl ?_
  refine hl_nil ?_
  refine then_n ?_
  first | refine c_dec rfl (fun hb2 => ?_) (fun hb2 => ?_) | refine hc_cond rfl (fun hb2 => ?_) (fun hb2 => ?_)
  ·have hb2' := hb2; try simp at hb2'
   have e : lookP ps l p = ((0, 0), 7) := by rw [lookP, if_neg hb1, if_pos (by omega)]
   rw [e]
   refine hc_seq ?_
   refine hc_region ?_
   refine r_build _ rfl rfl (fun _ => T.bd_api_Flaw_ ..) ?_
   refine r_storeS rfl rfl (by first | exact .refl _ | exact perm2 _ _ _ | exact perm3 _ _ _ _ | exact perm4 _ _ _ _ _) T.sz_api_Flaw (by rfl) (by rfl) ?_
   refine r_assign rfl rfl ?_
   refine hl_nil ?_
   refine then_n ?_
   refine hc_ret ?_
   refine then_ret ?_
   exact ret_row_tmp () rfl rfl rfl T.row_api_Flaw T.sz_api_Flaw rfl m0 rfl rfl trivial (List.nil_sublist _) trivial
  ·have hb2' := hb2; try simp at hb2'
   have hb2 : ¬ ps.length = 0 := by omega
   have hmem : lastP ps ∈ ps := getD_mem (by omega)
   refine hc_skip ?_
   refine then_n ?_
   refine hc_seq ?_
   refine hc_region ?_
   refine r_move rfl rfl ?_
   refine r_len_sl rfl T.u_pages rfl ?_
   refine r_sub ((ps.length - 1 : Nat) : Int) rfl rfl rfl (by omega) (by unfold I64; omega) ?_
   refine r_assign rfl rfl ?_
   refine hl_nil ?_
   refine then_n ?_
   refine hc_seq ?_
   refine hc_outer m0 ?_
   refine hc_region ?_
   refine r_move rfl rfl ?_
   refine r_move rfl rfl ?_
   refine r_elem (α := Sl Str) ps (ps.length - 1) rfl T.u_pages T.sz_strs rfl rfl rfl m0 rfl (by omega) (by decide) ?_
   refine r_load rfl T.cell_strs rfl (cell_row (by repeat constructor) (rows_get0 (by omega) rfl)) ?_
   refine r_move rfl rfl ?_
   refine hl_inner (p := lastP ps) m1 hmem ?_
   refine hl_call F.proof_Apply_cb rfl rfl (proof_Apply_meets (lastP ps).l l (hcap _ hmem)) (List.Perm.refl _) ⟨m0, m3, trivial⟩ fun x hx => ?_
   have hx : (applyP (lastP ps).l l).1.length ≤ x.2 := hx
   have hal := applyP_len (lastP ps).l l
   refine r_move rfl rfl ?_
   refine r_extract rfl rfl rfl ?_
   refine r_extract rfl rfl rfl ?_
   refine r_assign rfl rfl ?_
   refine r_assign rfl rfl ?_
   refine hl_nil ?_
   refine then_n ?_
   refine hc_seq ?_
   refine hc_seq ?_
   refine hc_region ?_
   refine r_move rfl rfl ?_
   refine r_neq rfl rfl rfl ?_
   refine hl_nil ?_
   refine then_n ?_
   first | refine c_dec rfl (fun hb3 => ?_) (fun hb3 => ?_) | refine hc_cond rfl (fun hb3 => ?_) (fun hb3 => ?_)
   ·have hb3' := hb3; try simp at hb3'
    have e : lookP ps l p = ((0, 0), (applyP (lastP ps).l l).2) := by rw [lookP, if_neg hb1, if_neg hb2, if_pos hb3]
    rw [e]
    refine hc_seq ?_
    refine hc_region ?_
    refine r_build _ rfl rfl (fun _ => T.bd_api_Flaw_ ..) ?_
    refine r_move rfl rfl ?_
    refine r_storeS rfl rfl (by first | exact .refl _ | exact perm2 _ _ _ | exact perm3 _ _ _ _ | exact perm4 _ _ _ _ _) T.sz_api_Flaw (by rfl) (by rfl) ?_
    refine r_assign rfl rfl ?_
    refine hl_nil ?_
    refine then_n ?_
    refine hc_ret ?_
    refine then_ret ?_
    exact ret_row_tmp () rfl rfl rfl T.row_api_Flaw T.sz_api_Flaw rfl m0 rfl rfl trivial (List.nil_sublist _) trivial
   ·have hb3' := hb3; try simp at hb3'
    refine hc_skip ?_
    refine then_n ?_
    refine hc_seq ?_
    refine hc_seq ?_
    refine hc_region ?_
    refine r_move rfl rfl ?_
    refine hl_call F.proof_Check_cb rfl rfl (proof_Check_meets p) (List.Perm.refl _) ⟨m5, trivial⟩ fun _ _ => ?_
    refine r_assign rfl rfl ?_
    refine hl_nil ?_
    refine then_n ?_
    refine hc_seq ?_
    refine hc_region ?_
    refine r_move rfl rfl ?_
    refine r_neq rfl rfl rfl ?_
    refine hl_nil ?_
    refine then_n ?_
    first | refine c_dec rfl (fun hb4 => ?_) (fun hb4 => ?_) | refine hc_cond rfl (fun hb4 => ?_) (fun hb4 => ?_)
    ·have hb4' := hb4; try simp at hb4'
     have e : lookP ps l p = ((0, 0), pageErr p) := by rw [lookP, if_neg hb1, if_neg hb2, if_neg hb3, if_pos hb4]
     rw [e]
     refine hc_seq ?_
     refine hc_region ?_
     refine r_build _ rfl rfl (fun _ => T.bd_api_Flaw_ ..) ?_
     refine r_move rfl rfl ?_
     refine r_storeS rfl rfl (by first | exact .refl _ | exact perm2 _ _ _ | exact perm3 _ _ _ _ | exact perm4 _ _ _ _ _) T.sz_api_Flaw (by rfl) (by rfl) ?_
     refine r_assign rfl rfl ?_
     refine hl_nil ?_
     refine then_n ?_
     refine hc_ret ?_
     refine then_ret ?_
     exact ret_row_tmp () rfl rfl rfl T.row_api_Flaw T.sz_api_Flaw rfl m0 rfl rfl trivial (List.nil_sublist _) trivial
    ·have hb4' := hb4; try simp at hb4'
     have hp6 := pageErr_zero (Classical.not_not.1 hb4)
     refine hc_skip ?_
     refine then_n ?_
     refine hc_seq ?_
     refine hc_region ?_
     refine r_move rfl rfl ?_
     refine r_move rfl rfl ?_
     refine hl_call F.proof_diff_cb rfl rfl (proof_diff_meets (applyP (lastP ps).l l).1 p (by omega) (by omega)) (List.Perm.refl _) ⟨m0, m5, trivial⟩ fun y _ => ?_
     refine r_assign rfl rfl ?_
     refine hl_nil ?_
     refine then_n ?_
     refine hc_seq ?_
     refine hc_seq ?_
     refine hc_region ?_
     refine r_move rfl rfl ?_
     refine r_len_sl rfl T.u_L_api_Mark rfl ?_
     refine r_eql rfl rfl rfl ?_
     refine hl_nil ?_
     refine then_n ?_
     first | refine c_dec rfl (fun hb5 => ?_) (fun hb5 => ?_) | refine hc_cond rfl (fun hb5 => ?_) (fun hb5 => ?_)
     ·have hb5' := hb5; try simp at hb5'
      have e : lookP ps l p = ((0, 0), 0) := by rw [lookP, if_neg hb1, if_neg hb2, if_neg hb3, if_neg hb4, if_pos (by omega)]
      rw [e]
      refine hc_seq ?_
      refine hc_region ?_
      refine r_build _ rfl rfl (fun _ => T.bd_api_Flaw_ ..) ?_
      refine r_storeS rfl rfl (by first | exact .refl _ | exact perm2 _ _ _ | exact perm3 _ _ _ _ | exact perm4 _ _ _ _ _) T.sz_api_Flaw (by rfl) (by rfl) ?_
      refine r_assign rfl rfl ?_
      refine hl_nil ?_
      refine then_n ?_
      refine hc_ret ?_
      refine then_ret ?_
      exact ret_row_tmp () rfl rfl rfl T.row_api_Flaw T.sz_api_Flaw rfl m0 rfl rfl trivial (List.nil_sublist _) trivial
     ·have hb5' := hb5; try simp at hb5'
      have hb5 : ¬ (diffP (applyP (lastP ps).l l).1 p 0 0).2.length = 0 := by omega
      have e : lookP ps l p = (flawP ps (applyP (lastP ps).l l).1 ((diffP (applyP (lastP ps).l l).1 p 0 0).2.getD 0 default), 0) := by rw [lookP, if_neg hb1, if_neg hb2, if_neg hb3, if_neg hb4, if_neg hb5]
      rw [e]
      refine hc_skip ?_
      refine then_n ?_
      refine hc_seq ?_
      refine hc_region ?_
      refine r_move rfl rfl ?_
      refine r_elem (α := Mk) (diffP (applyP (lastP ps).l l).1 p 0 0).2 0 rfl T.u_L_api_Mark T.sz_api_Mark rfl rfl rfl m0 rfl (by omega) (by decide) ?_
      refine r_loadS rfl T.row_api_Mark T.sz_api_Mark rfl rfl (cells_row m0 (rows_all (l := (diffP (applyP (lastP ps).l l).1 p 0 0).2) (i := 0) (by omega))) ?_
      refine r_alloc rfl (fun _ => T.al_api_Mark _) fun gA => ?_
      refine r_storeS rfl rfl (by first | exact .refl _ | exact perm2 _ _ _ | exact perm3 _ _ _ _ | exact perm4 _ _ _ _ _) T.sz_api_Mark (by rfl) (by rfl) ?_
      refine hl_nil ?_
      refine then_n ?_
      refine hc_seq ?_
      refine hc_region ?_
      refine r_assign rfl rfl ?_
      refine hl_nil ?_
      refine then_n ?_
      refine hc_seq ?_
      refine hc_block ?_
      refine hc_seq ?_
      generalize ((diffP (applyP (lastP ps).l l).1 p 0 0).2.getD 0 default) = m at *
      generalize (applyP (lastP ps).l l) = r at *
      obtain ⟨mk, ma, mt⟩ := m
      refine hc_region ?_
      first | refine r_fieldAddr ⟨_, 0, none⟩ rfl rfl T.fa_api_Mark_0 rfl ?_ | refine r_fieldAddr _ rfl rfl T.fa_api_Mark_0 rfl ?_
      first | refine r_load rfl T.cell_int rfl (cell_own (by repeat constructor) rfl) ?_ | refine r_load rfl T.cell_int rfl (cell_blk (by repeat constructor) rfl) ?_ | refine r_load rfl T.cell_int rfl (cell_row (by repeat constructor) (rows_get0 (by omega) rfl)) ?_ | refine r_load rfl T.cell_int rfl (cell_row_f (by repeat constructor) (rows_get (by omega) rfl)) ?_
      refine r_eql rfl rfl rfl ?_
      refine r_assign rfl rfl ?_
      refine hl_nil ?_
      refine then_n ?_
      first | refine c_dec rfl (fun hb6 => ?_) (fun hb6 => ?_) | refine hc_cond rfl (fun hb6 => ?_) (fun hb6 => ?_)
      ·have hb6' := hb6; try simp at hb6'
       simp only at hb6
       refine hc_region ?_
       refine r_assign rfl rfl ?_
       refine hl_nil ?_
       refine inb_n ?_
       refine then_n ?_
       refine hc_seq ?_
       refine hc_region ?_
       refine r_move rfl rfl ?_
       first | refine r_fieldAddr ⟨_, 1, none⟩ rfl rfl T.fa_api_Mark_1 rfl ?_ | refine r_fieldAddr _ rfl rfl T.fa_api_Mark_1 rfl ?_
       first | refine r_load rfl T.cell_int rfl (cell_own (by repeat constructor) rfl) ?_ | refine r_load rfl T.cell_int rfl (cell_blk (by repeat constructor) rfl) ?_ | refine r_load rfl T.cell_int rfl (cell_row (by repeat constructor) (rows_get0 (by omega) rfl)) ?_ | refine r_load rfl T.cell_int rfl (cell_row_f (by repeat constructor) (rows_get (by omega) rfl)) ?_
       refine r_build _ rfl rfl (fun _ => T.bd_api_Flaw_0_1 ..) ?_
       refine r_storeS rfl rfl (by first | exact .refl _ | exact perm2 _ _ _ | exact perm3 _ _ _ _ | exact perm4 _ _ _ _ _) T.sz_api_Flaw (by rfl) (by rfl) ?_
       refine r_assign rfl rfl ?_
       refine hl_nil ?_
       refine then_n ?_
       refine hc_ret ?_
       exact ret_row_tmp () rfl rfl rfl T.row_api_Flaw T.sz_api_Flaw rfl m0 (by rw [lookV, flawP, if_pos hb6]) rfl trivial (List.nil_sublist _) trivial
      ·have hb6' := hb6; try simp at hb6'
       refine hc_seq ?_
       refine hc_draw 11 mixed (by decide) (by decide) rfl rfl ?_
       apply hb_ex _ rfl rfl rfl
       ·intro w1
        refine r_move rfl rfl ?_
        refine hl_nil ?_
        exact qe_done rfl
       apply hb_ex _ rfl rfl rfl
       ·intro w1
        first | refine r_fieldAddr ⟨_, 2, none⟩ rfl rfl T.fa_api_Mark_2 rfl ?_ | refine r_fieldAddr _ rfl rfl T.fa_api_Mark_2 rfl ?_
        refine hl_nil ?_
        exact qe_done rfl
       apply hb_ex _ rfl rfl rfl
       ·intro w1
        first | refine r_load rfl T.cell_string rfl (cell_blk (by repeat constructor) rfl) ?_ | refine r_load rfl T.cell_string rfl (cell_own (by repeat constructor) rfl) ?_ | refine r_load rfl T.cell_string rfl (cell_row (by repeat constructor) (rows_get0 (by omega) rfl)) ?_ | refine r_load rfl T.cell_string rfl (cell_row_f (by repeat constructor) (rows_get (by omega) rfl)) ?_
        refine hl_nil ?_
        exact qe_done rfl
       apply hb_ex _ rfl rfl rfl
       ·intro w1
        refine hl_call F.slices_Contains_strs_cb rfl rfl (slices_Contains_strs_meets r.1 mt (by omega)) (List.Perm.refl _) ⟨m3, trivial⟩ fun _ _ => ?_
        refine hl_nil ?_
        exact qe_done rfl
       apply hb_ex _ rfl rfl rfl
       ·intro w1
        refine r_not rfl rfl ?_
        refine hl_nil ?_
        exact qe_done rfl
       apply hb_ex _ rfl rfl rfl
       ·intro w1
        refine r_move rfl rfl ?_
        refine hl_nil ?_
        exact qe_done rfl
       refine hb_split (t := 68) (want := true) rfl ?_ ?_
       ·intro hg1; have hg1' := hg1; try simp at hg1'
        apply hb_ex _ rfl rfl rfl
        ·intro w1
         refine g_yes rfl rfl hg1 ?_
         refine r_move rfl rfl ?_
         refine hl_nil ?_
         exact qe_done rfl
        apply hb_ex _ rfl rfl rfl
        ·intro w1
         refine g_yes rfl rfl hg1 ?_
         refine r_move rfl rfl ?_
         refine hl_nil ?_
         exact qe_done rfl
        apply hb_ex _ rfl rfl rfl
        ·intro w1
         refine g_yes rfl rfl hg1 ?_
         refine r_slice_hi (ps.length - 1) rfl T.u_pages T.sz_strs rfl rfl rfl (by omega) ?_
         refine hl_nil ?_
         exact qe_done rfl
        apply hb_ex _ rfl rfl rfl
        ·intro w1
         refine g_yes rfl rfl hg1 ?_
         first | refine r_fieldAddr ⟨_, 2, none⟩ rfl rfl T.fa_api_Mark_2 rfl ?_ | refine r_fieldAddr _ rfl rfl T.fa_api_Mark_2 rfl ?_
         refine hl_nil ?_
         exact qe_done rfl
        apply hb_ex _ rfl rfl rfl
        ·intro w1
         refine g_yes rfl rfl hg1 ?_
         first | refine r_load rfl T.cell_string rfl (cell_blk (by repeat constructor) rfl) ?_ | refine r_load rfl T.cell_string rfl (cell_own (by repeat constructor) rfl) ?_ | refine r_load rfl T.cell_string rfl (cell_row (by repeat constructor) (rows_get0 (by omega) rfl)) ?_ | refine r_load rfl T.cell_string rfl (cell_row_f (by repeat constructor) (rows_get (by omega) rfl)) ?_
         refine hl_nil ?_
         exact qe_done rfl
        refine hb_nil ⟨rfl, ?_⟩
        refine g_yes rfl rfl hg1 ?_
        refine hl_take2 (A := A) (ps := ps) (ps.length - 1) m4 ?_
        refine hl_call (vs := [.slice A (ps.length - 1) ca, str mt]) F.proof_origin_cb rfl rfl (origin_take_meets mt (by omega) (by omega) (fun q hq => by have := h4 q hq; omega)) (List.Perm.refl _) ⟨m0, trivial⟩ fun _ _ => ?_
        refine g_yes rfl rfl hg1 ?_
        refine r_geq rfl rfl rfl ?_
        refine p_t rfl rfl (bt1 hg1) rfl ?_
        refine r_assign rfl rfl ?_
        refine hl_nil ?_
        refine then_n ?_
        first | refine c_dec rfl (fun hb7 => ?_) (fun hb7 => ?_) | refine hc_cond rfl (fun hb7 => ?_) (fun hb7 => ?_)
        ·have hb7' := hb7; try simp at hb7'
         refine hc_region ?_
         refine r_assign rfl rfl ?_
         refine hl_nil ?_
         refine inb_n ?_
         refine then_n ?_
         refine hc_seq ?_
         refine hc_region ?_
         refine r_move rfl rfl ?_
         first | refine r_fieldAddr ⟨_, 1, none⟩ rfl rfl T.fa_api_Mark_1 rfl ?_ | refine r_fieldAddr _ rfl rfl T.fa_api_Mark_1 rfl ?_
         first | refine r_load rfl T.cell_int rfl (cell_own (by repeat constructor) rfl) ?_ | refine r_load rfl T.cell_int rfl (cell_blk (by repeat constructor) rfl) ?_ | refine r_load rfl T.cell_int rfl (cell_row (by repeat constructor) (rows_get0 (by omega) rfl)) ?_ | refine r_load rfl T.cell_int rfl (cell_row_f (by repeat constructor) (rows_get (by omega) rfl)) ?_
         refine r_build _ rfl rfl (fun _ => T.bd_api_Flaw_0_1 ..) ?_
         refine r_storeS rfl rfl (by first | exact .refl _ | exact perm2 _ _ _ | exact perm3 _ _ _ _ | exact perm4 _ _ _ _ _) T.sz_api_Flaw (by rfl) (by rfl) ?_
         refine r_assign rfl rfl ?_
         refine hl_nil ?_
         refine then_n ?_
         refine hc_ret ?_
         exact ret_row_tmp () rfl rfl rfl T.row_api_Flaw T.sz_api_Flaw rfl m0 (by rw [lookV, flawP, if_neg hb6, if_pos (by simpa using ⟨hg1', hb7⟩)]) rfl trivial (List.nil_sublist _) trivial
        ·have hb7' := hb7; try simp at hb7'
         refine hc_skip ?_
         refine inb_n ?_
         refine then_n ?_
         refine hc_seq ?_
         refine hc_region ?_
         refine r_move rfl rfl ?_
         first | refine r_fieldAddr ⟨_, 1, none⟩ rfl rfl T.fa_api_Mark_1 rfl ?_ | refine r_fieldAddr _ rfl rfl T.fa_api_Mark_1 rfl ?_
         first | refine r_load rfl T.cell_int rfl (cell_own (by repeat constructor) rfl) ?_ | refine r_load rfl T.cell_int rfl (cell_blk (by repeat constructor) rfl) ?_ | refine r_load rfl T.cell_int rfl (cell_row (by repeat constructor) (rows_get0 (by omega) rfl)) ?_ | refine r_load rfl T.cell_int rfl (cell_row_f (by repeat constructor) (rows_get (by omega) rfl)) ?_
         refine r_build _ rfl rfl (fun _ => T.bd_api_Flaw_0_1 ..) ?_
         refine r_storeS rfl rfl (by first | exact .refl _ | exact perm2 _ _ _ | exact perm3 _ _ _ _ | exact perm4 _ _ _ _ _) T.sz_api_Flaw (by rfl) (by rfl) ?_
         refine r_assign rfl rfl ?_
         refine hl_nil ?_
         refine then_n ?_
         refine hc_ret ?_
         exact ret_row_tmp () rfl rfl rfl T.row_api_Flaw T.sz_api_Flaw rfl m0 (by rw [lookV, flawP, if_neg hb6, if_neg (by simp_all)]) rfl trivial (List.nil_sublist _) trivial
       ·intro hg1; have hg1' := hg1; try simp at hg1'
        apply hb_ex _ rfl rfl rfl
        ·intro w1
         refine g_no rfl rfl rfl rfl rfl hg1 ?_
         refine hl_nil ?_
         exact qe_done rfl
        apply hb_ex _ rfl rfl rfl
        ·intro w1
         refine g_no rfl rfl rfl rfl rfl hg1 ?_
         refine hl_nil ?_
         exact qe_done rfl
        apply hb_ex _ rfl rfl rfl
        ·intro w1
         refine g_no rfl rfl rfl rfl rfl hg1 ?_
         refine hl_nil ?_
         exact qe_done rfl
        apply hb_ex _ rfl rfl rfl
        ·intro w1
         refine g_no rfl rfl rfl rfl rfl hg1 ?_
         refine hl_nil ?_
         exact qe_done rfl
        apply hb_ex _ rfl rfl rfl
        ·intro w1
         refine g_no rfl rfl rfl rfl rfl hg1 ?_
         refine hl_nil ?_
         exact qe_done rfl
        refine hb_nil ⟨rfl, ?_⟩
        refine g_no rfl rfl rfl rfl rfl hg1 ?_
        refine g_no rfl rfl rfl rfl rfl hg1 ?_
        refine p_f rfl rfl (bf2 hg1) rfl ?_
        refine r_assign rfl rfl ?_
        refine hl_nil ?_
        refine then_n ?_
        refine c_f rfl rfl ?_
        refine hc_skip ?_
        refine inb_n ?_
        refine then_n ?_
        refine hc_seq ?_
        refine hc_region ?_
        refine r_move rfl rfl ?_
        first | refine r_fieldAddr ⟨_, 1, none⟩ rfl rfl T.fa_api_Mark_1 rfl ?_ | refine r_fieldAddr _ rfl rfl T.fa_api_Mark_1 rfl ?_
        first | refine r_load rfl T.cell_int rfl (cell_own (by repeat constructor) rfl) ?_ | refine r_load rfl T.cell_int rfl (cell_blk (by repeat constructor) rfl) ?_ | refine r_load rfl T.cell_int rfl (cell_row (by repeat constructor) (rows_get0 (by omega) rfl)) ?_ | refine r_load rfl T.cell_int rfl (cell_row_f (by repeat constructor) (rows_get (by omega) rfl)) ?_
        refine r_build _ rfl rfl (fun _ => T.bd_api_Flaw_0_1 ..) ?_
        refine r_storeS rfl rfl (by first | exact .refl _ | exact perm2 _ _ _ | exact perm3 _ _ _ _ | exact perm4 _ _ _ _ _) T.sz_api_Flaw (by rfl) (by rfl) ?_
        refine r_assign rfl rfl ?_
        refine hl_nil ?_
        refine then_n ?_
        refine hc_ret ?_
        exact ret_row_tmp () rfl rfl rfl T.row_api_Flaw T.sz_api_Flaw rfl m0 (by rw [lookV, flawP, if_neg hb6, if_neg (by simp_all)]) rfl trivial (List.nil_sublist _) trivial

theorem ref07_Look_meets {A B C : Option Addr} {ca cb cc : Nat} (ps : List (Sl Str)) (l : List Mk) (p : List Str) (hca : ps.length ≤ ca) : Meets Try.prog F.ref07_Look [.slice A ps.length ca, .slice B l.length cb, .slice C p.length cc] { LI := [Rows2 A ps, Row B (rows l), Row C (rows p)], val := fun _ : Unit => lookV (lookR ps l p) } := by
 refine meets_intro F.ref07_Look_f rfl (Nat.le_of_ble_eq_true rfl) fun w0 => ?_
 refine hc_seq ?_
 refine hc_region ?_
 refine r_alloc rfl (fun _ => T.al_api_Flaw _) fun gA => ?_
 refine r_assign rfl rfl ?_
 refine hl_nil ?_
 refine then_n ?_
 refine hc_seq ?_
 refine hc_seq ?_
 refine hc_region ?_
 refine r_move rfl rfl ?_
 refine hl_call F.ref07_CheckYears_cb rfl rfl (ref07_CheckYears_meets ps) (List.Perm.refl _) ⟨m0, trivial⟩ fun _ _ => ?_
 refine r_assign rfl rfl ?_
 refine hl_nil ?_
 refine then_n ?_
 refine hc_seq ?_
 refine hc_region ?_
 refine r_move rfl rfl ?_
 refine r_neq rfl rfl rfl ?_
 refine hl_nil ?_
 refine then_n ?_
 first | refine c_dec rfl (fun hb1 => ?_) (fun hb1 => ?_) | refine hc_cond rfl (fun hb1 => ?_) (fun hb1 => ?_)
 ·have hb1' := hb1; try simp at hb1'
  have e : lookR ps l p = ((0, 0), yearsErr (years ps)) := by rw [lookR, if_pos hb1]
  rw [e]
  refine hc_seq ?_
  refine hc_region ?_
  refine r_build _ rfl rfl (fun _ => T.bd_api_Flaw_ ..) ?_
  refine r_move rfl rfl ?_
  refine r_storeS rfl rfl (by first | exact .refl _ | exact perm2 _ _ _ | exact perm3 _ _ _ _ | exact perm4 _ _ _ _ _) T.sz_api_Flaw (by rfl) (by rfl) ?_
  refine r_assign rfl rfl ?_
  refine hl_nil ?_
  refine then_n ?_
  refine hc_ret ?_
  refine then_ret ?_
  exact ret_row_tmp () rfl rfl rfl T.row_api_Flaw T.sz_api_Flaw rfl m0 rfl rfl trivial (List.nil_sublist _) trivial
 ·have hb1' := hb1; try simp at hb1'
  obtain ⟨h3, h4⟩ := yearsErr_zero (Classical.not_not.1 hb1)
  refine hc_skip ?_
  refine then_n ?_
  refine hc_seq ?_
  refine hc_seq ?_
  refine hc_region ?_
  refine r_move rfl rfl ?_
  refine r_len_sl rfl T.u_pages rfl ?_
  refine r_eql rfl rfl rfl ?_
  refine hl_nil ?_
  refine then_n ?_
  first | refine c_dec rfl (fun hb2 => ?_) (fun hb2 => ?_) | refine hc_cond rfl (fun hb2 => ?_) (fun hb2 => ?_)
  ·have hb2' := hb2; try simp at hb2'
   have e : lookR ps l p = ((0, 0), 7) := by rw [lookR, if_neg hb1, if_pos (by omega)]
   rw [e]
   refine hc_seq ?_
   refine hc_region ?_
   refine r_build _ rfl rfl (fun _ => T.bd_api_Flaw_ ..) ?_
   refine r_storeS rfl rfl (by first | exact .refl _ | exact perm2 _ _ _ | exact perm3 _ _ _ _ | exact perm4 _ _ _ _ _) T.sz_api_Flaw (by rfl) (by rfl) ?_
   refine r_assign rfl rfl ?_
   refine hl_nil ?_
   refine then_n ?_
   refine hc_ret ?_
   refine then_ret ?_
   exact ret_row_tmp () rfl rfl rfl T.row_api_Flaw T.sz_api_Flaw rfl m0 rfl rfl trivial (List.nil_sublist _) trivial
  ·have hb2' := hb2; try simp at hb2'
   have hb2 : ¬ ps.length = 0 := by omega
   have hmem : lastP ps ∈ ps := getD_mem (by omega)
   refine hc_skip ?_
   refine then_n ?_
   refine hc_seq ?_
   refine hc_region ?_
   refine r_move rfl rfl ?_
   refine r_len_sl rfl T.u_pages rfl ?_
   refine r_sub ((ps.length - 1 : Nat) : Int) rfl rfl rfl (by omega) (by unfold I64; omega) ?_
   refine r_assign rfl rfl ?_
   refine hl_nil ?_
   refine then_n ?_
   refine hc_seq ?_
   refine hc_outer m0 ?_
   refine hc_region ?_
   refine r_move rfl rfl ?_
   refine r_move rfl rfl ?_
   refine r_elem (α := Sl Str) ps (ps.length - 1) rfl T.u_pages T.sz_strs rfl rfl rfl m0 rfl (by omega) (by decide) ?_
   refine r_load rfl T.cell_strs rfl (cell_row (by repeat constructor) (rows_get0 (by omega) rfl)) ?_
   refine r_move rfl rfl ?_
   refine hl_inner (p := lastP ps) m1 hmem ?_
   refine hl_call F.ref07_Apply_cb rfl rfl (ref07_Apply_meets (lastP ps).l l) (List.Perm.refl _) ⟨m0, m3, trivial⟩ fun x hx => ?_
   have hx : (applyR (lastP ps).l l).1.length ≤ x.2 := hx
   have hal := applyR_len (lastP ps).l l
   refine r_move rfl rfl ?_
   refine r_extract rfl rfl rfl ?_
   refine r_extract rfl rfl rfl ?_
   refine r_assign rfl rfl ?_
   refine r_assign rfl rfl ?_
   refine hl_nil ?_
   refine then_n ?_
   refine hc_seq ?_
   refine hc_seq ?_
   refine hc_region ?_
   refine r_move rfl rfl ?_
   refine r_neq rfl rfl rfl ?_
   refine hl_nil ?_
   refine then_n ?_
   first | refine c_dec rfl (fun hb3 => ?_) (fun hb3 => ?_) | refine hc_cond rfl (fun hb3 => ?_) (fun hb3 => ?_)
   ·have hb3' := hb3; try simp at hb3'
    have e : lookR ps l p = ((0, 0), (applyR (lastP ps).l l).2) := by rw [lookR, if_neg hb1, if_neg hb2, if_pos hb3]
    rw [e]
    refine hc_seq ?_
    refine hc_region ?_
    refine r_build _ rfl rfl (fun _ => T.bd_api_Flaw_ ..) ?_
    refine r_move rfl rfl ?_
    refine r_storeS rfl rfl (by first | exact .refl _ | exact perm2 _ _ _ | exact perm3 _ _ _ _ | exact perm4 _ _ _ _ _) T.sz_api_Flaw (by rfl) (by rfl) ?_
    refine r_assign rfl rfl ?_
    refine hl_nil ?_
    refine then_n ?_
    refine hc_ret ?_
    refine then_ret ?_
    exact ret_row_tmp () rfl rfl rfl T.row_api_Flaw T.sz_api_Flaw rfl m0 rfl rfl trivial (List.nil_sublist _) trivial
   ·have hb3' := hb3; try simp at hb3'
    refine hc_skip ?_
    refine then_n ?_
    refine hc_seq ?_
    refine hc_region ?_
    refine r_move rfl rfl ?_
    refine r_move rfl rfl ?_
    refine hl_call F.ref07_Diff_cb rfl rfl (ref07_Diff_meets (applyR (lastP ps).l l).1 p) (List.Perm.refl _) ⟨m0, m5, trivial⟩ fun y _ => ?_
    refine r_move rfl rfl ?_
    refine r_extract rfl rfl rfl ?_
    refine r_extract rfl rfl rfl ?_
    refine r_assign rfl rfl ?_
    refine r_assign rfl rfl ?_
    refine hl_nil ?_
    refine then_n ?_
    refine hc_seq ?_
    refine hc_seq ?_
    refine hc_region ?_
    refine r_move rfl rfl ?_
    refine r_neq rfl rfl rfl ?_
    refine hl_nil ?_
    refine then_n ?_
    first | refine c_dec rfl (fun hb4 => ?_) (fun hb4 => ?_) | refine hc_cond rfl (fun hb4 => ?_) (fun hb4 => ?_)
    ·have hb4' := hb4; try simp at hb4'
     have e : lookR ps l p = ((0, 0), (diffE (applyR (lastP ps).l l).1 p (diffR (applyR (lastP ps).l l).1 p 0 0)).2) := by rw [lookR, if_neg hb1, if_neg hb2, if_neg hb3, if_pos hb4]
     rw [e]
     refine hc_seq ?_
     refine hc_region ?_
     refine r_build _ rfl rfl (fun _ => T.bd_api_Flaw_ ..) ?_
     refine r_move rfl rfl ?_
     refine r_storeS rfl rfl (by first | exact .refl _ | exact perm2 _ _ _ | exact perm3 _ _ _ _ | exact perm4 _ _ _ _ _) T.sz_api_Flaw (by rfl) (by rfl) ?_
     refine r_assign rfl rfl ?_
     refine hl_nil ?_
     refine then_n ?_
     refine hc_ret ?_
     refine then_ret ?_
     exact ret_row_tmp () rfl rfl rfl T.row_api_Flaw T.sz_api_Flaw rfl m0 rfl rfl trivial (List.nil_sublist _) trivial
    ·have hb4' := hb4; try simp at hb4'
     refine hc_skip ?_
     refine then_n ?_
     refine hc_seq ?_
     refine hc_seq ?_
     refine hc_region ?_
     refine r_move rfl rfl ?_
     refine r_len_sl rfl T.u_L_api_Mark rfl ?_
     refine r_eql rfl rfl rfl ?_
     refine hl_nil ?_
     refine then_n ?_
     first | refine c_dec rfl (fun hb5 => ?_) (fun hb5 => ?_) | refine hc_cond rfl (fun hb5 => ?_) (fun hb5 => ?_)
     ·have hb5' := hb5; try simp at hb5'
      have e : lookR ps l p = ((0, 0), 0) := by rw [lookR, if_neg hb1, if_neg hb2, if_neg hb3, if_neg hb4, if_pos (by omega)]
      rw [e]
      refine hc_seq ?_
      refine hc_region ?_
      refine r_build _ rfl rfl (fun _ => T.bd_api_Flaw_ ..) ?_
      refine r_storeS rfl rfl (by first | exact .refl _ | exact perm2 _ _ _ | exact perm3 _ _ _ _ | exact perm4 _ _ _ _ _) T.sz_api_Flaw (by rfl) (by rfl) ?_
      refine r_assign rfl rfl ?_
      refine hl_nil ?_
      refine then_n ?_
      refine hc_ret ?_
      refine then_ret ?_
      exact ret_row_tmp () rfl rfl rfl T.row_api_Flaw T.sz_api_Flaw rfl m0 rfl rfl trivial (List.nil_sublist _) trivial
     ·have hb5' := hb5; try simp at hb5'
      have hb5 : ¬ (diffE (applyR (lastP ps).l l).1 p (diffR (applyR (lastP ps).l l).1 p 0 0)).1.length = 0 := by omega
      have e : lookR ps l p = (flawR ps (applyR (lastP ps).l l).1 ((diffE (applyR (lastP ps).l l).1 p (diffR (applyR (lastP ps).l l).1 p 0 0)).1.getD 0 default), 0) := by rw [lookR, if_neg hb1, if_neg hb2, if_neg hb3, if_neg hb4, if_neg hb5]
      rw [e]
      refine hc_skip ?_
      refine then_n ?_
      refine hc_seq ?_
      refine hc_region ?_
      refine r_move rfl rfl ?_
      refine r_elem (α := Mk) (diffE (applyR (lastP ps).l l).1 p (diffR (applyR (lastP ps).l l).1 p 0 0)).1 0 rfl T.u_L_api_Mark T.sz_api_Mark rfl rfl rfl m0 rfl (by omega) (by decide) ?_
      refine r_loadS rfl T.row_api_Mark T.sz_api_Mark rfl rfl (cells_row m0 (rows_all (l := (diffE (applyR (lastP ps).l l).1 p (diffR (applyR (lastP ps).l l).1 p 0 0)).1) (i := 0) (by omega))) ?_
      refine r_alloc rfl (fun _ => T.al_api_Mark _) fun gA => ?_
      refine r_storeS rfl rfl (by first | exact .refl _ | exact perm2 _ _ _ | exact perm3 _ _ _ _ | exact perm4 _ _ _ _ _) T.sz_api_Mark (by rfl) (by rfl) ?_
      refine hl_nil ?_
      refine then_n ?_
      refine hc_seq ?_
      refine hc_block ?_
      refine hc_seq ?_
      generalize ((diffE (applyR (lastP ps).l l).1 p (diffR (applyR (lastP ps).l l).1 p 0 0)).1.getD 0 default) = m at *
      generalize (applyR (lastP ps).l l) = r at *
      obtain ⟨mk, ma, mt⟩ := m
      refine hc_region ?_
      first | refine r_fieldAddr ⟨_, 0, none⟩ rfl rfl T.fa_api_Mark_0 rfl ?_ | refine r_fieldAddr _ rfl rfl T.fa_api_Mark_0 rfl ?_
      first | refine r_load rfl T.cell_int rfl (cell_own (by repeat constructor) rfl) ?_ | refine r_load rfl T.cell_int rfl (cell_blk (by repeat constructor) rfl) ?_ | refine r_load rfl T.cell_int rfl (cell_row (by repeat constructor) (rows_get0 (by omega) rfl)) ?_ | refine r_load rfl T.cell_int rfl (cell_row_f (by repeat constructor) (rows_get (by omega) rfl)) ?_
      refine r_eql rfl rfl rfl ?_
      refine r_assign rfl rfl ?_
      refine hl_nil ?_
      refine then_n ?_
      first | refine c_dec rfl (fun hb6 => ?_) (fun hb6 => ?_) | refine hc_cond rfl (fun hb6 => ?_) (fun hb6 => ?_)
      ·have hb6' := hb6; try simp at hb6'
       simp only at hb6
       refine hc_seq ?_
       refine hc_region ?_
       first | refine r_fieldAddr ⟨_, 1, none⟩ rfl rfl T.fa_api_Mark_1 rfl ?_ | refine r_fieldAddr _ rfl rfl T.fa_api_Mark_1 rfl ?_
       first | refine r_load rfl T.cell_int rfl (cell_own (by repeat constructor) rfl) ?_ | refine r_load rfl T.cell_int rfl (cell_blk (by repeat constructor) rfl) ?_ | refine r_load rfl T.cell_int rfl (cell_row (by repeat constructor) (rows_get0 (by omega) rfl)) ?_ | refine r_load rfl T.cell_int rfl (cell_row_f (by repeat constructor) (rows_get (by omega) rfl)) ?_
       refine r_build _ rfl rfl (fun _ => T.bd_api_Flaw_0_1 ..) ?_
       refine r_storeS rfl rfl (by first | exact .refl _ | exact perm2 _ _ _ | exact perm3 _ _ _ _ | exact perm4 _ _ _ _ _) T.sz_api_Flaw (by rfl) (by rfl) ?_
       refine r_assign rfl rfl ?_
       refine hl_nil ?_
       refine then_n ?_
       refine hc_ret ?_
       refine inb_ret ?_
       refine then_ret ?_
       exact ret_row_tmp () rfl rfl rfl T.row_api_Flaw T.sz_api_Flaw rfl m0 (by rw [lookV, flawR, if_pos hb6]) rfl trivial (List.nil_sublist _) trivial
      ·have hb6' := hb6; try simp at hb6'
       refine hc_seq ?_
       refine hc_draw 11 mixed (by decide) (by decide) rfl rfl ?_
       apply hb_ex _ rfl rfl rfl
       ·intro w1
        refine r_move rfl rfl ?_
        refine hl_nil ?_
        exact qe_done rfl
       apply hb_ex _ rfl rfl rfl
       ·intro w1
        first | refine r_fieldAddr ⟨_, 2, none⟩ rfl rfl T.fa_api_Mark_2 rfl ?_ | refine r_fieldAddr _ rfl rfl T.fa_api_Mark_2 rfl ?_
        refine hl_nil ?_
        exact qe_done rfl
       apply hb_ex _ rfl rfl rfl
       ·intro w1
        first | refine r_load rfl T.cell_string rfl (cell_blk (by repeat constructor) rfl) ?_ | refine r_load rfl T.cell_string rfl (cell_own (by repeat constructor) rfl) ?_ | refine r_load rfl T.cell_string rfl (cell_row (by repeat constructor) (rows_get0 (by omega) rfl)) ?_ | refine r_load rfl T.cell_string rfl (cell_row_f (by repeat constructor) (rows_get (by omega) rfl)) ?_
        refine hl_nil ?_
        exact qe_done rfl
       apply hb_ex _ rfl rfl rfl
       ·intro w1
        refine hl_call F.ref07_count_cb rfl rfl (ref07_count_meets r.1 mt (by omega)) (List.Perm.refl _) ⟨m3, trivial⟩ fun _ _ => ?_
        refine hl_nil ?_
        exact qe_done rfl
       apply hb_ex _ rfl rfl rfl
       ·intro w1
        refine r_eql rfl rfl rfl ?_
        refine hl_nil ?_
        exact qe_done rfl
       apply hb_ex _ rfl rfl rfl
       ·intro w1
        refine r_move rfl rfl ?_
        refine hl_nil ?_
        exact qe_done rfl
       refine hb_split (t := 70) (want := true) rfl ?_ ?_
       ·intro hg1; have hg1' := hg1; try simp at hg1'
        apply hb_ex _ rfl rfl rfl
        ·intro w1
         refine g_yes rfl rfl hg1 ?_
         refine r_move rfl rfl ?_
         refine hl_nil ?_
         exact qe_done rfl
        apply hb_ex _ rfl rfl rfl
        ·intro w1
         refine g_yes rfl rfl hg1 ?_
         refine r_move rfl rfl ?_
         refine hl_nil ?_
         exact qe_done rfl
        apply hb_ex _ rfl rfl rfl
        ·intro w1
         refine g_yes rfl rfl hg1 ?_
         refine r_slice_hi (ps.length - 1) rfl T.u_pages T.sz_strs rfl rfl rfl (by omega) ?_
         refine hl_nil ?_
         exact qe_done rfl
        apply hb_ex _ rfl rfl rfl
        ·intro w1
         refine g_yes rfl rfl hg1 ?_
         first | refine r_fieldAddr ⟨_, 2, none⟩ rfl rfl T.fa_api_Mark_2 rfl ?_ | refine r_fieldAddr _ rfl rfl T.fa_api_Mark_2 rfl ?_
         refine hl_nil ?_
         exact qe_done rfl
        apply hb_ex _ rfl rfl rfl
        ·intro w1
         refine g_yes rfl rfl hg1 ?_
         first | refine r_load rfl T.cell_string rfl (cell_blk (by repeat constructor) rfl) ?_ | refine r_load rfl T.cell_string rfl (cell_own (by repeat constructor) rfl) ?_ | refine r_load rfl T.cell_string rfl (cell_row (by repeat constructor) (rows_get0 (by omega) rfl)) ?_ | refine r_load rfl T.cell_string rfl (cell_row_f (by repeat constructor) (rows_get (by omega) rfl)) ?_
         refine hl_nil ?_
         exact qe_done rfl
        refine hb_nil ⟨rfl, ?_⟩
        refine g_yes rfl rfl hg1 ?_
        refine hl_take2 (A := A) (ps := ps) (ps.length - 1) m4 ?_
        refine hl_call (vs := [.slice A (ps.length - 1) ca, str mt]) F.ref07_stock_cb rfl rfl (stock_take_meets mt (by omega) (by omega) (fun q hq => by have := h4 q hq; omega) (fun ps s h1 h2 => ref07_stock_meets ps s h1 h2)) (List.Perm.refl _) ⟨m0, trivial⟩ fun _ _ => ?_
        refine g_yes rfl rfl hg1 ?_
        refine r_gtr rfl rfl rfl ?_
        refine p_t rfl rfl (bt1 hg1) rfl ?_
        refine r_assign rfl rfl ?_
        refine hl_nil ?_
        refine then_n ?_
        first | refine c_dec rfl (fun hb7 => ?_) (fun hb7 => ?_) | refine hc_cond rfl (fun hb7 => ?_) (fun hb7 => ?_)
        ·have hb7' := hb7; try simp at hb7'
         refine hc_seq ?_
         refine hc_region ?_
         first | refine r_fieldAddr ⟨_, 1, none⟩ rfl rfl T.fa_api_Mark_1 rfl ?_ | refine r_fieldAddr _ rfl rfl T.fa_api_Mark_1 rfl ?_
         first | refine r_load rfl T.cell_int rfl (cell_own (by repeat constructor) rfl) ?_ | refine r_load rfl T.cell_int rfl (cell_blk (by repeat constructor) rfl) ?_ | refine r_load rfl T.cell_int rfl (cell_row (by repeat constructor) (rows_get0 (by omega) rfl)) ?_ | refine r_load rfl T.cell_int rfl (cell_row_f (by repeat constructor) (rows_get (by omega) rfl)) ?_
         refine r_build _ rfl rfl (fun _ => T.bd_api_Flaw_0_1 ..) ?_
         refine r_storeS rfl rfl (by first | exact .refl _ | exact perm2 _ _ _ | exact perm3 _ _ _ _ | exact perm4 _ _ _ _ _) T.sz_api_Flaw (by rfl) (by rfl) ?_
         refine r_assign rfl rfl ?_
         refine hl_nil ?_
         refine then_n ?_
         refine hc_ret ?_
         refine inb_ret ?_
         refine then_ret ?_
         exact ret_row_tmp () rfl rfl rfl T.row_api_Flaw T.sz_api_Flaw rfl m0 (by rw [lookV, flawR, if_neg hb6, if_pos (by simp_all)]) rfl trivial (List.nil_sublist _) trivial
        ·have hb7' := hb7; try simp at hb7'
         refine hc_skip ?_
         refine inb_n ?_
         refine then_n ?_
         refine hc_seq ?_
         refine hc_region ?_
         first | refine r_fieldAddr ⟨_, 1, none⟩ rfl rfl T.fa_api_Mark_1 rfl ?_ | refine r_fieldAddr _ rfl rfl T.fa_api_Mark_1 rfl ?_
         first | refine r_load rfl T.cell_int rfl (cell_own (by repeat constructor) rfl) ?_ | refine r_load rfl T.cell_int rfl (cell_blk (by repeat constructor) rfl) ?_ | refine r_load rfl T.cell_int rfl (cell_row (by repeat constructor) (rows_get0 (by omega) rfl)) ?_ | refine r_load rfl T.cell_int rfl (cell_row_f (by repeat constructor) (rows_get (by omega) rfl)) ?_
         refine r_build _ rfl rfl (fun _ => T.bd_api_Flaw_0_1 ..) ?_
         refine r_storeS rfl rfl (by first | exact .refl _ | exact perm2 _ _ _ | exact perm3 _ _ _ _ | exact perm4 _ _ _ _ _) T.sz_api_Flaw (by rfl) (by rfl) ?_
         refine r_assign rfl rfl ?_
         refine hl_nil ?_
         refine then_n ?_
         refine hc_ret ?_
         exact ret_row_tmp () rfl rfl rfl T.row_api_Flaw T.sz_api_Flaw rfl m0 (by rw [lookV, flawR, if_neg hb6, if_neg (by simp_all)]) rfl trivial (List.nil_sublist _) trivial
       ·intro hg1; have hg1' := hg1; try simp at hg1'
        apply hb_ex _ rfl rfl rfl
        ·intro w1
         refine g_no rfl rfl rfl rfl rfl hg1 ?_
         refine hl_nil ?_
         exact qe_done rfl
        apply hb_ex _ rfl rfl rfl
        ·intro w1
         refine g_no rfl rfl rfl rfl rfl hg1 ?_
         refine hl_nil ?_
         exact qe_done rfl
        apply hb_ex _ rfl rfl rfl
        ·intro w1
         refine g_no rfl rfl rfl rfl rfl hg1 ?_
         refine hl_nil ?_
         exact qe_done rfl
        apply hb_ex _ rfl rfl rfl
        ·intro w1
         refine g_no rfl rfl rfl rfl rfl hg1 ?_
         refine hl_nil ?_
         exact qe_done rfl
        apply hb_ex _ rfl rfl rfl
        ·intro w1
         refine g_no rfl rfl rfl rfl rfl hg1 ?_
         refine hl_nil ?_
         exact qe_done rfl
        refine hb_nil ⟨rfl, ?_⟩
        refine g_no rfl rfl rfl rfl rfl hg1 ?_
        refine g_no rfl rfl rfl rfl rfl hg1 ?_
        refine p_f rfl rfl (bf2 hg1) rfl ?_
        refine r_assign rfl rfl ?_
        refine hl_nil ?_
        refine then_n ?_
        refine c_f rfl rfl ?_
        refine hc_skip ?_
        refine inb_n ?_
        refine then_n ?_
        refine hc_seq ?_
        refine hc_region ?_
        first | refine r_fieldAddr ⟨_, 1, none⟩ rfl rfl T.fa_api_Mark_1 rfl ?_ | refine r_fieldAddr _ rfl rfl T.fa_api_Mark_1 rfl ?_
        first | refine r_load rfl T.cell_int rfl (cell_own (by repeat constructor) rfl) ?_ | refine r_load rfl T.cell_int rfl (cell_blk (by repeat constructor) rfl) ?_ | refine r_load rfl T.cell_int rfl (cell_row (by repeat constructor) (rows_get0 (by omega) rfl)) ?_ | refine r_load rfl T.cell_int rfl (cell_row_f (by repeat constructor) (rows_get (by omega) rfl)) ?_
        refine r_build _ rfl rfl (fun _ => T.bd_api_Flaw_0_1 ..) ?_
        refine r_storeS rfl rfl (by first | exact .refl _ | exact perm2 _ _ _ | exact perm3 _ _ _ _ | exact perm4 _ _ _ _ _) T.sz_api_Flaw (by rfl) (by rfl) ?_
        refine r_assign rfl rfl ?_
        refine hl_nil ?_
        refine then_n ?_
        refine hc_ret ?_
        exact ret_row_tmp () rfl rfl rfl T.row_api_Flaw T.sz_api_Flaw rfl m0 (by rw [lookV, flawR, if_neg hb6, if_neg (by simp_all)]) rfl trivial (List.nil_sublist _) trivial

end Go.Proofs.Ytpbbgbjidhffoaa
