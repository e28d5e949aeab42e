/- Texts. -/
import Derived.ProofKit
import Derived.OpenShut
import Derived.ShutString
import Derived.ChangeOld
import Derived.Below
import Derived.SliceStrings
import Derived.ChangeSlices
import Derived.Deep.Slices
import Derived.Deep.Strs
import Derived.Conc.LeavingOf
import Derived.Test.YtpfbbggmcbhboaaAAo
import Derived.Test.YtpfbbggmcbhboaaAAf
import Derived.Test.YtpfbbggmcbhboaaAAa
set_option linter.unusedVariables false
set_option linter.unusedSimpArgs false
section
namespace Go.Proofs.Ytpfbbggmcbhboaa
open Go Go.W
set_option maxRecDepth 20000
attribute [local irreducible] HL HC HQ HB Row Rows2 Blk Facts
def longP (p : List Str) : Bool := (p.any fun s => decide (30 < s.length)) || decide (20 < p.length)
def manyP (l : List Mk) : Bool := (l.any fun m => decide (30 < m.2.2.length)) || decide (20 < l.length)
def oldP (ys : List (List Str)) : Bool := (ys.any longP) || decide (20 < ys.length)
theorem longP_false {p : List Str} (h : longP p = false) : p.length ≤ 20 ∧ ∀ s ∈ p, s.length ≤ 30 := by
  simp only [longP, Bool.or_eq_false_iff, List.any_eq_false, decide_eq_false_iff_not, decide_eq_true_eq] at h; exact ⟨by omega, fun s hs => by have := h.1 s hs; omega⟩
theorem manyP_false {l : List Mk} (h : manyP l = false) : l.length ≤ 20 := by
  simp only [manyP, Bool.or_eq_false_iff, decide_eq_false_iff_not] at h
  omega
theorem any_take2 {α : Type} [Inhabited α] {f : α → Bool} {l : List α} {k : Nat} (hk : k < l.length) (h : (l.take k).any f = false) (h1 : f (l.getD k default) = false) : (l.take (k + 1)).any f = false := by
  rw [take_succ_getD l k hk, List.any_append, h]; simp only [List.any_cons, List.any_nil, h1, Bool.or_false]
theorem any_at2 {α : Type} [Inhabited α] {f : α → Bool} {l : List α} {k : Nat} (hk : k < l.length) (h1 : f (l.getD k default) = true) : l.any f = true := List.any_eq_true.2 ⟨_, getD_mem hk, h1⟩
theorem law07_long_meets {A : Option Addr} {c : Nat} (l : List Str) (hl : l.length ≤ 9223372036854775807) : Meets Try.prog F.law07_long [.slice A l.length c] { LI := [Row A (rows l)], val := fun _ : Unit => .bool (longP l) } := by
 refine meets_intro F.law07_long_f rfl (Nat.le_of_ble_eq_true rfl) fun w0 => ?_; refine hc_seq (hc_region (r_assign rfl rfl (hl_nil (then_n (hc_seq (hc_seq (hc_region (r_assign rfl rfl (hl_nil (then_n (hc_block ?_))))))))))); refine hc_loop (β := Nat) ⟨fun k => k ≤ l.length ∧ (l.take k).any (fun s => decide (30 < s.length)) = false, fun k => [(0, .slice A l.length c), (3, int k)], fun _ => [], fun _ => [Row A (rows l)]⟩ (fun k => l.length - k) 0 ⟨Nat.zero_le _, rfl⟩ ⟨rfl, rfl, trivial⟩ (.refl _) ⟨m0, trivial⟩ fun k hk => ?_; obtain ⟨hk, ht⟩ := hk; refine hc_seq (hc_seq (hc_region (r_move rfl rfl (r_move rfl rfl ?_)))); refine r_len_sl rfl T.u_strs rfl ?_; refine r_lss rfl rfl rfl (hl_nil (then_n ?_))
 first | refine c_dec rfl (fun hb1 => ?_) (fun hb1 => ?_) | refine hc_cond rfl (fun hb1 => ?_) (fun hb1 => ?_)
 ·have hb1' := hb1; try simp at hb1'
  have hk2 : k < l.length := by omega
  refine hc_skip (then_n (hc_seq (hc_block (hc_seq (hc_region (r_move rfl rfl (r_move rfl rfl ?_))))))); refine r_elem (α := Str) _ _ rfl T.u_strs T.sz_string rfl rfl rfl mB rfl (by omega) (by decide) ?_; refine r_load rfl T.cell_string rfl (cell_row mB (rows_get0 (by omega) rfl)) ?_; refine r_len_str rfl T.u_string rfl ?_; refine r_gtr rfl rfl rfl (hl_nil (then_n ?_))
  first | refine c_dec rfl (fun hb2 => ?_) (fun hb2 => ?_) | refine hc_cond rfl (fun hb2 => ?_) (fun hb2 => ?_)
  ·have hb2' := hb2; try simp at hb2'
   have h1 := any_at2 (f := fun s => decide (30 < s.length)) hk2 (decide_eq_true (p := 30 < (l.getD k default).length) (by omega)); refine hc_seq (hc_region (r_assign rfl rfl (hl_nil (then_n (hc_ret (inb_ret (then_ret (then_ret (inb_ret (then_ret ?_)))))))))); exact ret1 () rfl (congrArg (fun b => some (Value.bool b)) (by rw [longP, h1]; rfl)) rfl trivial (List.nil_sublist _) trivial
  ·have hb2' := hb2; try simp at hb2'
   have h1 : (fun s => decide (30 < s.length)) (l.getD k default) = false := decide_eq_false (p := 30 < (l.getD k default).length) (by omega); refine hc_skip (inb_n (then_n (hc_region (r_move rfl rfl ?_)))); refine r_add _ rfl rfl rfl rfl (by unfold I64; omega) ?_; refine r_assign rfl rfl (hl_nil ?_); exact again _ (k + 1) ⟨by omega, any_take2 hk2 ht h1⟩ (by show l.length - (k + 1) < l.length - k; omega) ⟨rfl, rfl, trivial⟩ (.refl _) ⟨m0, trivial⟩
 ·have hb1' := hb1; try simp at hb1'
  have hk2 : k = l.length := by omega
  subst hk2; rw [List.take_length] at ht; refine hc_exit (then_exit (then_exit (inb_hit (then_n (hc_seq (hc_region (r_move rfl rfl ?_))))))); refine r_len_sl rfl T.u_strs rfl ?_; refine r_gtr rfl rfl rfl (r_assign rfl rfl (hl_nil (then_n (hc_ret ?_)))); exact ret1 () rfl (congrArg (fun b => some (Value.bool b)) (by rw [longP, ht, Bool.false_or]; exact decide_eq_decide.2 (by omega))) rfl trivial (List.nil_sublist _) trivial
theorem law07_many_meets {A : Option Addr} {c : Nat} (l : List Mk) (hl : l.length ≤ 9223372036854775807) : Meets Try.prog F.law07_many [.slice A l.length c] { LI := [Row A (rows l)], val := fun _ : Unit => .bool (manyP l) } := by
 refine meets_intro F.law07_many_f rfl (Nat.le_of_ble_eq_true rfl) fun w0 => ?_; refine hc_seq (hc_region (r_assign rfl rfl (hl_nil (then_n (hc_seq (hc_seq (hc_region (r_assign rfl rfl (hl_nil (then_n (hc_block ?_))))))))))); refine hc_loop (β := Nat) ⟨fun k => k ≤ l.length ∧ (l.take k).any (fun m => decide (30 < m.2.2.length)) = false, fun k => [(0, .slice A l.length c), (3, int k)], fun _ => [], fun _ => [Row A (rows l)]⟩ (fun k => l.length - k) 0 ⟨Nat.zero_le _, rfl⟩ ⟨rfl, rfl, trivial⟩ (.refl _) ⟨m0, trivial⟩ fun k hk => ?_; obtain ⟨hk, ht⟩ := hk; refine hc_seq (hc_seq (hc_region (r_move rfl rfl (r_move rfl rfl ?_)))); refine r_len_sl rfl T.u_L_api_Mark rfl ?_; refine r_lss rfl rfl rfl (hl_nil (then_n ?_))
 first | refine c_dec rfl (fun hb1 => ?_) (fun hb1 => ?_) | refine hc_cond rfl (fun hb1 => ?_) (fun hb1 => ?_)
 ·have hb1' := hb1; try simp at hb1'
  have hk2 : k < l.length := by omega
  refine hc_skip (then_n (hc_seq (hc_block (hc_seq (hc_region (r_move rfl rfl (r_move rfl rfl ?_))))))); refine r_elem (α := Mk) _ _ rfl T.u_L_api_Mark T.sz_api_Mark rfl rfl rfl mB rfl (by omega) (by decide) ?_
  first | refine r_fieldAddr ⟨_, 2, none⟩ rfl rfl T.fa_api_Mark_2 rfl ?_ | refine r_fieldAddr _ rfl rfl T.fa_api_Mark_2 rfl ?_
  refine r_load rfl T.cell_string rfl (cell_row_f mB (rows_get (by omega) rfl)) ?_; refine r_len_str rfl T.u_string rfl ?_; refine r_gtr rfl rfl rfl (hl_nil (then_n ?_))
  first | refine c_dec rfl (fun hb2 => ?_) (fun hb2 => ?_) | refine hc_cond rfl (fun hb2 => ?_) (fun hb2 => ?_)
  ·have hb2' := hb2; try simp at hb2'
   have h1 := any_at2 (f := fun m => decide (30 < m.2.2.length)) hk2 (decide_eq_true (p := 30 < (l.getD k default).2.2.length) (by omega)); refine hc_seq (hc_region (r_assign rfl rfl (hl_nil (then_n (hc_ret (inb_ret (then_ret (then_ret (inb_ret (then_ret ?_)))))))))); exact ret1 () rfl (congrArg (fun b => some (Value.bool b)) (by rw [manyP, h1]; rfl)) rfl trivial (List.nil_sublist _) trivial
  ·have hb2' := hb2; try simp at hb2'
   have h1 : (fun m => decide (30 < m.2.2.length)) (l.getD k default) = false := decide_eq_false (p := 30 < (l.getD k default).2.2.length) (by omega); refine hc_skip (inb_n (then_n (hc_region (r_move rfl rfl ?_)))); refine r_add _ rfl rfl rfl rfl (by unfold I64; omega) ?_; refine r_assign rfl rfl (hl_nil ?_); exact again _ (k + 1) ⟨by omega, any_take2 hk2 ht h1⟩ (by show l.length - (k + 1) < l.length - k; omega) ⟨rfl, rfl, trivial⟩ (.refl _) ⟨m0, trivial⟩
 ·have hb1' := hb1; try simp at hb1'
  have hk2 : k = l.length := by omega
  subst hk2; rw [List.take_length] at ht; refine hc_exit (then_exit (then_exit (inb_hit (then_n (hc_seq (hc_region (r_move rfl rfl ?_))))))); refine r_len_sl rfl T.u_L_api_Mark rfl ?_; refine r_gtr rfl rfl rfl (r_assign rfl rfl (hl_nil (then_n (hc_ret ?_)))); exact ret1 () rfl (congrArg (fun b => some (Value.bool b)) (by rw [manyP, ht, Bool.false_or]; exact decide_eq_decide.2 (by omega))) rfl trivial (List.nil_sublist _) trivial
abbrev CapOK (ps : List (Sl Str)) : Prop := ∀ p ∈ ps, p.l.length ≤ p.c
theorem CapOK.snoc {ps : List (Sl Str)} {p : Sl Str} (h : CapOK ps) (hp : p.l.length ≤ p.c) : CapOK (ps ++ [p]) := fun q hq => by
  rcases List.mem_append.1 hq with hq | hq
  · exact h q hq
  · simp at hq; subst hq; exact hp
end Go.Proofs.Ytpfbbggmcbhboaa
end
section
namespace Go.Proofs.Ytpfbbggmcbhboaa
open Go Go.W
set_option maxRecDepth 20000
attribute [local irreducible] HL HC HQ HB Row Rows2 Blk Facts
def stepC (b : List Str) (x : Str) (st : List Int × Int) (k : Nat) : List Int × Int :=
  (st.1.set (k + 1) (if x = b.getD k default then st.2 + 1 else if st.1.getD k default > st.1.getD (k + 1) default then st.1.getD k default else st.1.getD (k + 1) default), st.1.getD (k + 1) default)
def rowC (b : List Str) (cur : List Int) (x : Str) : List Int := ((List.range b.length).foldl (stepC b x) (cur, 0)).1
def zeroC (b : List Str) : List Int := List.replicate (b.length + 1) 0
def commonI (a b : List Str) : Int := (a.foldl (rowC b) (zeroC b)).getD b.length default
structure BdC (m i k : Nat) (st : List Int × Int) : Prop where
  len : st.1.length = m + 1
  c0 : 0 ≤ st.2
  c1 : st.2 ≤ i
  lo : ∀ j : Nat, 0 ≤ st.1.getD j default
  hi : ∀ j : Nat, j ≤ k → st.1.getD j default ≤ (i : Int) + 1
  hi2 : ∀ j : Nat, k < j → st.1.getD j default ≤ i
theorem getD_set' {l : List Int} {k j : Nat} {v : Int} (hk : k < l.length) : (l.set k v).getD j default = if k = j then v else l.getD j default := by
  rw [List.getD_eq_getElem?_getD, List.getD_eq_getElem?_getD, List.getElem?_set]
  split
  · rfl
  · rfl
theorem BdC.step {m i k : Nat} {st : List Int × Int} (h : BdC m i k st) (b : List Str) (x : Str) (hk : k < m) : BdC m i (k + 1) (stepC b x st k) := by
  have hl : k + 1 < st.1.length := by rw [h.len]; omega
  have h1 := h.lo k; have h2 := h.hi k (Nat.le_refl _); have h3 := h.lo (k + 1); have h4 := h.hi2 (k + 1) (by omega); have h5 := h.c0; have h6 := h.c1; refine ⟨by simp [stepC, h.len], h3, h4, fun j => ?_, fun j hj => ?_, fun j hj => ?_⟩
  · show 0 ≤ (st.1.set (k + 1) _).getD j default
    rw [getD_set' hl]
    split
    · split
      · omega
      · split <;> omega
    · exact h.lo j
  · show (st.1.set (k + 1) _).getD j default ≤ _
    rw [getD_set' hl]
    split
    · split
      · omega
      · split <;> omega
    · exact h.hi j (by omega)
  · show (st.1.set (k + 1) _).getD j default ≤ _
    rw [getD_set' hl, if_neg (by omega)]; exact h.hi2 j (by omega)
def arrB (g : Nat) (l : List Int) : Nat × Obj := (g, .cells (rows l).toArray T.int (0, 0))
end Go.Proofs.Ytpfbbggmcbhboaa
end
section
namespace Go.Proofs.Ytpfbbggmcbhboaa
open Go Go.W
set_option maxRecDepth 20000
attribute [local irreducible] HL HC HQ HB Row Rows2 Blk Facts
def seed0 : Int × Int := (0, 11400714819323198485)
theorem dok0 (nums : List Int) : DOK nums seed0 := ⟨by decide, by simp [seed0], by decide, by decide⟩
abbrev Pg := Sl Str
abbrev Mg := Sl Mk
end Go.Proofs.Ytpfbbggmcbhboaa
end
section
namespace Go.Proofs.Ytpfbbggmcbhboaa
open Go Go.W
set_option maxRecDepth 20000
attribute [local irreducible] HL HC HQ HB Row Rows2 Blk Facts
theorem mergeP_len (p : List Str) (xs ys : List Mk) : (mergeP p xs ys).1.length ≤ 12 := by
  unfold mergeP
  split
  · simp
  · split
    · simp
    · split
      · simp
      · split
        · simp
        · simp only; omega
set_option maxHeartbeats 4000000 in
theorem law07_ProofMerges_meets {A M N2 N : Option Addr} {ca cm c2 cn : Nat} (a : List Str) (ms ns : List Mk) (nums : List Int) (ha : a.length ≤ 9223372036854775807) (hm : ms.length ≤ 9223372036854775807) (hns : ns.length ≤ 9223372036854775807) (hn : nums.length ≤ 9223372036854775807) :
    Meets Try.prog F.law07_ProofMerges [.slice A a.length ca, .slice M ms.length cm, .slice N2 ns.length c2, .slice N nums.length cn] { LI := [Row A (rows a), Row M (rows ms), Row N2 (rows ns), Row N (rows nums)], val := fun _ : Unit => .bool true } := by
 refine meets_intro F.law07_ProofMerges_f rfl (Nat.le_of_ble_eq_true rfl) fun w0 => ?_; refine hc_seq (hc_region (r_assign rfl rfl (hl_nil (then_n ?_)))); refine hc_cut ⟨fun _ : Unit => a.length ≤ 20 ∧ ms.length ≤ 20 ∧ ns.length ≤ 20, fun _ => [(0, .slice A a.length ca), (1, .slice M ms.length cm), (2, .slice N2 ns.length c2), (3, .slice N nums.length cn)], fun _ => [], fun _ => [Row A (rows a), Row M (rows ms), Row N2 (rows ns), Row N (rows nums)]⟩ ?_ ?_
 ·skip
  refine hc_seq (hc_region (r_move rfl rfl ?_)); refine hl_call F.law07_long_cb rfl rfl (law07_long_meets a ha) (List.Perm.refl _) ⟨m0, trivial⟩ fun _ _ => ?_; refine r_move rfl rfl ?_; refine g_split rfl rfl ?_ ?_
  ·intro hg1; have hg1' := hg1; try simp at hg1'
   refine g_yes rfl rfl hg1 (r_move rfl rfl (g_yes rfl rfl hg1 ?_)); refine hl_call F.law07_many_cb rfl rfl (law07_many_meets ms hm) (List.Perm.refl _) ⟨m1, trivial⟩ fun _ _ => ?_; refine p_f rfl rfl (bf1 hg1) rfl ?_; refine r_move rfl rfl ?_; refine g_split rfl rfl ?_ ?_
   ·intro hg2; have hg2' := hg2; try simp at hg2'
    refine g_yes rfl rfl hg2 (r_move rfl rfl (g_yes rfl rfl hg2 ?_)); refine hl_call F.law07_many_cb rfl rfl (law07_many_meets ns hns) (List.Perm.refl _) ⟨m2, trivial⟩ fun _ _ => ?_; refine p_f rfl rfl (bf1 hg2) rfl ?_; refine hl_nil (then_n ?_)
    first | refine c_dec rfl (fun hb1 => ?_) (fun hb1 => ?_) | refine hc_cond rfl (fun hb1 => ?_) (fun hb1 => ?_)
    ·have hb1' := hb1; try simp at hb1'
     refine hc_seq (hc_region ?_); refine hl_call F.law07_correcting_cb rfl rfl (law07_correcting_meets) (List.Perm.refl _) trivial fun _ _ => ?_; refine r_assign rfl rfl (hl_nil (then_n (hc_ret (then_ret ?_)))); exact ret1 () rfl rfl rfl trivial (List.nil_sublist _) trivial
    ·have hb1' := hb1; try simp at hb1'
     refine hc_skip ?_; exact cut_n _ () ⟨(longP_false (bf1 hg1)).1, manyP_false (bf1 hg2), manyP_false hb1⟩ ⟨rfl, rfl, rfl, rfl, trivial⟩ (.refl _) ⟨m0, m1, m2, m3, trivial⟩
   ·intro hg2; have hg2' := hg2; try simp at hg2'
    refine g_no rfl rfl rfl rfl rfl hg2 (g_no rfl rfl rfl rfl rfl hg2 ?_); refine p_t rfl rfl (bt2 hg2) rfl ?_; refine hl_nil (then_n (c_t rfl rfl (hc_seq (hc_region ?_)))); refine hl_call F.law07_correcting_cb rfl rfl (law07_correcting_meets) (List.Perm.refl _) trivial fun _ _ => ?_; refine r_assign rfl rfl (hl_nil (then_n (hc_ret (then_ret ?_)))); exact ret1 () rfl rfl rfl trivial (List.nil_sublist _) trivial
  ·intro hg1; have hg1' := hg1; try simp at hg1'
   refine g_no rfl rfl rfl rfl rfl hg1 (g_no rfl rfl rfl rfl rfl hg1 ?_); refine p_t rfl rfl (bt2 hg1) rfl ?_; refine r_move rfl rfl (g_no rfl rfl rfl rfl rfl rfl (g_no rfl rfl rfl rfl rfl rfl (p_t rfl rfl rfl rfl (hl_nil (then_n (c_t rfl rfl (hc_seq (hc_region ?_)))))))); refine hl_call F.law07_correcting_cb rfl rfl (law07_correcting_meets) (List.Perm.refl _) trivial fun _ _ => ?_; refine r_assign rfl rfl (hl_nil (then_n (hc_ret (then_ret ?_)))); exact ret1 () rfl rfl rfl trivial (List.nil_sublist _) trivial
 ·intro _ hlen; obtain ⟨ha2, hm2, hn2⟩ := hlen; refine hc_seq (hc_region (r_move rfl rfl ?_)); refine hl_call F.kit_NewDice_cb rfl rfl (kit_NewDice_meets nums) (List.Perm.refl _) ⟨m3, trivial⟩ fun gd _ => ?_; refine r_assign rfl rfl (hl_nil (then_n (hc_seq (hc_region (r_move rfl rfl ?_))))); refine hl_call F.kit_PageOf_cb rfl rfl (kit_PageOf_meets 6 hn (dok0 nums) (by omega)) (.refl _) ⟨m3, trivial⟩ fun r hr => ?_; obtain ⟨s1, x, ox⟩ := r; obtain ⟨hs1, hx4, _, hxc⟩ := hr; simp only at hx4 hxc; refine r_assign rfl rfl (hl_nil (then_n (hc_seq (hc_region (r_move rfl rfl (r_move rfl rfl ?_)))))); refine r_len_sl rfl T.u_strs rfl ?_; refine hl_call F.kit_MarksOf_cb rfl rfl (kit_MarksOf_meets x.length 8 hn hs1 (by omega)) (.refl _) ⟨m4, trivial⟩ fun r hr => ?_; obtain ⟨s2, y, om⟩ := r; obtain ⟨hs2, hy5, _, hyc⟩ := hr; simp only at hy5 hyc; refine r_move rfl rfl (r_move rfl rfl ?_); refine r_len_sl rfl T.u_strs rfl ?_; refine hl_call F.kit_MarksOf_cb rfl rfl (kit_MarksOf_meets x.length 4 hn hs2 (by omega)) (.refl _) ⟨m5, trivial⟩ fun r hr => ?_; obtain ⟨s3, y2, om2⟩ := r; obtain ⟨hs3, hz5, _, hzc⟩ := hr; simp only at hz5 hzc; refine r_assign rfl rfl (r_assign rfl rfl (hl_nil (then_n ?_))); refine hc_cut ⟨fun z : List Mk × OutC => z.1.length ≤ 20, fun z => [(0, .slice A a.length ca), (1, .slice M ms.length cm), (2, .slice N2 ns.length c2), (10, .slice ox.1 x.length ox.2), (11, .slice om.1 y.length om.2), (12, .slice z.2.1 z.1.length z.2.2)], fun _ => [], fun z => [Row A (rows a), Row M (rows ms), Row N2 (rows ns), Row ox.1 (rows x), Row om.1 (rows y), Row z.2.1 (rows z.1)]⟩ ?_ ?_
  ·skip
   refine hc_seq (hc_region (r_move rfl rfl ?_)); refine r_len_sl rfl T.u_L_api_Mark rfl ?_; refine r_gtr rfl rfl rfl (r_move rfl rfl ?_); refine g_split rfl rfl ?_ ?_
   ·intro hg3; have hg3' := hg3; try simp at hg3'
    refine g_yes rfl rfl hg3 (r_move rfl rfl (g_yes rfl rfl hg3 ?_)); refine hl_call F.kit_Dice_Once_cb rfl rfl (kit_Dice_Once_meets 2 hn hs3 (by omega)) (.refl _) ⟨m6, trivial⟩ fun r hr => ?_; obtain ⟨s4, w4⟩ := r; obtain ⟨hs4, _⟩ := hr; refine p_t rfl rfl (bt1 hg3) rfl ?_; refine hl_nil (then_n ?_)
    first | refine c_dec rfl (fun hb2 => ?_) (fun hb2 => ?_) | refine hc_cond rfl (fun hb2 => ?_) (fun hb2 => ?_)
    ·have hb2' := hb2; try simp at hb2'
     refine hc_region (r_move rfl rfl (r_move rfl rfl (r_move rfl rfl ?_))); refine r_len_sl rfl T.u_L_api_Mark rfl ?_; have hy0 : 0 < y.length := hg3'; have hj : (s2, y, om).snd.fst.length = y.length := rfl; refine r_sub ((y.length - 1 : Nat) : Int) rfl rfl rfl (by omega) (by unfold I64; omega) ?_; refine hl_call F.kit_Dice_To_cb rfl rfl (kit_Dice_To_meets ((y.length - 1 : Nat) : Int) hn hs4 (by omega)) (.refl _) ⟨by repeat constructor, trivial⟩ fun r hr => ?_; obtain ⟨s5, z⟩ := r; obtain ⟨hs5, hz0, hz1, hz2⟩ := hr; simp only at hz0 hz1 hz2
     have hz1 : z ≤ ((y.length - 1 : Nat) : Int) := by
       by_cases h9 : (1 : Int) ≤ ((y.length - 1 : Nat) : Int)
       · first | exact hz1 (by omega) | omega
       · have := hz2 (by omega); omega
     have hyc2 : y.length ≤ om.2 := hyc; refine r_slice_lo z.toNat rfl T.u_L_api_Mark T.sz_api_Mark rfl rfl (by omega) (by omega) ?_; refine hl_cut (α := Mk) (A := om.1) (p := y) (ca := om.2) z.toNat y.length (by repeat constructor) hyc2 ?_; rw [List.take_length]; refine r_assign rfl rfl (hl_nil ?_); exact cut_n _ (y.drop z.toNat, (cutA om.1 om.2 z.toNat 3, om.2 - z.toNat)) (by show (y.drop z.toNat).length ≤ 20; rw [List.length_drop]; omega) ⟨rfl, rfl, rfl, rfl, rfl, congrArg (fun n => some (Value.slice (cutA om.1 om.2 z.toNat 3) n (om.2 - z.toNat))) (List.length_drop).symm, trivial⟩ (List.nil_sublist _) (by repeat constructor)
    ·have hb2' := hb2; try simp at hb2'
     refine hc_skip ?_; exact cut_n _ (y2, om2) (by show y2.length ≤ 20; omega) ⟨rfl, rfl, rfl, rfl, rfl, rfl, trivial⟩ (List.nil_sublist _) (by repeat constructor)
   ·intro hg3; have hg3' := hg3; try simp at hg3'
    refine g_no rfl rfl rfl rfl rfl hg3 (g_no rfl rfl rfl rfl rfl hg3 ?_); refine p_f rfl rfl (bf2 hg3) rfl ?_; refine hl_nil (then_n (c_f rfl rfl (hc_skip ?_))); exact cut_n _ (y2, om2) (by show y2.length ≤ 20; omega) ⟨rfl, rfl, rfl, rfl, rfl, rfl, trivial⟩ (List.nil_sublist _) (by repeat constructor)
  ·intro zz hw20; obtain ⟨w, ow⟩ := zz; have hw20 : w.length ≤ 20 := hw20; refine hc_seq (hc_region (r_move rfl rfl (r_move rfl rfl (r_move rfl rfl (r_move rfl rfl ?_))))); refine r_buildSlice _ rfl rfl (fun _ => T.bs_pages_4 ..) fun g50 => ?_; refine r_move rfl rfl (r_move rfl rfl (r_move rfl rfl (r_move rfl rfl ?_))); refine r_buildSlice _ rfl rfl (fun _ => T.bs_L_L_api_Mark_4 ..) fun g51 => ?_; refine r_move rfl rfl (r_move rfl rfl (r_move rfl rfl (r_move rfl rfl ?_))); refine r_buildSlice _ rfl rfl (fun _ => T.bs_L_L_api_Mark_4 ..) fun g52 => ?_; refine r_assign rfl rfl (r_assign rfl rfl (r_assign rfl rfl (hl_nil (then_n (hc_seq (hc_seq ?_)))))); refine hc_letgo (rows [(⟨N2, c2, ns⟩ : Mg), ⟨ow.1, ow.2, w⟩, ⟨N2, c2, ns⟩, ⟨ow.1, ow.2, w⟩]) (List.prefix_refl _) ?_; refine hc_letgo (rows [(⟨M, cm, ms⟩ : Mg), ⟨om.1, om.2, y⟩, ⟨om.1, om.2, y⟩, ⟨M, cm, ms⟩]) (List.prefix_refl _) ?_; refine hc_letgo (rows [(⟨A, ca, a⟩ : Pg), ⟨ox.1, ox.2, x⟩, ⟨ox.1, ox.2, x⟩, ⟨ox.1, ox.2, x⟩]) (List.prefix_refl _) ?_; have hal : ∀ p ∈ [(⟨A, ca, a⟩ : Pg), ⟨ox.1, ox.2, x⟩, ⟨ox.1, ox.2, x⟩, ⟨ox.1, ox.2, x⟩], p.l.length ≤ 20 := by intro p hp; simp at hp; rcases hp with rfl | rfl | rfl | rfl <;> simp only <;> omega
   have hml : ∀ p ∈ [(⟨M, cm, ms⟩ : Mg), ⟨om.1, om.2, y⟩, ⟨om.1, om.2, y⟩, ⟨M, cm, ms⟩], p.l.length ≤ 20 := by intro p hp; simp at hp; rcases hp with rfl | rfl | rfl | rfl <;> simp only <;> omega
   have hnl : ∀ p ∈ [(⟨N2, c2, ns⟩ : Mg), ⟨ow.1, ow.2, w⟩, ⟨N2, c2, ns⟩, ⟨ow.1, ow.2, w⟩], p.l.length ≤ 20 := by intro p hp; simp at hp; rcases hp with rfl | rfl | rfl | rfl <;> simp only <;> omega
   refine hc_rows2 (A := (some ⟨g52, 0, none⟩)) (ps := [(⟨N2, c2, ns⟩ : Mg), ⟨ow.1, ow.2, w⟩, ⟨N2, c2, ns⟩, ⟨ow.1, ow.2, w⟩]) m2 (by intro p hp; simp at hp; rcases hp with rfl | rfl | rfl | rfl <;> repeat constructor) ?_; refine hc_rows2 (A := (some ⟨g51, 0, none⟩)) (ps := [(⟨M, cm, ms⟩ : Mg), ⟨om.1, om.2, y⟩, ⟨om.1, om.2, y⟩, ⟨M, cm, ms⟩]) m2 (by intro p hp; simp at hp; rcases hp with rfl | rfl | rfl | rfl <;> repeat constructor) ?_; refine hc_rows2 (A := (some ⟨g50, 0, none⟩)) (ps := [(⟨A, ca, a⟩ : Pg), ⟨ox.1, ox.2, x⟩, ⟨ox.1, ox.2, x⟩, ⟨ox.1, ox.2, x⟩]) m2 (by intro p hp; simp at hp; rcases hp with rfl | rfl | rfl | rfl <;> repeat constructor) ?_; have h3a : [(⟨A, ca, a⟩ : Pg), ⟨ox.1, ox.2, x⟩, ⟨ox.1, ox.2, x⟩, ⟨ox.1, ox.2, x⟩].length = 4 := rfl; have h3m : [(⟨M, cm, ms⟩ : Mg), ⟨om.1, om.2, y⟩, ⟨om.1, om.2, y⟩, ⟨M, cm, ms⟩].length = 4 := rfl; have h3n : [(⟨N2, c2, ns⟩ : Mg), ⟨ow.1, ow.2, w⟩, ⟨N2, c2, ns⟩, ⟨ow.1, ow.2, w⟩].length = 4 := rfl; generalize [(⟨A, ca, a⟩ : Pg), ⟨ox.1, ox.2, x⟩, ⟨ox.1, ox.2, x⟩, ⟨ox.1, ox.2, x⟩] = asL at *; generalize [(⟨M, cm, ms⟩ : Mg), ⟨om.1, om.2, y⟩, ⟨om.1, om.2, y⟩, ⟨M, cm, ms⟩] = msL at *; generalize [(⟨N2, c2, ns⟩ : Mg), ⟨ow.1, ow.2, w⟩, ⟨N2, c2, ns⟩, ⟨ow.1, ow.2, w⟩] = nsL at *; refine hc_region (r_assign rfl rfl (hl_nil (then_n (hc_block ?_)))); refine hc_loop (β := Nat) ⟨fun i => i ≤ 4, fun i => [(13, .slice (some ⟨g50, 0, none⟩) 4 4), (14, .slice (some ⟨g51, 0, none⟩) 4 4), (15, .slice (some ⟨g52, 0, none⟩) 4 4), (16, int i)], fun _ => [], fun _ => [Row (some ⟨g50, 0, none⟩) (rows asL), Row (some ⟨g51, 0, none⟩) (rows msL), Row (some ⟨g52, 0, none⟩) (rows nsL), Rows2 (some ⟨g50, 0, none⟩) asL, Rows2 (some ⟨g51, 0, none⟩) msL, Rows2 (some ⟨g52, 0, none⟩) nsL]⟩ (fun i => 4 - i) 0 (Nat.zero_le _) ⟨rfl, rfl, rfl, rfl, trivial⟩ (List.nil_sublist _) ⟨mB, mB, mB, mB, mB, mB, trivial⟩ fun i hi => ?_; simp only at hi; refine hc_seq (hc_seq (hc_region (r_move rfl rfl (r_move rfl rfl ?_)))); refine r_len_sl rfl T.u_pages rfl ?_; refine r_lss rfl rfl rfl (hl_nil (then_n ?_))
   first | refine c_dec rfl (fun hb3 => ?_) (fun hb3 => ?_) | refine hc_cond rfl (fun hb3 => ?_) (fun hb3 => ?_)
   ·have hb3' := hb3; try simp at hb3'
    have hi2 : i < 4 := by omega
    have hma : (asL.getD i default) ∈ asL := getD_mem (by omega); have hmm : (msL.getD i default) ∈ msL := getD_mem (by omega); have hmn : (nsL.getD i default) ∈ nsL := getD_mem (by omega); have hla := hal _ hma; have hlm := hml _ hmm; have hln := hnl _ hmn; have hsl := mergeP_len (asL.getD i default).l (msL.getD i default).l (nsL.getD i default).l; refine hc_skip (then_n (hc_seq (hc_block (hc_seq ?_)))); refine hc_draw 16 mixed (by decide) (by decide) rfl rfl ?_; refine hb_ex _ rfl rfl rfl (fun w1 => r_move rfl rfl (hl_nil (qe_done rfl))) ?_; refine hb_ex _ rfl rfl rfl (fun w1 => r_move rfl rfl (hl_nil (qe_done rfl))) ?_; refine hb_ex _ rfl rfl rfl (fun w1 => r_elem (α := Sl Str) asL i rfl T.u_pages T.sz_strs rfl rfl rfl mB h3a.symm (by omega) (by decide) (hl_nil (qe_done rfl))) ?_; refine hb_ex _ rfl rfl rfl (fun w1 => r_load rfl T.cell_strs rfl (cell_row mB (rows_get0 (by omega) rfl)) (hl_nil (qe_done rfl))) ?_; refine hb_vs ⟨OutC, fun x => (asL.getD i default).l.length ≤ x.2, fun x => .slice x.1 (asL.getD i default).l.length x.2, fun x => [Row x.1 (rows (asL.getD i default).l)]⟩ rfl rfl rfl ?_ ?_
    ·intro w1; refine hl_inner (A := (some ⟨g50, 0, none⟩)) (ps := asL) (p := (asL.getD i default)) mB hma ?_; refine hl_call F.kit_DupStrings_cb rfl rfl (kit_DupStrings_meets (asL.getD i default).l (by omega)) (List.Perm.refl _) ⟨m0, trivial⟩ fun z hz => ?_; refine hl_nil ?_; exact qv_done z hz rfl ⟨m0, trivial⟩
    refine hb_vs ⟨Nat, fun _ => True, fun g => .slice (some ⟨g, 0, none⟩) 0 0, fun _ => []⟩ rfl rfl rfl ?_ ?_
    ·intro w1; refine r_buildSlice [] rfl rfl (fun _ => T.bs_L_api_Mark_0 ..) fun gS => ?_; refine hl_nil ?_; refine hq_letgo (rows ([] : List Mk)) ⟨[], rfl⟩ ?_; exact qv_done gS trivial rfl trivial
    refine hb_ex _ rfl rfl rfl (fun w1 => r_move rfl rfl (hl_nil (qe_done rfl))) ?_; refine hb_ex _ rfl rfl rfl (fun w1 => r_move rfl rfl (hl_nil (qe_done rfl))) ?_; refine hb_ex _ rfl rfl rfl (fun w1 => r_elem (α := Sl Mk) msL i rfl T.u_L_L_api_Mark T.sz_L_api_Mark rfl rfl rfl mB h3m.symm (by omega) (by decide) (hl_nil (qe_done rfl))) ?_; refine hb_ex _ rfl rfl rfl (fun w1 => r_load rfl T.cell_L_api_Mark rfl (cell_row mB (rows_get0 (by omega) rfl)) (hl_nil (qe_done rfl))) ?_; refine hb_vs ⟨OutC, fun _ => True, fun x => .slice x.1 (msL.getD i default).l.length x.2, fun x => [Row x.1 (rows (msL.getD i default).l)]⟩ rfl rfl rfl ?_ ?_
    ·intro g0 _; intro w1; refine hl_inner (A := (some ⟨g51, 0, none⟩)) (ps := msL) (p := (msL.getD i default)) mB hmm ?_; refine r_append_new T.el_L_api_Mark rfl rfl rfl (Src.row (news := rows (msL.getD i default).l) (m := (msL.getD i default).l.length) mB (rows_len _) (rows_one _) (by decide)) (by unfold maxLen; omega) (by omega) fun A' c' og' hG' => ?_; refine hl_grownE hG' ?_; refine hl_nil ?_; exact qv_done (A', c') trivial rfl ⟨m0, trivial⟩
    refine hb_vs ⟨Nat, fun _ => True, fun g => .slice (some ⟨g, 0, none⟩) 0 0, fun _ => []⟩ rfl rfl rfl ?_ ?_
    ·intro w1; refine r_buildSlice [] rfl rfl (fun _ => T.bs_L_api_Mark_0 ..) fun gS => ?_; refine hl_nil ?_; refine hq_letgo (rows ([] : List Mk)) ⟨[], rfl⟩ ?_; exact qv_done gS trivial rfl trivial
    refine hb_ex _ rfl rfl rfl (fun w1 => r_move rfl rfl (hl_nil (qe_done rfl))) ?_; refine hb_ex _ rfl rfl rfl (fun w1 => r_move rfl rfl (hl_nil (qe_done rfl))) ?_; refine hb_ex _ rfl rfl rfl (fun w1 => r_elem (α := Sl Mk) nsL i rfl T.u_L_L_api_Mark T.sz_L_api_Mark rfl rfl rfl mB h3n.symm (by omega) (by decide) (hl_nil (qe_done rfl))) ?_; refine hb_ex _ rfl rfl rfl (fun w1 => r_load rfl T.cell_L_api_Mark rfl (cell_row mB (rows_get0 (by omega) rfl)) (hl_nil (qe_done rfl))) ?_; refine hb_nil ⟨rfl, ?_⟩; intro z4 hz4 g5 _ x10 _ g11 _; refine hl_inner (A := (some ⟨g52, 0, none⟩)) (ps := nsL) (p := (nsL.getD i default)) mB hmn ?_; refine r_append_new T.el_L_api_Mark rfl rfl rfl (Src.row (news := rows (nsL.getD i default).l) (m := (nsL.getD i default).l.length) mB (rows_len _) (rows_one _) (by decide)) (by unfold maxLen; omega) (by omega) fun A' c' og' hG' => ?_; refine hl_grownE hG' ?_; refine r_assign rfl rfl (r_assign rfl rfl (r_assign rfl rfl (hl_nil (then_n (hc_seq (hc_region (r_move rfl rfl (r_move rfl rfl (r_move rfl rfl ?_))))))))); refine hl_call F.proof_Merge_cb rfl rfl (proof_Merge_meets (asL.getD i default).l (msL.getD i default).l (nsL.getD i default).l) (List.Perm.refl _) ⟨mB, mB, mB, trivial⟩ fun z13 _ => ?_; refine r_move rfl rfl (r_extract rfl rfl rfl (r_extract rfl rfl rfl (r_assign rfl rfl (r_assign rfl rfl (hl_nil (then_n (hc_seq ?_))))))); refine hc_draw 17 mixed (by decide) (by decide) rfl rfl ?_; refine hb_ex _ rfl rfl rfl (fun w1 => r_move rfl rfl (hl_nil (qe_done rfl))) ?_; refine hb_ex _ rfl rfl rfl (fun w1 => r_move rfl rfl (hl_nil (qe_done rfl))) ?_; refine hb_ex _ rfl rfl rfl (fun w1 => r_elem (α := Sl Str) asL i rfl T.u_pages T.sz_strs rfl rfl rfl mB h3a.symm (by omega) (by decide) (hl_nil (qe_done rfl))) ?_; refine hb_ex _ rfl rfl rfl (fun w1 => r_load rfl T.cell_strs rfl (cell_row mB (rows_get0 (by omega) rfl)) (hl_nil (qe_done rfl))) ?_; refine hb_ex _ rfl rfl rfl (fun w1 => r_move rfl rfl (hl_nil (qe_done rfl))) ?_; refine hb_ex _ rfl rfl rfl (fun w1 => r_move rfl rfl (hl_nil (qe_done rfl))) ?_; refine hb_ex _ rfl rfl rfl (fun w1 => r_elem (α := Sl Mk) msL i rfl T.u_L_L_api_Mark T.sz_L_api_Mark rfl rfl rfl mB h3m.symm (by omega) (by decide) (hl_nil (qe_done rfl))) ?_; refine hb_ex _ rfl rfl rfl (fun w1 => r_load rfl T.cell_L_api_Mark rfl (cell_row mB (rows_get0 (by omega) rfl)) (hl_nil (qe_done rfl))) ?_; refine hb_ex _ rfl rfl rfl (fun w1 => r_move rfl rfl (hl_nil (qe_done rfl))) ?_; refine hb_ex _ rfl rfl rfl (fun w1 => r_move rfl rfl (hl_nil (qe_done rfl))) ?_; refine hb_ex _ rfl rfl rfl (fun w1 => r_elem (α := Sl Mk) nsL i rfl T.u_L_L_api_Mark T.sz_L_api_Mark rfl rfl rfl mB h3n.symm (by omega) (by decide) (hl_nil (qe_done rfl))) ?_; refine hb_ex _ rfl rfl rfl (fun w1 => r_load rfl T.cell_L_api_Mark rfl (cell_row mB (rows_get0 (by omega) rfl)) (hl_nil (qe_done rfl))) ?_; refine hb_vs ⟨OutC, fun _ => True, fun x => .tuple #[.slice x.1 (mergeP (asL.getD i default).l (msL.getD i default).l (nsL.getD i default).l).1.length x.2, int (mergeP (asL.getD i default).l (msL.getD i default).l (nsL.getD i default).l).2], fun x => [Row x.1 (rows (mergeP (asL.getD i default).l (msL.getD i default).l (nsL.getD i default).l).1)]⟩ rfl rfl rfl ?_ ?_
    ·intro w1; refine hl_inner (A := (some ⟨g50, 0, none⟩)) (ps := asL) (p := (asL.getD i default)) mB hma ?_; refine hl_inner (A := (some ⟨g51, 0, none⟩)) (ps := msL) (p := (msL.getD i default)) mB hmm ?_; refine hl_inner (A := (some ⟨g52, 0, none⟩)) (ps := nsL) (p := (nsL.getD i default)) mB hmn ?_; have hrd := ref07_Merge_meets (A := (asL.getD i default).a) (B := (msL.getD i default).a) (C := (nsL.getD i default).a) (ca := (asL.getD i default).c) (cb := (msL.getD i default).c) (cc := (nsL.getD i default).c) (asL.getD i default).l (msL.getD i default).l (nsL.getD i default).l; rw [← merge_same] at hrd; refine hl_call F.ref07_Merge_cb rfl rfl hrd (List.Perm.refl _) ⟨m2, m1, m0, trivial⟩ fun z _ => ?_; refine hl_nil ?_; exact qv_done z trivial rfl ⟨m0, trivial⟩
    refine hb_vs ⟨OutC, fun _ => True, fun x => .tuple #[.slice x.1 (mergeP (asL.getD i default).l (msL.getD i default).l (nsL.getD i default).l).1.length x.2, int (mergeP (asL.getD i default).l (msL.getD i default).l (nsL.getD i default).l).2], fun x => [Row x.1 (rows (mergeP (asL.getD i default).l (msL.getD i default).l (nsL.getD i default).l).1)]⟩ rfl rfl rfl ?_ ?_
    ·intro z _; intro w1; refine r_move rfl rfl (hl_nil ?_); exact qv_done z trivial rfl ⟨m0, trivial⟩
    refine hb_vs ⟨OutC, fun _ => True, fun x => .slice x.1 (mergeP (asL.getD i default).l (msL.getD i default).l (nsL.getD i default).l).1.length x.2, fun x => [Row x.1 (rows (mergeP (asL.getD i default).l (msL.getD i default).l (nsL.getD i default).l).1)]⟩ rfl rfl rfl ?_ ?_
    ·intro z _; intro w1; refine r_extract rfl rfl rfl (hl_nil ?_); exact qv_done z trivial rfl ⟨m0, trivial⟩
    apply hb_ex _ rfl rfl rfl
    ·intro z _; intro w1; refine r_extract rfl rfl rfl (hl_nil ?_); exact qe_done rfl
    refine hb_vs ⟨OutC, fun _ => True, fun x => .slice x.1 (mergeP (asL.getD i default).l (msL.getD i default).l (nsL.getD i default).l).1.length x.2, fun x => [Row x.1 (rows (mergeP (asL.getD i default).l (msL.getD i default).l (nsL.getD i default).l).1)]⟩ rfl rfl rfl ?_ ?_
    ·intro z _; intro w1; refine r_assign rfl rfl (hl_nil ?_); exact qv_done z trivial rfl ⟨m0, trivial⟩
    refine hb_nil ⟨rfl, ?_⟩; intro _ _ _ _ _ _ z14 _; refine r_assign rfl rfl (hl_nil (then_n (hc_seq (hc_region (r_move rfl rfl (r_move rfl rfl (r_neq rfl rfl rfl (r_move rfl rfl ?_)))))))); refine g_split rfl rfl ?_ ?_
    ·intro hg4; have hg4' := hg4; try simp at hg4'
     refine g_yes rfl rfl hg4 (r_move rfl rfl (g_yes rfl rfl hg4 (r_move rfl rfl (g_yes rfl rfl hg4 ?_)))); refine hl_call F.kit_EqMarks_cb rfl rfl (kit_EqMarks_meets (mergeP (asL.getD i default).l (msL.getD i default).l (nsL.getD i default).l).1 (mergeP (asL.getD i default).l (msL.getD i default).l (nsL.getD i default).l).1 (by omega)) (List.Perm.refl _) ⟨mB, mB, trivial⟩ fun _ _ => ?_; refine g_yes rfl rfl hg4 (r_not rfl rfl ?_); refine p_f rfl rfl (bf1 hg4) rfl ?_; refine r_move rfl rfl ?_; refine g_split rfl rfl ?_ ?_
     ·intro hg5; have hg5' := hg5; try simp at hg5'
      refine g_yes rfl rfl hg5 (r_move rfl rfl (g_yes rfl rfl hg5 (r_move rfl rfl (g_yes rfl rfl hg5 (r_move rfl rfl (g_yes rfl rfl hg5 ?_)))))); refine r_elem (α := Sl Str) asL i rfl T.u_pages T.sz_strs rfl rfl rfl mB h3a.symm (by omega) (by decide) ?_; refine g_yes rfl rfl hg5 ?_; refine r_load rfl T.cell_strs rfl (cell_row mB (rows_get0 (by omega) rfl)) ?_; refine g_yes rfl rfl hg5 ?_; refine hl_inner (A := (some ⟨g50, 0, none⟩)) (ps := asL) (p := (asL.getD i default)) mB hma ?_; refine hl_call F.kit_EqStrings_cb rfl rfl (kit_EqStrings_meets (asL.getD i default).l (asL.getD i default).l (by omega)) (List.Perm.refl _) ⟨mB, mB, trivial⟩ fun _ _ => ?_; refine g_yes rfl rfl hg5 (r_not rfl rfl ?_); refine p_f rfl rfl (bf1 hg5) rfl ?_; refine r_move rfl rfl ?_; refine g_split rfl rfl ?_ ?_
      ·intro hg6; have hg6' := hg6; try simp at hg6'
       refine g_yes rfl rfl hg6 (r_move rfl rfl (g_yes rfl rfl hg6 (r_move rfl rfl (g_yes rfl rfl hg6 (r_move rfl rfl (g_yes rfl rfl hg6 ?_)))))); refine r_elem (α := Sl Mk) msL i rfl T.u_L_L_api_Mark T.sz_L_api_Mark rfl rfl rfl mB h3m.symm (by omega) (by decide) ?_; refine g_yes rfl rfl hg6 ?_; refine r_load rfl T.cell_L_api_Mark rfl (cell_row mB (rows_get0 (by omega) rfl)) ?_; refine g_yes rfl rfl hg6 ?_; refine hl_inner (A := (some ⟨g51, 0, none⟩)) (ps := msL) (p := (msL.getD i default)) mB hmm ?_; refine hl_call F.kit_EqMarks_cb rfl rfl (kit_EqMarks_meets (msL.getD i default).l (msL.getD i default).l (by omega)) (List.Perm.refl _) ⟨mB, mB, trivial⟩ fun _ _ => ?_; refine g_yes rfl rfl hg6 (r_not rfl rfl ?_); refine p_f rfl rfl (bf1 hg6) rfl ?_; refine r_move rfl rfl ?_; refine g_split rfl rfl ?_ ?_
       ·intro hg7; have hg7' := hg7; try simp at hg7'
        refine g_yes rfl rfl hg7 (r_move rfl rfl (g_yes rfl rfl hg7 (r_move rfl rfl (g_yes rfl rfl hg7 (r_move rfl rfl (g_yes rfl rfl hg7 ?_)))))); refine r_elem (α := Sl Mk) nsL i rfl T.u_L_L_api_Mark T.sz_L_api_Mark rfl rfl rfl mB h3n.symm (by omega) (by decide) ?_; refine g_yes rfl rfl hg7 ?_; refine r_load rfl T.cell_L_api_Mark rfl (cell_row mB (rows_get0 (by omega) rfl)) ?_; refine g_yes rfl rfl hg7 ?_; refine hl_inner (A := (some ⟨g52, 0, none⟩)) (ps := nsL) (p := (nsL.getD i default)) mB hmn ?_; refine hl_call F.kit_EqMarks_cb rfl rfl (kit_EqMarks_meets (nsL.getD i default).l (nsL.getD i default).l (by omega)) (List.Perm.refl _) ⟨mB, mB, trivial⟩ fun _ _ => ?_; refine g_yes rfl rfl hg7 (r_not rfl rfl ?_); refine p_f rfl rfl (bf1 hg7) rfl ?_; refine hl_nil (then_n ?_)
        first | refine c_dec rfl (fun hb4 => ?_) (fun hb4 => ?_) | refine hc_cond rfl (fun hb4 => ?_) (fun hb4 => ?_)
        ·have hb4' := hb4; try simp at hb4'
        ·have hb4' := hb4; try simp at hb4'
         refine hc_skip (inb_n (then_n (hc_region (r_move rfl rfl ?_)))); refine r_add _ rfl rfl rfl rfl (by unfold I64; omega) ?_; refine r_assign rfl rfl (hl_nil ?_); exact again _ (i + 1) (by show i + 1 ≤ 4; omega) (by show 4 - (i + 1) < 4 - i; omega) ⟨rfl, rfl, rfl, rfl, trivial⟩ (.refl _) ⟨mB, mB, mB, mB, mB, mB, trivial⟩
       ·intro hg7; have hg7' := hg7; try simp at hg7'
      ·intro hg6; have hg6' := hg6; try simp at hg6'
     ·intro hg5; have hg5' := hg5; try simp at hg5'
    ·intro hg4; have hg4' := hg4; try simp at hg4'
   ·have hb3' := hb3; try simp at hb3'
    refine hc_exit (then_exit (then_exit (inb_hit (then_n (hc_seq (hc_region ?_)))))); refine hl_call F.law07_correcting_cb rfl rfl (law07_correcting_meets) (List.Perm.refl _) trivial fun _ _ => ?_; refine r_assign rfl rfl (hl_nil (then_n (hc_ret ?_))); exact ret1 () rfl rfl rfl trivial (List.nil_sublist _) trivial
end Go.Proofs.Ytpfbbggmcbhboaa
end
section
namespace Go.W
open Go Go.RowKit Go.ChangeShapes Go.WideShapes
section
variable {H : Type} {enc : TypeId × Value → H} {P : Program} {w : World} {base : Nat} {spare : Nat → Bool} {held : Bool}
theorem row_of {α : Type} [El α] (h1 : El.sz α = 1) {a : Addr} {l : List α} (h : ∀ j (hj : j < l.length), ∃ v, El.cells l[j] = [v] ∧ w.cell? (a.add j) = some v) : (Row (some a) (rows l)).P w := by
  intro j u hu; refine ⟨a, rfl, ?_⟩
  have hj : j < l.length := by
    have := (List.getElem?_eq_some_iff.1 hu).1; rw [rows_len, h1, Nat.mul_one] at this; exact this
  obtain ⟨v, hv, hc⟩ := h j hj; have h2 := rows_get (l := l) (i := j) (j := 0) (v := v) hj (by simp [List.getD_eq_getElem?_getD, hj, hv]); rw [h1] at h2; simp only [Nat.mul_one, Nat.add_zero] at h2; rw [hu] at h2
  cases h2
  exact hc
theorem in_strs {t e : TypeId} {A : Option Addr} {n c fuel : Nat} {x : DataW H × List MemPlace} (ht : P.underlying t = some (.slice e)) (he : P.underlying e = some .string) (hc : P.cellsOf e = 1)
    (h : DataW.trod enc P w base spare held fuel t [.slice A n c] = some x) : ∃ l : List Str, n = l.length ∧ l.length ≤ c ∧ c ≤ maxLen ∧ (Row A (rows l)).P w := by
  rcases open_strings ht he hc h with ⟨hcs, _⟩ | ⟨a, len, cap, ss, hcs, _, hl, hm, hlen, _, hcell, hsz⟩
  · simp at hcs
    obtain ⟨rfl, rfl, rfl⟩ := hcs; exact ⟨[], rfl, Nat.le_refl _, by unfold maxLen; omega, Row.nil _ _⟩
  · simp at hcs
    obtain ⟨rfl, rfl, rfl⟩ := hcs; have hle : n ≤ ss.length := by rw [hlen]; split <;> omega
    have hlen2 : ((ss.take n).map fun b => b.data.toList).length = n := by rw [List.length_map, List.length_take]; omega
    refine ⟨(ss.take n).map fun b => b.data.toList, hlen2.symm, by rw [hlen2]; exact hl, hm, row_of rfl fun j hj => ?_⟩; rw [hlen2] at hj; refine ⟨.string ss[j], ?_, ?_⟩
    · show [str _] = _
      simp [str]
    · rw [hcell j (by omega)]
      simp [List.getD_eq_getElem?_getD, show j < ss.length by omega]
theorem in_ints {t e : TypeId} {A : Option Addr} {n c fuel : Nat} {x : DataW H × List MemPlace} (ht : P.underlying t = some (.slice e)) (he : P.underlying e = some (.int .i64)) (hc : P.cellsOf e = 1)
    (h : DataW.trod enc P w base spare held fuel t [.slice A n c] = some x) : ∃ l : List Int, n = l.length ∧ l.length ≤ c ∧ c ≤ maxLen ∧ (Row A (rows l)).P w ∧ ∀ z ∈ l, I64 z := by
  rcases open_ints ht he hc h with ⟨hcs, _⟩ | ⟨a, len, cap, zs, hcs, _, hl, hm, hlen, _, hcell, hwf⟩
  · simp at hcs
    obtain ⟨rfl, rfl, rfl⟩ := hcs; exact ⟨[], rfl, Nat.le_refl _, by unfold maxLen; omega, Row.nil _ _, by intro z hz; simp at hz⟩
  · simp at hcs
    obtain ⟨rfl, rfl, rfl⟩ := hcs; have hle : n ≤ zs.length := by rw [hlen]; split <;> omega
    have hlen2 : (zs.take n).length = n := by rw [List.length_take]; omega
    refine ⟨zs.take n, hlen2.symm, by rw [hlen2]; exact hl, hm, row_of rfl fun j hj => ?_, fun z hz => ?_⟩
    · rw [hlen2] at hj
      refine ⟨int zs[j], by simp [El.cells], ?_⟩; rw [hcell j (by omega)]
      simp [List.getD_eq_getElem?_getD, show j < zs.length by omega]
    · have := hwf z (List.mem_of_mem_take hz)
      simp [Lit.wf, IntKind.min, IntKind.max, IntKind.signed, IntKind.bits] at this
      exact ⟨by omega, by omega⟩
theorem law_calls {f : Nat} {args : List Value} {LI : List Fact} (h : Meets P f args ({ LI := LI, val := fun _ : Unit => .bool true } : Con Unit)) (hL : ∀ F ∈ LI, F.P w) : CallsB P f args.toArray w fun v w' => v = .bool true ∧ Below w.heap.size w w' := by
  refine (h w ⟨Ext.refl _ _, by simp, by simp, by simp, hL, by simp, fun F hF k hk => .inr (.inr ⟨F, hF, hk⟩)⟩).mono fun v w' hp => ?_; obtain ⟨_, rfl, _, hwi⟩ := hp; exact ⟨rfl, hwi.ext.below⟩
end
end Go.W
end
section
namespace Go.W
open Go Go.RowKit Go.ChangeShapes Go.WideShapes Go.Deep
section
variable {H : Type} {enc : TypeId × Value → H} {P : Program} {w : World} {base : Nat} {spare : Nat → Bool} {held : Bool}
theorem row_ofN {α : Type} [El α] (h0 : 0 < El.sz α) {a : Addr} {l : List α} (h : ∀ j, j < l.length → ∀ i v, (El.cells (l.getD j default))[i]? = some v → w.cell? (a.add (j * El.sz α + i)) = some v) : (Row (some a) (rows l)).P w := by
  intro k u hu; refine ⟨a, rfl, ?_⟩; have hk := (List.getElem?_eq_some_iff.1 hu).1; rw [rows_len] at hk; have hj : k / El.sz α < l.length := Nat.div_lt_of_lt_mul (by rw [Nat.mul_comm]; exact hk); have hd : k / El.sz α * El.sz α + k % El.sz α = k := by rw [Nat.mul_comm]; exact Nat.div_add_mod _ _
  have h2 := rows_get' l (k / El.sz α) (k % El.sz α) hj (Nat.mod_lt _ h0); rw [hd, hu] at h2; have := h _ hj _ _ h2.symm
  rwa [hd] at this
theorem in_marks {t e : TypeId} {f0 f1 f2 : Field} {A : Option Addr} {n c fuel : Nat} {x : DataW H × List MemPlace} (ht : P.underlying t = some (.slice e)) (he : P.underlying e = some (.struct #[f0, f1, f2])) (ce : P.cellsOf e = 3)
    (o0 : f0.offset = 0) (o1 : f1.offset = 1) (o2 : f2.offset = 2) (c0 : P.cellsOf f0.type = 1) (c1 : P.cellsOf f1.type = 1) (c2 : P.cellsOf f2.type = 1) (t0 : P.underlying f0.type = some (.int .i64)) (t1 : P.underlying f1.type = some (.int .i64)) (t2 : P.underlying f2.type = some .string)
    (h : DataW.trod enc P w base spare held fuel t [.slice A n c] = some x) : ∃ l : List Mk, n = l.length ∧ l.length ≤ c ∧ c ≤ maxLen ∧ (Row A (rows l)).P w := by
  rcases open_slice ht h with ⟨hcs, _⟩ | ⟨a, len, cap, m, n', D, Pl, hcs, _, hl, hm, hmm, _, hx⟩
  · simp at hcs
    obtain ⟨rfl, rfl, rfl⟩ := hcs; exact ⟨[], rfl, Nat.le_refl _, by unfold maxLen; omega, Row.nil _ _⟩
  · simp at hcs
    obtain ⟨rfl, rfl, rfl⟩ := hcs; have hlm : n ≤ m := by rw [hmm]; split <;> omega
    have each : ∀ i, i < n → ∃ q : Mk, ∀ k v, (El.cells q)[k]? = some v → w.cell? (a.add (i * 3 + k)) = some v := by
      intro i hi; obtain ⟨cs', h1, h2⟩ := hx i (by omega); rw [ce] at h1; obtain ⟨_, hlen, hcell⟩ := World.cells?_some h1; obtain ⟨y0, y1, y2, k, _, _, g0, g1, g2⟩ := trod_struct3 he h2
      match cs', hlen with
      | [v0, v1, v2], _ =>
        simp [o0, o1, o2, c0, c1, c2] at g0 g1 g2
        obtain ⟨z0, e0, _, _⟩ := DataW.trod_int t0 g0; obtain ⟨z1, e1, _, _⟩ := DataW.trod_int t1 g1; obtain ⟨s, e2, _, _⟩ := DataW.trod_string t2 g2
        simp at e0 e1 e2
        subst e0 e1 e2; refine ⟨(z0, z1, s.data.toList), fun k v hv => ?_⟩; have hk : k < 3 := (List.getElem?_eq_some_iff.1 hv).1; have hc := hcell k hk; rw [add_add] at hc; rw [hc, ← hv]; show _ = [int z0, int z1, str s.data.toList][k]?
        simp [str]
    obtain ⟨q, hq⟩ := choose_lt each; refine ⟨(List.range n).map q, by simp, by simpa using hl, hm, row_ofN (by decide) fun j hj i v hv => ?_⟩
    simp at hj
    refine hq j hj i v ?_; rw [← hv]
    simp [List.getD_eq_getElem?_getD, hj]
end
end Go.W
end
section
namespace Go.W
open Go Go.Conc
theorem Lv.at {P : Program} {fr : Frame} {w : World} {v : Value} (h : Lv P fr w v) (d : Nat) : Lv P fr (w.at d) v :=
  ⟨h.1, h.2.1, h.2.2.1, h.2.2.2.elim fun fn x => ⟨fn, x.1, fun d' => x.2 d'⟩⟩
theorem run_of {P : Program} {f : FuncId} {fn : Func} {t : Tmp} {args : Array Value} {W : World} {R : Value → World → Prop} (hf : P.funcs[f]? = some fn) (hres : fn.results = #[.tmp t]) (hin : P.inits.idxOf? f = none)
    (h : CallsB P f args W R) (hat : ∀ v w d, R v w → R v (w.at d)) :
    ∃ M last o w' t', runNT P (M + 1) (solo (G (Frame.enter P f args .normal) []) W) #[] = (.ended o w', t') ∧ runN P M (solo (G (Frame.enter P f args .normal) []) W) = .next last ∧ step P last = .ended o w' ∧ Conc.Good P R last o w' t' := by
  have hco := h [] (fun g w => ∃ v fr, g = G fr [] ∧ fr.fn = f ∧ Lv P fr w v ∧ R v w) (fun fr v w' hfr hR hl => co_done fun d => ⟨v, fr, rfl, hfr, hl.at d, hat _ _ _ hR⟩); obtain ⟨N, gs, g, w, sl, t0, q, B, r, h0, hL, hP, v, fr, rfl, hfr, hl, hR⟩ := hco W.drawn #[G (Frame.enter P f args .normal) []] none #[] (fun _ => 0) 0 rfl (leavers_one P _) past_nil
  have hG : Goes P true AtRel (fun _ _ es => ∀ e ∈ es, EvL noS B e) (AtEnd P noS B R) 0 (G fr []) w := by
    rintro w₁ ⟨d, rfl⟩; refine ⟨rfl, v, #[], ?_, by simp, hat _ _ _ hR⟩; obtain ⟨hm, hd, hn, fn', hf', hr⟩ := hl.at d; rw [hfr, hf] at hf'; obtain rfl := Option.some.inj hf'; have hf2 : P.funcs[fr.fn]? = some fn := by rw [hfr]; exact hf
    have hin2 : P.inits.idxOf? fr.fn = none := by rw [hfr]; exact hin
    have he : (results fn fr.tmps).events P (w.at d) #[] = #[] := events_results_tmp hres _ _; have hr0 : (results fn fr.tmps).run P (w.at d) = .ok v (w.at d) := hr d
    simp [G, stepG, unwind, doReturn, hn, hd, hm, hf2, hr0, he, hin2, GStep.after, seen]
  obtain ⟨M, last, o, w', t', e1, e2, e3, e4⟩ := beside_ends (P := P) (Post := R) (sl := sl) (fun _ _ _ h => h) h0 hL hP hG; have hrun : runNT P N (solo (G (Frame.enter P f args .normal) []) W) #[] = (.next (crowd gs w sl), t0) := r; refine ⟨N + M, last, o, w', t', ?_, ?_, e3, e4⟩
  · rw [Nat.add_assoc, runNT_two hrun]; exact e1
  · rw [runN_add, ← runNT_fst P _ _ #[], hrun]; exact e2
end Go.W
end
