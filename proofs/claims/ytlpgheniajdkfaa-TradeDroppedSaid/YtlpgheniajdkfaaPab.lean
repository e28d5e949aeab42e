/- Walks of the checks of classes and headings. -/
import Derived.Test.YtlpgheniajdkfaaPa
import Derived.Test.YtlpgheniajdkfaaPaa
import Derived.Sort.Walk0
namespace Go.Proofs.Ytlpgheniajdkfaa
open Go Go.W
set_option linter.unusedVariables false
set_option linter.unusedSimpArgs false
set_option maxRecDepth 20000
attribute [local irreducible] HL HC HQ HB Row Rows2 Blk Facts

instance : El Cl where
  default := ([], 0)
  cells m := [str m.1, int m.2]
  sz := 2
  len _ := rfl
  one a u h := by simp at h; rcases h with h | h <;> subst h <;> rfl
/-- A heading as it lies: with the room of its references. -/
abbrev Hd := Str × Int × Int × Sl Int
instance : El Hd where
  default := ([], 0, 0, ⟨none, 0, []⟩)
  cells m := [str m.1, int m.2.1, int m.2.2.1, .slice m.2.2.2.a m.2.2.2.l.length m.2.2.2.c]
  sz := 4
  len _ := rfl
  one a u h := by simp at h; rcases h with h | h | h | h <;> subst h <;> rfl
def Hd.p (h : Hd) : PH := (h.1, h.2.1, h.2.2.1, h.2.2.2.l)
abbrev Hd.row (h : Hd) : Fact := Row h.2.2.2.a (rows h.2.2.2.l)
abbrev trOf (cs : List Cl) (hs : List Hd) : Tr := ⟨cs, hs.map Hd.p⟩
theorem str_lt_dec (a b : Str) : Op.bytesLess a b = decide (a < b) := bytesLess_eq a b
theorem getD_at {α : Type} [Inhabited α] {l : List α} {k : Nat} (hk : k < l.length) : l.getD k default = l[k] := by simp [List.getD_eq_getElem?_getD, hk]
theorem getD_mem {α : Type} [Inhabited α] {l : List α} {k : Nat} (hk : k < l.length) : l.getD k default ∈ l := by rw [getD_at hk]; exact List.getElem_mem hk
theorem hd_get {hs : List Hd} {k : Nat} (hk : k < hs.length) : (hs.map Hd.p).getD k default = (hs.getD k default).p := by
  rw [getD_at hk, getD_at (by simpa using hk)]; simp


theorem trade_between_meets (n lo hi : Int) : Meets Try.prog F.trade_between [int n, int lo, int hi] { val := fun _ : Unit => .bool (decide (lo ≤ n ∧ n ≤ hi)) } := by
 refine meets_intro F.trade_between_f rfl (Nat.le_of_ble_eq_true rfl) fun w0 => ?_
 refine hc_seq ?_
 refine hc_region ?_
 refine r_assign rfl rfl ?_
 refine hl_nil ?_
 refine then_n ?_
 refine hc_seq ?_
 refine hc_region ?_
 refine r_move rfl rfl ?_
 refine r_move rfl rfl ?_
 refine r_leq rfl rfl rfl ?_
 refine r_move rfl rfl ?_
 refine g_split rfl rfl ?_ ?_
 ·intro hg1; have hg1' := hg1; try simp at hg1'
  refine g_yes rfl rfl hg1 ?_
  refine r_move rfl rfl ?_
  refine g_yes rfl rfl hg1 ?_
  refine r_move rfl rfl ?_
  refine g_yes rfl rfl hg1 ?_
  refine r_leq rfl rfl rfl ?_
  refine p_t rfl rfl (bt1 hg1) rfl ?_
  refine r_assign rfl rfl ?_
  refine hl_nil ?_
  refine then_n ?_
  refine hc_ret ?_
  exact ret1 () rfl (congrArg (fun b => some (Value.bool b)) (by simp [hg1'])) rfl trivial (List.nil_sublist _) trivial
 ·intro hg1; have hg1' := hg1; try simp at hg1'
  refine g_no rfl rfl rfl rfl rfl hg1 ?_
  refine g_no rfl rfl rfl rfl rfl hg1 ?_
  refine g_no rfl rfl rfl rfl rfl hg1 ?_
  refine p_f rfl rfl (bf2 hg1) rfl ?_
  refine r_assign rfl rfl ?_
  refine hl_nil ?_
  refine then_n ?_
  refine hc_ret ?_
  exact ret1 () rfl (congrArg (fun b => some (Value.bool b)) (by simp [Int.not_le.2 hg1'])) rfl trivial (List.nil_sublist _) trivial

theorem wordB_bad {s : Str} {p : Nat} (hp : p < s.length) (h : s[p].toNat < 97 ∨ 122 < s[p].toNat) : wordB s = false := by
  have : s.all azB = false := by
    rw [List.all_eq_false]
    refine ⟨s[p], List.getElem_mem hp, ?_⟩
    simp only [azB, Bool.and_eq_true, decide_eq_true_eq]
    omega
  simp [wordB, this]
theorem all_next {s : Str} {k : Nat} (hk : k < s.length) (h : (s.take k).all azB = true) (h1 : 97 ≤ s[k].toNat ∧ s[k].toNat ≤ 122) : (s.take (k + 1)).all azB = true := by
  rw [List.take_succ_eq_append_getElem hk, List.all_append, h]
  simp [azB, h1]
theorem wordB_all {s : Str} (h1 : ¬ s = []) (h2 : (s.length : Int) ≤ 12) (h3 : ¬ s = wClass) (h4 : ¬ s = wFinis) (h5 : s.all azB = true) : wordB s = true := by
  have h0 : 0 < s.length := List.length_pos_iff.2 h1
  have h2' : s.length ≤ 12 := by omega
  simp only [wordB, h5, h3, h4, h0, h2', decide_true, Bool.and_true, not_false_eq_true]

theorem trade_word_meets (s : Str) : Meets Try.prog F.trade_word [str s] { val := fun _ : Unit => .bool (wordB s) } := by
 refine meets_intro F.trade_word_f rfl (Nat.le_of_ble_eq_true rfl) fun w0 => ?_
 refine hc_seq ?_
 refine hc_region ?_
 refine r_assign rfl rfl ?_
 refine hl_nil ?_
 refine then_n ?_
 refine hc_seq ?_
 refine hc_seq ?_
 refine hc_region ?_
 refine r_move rfl rfl ?_
 refine r_len_str rfl T.u_string rfl ?_
 refine r_eql rfl rfl rfl ?_
 refine r_move rfl rfl ?_
 refine g_split rfl rfl ?_ ?_
 ·intro hg1; have hg1' := hg1; try simp at hg1'
  refine g_yes rfl rfl hg1 ?_
  refine r_move rfl rfl ?_
  refine g_yes rfl rfl hg1 ?_
  refine r_len_str rfl T.u_string rfl ?_
  refine g_yes rfl rfl hg1 ?_
  refine r_gtr rfl rfl rfl ?_
  refine p_f rfl rfl (bf1 hg1) rfl ?_
  refine r_move rfl rfl ?_
  refine g_split rfl rfl ?_ ?_
  ·intro hg2; have hg2' := hg2; try simp at hg2'
   refine g_yes rfl rfl hg2 ?_
   refine r_move rfl rfl ?_
   refine g_yes rfl rfl hg2 ?_
   refine r_seql rfl rfl rfl ?_
   refine p_f rfl rfl (bf1 hg2) rfl ?_
   refine r_move rfl rfl ?_
   refine g_split rfl rfl ?_ ?_
   ·intro hg3; have hg3' := hg3; try simp at hg3'
    refine g_yes rfl rfl hg3 ?_
    refine r_move rfl rfl ?_
    refine g_yes rfl rfl hg3 ?_
    refine r_seql rfl rfl rfl ?_
    refine p_f rfl rfl (bf1 hg3) rfl ?_
    refine hl_nil ?_
    refine then_n ?_
    first | refine c_dec rfl (fun hb1 => ?_) (fun hb1 => ?_) | refine hc_cond rfl (fun hb1 => ?_) (fun hb1 => ?_)
    ·have hb1' := hb1; try simp at hb1'
     refine hc_seq ?_
     refine hc_region ?_
     refine r_assign rfl rfl ?_
     refine hl_nil ?_
     refine then_n ?_
     refine hc_ret ?_
     refine then_ret ?_
     exact ret1 () rfl (congrArg (fun b => some (Value.bool b)) (by rw [hb1]; decide)) rfl trivial (List.nil_sublist _) trivial
    ·have hb1' := hb1; try simp at hb1'
     have h4 := hb1
     refine hc_skip ?_
     refine then_n ?_
     refine hc_seq ?_
     refine hc_seq ?_
     refine hc_region ?_
     refine r_move rfl rfl ?_
     refine r_rangeS rfl T.u_string rfl fun gI => ?_
     refine hl_nil ?_
     refine then_n ?_
     refine hc_block ?_
     refine hc_loop (β := Nat) ⟨fun k => k ≤ s.length ∧ (s.take k).all azB = true, fun k => [(0, str s), (22, .pointer (some ⟨gI, 0, none⟩))], fun k => [(gI, iter s k)], fun _ => []⟩ (fun k => s.length - k) 0 ⟨Nat.zero_le _, rfl⟩ ⟨rfl, rfl, trivial⟩ (.refl _) trivial fun k hk => ?_
     obtain ⟨hk, ht⟩ := hk
     refine hc_seq ?_
     refine hc_region ?_
     refine r_nextS rfl rfl (.refl _) ?_
     refine r_ext0 rfl rfl ?_
     refine hl_nil ?_
     refine then_n ?_
     refine hc_seq ?_
     first | refine c_dec rfl (fun hb2 => ?_) (fun hb2 => ?_) | refine hc_cond rfl (fun hb2 => ?_) (fun hb2 => ?_)
     ·have hb2' := hb2; try simp at hb2'
      refine hc_skip ?_
      refine then_n ?_
      refine hc_block ?_
      refine hc_seq ?_
      refine hc_region ?_
      refine r_ext2 rfl rfl hb2 ?_
      refine r_assign rfl rfl ?_
      refine hl_nil ?_
      refine then_n ?_
      refine hc_seq ?_
      refine hc_region ?_
      refine r_move rfl rfl ?_
      refine r_lss rfl rfl rfl ?_
      refine r_move rfl rfl ?_
      refine g_split rfl rfl ?_ ?_
      ·intro hg4; have hg4' := hg4; try simp at hg4'
       refine g_yes rfl rfl hg4 ?_
       refine r_move rfl rfl ?_
       refine g_yes rfl rfl hg4 ?_
       refine r_gtr rfl rfl rfl ?_
       refine p_f rfl rfl (bf1 hg4) rfl ?_
       refine hl_nil ?_
       refine then_n ?_
       first | refine c_dec rfl (fun hb3 => ?_) (fun hb3 => ?_) | refine hc_cond rfl (fun hb3 => ?_) (fun hb3 => ?_)
       ·have hb3' := hb3; try simp at hb3'
        refine hc_seq ?_
        refine hc_region ?_
        refine r_assign rfl rfl ?_
        refine hl_nil ?_
        refine then_n ?_
        refine hc_ret ?_
        refine inb_ret ?_
        refine then_ret ?_
        refine inb_ret ?_
        refine then_ret ?_
        exact ret1 () rfl (congrArg (fun b => some (Value.bool b)) (by exact (wordB_bad hb2 (dec_out hb2 (lo := 97) (hi := 122) (by decide) (.inr (by omega)))).symm)) rfl trivial (List.nil_sublist _) trivial
       ·have hb3' := hb3; try simp at hb3'
        refine hc_skip ?_
        refine inb_n ?_
        have hin := dec_in (p := k) (s := s) hb2 (lo := 97) (hi := 122) (by decide) (by simp at hg4; omega)
        refine again _ (k + 1) ⟨by omega, all_next hb2 ht ⟨hin.1, hin.2.1⟩⟩ (by show s.length - (k + 1) < s.length - k; omega) ⟨rfl, rfl, trivial⟩ ?_ trivial
        rw [hin.2.2]
        exact (.refl _)
      ·intro hg4; have hg4' := hg4; try simp at hg4'
       refine g_no rfl rfl rfl rfl rfl hg4 ?_
       refine g_no rfl rfl rfl rfl rfl hg4 ?_
       refine p_t rfl rfl (bt2 hg4) rfl ?_
       refine hl_nil ?_
       refine then_n ?_
       refine c_t rfl rfl ?_
       refine hc_seq ?_
       refine hc_region ?_
       refine r_assign rfl rfl ?_
       refine hl_nil ?_
       refine then_n ?_
       refine hc_ret ?_
       refine inb_ret ?_
       refine then_ret ?_
       refine inb_ret ?_
       refine then_ret ?_
       exact ret1 () rfl (congrArg (fun b => some (Value.bool b)) (by exact (wordB_bad hb2 (dec_out hb2 (lo := 97) (hi := 122) (by decide) (.inl (by simp at hg4; omega)))).symm)) rfl trivial (List.nil_sublist _) trivial
     ·have hb2' := hb2; try simp at hb2'
      have hk2 : k = s.length := by omega
      subst hk2
      rw [List.take_length] at ht
      refine hc_exit ?_
      refine then_exit ?_
      refine then_exit ?_
      refine inb_hit ?_
      refine then_n ?_
      refine hc_seq ?_
      refine hc_region ?_
      refine r_assign rfl rfl ?_
      refine hl_nil ?_
      refine then_n ?_
      refine hc_ret ?_
      exact ret1 () rfl (congrArg (fun b => some (Value.bool b)) (by exact (wordB_all hg1' hg2' hg3' h4 ht).symm)) rfl trivial (List.nil_sublist _) trivial
   ·intro hg3; have hg3' := hg3; try simp at hg3'
    refine g_no rfl rfl rfl rfl rfl hg3 ?_
    refine g_no rfl rfl rfl rfl rfl hg3 ?_
    refine p_t rfl rfl (bt2 hg3) rfl ?_
    refine hl_nil ?_
    refine then_n ?_
    refine c_t rfl rfl ?_
    refine hc_seq ?_
    refine hc_region ?_
    refine r_assign rfl rfl ?_
    refine hl_nil ?_
    refine then_n ?_
    refine hc_ret ?_
    refine then_ret ?_
    exact ret1 () rfl (congrArg (fun b => some (Value.bool b)) (by simp at hg3; rw [hg3]; decide)) rfl trivial (List.nil_sublist _) trivial
  ·intro hg2; have hg2' := hg2; try simp at hg2'
   refine g_no rfl rfl rfl rfl rfl hg2 ?_
   refine g_no rfl rfl rfl rfl rfl hg2 ?_
   refine p_t rfl rfl (bt2 hg2) rfl ?_
   refine r_move rfl rfl ?_
   refine g_no rfl rfl rfl rfl rfl rfl ?_
   refine g_no rfl rfl rfl rfl rfl rfl ?_
   refine p_t rfl rfl rfl rfl ?_
   refine hl_nil ?_
   refine then_n ?_
   refine c_t rfl rfl ?_
   refine hc_seq ?_
   refine hc_region ?_
   refine r_assign rfl rfl ?_
   refine hl_nil ?_
   refine then_n ?_
   refine hc_ret ?_
   refine then_ret ?_
   exact ret1 () rfl (congrArg (fun b => some (Value.bool b)) (by simp at hg2; simp [wordB, Nat.not_le.2 (show 12 < s.length by omega)])) rfl trivial (List.nil_sublist _) trivial
 ·intro hg1; have hg1' := hg1; try simp at hg1'
  refine g_no rfl rfl rfl rfl rfl hg1 ?_
  refine g_no rfl rfl rfl rfl rfl hg1 ?_
  refine g_no rfl rfl rfl rfl rfl hg1 ?_
  refine p_t rfl rfl (bt2 hg1) rfl ?_
  refine r_move rfl rfl ?_
  refine g_no rfl rfl rfl rfl rfl rfl ?_
  refine g_no rfl rfl rfl rfl rfl rfl ?_
  refine p_t rfl rfl rfl rfl ?_
  refine r_move rfl rfl ?_
  refine g_no rfl rfl rfl rfl rfl rfl ?_
  refine g_no rfl rfl rfl rfl rfl rfl ?_
  refine p_t rfl rfl rfl rfl ?_
  refine hl_nil ?_
  refine then_n ?_
  refine c_t rfl rfl ?_
  refine hc_seq ?_
  refine hc_region ?_
  refine r_assign rfl rfl ?_
  refine hl_nil ?_
  refine then_n ?_
  refine hc_ret ?_
  refine then_ret ?_
  exact ret1 () rfl (congrArg (fun b => some (Value.bool b)) (by simp at hg1; simp [wordB, hg1])) rfl trivial (List.nil_sublist _) trivial

theorem idx_at {l : List Cl} {k : Nat} {s : Str} (hk : k < l.length) (h : (l.getD k default).1 = s) : s ∈ l.map (·.1) := List.mem_map.2 ⟨_, getD_mem hk, h⟩
theorem idx_next {α : Type} [Inhabited α] (f : α → Str) {l : List α} {k : Nat} {s : Str} (hk : k < l.length) (ht : s ∉ (l.take k).map f) (h : ¬ f (l.getD k default) = s) : s ∉ (l.take (k + 1)).map f := by
  rw [take_succ_getD l k hk, List.map_append]
  simp only [List.mem_append, List.map_cons, List.map_nil, List.mem_singleton, not_or]
  exact ⟨ht, fun e => h e.symm⟩

theorem trade_checkClass_1_meets {g : Nat} (x c : Cl) : Meets Try.prog F.trade_checkClass_1 [.agg (El.cells x).toArray, .pointer (some ⟨g, 0, none⟩)] { LI := [Row (some ⟨g, 0, none⟩) (rows [c])], val := fun _ : Unit => .bool (decide (x.1 = c.1)) } := by
 refine meets_intro F.trade_checkClass_1_f rfl (Nat.le_of_ble_eq_true rfl) fun w0 => ?_
 refine hc_seq ?_
 refine hc_region ?_
 refine r_box rfl rfl fun gB => ?_
 refine r_assign rfl rfl ?_
 refine hl_nil ?_
 refine then_n ?_
 refine hc_seq ?_
 refine hc_region ?_
 first | refine r_fieldAddr ⟨_, 0, none⟩ rfl rfl T.fa_api_Class_0 rfl ?_ | refine r_fieldAddr _ rfl rfl T.fa_api_Class_0 rfl ?_
 first | refine r_load rfl T.cell_string rfl (cell_own (by repeat constructor) rfl) ?_ | refine r_load rfl T.cell_string rfl (cell_blk (by repeat constructor) rfl) ?_ | refine r_load rfl T.cell_string rfl (cell_row (by repeat constructor) (rows_get0 (by omega) rfl)) ?_ | refine r_load rfl T.cell_string rfl (cell_row_f (by repeat constructor) (rows_get (by omega) rfl)) ?_ | refine r_load rfl T.cell_string rfl (cell_rowg (by repeat constructor) rfl) ?_
 first | refine r_fieldAddr ⟨_, 0, none⟩ rfl rfl T.fa_api_Class_0 rfl ?_ | refine r_fieldAddr _ rfl rfl T.fa_api_Class_0 rfl ?_
 first | refine r_load rfl T.cell_string rfl (cell_own (by repeat constructor) rfl) ?_ | refine r_load rfl T.cell_string rfl (cell_blk (by repeat constructor) rfl) ?_ | refine r_load rfl T.cell_string rfl (cell_row (by repeat constructor) (rows_get0 (by omega) rfl)) ?_ | refine r_load rfl T.cell_string rfl (cell_row_f (by repeat constructor) (rows_get (by omega) rfl)) ?_ | refine r_load rfl T.cell_string rfl (cell_rowg (by repeat constructor) rfl) ?_
 refine r_seql rfl rfl rfl ?_
 refine r_assign rfl rfl ?_
 refine hl_nil ?_
 refine then_n ?_
 refine hc_ret ?_
 exact ret1 () rfl rfl rfl trivial (List.nil_sublist _) trivial

theorem slices_IndexFunc_meets {A : Option Addr} {cp g : Nat} (l : List Cl) (c : Cl) (hl : l.length ≤ 1000000) : Meets Try.prog F.slices_IndexFunc [.slice A l.length cp, .func (.func F.trade_checkClass_1) #[] #[.pointer (some ⟨g, 0, none⟩)]] { LI := [Row A (rows l), Row (some ⟨g, 0, none⟩) (rows [c])], inv := fun z : Int => (0 ≤ z ↔ c.1 ∈ l.map (·.1)), val := fun z => int z } := by
 refine meets_intro F.slices_IndexFunc_f rfl (Nat.le_of_ble_eq_true rfl) fun w0 => ?_
 refine hc_seq ?_
 refine hc_region ?_
 refine r_assign rfl rfl ?_
 refine hl_nil ?_
 refine then_n ?_
 refine hc_seq ?_
 refine hc_seq ?_
 refine hc_region ?_
 refine r_move rfl rfl ?_
 refine r_len_sl rfl T.u_L_api_Class rfl ?_
 refine r_move rfl rfl ?_
 refine hl_nil ?_
 refine then_n ?_
 refine hc_block ?_
 refine hc_loop (β := Nat) ⟨fun k => k ≤ l.length ∧ c.1 ∉ (l.take k).map (·.1), fun k => [(0, .slice A l.length cp), (1, .func (.func F.trade_checkClass_1) #[] #[.pointer (some ⟨g, 0, none⟩)]), (7, int l.length), (8, int k)], fun _ => [], fun _ => [Row A (rows l), Row (some ⟨g, 0, none⟩) (rows [c])]⟩ (fun k => l.length - k) 0 ⟨Nat.zero_le _, by simp⟩ ⟨rfl, rfl, rfl, rfl, trivial⟩ (.refl _) ⟨m0, m1, trivial⟩ fun k hk => ?_
 obtain ⟨hk, ht⟩ := hk
 refine hc_seq ?_
 refine hc_region ?_
 refine r_lss rfl rfl rfl ?_
 refine hl_nil ?_
 refine then_n ?_
 refine hc_seq ?_
 first | refine c_dec rfl (fun hb1 => ?_) (fun hb1 => ?_) | refine hc_cond rfl (fun hb1 => ?_) (fun hb1 => ?_)
 ·have hb1' := hb1; try simp at hb1'
  have hk2 : k < l.length := by omega
  refine hc_skip ?_
  refine then_n ?_
  refine hc_seq ?_
  refine hc_block ?_
  refine hc_seq ?_
  refine hc_region ?_
  refine r_move rfl rfl ?_
  refine r_assign rfl rfl ?_
  refine hl_nil ?_
  refine then_n ?_
  refine hc_seq ?_
  refine hc_region ?_
  refine r_move rfl rfl ?_
  refine r_move rfl rfl ?_
  refine r_move rfl rfl ?_
  refine r_elem (α := Cl) _ _ rfl T.u_L_api_Class T.sz_api_Class rfl rfl rfl (by repeat constructor) rfl (by omega) (by decide) ?_
  refine r_loadS rfl T.row_api_Class T.sz_api_Class rfl rfl (cells_row (by repeat constructor) (rows_all (by omega))) ?_
  refine hl_callv (vs := [.agg (El.cells (l.getD k default)).toArray]) (cap := [.pointer (some ⟨g, 0, none⟩)]) F.trade_checkClass_1_cb rfl rfl rfl (trade_checkClass_1_meets (l.getD k default) c) (List.Perm.refl _) ⟨m1, trivial⟩ fun _ _ => ?_
  refine hl_nil ?_
  refine then_n ?_
  first | refine c_dec rfl (fun hb2 => ?_) (fun hb2 => ?_) | refine hc_cond rfl (fun hb2 => ?_) (fun hb2 => ?_)
  ·have hb2' := hb2; try simp at hb2'
   refine hc_seq ?_
   refine hc_region ?_
   refine r_move rfl rfl ?_
   refine r_assign rfl rfl ?_
   refine hl_nil ?_
   refine then_n ?_
   refine hc_ret ?_
   refine inb_ret ?_
   refine then_ret ?_
   refine then_ret ?_
   refine inb_ret ?_
   refine then_ret ?_
   exact ret1 (k : Int) rfl rfl rfl ⟨fun _ => List.mem_map.2 ⟨_, getD_mem hk2, hb2⟩, fun _ => by omega⟩ (List.nil_sublist _) trivial
  ·have hb2' := hb2; try simp at hb2'
   refine hc_skip ?_
   refine inb_n ?_
   refine then_n ?_
   refine hc_region ?_
   refine r_add _ rfl rfl rfl rfl (by unfold I64; omega) ?_
   refine r_move rfl rfl ?_
   refine hl_nil ?_
   exact again _ (k + 1) ⟨by omega, idx_next (·.1) hk2 ht hb2⟩ (by show l.length - (k + 1) < l.length - k; omega) ⟨rfl, rfl, rfl, rfl, trivial⟩ (List.nil_sublist _) ⟨m0, m1, trivial⟩
 ·have hb1' := hb1; try simp at hb1'
  have hk2 : k = l.length := by omega
  subst hk2
  rw [List.take_length] at ht
  refine hc_exit ?_
  refine then_exit ?_
  refine then_exit ?_
  refine inb_hit ?_
  refine then_n ?_
  refine hc_seq ?_
  refine hc_region ?_
  refine r_assign rfl rfl ?_
  refine hl_nil ?_
  refine then_n ?_
  refine hc_ret ?_
  exact ret1 (-1) rfl rfl rfl ⟨fun h => by omega, fun h => absurd h ht⟩ (.refl _) trivial

theorem slices_ContainsFunc_meets {A : Option Addr} {cp g : Nat} (l : List Cl) (c : Cl) (hl : l.length ≤ 1000000) : Meets Try.prog F.slices_ContainsFunc [.slice A l.length cp, .func (.func F.trade_checkClass_1) #[] #[.pointer (some ⟨g, 0, none⟩)]] { LI := [Row A (rows l), Row (some ⟨g, 0, none⟩) (rows [c])], val := fun _ : Unit => .bool (decide (c.1 ∈ l.map (·.1))) } := by
 refine meets_intro F.slices_ContainsFunc_f rfl (Nat.le_of_ble_eq_true rfl) fun w0 => ?_
 refine hc_seq ?_
 refine hc_region ?_
 refine r_assign rfl rfl ?_
 refine hl_nil ?_
 refine then_n ?_
 refine hc_seq ?_
 refine hc_region ?_
 refine r_move rfl rfl ?_
 refine r_move rfl rfl ?_
 refine hl_call F.slices_IndexFunc_cb rfl rfl (slices_IndexFunc_meets l c hl) (.refl _) ⟨m0, m1, trivial⟩ fun z hz => ?_
 refine r_geq rfl rfl rfl ?_
 refine r_assign rfl rfl ?_
 refine hl_nil ?_
 refine then_n ?_
 refine hc_ret ?_
 exact ret1 () rfl (congrArg (fun b => some (Value.bool b)) (decide_eq_decide.2 hz)) rfl trivial (List.nil_sublist _) trivial

theorem trade_checkHead_1_meets {g : Nat} (x c : Hd) : Meets Try.prog F.trade_checkHead_1 [.agg (El.cells x).toArray, .pointer (some ⟨g, 0, none⟩)] { LI := [Row (some ⟨g, 0, none⟩) (rows [c])], val := fun _ : Unit => .bool (decide (x.1 = c.1)) } := by
 refine meets_intro F.trade_checkHead_1_f rfl (Nat.le_of_ble_eq_true rfl) fun w0 => ?_
 refine hc_seq ?_
 refine hc_region ?_
 refine r_box rfl rfl fun gB => ?_
 refine r_assign rfl rfl ?_
 refine hl_nil ?_
 refine then_n ?_
 refine hc_seq ?_
 refine hc_region ?_
 first | refine r_fieldAddr ⟨_, 0, none⟩ rfl rfl T.fa_api_Head_0 rfl ?_ | refine r_fieldAddr _ rfl rfl T.fa_api_Head_0 rfl ?_
 first | refine r_load rfl T.cell_string rfl (cell_own (by repeat constructor) rfl) ?_ | refine r_load rfl T.cell_string rfl (cell_blk (by repeat constructor) rfl) ?_ | refine r_load rfl T.cell_string rfl (cell_row (by repeat constructor) (rows_get0 (by omega) rfl)) ?_ | refine r_load rfl T.cell_string rfl (cell_row_f (by repeat constructor) (rows_get (by omega) rfl)) ?_ | refine r_load rfl T.cell_string rfl (cell_rowg (by repeat constructor) rfl) ?_
 first | refine r_fieldAddr ⟨_, 0, none⟩ rfl rfl T.fa_api_Head_0 rfl ?_ | refine r_fieldAddr _ rfl rfl T.fa_api_Head_0 rfl ?_
 first | refine r_load rfl T.cell_string rfl (cell_own (by repeat constructor) rfl) ?_ | refine r_load rfl T.cell_string rfl (cell_blk (by repeat constructor) rfl) ?_ | refine r_load rfl T.cell_string rfl (cell_row (by repeat constructor) (rows_get0 (by omega) rfl)) ?_ | refine r_load rfl T.cell_string rfl (cell_row_f (by repeat constructor) (rows_get (by omega) rfl)) ?_ | refine r_load rfl T.cell_string rfl (cell_rowg (by repeat constructor) rfl) ?_
 refine r_seql rfl rfl rfl ?_
 refine r_assign rfl rfl ?_
 refine hl_nil ?_
 refine then_n ?_
 refine hc_ret ?_
 exact ret1 () rfl rfl rfl trivial (List.nil_sublist _) trivial

theorem slices_IndexFuncx_meets {A : Option Addr} {cp g : Nat} (l : List Hd) (c : Hd) (hl : l.length ≤ 1000000) : Meets Try.prog F.slices_IndexFuncx [.slice A l.length cp, .func (.func F.trade_checkHead_1) #[] #[.pointer (some ⟨g, 0, none⟩)]] { LI := [Row A (rows l), Row (some ⟨g, 0, none⟩) (rows [c])], inv := fun z : Int => (0 ≤ z ↔ c.1 ∈ l.map (·.1)), val := fun z => int z } := by
 refine meets_intro F.slices_IndexFuncx_f rfl (Nat.le_of_ble_eq_true rfl) fun w0 => ?_
 refine hc_seq ?_
 refine hc_region ?_
 refine r_assign rfl rfl ?_
 refine hl_nil ?_
 refine then_n ?_
 refine hc_seq ?_
 refine hc_seq ?_
 refine hc_region ?_
 refine r_move rfl rfl ?_
 refine r_len_sl rfl T.u_L_api_Head rfl ?_
 refine r_move rfl rfl ?_
 refine hl_nil ?_
 refine then_n ?_
 refine hc_block ?_
 refine hc_loop (β := Nat) ⟨fun k => k ≤ l.length ∧ c.1 ∉ (l.take k).map (·.1), fun k => [(0, .slice A l.length cp), (1, .func (.func F.trade_checkHead_1) #[] #[.pointer (some ⟨g, 0, none⟩)]), (7, int l.length), (8, int k)], fun _ => [], fun _ => [Row A (rows l), Row (some ⟨g, 0, none⟩) (rows [c])]⟩ (fun k => l.length - k) 0 ⟨Nat.zero_le _, by simp⟩ ⟨rfl, rfl, rfl, rfl, trivial⟩ (.refl _) ⟨m0, m1, trivial⟩ fun k hk => ?_
 obtain ⟨hk, ht⟩ := hk
 refine hc_seq ?_
 refine hc_region ?_
 refine r_lss rfl rfl rfl ?_
 refine hl_nil ?_
 refine then_n ?_
 refine hc_seq ?_
 first | refine c_dec rfl (fun hb1 => ?_) (fun hb1 => ?_) | refine hc_cond rfl (fun hb1 => ?_) (fun hb1 => ?_)
 ·have hb1' := hb1; try simp at hb1'
  have hk2 : k < l.length := by omega
  refine hc_skip ?_
  refine then_n ?_
  refine hc_seq ?_
  refine hc_block ?_
  refine hc_seq ?_
  refine hc_region ?_
  refine r_move rfl rfl ?_
  refine r_assign rfl rfl ?_
  refine hl_nil ?_
  refine then_n ?_
  refine hc_seq ?_
  refine hc_region ?_
  refine r_move rfl rfl ?_
  refine r_move rfl rfl ?_
  refine r_move rfl rfl ?_
  refine r_elem (α := Hd) _ _ rfl T.u_L_api_Head T.sz_api_Head rfl rfl rfl (by repeat constructor) rfl (by omega) (by decide) ?_
  refine r_loadS rfl T.row_api_Head T.sz_api_Head rfl rfl (cells_row (by repeat constructor) (rows_all (by omega))) ?_
  refine hl_callv (vs := [.agg (El.cells (l.getD k default)).toArray]) (cap := [.pointer (some ⟨g, 0, none⟩)]) F.trade_checkHead_1_cb rfl rfl rfl (trade_checkHead_1_meets (l.getD k default) c) (List.Perm.refl _) ⟨m1, trivial⟩ fun _ _ => ?_
  refine hl_nil ?_
  refine then_n ?_
  first | refine c_dec rfl (fun hb2 => ?_) (fun hb2 => ?_) | refine hc_cond rfl (fun hb2 => ?_) (fun hb2 => ?_)
  ·have hb2' := hb2; try simp at hb2'
   refine hc_seq ?_
   refine hc_region ?_
   refine r_move rfl rfl ?_
   refine r_assign rfl rfl ?_
   refine hl_nil ?_
   refine then_n ?_
   refine hc_ret ?_
   refine inb_ret ?_
   refine then_ret ?_
   refine then_ret ?_
   refine inb_ret ?_
   refine then_ret ?_
   exact ret1 (k : Int) rfl rfl rfl ⟨fun _ => List.mem_map.2 ⟨_, getD_mem hk2, hb2⟩, fun _ => by omega⟩ (List.nil_sublist _) trivial
  ·have hb2' := hb2; try simp at hb2'
   refine hc_skip ?_
   refine inb_n ?_
   refine then_n ?_
   refine hc_region ?_
   refine r_add _ rfl rfl rfl rfl (by unfold I64; omega) ?_
   refine r_move rfl rfl ?_
   refine hl_nil ?_
   exact again _ (k + 1) ⟨by omega, idx_next (·.1) hk2 ht hb2⟩ (by show l.length - (k + 1) < l.length - k; omega) ⟨rfl, rfl, rfl, rfl, trivial⟩ (List.nil_sublist _) ⟨m0, m1, trivial⟩
 ·have hb1' := hb1; try simp at hb1'
  have hk2 : k = l.length := by omega
  subst hk2
  rw [List.take_length] at ht
  refine hc_exit ?_
  refine then_exit ?_
  refine then_exit ?_
  refine inb_hit ?_
  refine then_n ?_
  refine hc_seq ?_
  refine hc_region ?_
  refine r_assign rfl rfl ?_
  refine hl_nil ?_
  refine then_n ?_
  refine hc_ret ?_
  exact ret1 (-1) rfl rfl rfl ⟨fun h => by omega, fun h => absurd h ht⟩ (.refl _) trivial

theorem slices_ContainsFuncx_meets {A : Option Addr} {cp g : Nat} (l : List Hd) (c : Hd) (hl : l.length ≤ 1000000) : Meets Try.prog F.slices_ContainsFuncx [.slice A l.length cp, .func (.func F.trade_checkHead_1) #[] #[.pointer (some ⟨g, 0, none⟩)]] { LI := [Row A (rows l), Row (some ⟨g, 0, none⟩) (rows [c])], val := fun _ : Unit => .bool (decide (c.1 ∈ l.map (·.1))) } := by
 refine meets_intro F.slices_ContainsFuncx_f rfl (Nat.le_of_ble_eq_true rfl) fun w0 => ?_
 refine hc_seq ?_
 refine hc_region ?_
 refine r_assign rfl rfl ?_
 refine hl_nil ?_
 refine then_n ?_
 refine hc_seq ?_
 refine hc_region ?_
 refine r_move rfl rfl ?_
 refine r_move rfl rfl ?_
 refine hl_call F.slices_IndexFuncx_cb rfl rfl (slices_IndexFuncx_meets l c hl) (.refl _) ⟨m0, m1, trivial⟩ fun z hz => ?_
 refine r_geq rfl rfl rfl ?_
 refine r_assign rfl rfl ?_
 refine hl_nil ?_
 refine then_n ?_
 refine hc_ret ?_
 exact ret1 () rfl (congrArg (fun b => some (Value.bool b)) (decide_eq_decide.2 hz)) rfl trivial (List.nil_sublist _) trivial

theorem trade_checkClass_meets {A : Option Addr} {cp : Nat} (cs : List Cl) (i : Nat) (h6 : cs.length ≤ 6) (hc : cs.length ≤ cp) (hi : i < cs.length) : Meets Try.prog F.trade_checkClass [.slice A cs.length cp, int i] { LI := [Row A (rows cs)], val := fun _ : Unit => int (clsErr cs i) } := by
 refine meets_intro F.trade_checkClass_f rfl (Nat.le_of_ble_eq_true rfl) fun w0 => ?_
 refine hc_seq ?_
 refine hc_region ?_
 refine r_assign rfl rfl ?_
 refine hl_nil ?_
 refine then_n ?_
 refine hc_seq ?_
 refine hc_region ?_
 refine r_move rfl rfl ?_
 refine r_move rfl rfl ?_
 refine r_elem (α := Cl) _ _ rfl T.u_L_api_Class T.sz_api_Class rfl rfl rfl (by repeat constructor) rfl (by omega) (by decide) ?_
 refine r_loadS rfl T.row_api_Class T.sz_api_Class rfl rfl (cells_row (by repeat constructor) (rows_all (by omega))) ?_
 refine r_alloc rfl (fun _ => T.al_api_Class _) fun gA => ?_
 refine r_storeS rfl rfl (by first | exact .refl _ | exact perm2 _ _ _ | exact perm3 _ _ _ _ | exact perm4 _ _ _ _ _) T.sz_api_Class (by rfl) (by rfl) ?_
 refine hl_nil ?_
 refine then_n ?_
 refine hc_seq ?_
 refine hc_block ?_
 refine hc_seq ?_
 refine hc_letgo (rows [cs.getD i default]) ⟨[], List.append_nil _⟩ ?_
 refine hc_region ?_
 first | refine r_fieldAddr ⟨_, 0, none⟩ rfl rfl T.fa_api_Class_0 rfl ?_ | refine r_fieldAddr _ rfl rfl T.fa_api_Class_0 rfl ?_
 first | refine r_load rfl T.cell_string rfl (cell_own (by repeat constructor) rfl) ?_ | refine r_load rfl T.cell_string rfl (cell_blk (by repeat constructor) rfl) ?_ | refine r_load rfl T.cell_string rfl (cell_row (by repeat constructor) (rows_get0 (by omega) rfl)) ?_ | refine r_load rfl T.cell_string rfl (cell_row_f (by repeat constructor) (rows_get (by omega) rfl)) ?_ | refine r_load rfl T.cell_string rfl (cell_rowg (by repeat constructor) rfl) ?_
 refine hl_call F.trade_word_cb rfl rfl (trade_word_meets (cs.getD i default).1) (.refl _) trivial fun _ _ => ?_
 refine r_not rfl rfl ?_
 refine r_assign rfl rfl ?_
 refine hl_nil ?_
 refine then_n ?_
 first | refine c_dec rfl (fun hb1 => ?_) (fun hb1 => ?_) | refine hc_cond rfl (fun hb1 => ?_) (fun hb1 => ?_)
 ·have hb1' := hb1; try simp at hb1'
  have h1 : wordB (cs.getD i default).1 = false := by simpa using hb1
  refine hc_seq ?_
  refine hc_region ?_
  refine r_assign rfl rfl ?_
  refine hl_nil ?_
  refine then_n ?_
  refine hc_ret ?_
  refine inb_ret ?_
  refine then_ret ?_
  exact ret1 () rfl (congrArg (fun b => some (int b)) (by rw [clsErr, if_pos h1])) rfl trivial (List.nil_sublist _) trivial
 ·have hb1' := hb1; try simp at hb1'
  have h1 : ¬ wordB (cs.getD i default).1 = false := by simpa using hb1
  refine hc_seq ?_
  refine hc_region ?_
  refine r_move rfl rfl ?_
  refine r_move rfl rfl ?_
  refine r_slice_hi (cs.take i).length rfl T.u_L_api_Class T.sz_api_Class rfl rfl (by simp; omega) (by simp; omega) ?_
  refine hl_takerow i m1 ?_
  refine r_makeFunc rfl rfl rfl ?_
  refine hl_call F.slices_ContainsFunc_cb rfl rfl (slices_ContainsFunc_meets (cs.take i) (cs.getD i default) (by simp; omega)) (.refl _) ⟨m0, m1, trivial⟩ fun _ _ => ?_
  refine r_assign rfl rfl ?_
  refine hl_nil ?_
  refine then_n ?_
  first | refine c_dec rfl (fun hb2 => ?_) (fun hb2 => ?_) | refine hc_cond rfl (fun hb2 => ?_) (fun hb2 => ?_)
  ·have hb2' := hb2; try simp at hb2'
   refine hc_seq ?_
   refine hc_region ?_
   refine r_assign rfl rfl ?_
   refine hl_nil ?_
   refine then_n ?_
   refine hc_ret ?_
   refine inb_ret ?_
   refine then_ret ?_
   exact ret1 () rfl (congrArg (fun b => some (int b)) (by rw [clsErr, if_neg h1, if_pos hb2])) rfl trivial (List.nil_sublist _) trivial
  ·have hb2' := hb2; try simp at hb2'
   refine hc_seq ?_
   refine hc_region ?_
   first | refine r_fieldAddr ⟨_, 1, none⟩ rfl rfl T.fa_api_Class_1 rfl ?_ | refine r_fieldAddr _ rfl rfl T.fa_api_Class_1 rfl ?_
   first | refine r_load rfl T.cell_int rfl (cell_own (by repeat constructor) rfl) ?_ | refine r_load rfl T.cell_int rfl (cell_blk (by repeat constructor) rfl) ?_ | refine r_load rfl T.cell_int rfl (cell_row (by repeat constructor) (rows_get0 (by omega) rfl)) ?_ | refine r_load rfl T.cell_int rfl (cell_row_f (by repeat constructor) (rows_get (by omega) rfl)) ?_ | refine r_load rfl T.cell_int rfl (cell_rowg (by repeat constructor) rfl) ?_
   refine r_move rfl rfl ?_
   refine r_len_sl rfl T.u_L_api_Class rfl ?_
   refine r_sub _ rfl rfl rfl rfl (by unfold I64; omega) ?_
   refine hl_call F.trade_between_cb rfl rfl (trade_between_meets _ _ _) (.refl _) trivial fun _ _ => ?_
   refine r_not rfl rfl ?_
   refine r_assign rfl rfl ?_
   refine hl_nil ?_
   refine then_n ?_
   first | refine c_dec rfl (fun hb3 => ?_) (fun hb3 => ?_) | refine hc_cond rfl (fun hb3 => ?_) (fun hb3 => ?_)
   ·have hb3' := hb3; try simp at hb3'
    have h3 : ¬ (-1 ≤ (cs.getD i default).2 ∧ (cs.getD i default).2 ≤ (cs.length : Int) - 1) := fun e => by rw [decide_eq_true e] at hb3; cases hb3
    refine hc_seq ?_
    refine hc_region ?_
    refine r_assign rfl rfl ?_
    refine hl_nil ?_
    refine then_n ?_
    refine hc_ret ?_
    refine inb_ret ?_
    refine then_ret ?_
    exact ret1 () rfl (congrArg (fun b => some (int b)) (by rw [clsErr, if_neg h1, if_neg hb2, if_pos (by omega)])) rfl trivial (List.nil_sublist _) trivial
   ·have hb3' := hb3; try simp at hb3'
    have h3 : -1 ≤ (cs.getD i default).2 ∧ (cs.getD i default).2 ≤ (cs.length : Int) - 1 := by simpa using hb3
    refine hc_seq ?_
    refine hc_region ?_
    first | refine r_fieldAddr ⟨_, 1, none⟩ rfl rfl T.fa_api_Class_1 rfl ?_ | refine r_fieldAddr _ rfl rfl T.fa_api_Class_1 rfl ?_
    first | refine r_load rfl T.cell_int rfl (cell_own (by repeat constructor) rfl) ?_ | refine r_load rfl T.cell_int rfl (cell_blk (by repeat constructor) rfl) ?_ | refine r_load rfl T.cell_int rfl (cell_row (by repeat constructor) (rows_get0 (by omega) rfl)) ?_ | refine r_load rfl T.cell_int rfl (cell_row_f (by repeat constructor) (rows_get (by omega) rfl)) ?_ | refine r_load rfl T.cell_int rfl (cell_rowg (by repeat constructor) rfl) ?_
    refine r_move rfl rfl ?_
    refine r_geq rfl rfl rfl ?_
    refine r_assign rfl rfl ?_
    refine hl_nil ?_
    refine then_n ?_
    first | refine c_dec rfl (fun hb4 => ?_) (fun hb4 => ?_) | refine hc_cond rfl (fun hb4 => ?_) (fun hb4 => ?_)
    ·have hb4' := hb4; try simp at hb4'
     refine hc_seq ?_
     refine hc_region ?_
     refine r_assign rfl rfl ?_
     refine hl_nil ?_
     refine then_n ?_
     refine hc_ret ?_
     refine inb_ret ?_
     refine then_ret ?_
     exact ret1 () rfl (congrArg (fun b => some (int b)) (by rw [clsErr, if_neg h1, if_neg hb2, if_neg (by omega), if_pos hb4])) rfl trivial (List.nil_sublist _) trivial
    ·have hb4' := hb4; try simp at hb4'
     refine hc_skip ?_
     refine inb_n ?_
     refine then_n ?_
     refine hc_seq ?_
     refine hc_region ?_
     refine r_assign rfl rfl ?_
     refine hl_nil ?_
     refine then_n ?_
     refine hc_ret ?_
     exact ret1 () rfl (congrArg (fun b => some (int b)) (by rw [clsErr, if_neg h1, if_neg hb2, if_neg (by omega), if_neg hb4])) rfl trivial (List.nil_sublist _) trivial

end Go.Proofs.Ytlpgheniajdkfaa
