/- Texts of this claim, one behind another. -/

import Derived.Test.YtpbbgbjidhffoaaTAe
import Derived.Test.YtpbbgbjidhffoaaTAd
set_option linter.unusedVariables false
set_option linter.unusedSimpArgs false
section
namespace Go.Proofs.Ytpbbgbjidhffoaa
open Go Go.W
set_option maxRecDepth 20000
attribute [local irreducible] HL HC HQ HB Row Rows2 Blk Facts
def lineBad (u : UInt8) : Bool := (decide ((u.toNat : Int) < 97) || decide (122 < (u.toNat : Int))) && (decide ((u.toNat : Int) < 48) || decide (57 < (u.toNat : Int))) && decide (¬ (u.toNat : Int) = 32)
def lineErr (s : Str) : Int := if s.length = 0 then 7 else if 10 < s.length then 10 else if s.any lineBad then 2 else if s.take 1 = [32] ∨ s.drop (s.length - 1) = [32] then 2 else 0
def firstErr {α : Type} (f : α → Int) : List α → Int
  | [] => 0
  | a :: l => if f a = 0 then firstErr f l else f a
def pageErr (p : List Str) : Int := if 6 < p.length then 6 else firstErr lineErr p
theorem firstErr_take {α : Type} {f : α → Int} {l : List α} {k : Nat} (hk : k < l.length) (h : firstErr f (l.take k) = 0) : firstErr f (l.take (k + 1)) = f l[k] := by
  induction l generalizing k with
  | nil => simp at hk
  | cons a l ih =>
    cases k with
    | zero => simp [firstErr]; intro h; exact h.symm
    | succ k =>
      simp only [List.take_succ_cons, firstErr] at h ⊢
      split at h
      · rename_i h0
        rw [if_pos h0]; exact ih (by simpa using hk) h
      · rename_i h0; exact absurd h h0
theorem firstErr_at {α : Type} {f : α → Int} {l : List α} {k : Nat} (hk : k < l.length) (h : firstErr f (l.take k) = 0) (h1 : ¬ f l[k] = 0) : firstErr f l = f l[k] := by
  induction l generalizing k with
  | nil => simp at hk
  | cons a l ih =>
    cases k with
    | zero => simp at h1; simp [firstErr, h1]
    | succ k =>
      simp only [List.take_succ_cons, firstErr] at h ⊢
      split at h
      · rename_i h0
        rw [if_pos h0]; exact ih (by simpa using hk) h (by simpa using h1)
      · rename_i h0; exact absurd h h0
theorem any_take {α : Type} {f : α → Bool} {l : List α} {k : Nat} (hk : k < l.length) (h : (l.take k).any f = false) (h1 : f l[k] = false) : (l.take (k + 1)).any f = false := by
  rw [List.take_succ_eq_append_getElem hk, List.any_append, h]; simp [h1]
theorem any_at {α : Type} {f : α → Bool} {l : List α} {k : Nat} (hk : k < l.length) (h1 : f l[k] = true) : l.any f = true := List.any_eq_true.2 ⟨_, List.getElem_mem hk, h1⟩
theorem getD_at {α : Type} [Inhabited α] {l : List α} {k : Nat} (hk : k < l.length) : l.getD k default = l[k] := by simp [List.getD_eq_getElem?_getD, hk]
theorem internal_stringslite_HasPrefix_meets (s p : Str) (hs : s.length ≤ 1000000) (hp : p.length ≤ 1000000) :
    Meets Try.prog F.internal_stringslite_HasPrefix [str s, str p] { val := fun _ : Unit => .bool (decide (p.length ≤ s.length ∧ s.take p.length = p)) } := by
 refine meets_intro F.internal_stringslite_HasPrefix_f rfl (Nat.le_of_ble_eq_true rfl) fun w0 => ?_; refine hc_seq (hc_region (r_assign rfl rfl (hl_nil (then_n (hc_seq (hc_region (r_move rfl rfl ?_))))))); refine r_len_str rfl T.u_string rfl ?_; refine r_move rfl rfl ?_; refine r_len_str rfl T.u_string rfl ?_; refine r_geq rfl rfl rfl (r_move rfl rfl ?_); refine g_split rfl rfl ?_ ?_
 ·intro hg1; have hg1' := hg1; try simp at hg1'
  have hle : p.length ≤ s.length := by simpa using hg1
  refine g_yes rfl rfl hg1 (r_move rfl rfl (g_yes rfl rfl hg1 (r_move rfl rfl (g_yes rfl rfl hg1 ?_)))); refine r_len_str rfl T.u_string rfl ?_; refine g_yes rfl rfl hg1 ?_; refine r_sslice_hi p.length rfl T.u_string rfl rfl rfl (by omega) ?_; refine g_yes rfl rfl hg1 (r_move rfl rfl (g_yes rfl rfl hg1 (r_seql rfl rfl rfl ?_))); refine p_t rfl rfl (bt1 hg1) rfl ?_; refine r_assign rfl rfl (hl_nil (then_n (hc_ret ?_))); exact ret1 () rfl (congrArg (fun b => some (Value.bool b)) (by simp [hle])) rfl trivial (.refl _) trivial
 ·intro hg1; have hg1' := hg1; try simp at hg1'
  have hle : ¬ p.length ≤ s.length := by simpa using hg1
  refine g_no rfl rfl rfl rfl rfl hg1 (g_no rfl rfl rfl rfl rfl hg1 (g_no rfl rfl rfl rfl rfl hg1 (g_no rfl rfl rfl rfl rfl hg1 (g_no rfl rfl rfl rfl rfl hg1 (g_no rfl rfl rfl rfl rfl hg1 ?_))))); refine p_f rfl rfl (bf2 hg1) rfl ?_; refine r_assign rfl rfl (hl_nil (then_n (hc_ret ?_))); exact ret1 () rfl (congrArg (fun b => some (Value.bool b)) (by simp [hle])) rfl trivial (.refl _) trivial
theorem strings_HasPrefix_meets (s p : Str) (hs : s.length ≤ 1000000) (hp : p.length ≤ 1000000) :
    Meets Try.prog F.strings_HasPrefix [str s, str p] { val := fun _ : Unit => .bool (decide (p.length ≤ s.length ∧ s.take p.length = p)) } := by
 refine meets_intro F.strings_HasPrefix_f rfl (Nat.le_of_ble_eq_true rfl) fun w0 => ?_; refine hc_seq (hc_region (r_assign rfl rfl (hl_nil (then_n (hc_seq (hc_region (r_move rfl rfl (r_move rfl rfl ?_)))))))); refine hl_call F.internal_stringslite_HasPrefix_cb rfl rfl (internal_stringslite_HasPrefix_meets s p hs hp) (.refl _) trivial fun _ _ => ?_; refine r_assign rfl rfl (hl_nil (then_n (hc_ret ?_))); exact ret1 () rfl rfl rfl trivial (.refl _) trivial
theorem internal_stringslite_HasSuffix_meets (s p : Str) (hs : s.length ≤ 1000000) (hp : p.length ≤ 1000000) :
    Meets Try.prog F.internal_stringslite_HasSuffix [str s, str p] { val := fun _ : Unit => .bool (decide (p.length ≤ s.length ∧ s.drop (s.length - p.length) = p)) } := by
 refine meets_intro F.internal_stringslite_HasSuffix_f rfl (Nat.le_of_ble_eq_true rfl) fun w0 => ?_; refine hc_seq (hc_region (r_assign rfl rfl (hl_nil (then_n (hc_seq (hc_region (r_move rfl rfl ?_))))))); refine r_len_str rfl T.u_string rfl ?_; refine r_move rfl rfl ?_; refine r_len_str rfl T.u_string rfl ?_; refine r_geq rfl rfl rfl (r_move rfl rfl ?_); refine g_split rfl rfl ?_ ?_
 ·intro hg1; have hg1' := hg1; try simp at hg1'
  have hle : p.length ≤ s.length := by simpa using hg1
  refine g_yes rfl rfl hg1 (r_move rfl rfl (g_yes rfl rfl hg1 (r_move rfl rfl (g_yes rfl rfl hg1 ?_)))); refine r_len_str rfl T.u_string rfl ?_; refine g_yes rfl rfl hg1 (r_move rfl rfl (g_yes rfl rfl hg1 ?_)); refine r_len_str rfl T.u_string rfl ?_; refine g_yes rfl rfl hg1 ?_; refine r_sub ((s.length - p.length : Nat) : Int) rfl rfl rfl (by omega) (by unfold I64; omega) ?_; refine g_yes rfl rfl hg1 ?_; refine r_sslice_lo (s.length - p.length) rfl T.u_string rfl rfl (by omega) (by omega) ?_; refine g_yes rfl rfl hg1 (r_move rfl rfl (g_yes rfl rfl hg1 (r_seql rfl rfl rfl ?_))); refine p_t rfl rfl (bt1 hg1) rfl ?_; refine r_assign rfl rfl (hl_nil (then_n (hc_ret ?_))); exact ret1 () rfl (congrArg (fun b => some (Value.bool b)) (by simp [hle])) rfl trivial (.refl _) trivial
 ·intro hg1; have hg1' := hg1; try simp at hg1'
  have hle : ¬ p.length ≤ s.length := by simpa using hg1
  refine g_no rfl rfl rfl rfl rfl hg1 (g_no rfl rfl rfl rfl rfl hg1 (g_no rfl rfl rfl rfl rfl hg1 (g_no rfl rfl rfl rfl rfl hg1 (g_no rfl rfl rfl rfl rfl hg1 (g_no rfl rfl rfl rfl rfl hg1 (g_no rfl rfl rfl rfl rfl hg1 (g_no rfl rfl rfl rfl rfl hg1 (g_no rfl rfl rfl rfl rfl hg1 ?_)))))))); refine p_f rfl rfl (bf2 hg1) rfl ?_; refine r_assign rfl rfl (hl_nil (then_n (hc_ret ?_))); exact ret1 () rfl (congrArg (fun b => some (Value.bool b)) (by simp [hle])) rfl trivial (.refl _) trivial
theorem strings_HasSuffix_meets (s p : Str) (hs : s.length ≤ 1000000) (hp : p.length ≤ 1000000) :
    Meets Try.prog F.strings_HasSuffix [str s, str p] { val := fun _ : Unit => .bool (decide (p.length ≤ s.length ∧ s.drop (s.length - p.length) = p)) } := by
 refine meets_intro F.strings_HasSuffix_f rfl (Nat.le_of_ble_eq_true rfl) fun w0 => ?_; refine hc_seq (hc_region (r_assign rfl rfl (hl_nil (then_n (hc_seq (hc_region (r_move rfl rfl (r_move rfl rfl ?_)))))))); refine hl_call F.internal_stringslite_HasSuffix_cb rfl rfl (internal_stringslite_HasSuffix_meets s p hs hp) (.refl _) trivial fun _ _ => ?_; refine r_assign rfl rfl (hl_nil (then_n (hc_ret ?_))); exact ret1 () rfl rfl rfl trivial (.refl _) trivial
theorem proof_lineError_meets (s : Str) :
    Meets Try.prog F.proof_lineError [str s] { val := fun _ : Unit => int (lineErr s) } := by
 refine meets_intro F.proof_lineError_f rfl (Nat.le_of_ble_eq_true rfl) fun w0 => ?_; refine hc_seq (hc_region (r_assign rfl rfl (hl_nil (then_n (hc_seq (hc_seq (hc_region (r_move rfl rfl ?_)))))))); refine r_len_str rfl T.u_string rfl ?_; refine r_eql rfl rfl rfl (hl_nil (then_n ?_))
 first | refine c_dec rfl (fun hb1 => ?_) (fun hb1 => ?_) | refine hc_cond rfl (fun hb1 => ?_) (fun hb1 => ?_)
 ·have hb1' := hb1; try simp at hb1'
  have hb1 : s.length = 0 := by omega
  refine hc_seq (hc_region (r_assign rfl rfl (hl_nil (then_n (hc_ret (then_ret ?_)))))); exact ret1 () rfl (congrArg (fun b => some (int b)) (by simp [lineErr, hb1])) rfl trivial (.refl _) trivial
 ·have hb1' := hb1; try simp at hb1'
  have hb1 : ¬ s.length = 0 := by omega
  refine hc_skip (then_n (hc_seq (hc_seq (hc_region (r_move rfl rfl ?_))))); refine r_len_str rfl T.u_string rfl ?_; refine r_gtr rfl rfl rfl (hl_nil (then_n ?_))
  first | refine c_dec rfl (fun hb2 => ?_) (fun hb2 => ?_) | refine hc_cond rfl (fun hb2 => ?_) (fun hb2 => ?_)
  ·have hb2' := hb2; try simp at hb2'
   have hb2 : 10 < s.length := by omega
   refine hc_seq (hc_region (r_assign rfl rfl (hl_nil (then_n (hc_ret (then_ret ?_)))))); exact ret1 () rfl (congrArg (fun b => some (int b)) (by simp [lineErr, hb1, hb2])) rfl trivial (.refl _) trivial
  ·have hb2' := hb2; try simp at hb2'
   have hb2 : ¬ 10 < s.length := by omega
   refine hc_skip (then_n (hc_seq (hc_seq (hc_region (r_move rfl rfl ?_))))); refine r_bytes rfl T.u_string T.u_L_uint8 T.u_u8 rfl fun gb cap => ?_; refine r_len_sl rfl T.u_L_uint8 rfl ?_; refine r_move rfl rfl (hl_nil (then_n (hc_block ?_))); refine hc_loop (β := Nat) ⟨fun k => k ≤ s.length ∧ (s.take k).any lineBad = false, fun k => [(0, str s), (12, .slice (some ⟨gb, 0, none⟩) s.length cap), (13, int s.length), (14, int k)], fun _ => [], fun _ => [Row (some ⟨gb, 0, none⟩) (rows s)]⟩ (fun k => s.length - k) 0 ⟨Nat.zero_le _, rfl⟩ ⟨rfl, rfl, rfl, rfl, trivial⟩ (.refl _) ⟨m0, trivial⟩ fun k hk => ?_; obtain ⟨hk, ht⟩ := hk; refine hc_seq (hc_region (r_lss rfl rfl rfl (hl_nil (then_n (hc_seq ?_)))))
   first | refine c_dec rfl (fun hb3 => ?_) (fun hb3 => ?_) | refine hc_cond rfl (fun hb3 => ?_) (fun hb3 => ?_)
   ·have hb3' := hb3; try simp at hb3'
    have hb3 : k < s.length := by omega
    refine hc_skip (then_n (hc_seq (hc_block (hc_seq (hc_region ?_))))); refine r_elem (α := UInt8) _ _ rfl T.u_L_uint8 T.sz_u8 rfl rfl rfl mB rfl (by omega) (by decide) ?_; refine r_load rfl T.cell_u8 rfl (cell_row m0 (rows_get0 hb3 (by rw [getD_at hb3]; rfl))) ?_; refine r_assign rfl rfl (hl_nil (then_n ?_)); refine hc_cut ⟨fun _ : Unit => True, fun _ => [(0, str s), (12, .slice (some ⟨gb, 0, none⟩) s.length cap), (13, int s.length), (14, int k), (35, .bool (lineBad s[k]))], fun _ => [], fun _ => [Row (some ⟨gb, 0, none⟩) (rows s)]⟩ ?_ ?_
    ·skip
     refine hc_region (r_move rfl rfl (r_lss rfl rfl rfl (r_move rfl rfl ?_))); refine g_split rfl rfl ?_ ?_
     ·intro hg1; have hg1' := hg1; try simp at hg1'
      refine g_yes rfl rfl hg1 (r_move rfl rfl (g_yes rfl rfl hg1 (r_gtr rfl rfl rfl ?_))); refine p_f rfl rfl (bf1 hg1) rfl ?_; refine r_move rfl rfl ?_; refine g_split rfl rfl ?_ ?_
      ·intro hg2; have hg2' := hg2; try simp at hg2'
       refine g_yes rfl rfl hg2 (r_move rfl rfl (g_yes rfl rfl hg2 (r_lss rfl rfl rfl (g_yes rfl rfl hg2 (r_move rfl rfl ?_))))); refine g_split rfl rfl ?_ ?_
       ·intro hg3; have hg3' := hg3; try simp at hg3'
        refine g_yes rfl rfl hg3 (r_move rfl rfl (g_yes rfl rfl hg3 (r_gtr rfl rfl rfl (g_yes rfl rfl hg2 ?_)))); refine p_f rfl rfl (bf1 hg3) rfl ?_; refine p_t rfl rfl (bt1 hg2) rfl ?_; refine r_move rfl rfl ?_; refine g_split rfl rfl ?_ ?_
        ·intro hg4; have hg4' := hg4; try simp at hg4'
         refine g_yes rfl rfl hg4 (r_move rfl rfl (g_yes rfl rfl hg4 (r_neq rfl rfl rfl ?_))); refine p_t rfl rfl (bt1 hg4) rfl ?_; refine hl_nil ?_; exact cut_n _ () trivial ⟨rfl, rfl, rfl, rfl, congrArg (fun b => some (Value.bool b)) (by simp only [lineBad]; simp [*, Int.not_le, Int.not_lt, Int.not_lt.2, Int.not_le.2]), trivial⟩ (.refl _) ⟨m0, trivial⟩
        ·intro hg4; have hg4' := hg4; try simp at hg4'
         refine g_no rfl rfl rfl rfl rfl hg4 (g_no rfl rfl rfl rfl rfl hg4 ?_); refine p_f rfl rfl (bf2 hg4) rfl ?_; refine hl_nil ?_; exact cut_n _ () trivial ⟨rfl, rfl, rfl, rfl, congrArg (fun b => some (Value.bool b)) (by simp only [lineBad]; simp [*, Int.not_le, Int.not_lt, Int.not_lt.2, Int.not_le.2]), trivial⟩ (.refl _) ⟨m0, trivial⟩
       ·intro hg3; have hg3' := hg3; try simp at hg3'
        refine g_no rfl rfl rfl rfl rfl hg3 (g_no rfl rfl rfl rfl rfl hg3 (g_yes rfl rfl hg2 ?_)); refine p_t rfl rfl (bt2 hg3) rfl ?_; refine p_t rfl rfl (bt1 hg2) rfl ?_; refine r_move rfl rfl (g_yes rfl rfl rfl (r_move rfl rfl (g_yes rfl rfl rfl (r_neq rfl rfl rfl (p_t rfl rfl rfl rfl (hl_nil ?_)))))); exact cut_n _ () trivial ⟨rfl, rfl, rfl, rfl, congrArg (fun b => some (Value.bool b)) (by simp only [lineBad]; simp [*, Int.not_le, Int.not_lt, Int.not_lt.2, Int.not_le.2]), trivial⟩ (.refl _) ⟨m0, trivial⟩
      ·intro hg2; have hg2' := hg2; try simp at hg2'
       refine g_no rfl rfl rfl rfl rfl hg2 (g_no rfl rfl rfl rfl rfl hg2 (g_no rfl rfl rfl rfl rfl hg2 (g_und rfl rfl rfl rfl rfl rfl (g_und rfl rfl rfl rfl rfl rfl (g_no rfl rfl rfl rfl rfl hg2 ?_))))); refine p_f rfl rfl (bf2 hg2) rfl ?_; refine r_move rfl rfl (g_no rfl rfl rfl rfl rfl rfl (g_no rfl rfl rfl rfl rfl rfl (p_f rfl rfl rfl rfl (hl_nil ?_)))); exact cut_n _ () trivial ⟨rfl, rfl, rfl, rfl, congrArg (fun b => some (Value.bool b)) (by simp only [lineBad]; simp [*, Int.not_le, Int.not_lt, Int.not_lt.2, Int.not_le.2]), trivial⟩ (.refl _) ⟨m0, trivial⟩
     ·intro hg1; have hg1' := hg1; try simp at hg1'
      refine g_no rfl rfl rfl rfl rfl hg1 (g_no rfl rfl rfl rfl rfl hg1 ?_); refine p_t rfl rfl (bt2 hg1) rfl ?_; refine r_move rfl rfl (g_yes rfl rfl rfl (r_move rfl rfl (g_yes rfl rfl rfl (r_lss rfl rfl rfl (g_yes rfl rfl rfl (r_move rfl rfl ?_)))))); refine g_split rfl rfl ?_ ?_
      ·intro hg5; have hg5' := hg5; try simp at hg5'
       refine g_yes rfl rfl hg5 (r_move rfl rfl (g_yes rfl rfl hg5 (r_gtr rfl rfl rfl (g_yes rfl rfl rfl ?_)))); refine p_f rfl rfl (bf1 hg5) rfl ?_; refine p_t rfl rfl rfl rfl (r_move rfl rfl ?_); refine g_split rfl rfl ?_ ?_
       ·intro hg6; have hg6' := hg6; try simp at hg6'
        refine g_yes rfl rfl hg6 (r_move rfl rfl (g_yes rfl rfl hg6 (r_neq rfl rfl rfl ?_))); refine p_t rfl rfl (bt1 hg6) rfl ?_; refine hl_nil ?_; exact cut_n _ () trivial ⟨rfl, rfl, rfl, rfl, congrArg (fun b => some (Value.bool b)) (by simp only [lineBad]; simp [*, Int.not_le, Int.not_lt, Int.not_lt.2, Int.not_le.2]), trivial⟩ (.refl _) ⟨m0, trivial⟩
       ·intro hg6; have hg6' := hg6; try simp at hg6'
        refine g_no rfl rfl rfl rfl rfl hg6 (g_no rfl rfl rfl rfl rfl hg6 ?_); refine p_f rfl rfl (bf2 hg6) rfl ?_; refine hl_nil ?_; exact cut_n _ () trivial ⟨rfl, rfl, rfl, rfl, congrArg (fun b => some (Value.bool b)) (by simp only [lineBad]; simp [*, Int.not_le, Int.not_lt, Int.not_lt.2, Int.not_le.2]), trivial⟩ (.refl _) ⟨m0, trivial⟩
      ·intro hg5; have hg5' := hg5; try simp at hg5'
       refine g_no rfl rfl rfl rfl rfl hg5 (g_no rfl rfl rfl rfl rfl hg5 (g_yes rfl rfl rfl ?_)); refine p_t rfl rfl (bt2 hg5) rfl ?_; refine p_t rfl rfl rfl rfl (r_move rfl rfl (g_yes rfl rfl rfl (r_move rfl rfl (g_yes rfl rfl rfl (r_neq rfl rfl rfl (p_t rfl rfl rfl rfl (hl_nil ?_))))))); exact cut_n _ () trivial ⟨rfl, rfl, rfl, rfl, congrArg (fun b => some (Value.bool b)) (by simp only [lineBad]; simp [*, Int.not_le, Int.not_lt, Int.not_lt.2, Int.not_le.2]), trivial⟩ (.refl _) ⟨m0, trivial⟩
    ·refine fun _ _ => ?_
     first | refine c_dec rfl (fun hb4 => ?_) (fun hb4 => ?_) | refine hc_cond rfl (fun hb4 => ?_) (fun hb4 => ?_)
     ·have hb4' := hb4; try simp at hb4'
      refine hc_seq (hc_region (r_assign rfl rfl (hl_nil (then_n (hc_ret (inb_ret (then_ret (then_ret (inb_ret (then_ret ?_)))))))))); exact ret1 () rfl (congrArg (fun b => some (int b)) (by simp [lineErr, hb1, hb2, any_at hb3 hb4])) rfl trivial (.refl _) trivial
     ·have hb4' := hb4; try simp at hb4'
      refine hc_skip (inb_n (then_n (hc_region ?_))); refine r_add _ rfl rfl rfl rfl (by unfold I64; omega) ?_; refine r_move rfl rfl (hl_nil ?_); exact again _ (k + 1) ⟨by omega, any_take hb3 ht hb4⟩ (by show s.length - (k + 1) < s.length - k; omega) ⟨rfl, rfl, rfl, rfl, trivial⟩ (.refl _) ⟨m0, trivial⟩
   ·have hb3' := hb3; try simp at hb3'
    have hb3 : k = s.length := by omega
    subst hb3; rw [List.take_length] at ht; refine hc_exit (then_exit (then_exit (inb_hit (then_n (hc_seq (hc_seq (hc_region (r_move rfl rfl ?_)))))))); refine hl_call F.strings_HasPrefix_cb rfl rfl (strings_HasPrefix_meets s [32] (by omega) (by decide)) (.refl _) trivial fun _ _ => ?_; refine r_move rfl rfl ?_; refine g_split rfl rfl ?_ ?_
    ·intro hg7; have hg7' := hg7; try simp at hg7'
     have hp1 := of_decide_eq_false (bf1 hg7); simp only [List.length_cons, List.length_nil] at hp1; have hp1 : ¬ s.take 1 = [32] := fun e => hp1 ⟨by omega, e⟩; refine g_yes rfl rfl hg7 (r_move rfl rfl (g_yes rfl rfl hg7 ?_)); refine hl_call F.strings_HasSuffix_cb rfl rfl (strings_HasSuffix_meets s [32] (by omega) (by decide)) (.refl _) trivial fun _ _ => ?_; refine p_f rfl rfl (bf1 hg7) rfl ?_; refine hl_nil (then_n ?_)
     first | refine c_dec rfl (fun hb5 => ?_) (fun hb5 => ?_) | refine hc_cond rfl (fun hb5 => ?_) (fun hb5 => ?_)
     ·have hb5' := hb5; try simp at hb5'
      have h5 := hb5; simp only [List.length_cons, List.length_nil] at h5; refine hc_seq (hc_region (r_assign rfl rfl (hl_nil (then_n (hc_ret (then_ret ?_)))))); exact ret1 () rfl (congrArg (fun b => some (int b)) (by simp [lineErr, hb1, hb2, ht, h5.2])) rfl trivial (.refl _) trivial
     ·have hb5' := hb5; try simp at hb5'
      have h5 := hb5; simp only [List.length_cons, List.length_nil] at h5; have h5 : ¬ s.drop (s.length - 1) = [32] := fun e => h5 ⟨by omega, e⟩; refine hc_skip (then_n (hc_seq (hc_region (r_assign rfl rfl (hl_nil (then_n (hc_ret ?_))))))); exact ret1 () rfl (congrArg (fun b => some (int b)) (by simp only [lineErr]; rw [if_neg hb1, if_neg hb2, ht, if_neg (by simp), if_neg (by simp [hp1, h5])])) rfl trivial (.refl _) trivial
    ·intro hg7; have hg7' := hg7; try simp at hg7'
     have hp1 := of_decide_eq_true (bt2 hg7); simp only [List.length_cons, List.length_nil] at hp1; refine g_no rfl rfl rfl rfl rfl hg7 (g_no rfl rfl rfl rfl rfl hg7 ?_); refine p_t rfl rfl (bt2 hg7) rfl ?_; refine hl_nil (then_n (c_t rfl rfl (hc_seq (hc_region (r_assign rfl rfl (hl_nil (then_n (hc_ret (then_ret ?_))))))))); exact ret1 () rfl (congrArg (fun b => some (int b)) (by simp [lineErr, hb1, hb2, ht, hp1.2])) rfl trivial (.refl _) trivial
theorem firstErr_takeD {α : Type} [Inhabited α] {f : α → Int} {l : List α} {k : Nat} (hk : k < l.length) (h : firstErr f (l.take k) = 0) : firstErr f (l.take (k + 1)) = f (l.getD k default) := by rw [firstErr_take hk h, getD_at hk]
theorem firstErr_atD {α : Type} [Inhabited α] {f : α → Int} {l : List α} {k : Nat} (hk : k < l.length) (h : firstErr f (l.take k) = 0) (h1 : ¬ f (l.getD k default) = 0) : firstErr f l = f (l.getD k default) := by
  rw [getD_at hk] at h1 ⊢; exact firstErr_at hk h h1
def textErr (m : Mk) : Int := if ¬ m.1 = 3 then lineErr m.2.2 else if ¬ m.2.2 = [] then 2 else 0
def mErr (n : Nat) (m : Mk) (k : Nat) (b : Mk) : Int :=
  if m.1 < 1 ∨ 3 < m.1 then 8 else if m.2.1 < 0 ∨ (n : Int) - 1 + (if m.1 = 1 then 1 else 0) < m.2.1 then 3 else if ¬ textErr m = 0 then textErr m else if k = 0 then 0 else
  if m.2.1 < b.2.1 then 5 else if b.2.1 < m.2.1 ∨ b.1 = 1 then 0 else if m.1 = 1 then 5 else 4
def markErr (n : Nat) (l : List Mk) (k : Nat) : Int := mErr n (l.getD k default) k (l.getD (k - 1) default)
def marksErr (n : Nat) (l : List Mk) : Int := if 12 < l.length then 6 else firstErr (markErr n l) (List.range l.length)
theorem marks_next {n : Nat} {l : List Mk} {k : Nat} (ht : firstErr (markErr n l) (List.range k) = 0) (h0 : mErr n (l.getD k default) k (l.getD (k - 1) default) = 0) : firstErr (markErr n l) (List.range (k + 1)) = 0 := by
  have h1 : (List.range (k + 1)).take k = List.range k := by rw [List.take_range]; simp
  have := firstErr_take (f := markErr n l) (l := List.range (k + 1)) (k := k) (by simp) (by rw [h1]; exact ht); rw [List.take_of_length_le (by simp)] at this; rw [this]
  simpa [markErr] using h0
theorem marks_at {n : Nat} {l : List Mk} {k : Nat} {e : Int} (h12 : ¬ 12 < l.length) (hk : k < l.length) (ht : firstErr (markErr n l) (List.range k) = 0) (h0 : mErr n (l.getD k default) k (l.getD (k - 1) default) = e) (he : ¬ e = 0) : marksErr n l = e := by
  have h1 : (List.range l.length).take k = List.range k := by rw [List.take_range, Nat.min_eq_left (Nat.le_of_lt hk)]
  have := firstErr_at (f := markErr n l) (l := List.range l.length) (k := k) (by simpa using hk) (by rw [h1]; exact ht) (by simp only [List.getElem_range]; unfold markErr; rw [h0]; exact he); rw [marksErr, if_neg h12, this]; simp only [List.getElem_range]; exact h0
theorem marks_all {n : Nat} {l : List Mk} {k : Nat} (h12 : ¬ 12 < l.length) (hk : k = l.length) (ht : firstErr (markErr n l) (List.range k) = 0) : marksErr n l = 0 := by
  subst hk; rw [marksErr, if_neg h12, ht]
def checkErr (p : List Str) (l : List Mk) : Int := if pageErr p = 0 then marksErr p.length l else pageErr p
theorem proof_Check_meets {A : Option Addr} {c : Nat} (p : List Str) :
    Meets Try.prog F.proof_Check [.slice A p.length c] { LI := [Row A (rows p)], val := fun _ : Unit => int (pageErr p) } := by
 refine meets_intro F.proof_Check_f rfl (Nat.le_of_ble_eq_true rfl) fun w0 => ?_; refine hc_seq (hc_region (r_assign rfl rfl (hl_nil (then_n (hc_seq (hc_seq (hc_region (r_move rfl rfl ?_)))))))); refine r_len_sl rfl T.u_strs rfl ?_; refine r_gtr rfl rfl rfl (hl_nil (then_n ?_))
 first | refine c_dec rfl (fun hb1 => ?_) (fun hb1 => ?_) | refine hc_cond rfl (fun hb1 => ?_) (fun hb1 => ?_)
 ·have hb1' := hb1; try simp at hb1'
  have hb1 : 6 < p.length := by omega
  refine hc_seq (hc_region (r_assign rfl rfl (hl_nil (then_n (hc_ret (then_ret ?_)))))); exact ret1 () rfl (congrArg (fun b => some (int b)) (by rw [pageErr, if_pos hb1])) rfl trivial (List.nil_sublist _) trivial
 ·have hb1' := hb1; try simp at hb1'
  have hb1 : ¬ 6 < p.length := by omega
  refine hc_skip (then_n (hc_seq (hc_seq (hc_region (r_move rfl rfl ?_))))); refine r_len_sl rfl T.u_strs rfl ?_; refine r_move rfl rfl (hl_nil (then_n (hc_block ?_))); refine hc_loop (β := Nat) ⟨fun k => k ≤ p.length ∧ firstErr lineErr (p.take k) = 0, fun k => [(9, .slice A p.length c), (10, int p.length), (11, int k)], fun _ => [], fun _ => [Row A (rows p)]⟩ (fun k => p.length - k) 0 ⟨Nat.zero_le _, rfl⟩ ⟨rfl, rfl, rfl, trivial⟩ (.refl _) ⟨m0, trivial⟩ fun k hk => ?_; obtain ⟨hk, ht⟩ := hk; refine hc_seq (hc_region (r_lss rfl rfl rfl (hl_nil (then_n (hc_seq ?_)))))
  first | refine c_dec rfl (fun hb2 => ?_) (fun hb2 => ?_) | refine hc_cond rfl (fun hb2 => ?_) (fun hb2 => ?_)
  ·have hb2' := hb2; try simp at hb2'
   have hb2 : k < p.length := by omega
   refine hc_skip (then_n (hc_seq (hc_block (hc_seq (hc_region ?_))))); refine r_elem (α := Str) _ _ rfl T.u_strs T.sz_string rfl rfl rfl mB rfl (by omega) (by decide) ?_; refine r_load rfl T.cell_string rfl (cell_row mB (rows_get0 (by omega) rfl)) ?_; refine r_assign rfl rfl (hl_nil (then_n (hc_seq (hc_region (r_move rfl rfl ?_))))); refine hl_call F.proof_lineError_cb rfl rfl (proof_lineError_meets (p.getD k default)) (.refl _) trivial fun _ _ => ?_; refine r_assign rfl rfl (hl_nil (then_n (hc_seq (hc_region (r_move rfl rfl (r_neq rfl rfl rfl (hl_nil (then_n ?_))))))))
   first | refine c_dec rfl (fun hb3 => ?_) (fun hb3 => ?_) | refine hc_cond rfl (fun hb3 => ?_) (fun hb3 => ?_)
   ·have hb3' := hb3; try simp at hb3'
    refine hc_seq (hc_region (r_move rfl rfl (r_assign rfl rfl (hl_nil (then_n (hc_ret (inb_ret (then_ret (then_ret (inb_ret (then_ret ?_))))))))))); exact ret1 () rfl (congrArg (fun b => some (int b)) (by rw [pageErr, if_neg hb1, firstErr_atD hb2 ht hb3])) rfl trivial (List.nil_sublist _) trivial
   ·have hb3' := hb3; try simp at hb3'
    refine hc_skip (inb_n (then_n (hc_region ?_))); refine r_add _ rfl rfl rfl rfl (by unfold I64; omega) ?_; refine r_move rfl rfl (hl_nil ?_); exact again _ (k + 1) ⟨by omega, by rw [firstErr_takeD hb2 ht]; omega⟩ (by show p.length - (k + 1) < p.length - k; omega) ⟨rfl, rfl, rfl, trivial⟩ (.refl _) ⟨m0, trivial⟩
  ·have hb2' := hb2; try simp at hb2'
   have hb2 : k = p.length := by omega
   subst hb2; rw [List.take_length] at ht; refine hc_exit (then_exit (then_exit (inb_hit (then_n (hc_seq (hc_region (r_assign rfl rfl (hl_nil (then_n (hc_ret ?_)))))))))); exact ret1 () rfl (congrArg (fun b => some (int b)) (by rw [pageErr, if_neg hb1, ht])) rfl trivial (List.nil_sublist _) trivial
theorem proof_textError_meets (m : Mk) : Meets Try.prog F.proof_textError [.agg #[int m.1, int m.2.1, str m.2.2]] { val := fun _ : Unit => int (textErr m) } := by
 refine meets_intro F.proof_textError_f rfl (Nat.le_of_ble_eq_true rfl) fun w0 => ?_; refine hc_seq (hc_region ?_); refine r_box rfl rfl fun gB => ?_; refine r_assign rfl rfl (hl_nil (then_n (hc_seq (hc_seq (hc_region ?_)))))
 first | refine r_fieldAddr ⟨_, 0, none⟩ rfl rfl T.fa_api_Mark_0 rfl ?_ | refine r_fieldAddr _ rfl rfl T.fa_api_Mark_0 rfl ?_
 first | refine r_load rfl T.cell_int rfl (cell_own mB rfl) ?_ | refine r_load rfl T.cell_int rfl (cell_blk mB rfl) ?_ | refine r_load rfl T.cell_int rfl (cell_row mB (rows_get0 (by omega) rfl)) ?_ | refine r_load rfl T.cell_int rfl (cell_row_f mB (rows_get (by omega) rfl)) ?_
 refine r_neq rfl rfl rfl (hl_nil (then_n ?_))
 first | refine c_dec rfl (fun hb1 => ?_) (fun hb1 => ?_) | refine hc_cond rfl (fun hb1 => ?_) (fun hb1 => ?_)
 ·have hb1' := hb1; try simp at hb1'
  refine hc_seq (hc_region ?_)
  first | refine r_fieldAddr ⟨_, 2, none⟩ rfl rfl T.fa_api_Mark_2 rfl ?_ | refine r_fieldAddr _ rfl rfl T.fa_api_Mark_2 rfl ?_
  first | refine r_load rfl T.cell_string rfl (cell_own mB rfl) ?_ | refine r_load rfl T.cell_string rfl (cell_blk mB rfl) ?_ | refine r_load rfl T.cell_string rfl (cell_row mB (rows_get0 (by omega) rfl)) ?_ | refine r_load rfl T.cell_string rfl (cell_row_f mB (rows_get (by omega) rfl)) ?_
  refine hl_call F.proof_lineError_cb rfl rfl (proof_lineError_meets m.2.2) (List.Perm.refl _) trivial fun _ _ => ?_; refine r_assign rfl rfl (hl_nil (then_n (hc_ret (then_ret ?_)))); exact ret1 () rfl (congrArg (fun b => some (int b)) (by rw [textErr, if_pos hb1])) rfl trivial (List.nil_sublist _) trivial
 ·have hb1' := hb1; try simp at hb1'
  refine hc_skip (then_n (hc_seq (hc_seq (hc_region ?_))))
  first | refine r_fieldAddr ⟨_, 2, none⟩ rfl rfl T.fa_api_Mark_2 rfl ?_ | refine r_fieldAddr _ rfl rfl T.fa_api_Mark_2 rfl ?_
  first | refine r_load rfl T.cell_string rfl (cell_own mB rfl) ?_ | refine r_load rfl T.cell_string rfl (cell_blk mB rfl) ?_ | refine r_load rfl T.cell_string rfl (cell_row mB (rows_get0 (by omega) rfl)) ?_ | refine r_load rfl T.cell_string rfl (cell_row_f mB (rows_get (by omega) rfl)) ?_
  refine r_sneq rfl rfl rfl (hl_nil (then_n ?_))
  first | refine c_dec rfl (fun hb2 => ?_) (fun hb2 => ?_) | refine hc_cond rfl (fun hb2 => ?_) (fun hb2 => ?_)
  ·have hb2' := hb2; try simp at hb2'
   refine hc_seq (hc_region (r_assign rfl rfl (hl_nil (then_n (hc_ret (then_ret ?_)))))); exact ret1 () rfl (congrArg (fun b => some (int b)) (by rw [textErr, if_neg hb1, if_pos hb2])) rfl trivial (List.nil_sublist _) trivial
  ·have hb2' := hb2; try simp at hb2'
   refine hc_skip (then_n (hc_seq (hc_region (r_assign rfl rfl (hl_nil (then_n (hc_ret ?_))))))); exact ret1 () rfl (congrArg (fun b => some (int b)) (by rw [textErr, if_neg hb1, if_neg hb2])) rfl trivial (List.nil_sublist _) trivial
theorem proof_marksError_meets {A B : Option Addr} {n ca cb : Nat} (l : List Mk) (hn : n ≤ 1000000) :
    Meets Try.prog F.proof_marksError [.slice A n ca, .slice B l.length cb] { LI := [Row B (rows l)], val := fun _ : Unit => int (marksErr n l) } := by
 refine meets_intro F.proof_marksError_f rfl (Nat.le_of_ble_eq_true rfl) fun w0 => ?_; refine hc_seq (hc_region (r_assign rfl rfl (hl_nil (then_n (hc_seq (hc_seq (hc_region (r_move rfl rfl ?_)))))))); refine r_len_sl rfl T.u_L_api_Mark rfl ?_; refine r_gtr rfl rfl rfl (hl_nil (then_n ?_))
 first | refine c_dec rfl (fun hb1 => ?_) (fun hb1 => ?_) | refine hc_cond rfl (fun hb1 => ?_) (fun hb1 => ?_)
 ·have hb1' := hb1; try simp at hb1'
  have h12 : 12 < l.length := by omega
  refine hc_seq (hc_region (r_assign rfl rfl (hl_nil (then_n (hc_ret (then_ret ?_)))))); exact ret1 () rfl (congrArg (fun b => some (int b)) (by rw [marksErr, if_pos h12])) rfl trivial (List.nil_sublist _) trivial
 ·have hb1' := hb1; try simp at hb1'
  have h12 : ¬ 12 < l.length := by omega
  refine hc_skip (then_n (hc_seq (hc_seq (hc_region (r_move rfl rfl ?_))))); refine r_len_sl rfl T.u_L_api_Mark rfl ?_; refine r_move rfl rfl (hl_nil (then_n (hc_block ?_))); refine hc_loop (β := Nat) ⟨fun k => k ≤ l.length ∧ firstErr (markErr n l) (List.range k) = 0, fun k => [(0, .slice A n ca), (1, .slice B l.length cb), (13, .slice B l.length cb), (14, int l.length), (15, int k)], fun _ => [], fun _ => [Row B (rows l)]⟩ (fun k => l.length - k) 0 ⟨Nat.zero_le _, rfl⟩ ⟨rfl, rfl, rfl, rfl, rfl, trivial⟩ (.refl _) ⟨m0, trivial⟩ fun k hk => ?_; obtain ⟨hk, ht⟩ := hk; refine hc_seq (hc_region (r_lss rfl rfl rfl (hl_nil (then_n (hc_seq ?_)))))
  first | refine c_dec rfl (fun hb2 => ?_) (fun hb2 => ?_) | refine hc_cond rfl (fun hb2 => ?_) (fun hb2 => ?_)
  ·have hb2' := hb2; try simp at hb2'
   have hk2 : k < l.length := by omega
   refine hc_skip (then_n (hc_seq (hc_block (hc_seq (hc_region (r_move rfl rfl ?_)))))); refine r_elem (α := Mk) _ _ rfl T.u_L_api_Mark T.sz_api_Mark rfl rfl rfl mB rfl (by omega) (by decide) ?_; refine r_loadS rfl T.row_api_Mark T.sz_api_Mark rfl rfl (cells_row mB (rows_all (by omega))) ?_; refine r_alloc rfl (fun _ => T.al_api_Mark _) fun gA => ?_; refine r_assign rfl rfl ?_; refine r_storeS rfl rfl (by first | exact .refl _ | exact perm2 _ _ _ | exact perm3 _ _ _ _ | exact perm4 _ _ _ _ _) T.sz_api_Mark (by rfl) (by rfl) ?_; refine hl_nil (then_n (hc_seq (hc_seq ?_))); generalize hm : l.getD k default = m; refine hc_region ?_
   first | refine r_fieldAddr ⟨_, 0, none⟩ rfl rfl T.fa_api_Mark_0 rfl ?_ | refine r_fieldAddr _ rfl rfl T.fa_api_Mark_0 rfl ?_
   first | refine r_load rfl T.cell_int rfl (cell_own mB rfl) ?_ | refine r_load rfl T.cell_int rfl (cell_blk mB rfl) ?_ | refine r_load rfl T.cell_int rfl (cell_row mB (rows_get0 (by omega) rfl)) ?_ | refine r_load rfl T.cell_int rfl (cell_row_f mB (rows_get (by omega) rfl)) ?_
   refine r_lss rfl rfl rfl (r_move rfl rfl ?_); refine g_split rfl rfl ?_ ?_
   ·intro hg1; have hg1' := hg1; try simp at hg1'
    refine g_yes rfl rfl hg1 ?_
    first | refine r_fieldAddr ⟨_, 0, none⟩ rfl rfl T.fa_api_Mark_0 rfl ?_ | refine r_fieldAddr _ rfl rfl T.fa_api_Mark_0 rfl ?_
    refine g_yes rfl rfl hg1 ?_
    first | refine r_load rfl T.cell_int rfl (cell_own mB rfl) ?_ | refine r_load rfl T.cell_int rfl (cell_blk mB rfl) ?_ | refine r_load rfl T.cell_int rfl (cell_row mB (rows_get0 (by omega) rfl)) ?_ | refine r_load rfl T.cell_int rfl (cell_row_f mB (rows_get (by omega) rfl)) ?_
    refine g_yes rfl rfl hg1 (r_gtr rfl rfl rfl ?_); refine p_f rfl rfl (bf1 hg1) rfl ?_; refine hl_nil (then_n ?_)
    first | refine c_dec rfl (fun hb3 => ?_) (fun hb3 => ?_) | refine hc_cond rfl (fun hb3 => ?_) (fun hb3 => ?_)
    ·have hb3' := hb3; try simp at hb3'
     refine hc_seq (hc_region (r_assign rfl rfl (hl_nil (then_n (hc_ret (then_ret (inb_ret (then_ret (then_ret (inb_ret (then_ret ?_))))))))))); exact ret1 () rfl (congrArg (fun b => some (int b)) (by refine (marks_at h12 hk2 ht (e := 8) (by first | (exfalso; omega) | (rw [hm]; (try rw [hm2]); unfold mErr; (repeat (first | rw [if_pos (by omega)] | rw [if_neg (by omega)])); done)) (by omega)).symm)) rfl trivial (List.nil_sublist _) trivial
    ·have hb3' := hb3; try simp at hb3'
     refine hc_skip (then_n (hc_seq (hc_region (r_move rfl rfl ?_)))); refine r_len_sl rfl T.u_strs rfl ?_; refine r_sub _ rfl rfl rfl rfl (by unfold I64; omega) ?_; refine r_assign rfl rfl (hl_nil (then_n (hc_seq (hc_seq (hc_region ?_)))))
     first | refine r_fieldAddr ⟨_, 0, none⟩ rfl rfl T.fa_api_Mark_0 rfl ?_ | refine r_fieldAddr _ rfl rfl T.fa_api_Mark_0 rfl ?_
     first | refine r_load rfl T.cell_int rfl (cell_own mB rfl) ?_ | refine r_load rfl T.cell_int rfl (cell_blk mB rfl) ?_ | refine r_load rfl T.cell_int rfl (cell_row mB (rows_get0 (by omega) rfl)) ?_ | refine r_load rfl T.cell_int rfl (cell_row_f mB (rows_get (by omega) rfl)) ?_
     refine r_eql rfl rfl rfl (hl_nil (then_n ?_))
     first | refine c_dec rfl (fun hb4 => ?_) (fun hb4 => ?_) | refine hc_cond rfl (fun hb4 => ?_) (fun hb4 => ?_)
     ·have hb4' := hb4; try simp at hb4'
      refine hc_region (r_move rfl rfl ?_); refine r_add _ rfl rfl rfl rfl (by unfold I64; omega) ?_; refine r_assign rfl rfl (hl_nil (then_n (hc_seq (hc_seq (hc_region ?_)))))
      first | refine r_fieldAddr ⟨_, 1, none⟩ rfl rfl T.fa_api_Mark_1 rfl ?_ | refine r_fieldAddr _ rfl rfl T.fa_api_Mark_1 rfl ?_
      first | refine r_load rfl T.cell_int rfl (cell_own mB rfl) ?_ | refine r_load rfl T.cell_int rfl (cell_blk mB rfl) ?_ | refine r_load rfl T.cell_int rfl (cell_row mB (rows_get0 (by omega) rfl)) ?_ | refine r_load rfl T.cell_int rfl (cell_row_f mB (rows_get (by omega) rfl)) ?_
      refine r_lss rfl rfl rfl (r_move rfl rfl ?_); refine g_split rfl rfl ?_ ?_
      ·intro hg2; have hg2' := hg2; try simp at hg2'
       refine g_yes rfl rfl hg2 ?_
       first | refine r_fieldAddr ⟨_, 1, none⟩ rfl rfl T.fa_api_Mark_1 rfl ?_ | refine r_fieldAddr _ rfl rfl T.fa_api_Mark_1 rfl ?_
       refine g_yes rfl rfl hg2 ?_
       first | refine r_load rfl T.cell_int rfl (cell_own mB rfl) ?_ | refine r_load rfl T.cell_int rfl (cell_blk mB rfl) ?_ | refine r_load rfl T.cell_int rfl (cell_row mB (rows_get0 (by omega) rfl)) ?_ | refine r_load rfl T.cell_int rfl (cell_row_f mB (rows_get (by omega) rfl)) ?_
       refine g_yes rfl rfl hg2 (r_move rfl rfl (g_yes rfl rfl hg2 (r_gtr rfl rfl rfl ?_))); refine p_f rfl rfl (bf1 hg2) rfl ?_; refine hl_nil (then_n ?_)
       first | refine c_dec rfl (fun hb5 => ?_) (fun hb5 => ?_) | refine hc_cond rfl (fun hb5 => ?_) (fun hb5 => ?_)
       ·have hb5' := hb5; try simp at hb5'
        refine hc_seq (hc_region (r_assign rfl rfl (hl_nil (then_n (hc_ret (then_ret (inb_ret (then_ret (then_ret (inb_ret (then_ret ?_))))))))))); exact ret1 () rfl (congrArg (fun b => some (int b)) (by refine (marks_at h12 hk2 ht (e := 3) (by first | (exfalso; omega) | (rw [hm]; (try rw [hm2]); unfold mErr; (repeat (first | rw [if_pos (by omega)] | rw [if_neg (by omega)])); done)) (by omega)).symm)) rfl trivial (List.nil_sublist _) trivial
       ·have hb5' := hb5; try simp at hb5'
        refine hc_skip (then_n (hc_seq (hc_seq (hc_region ?_))))
        first | refine r_loadA rfl T.row_api_Mark T.sz_api_Mark rfl mB (by rfl) ?_ | refine r_loadB rfl T.row_api_Mark T.sz_api_Mark rfl mB (by rfl) ?_ | refine r_loadS rfl T.row_api_Mark T.sz_api_Mark rfl rfl (cells_row mB (rows_all (by omega))) ?_
        refine hl_call F.proof_textError_cb rfl rfl (proof_textError_meets m) (List.Perm.refl _) trivial fun _ _ => ?_; refine r_assign rfl rfl (hl_nil (then_n (hc_seq (hc_region (r_move rfl rfl (r_neq rfl rfl rfl (hl_nil (then_n ?_))))))))
        first | refine c_dec rfl (fun hb6 => ?_) (fun hb6 => ?_) | refine hc_cond rfl (fun hb6 => ?_) (fun hb6 => ?_)
        ·have hb6' := hb6; try simp at hb6'
         refine hc_seq (hc_region (r_move rfl rfl (r_assign rfl rfl (hl_nil (then_n (hc_ret (then_ret (inb_ret (then_ret (then_ret (inb_ret ?_))))))))))); refine then_ret ?_; exact ret1 () rfl (congrArg (fun b => some (int b)) (by refine (marks_at h12 hk2 ht (e := textErr m) (by first | (exfalso; omega) | (rw [hm]; (try rw [hm2]); unfold mErr; (repeat (first | rw [if_pos (by omega)] | rw [if_neg (by omega)])); done)) (by omega)).symm)) rfl trivial (List.nil_sublist _) trivial
        ·have hb6' := hb6; try simp at hb6'
         refine hc_skip (then_n (hc_seq (hc_seq (hc_region (r_move rfl rfl (r_eql rfl rfl rfl (hl_nil (then_n ?_))))))))
         first | refine c_dec rfl (fun hb7 => ?_) (fun hb7 => ?_) | refine hc_cond rfl (fun hb7 => ?_) (fun hb7 => ?_)
         ·have hb7' := hb7; try simp at hb7'
          refine hc_exit (then_exit (inb_hit (then_n (hc_region ?_)))); refine r_add _ rfl rfl rfl rfl (by unfold I64; omega) ?_; refine r_move rfl rfl (hl_nil ?_); exact again _ (k + 1) ⟨by omega, marks_next ht (by first | (exfalso; omega) | (rw [hm]; (try rw [hm2]); unfold mErr; (repeat (first | rw [if_pos (by omega)] | rw [if_neg (by omega)])); done))⟩ (by show l.length - (k + 1) < l.length - k; omega) ⟨rfl, rfl, rfl, rfl, rfl, trivial⟩ (List.nil_sublist _) ⟨m0, trivial⟩
         ·have hb7' := hb7; try simp at hb7'
          refine hc_skip (then_n (hc_seq (hc_region (r_move rfl rfl (r_move rfl rfl ?_))))); refine r_sub ((k - 1 : Nat) : Int) rfl rfl rfl (by omega) (by unfold I64; omega) ?_; refine r_elem (α := Mk) _ _ rfl T.u_L_api_Mark T.sz_api_Mark rfl rfl rfl mB rfl (by omega) (by decide) ?_; refine r_loadS rfl T.row_api_Mark T.sz_api_Mark rfl rfl (cells_row mB (rows_all (by omega))) ?_; refine r_alloc rfl (fun _ => T.al_api_Mark _) fun gA => ?_; refine r_storeS rfl rfl (by first | exact .refl _ | exact perm2 _ _ _ | exact perm3 _ _ _ _ | exact perm4 _ _ _ _ _) T.sz_api_Mark (by rfl) (by rfl) ?_; refine hl_nil (then_n (hc_block (hc_seq ?_))); generalize hm2 : l.getD (k - 1) default = m2; refine hc_region ?_
          first | refine r_fieldAddr ⟨_, 1, none⟩ rfl rfl T.fa_api_Mark_1 rfl ?_ | refine r_fieldAddr _ rfl rfl T.fa_api_Mark_1 rfl ?_
          first | refine r_load rfl T.cell_int rfl (cell_own mB rfl) ?_ | refine r_load rfl T.cell_int rfl (cell_blk mB rfl) ?_ | refine r_load rfl T.cell_int rfl (cell_row mB (rows_get0 (by omega) rfl)) ?_ | refine r_load rfl T.cell_int rfl (cell_row_f mB (rows_get (by omega) rfl)) ?_
          first | refine r_fieldAddr ⟨_, 1, none⟩ rfl rfl T.fa_api_Mark_1 rfl ?_ | refine r_fieldAddr _ rfl rfl T.fa_api_Mark_1 rfl ?_
          first | refine r_load rfl T.cell_int rfl (cell_own mB rfl) ?_ | refine r_load rfl T.cell_int rfl (cell_blk mB rfl) ?_ | refine r_load rfl T.cell_int rfl (cell_row mB (rows_get0 (by omega) rfl)) ?_ | refine r_load rfl T.cell_int rfl (cell_row_f mB (rows_get (by omega) rfl)) ?_
          refine r_lss rfl rfl rfl (r_assign rfl rfl (hl_nil (then_n ?_)))
          first | refine c_dec rfl (fun hb8 => ?_) (fun hb8 => ?_) | refine hc_cond rfl (fun hb8 => ?_) (fun hb8 => ?_)
          ·have hb8' := hb8; try simp at hb8'
           refine hc_seq (hc_region (r_assign rfl rfl (hl_nil (then_n (hc_ret (inb_ret (inb_ret (then_ret (then_ret (inb_ret (then_ret ?_))))))))))); exact ret1 () rfl (congrArg (fun b => some (int b)) (by refine (marks_at h12 hk2 ht (e := 5) (by first | (exfalso; omega) | (rw [hm]; (try rw [hm2]); unfold mErr; (repeat (first | rw [if_pos (by omega)] | rw [if_neg (by omega)])); done)) (by omega)).symm)) rfl trivial (List.nil_sublist _) trivial
          ·have hb8' := hb8; try simp at hb8'
           refine hc_seq (hc_region ?_)
           first | refine r_fieldAddr ⟨_, 1, none⟩ rfl rfl T.fa_api_Mark_1 rfl ?_ | refine r_fieldAddr _ rfl rfl T.fa_api_Mark_1 rfl ?_
           first | refine r_load rfl T.cell_int rfl (cell_own mB rfl) ?_ | refine r_load rfl T.cell_int rfl (cell_blk mB rfl) ?_ | refine r_load rfl T.cell_int rfl (cell_row mB (rows_get0 (by omega) rfl)) ?_ | refine r_load rfl T.cell_int rfl (cell_row_f mB (rows_get (by omega) rfl)) ?_
           first | refine r_fieldAddr ⟨_, 1, none⟩ rfl rfl T.fa_api_Mark_1 rfl ?_ | refine r_fieldAddr _ rfl rfl T.fa_api_Mark_1 rfl ?_
           first | refine r_load rfl T.cell_int rfl (cell_own mB rfl) ?_ | refine r_load rfl T.cell_int rfl (cell_blk mB rfl) ?_ | refine r_load rfl T.cell_int rfl (cell_row mB (rows_get0 (by omega) rfl)) ?_ | refine r_load rfl T.cell_int rfl (cell_row_f mB (rows_get (by omega) rfl)) ?_
           refine r_gtr rfl rfl rfl (r_move rfl rfl ?_); refine g_split rfl rfl ?_ ?_
           ·intro hg3; have hg3' := hg3; try simp at hg3'
            refine g_yes rfl rfl hg3 ?_
            first | refine r_fieldAddr ⟨_, 0, none⟩ rfl rfl T.fa_api_Mark_0 rfl ?_ | refine r_fieldAddr _ rfl rfl T.fa_api_Mark_0 rfl ?_
            refine g_yes rfl rfl hg3 ?_
            first | refine r_load rfl T.cell_int rfl (cell_own mB rfl) ?_ | refine r_load rfl T.cell_int rfl (cell_blk mB rfl) ?_ | refine r_load rfl T.cell_int rfl (cell_row mB (rows_get0 (by omega) rfl)) ?_ | refine r_load rfl T.cell_int rfl (cell_row_f mB (rows_get (by omega) rfl)) ?_
            refine g_yes rfl rfl hg3 (r_eql rfl rfl rfl ?_); refine p_f rfl rfl (bf1 hg3) rfl ?_; refine r_assign rfl rfl (hl_nil (then_n ?_))
            first | refine c_dec rfl (fun hb9 => ?_) (fun hb9 => ?_) | refine hc_cond rfl (fun hb9 => ?_) (fun hb9 => ?_)
            ·have hb9' := hb9; try simp at hb9'
             refine hc_skip (inb_n (inb_n (then_n (hc_region ?_)))); refine r_add _ rfl rfl rfl rfl (by unfold I64; omega) ?_; refine r_move rfl rfl (hl_nil ?_); exact again _ (k + 1) ⟨by omega, marks_next ht (by first | (exfalso; omega) | (rw [hm]; (try rw [hm2]); unfold mErr; (repeat (first | rw [if_pos (by omega)] | rw [if_neg (by omega)])); done))⟩ (by show l.length - (k + 1) < l.length - k; omega) ⟨rfl, rfl, rfl, rfl, rfl, trivial⟩ (List.nil_sublist _) ⟨m0, trivial⟩
            ·have hb9' := hb9; try simp at hb9'
             refine hc_seq (hc_region ?_)
             first | refine r_fieldAddr ⟨_, 0, none⟩ rfl rfl T.fa_api_Mark_0 rfl ?_ | refine r_fieldAddr _ rfl rfl T.fa_api_Mark_0 rfl ?_
             first | refine r_load rfl T.cell_int rfl (cell_own mB rfl) ?_ | refine r_load rfl T.cell_int rfl (cell_blk mB rfl) ?_ | refine r_load rfl T.cell_int rfl (cell_row mB (rows_get0 (by omega) rfl)) ?_ | refine r_load rfl T.cell_int rfl (cell_row_f mB (rows_get (by omega) rfl)) ?_
             refine r_eql rfl rfl rfl (r_assign rfl rfl (hl_nil (then_n ?_)))
             first | refine c_dec rfl (fun hb10 => ?_) (fun hb10 => ?_) | refine hc_cond rfl (fun hb10 => ?_) (fun hb10 => ?_)
             ·have hb10' := hb10; try simp at hb10'
              refine hc_seq (hc_region (r_assign rfl rfl (hl_nil (then_n (hc_ret (inb_ret (inb_ret (then_ret (then_ret (inb_ret (then_ret ?_))))))))))); exact ret1 () rfl (congrArg (fun b => some (int b)) (by refine (marks_at h12 hk2 ht (e := 5) (by first | (exfalso; omega) | (rw [hm]; (try rw [hm2]); unfold mErr; (repeat (first | rw [if_pos (by omega)] | rw [if_neg (by omega)])); done)) (by omega)).symm)) rfl trivial (List.nil_sublist _) trivial
             ·have hb10' := hb10; try simp at hb10'
              refine hc_seq (hc_region (r_assign rfl rfl (hl_nil (then_n (hc_ret (inb_ret (inb_ret (then_ret (then_ret (inb_ret (then_ret ?_))))))))))); exact ret1 () rfl (congrArg (fun b => some (int b)) (by refine (marks_at h12 hk2 ht (e := 4) (by first | (exfalso; omega) | (rw [hm]; (try rw [hm2]); unfold mErr; (repeat (first | rw [if_pos (by omega)] | rw [if_neg (by omega)])); done)) (by omega)).symm)) rfl trivial (List.nil_sublist _) trivial
           ·intro hg3; have hg3' := hg3; try simp at hg3'
            refine g_no rfl rfl rfl rfl rfl hg3 (g_no rfl rfl rfl rfl rfl hg3 (g_no rfl rfl rfl rfl rfl hg3 ?_)); refine p_t rfl rfl (bt2 hg3) rfl ?_; refine r_assign rfl rfl (hl_nil (then_n (c_t rfl rfl (hc_skip (inb_n (inb_n (then_n (hc_region ?_)))))))); refine r_add _ rfl rfl rfl rfl (by unfold I64; omega) ?_; refine r_move rfl rfl (hl_nil ?_); exact again _ (k + 1) ⟨by omega, marks_next ht (by first | (exfalso; omega) | (rw [hm]; (try rw [hm2]); unfold mErr; (repeat (first | rw [if_pos (by omega)] | rw [if_neg (by omega)])); done))⟩ (by show l.length - (k + 1) < l.length - k; omega) ⟨rfl, rfl, rfl, rfl, rfl, trivial⟩ (List.nil_sublist _) ⟨m0, trivial⟩
      ·intro hg2; have hg2' := hg2; try simp at hg2'
       refine g_no rfl rfl rfl rfl rfl hg2 (g_no rfl rfl rfl rfl rfl hg2 (g_no rfl rfl rfl rfl rfl hg2 (g_no rfl rfl rfl rfl rfl hg2 ?_))); refine p_t rfl rfl (bt2 hg2) rfl ?_; refine hl_nil (then_n (c_t rfl rfl (hc_seq (hc_region (r_assign rfl rfl (hl_nil (then_n (hc_ret (then_ret (inb_ret (then_ret ?_))))))))))); refine then_ret (inb_ret (then_ret ?_)); exact ret1 () rfl (congrArg (fun b => some (int b)) (by refine (marks_at h12 hk2 ht (e := 3) (by first | (exfalso; omega) | (rw [hm]; (try rw [hm2]); unfold mErr; (repeat (first | rw [if_pos (by omega)] | rw [if_neg (by omega)])); done)) (by omega)).symm)) rfl trivial (List.nil_sublist _) trivial
     ·have hb4' := hb4; try simp at hb4'
      refine hc_skip (then_n (hc_seq (hc_seq (hc_region ?_))))
      first | refine r_fieldAddr ⟨_, 1, none⟩ rfl rfl T.fa_api_Mark_1 rfl ?_ | refine r_fieldAddr _ rfl rfl T.fa_api_Mark_1 rfl ?_
      first | refine r_load rfl T.cell_int rfl (cell_own mB rfl) ?_ | refine r_load rfl T.cell_int rfl (cell_blk mB rfl) ?_ | refine r_load rfl T.cell_int rfl (cell_row mB (rows_get0 (by omega) rfl)) ?_ | refine r_load rfl T.cell_int rfl (cell_row_f mB (rows_get (by omega) rfl)) ?_
      refine r_lss rfl rfl rfl (r_move rfl rfl ?_); refine g_split rfl rfl ?_ ?_
      ·intro hg4; have hg4' := hg4; try simp at hg4'
       refine g_yes rfl rfl hg4 ?_
       first | refine r_fieldAddr ⟨_, 1, none⟩ rfl rfl T.fa_api_Mark_1 rfl ?_ | refine r_fieldAddr _ rfl rfl T.fa_api_Mark_1 rfl ?_
       refine g_yes rfl rfl hg4 ?_
       first | refine r_load rfl T.cell_int rfl (cell_own mB rfl) ?_ | refine r_load rfl T.cell_int rfl (cell_blk mB rfl) ?_ | refine r_load rfl T.cell_int rfl (cell_row mB (rows_get0 (by omega) rfl)) ?_ | refine r_load rfl T.cell_int rfl (cell_row_f mB (rows_get (by omega) rfl)) ?_
       refine g_yes rfl rfl hg4 (r_move rfl rfl (g_yes rfl rfl hg4 (r_gtr rfl rfl rfl ?_))); refine p_f rfl rfl (bf1 hg4) rfl ?_; refine hl_nil (then_n ?_)
       first | refine c_dec rfl (fun hb5 => ?_) (fun hb5 => ?_) | refine hc_cond rfl (fun hb5 => ?_) (fun hb5 => ?_)
       ·have hb5' := hb5; try simp at hb5'
        refine hc_seq (hc_region (r_assign rfl rfl (hl_nil (then_n (hc_ret (then_ret (inb_ret (then_ret (then_ret (inb_ret (then_ret ?_))))))))))); exact ret1 () rfl (congrArg (fun b => some (int b)) (by refine (marks_at h12 hk2 ht (e := 3) (by first | (exfalso; omega) | (rw [hm]; (try rw [hm2]); unfold mErr; (repeat (first | rw [if_pos (by omega)] | rw [if_neg (by omega)])); done)) (by omega)).symm)) rfl trivial (List.nil_sublist _) trivial
       ·have hb5' := hb5; try simp at hb5'
        refine hc_skip (then_n (hc_seq (hc_seq (hc_region ?_))))
        first | refine r_loadA rfl T.row_api_Mark T.sz_api_Mark rfl mB (by rfl) ?_ | refine r_loadB rfl T.row_api_Mark T.sz_api_Mark rfl mB (by rfl) ?_ | refine r_loadS rfl T.row_api_Mark T.sz_api_Mark rfl rfl (cells_row mB (rows_all (by omega))) ?_
        refine hl_call F.proof_textError_cb rfl rfl (proof_textError_meets m) (List.Perm.refl _) trivial fun _ _ => ?_; refine r_assign rfl rfl (hl_nil (then_n (hc_seq (hc_region (r_move rfl rfl (r_neq rfl rfl rfl (hl_nil (then_n ?_))))))))
        first | refine c_dec rfl (fun hb6 => ?_) (fun hb6 => ?_) | refine hc_cond rfl (fun hb6 => ?_) (fun hb6 => ?_)
        ·have hb6' := hb6; try simp at hb6'
         refine hc_seq (hc_region (r_move rfl rfl (r_assign rfl rfl (hl_nil (then_n (hc_ret (then_ret (inb_ret (then_ret (then_ret (inb_ret ?_))))))))))); refine then_ret ?_; exact ret1 () rfl (congrArg (fun b => some (int b)) (by refine (marks_at h12 hk2 ht (e := textErr m) (by first | (exfalso; omega) | (rw [hm]; (try rw [hm2]); unfold mErr; (repeat (first | rw [if_pos (by omega)] | rw [if_neg (by omega)])); done)) (by omega)).symm)) rfl trivial (List.nil_sublist _) trivial
        ·have hb6' := hb6; try simp at hb6'
         refine hc_skip (then_n (hc_seq (hc_seq (hc_region (r_move rfl rfl (r_eql rfl rfl rfl (hl_nil (then_n ?_))))))))
         first | refine c_dec rfl (fun hb7 => ?_) (fun hb7 => ?_) | refine hc_cond rfl (fun hb7 => ?_) (fun hb7 => ?_)
         ·have hb7' := hb7; try simp at hb7'
          refine hc_exit (then_exit (inb_hit (then_n (hc_region ?_)))); refine r_add _ rfl rfl rfl rfl (by unfold I64; omega) ?_; refine r_move rfl rfl (hl_nil ?_); exact again _ (k + 1) ⟨by omega, marks_next ht (by first | (exfalso; omega) | (rw [hm]; (try rw [hm2]); unfold mErr; (repeat (first | rw [if_pos (by omega)] | rw [if_neg (by omega)])); done))⟩ (by show l.length - (k + 1) < l.length - k; omega) ⟨rfl, rfl, rfl, rfl, rfl, trivial⟩ (List.nil_sublist _) ⟨m0, trivial⟩
         ·have hb7' := hb7; try simp at hb7'
          refine hc_skip (then_n (hc_seq (hc_region (r_move rfl rfl (r_move rfl rfl ?_))))); refine r_sub ((k - 1 : Nat) : Int) rfl rfl rfl (by omega) (by unfold I64; omega) ?_; refine r_elem (α := Mk) _ _ rfl T.u_L_api_Mark T.sz_api_Mark rfl rfl rfl mB rfl (by omega) (by decide) ?_; refine r_loadS rfl T.row_api_Mark T.sz_api_Mark rfl rfl (cells_row mB (rows_all (by omega))) ?_; refine r_alloc rfl (fun _ => T.al_api_Mark _) fun gA => ?_; refine r_storeS rfl rfl (by first | exact .refl _ | exact perm2 _ _ _ | exact perm3 _ _ _ _ | exact perm4 _ _ _ _ _) T.sz_api_Mark (by rfl) (by rfl) ?_; refine hl_nil (then_n (hc_block (hc_seq ?_))); generalize hm2 : l.getD (k - 1) default = m2; refine hc_region ?_
          first | refine r_fieldAddr ⟨_, 1, none⟩ rfl rfl T.fa_api_Mark_1 rfl ?_ | refine r_fieldAddr _ rfl rfl T.fa_api_Mark_1 rfl ?_
          first | refine r_load rfl T.cell_int rfl (cell_own mB rfl) ?_ | refine r_load rfl T.cell_int rfl (cell_blk mB rfl) ?_ | refine r_load rfl T.cell_int rfl (cell_row mB (rows_get0 (by omega) rfl)) ?_ | refine r_load rfl T.cell_int rfl (cell_row_f mB (rows_get (by omega) rfl)) ?_
          first | refine r_fieldAddr ⟨_, 1, none⟩ rfl rfl T.fa_api_Mark_1 rfl ?_ | refine r_fieldAddr _ rfl rfl T.fa_api_Mark_1 rfl ?_
          first | refine r_load rfl T.cell_int rfl (cell_own mB rfl) ?_ | refine r_load rfl T.cell_int rfl (cell_blk mB rfl) ?_ | refine r_load rfl T.cell_int rfl (cell_row mB (rows_get0 (by omega) rfl)) ?_ | refine r_load rfl T.cell_int rfl (cell_row_f mB (rows_get (by omega) rfl)) ?_
          refine r_lss rfl rfl rfl (r_assign rfl rfl (hl_nil (then_n ?_)))
          first | refine c_dec rfl (fun hb8 => ?_) (fun hb8 => ?_) | refine hc_cond rfl (fun hb8 => ?_) (fun hb8 => ?_)
          ·have hb8' := hb8; try simp at hb8'
           refine hc_seq (hc_region (r_assign rfl rfl (hl_nil (then_n (hc_ret (inb_ret (inb_ret (then_ret (then_ret (inb_ret (then_ret ?_))))))))))); exact ret1 () rfl (congrArg (fun b => some (int b)) (by refine (marks_at h12 hk2 ht (e := 5) (by first | (exfalso; omega) | (rw [hm]; (try rw [hm2]); unfold mErr; (repeat (first | rw [if_pos (by omega)] | rw [if_neg (by omega)])); done)) (by omega)).symm)) rfl trivial (List.nil_sublist _) trivial
          ·have hb8' := hb8; try simp at hb8'
           refine hc_seq (hc_region ?_)
           first | refine r_fieldAddr ⟨_, 1, none⟩ rfl rfl T.fa_api_Mark_1 rfl ?_ | refine r_fieldAddr _ rfl rfl T.fa_api_Mark_1 rfl ?_
           first | refine r_load rfl T.cell_int rfl (cell_own mB rfl) ?_ | refine r_load rfl T.cell_int rfl (cell_blk mB rfl) ?_ | refine r_load rfl T.cell_int rfl (cell_row mB (rows_get0 (by omega) rfl)) ?_ | refine r_load rfl T.cell_int rfl (cell_row_f mB (rows_get (by omega) rfl)) ?_
           first | refine r_fieldAddr ⟨_, 1, none⟩ rfl rfl T.fa_api_Mark_1 rfl ?_ | refine r_fieldAddr _ rfl rfl T.fa_api_Mark_1 rfl ?_
           first | refine r_load rfl T.cell_int rfl (cell_own mB rfl) ?_ | refine r_load rfl T.cell_int rfl (cell_blk mB rfl) ?_ | refine r_load rfl T.cell_int rfl (cell_row mB (rows_get0 (by omega) rfl)) ?_ | refine r_load rfl T.cell_int rfl (cell_row_f mB (rows_get (by omega) rfl)) ?_
           refine r_gtr rfl rfl rfl (r_move rfl rfl ?_); refine g_split rfl rfl ?_ ?_
           ·intro hg5; have hg5' := hg5; try simp at hg5'
            refine g_yes rfl rfl hg5 ?_
            first | refine r_fieldAddr ⟨_, 0, none⟩ rfl rfl T.fa_api_Mark_0 rfl ?_ | refine r_fieldAddr _ rfl rfl T.fa_api_Mark_0 rfl ?_
            refine g_yes rfl rfl hg5 ?_
            first | refine r_load rfl T.cell_int rfl (cell_own mB rfl) ?_ | refine r_load rfl T.cell_int rfl (cell_blk mB rfl) ?_ | refine r_load rfl T.cell_int rfl (cell_row mB (rows_get0 (by omega) rfl)) ?_ | refine r_load rfl T.cell_int rfl (cell_row_f mB (rows_get (by omega) rfl)) ?_
            refine g_yes rfl rfl hg5 (r_eql rfl rfl rfl ?_); refine p_f rfl rfl (bf1 hg5) rfl ?_; refine r_assign rfl rfl (hl_nil (then_n ?_))
            first | refine c_dec rfl (fun hb9 => ?_) (fun hb9 => ?_) | refine hc_cond rfl (fun hb9 => ?_) (fun hb9 => ?_)
            ·have hb9' := hb9; try simp at hb9'
             refine hc_skip (inb_n (inb_n (then_n (hc_region ?_)))); refine r_add _ rfl rfl rfl rfl (by unfold I64; omega) ?_; refine r_move rfl rfl (hl_nil ?_); exact again _ (k + 1) ⟨by omega, marks_next ht (by first | (exfalso; omega) | (rw [hm]; (try rw [hm2]); unfold mErr; (repeat (first | rw [if_pos (by omega)] | rw [if_neg (by omega)])); done))⟩ (by show l.length - (k + 1) < l.length - k; omega) ⟨rfl, rfl, rfl, rfl, rfl, trivial⟩ (List.nil_sublist _) ⟨m0, trivial⟩
            ·have hb9' := hb9; try simp at hb9'
             refine hc_seq (hc_region ?_)
             first | refine r_fieldAddr ⟨_, 0, none⟩ rfl rfl T.fa_api_Mark_0 rfl ?_ | refine r_fieldAddr _ rfl rfl T.fa_api_Mark_0 rfl ?_
             first | refine r_load rfl T.cell_int rfl (cell_own mB rfl) ?_ | refine r_load rfl T.cell_int rfl (cell_blk mB rfl) ?_ | refine r_load rfl T.cell_int rfl (cell_row mB (rows_get0 (by omega) rfl)) ?_ | refine r_load rfl T.cell_int rfl (cell_row_f mB (rows_get (by omega) rfl)) ?_
             refine r_eql rfl rfl rfl (r_assign rfl rfl (hl_nil (then_n ?_)))
             first | refine c_dec rfl (fun hb10 => ?_) (fun hb10 => ?_) | refine hc_cond rfl (fun hb10 => ?_) (fun hb10 => ?_)
             ·have hb10' := hb10; try simp at hb10'
              refine hc_seq (hc_region (r_assign rfl rfl (hl_nil (then_n (hc_ret (inb_ret (inb_ret (then_ret (then_ret (inb_ret (then_ret ?_))))))))))); exact ret1 () rfl (congrArg (fun b => some (int b)) (by refine (marks_at h12 hk2 ht (e := 5) (by first | (exfalso; omega) | (rw [hm]; (try rw [hm2]); unfold mErr; (repeat (first | rw [if_pos (by omega)] | rw [if_neg (by omega)])); done)) (by omega)).symm)) rfl trivial (List.nil_sublist _) trivial
             ·have hb10' := hb10; try simp at hb10'
              refine hc_seq (hc_region (r_assign rfl rfl (hl_nil (then_n (hc_ret (inb_ret (inb_ret (then_ret (then_ret (inb_ret (then_ret ?_))))))))))); exact ret1 () rfl (congrArg (fun b => some (int b)) (by refine (marks_at h12 hk2 ht (e := 4) (by first | (exfalso; omega) | (rw [hm]; (try rw [hm2]); unfold mErr; (repeat (first | rw [if_pos (by omega)] | rw [if_neg (by omega)])); done)) (by omega)).symm)) rfl trivial (List.nil_sublist _) trivial
           ·intro hg5; have hg5' := hg5; try simp at hg5'
            refine g_no rfl rfl rfl rfl rfl hg5 (g_no rfl rfl rfl rfl rfl hg5 (g_no rfl rfl rfl rfl rfl hg5 ?_)); refine p_t rfl rfl (bt2 hg5) rfl ?_; refine r_assign rfl rfl (hl_nil (then_n (c_t rfl rfl (hc_skip (inb_n (inb_n (then_n (hc_region ?_)))))))); refine r_add _ rfl rfl rfl rfl (by unfold I64; omega) ?_; refine r_move rfl rfl (hl_nil ?_); exact again _ (k + 1) ⟨by omega, marks_next ht (by first | (exfalso; omega) | (rw [hm]; (try rw [hm2]); unfold mErr; (repeat (first | rw [if_pos (by omega)] | rw [if_neg (by omega)])); done))⟩ (by show l.length - (k + 1) < l.length - k; omega) ⟨rfl, rfl, rfl, rfl, rfl, trivial⟩ (List.nil_sublist _) ⟨m0, trivial⟩
      ·intro hg4; have hg4' := hg4; try simp at hg4'
       refine g_no rfl rfl rfl rfl rfl hg4 (g_no rfl rfl rfl rfl rfl hg4 (g_no rfl rfl rfl rfl rfl hg4 (g_no rfl rfl rfl rfl rfl hg4 ?_))); refine p_t rfl rfl (bt2 hg4) rfl ?_; refine hl_nil (then_n (c_t rfl rfl (hc_seq (hc_region (r_assign rfl rfl (hl_nil (then_n (hc_ret (then_ret (inb_ret (then_ret ?_))))))))))); refine then_ret (inb_ret (then_ret ?_)); exact ret1 () rfl (congrArg (fun b => some (int b)) (by refine (marks_at h12 hk2 ht (e := 3) (by first | (exfalso; omega) | (rw [hm]; (try rw [hm2]); unfold mErr; (repeat (first | rw [if_pos (by omega)] | rw [if_neg (by omega)])); done)) (by omega)).symm)) rfl trivial (List.nil_sublist _) trivial
   ·intro hg1; have hg1' := hg1; try simp at hg1'
    refine g_no rfl rfl rfl rfl rfl hg1 (g_no rfl rfl rfl rfl rfl hg1 (g_no rfl rfl rfl rfl rfl hg1 ?_)); refine p_t rfl rfl (bt2 hg1) rfl ?_; refine hl_nil (then_n (c_t rfl rfl (hc_seq (hc_region (r_assign rfl rfl (hl_nil (then_n (hc_ret (then_ret (inb_ret (then_ret ?_))))))))))); refine then_ret (inb_ret (then_ret ?_)); exact ret1 () rfl (congrArg (fun b => some (int b)) (by refine (marks_at h12 hk2 ht (e := 8) (by first | (exfalso; omega) | (rw [hm]; (try rw [hm2]); unfold mErr; (repeat (first | rw [if_pos (by omega)] | rw [if_neg (by omega)])); done)) (by omega)).symm)) rfl trivial (List.nil_sublist _) trivial
  ·have hb2' := hb2; try simp at hb2'
   have hk2 : k = l.length := by omega
   refine hc_exit (then_exit (then_exit (inb_hit (then_n (hc_seq (hc_region (r_assign rfl rfl (hl_nil (then_n (hc_ret ?_)))))))))); exact ret1 () rfl (congrArg (fun b => some (int b)) (by rw [marks_all h12 hk2 ht])) rfl trivial (List.nil_sublist _) trivial
theorem proof_checked_meets {A B : Option Addr} {ca cb : Nat} (p : List Str) (l : List Mk) :
    Meets Try.prog F.proof_checked [.slice A p.length ca, .slice B l.length cb] { LI := [Row A (rows p), Row B (rows l)], val := fun _ : Unit => int (checkErr p l) } := by
 refine meets_intro F.proof_checked_f rfl (Nat.le_of_ble_eq_true rfl) fun w0 => ?_; refine hc_seq (hc_region (r_assign rfl rfl (hl_nil (then_n (hc_seq (hc_seq (hc_region (r_move rfl rfl ?_)))))))); refine hl_call F.proof_Check_cb rfl rfl (proof_Check_meets p) (.refl _) ⟨m0, trivial⟩ fun _ _ => ?_; refine r_assign rfl rfl (hl_nil (then_n (hc_seq (hc_region (r_move rfl rfl (r_neq rfl rfl rfl (hl_nil (then_n ?_))))))))
 first | refine c_dec rfl (fun hb1 => ?_) (fun hb1 => ?_) | refine hc_cond rfl (fun hb1 => ?_) (fun hb1 => ?_)
 ·have hb1' := hb1; try simp at hb1'
  refine hc_seq (hc_region (r_move rfl rfl (r_assign rfl rfl (hl_nil (then_n (hc_ret (then_ret ?_))))))); exact ret1 () rfl (congrArg (fun b => some (int b)) (by rw [checkErr, if_neg hb1])) rfl trivial (List.nil_sublist _) trivial
 ·have hb1' := hb1; try simp at hb1'
  have h6 : pageErr p = 0 := by omega
  have hp : p.length ≤ 1000000 := by unfold pageErr at h6; split at h6 <;> omega
  refine hc_skip (then_n (hc_seq (hc_region (r_move rfl rfl (r_move rfl rfl ?_))))); refine hl_call F.proof_marksError_cb rfl rfl (proof_marksError_meets l hp) (.refl _) ⟨m1, trivial⟩ fun _ _ => ?_; refine r_assign rfl rfl (hl_nil (then_n (hc_ret ?_))); exact ret1 () rfl (congrArg (fun b => some (int b)) (by rw [checkErr, if_pos h6])) rfl trivial (List.nil_sublist _) trivial
end Go.Proofs.Ytpbbgbjidhffoaa
end
section
namespace Go.Proofs.Ytpbbgbjidhffoaa
open Go Go.W
set_option maxRecDepth 20000
attribute [local irreducible] HL HC HQ HB Row Rows2 Blk Facts
def pressO (g : Nat) (o : OutC) (lines : List Str) (nx : Int) : Nat × Obj := (g, .cells #[.slice o.1 lines.length o.2, int nx] T.proof_press (0, 0))
def deedL (m : Mk) (lines : List Str) : List Str := if m.1 = 3 then lines else lines ++ [m.2.2]
def deedN (m : Mk) (nx : Int) : Int := if m.1 = 1 then nx else m.2.1 + 1
abbrev GrowS (o : OutC) (l : List Str) (og : Hp) : Prop := Grow T.string 1 o.1 l.length o.2 (rows l) og
def deedCon (g : Nat) (o : OutC) (og : Hp) (lines : List Str) (nx : Int) (m : Mk) : Con (OutC × Hp) :=
  { hpI := pressO g o lines nx :: og, inv := fun x => GrowS x.1 (deedL m lines) x.2, val := fun _ => .tuple #[], hpO := fun x => pressO g x.1 (deedL m lines) (deedN m nx) :: x.2 }
theorem perm_last2 {α : Type} (l : List α) (a b : α) : (l ++ [a, b]).Perm (b :: (l ++ [a])) := by
  have : l ++ [a, b] = (l ++ [a]) ++ [b] := by simp
  rw [this]; exact List.perm_append_comm
theorem perm_last1 {α : Type} (l : List α) (a : α) : (l ++ [a]).Perm (a :: l) := List.perm_append_comm
theorem len_snoc {α : Type} (l : List α) (a : α) : (l ++ [a]).length = l.length + 1 := by simp
theorem proof_deeds_1_meets {g : Nat} {o : OutC} {og : Hp} {lines : List Str} {nx : Int} (m : Mk) (hG : GrowS o lines og) (hl : lines.length ≤ 1000) (hk : m.1 = 1) : Meets Try.prog F.proof_deeds_1 [.pointer (some ⟨g, 0, none⟩), .agg #[int m.1, int m.2.1, str m.2.2]] (deedCon g o og lines nx m) := by
 have eL : deedL m lines = lines ++ [m.2.2] := by simp [deedL, hk]
 have eN : deedN m nx = nx := by simp [deedN, hk]
 unfold deedCon; rw [eL, eN]; unfold pressO GrowS; rw [len_snoc]; refine meets_intro F.proof_deeds_1_f rfl (Nat.le_of_ble_eq_true rfl) fun w0 => ?_; refine hc_seq (hc_region ?_); refine r_box rfl rfl fun gB => ?_; refine hl_nil (then_n ?_); refine hc_drawW (og) ([_, _]) (List.perm_append_comm (l₁ := [_, _])) 9 [8] mixed (by decide) (by decide) (by decide) rfl rfl rfl ?_; refine hb_ex _ rfl rfl rfl (fun w1 => r_move rfl rfl (hl_nil (qe_done rfl))) ?_; refine hb_ex _ rfl rfl rfl (fun w1 => r_move rfl rfl (hl_nil (qe_done rfl))) ?_; refine hb_ex _ rfl rfl rfl (fun w1 => r_nilCheck rfl rfl (hl_nil (qe_done rfl))) ?_
 apply hb_ex _ rfl rfl rfl
 ·intro w1
  first | refine r_fieldAddr ⟨_, 0, none⟩ rfl rfl T.fa_proof_press_0 rfl ?_ | refine r_fieldAddr _ rfl rfl T.fa_proof_press_0 rfl ?_
  refine hl_nil ?_; exact qe_done rfl
 apply hb_ex _ rfl rfl rfl
 ·intro w1
  first | refine r_load rfl T.cell_strs rfl (cell_blk mB rfl) ?_ | refine r_load rfl T.cell_strs rfl (cell_own mB rfl) ?_ | refine r_load rfl T.cell_strs rfl (cell_row mB (rows_get0 (by omega) rfl)) ?_ | refine r_load rfl T.cell_strs rfl (cell_row_f mB (rows_get (by omega) rfl)) ?_
  refine hl_nil ?_; exact qe_done rfl
 apply hb_ex _ rfl rfl rfl
 ·intro w1
  first | refine r_fieldAddr ⟨_, 2, none⟩ rfl rfl T.fa_api_Mark_2 rfl ?_ | refine r_fieldAddr _ rfl rfl T.fa_api_Mark_2 rfl ?_
  refine hl_nil ?_; exact qe_done rfl
 apply hb_ex _ rfl rfl rfl
 ·intro w1
  first | refine r_load rfl T.cell_string rfl (cell_blk mB rfl) ?_ | refine r_load rfl T.cell_string rfl (cell_own mB rfl) ?_ | refine r_load rfl T.cell_string rfl (cell_row mB (rows_get0 (by omega) rfl)) ?_ | refine r_load rfl T.cell_string rfl (cell_row_f mB (rows_get (by omega) rfl)) ?_
  refine hl_nil ?_; exact qe_done rfl
 refine hb_vs ⟨Nat, fun _ => True, fun g1 => .slice (some ⟨g1, 0, none⟩) 1 1, fun g1 => [Row (some ⟨g1, 0, none⟩) (rows [m.2.2])]⟩ rfl rfl rfl ?_ ?_
 ·intro w1; refine r_buildSlice _ rfl rfl (fun _ => T.bs_strs_1 ..) fun gS => ?_; refine hl_nil ?_; refine hq_letgo (rows [m.2.2]) (List.prefix_refl _) ?_; exact qv_done gS trivial rfl ⟨m0, trivial⟩
 refine hb_wr ⟨OutC × Hp, fun x => Grow T.string 1 x.1.1 (lines.length + 1) x.1.2 (rows (lines ++ [m.2.2])) x.2, fun x => .slice x.1.1 (lines.length + 1) x.1.2, fun _ => [], fun x => x.2⟩ rfl rfl rfl ?_ ?_
 ·intro g1 _; intro w1; refine r_append (lines.length + 1) (rows (lines ++ [m.2.2])) T.el_strs rfl rfl rfl hG (hp' := []) (by rw [List.append_nil]) (Src.row (news := rows [m.2.2]) (m := 1) m0 rfl (rows_one _) (by decide)) rfl (rows_append lines [m.2.2]).symm (by unfold maxLen; omega) (by omega) fun A' c' og' hG' => ?_; refine hl_nil ?_; exact qw_done ((A', c'), og') hG' (fun _ => rfl) (List.sublist_append_left _ _) trivial
 refine hb_nil ⟨rfl, ?_⟩; intro g1 _ x hx; refine r_nilCheck rfl rfl ?_
 first | refine r_fieldAddr ⟨_, 0, none⟩ rfl rfl T.fa_proof_press_0 rfl ?_ | refine r_fieldAddr _ rfl rfl T.fa_proof_press_0 rfl ?_
 refine r_store rfl rfl (perm_last2 _ _ _) T.sz_strs (by rfl) (by rfl) ?_; refine hl_nil ?_; exact ret0n x rfl rfl rfl hx ((List.sublist_append_left _ _).cons_cons _) trivial
theorem proof_deeds_2_meets {g : Nat} {o : OutC} {og : Hp} {lines : List Str} {nx : Int} (m : Mk) (hG : GrowS o lines og) (hl : lines.length ≤ 1000) (hk : m.1 = 2) (hat : 0 ≤ m.2.1 ∧ m.2.1 ≤ 1000000) : Meets Try.prog F.proof_deeds_2 [.pointer (some ⟨g, 0, none⟩), .agg #[int m.1, int m.2.1, str m.2.2]] (deedCon g o og lines nx m) := by
 have eL : deedL m lines = lines ++ [m.2.2] := by simp [deedL, hk]
 have eN : deedN m nx = m.2.1 + 1 := by simp [deedN, hk]
 unfold deedCon; rw [eL, eN]; unfold pressO GrowS; rw [len_snoc]; refine meets_intro F.proof_deeds_2_f rfl (Nat.le_of_ble_eq_true rfl) fun w0 => ?_; refine hc_seq (hc_region ?_); refine r_box rfl rfl fun gB => ?_; refine hl_nil (then_n ?_); refine hc_drawW (_ :: og) ([_]) (List.perm_append_comm (l₁ := [_])) 16 [15, 9, 5] mixed (by decide) (by decide) (by decide) rfl rfl rfl ?_; refine hb_ex _ rfl rfl rfl (fun w1 => r_move rfl rfl (hl_nil (qe_done rfl))) ?_; refine hb_ex _ rfl rfl rfl (fun w1 => r_move rfl rfl (hl_nil (qe_done rfl))) ?_; refine hb_ex _ rfl rfl rfl (fun w1 => r_move rfl rfl (hl_nil (qe_done rfl))) ?_; refine hb_ex _ rfl rfl rfl (fun w1 => r_nilCheck rfl rfl (hl_nil (qe_done rfl))) ?_
 apply hb_ex _ rfl rfl rfl
 ·intro w1
  first | refine r_fieldAddr ⟨_, 0, none⟩ rfl rfl T.fa_proof_press_0 rfl ?_ | refine r_fieldAddr _ rfl rfl T.fa_proof_press_0 rfl ?_
  refine hl_nil ?_; exact qe_done rfl
 refine hb_wr ⟨Unit, fun _ => True, fun _ => .slice o.1 lines.length o.2, fun _ => [], fun _ => (g, Obj.cells #[.slice o.1 lines.length o.2, int nx] T.proof_press (0, 0)) :: og⟩ rfl rfl rfl ?_ ?_
 ·intro w1
  first | refine r_load rfl T.cell_strs rfl (cell_own mB rfl) ?_ | refine r_load rfl T.cell_strs rfl (cell_blk mB rfl) ?_ | refine r_load rfl T.cell_strs rfl (cell_row mB (rows_get0 (by omega) rfl)) ?_ | refine r_load rfl T.cell_strs rfl (cell_row_f mB (rows_get (by omega) rfl)) ?_
  refine hl_nil ?_; exact qw_done () trivial (fun _ => rfl) (.refl _) trivial
 apply hb_ex _ rfl rfl rfl
 ·intro w1
  first | refine r_fieldAddr ⟨_, 2, none⟩ rfl rfl T.fa_api_Mark_2 rfl ?_ | refine r_fieldAddr _ rfl rfl T.fa_api_Mark_2 rfl ?_
  refine hl_nil ?_; exact qe_done rfl
 apply hb_ex _ rfl rfl rfl
 ·intro w1
  first | refine r_load rfl T.cell_string rfl (cell_blk mB rfl) ?_ | refine r_load rfl T.cell_string rfl (cell_own mB rfl) ?_ | refine r_load rfl T.cell_string rfl (cell_row mB (rows_get0 (by omega) rfl)) ?_ | refine r_load rfl T.cell_string rfl (cell_row_f mB (rows_get (by omega) rfl)) ?_
  refine hl_nil ?_; exact qe_done rfl
 refine hb_vs ⟨Nat, fun _ => True, fun g1 => .slice (some ⟨g1, 0, none⟩) 1 1, fun g1 => [Row (some ⟨g1, 0, none⟩) (rows [m.2.2])]⟩ rfl rfl rfl ?_ ?_
 ·intro w1; refine r_buildSlice _ rfl rfl (fun _ => T.bs_strs_1 ..) fun gS => ?_; refine hl_nil ?_; refine hq_letgo (rows [m.2.2]) (List.prefix_refl _) ?_; exact qv_done gS trivial rfl ⟨m0, trivial⟩
 refine hb_wr ⟨OutC × Hp, fun x => Grow T.string 1 x.1.1 (lines.length + 1) x.1.2 (rows (lines ++ [m.2.2])) x.2, fun x => .slice x.1.1 (lines.length + 1) x.1.2, fun _ => [], fun x => x.2 ++ [(g, Obj.cells #[.slice o.1 lines.length o.2, int nx] T.proof_press (0, 0))]⟩ rfl rfl rfl ?_ ?_
 ·intro g1 _ _ _; intro w1; refine r_append (lines.length + 1) (rows (lines ++ [m.2.2])) T.el_strs rfl rfl rfl hG (List.perm_append_comm (l₁ := [_])) (Src.row (news := rows [m.2.2]) (m := 1) m0 rfl (rows_one _) (by decide)) rfl (rows_append lines [m.2.2]).symm (by unfold maxLen; omega) (by omega) fun A' c' og' hG' => ?_; refine hl_nil ?_; exact qw_done ((A', c'), og') hG' (fun _ => rfl) (.refl _) trivial
 apply hb_ex _ rfl rfl rfl
 ·intro w1
  first | refine r_fieldAddr ⟨_, 1, none⟩ rfl rfl T.fa_api_Mark_1 rfl ?_ | refine r_fieldAddr _ rfl rfl T.fa_api_Mark_1 rfl ?_
  refine hl_nil ?_; exact qe_done rfl
 apply hb_ex _ rfl rfl rfl
 ·intro w1
  first | refine r_load rfl T.cell_int rfl (cell_blk mB rfl) ?_ | refine r_load rfl T.cell_int rfl (cell_own mB rfl) ?_ | refine r_load rfl T.cell_int rfl (cell_row mB (rows_get0 (by omega) rfl)) ?_ | refine r_load rfl T.cell_int rfl (cell_row_f mB (rows_get (by omega) rfl)) ?_
  refine hl_nil ?_; exact qe_done rfl
 refine hb_ex _ rfl rfl rfl (fun w1 => r_add _ rfl rfl rfl rfl (by unfold I64; omega) (hl_nil (qe_done rfl))) ?_; refine hb_ex _ rfl rfl rfl (fun w1 => r_nilCheck rfl rfl (hl_nil (qe_done rfl))) ?_
 apply hb_ex _ rfl rfl rfl
 ·intro w1
  first | refine r_fieldAddr ⟨_, 0, none⟩ rfl rfl T.fa_proof_press_0 rfl ?_ | refine r_fieldAddr _ rfl rfl T.fa_proof_press_0 rfl ?_
  refine hl_nil ?_; exact qe_done rfl
 refine hb_st ⟨OutC × Hp, fun x => Grow T.string 1 x.1.1 (lines.length + 1) x.1.2 (rows (lines ++ [m.2.2])) x.2, fun x => .tuple #[], fun _ => [], fun x => (g, Obj.cells #[.slice x.1.1 (lines.length + 1) x.1.2, int nx] T.proof_press (0, 0)) :: x.2⟩ rfl rfl ?_ ?_
 ·intro x hx; intro w1; refine r_store rfl rfl (perm_last1 _ _) T.sz_strs (by rfl) (by rfl) ?_; refine hl_nil ?_; exact qw_done x hx (fun h => by cases h) (.refl _) trivial
 refine hb_nil ⟨rfl, ?_⟩; intro _ _ g1 _ x0 hx0 x hx; refine r_nilCheck rfl rfl ?_
 first | refine r_fieldAddr ⟨_, 1, none⟩ rfl rfl T.fa_proof_press_1 rfl ?_ | refine r_fieldAddr _ rfl rfl T.fa_proof_press_1 rfl ?_
 refine r_store rfl rfl (.refl _) T.sz_int (by rfl) (by rfl) ?_; refine hl_nil ?_; exact ret0n x rfl rfl rfl hx ((List.sublist_append_left _ _).cons_cons _) trivial
theorem proof_deeds_3_meets {g : Nat} {o : OutC} {og : Hp} {lines : List Str} {nx : Int} (m : Mk) (hG : GrowS o lines og) (hl : lines.length ≤ 1000) (hk : m.1 = 3) (hat : 0 ≤ m.2.1 ∧ m.2.1 ≤ 1000000) : Meets Try.prog F.proof_deeds_3 [.pointer (some ⟨g, 0, none⟩), .agg #[int m.1, int m.2.1, str m.2.2]] (deedCon g o og lines nx m) := by
 have eL : deedL m lines = lines := by simp [deedL, hk]
 have eN : deedN m nx = m.2.1 + 1 := by simp [deedN, hk]
 unfold deedCon; rw [eL, eN]; unfold pressO; refine meets_intro F.proof_deeds_3_f rfl (Nat.le_of_ble_eq_true rfl) fun w0 => ?_; refine hc_seq (hc_region ?_); refine r_box rfl rfl fun gB => ?_; refine hl_nil (then_n (hc_region (r_move rfl rfl ?_)))
 first | refine r_fieldAddr ⟨_, 1, none⟩ rfl rfl T.fa_api_Mark_1 rfl ?_ | refine r_fieldAddr _ rfl rfl T.fa_api_Mark_1 rfl ?_
 first | refine r_load rfl T.cell_int rfl (cell_own mB rfl) ?_ | refine r_load rfl T.cell_int rfl (cell_blk mB rfl) ?_ | refine r_load rfl T.cell_int rfl (cell_row mB (rows_get0 (by omega) rfl)) ?_ | refine r_load rfl T.cell_int rfl (cell_row_f mB (rows_get (by omega) rfl)) ?_
 refine r_add _ rfl rfl rfl rfl (by unfold I64; omega) ?_; refine r_nilCheck rfl rfl ?_
 first | refine r_fieldAddr ⟨_, 1, none⟩ rfl rfl T.fa_proof_press_1 rfl ?_ | refine r_fieldAddr _ rfl rfl T.fa_proof_press_1 rfl ?_
 refine r_store rfl rfl (.swap _ _ _) T.sz_int (by rfl) (by rfl) ?_; refine hl_nil ?_; exact ret0n (o, og) rfl rfl rfl hG ((List.sublist_cons_self _ _).cons_cons _) trivial
def fnV (f : Nat) : Value := .func (.func f) #[] #[]
def deedsL : List (Ment Int) := [(1, fnV F.proof_deeds_1, 0), (2, fnV F.proof_deeds_2, 1), (3, fnV F.proof_deeds_3, 2)]
abbrev K3 : KeyC Try.prog T.int int := KeyC.int T.u_int
theorem proof_deeds_meets : Meets Try.prog F.proof_deeds [] { val := fun g : Nat => .map (some g), hpO := fun g => [(g, mapO int deedsL 3)] } := by
 refine meets_intro F.proof_deeds_f rfl (Nat.le_of_ble_eq_true rfl) fun w0 => ?_; refine hc_seq (hc_region (r_assign rfl rfl (hl_nil (then_n (hc_seq (hc_region ?_)))))); refine r_makeMapM int rfl fun gM => ?_; refine r_insert (k := 1) K3 (.inr rfl) T.u_map_int_func_P_proof_press_api_Mark rfl rfl rfl (.refl _) ?_; refine r_insert (k := 2) K3 (.inr rfl) T.u_map_int_func_P_proof_press_api_Mark rfl rfl rfl (.refl _) ?_; refine r_insert (k := 3) K3 (.inr rfl) T.u_map_int_func_P_proof_press_api_Mark rfl rfl rfl (.refl _) ?_; refine r_move rfl rfl (r_assign rfl rfl (hl_nil (then_n (hc_ret ?_)))); exact ret1 gM rfl rfl rfl trivial (.refl _) trivial
def deedV (k : Int) : Value := if k = 1 then fnV F.proof_deeds_1 else if k = 2 then fnV F.proof_deeds_2 else fnV F.proof_deeds_3
theorem deed_get {k : Int} (h : 1 ≤ k ∧ k ≤ 3) : getM deedsL k = some (deedV k) := by
  have : k = 1 ∨ k = 2 ∨ k = 3 := by omega
  rcases this with rfl | rfl | rfl <;> rfl
theorem hl_deed {n : Nat} {b : Bx} {Q : Exit → Act → World → Prop} {fr : Fr} {hp hpR : Hp} {L : List Fact} {ops : Array Oper} {rest : List Oper} {d : Tmp} {ty : TypeId} {pos : String} {af : Array Edge} {x : Operand} {args : Array Operand} {ats : Array TypeId}
    {g : Nat} {o : OutC} {og : Hp} {lines : List Str} {nx : Int} {m : Mk} (hd : Nat.blt d n = true) (hf : ev fr x = some (deedV m.1)) (hx : args.toList.mapM (ev fr) = some [.pointer (some ⟨g, 0, none⟩), .agg #[int m.1, int m.2.1, str m.2.2]])
    (hk : 1 ≤ m.1 ∧ m.1 ≤ 3) (hat : 0 ≤ m.2.1 ∧ m.2.1 ≤ 1000000) (hG : GrowS o lines og) (hl : lines.length ≤ 1000) (h1 : hp.Perm ((pressO g o lines nx :: og) ++ hpR))
    (kk : ∀ y : OutC × Hp, GrowS y.1 (deedL m lines) y.2 → HL ⟨Try.prog, n, b, [], none⟩ ops Q rest ((d, .tuple #[]) :: fr) ((pressO g y.1 (deedL m lines) (deedN m nx) :: y.2) ++ hpR) L) :
    HL ⟨Try.prog, n, b, [], none⟩ ops Q (⟨some d, .call ⟨.value x, args, ats⟩, ty, pos, af, none⟩ :: rest) fr hp L := by
  have : m.1 = 1 ∨ m.1 = 2 ∨ m.1 = 3 := by omega
  rcases this with h | h | h
  · exact hl_callv (cap := []) F.proof_deeds_1_cb hd (by rw [hf, h]; rfl) hx (proof_deeds_1_meets m hG hl h) h1 trivial (fun y hy => kk y hy)
  · exact hl_callv (cap := []) F.proof_deeds_2_cb hd (by rw [hf, h]; rfl) hx (proof_deeds_2_meets m hG hl h hat) h1 trivial (fun y hy => kk y hy)
  · exact hl_callv (cap := []) F.proof_deeds_3_cb hd (by rw [hf, h]; rfl) hx (proof_deeds_3_meets m hG hl h hat) h1 trivial (fun y hy => kk y hy)
def stepP (p : List Str) (st : List Str × Nat) (m : Mk) : List Str × Nat :=
  (deedL m (st.1 ++ (p.take (max st.2 m.2.1.toNat)).drop st.2), (deedN m (max st.2 m.2.1.toNat : Nat)).toNat)
def madeP (p : List Str) (l : List Mk) : List Str := (l.foldl (stepP p) ([], 0)).1 ++ p.drop (l.foldl (stepP p) ([], 0)).2
def MV (n : Nat) (l : List Mk) : Prop := ∀ m ∈ l, 1 ≤ m.1 ∧ m.1 ≤ 3 ∧ 0 ≤ m.2.1 ∧ m.2.1 ≤ n ∧ (m.1 = 1 ∨ m.2.1 < n)
theorem firstErr_zero {α : Type} {f : α → Int} : ∀ {l : List α}, firstErr f l = 0 → ∀ a ∈ l, f a = 0
  | [], _, a, h => by simp at h
  | b :: l, h, a, ha => by
    rw [firstErr] at h
    split at h
    · rename_i h0
      rcases List.mem_cons.1 ha with rfl | ha
      · exact h0
      · exact firstErr_zero h a ha
    · rename_i h0; exact absurd h h0
theorem marks_valid {n : Nat} {l : List Mk} (h : marksErr n l = 0) : l.length ≤ 12 ∧ MV n l := by
  unfold marksErr at h
  split at h
  · omega
  · rename_i h12
    refine ⟨by omega, fun m hm => ?_⟩; obtain ⟨i, hi, rfl⟩ := List.getElem_of_mem hm; have := firstErr_zero h i (by simpa using hi); unfold markErr mErr at this; rw [getD_at hi] at this; generalize l[i] = m at *
    split at this
    · omega
    · split at this
      · omega
      · rename_i h1 h2
        by_cases hk : m.1 = 1
        · simp only [hk, if_true] at h2; omega
        · simp only [hk, if_false] at h2; omega
theorem stepP_le {p : List Str} {st : List Str × Nat} {m : Mk} {k : Nat} (hp6 : p.length ≤ 6) (h1 : st.2 ≤ p.length) (h2 : st.1.length ≤ 7 * k) (hm : 1 ≤ m.1 ∧ m.1 ≤ 3 ∧ 0 ≤ m.2.1 ∧ m.2.1 ≤ p.length ∧ (m.1 = 1 ∨ m.2.1 < p.length)) : (stepP p st m).2 ≤ p.length ∧ (stepP p st m).1.length ≤ 7 * (k + 1) := by
  obtain ⟨ls, nx⟩ := st; simp only at h1 h2; unfold stepP deedL deedN; have h3 : ((p.take (max nx m.2.1.toNat)).drop nx).length ≤ 6 := by rw [List.length_drop, List.length_take]; omega
  by_cases k1 : m.1 = 1
  · simp only [k1, if_true]
    rw [if_neg (by decide)]; rw [List.length_append, List.length_append]; simp only [List.length_cons, List.length_nil, Int.toNat_natCast]; omega
  · by_cases k3 : m.1 = 3
    · simp only [k3, if_true]
      rw [if_neg (by decide), List.length_append]
      omega
    · simp only [k1, k3, if_false]
      rw [List.length_append, List.length_append]; simp only [List.length_cons, List.length_nil]; omega
theorem getD_mem {α : Type} [Inhabited α] {l : List α} {k : Nat} (h : k < l.length) : l.getD k default ∈ l := by rw [getD_at h]; exact List.getElem_mem h
theorem proof_made_meets {A B : Option Addr} {ca cb : Nat} (p : List Str) (l : List Mk) (hp6 : p.length ≤ 6) (hl : l.length ≤ 12) (hV : MV p.length l) (hc : p.length ≤ ca) :
    Meets Try.prog F.proof_made [.slice A p.length ca, .slice B l.length cb] { outSl (madeP p l) with LI := [Row A (rows p), Row B (rows l)] } := by
 refine meets_intro F.proof_made_f rfl (Nat.le_of_ble_eq_true rfl) fun w0 => ?_; refine hc_seq (hc_region (r_assign rfl rfl (hl_nil (then_n (hc_seq (hc_region ?_)))))); refine r_build _ rfl rfl (fun _ => T.bd_proof_press_ ..) ?_; refine r_box rfl rfl fun gB => ?_; refine r_assign rfl rfl (hl_nil (then_n (hc_seq (hc_region ?_)))); refine hl_call F.proof_deeds_cb rfl rfl (proof_deeds_meets) (List.Perm.refl _) trivial fun gM _ => ?_; refine r_assign rfl rfl (hl_nil (then_n (hc_seq (hc_seq ?_)))); refine hc_perm (.swap _ _ _) ?_; refine hc_region (r_move rfl rfl ?_); refine r_len_sl rfl T.u_L_api_Mark rfl ?_; refine r_move rfl rfl (hl_nil (then_n (hc_block ?_)))
 refine hc_loop (β := Nat × OutC × Hp × List Str × Nat) ⟨fun ⟨k, o, og, ls, nx⟩ => k ≤ l.length ∧ (l.take k).foldl (stepP p) ([], 0) = (ls, nx) ∧ GrowS o ls og ∧ nx ≤ p.length ∧ ls.length ≤ 7 * k,
   fun ⟨k, o, og, ls, nx⟩ => [(0, .slice A p.length ca), (5, .pointer (some ⟨gB, 0, none⟩)), (6, .map (some gM)), (12, .slice B l.length cb), (13, int l.length), (14, int k)], fun ⟨k, o, og, ls, nx⟩ => pressO gB o ls nx :: (og ++ [(gM, mapO int deedsL 3)]), fun _ => [Row A (rows p), Row B (rows l)]⟩
   (fun x => l.length - x.1) (0, (none, 0), [], [], 0) ⟨Nat.zero_le _, rfl, Grow.nil _ _, Nat.zero_le _, Nat.le_refl _⟩ ⟨rfl, rfl, rfl, rfl, rfl, rfl, trivial⟩ (.refl _) ⟨m0, m1, trivial⟩ fun x hx => ?_
 obtain ⟨k, o, og, ls, nx⟩ := x; obtain ⟨hk, hst, hG, hn, hlen⟩ := hx; refine hc_seq (hc_region (r_lss rfl rfl rfl (hl_nil (then_n (hc_seq ?_)))))
 first | refine c_dec rfl (fun hb1 => ?_) (fun hb1 => ?_) | refine hc_cond rfl (fun hb1 => ?_) (fun hb1 => ?_)
 ·have hb1' := hb1; try simp at hb1'
  have hk2 : k < l.length := by omega
  refine hc_skip (then_n (hc_seq (hc_block (hc_seq (hc_region ?_))))); refine r_elem (α := Mk) _ _ rfl T.u_L_api_Mark T.sz_api_Mark rfl rfl rfl mB rfl (by omega) (by decide) ?_; refine r_loadS rfl T.row_api_Mark T.sz_api_Mark rfl rfl (cells_row mB (rows_all (by omega))) ?_; refine r_alloc rfl (fun _ => T.al_api_Mark _) fun gA => ?_; refine r_storeS rfl rfl (by first | exact .refl _ | exact perm2 _ _ _ | exact perm3 _ _ _ _ | exact perm4 _ _ _ _ _) T.sz_api_Mark (by rfl) (by rfl) ?_; refine hl_nil (then_n (hc_seq ?_)); have hVm := hV _ (getD_mem hk2); have hst2 : (l.take (k + 1)).foldl (stepP p) ([], 0) = stepP p (ls, nx) (l.getD k default) := by rw [take_succ_getD l k hk2, List.foldl_append, hst]; rfl
  have hnext := stepP_le (st := (ls, nx)) (k := k) hp6 hn hlen hVm; generalize hm : l.getD k default = m at *; obtain ⟨kd, at0, t⟩ := m; simp only at hVm; obtain ⟨at1, rfl⟩ := Int.eq_ofNat_of_zero_le hVm.2.2.1; refine hc_perm (pm1 _ _ _ _) ?_; refine hc_drawW (og) ([_, _, _]) (.refl _) 19 [18] mixed (by decide) (by decide) (by decide) rfl rfl rfl ?_; refine hb_ex _ rfl rfl rfl (fun w1 => r_move rfl rfl (hl_nil (qe_done rfl))) ?_; refine hb_ex _ rfl rfl rfl (fun w1 => r_move rfl rfl (hl_nil (qe_done rfl))) ?_; refine hb_ex _ rfl rfl rfl (fun w1 => r_nilCheck rfl rfl (hl_nil (qe_done rfl))) ?_
  apply hb_ex _ rfl rfl rfl
  ·intro w1
   first | refine r_fieldAddr ⟨_, 0, none⟩ rfl rfl T.fa_proof_press_0 rfl ?_ | refine r_fieldAddr _ rfl rfl T.fa_proof_press_0 rfl ?_
   refine hl_nil ?_; exact qe_done rfl
  apply hb_ex _ rfl rfl rfl
  ·intro w1
   first | refine r_load rfl T.cell_strs rfl (cell_blk mB rfl) ?_ | refine r_load rfl T.cell_strs rfl (cell_own mB rfl) ?_ | refine r_load rfl T.cell_strs rfl (cell_row mB (rows_get0 (by omega) rfl)) ?_ | refine r_load rfl T.cell_strs rfl (cell_row_f mB (rows_get (by omega) rfl)) ?_
   refine hl_nil ?_; exact qe_done rfl
  refine hb_ex _ rfl rfl rfl (fun w1 => r_move rfl rfl (hl_nil (qe_done rfl))) ?_; refine hb_ex _ rfl rfl rfl (fun w1 => r_move rfl rfl (hl_nil (qe_done rfl))) ?_; refine hb_ex _ rfl rfl rfl (fun w1 => r_nilCheck rfl rfl (hl_nil (qe_done rfl))) ?_
  apply hb_ex _ rfl rfl rfl
  ·intro w1
   first | refine r_fieldAddr ⟨_, 1, none⟩ rfl rfl T.fa_proof_press_1 rfl ?_ | refine r_fieldAddr _ rfl rfl T.fa_proof_press_1 rfl ?_
   refine hl_nil ?_; exact qe_done rfl
  apply hb_ex _ rfl rfl rfl
  ·intro w1
   first | refine r_load rfl T.cell_int rfl (cell_blk mB rfl) ?_ | refine r_load rfl T.cell_int rfl (cell_own mB rfl) ?_ | refine r_load rfl T.cell_int rfl (cell_row mB (rows_get0 (by omega) rfl)) ?_ | refine r_load rfl T.cell_int rfl (cell_row_f mB (rows_get (by omega) rfl)) ?_
   refine hl_nil ?_; exact qe_done rfl
  refine hb_ex _ rfl rfl rfl (fun w1 => r_move rfl rfl (hl_nil (qe_done rfl))) ?_; refine hb_ex _ rfl rfl rfl (fun w1 => r_nilCheck rfl rfl (hl_nil (qe_done rfl))) ?_
  apply hb_ex _ rfl rfl rfl
  ·intro w1
   first | refine r_fieldAddr ⟨_, 1, none⟩ rfl rfl T.fa_proof_press_1 rfl ?_ | refine r_fieldAddr _ rfl rfl T.fa_proof_press_1 rfl ?_
   refine hl_nil ?_; exact qe_done rfl
  apply hb_ex _ rfl rfl rfl
  ·intro w1
   first | refine r_load rfl T.cell_int rfl (cell_blk mB rfl) ?_ | refine r_load rfl T.cell_int rfl (cell_own mB rfl) ?_ | refine r_load rfl T.cell_int rfl (cell_row mB (rows_get0 (by omega) rfl)) ?_ | refine r_load rfl T.cell_int rfl (cell_row_f mB (rows_get (by omega) rfl)) ?_
   refine hl_nil ?_; exact qe_done rfl
  apply hb_ex _ rfl rfl rfl
  ·intro w1
   first | refine r_fieldAddr ⟨_, 1, none⟩ rfl rfl T.fa_api_Mark_1 rfl ?_ | refine r_fieldAddr _ rfl rfl T.fa_api_Mark_1 rfl ?_
   refine hl_nil ?_; exact qe_done rfl
  apply hb_ex _ rfl rfl rfl
  ·intro w1
   first | refine r_load rfl T.cell_int rfl (cell_blk mB rfl) ?_ | refine r_load rfl T.cell_int rfl (cell_own mB rfl) ?_ | refine r_load rfl T.cell_int rfl (cell_row mB (rows_get0 (by omega) rfl)) ?_ | refine r_load rfl T.cell_int rfl (cell_row_f mB (rows_get (by omega) rfl)) ?_
   refine hl_nil ?_; exact qe_done rfl
  refine hb_ex _ rfl rfl rfl (fun w1 => r_max ((max nx at1 : Nat) : Int) rfl rfl rfl (by simp only; split <;> omega) (hl_nil (qe_done rfl))) ?_; refine hb_ex _ rfl rfl rfl (fun w1 => r_slice_lh nx (max nx at1) rfl T.u_strs T.sz_string rfl rfl rfl rfl rfl (Nat.le_max_left _ _) (by omega) (hl_nil (qe_done rfl))) ?_; refine hb_wr ⟨OutC × Hp, fun x => GrowS x.1 (ls ++ (p.take (max nx at1)).drop nx) x.2, fun x => .slice x.1.1 (ls ++ (p.take (max nx at1)).drop nx).length x.1.2, fun _ => [], fun x => x.2⟩ rfl rfl rfl ?_ ?_
  ·intro w1; refine hl_cut (p := p) (ca := ca) nx (max nx at1) m0 hc ?_; refine r_append (ls ++ (p.take (max nx at1)).drop nx).length (rows (ls ++ (p.take (max nx at1)).drop nx)) T.el_strs rfl rfl rfl hG (hp' := []) (by rw [List.append_nil]) (Src.row (news := rows ((p.take (max nx at1)).drop nx)) m0 (by rw [rows_len, List.length_drop, List.length_take, Nat.min_eq_left (by omega)]; rfl) (rows_one _) (by decide)) (by rw [List.length_append, List.length_drop, List.length_take]; omega) (rows_append _ _).symm (by unfold maxLen; rw [List.length_append, List.length_drop, List.length_take]; omega) (by rw [List.length_append, List.length_drop, List.length_take]; omega) fun A' c' og' hG' => ?_; refine hl_nil ?_; exact qw_done ((A', c'), og') hG' (fun _ => rfl) (List.sublist_append_left _ _) trivial
  refine hb_nil ⟨rfl, ?_⟩; intro x hx; obtain ⟨o1, og1⟩ := x; have hG1 : GrowS o1 (ls ++ (p.take (max nx at1)).drop nx) og1 := hx; generalize hl1 : ls ++ (p.take (max nx at1)).drop nx = l1 at *; refine r_nilCheck rfl rfl ?_
  first | refine r_fieldAddr ⟨_, 0, none⟩ rfl rfl T.fa_proof_press_0 rfl ?_ | refine r_fieldAddr _ rfl rfl T.fa_proof_press_0 rfl ?_
  refine r_store rfl rfl (pm2 _ _ _ _) T.sz_strs (by rfl) (by rfl) ?_; refine hl_nil (then_n (hc_seq ?_)); refine hc_perm (pm3 _ _ _ _) ?_; refine hc_drawW (og1) ([_, _, _]) (.refl _) 8 [] mixed (by decide) (by decide) (by decide) rfl rfl rfl ?_; refine hb_ex _ rfl rfl rfl (fun w1 => r_move rfl rfl (hl_nil (qe_done rfl))) ?_; refine hb_ex _ rfl rfl rfl (fun w1 => r_move rfl rfl (hl_nil (qe_done rfl))) ?_; refine hb_ex _ rfl rfl rfl (fun w1 => r_nilCheck rfl rfl (hl_nil (qe_done rfl))) ?_
  apply hb_ex _ rfl rfl rfl
  ·intro w1
   first | refine r_fieldAddr ⟨_, 1, none⟩ rfl rfl T.fa_proof_press_1 rfl ?_ | refine r_fieldAddr _ rfl rfl T.fa_proof_press_1 rfl ?_
   refine hl_nil ?_; exact qe_done rfl
  apply hb_ex _ rfl rfl rfl
  ·intro w1
   first | refine r_load rfl T.cell_int rfl (cell_blk mB rfl) ?_ | refine r_load rfl T.cell_int rfl (cell_own mB rfl) ?_ | refine r_load rfl T.cell_int rfl (cell_row mB (rows_get0 (by omega) rfl)) ?_ | refine r_load rfl T.cell_int rfl (cell_row_f mB (rows_get (by omega) rfl)) ?_
   refine hl_nil ?_; exact qe_done rfl
  apply hb_ex _ rfl rfl rfl
  ·intro w1
   first | refine r_fieldAddr ⟨_, 1, none⟩ rfl rfl T.fa_api_Mark_1 rfl ?_ | refine r_fieldAddr _ rfl rfl T.fa_api_Mark_1 rfl ?_
   refine hl_nil ?_; exact qe_done rfl
  apply hb_ex _ rfl rfl rfl
  ·intro w1
   first | refine r_load rfl T.cell_int rfl (cell_blk mB rfl) ?_ | refine r_load rfl T.cell_int rfl (cell_own mB rfl) ?_ | refine r_load rfl T.cell_int rfl (cell_row mB (rows_get0 (by omega) rfl)) ?_ | refine r_load rfl T.cell_int rfl (cell_row_f mB (rows_get (by omega) rfl)) ?_
   refine hl_nil ?_; exact qe_done rfl
  refine hb_ex _ rfl rfl rfl (fun w1 => r_max ((max nx at1 : Nat) : Int) rfl rfl rfl (by simp only; split <;> omega) (hl_nil (qe_done rfl))) ?_; refine hb_nil ⟨rfl, ?_⟩; refine r_nilCheck rfl rfl ?_
  first | refine r_fieldAddr ⟨_, 1, none⟩ rfl rfl T.fa_proof_press_1 rfl ?_ | refine r_fieldAddr _ rfl rfl T.fa_proof_press_1 rfl ?_
  refine r_store rfl rfl (pm4 _ _ _ _) T.sz_int (by rfl) (by rfl) ?_; refine hl_nil (then_n ?_); refine hc_perm (pm5 _ _ _ _) ?_; refine hc_region (r_move rfl rfl ?_)
  first | refine r_fieldAddr ⟨_, 0, none⟩ rfl rfl T.fa_api_Mark_0 rfl ?_ | refine r_fieldAddr _ rfl rfl T.fa_api_Mark_0 rfl ?_
  first | refine r_load rfl T.cell_int rfl (cell_own mB rfl) ?_ | refine r_load rfl T.cell_int rfl (cell_blk mB rfl) ?_ | refine r_load rfl T.cell_int rfl (cell_row mB (rows_get0 (by omega) rfl)) ?_ | refine r_load rfl T.cell_int rfl (cell_row_f mB (rows_get (by omega) rfl)) ?_
  refine r_look (k := kd) K3 rfl T.u_map_int_func_P_proof_press_api_Mark rfl rfl (map_own m1) (deed_get ⟨hVm.1, hVm.2.1⟩) ?_; refine r_move rfl rfl ?_
  first | refine r_loadA rfl T.row_api_Mark T.sz_api_Mark rfl mB (by rfl) ?_ | refine r_loadB rfl T.row_api_Mark T.sz_api_Mark rfl mB (by rfl) ?_ | refine r_loadS rfl T.row_api_Mark T.sz_api_Mark rfl rfl (cells_row mB (rows_all (by omega))) ?_
  have hl1n : l1.length ≤ 1000 := by rw [← hl1, List.length_append, List.length_drop, List.length_take]; omega
  refine hl_deed (m := (kd, (at1 : Int), t)) (o := o1) (og := og1) (lines := l1) (nx := (max nx at1 : Nat)) rfl rfl rfl ⟨hVm.1, hVm.2.1⟩ ⟨by simp only; omega, by simp only; omega⟩ hG1 hl1n (pm6 _ _ _ _) fun y hy => ?_; refine hl_nil (inb_n (then_n (hc_region ?_))); refine r_add _ rfl rfl rfl rfl (by unfold I64; omega) ?_; refine r_move rfl rfl (hl_nil ?_); have hs : stepP p (ls, nx) (kd, (at1 : Int), t) = (deedL (kd, (at1 : Int), t) l1, (deedN (kd, (at1 : Int), t) (max nx at1 : Nat)).toNat) := by rw [← hl1]; rfl
  rw [hs] at hst2 hnext; have hN : (((deedN (kd, (at1 : Int), t) (max nx at1 : Nat)).toNat : Nat) : Int) = deedN (kd, (at1 : Int), t) (max nx at1 : Nat) := Int.toNat_of_nonneg (by unfold deedN; simp only; split <;> omega); refine again _ (k + 1, y.1, y.2, deedL (kd, (at1 : Int), t) l1, (deedN (kd, (at1 : Int), t) (max nx at1 : Nat)).toNat) ?_ ?_ ?_ ?_ ?_
  · exact ⟨by omega, hst2, hy, hnext.1, hnext.2⟩
  · show l.length - (k + 1) < l.length - k
    omega
  · exact ⟨rfl, rfl, rfl, rfl, rfl, rfl, trivial⟩
  · show (pressO gB y.1 _ (((deedN (kd, (at1 : Int), t) (max nx at1 : Nat)).toNat : Nat) : Int) :: (y.2 ++ [_])).Sublist _
    rw [hN]; exact ((List.Sublist.refl _).append (.cons _ (.refl _))).cons_cons _
  · exact ⟨m0, m1, trivial⟩
 ·have hb1' := hb1; try simp at hb1'
  have hk2 : k = l.length := by omega
  refine hc_exit (then_exit (then_exit (inb_hit (then_n (hc_seq ?_))))); refine hc_draw 10 mixed (by decide) (by decide) rfl rfl ?_; refine hb_ex _ rfl rfl rfl (fun w1 => r_move rfl rfl (hl_nil (qe_done rfl))) ?_; refine hb_ex _ rfl rfl rfl (fun w1 => r_nilCheck rfl rfl (hl_nil (qe_done rfl))) ?_
  apply hb_ex _ rfl rfl rfl
  ·intro w1
   first | refine r_fieldAddr ⟨_, 0, none⟩ rfl rfl T.fa_proof_press_0 rfl ?_ | refine r_fieldAddr _ rfl rfl T.fa_proof_press_0 rfl ?_
   refine hl_nil ?_; exact qe_done rfl
  apply hb_ex _ rfl rfl rfl
  ·intro w1
   first | refine r_load rfl T.cell_strs rfl (cell_blk mB rfl) ?_ | refine r_load rfl T.cell_strs rfl (cell_own mB rfl) ?_ | refine r_load rfl T.cell_strs rfl (cell_row mB (rows_get0 (by omega) rfl)) ?_ | refine r_load rfl T.cell_strs rfl (cell_row_f mB (rows_get (by omega) rfl)) ?_
   refine hl_nil ?_; exact qe_done rfl
  refine hb_ex _ rfl rfl rfl (fun w1 => r_move rfl rfl (hl_nil (qe_done rfl))) ?_; refine hb_ex _ rfl rfl rfl (fun w1 => r_move rfl rfl (hl_nil (qe_done rfl))) ?_; refine hb_ex _ rfl rfl rfl (fun w1 => r_nilCheck rfl rfl (hl_nil (qe_done rfl))) ?_
  apply hb_ex _ rfl rfl rfl
  ·intro w1
   first | refine r_fieldAddr ⟨_, 1, none⟩ rfl rfl T.fa_proof_press_1 rfl ?_ | refine r_fieldAddr _ rfl rfl T.fa_proof_press_1 rfl ?_
   refine hl_nil ?_; exact qe_done rfl
  apply hb_ex _ rfl rfl rfl
  ·intro w1
   first | refine r_load rfl T.cell_int rfl (cell_blk mB rfl) ?_ | refine r_load rfl T.cell_int rfl (cell_own mB rfl) ?_ | refine r_load rfl T.cell_int rfl (cell_row mB (rows_get0 (by omega) rfl)) ?_ | refine r_load rfl T.cell_int rfl (cell_row_f mB (rows_get (by omega) rfl)) ?_
   refine hl_nil ?_; exact qe_done rfl
  refine hb_ex _ rfl rfl rfl (fun w1 => r_slice_lo nx rfl T.u_strs T.sz_string rfl rfl rfl hn (hl_nil (qe_done rfl))) ?_; refine hb_nil ⟨rfl, ?_⟩; refine hl_cut (p := p) (ca := ca) nx p.length m0 hc ?_; rw [List.take_length]; refine r_append (ls ++ p.drop nx).length (rows (ls ++ p.drop nx)) T.el_strs rfl rfl rfl hG (pm7 _ _ _) (Src.row (news := rows (p.drop nx)) m0 (by rw [rows_len, List.length_drop]; rfl) (rows_one _) (by decide)) (by rw [List.length_append, List.length_drop]) (rows_append _ _).symm (by unfold maxLen; rw [List.length_append, List.length_drop]; omega) (by rw [List.length_append, List.length_drop]; omega) fun A' c' og' hG' => ?_; refine r_assign rfl rfl (hl_nil (then_n (hc_ret ?_))); subst hk2; rw [List.take_length] at hst; have e : madeP p l = ls ++ p.drop nx := by unfold madeP; rw [hst]
  rw [e]; refine hq_grown hG' ?_; exact ret1 (A', c') rfl rfl rfl hG'.le (List.nil_sublist _) ⟨m0, trivial⟩
end Go.Proofs.Ytpbbgbjidhffoaa
end
section
namespace Go.Proofs.Ytpbbgbjidhffoaa
open Go Go.W
set_option maxRecDepth 20000
attribute [local irreducible] HL HC HQ HB Row Rows2 Blk Facts
def inR (i : Nat) (st : List Str × Str × Bool) (m : Mk) : List Str × Str × Bool :=
  if ¬ m.2.1 = (i : Int) then st else if m.1 = 1 then (st.1 ++ [m.2.2], st.2) else if m.1 = 2 then (st.1, m.2.2, st.2.2) else (st.1, st.2.1, false)
def lineR (p : List Str) (i : Nat) : Str := if i < p.length then p.getD i default else []
def outR (p : List Str) (l : List Mk) (out : List Str) (i : Nat) : List Str :=
  if (l.foldl (inR i) (out, lineR p i, decide (i < p.length))).2.2 = true then (l.foldl (inR i) (out, lineR p i, decide (i < p.length))).1 ++ [(l.foldl (inR i) (out, lineR p i, decide (i < p.length))).2.1]
  else (l.foldl (inR i) (out, lineR p i, decide (i < p.length))).1
def madeR (p : List Str) (l : List Mk) : List Str := (List.range (p.length + 1)).foldl (outR p l) []
def applyP (p : List Str) (l : List Mk) : List Str × Int := if ¬ checkErr p l = 0 then ([], checkErr p l) else if 6 < (madeP p l).length then ([], 6) else (madeP p l, 0)
def applyR (p : List Str) (l : List Mk) : List Str × Int := if ¬ checkErr p l = 0 then ([], checkErr p l) else if 6 < (madeR p l).length then ([], 6) else (madeR p l, 0)
def outErr {α : Type} [El α] (r : List α × Int) : Con OutC := { inv := fun x => r.1.length ≤ x.2, val := fun x => .tuple #[.slice x.1 r.1.length x.2, int r.2], LO := fun x => [Row x.1 (rows r.1)] }
theorem checkErr_zero {p : List Str} {l : List Mk} (h : checkErr p l = 0) : p.length ≤ 6 ∧ l.length ≤ 12 ∧ MV p.length l := by
  unfold checkErr at h
  split at h
  · rename_i h1
    refine ⟨?_, marks_valid h⟩; unfold pageErr at h1
    split at h1 <;> omega
  · rename_i h1; exact absurd h h1
def costM (l : List Mk) : Nat := (l.filter fun m => decide (¬ m.1 = 3)).length
def costR (p : List Str) (l : List Mk) : Int × Int := if ¬ checkErr p l = 0 then (0, checkErr p l) else (costM l, 0)
theorem proof_Apply_meets {A B : Option Addr} {ca cb : Nat} (p : List Str) (l : List Mk) (hc : p.length ≤ ca) :
    Meets Try.prog F.proof_Apply [.slice A p.length ca, .slice B l.length cb] { outErr (applyP p l) with LI := [Row A (rows p), Row B (rows l)] } := by
 refine meets_intro F.proof_Apply_f rfl (Nat.le_of_ble_eq_true rfl) fun w0 => ?_; refine hc_seq (hc_region (r_assign rfl rfl (r_assign rfl rfl (hl_nil (then_n (hc_seq (hc_seq (hc_region (r_move rfl rfl (r_move rfl rfl ?_)))))))))); refine hl_call F.proof_checked_cb rfl rfl (proof_checked_meets p l) (.refl _) ⟨m0, m1, trivial⟩ fun _ _ => ?_; refine r_assign rfl rfl (hl_nil (then_n (hc_seq (hc_region (r_move rfl rfl (r_neq rfl rfl rfl (hl_nil (then_n ?_))))))))
 first | refine c_dec rfl (fun hb1 => ?_) (fun hb1 => ?_) | refine hc_cond rfl (fun hb1 => ?_) (fun hb1 => ?_)
 ·have hb1' := hb1; try simp at hb1'
  have e : applyP p l = ([], checkErr p l) := by rw [applyP, if_pos hb1]
  rw [e]; refine hc_seq (hc_region (r_move rfl rfl (r_assign rfl rfl (r_assign rfl rfl (hl_nil (then_n (hc_ret (then_ret (hq_nil0 ?_))))))))); exact ret2 (none, 0) rfl rfl rfl rfl rfl (Nat.le_refl _) (.refl _) ⟨m0, trivial⟩
 ·have hb1' := hb1; try simp at hb1'
  have h0 : checkErr p l = 0 := by omega
  obtain ⟨hp6, hl, hV⟩ := checkErr_zero h0; refine hc_skip (then_n (hc_seq (hc_region (r_move rfl rfl (r_move rfl rfl ?_))))); refine hl_call F.proof_made_cb rfl rfl (proof_made_meets p l hp6 hl hV hc) (.refl _) ⟨m0, m1, trivial⟩ fun x hx => ?_; refine r_assign rfl rfl (hl_nil (then_n (hc_seq (hc_seq (hc_region (r_move rfl rfl ?_)))))); refine r_len_sl rfl T.u_strs rfl ?_; refine r_gtr rfl rfl rfl (hl_nil (then_n ?_))
  first | refine c_dec rfl (fun hb2 => ?_) (fun hb2 => ?_) | refine hc_cond rfl (fun hb2 => ?_) (fun hb2 => ?_)
  ·have hb2' := hb2; try simp at hb2'
   have e : applyP p l = ([], 6) := by rw [applyP, if_neg hb1, if_pos (by omega)]
   rw [e]; refine hc_seq (hc_region (r_assign rfl rfl (r_assign rfl rfl (hl_nil (then_n (hc_ret (then_ret (hq_nil0 ?_)))))))); exact ret2 (none, 0) rfl rfl rfl rfl rfl (Nat.le_refl _) (.refl _) ⟨m0, trivial⟩
  ·have hb2' := hb2; try simp at hb2'
   have e : applyP p l = (madeP p l, 0) := by rw [applyP, if_neg hb1, if_neg (by omega)]
   rw [e]; refine hc_skip (then_n (hc_seq (hc_region (r_move rfl rfl (r_assign rfl rfl (r_assign rfl rfl (hl_nil (then_n (hc_ret ?_))))))))); exact ret2 x rfl rfl rfl rfl rfl hx (.refl _) ⟨m0, trivial⟩
end Go.Proofs.Ytpbbgbjidhffoaa
end
