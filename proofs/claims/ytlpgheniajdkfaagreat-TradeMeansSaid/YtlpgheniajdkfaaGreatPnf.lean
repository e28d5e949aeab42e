/- The document: where a heading leads. -/
import Derived.Test.YtlpgheniajdkfaaGreatPnb
namespace Go.Proofs.YtlpgheniajdkfaaGreat
open Go Go.W
set_option linter.unusedVariables false
set_option linter.unusedSimpArgs false
set_option maxRecDepth 20000
attribute [local irreducible] HL HC HQ HB Row Rows2 Blk Facts


theorem is_tr {cs : List Cl} {hs : List Hd} (hok : TrOK (trOf cs hs)) {i : Nat} (hi : i < hs.length) : isTrB (trOf cs hs) (i : Int) = decide (0 ≤ (hs.getD i default).2.1) := by
  have hh := hok.h i (by rw [hs_len]; exact hi)
  have hk := hh.kinds
  have hc := hh.c
  rw [show (trOf cs hs).hs.getD i default = (hs.getD i default).p from hd_get hi] at hk hc
  have hc1 : -1 ≤ (hs.getD i default).2.1 := hc.1
  rw [← isTr_at cs (i := (i : Int)) (by omega) (by omega), isA_of, Int.toNat_natCast]
  rcases hk with ⟨_, h1, _⟩ | ⟨h1, _⟩ | ⟨h1, _⟩
  · have h2 : (hs.getD i default).2.1 = -1 := h1
    rw [h2]; simp
  · have h2 : (hs.getD i default).2.2.1 = -1 := h1
    rw [decide_eq_true h2, Bool.true_and]; exact decide_eq_decide.2 (by omega)
  · have h2 : (hs.getD i default).2.2.1 = -1 := h1
    rw [decide_eq_true h2, Bool.true_and]; exact decide_eq_decide.2 (by omega)


theorem ref04_follow_meets {A B : Option Addr} {ca cb : Nat} (cs : List Cl) (hs : List Hd) (h : Int) (h0 : 0 ≤ h) (hh : h < (hs.length : Int)) (hl : hs.length ≤ 6) (hS : SeesOK hs) : Meets Tryz.prog F.ref04_follow [.agg #[.slice A cs.length ca, .slice B hs.length cb], int h] { LI := [RowsF B hs Hd.row], val := fun _ : Unit => folR (followT (trOf cs hs) h) } := by
 refine meets_intro F.ref04_follow_f rfl (Nat.le_of_ble_eq_true rfl) fun w0 => ?_
 refine hc_seq ?_
 refine hc_region ?_
 refine r_box rfl rfl fun gB => ?_
 refine r_assign rfl rfl ?_
 refine r_assign rfl rfl ?_
 refine r_assign rfl rfl ?_
 refine hl_nil ?_
 refine then_n ?_
 refine hc_seq ?_
 refine hc_seq ?_
 refine hc_outerF (ps := hs) (A := B) (f := Hd.row) (by repeat constructor) ?_
 refine hc_region ?_
 refine r_assign rfl rfl ?_
 refine hl_nil ?_
 refine then_n ?_
 refine hc_block ?_
 refine hc_loop (β := Nat × Int) ⟨fun x => x.1 ≤ hs.length + 1 ∧ 0 ≤ x.2 ∧ x.2 < (hs.length : Int) ∧ (followT (trOf cs hs) h) = followN (hs.map Hd.p) (hs.length + 1 - x.1) x.2 (x.1 : Int), fun x => [(1, int x.2), (2, .pointer (some ⟨gB, 0, none⟩)), (7, int x.1)], fun _ => [(gB, .cells #[.slice A cs.length ca, .slice B hs.length cb] T.api_Trades (0, 0))], fun _ => [Row B (rows hs)]⟩ (fun x => hs.length + 1 - x.1) (0, h) ⟨Nat.zero_le _, h0, hh, by rw [followT, hs_len]; rfl⟩ ⟨rfl, rfl, rfl, trivial⟩ (List.Sublist.refl _) ⟨(by repeat constructor), trivial⟩ fun x hx => ?_
 obtain ⟨k, y⟩ := x
 obtain ⟨hk, h0, hy, ht⟩ := hx
 simp only at hk h0 hy ht
 refine hc_seq ?_
 refine hc_seq ?_
 refine hc_region ?_
 refine r_move rfl rfl ?_
 refine r_fieldAddr ⟨_, 1, none⟩ rfl rfl T.fa_api_Trades_1 rfl ?_
 refine r_load rfl T.cell_L_api_Head rfl (cell_own (by repeat constructor) rfl) ?_
 refine r_len_sl rfl T.u_L_api_Head rfl ?_
 refine r_leq rfl rfl rfl ?_
 refine hl_nil ?_
 refine then_n ?_
 refine c_dec rfl (fun hb1 => ?_) (fun hb1 => ?_)
 ·have hb1' := hb1; try simp at hb1'
  have hk2 : k < hs.length + 1 := by omega
  rw [show hs.length + 1 - k = (hs.length - k) + 1 by omega, followN, hd_get (show y.toNat < hs.length by omega), p_see] at ht
  have hsy := hS y.toNat (by omega)
  refine hc_skip ?_
  refine then_n ?_
  refine hc_seq ?_
  refine hc_block ?_
  refine hc_seq ?_
  refine hc_seq ?_
  refine hc_region ?_
  refine r_fieldAddr ⟨_, 1, none⟩ rfl rfl T.fa_api_Trades_1 rfl ?_
  refine r_load rfl T.cell_L_api_Head rfl (cell_own (by repeat constructor) rfl) ?_
  refine r_move rfl rfl ?_
  refine r_elem (α := Hd) hs y.toNat rfl T.u_L_api_Head T.sz_api_Head rfl rfl (Int.toNat_of_nonneg h0).symm (by repeat constructor) rfl (by omega) (by decide) ?_
  refine r_fieldAddr _ rfl rfl T.fa_api_Head_2 rfl ?_
  refine r_load (v := int (hs.getD y.toNat default).2.2.1) rfl T.cell_int rfl (cell_row_f (by repeat constructor) (rows_get (by omega) rfl)) ?_
  refine r_lss rfl rfl rfl ?_
  refine hl_nil ?_
  refine then_n ?_
  refine c_dec rfl (fun hb2 => ?_) (fun hb2 => ?_)
  ·have hb2' := hb2; try simp at hb2'
   rw [if_pos (show (hs.getD y.toNat default).2.2.1 = -1 by omega)] at ht
   refine hc_seq ?_
   refine hc_region ?_
   refine r_move rfl rfl ?_
   refine r_move rfl rfl ?_
   refine r_assign rfl rfl ?_
   refine r_assign rfl rfl ?_
   refine r_assign rfl rfl ?_
   refine hl_nil ?_
   refine then_n ?_
   refine hc_ret ?_
   refine then_ret ?_
   refine inb_ret ?_
   refine then_ret ?_
   refine then_ret ?_
   refine inb_ret ?_
   refine then_ret ?_
   exact ret3 () rfl rfl rfl rfl (by show folR (followT (trOf cs hs) h) = _; rw [ht]; rfl) rfl trivial (List.nil_sublist _) trivial
  ·have hb2' := hb2; try simp at hb2'
   rw [if_neg (show ¬ (hs.getD y.toNat default).2.2.1 = -1 by omega)] at ht
   refine hc_skip ?_
   refine then_n ?_
   refine hc_region ?_
   refine r_fieldAddr ⟨_, 1, none⟩ rfl rfl T.fa_api_Trades_1 rfl ?_
   refine r_load rfl T.cell_L_api_Head rfl (cell_own (by repeat constructor) rfl) ?_
   refine r_move rfl rfl ?_
   refine r_elem (α := Hd) hs y.toNat rfl T.u_L_api_Head T.sz_api_Head rfl rfl (Int.toNat_of_nonneg h0).symm (by repeat constructor) rfl (by omega) (by decide) ?_
   refine r_fieldAddr _ rfl rfl T.fa_api_Head_2 rfl ?_
   refine r_load (v := int (hs.getD y.toNat default).2.2.1) rfl T.cell_int rfl (cell_row_f (by repeat constructor) (rows_get (by omega) rfl)) ?_
   refine r_assign rfl rfl ?_
   refine hl_nil ?_
   refine inb_n ?_
   refine then_n ?_
   refine hc_region ?_
   refine r_move rfl rfl ?_
   refine r_add _ rfl rfl rfl rfl (by unfold I64; omega) ?_
   refine r_assign rfl rfl ?_
   refine hl_nil ?_
   exact again _ (k + 1, (hs.getD y.toNat default).2.2.1) ⟨by show k + 1 ≤ hs.length + 1; omega, by show 0 ≤ (hs.getD y.toNat default).2.2.1; omega, hsy.2, by show _ = followN _ (hs.length + 1 - (k + 1)) _ _; rw [ht, Nat.add_sub_add_right]; rfl⟩ (by show hs.length + 1 - (k + 1) < hs.length + 1 - k; omega) ⟨rfl, rfl, rfl, trivial⟩ (List.Sublist.refl _) ⟨(by repeat constructor), trivial⟩
 ·have hb1' := hb1; try simp at hb1'
  have hk2 : k = hs.length + 1 := by omega
  rw [hk2, Nat.sub_self, followN] at ht
  refine hc_exit ?_
  refine then_exit ?_
  refine then_exit ?_
  refine inb_hit ?_
  refine then_n ?_
  refine hc_seq ?_
  refine hc_region ?_
  refine r_assign rfl rfl ?_
  refine r_assign rfl rfl ?_
  refine r_assign rfl rfl ?_
  refine hl_nil ?_
  refine then_n ?_
  refine hc_ret ?_
  exact ret3 () rfl rfl rfl rfl (by show folR (followT (trOf cs hs) h) = _; rw [ht]; rfl) rfl trivial (List.nil_sublist _) trivial

theorem len_in {s : Str} (h : s.length ≤ 1000) : I64 (s.length : Int) := by unfold I64; omega
def metK (t : Tr) (b : Str) : Nat → List Int
  | 0 => []
  | k + 1 => if b <+: (t.hs.getD k default).1 ∧ (followT t (k : Int)).isSome = true then metK t b k ++ [((followT t (k : Int)).getD (0, 0)).1] else metK t b k
theorem metK_len (t : Tr) (b : Str) : ∀ k, (metK t b k).length ≤ k
  | 0 => Nat.le_refl _
  | k + 1 => by
    have ih := metK_len t b k
    rw [metK]
    split
    · rw [List.length_append, List.length_singleton]; omega
    · omega
theorem metK_mem (t : Tr) (b : Str) (x : Int) : ∀ k, x ∈ metK t b k ↔ ∃ h, h < k ∧ b <+: (t.hs.getD h default).1 ∧ ∃ m, followT t (h : Int) = some (x, m)
  | 0 => by simp [metK]
  | k + 1 => by
    have ih := metK_mem t b x k
    rw [metK]
    constructor
    · intro hx
      split at hx
      · rename_i hc
        rcases List.mem_append.1 hx with hx | hx
        · obtain ⟨h, h1, h2⟩ := ih.1 hx
          exact ⟨h, by omega, h2⟩
        · rw [List.mem_singleton] at hx
          cases hf : followT t (k : Int) with
          | none => rw [hf] at hc; exact absurd hc.2 (by simp)
          | some y =>
            rw [hf] at hx
            refine ⟨k, by omega, hc.1, y.2, ?_⟩
            rw [hf, hx]
            rfl
      · obtain ⟨h, h1, h2⟩ := ih.1 hx
        exact ⟨h, by omega, h2⟩
    · rintro ⟨h, h1, h2, m, h3⟩
      by_cases e : h = k
      · subst e
        rw [if_pos ⟨h2, by rw [h3]; rfl⟩, h3]
        exact List.mem_append_right _ (List.mem_singleton.2 rfl)
      · have h4 := ih.2 ⟨h, by omega, h2, m, h3⟩
        split
        · exact List.mem_append_left _ h4
        · exact h4
def mbB (t : Tr) (b : Str) (i : Nat) : Bool := (List.range t.hs.length).any fun h => leadsB t b h i
def mbK (t : Tr) (b : Str) (k : Nat) : List Int := ((List.range k).filter (mbB t b)).map fun i : Nat => (i : Int)
theorem mbK_all (t : Tr) (b : Str) : mbK t b t.hs.length = mayT t b := rfl
theorem mbK_succ (t : Tr) (b : Str) (k : Nat) : mbK t b (k + 1) = if mbB t b k = true then mbK t b k ++ [(k : Int)] else mbK t b k := by
  unfold mbK
  rw [List.range_succ, List.filter_append, List.map_append, List.filter_cons, List.filter_nil]
  by_cases e : mbB t b k = true
  · rw [if_pos e, if_pos e]; rfl
  · rw [if_neg e, if_neg e]; simp
theorem mbK_len (t : Tr) (b : Str) (k : Nat) : (mbK t b k).length ≤ k := by
  unfold mbK
  rw [List.length_map]
  exact Nat.le_trans (List.length_filter_le _ _) (by simp)
theorem may_met {cs : List Cl} {hs : List Hd} (hok : TrOK (trOf cs hs)) (b : Str) {i : Nat} (hi : i < hs.length) : mbB (trOf cs hs) b i = (decide ((i : Int) ∈ metK (trOf cs hs) b hs.length) && decide (0 ≤ (hs.getD i default).2.1)) := by
  rw [Bool.eq_iff_iff, Bool.and_eq_true, decide_eq_true_eq, decide_eq_true_eq, metK_mem]
  unfold mbB
  rw [List.any_eq_true]
  have ht := is_tr hok hi
  constructor
  · rintro ⟨h, hh, hl⟩
    rw [List.mem_range, hs_len] at hh
    unfold leadsB at hl
    cases hf : followT (trOf cs hs) (h : Int) with
    | none => rw [hf] at hl; simp at hl
    | some y =>
      obtain ⟨e, m⟩ := y
      rw [hf] at hl
      simp only [Bool.and_eq_true, decide_eq_true_eq] at hl
      obtain ⟨h1, h2, h3⟩ := hl
      rw [h2, ht, decide_eq_true_eq] at h3
      exact ⟨⟨h, hh, h1, m, by rw [hf, h2]⟩, h3⟩
  · rintro ⟨⟨h, hh, h1, m, hf⟩, h3⟩
    refine ⟨h, by rw [List.mem_range, hs_len]; exact hh, ?_⟩
    unfold leadsB
    rw [hf]
    simp only [Bool.and_eq_true, decide_eq_true_eq]
    exact ⟨h1, trivial, by rw [ht]; exact decide_eq_true h3⟩

theorem ref04_begins_meets (s b : Str) : Meets Tryz.prog F.ref04_begins [str s, str b] { val := fun _ : Unit => .bool (decide (b <+: s)) } := by
 refine meets_intro F.ref04_begins_f rfl (Nat.le_of_ble_eq_true rfl) fun w0 => ?_
 refine hc_seq ?_
 refine hc_region ?_
 refine r_assign rfl rfl ?_
 refine hl_nil ?_
 refine then_n ?_
 refine hc_seq ?_
 refine hc_region ?_
 refine r_move rfl rfl ?_
 refine r_len_str rfl T.u_string rfl ?_
 refine r_move rfl rfl ?_
 refine r_len_str rfl T.u_string rfl ?_
 refine r_leq rfl rfl rfl ?_
 refine r_move rfl rfl ?_
 refine g_split rfl rfl ?_ ?_
 ·intro hg1; have hg1' := hg1; try simp at hg1'
  have g1_6 : (b.length : Int) ≤ s.length := of_decide_eq_true (eq_of_beq hg1)
  refine g_yes rfl rfl hg1 ?_
  refine r_move rfl rfl ?_
  refine g_yes rfl rfl hg1 ?_
  refine r_move rfl rfl ?_
  refine g_yes rfl rfl hg1 ?_
  refine r_len_str rfl T.u_string rfl ?_
  refine g_yes rfl rfl hg1 ?_
  refine r_sslice_hi b.length rfl T.u_string rfl rfl rfl (by omega) ?_
  refine g_yes rfl rfl hg1 ?_
  refine r_move rfl rfl ?_
  refine g_yes rfl rfl hg1 ?_
  refine r_seql rfl rfl rfl ?_
  refine p_t rfl rfl (bt1 hg1) rfl ?_
  refine r_assign rfl rfl ?_
  refine hl_nil ?_
  refine then_n ?_
  refine hc_ret ?_
  exact ret1 () rfl (congrArg (fun b => some (Value.bool b)) (by exact decide_eq_decide.2 ⟨fun e => pre_iff.1 ⟨by omega, e⟩, fun e => (pre_iff.2 e).2⟩)) rfl trivial (List.nil_sublist _) trivial
 ·intro hg1; have hg1' := hg1; try simp at hg1'
  have g1_6 : ¬ (b.length : Int) ≤ s.length := of_decide_eq_false (bf2 hg1)
  refine g_no rfl rfl rfl rfl rfl hg1 ?_
  refine g_no rfl rfl rfl rfl rfl hg1 ?_
  refine g_no rfl rfl rfl rfl rfl hg1 ?_
  refine g_no rfl rfl rfl rfl rfl hg1 ?_
  refine g_no rfl rfl rfl rfl rfl hg1 ?_
  refine g_no rfl rfl rfl rfl rfl hg1 ?_
  refine p_f rfl rfl (bf2 hg1) rfl ?_
  refine r_assign rfl rfl ?_
  refine hl_nil ?_
  refine then_n ?_
  refine hc_ret ?_
  exact ret1 () rfl (congrArg (fun b => some (Value.bool b)) (by exact (decide_eq_false (fun e => by have := (pre_iff.2 e).1; omega)).symm)) rfl trivial (List.nil_sublist _) trivial

set_option maxHeartbeats 1000000 in
theorem ref04_may_meets {A B : Option Addr} {ca cb : Nat} (cs : List Cl) (hs : List Hd) (b : Str) (hok : TrOK (trOf cs hs)) : Meets Tryz.prog F.ref04_may [.agg #[.slice A cs.length ca, .slice B hs.length cb], str b] { LI := [RowsF B hs Hd.row], inv := fun x : OutC => (mayT (trOf cs hs) b).length ≤ x.2, val := fun x => .slice x.1 (mayT (trOf cs hs) b).length x.2, LO := fun x => [Row x.1 (rows (mayT (trOf cs hs) b))] } := by
 refine meets_intro F.ref04_may_f rfl (Nat.le_of_ble_eq_true rfl) fun w0 => ?_
 refine hc_seq ?_
 refine hc_region ?_
 refine r_box rfl rfl fun gB => ?_
 refine r_assign rfl rfl ?_
 refine hl_nil ?_
 refine then_n ?_
 refine hc_seq ?_
 have h6h := hok.h6
 have hln := hs_len cs hs
 rw [hln] at h6h
 have hS := sees_ok hok
 refine hc_letgoB ?_
 refine hc_outerF (ps := hs) (A := B) (f := Hd.row) (by repeat constructor) ?_
 refine hc_region ?_
 refine r_assign rfl rfl ?_
 refine r_assign rfl rfl ?_
 refine hl_nil ?_
 refine then_n ?_
 refine hc_seq ?_
 refine hc_seq ?_
 refine hc_region ?_
 refine r_assign rfl rfl ?_
 refine hl_nil ?_
 refine then_n ?_
 refine hc_block ?_
 refine hc_loop (β := Nat × OutC × Hp) ⟨fun x => x.1 ≤ hs.length ∧ Grow T.int 1 x.2.1.1 (metK (trOf cs hs) b x.1).length x.2.1.2 (rows (metK (trOf cs hs) b x.1)) x.2.2, fun x => [(1, str b), (2, .pointer (some ⟨gB, 0, none⟩)), (5, .slice x.2.1.1 (metK (trOf cs hs) b x.1).length x.2.1.2), (6, .slice none 0 0), (7, int x.1)], fun x => x.2.2, fun _ => [Row B (rows hs), Blk gB (.cells #[.slice A cs.length ca, .slice B hs.length cb] T.api_Trades (0, 0)), RowsF B hs Hd.row]⟩ (fun x => hs.length - x.1) (0, (none, 0), []) ⟨Nat.zero_le _, Grow.nil _ _⟩ ⟨rfl, rfl, rfl, rfl, rfl, trivial⟩ (List.nil_sublist _) ⟨(by repeat constructor), (by repeat constructor), (by repeat constructor), trivial⟩ fun x hx => ?_
 obtain ⟨k, ⟨ma, mc⟩, og⟩ := x
 obtain ⟨hk, hG⟩ := hx
 simp only at hk hG
 have hml := metK_len (trOf cs hs) b k
 refine hc_seq ?_
 refine hc_seq ?_
 refine hc_region ?_
 refine r_move rfl rfl ?_
 refine r_fieldAddr ⟨_, 1, none⟩ rfl rfl T.fa_api_Trades_1 rfl ?_
 refine r_load rfl T.cell_L_api_Head rfl (cell_blk (by repeat constructor) rfl) ?_
 refine r_len_sl rfl T.u_L_api_Head rfl ?_
 refine r_lss rfl rfl rfl ?_
 refine hl_nil ?_
 refine then_n ?_
 refine c_dec rfl (fun hb1 => ?_) (fun hb1 => ?_)
 ·have hb1' := hb1; try simp at hb1'
  have hk2 : k < hs.length := by omega
  have hgd : ((trOf cs hs).hs.getD k default).1 = (hs.getD k default).1 := by show ((hs.map Hd.p).getD k default).1 = _; rw [hd_get hk2]; rfl
  have hmk : (metK (trOf cs hs) b (k + 1)) = if b <+: ((trOf cs hs).hs.getD k default).1 ∧ (followT (trOf cs hs) (k : Int)).isSome = true then (metK (trOf cs hs) b k) ++ [(((followT (trOf cs hs) (k : Int)).getD (0, 0)).1)] else (metK (trOf cs hs) b k) := rfl
  rw [hgd] at hmk
  refine hc_skip ?_
  refine then_n ?_
  refine hc_seq ?_
  refine hc_block ?_
  refine hc_seq ?_
  refine hc_region ?_
  refine r_loadB rfl T.row_api_Trades T.sz_api_Trades rfl (by repeat constructor) (by rfl) ?_
  refine r_move rfl rfl ?_
  refine hl_call F.ref04_follow_cb rfl rfl (ref04_follow_meets cs hs (k : Int) (by omega) (by omega) (by omega) hS) (hpR := og) (List.Perm.refl _) ⟨(by repeat constructor), trivial⟩ fun _ _ => ?_
  refine r_move rfl rfl ?_
  refine r_extract (vs := #[int ((followT (trOf cs hs) (k : Int)).getD (0, 0)).1, int ((followT (trOf cs hs) (k : Int)).getD (0, 0)).2, .bool (followT (trOf cs hs) (k : Int)).isSome]) rfl rfl rfl ?_
  refine r_extract (vs := #[int ((followT (trOf cs hs) (k : Int)).getD (0, 0)).1, int ((followT (trOf cs hs) (k : Int)).getD (0, 0)).2, .bool (followT (trOf cs hs) (k : Int)).isSome]) rfl rfl rfl ?_
  refine r_extract (vs := #[int ((followT (trOf cs hs) (k : Int)).getD (0, 0)).1, int ((followT (trOf cs hs) (k : Int)).getD (0, 0)).2, .bool (followT (trOf cs hs) (k : Int)).isSome]) rfl rfl rfl ?_
  refine r_assign rfl rfl ?_
  refine r_assign rfl rfl ?_
  refine r_assign rfl rfl ?_
  refine hl_nil ?_
  refine then_n ?_
  refine hc_seq ?_
  refine hc_region ?_
  refine r_move rfl rfl ?_
  refine r_move rfl rfl ?_
  refine g_split rfl rfl ?_ ?_
  ·intro hg1; have hg1' := hg1; try simp at hg1'
   have hs1 : (followT (trOf cs hs) (k : Int)).isSome = true := by simpa using hg1
   refine g_yes rfl rfl hg1 ?_
   refine r_fieldAddr ⟨_, 1, none⟩ rfl rfl T.fa_api_Trades_1 rfl ?_
   refine g_yes rfl rfl hg1 ?_
   refine r_load rfl T.cell_L_api_Head rfl (cell_blk (by repeat constructor) rfl) ?_
   refine g_yes rfl rfl hg1 ?_
   refine r_move rfl rfl ?_
   refine g_yes rfl rfl hg1 ?_
   refine r_elem (α := Hd) hs k rfl T.u_L_api_Head T.sz_api_Head rfl rfl rfl (by repeat constructor) rfl hk2 (by decide) ?_
   refine g_yes rfl rfl hg1 ?_
   refine r_fieldAddr _ rfl rfl T.fa_api_Head_0 rfl ?_
   refine g_yes rfl rfl hg1 ?_
   refine r_load (v := str (hs.getD k default).1) rfl T.cell_string rfl (cell_row_f (by repeat constructor) (rows_get hk2 rfl)) ?_
   refine g_yes rfl rfl hg1 ?_
   refine r_move rfl rfl ?_
   refine g_yes rfl rfl hg1 ?_
   refine hl_call F.ref04_begins_cb rfl rfl (ref04_begins_meets (hs.getD k default).1 b) (hpR := og) (List.Perm.refl _) trivial fun _ _ => ?_
   refine p_t rfl rfl (bt1 hg1) rfl ?_
   refine hl_nil ?_
   refine then_n ?_
   refine c_dec rfl (fun hb2 => ?_) (fun hb2 => ?_)
   ·have hb2' := hb2; try simp at hb2'
    rw [if_pos ⟨hb2, hs1⟩] at hmk
    refine hc_region ?_
    refine r_move rfl rfl ?_
    refine r_move rfl rfl ?_
    refine r_buildSlice _ rfl rfl (fun _ => T.bs_ints_1 ..) fun gS => ?_
    refine hl_letgo (rows [(((followT (trOf cs hs) (k : Int)).getD (0, 0)).1)]) (List.prefix_refl _) ?_
    refine r_append ((metK (trOf cs hs) b k).length + 1) (rows ((metK (trOf cs hs) b k) ++ [(((followT (trOf cs hs) (k : Int)).getD (0, 0)).1)])) T.el_ints rfl rfl rfl hG (hp' := []) (show List.Perm og (og ++ []) from by rw [List.append_nil]) (Src.row (news := rows [(((followT (trOf cs hs) (k : Int)).getD (0, 0)).1)]) (m := 1) m0 rfl (rows_one _) (by decide)) rfl (rows_append _ _).symm (by unfold maxLen; omega) (by omega) fun A' c' og' hG' => ?_
    refine r_assign rfl rfl ?_
    refine hl_nil ?_
    refine inb_n ?_
    refine then_n ?_
    refine hc_region ?_
    refine r_move rfl rfl ?_
    refine r_add _ rfl rfl rfl rfl (by unfold I64; omega) ?_
    refine r_assign rfl rfl ?_
    refine hl_nil ?_
    exact again _ (k + 1, (A', c'), og') ⟨by show k + 1 ≤ hs.length; omega, by show Grow _ _ _ (metK (trOf cs hs) b (k + 1)).length _ (rows (metK (trOf cs hs) b (k + 1))) _; rw [hmk, List.length_append]; exact hG'⟩ (by show hs.length - (k + 1) < hs.length - k; omega) ⟨rfl, rfl, by show some (Value.slice A' ((metK (trOf cs hs) b k).length + 1) c') = some (Value.slice A' (metK (trOf cs hs) b (k + 1)).length c'); rw [hmk, List.length_append]; rfl, rfl, rfl, trivial⟩ (List.sublist_append_left _ _) ⟨(by repeat constructor), (by repeat constructor), (by repeat constructor), trivial⟩
   ·have hb2' := hb2; try simp at hb2'
    rw [if_neg (fun e => hb2 e.1)] at hmk
    refine hc_skip ?_
    refine inb_n ?_
    refine then_n ?_
    refine hc_region ?_
    refine r_move rfl rfl ?_
    refine r_add _ rfl rfl rfl rfl (by unfold I64; omega) ?_
    refine r_assign rfl rfl ?_
    refine hl_nil ?_
    exact again _ (k + 1, (ma, mc), og) ⟨by show k + 1 ≤ hs.length; omega, by show Grow _ _ _ (metK (trOf cs hs) b (k + 1)).length _ (rows (metK (trOf cs hs) b (k + 1))) _; rw [hmk]; exact hG⟩ (by show hs.length - (k + 1) < hs.length - k; omega) ⟨rfl, rfl, by show some (Value.slice ma (metK (trOf cs hs) b k).length mc) = some (Value.slice ma (metK (trOf cs hs) b (k + 1)).length mc); rw [hmk], rfl, rfl, trivial⟩ (List.Sublist.refl _) ⟨(by repeat constructor), (by repeat constructor), (by repeat constructor), trivial⟩
  ·intro hg1; have hg1' := hg1; try simp at hg1'
   have hs1 : ¬ (followT (trOf cs hs) (k : Int)).isSome = true := by simpa using hg1
   rw [if_neg (fun e => hs1 e.2)] at hmk
   refine g_no rfl rfl rfl rfl rfl hg1 ?_
   refine g_no rfl rfl rfl rfl rfl hg1 ?_
   refine g_no rfl rfl rfl rfl rfl hg1 ?_
   refine g_no rfl rfl rfl rfl rfl hg1 ?_
   refine g_no rfl rfl rfl rfl rfl hg1 ?_
   refine g_no rfl rfl rfl rfl rfl hg1 ?_
   refine g_no rfl rfl rfl rfl rfl hg1 ?_
   refine g_no rfl rfl rfl rfl rfl hg1 ?_
   refine p_f rfl rfl (bf2 hg1) rfl ?_
   refine hl_nil ?_
   refine then_n ?_
   refine c_f rfl rfl ?_
   refine hc_skip ?_
   refine inb_n ?_
   refine then_n ?_
   refine hc_region ?_
   refine r_move rfl rfl ?_
   refine r_add _ rfl rfl rfl rfl (by unfold I64; omega) ?_
   refine r_assign rfl rfl ?_
   refine hl_nil ?_
   exact again _ (k + 1, (ma, mc), og) ⟨by show k + 1 ≤ hs.length; omega, by show Grow _ _ _ (metK (trOf cs hs) b (k + 1)).length _ (rows (metK (trOf cs hs) b (k + 1))) _; rw [hmk]; exact hG⟩ (by show hs.length - (k + 1) < hs.length - k; omega) ⟨rfl, rfl, by show some (Value.slice ma (metK (trOf cs hs) b k).length mc) = some (Value.slice ma (metK (trOf cs hs) b (k + 1)).length mc); rw [hmk], rfl, rfl, trivial⟩ (List.Sublist.refl _) ⟨(by repeat constructor), (by repeat constructor), (by repeat constructor), trivial⟩
 ·have hb1' := hb1; try simp at hb1'
  obtain rfl : k = hs.length := by omega
  refine hc_exit ?_
  refine then_exit ?_
  refine then_exit ?_
  refine inb_hit ?_
  refine then_n ?_
  refine hc_seq ?_
  refine hc_seq ?_
  refine hc_region ?_
  refine r_assign rfl rfl ?_
  refine hl_nil ?_
  refine then_n ?_
  refine hc_block ?_
  refine hc_grown0 hG ?_
  refine hc_loop (β := Nat × OutC × Hp) ⟨fun x => x.1 ≤ hs.length ∧ Grow T.int 1 x.2.1.1 (mbK (trOf cs hs) b x.1).length x.2.1.2 (rows (mbK (trOf cs hs) b x.1)) x.2.2, fun x => [(2, .pointer (some ⟨gB, 0, none⟩)), (5, .slice ma (metK (trOf cs hs) b hs.length).length mc), (6, .slice x.2.1.1 (mbK (trOf cs hs) b x.1).length x.2.1.2), (11, int x.1)], fun x => x.2.2, fun _ => Row ma (rows (metK (trOf cs hs) b hs.length)) :: [Row B (rows hs), Blk gB (.cells #[.slice A cs.length ca, .slice B hs.length cb] T.api_Trades (0, 0)), RowsF B hs Hd.row]⟩ (fun x => hs.length - x.1) (0, (none, 0), []) ⟨Nat.zero_le _, Grow.nil _ _⟩ ⟨rfl, rfl, rfl, rfl, trivial⟩ (List.nil_sublist _) ⟨(by repeat constructor), (by repeat constructor), (by repeat constructor), (by repeat constructor), trivial⟩ fun x hx => ?_
  obtain ⟨k, ⟨na, nc⟩, og⟩ := x
  obtain ⟨hk, hG⟩ := hx
  simp only at hk hG
  have hnl := mbK_len (trOf cs hs) b k
  have huc := mbK_succ (trOf cs hs) b k
  refine hc_seq ?_
  refine hc_seq ?_
  refine hc_region ?_
  refine r_move rfl rfl ?_
  refine r_fieldAddr ⟨_, 1, none⟩ rfl rfl T.fa_api_Trades_1 rfl ?_
  refine r_load rfl T.cell_L_api_Head rfl (cell_blk (by repeat constructor) rfl) ?_
  refine r_len_sl rfl T.u_L_api_Head rfl ?_
  refine r_lss rfl rfl rfl ?_
  refine hl_nil ?_
  refine then_n ?_
  refine c_dec rfl (fun hb3 => ?_) (fun hb3 => ?_)
  ·have hb3' := hb3; try simp at hb3'
   have hk2 : k < hs.length := by omega
   have hmm := may_met hok b hk2
   refine hc_skip ?_
   refine then_n ?_
   refine hc_seq ?_
   refine hc_block ?_
   refine hc_seq ?_
   refine hc_region ?_
   refine r_move rfl rfl ?_
   refine r_move rfl rfl ?_
   refine hl_call F.ref04_has_cb rfl rfl (ref04_has_meets (metK (trOf cs hs) b hs.length) (k : Int) (by omega)) (hpR := og) (List.Perm.refl _) ⟨(by repeat constructor), trivial⟩ fun z hz => ?_
   refine r_geq rfl rfl rfl ?_
   refine r_move rfl rfl ?_
   refine g_split rfl rfl ?_ ?_
   ·intro hg2; have hg2' := hg2; try simp at hg2'
    have g5 : (k : Int) ∈ (metK (trOf cs hs) b hs.length) := hz.1.1 (of_decide_eq_true (eq_of_beq hg2))
    rw [decide_eq_true g5, Bool.true_and] at hmm
    refine g_yes rfl rfl hg2 ?_
    refine r_fieldAddr ⟨_, 1, none⟩ rfl rfl T.fa_api_Trades_1 rfl ?_
    refine g_yes rfl rfl hg2 ?_
    refine r_load rfl T.cell_L_api_Head rfl (cell_blk (by repeat constructor) rfl) ?_
    refine g_yes rfl rfl hg2 ?_
    refine r_move rfl rfl ?_
    refine g_yes rfl rfl hg2 ?_
    refine r_elem (α := Hd) hs k rfl T.u_L_api_Head T.sz_api_Head rfl rfl rfl (by repeat constructor) rfl hk2 (by decide) ?_
    refine g_yes rfl rfl hg2 ?_
    refine r_fieldAddr _ rfl rfl T.fa_api_Head_1 rfl ?_
    refine g_yes rfl rfl hg2 ?_
    refine r_load (v := int (hs.getD k default).2.1) rfl T.cell_int rfl (cell_row_f (by repeat constructor) (rows_get hk2 rfl)) ?_
    refine g_yes rfl rfl hg2 ?_
    refine r_geq rfl rfl rfl ?_
    refine p_t rfl rfl (bt1 hg2) rfl ?_
    refine hl_nil ?_
    refine then_n ?_
    refine c_dec rfl (fun hb4 => ?_) (fun hb4 => ?_)
    ·have hb4' := hb4; try simp at hb4'
     rw [decide_eq_true hb4] at hmm
     rw [if_pos hmm] at huc
     refine hc_region ?_
     refine r_move rfl rfl ?_
     refine r_move rfl rfl ?_
     refine r_buildSlice _ rfl rfl (fun _ => T.bs_ints_1 ..) fun gS => ?_
     refine hl_letgo (rows [(k : Int)]) (List.prefix_refl _) ?_
     refine r_append ((mbK (trOf cs hs) b k).length + 1) (rows ((mbK (trOf cs hs) b k) ++ [(k : Int)])) T.el_ints rfl rfl rfl hG (hp' := []) (show List.Perm og (og ++ []) from by rw [List.append_nil]) (Src.row (news := rows [(k : Int)]) (m := 1) m0 rfl (rows_one _) (by decide)) rfl (rows_append _ _).symm (by unfold maxLen; omega) (by omega) fun A' c' og' hG' => ?_
     refine r_assign rfl rfl ?_
     refine hl_nil ?_
     refine inb_n ?_
     refine then_n ?_
     refine hc_region ?_
     refine r_move rfl rfl ?_
     refine r_add _ rfl rfl rfl rfl (by unfold I64; omega) ?_
     refine r_assign rfl rfl ?_
     refine hl_nil ?_
     exact again _ (k + 1, (A', c'), og') ⟨by show k + 1 ≤ hs.length; omega, by show Grow _ _ _ (mbK (trOf cs hs) b (k + 1)).length _ (rows (mbK (trOf cs hs) b (k + 1))) _; rw [huc, List.length_append]; exact hG'⟩ (by show hs.length - (k + 1) < hs.length - k; omega) ⟨rfl, rfl, by show some (Value.slice A' ((mbK (trOf cs hs) b k).length + 1) c') = some (Value.slice A' (mbK (trOf cs hs) b (k + 1)).length c'); rw [huc, List.length_append]; rfl, rfl, trivial⟩ (List.sublist_append_left _ _) ⟨(by repeat constructor), (by repeat constructor), (by repeat constructor), (by repeat constructor), trivial⟩
    ·have hb4' := hb4; try simp at hb4'
     rw [decide_eq_false hb4] at hmm
     rw [if_neg (by rw [hmm]; decide)] at huc
     refine hc_skip ?_
     refine inb_n ?_
     refine then_n ?_
     refine hc_region ?_
     refine r_move rfl rfl ?_
     refine r_add _ rfl rfl rfl rfl (by unfold I64; omega) ?_
     refine r_assign rfl rfl ?_
     refine hl_nil ?_
     exact again _ (k + 1, (na, nc), og) ⟨by show k + 1 ≤ hs.length; omega, by show Grow _ _ _ (mbK (trOf cs hs) b (k + 1)).length _ (rows (mbK (trOf cs hs) b (k + 1))) _; rw [huc]; exact hG⟩ (by show hs.length - (k + 1) < hs.length - k; omega) ⟨rfl, rfl, by show some (Value.slice na (mbK (trOf cs hs) b k).length nc) = some (Value.slice na (mbK (trOf cs hs) b (k + 1)).length nc); rw [huc], rfl, trivial⟩ (List.Sublist.refl _) ⟨(by repeat constructor), (by repeat constructor), (by repeat constructor), (by repeat constructor), trivial⟩
   ·intro hg2; have hg2' := hg2; try simp at hg2'
    have g5 : ¬ (k : Int) ∈ (metK (trOf cs hs) b hs.length) := fun hm => (of_decide_eq_false (bf2 hg2)) (hz.1.2 hm)
    rw [decide_eq_false g5, Bool.false_and] at hmm
    rw [if_neg (by rw [hmm]; decide)] at huc
    refine g_no rfl rfl rfl rfl rfl hg2 ?_
    refine g_no rfl rfl rfl rfl rfl hg2 ?_
    refine g_no rfl rfl rfl rfl rfl hg2 ?_
    refine g_no rfl rfl rfl rfl rfl hg2 ?_
    refine g_no rfl rfl rfl rfl rfl hg2 ?_
    refine g_no rfl rfl rfl rfl rfl hg2 ?_
    refine g_no rfl rfl rfl rfl rfl hg2 ?_
    refine p_f rfl rfl (bf2 hg2) rfl ?_
    refine hl_nil ?_
    refine then_n ?_
    refine c_f rfl rfl ?_
    refine hc_skip ?_
    refine inb_n ?_
    refine then_n ?_
    refine hc_region ?_
    refine r_move rfl rfl ?_
    refine r_add _ rfl rfl rfl rfl (by unfold I64; omega) ?_
    refine r_assign rfl rfl ?_
    refine hl_nil ?_
    exact again _ (k + 1, (na, nc), og) ⟨by show k + 1 ≤ hs.length; omega, by show Grow _ _ _ (mbK (trOf cs hs) b (k + 1)).length _ (rows (mbK (trOf cs hs) b (k + 1))) _; rw [huc]; exact hG⟩ (by show hs.length - (k + 1) < hs.length - k; omega) ⟨rfl, rfl, by show some (Value.slice na (mbK (trOf cs hs) b k).length nc) = some (Value.slice na (mbK (trOf cs hs) b (k + 1)).length nc); rw [huc], rfl, trivial⟩ (List.Sublist.refl _) ⟨(by repeat constructor), (by repeat constructor), (by repeat constructor), (by repeat constructor), trivial⟩
  ·have hb3' := hb3; try simp at hb3'
   obtain rfl : k = hs.length := by omega
   have hG2 := hG
   rw [show (mbK (trOf cs hs) b hs.length) = mayT (trOf cs hs) b from by rw [← mbK_all, hln]] at hG2
   refine hc_exit ?_
   refine then_exit ?_
   refine then_exit ?_
   refine inb_hit ?_
   refine then_n ?_
   refine hc_seq ?_
   refine hc_region ?_
   refine r_move rfl rfl ?_
   refine r_assign rfl rfl ?_
   refine hl_nil ?_
   refine then_n ?_
   refine hc_ret ?_
   refine hq_grown0 hG2 ?_
   exact ret1 (na, nc) rfl (by show some (Value.slice na (mbK (trOf cs hs) b hs.length).length nc) = some (Value.slice na (mayT (trOf cs hs) b).length nc); rw [← mbK_all, hln]) rfl hG2.le (List.nil_sublist _) ⟨m0, trivial⟩

theorem ref04_May_meets {A B : Option Addr} {ca cb : Nat} (cs : List Cl) (hs : List Hd) (b : Str) (hhl : hs.length ≤ 1000) (hcl0 : cs.length ≤ 1000) (hwc : ∀ x ∈ cs, x.1.length ≤ 1000) (hwh : ∀ h ∈ hs, h.1.length ≤ 1000) (ha : ∀ h ∈ hs, h.2.2.2.l.length ≤ 1000000) : Meets Tryz.prog F.ref04_May [.agg #[.slice A cs.length ca, .slice B hs.length cb], str b] { LI := [Row A (rows cs), RowsF B hs Hd.row], inv := fun x : OutC => (mayE (trOf cs hs) b).1.length ≤ x.2, val := fun x => .tuple #[.slice x.1 (mayE (trOf cs hs) b).1.length x.2, int (mayE (trOf cs hs) b).2], LO := fun x => [Row x.1 (rows (mayE (trOf cs hs) b).1)] } := by
 refine meets_intro F.ref04_May_f rfl (Nat.le_of_ble_eq_true rfl) fun w0 => ?_
 refine hc_seq ?_
 refine hc_region ?_
 refine r_box rfl rfl fun gB => ?_
 refine r_assign rfl rfl ?_
 refine r_assign rfl rfl ?_
 refine hl_nil ?_
 refine then_n ?_
 refine hc_seq ?_
 refine hc_seq ?_
 refine hc_region ?_
 refine r_loadA rfl T.row_api_Trades T.sz_api_Trades rfl (by repeat constructor) (by rfl) ?_
 refine hl_call F.ref04_Check_cb rfl rfl (ref04_Check_meets cs hs hhl hcl0 hwc hwh ha) (List.Perm.refl _) ⟨(by repeat constructor), (by repeat constructor), trivial⟩ fun _ _ => ?_
 refine r_assign rfl rfl ?_
 refine hl_nil ?_
 refine then_n ?_
 refine hc_seq ?_
 refine hc_region ?_
 refine r_move rfl rfl ?_
 refine r_neq rfl rfl rfl ?_
 refine hl_nil ?_
 refine then_n ?_
 refine c_dec rfl (fun hb1 => ?_) (fun hb1 => ?_)
 ·have hb1' := hb1; try simp at hb1'
  have hE : (mayE (trOf cs hs) b) = ([], checkT (trOf cs hs)) := by rw [mayE, if_pos hb1]
  refine hc_seq ?_
  refine hc_region ?_
  refine r_move rfl rfl ?_
  refine r_assign rfl rfl ?_
  refine r_assign rfl rfl ?_
  refine hl_nil ?_
  refine then_n ?_
  refine hc_ret ?_
  refine then_ret ?_
  refine hq_nilrow (α := Int) ?_
  exact ret2 (none, 0) rfl rfl rfl (by show Value.tuple #[.slice none (mayE (trOf cs hs) b).1.length 0, int (mayE (trOf cs hs) b).2] = _; rw [hE]; rfl) rfl (by show (mayE (trOf cs hs) b).1.length ≤ 0; rw [hE]; exact Nat.le_refl _) (List.nil_sublist _) (by show LSub _ [Row none (rows (mayE (trOf cs hs) b).1)]; rw [hE]; exact ⟨(by repeat constructor), trivial⟩)
 ·have hb1' := hb1; try simp at hb1'
  have hok := tr_ok (Classical.not_not.1 hb1)
  have hE : (mayE (trOf cs hs) b) = (mayT (trOf cs hs) b, 0) := by rw [mayE, if_neg hb1]
  refine hc_skip ?_
  refine then_n ?_
  refine hc_seq ?_
  refine hc_region ?_
  refine r_loadA rfl T.row_api_Trades T.sz_api_Trades rfl (by repeat constructor) (by rfl) ?_
  refine r_move rfl rfl ?_
  refine hl_call F.ref04_may_cb rfl rfl (ref04_may_meets cs hs b hok) (List.Perm.refl _) ⟨(by repeat constructor), trivial⟩ fun y hy => ?_
  refine r_assign rfl rfl ?_
  refine r_assign rfl rfl ?_
  refine hl_nil ?_
  refine then_n ?_
  refine hc_ret ?_
  exact ret2 y rfl rfl rfl (by show Value.tuple #[.slice y.1 (mayE (trOf cs hs) b).1.length y.2, int (mayE (trOf cs hs) b).2] = _; rw [hE]) rfl (by show (mayE (trOf cs hs) b).1.length ≤ y.2; rw [hE]; exact hy) (List.nil_sublist _) (by show LSub _ [Row y.1 (rows (mayE (trOf cs hs) b).1)]; rw [hE]; exact ⟨(by repeat constructor), trivial⟩)

end Go.Proofs.YtlpgheniajdkfaaGreat
