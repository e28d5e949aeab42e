/- Follow; what a beginning may mean. -/
import Derived.Test.YtlpgheniajdkfaaPaf
namespace Go.Proofs.Ytlpgheniajdkfaa
open Go Go.W
set_option linter.unusedVariables false
set_option linter.unusedSimpArgs false
set_option maxRecDepth 20000
attribute [local irreducible] HL HC HQ HB Row Rows2 Blk Facts

def followE (t : Tr) (h : Int) : Int × Int × Int := if ¬ askE t [h] = 0 then (0, 0, askE t [h]) else if (followT t h).isSome = false then (0, 0, 9) else (((followT t h).getD (0, 0)).1, ((followT t h).getD (0, 0)).2, 0)

theorem trade_Follow_meets {A B : Option Addr} {ca cb : Nat} (cs : List Cl) (hs : List Hd) (h : Int) (hca : cs.length ≤ ca) (hcb : hs.length ≤ cb) (ha : ∀ h ∈ hs, h.2.2.2.l.length ≤ 1000000) : Meets Try.prog F.trade_Follow [.agg #[.slice A cs.length ca, .slice B hs.length cb], int h] { LI := [Row A (rows cs), RowsF B hs Hd.row], val := fun _ : Unit => .tuple #[int (followE (trOf cs hs) h).1, int (followE (trOf cs hs) h).2.1, int (followE (trOf cs hs) h).2.2] } := by
 refine meets_intro F.trade_Follow_f rfl (Nat.le_of_ble_eq_true rfl) fun w0 => ?_
 refine hc_seq ?_
 refine hc_region ?_
 refine r_box rfl rfl fun gB => ?_
 refine r_assign rfl rfl ?_
 refine r_assign rfl rfl ?_
 refine r_assign rfl rfl ?_
 refine hl_nil ?_
 refine then_n ?_
 refine hc_cut ⟨fun _ : Nat × OutC × OutC => True, fun x => [(1, int h), (2, .pointer (some ⟨gB, 0, none⟩)), (7, if askE (trOf cs hs) [h] = 0 then .pointer (some ⟨x.1, 0, none⟩) else .pointer none), (6, int (askE (trOf cs hs) [h]))], fun _ => [(gB, .cells #[.slice A cs.length ca, .slice B hs.length cb] T.api_Trades (0, 0))], fun x => (if askE (trOf cs hs) [h] = 0 then beginL cs hs A ca B cb x else []) ++ [Row A (rows cs), RowsF B hs Hd.row]⟩ ?_ ?_
 ·skip
  refine hc_region ?_
  first | refine r_loadA rfl T.row_api_Trades T.sz_api_Trades rfl (by repeat constructor) (by rfl) ?_ | refine r_loadB rfl T.row_api_Trades T.sz_api_Trades rfl (by repeat constructor) (by rfl) ?_ | refine r_loadS rfl T.row_api_Trades T.sz_api_Trades rfl rfl (cells_row (by repeat constructor) (rows_all (by omega))) ?_
  refine r_move rfl rfl ?_
  refine r_buildSlice _ rfl rfl (fun _ => T.bs_ints_1 ..) fun gS => ?_
  refine hl_letgo (rows [h]) (List.prefix_refl _) ?_
  refine hl_call F.trade_ask_cb rfl rfl (trade_ask_meets cs hs [h] hca hcb ha (by simp)) (List.Perm.refl _) ⟨(by repeat constructor), (by repeat constructor), (by repeat constructor), trivial⟩ fun x _ => ?_
  refine r_move rfl rfl ?_
  refine r_extract rfl rfl rfl ?_
  refine r_extract rfl rfl rfl ?_
  refine r_assign rfl rfl ?_
  refine r_assign rfl rfl ?_
  refine hl_nil ?_
  exact cut_n _ x trivial ⟨rfl, rfl, rfl, rfl, trivial⟩ (List.Sublist.refl _) (LSub.of_mem fun F hF => (List.mem_append.1 hF).elim (fun h1 => List.mem_append_left _ h1) (fun h2 => List.mem_append_right _ (List.mem_cons_of_mem _ h2)))
 ·refine fun x _ => ?_
  dsimp only
  refine hc_seq ?_
  refine hc_seq ?_
  refine hc_region ?_
  refine r_move rfl rfl ?_
  refine r_neq rfl rfl rfl ?_
  refine hl_nil ?_
  refine then_n ?_
  first | refine c_dec rfl (fun hb1 => ?_) (fun hb1 => ?_) | refine hc_cond rfl (fun hb1 => ?_) (fun hb1 => ?_)
  ·have hb1' := hb1; try simp at hb1'
   refine hc_seq ?_
   refine hc_region ?_
   refine r_move rfl rfl ?_
   refine r_assign rfl rfl ?_
   refine r_assign rfl rfl ?_
   refine r_assign rfl rfl ?_
   refine hl_nil ?_
   refine then_n ?_
   refine hc_ret ?_
   refine then_ret ?_
   exact ret3 () rfl rfl rfl rfl (by show Value.tuple #[int (followE (trOf cs hs) h).1, int (followE (trOf cs hs) h).2.1, int (followE (trOf cs hs) h).2.2] = _; rw [followE, if_pos hb1]) rfl trivial (List.nil_sublist _) trivial
  ·have hb1' := hb1; try simp at hb1'
   have h0 := Classical.not_not.1 hb1
   rw [if_pos h0, if_pos h0]
   have hch := ask_check h0
   have hin := ask_in h0 (List.mem_singleton.2 rfl)
   rw [hs_len] at hin
   have hok := tr_ok hch
   have h6 : cs.length ≤ 6 := hok.c6
   have h6h := hok.h6
   rw [hs_len] at h6h
   have hcl : ∀ i, i < cs.length → ClsOK cs i := hok.c
   obtain ⟨gl, ⟨oa, oc⟩, ⟨ka, kc⟩⟩ := x
   have hS := sees_ok hok
   show HC _ _ _ _ _ [Row (some ⟨gl, 0, none⟩) [.slice A cs.length ca, .slice B hs.length cb, .slice oa cs.length oc, .slice ka hs.length kc], Row oa (rows (masksN cs cs.length)), Row ka (rows (kindsN hs hs.length)), Row A (rows cs), RowsF B hs Hd.row]
   refine hc_skip ?_
   refine then_n ?_
   refine hc_seq ?_
   refine hc_region ?_
   refine r_move rfl rfl ?_
   refine r_move rfl rfl ?_
   refine hl_call F.trade_list_follow_cb rfl rfl (trade_list_follow_meets (oa := oa) (oc := oc) (ka := ka) (kc := kc) (gl := gl) cs hs h hin.1 (by omega) (by omega) hS) (List.Perm.refl _) ⟨(by repeat constructor), (by repeat constructor), trivial⟩ fun _ _ => ?_
   refine r_move rfl rfl ?_
   refine r_extract (vs := #[int ((followT (trOf cs hs) h).getD (0, 0)).1, int ((followT (trOf cs hs) h).getD (0, 0)).2, .bool (followT (trOf cs hs) h).isSome]) rfl rfl rfl ?_
   refine r_extract (vs := #[int ((followT (trOf cs hs) h).getD (0, 0)).1, int ((followT (trOf cs hs) h).getD (0, 0)).2, .bool (followT (trOf cs hs) h).isSome]) rfl rfl rfl ?_
   refine r_extract (vs := #[int ((followT (trOf cs hs) h).getD (0, 0)).1, int ((followT (trOf cs hs) h).getD (0, 0)).2, .bool (followT (trOf cs hs) h).isSome]) rfl rfl rfl ?_
   refine r_assign rfl rfl ?_
   refine r_assign rfl rfl ?_
   refine r_assign rfl rfl ?_
   refine hl_nil ?_
   refine then_n ?_
   refine hc_seq ?_
   refine hc_seq ?_
   refine hc_region ?_
   refine r_move rfl rfl ?_
   refine r_not rfl rfl ?_
   refine hl_nil ?_
   refine then_n ?_
   first | refine c_dec rfl (fun hb2 => ?_) (fun hb2 => ?_) | refine hc_cond rfl (fun hb2 => ?_) (fun hb2 => ?_)
   ·have hb2' := hb2; try simp at hb2'
    have h2 : (followT (trOf cs hs) h).isSome = false := by simpa using hb2
    refine hc_seq ?_
    refine hc_region ?_
    refine r_assign rfl rfl ?_
    refine r_assign rfl rfl ?_
    refine r_assign rfl rfl ?_
    refine hl_nil ?_
    refine then_n ?_
    refine hc_ret ?_
    refine then_ret ?_
    exact ret3 () rfl rfl rfl rfl (by show Value.tuple #[int (followE (trOf cs hs) h).1, int (followE (trOf cs hs) h).2.1, int (followE (trOf cs hs) h).2.2] = _; rw [followE, if_neg hb1, if_pos h2]) rfl trivial (List.nil_sublist _) trivial
   ·have hb2' := hb2; try simp at hb2'
    have h2 : ¬ (followT (trOf cs hs) h).isSome = false := fun e => by rw [e] at hb2; cases hb2
    refine hc_skip ?_
    refine then_n ?_
    refine hc_seq ?_
    refine hc_region ?_
    refine r_move rfl rfl ?_
    refine r_move rfl rfl ?_
    refine r_assign rfl rfl ?_
    refine r_assign rfl rfl ?_
    refine r_assign rfl rfl ?_
    refine hl_nil ?_
    refine then_n ?_
    refine hc_ret ?_
    exact ret3 () rfl rfl rfl rfl (by show Value.tuple #[int (followE (trOf cs hs) h).1, int (followE (trOf cs hs) h).2.1, int (followE (trOf cs hs) h).2.2] = _; rw [followE, if_neg hb1, if_neg h2]; rfl) rfl trivial (List.nil_sublist _) trivial

theorem trade_heads_with_meets (m i : Nat) (hm : m < 256) (hi : i < 8) : Meets Try.prog F.trade_heads_with [u8 m, int i] { val := fun _ : Unit => u8 (m ||| 2 ^ i) } := by
 refine meets_intro F.trade_heads_with_f rfl (Nat.le_of_ble_eq_true rfl) fun w0 => ?_
 refine hc_seq ?_
 refine hc_region ?_
 refine r_assign rfl rfl ?_
 refine hl_nil ?_
 refine then_n ?_
 refine hc_seq ?_
 refine hc_region ?_
 refine r_move rfl rfl ?_
 refine r_move rfl rfl ?_
 refine r_shl8 i rfl rfl rfl rfl hi ?_
 refine r_or8 rfl rfl rfl hm (Nat.pow_lt_pow_right (by omega) hi : 2 ^ i < 2 ^ 8) ?_
 refine r_assign rfl rfl ?_
 refine hl_nil ?_
 refine then_n ?_
 refine hc_ret ?_
 exact ret1 () rfl rfl rfl trivial (List.nil_sublist _) trivial

theorem trade_heads_has_meets (m i : Nat) (hm : m < 256) (hi : i < 8) : Meets Try.prog F.trade_heads_has [u8 m, int i] { val := fun _ : Unit => .bool (m.testBit i) } := by
 refine meets_intro F.trade_heads_has_f rfl (Nat.le_of_ble_eq_true rfl) fun w0 => ?_
 refine hc_seq ?_
 refine hc_region ?_
 refine r_assign rfl rfl ?_
 refine hl_nil ?_
 refine then_n ?_
 refine hc_seq ?_
 refine hc_region ?_
 refine r_move rfl rfl ?_
 refine r_move rfl rfl ?_
 refine r_shr8 i rfl rfl rfl rfl hi ?_
 refine r_and8 (b := 1) rfl rfl rfl (Nat.lt_of_le_of_lt (Nat.div_le_self _ _) hm) (by decide) ?_
 refine r_eql rfl rfl rfl ?_
 refine r_assign rfl rfl ?_
 refine hl_nil ?_
 refine then_n ?_
 refine hc_ret ?_
 exact ret1 () rfl (congrArg (fun b => some (Value.bool b)) (by exact bit_of m i)) rfl trivial (List.nil_sublist _) trivial

theorem internal_stringslite_HasPrefix_meets (s p : Str) :
    Meets Try.prog F.internal_stringslite_HasPrefix [str s, str p] { val := fun _ : Unit => .bool (decide (p.length ≤ s.length ∧ s.take p.length = p)) } := by
 refine meets_intro F.internal_stringslite_HasPrefix_f rfl (Nat.le_of_ble_eq_true rfl) fun w0 => ?_
 refine hc_seq ?_
 refine hc_region ?_
 refine r_assign rfl rfl ?_
 refine hl_nil ?_
 refine then_n ?_
 refine hc_seq ?_
 refine hc_region ?_
 refine r_move rfl rfl ?_
 refine r_len_str rfl T.u_string rfl ?_
 refine r_move rfl rfl ?_
 refine r_len_str rfl T.u_string rfl ?_
 refine r_geq rfl rfl rfl ?_
 refine r_move rfl rfl ?_
 refine g_split rfl rfl ?_ ?_
 ·intro hg1; have hg1' := hg1; try simp at hg1'
  have hle : p.length ≤ s.length := by simpa using hg1
  refine g_yes rfl rfl hg1 ?_
  refine r_move rfl rfl ?_
  refine g_yes rfl rfl hg1 ?_
  refine r_move rfl rfl ?_
  refine g_yes rfl rfl hg1 ?_
  refine r_len_str rfl T.u_string rfl ?_
  refine g_yes rfl rfl hg1 ?_
  refine r_sslice_hi p.length rfl T.u_string rfl rfl rfl (by omega) ?_
  refine g_yes rfl rfl hg1 ?_
  refine r_move rfl rfl ?_
  refine g_yes rfl rfl hg1 ?_
  refine r_seql rfl rfl rfl ?_
  refine p_t rfl rfl (bt1 hg1) rfl ?_
  refine r_assign rfl rfl ?_
  refine hl_nil ?_
  refine then_n ?_
  refine hc_ret ?_
  exact ret1 () rfl (congrArg (fun b => some (Value.bool b)) (by simp [hle])) rfl trivial (List.nil_sublist _) trivial
 ·intro hg1; have hg1' := hg1; try simp at hg1'
  have hle : ¬ p.length ≤ s.length := by simpa using hg1
  refine g_no rfl rfl rfl rfl rfl hg1 ?_
  refine g_no rfl rfl rfl rfl rfl hg1 ?_
  refine g_no rfl rfl rfl rfl rfl hg1 ?_
  refine g_no rfl rfl rfl rfl rfl hg1 ?_
  refine g_no rfl rfl rfl rfl rfl hg1 ?_
  refine g_no rfl rfl rfl rfl rfl hg1 ?_
  refine p_f rfl rfl (bf2 hg1) rfl ?_
  refine r_assign rfl rfl ?_
  refine hl_nil ?_
  refine then_n ?_
  refine hc_ret ?_
  exact ret1 () rfl (congrArg (fun b => some (Value.bool b)) (by simp [hle])) rfl trivial (List.nil_sublist _) trivial

theorem strings_HasPrefix_meets (s p : Str) :
    Meets Try.prog F.strings_HasPrefix [str s, str p] { val := fun _ : Unit => .bool (decide (p.length ≤ s.length ∧ s.take p.length = p)) } := by
 refine meets_intro F.strings_HasPrefix_f rfl (Nat.le_of_ble_eq_true rfl) fun w0 => ?_
 refine hc_seq ?_
 refine hc_region ?_
 refine r_assign rfl rfl ?_
 refine hl_nil ?_
 refine then_n ?_
 refine hc_seq ?_
 refine hc_region ?_
 refine r_move rfl rfl ?_
 refine r_move rfl rfl ?_
 refine hl_call F.internal_stringslite_HasPrefix_cb rfl rfl (internal_stringslite_HasPrefix_meets s p) (.refl _) trivial fun _ _ => ?_
 refine r_assign rfl rfl ?_
 refine hl_nil ?_
 refine then_n ?_
 refine hc_ret ?_
 exact ret1 () rfl rfl rfl trivial (.refl _) trivial

theorem pre_iff {s p : Str} : (p.length ≤ s.length ∧ s.take p.length = p) ↔ p <+: s := by
  rw [List.prefix_iff_eq_take]
  constructor
  · exact fun e => e.2.symm
  · intro e
    refine ⟨?_, e.symm⟩
    have := congrArg List.length e
    rw [List.length_take] at this
    omega
theorem leads_no {t : Tr} {b : Str} {h i : Nat} (hn : ¬ b <+: (t.hs.getD h default).1) : leadsB t b h i = false := by rw [leadsB, decide_eq_false hn, Bool.false_and]
theorem leads_none {t : Tr} {b : Str} {h i : Nat} (hn : (followT t h).isSome = false) : leadsB t b h i = false := by
  rw [leadsB]
  cases e : followT t h with
  | none => simp
  | some x => rw [e] at hn; cases hn
theorem leads_is {t : Tr} {b : Str} {h i : Nat} (hp : b <+: (t.hs.getD h default).1) (hn : (followT t h).isSome = true) : leadsB t b h i = (decide (((followT t h).getD (0, 0)).1 = (i : Int)) && isTrB t ((followT t h).getD (0, 0)).1) := by
  rw [leadsB, decide_eq_true hp, Bool.true_and]
  cases e : followT t h with
  | none => rw [e] at hn; cases hn
  | some x => rfl
theorem follow_at {t : Tr} (hok : TrOK t) {h : Nat} (hh : h < t.hs.length) (hn : (followT t h).isSome = true) : 0 ≤ ((followT t h).getD (0, 0)).1 ∧ ((followT t h).getD (0, 0)).1 < (t.hs.length : Int) := by
  cases e : followT t h with
  | none => rw [e] at hn; cases hn
  | some x => exact follow_in hok _ (h : Int) 0 x.1 x.2 (by omega) (by omega) e
theorem any_succ (f : Nat → Bool) (k : Nat) : (List.range (k + 1)).any f = ((List.range k).any f || f k) := by rw [List.range_succ, List.any_append]; simp
/-- What a beginning may mean, as a set. -/
def MaySet (t : Tr) (b : Str) (k m : Nat) : Prop := m < 256 ∧ ∀ j, m.testBit j = (List.range k).any fun h => leadsB t b h j
theorem may_same {t : Tr} {b : Str} {k m : Nat} (h : MaySet t b k m) (hn : ∀ j, leadsB t b k j = false) : MaySet t b (k + 1) m := ⟨h.1, fun j => by rw [any_succ, hn j, Bool.or_false]; exact h.2 j⟩
theorem may_more {t : Tr} {b : Str} {k m e : Nat} (h : MaySet t b k m) (he : e < 8) (hn : ∀ j, leadsB t b k j = decide (e = j)) : MaySet t b (k + 1) (m ||| 2 ^ e) := ⟨Nat.or_lt_two_pow (n := 8) h.1 (Nat.pow_lt_pow_right (by omega) he), fun j => by rw [any_succ, hn j, Nat.testBit_or, Nat.testBit_two_pow, h.2 j]⟩
def mayK (m k : Nat) : List Int := ((List.range k).filter fun i => m.testBit i).map fun i : Nat => (i : Int)
theorem mayK_succ (m k : Nat) : mayK m (k + 1) = if m.testBit k = true then mayK m k ++ [(k : Int)] else mayK m k := by
  unfold mayK
  rw [List.range_succ, List.filter_append, List.map_append]
  by_cases h : m.testBit k = true <;> simp [h]
theorem mayK_len (m k : Nat) : (mayK m k).length ≤ k := by
  unfold mayK
  rw [List.length_map]
  exact Nat.le_trans (List.length_filter_le _ _) (by simp)
theorem mayK_all {t : Tr} {b : Str} {m : Nat} (h : MaySet t b t.hs.length m) : mayK m t.hs.length = mayT t b := by
  unfold mayK mayT
  congr 1
  exact List.filter_congr fun i _ => h.2 i

set_option maxHeartbeats 1000000 in
theorem trade_list_may_meets {A B oa ka : Option Addr} {ca cb oc kc gl : Nat} (cs : List Cl) (hs : List Hd) (b : Str) (hok : TrOK (trOf cs hs)) : Meets Try.prog F.trade_list_may [.pointer (some ⟨gl, 0, none⟩), str b] { LI := [Row (some ⟨gl, 0, none⟩) [.slice A cs.length ca, .slice B hs.length cb, .slice oa cs.length oc, .slice ka hs.length kc], Row ka (rows (kindsN hs hs.length)), Row B (rows hs)], inv := fun x : OutC => (mayT (trOf cs hs) b).length ≤ x.2, val := fun x => .slice x.1 (mayT (trOf cs hs) b).length x.2, LO := fun x => [Row x.1 (rows (mayT (trOf cs hs) b))] } := by
 refine meets_intro F.trade_list_may_f rfl (Nat.le_of_ble_eq_true rfl) fun w0 => ?_
 refine hc_seq ?_
 refine hc_region ?_
 refine r_assign rfl rfl ?_
 refine hl_nil ?_
 refine then_n ?_
 refine hc_seq ?_
 have h6h := hok.h6
 have hln := hs_len cs hs
 rw [hln] at h6h
 have hS := sees_ok hok
 refine hc_region ?_
 refine r_assign rfl rfl ?_
 refine hl_nil ?_
 refine then_n ?_
 refine hc_seq ?_
 refine hc_seq ?_
 refine hc_region ?_
 refine r_move rfl rfl ?_
 refine r_nilCheck rfl rfl ?_
 first | refine r_fieldAddr ⟨_, 0, none⟩ rfl rfl T.fa_trade_list_0 rfl ?_ | refine r_fieldAddr _ rfl rfl T.fa_trade_list_0 rfl ?_
 first | refine r_fieldAddr ⟨_, 1, none⟩ rfl rfl T.fa_api_Trades_1 rfl ?_ | refine r_fieldAddr _ rfl rfl T.fa_api_Trades_1 rfl ?_
 first | refine r_load rfl T.cell_L_api_Head rfl (cell_own (by repeat constructor) rfl) ?_ | refine r_load rfl T.cell_L_api_Head rfl (cell_blk (by repeat constructor) rfl) ?_ | refine r_load rfl T.cell_L_api_Head rfl (cell_row (by repeat constructor) (rows_get0 (by omega) rfl)) ?_ | refine r_load rfl T.cell_L_api_Head rfl (cell_row_f (by repeat constructor) (rows_get (by omega) rfl)) ?_ | refine r_load rfl T.cell_L_api_Head rfl (cell_rowg (by repeat constructor) rfl) ?_
 refine r_len_sl rfl T.u_L_api_Head rfl ?_
 refine r_move rfl rfl ?_
 refine hl_nil ?_
 refine then_n ?_
 refine hc_block ?_
 refine hc_loop (β := Nat × Nat) ⟨fun x => x.1 ≤ hs.length ∧ MaySet (trOf cs hs) b x.1 x.2, fun x => [(0, .pointer (some ⟨gl, 0, none⟩)), (1, str b), (5, u8 x.2), (18, int hs.length), (17, .slice B hs.length cb), (19, int x.1)], fun _ => [], fun _ => [Row (some ⟨gl, 0, none⟩) [.slice A cs.length ca, .slice B hs.length cb, .slice oa cs.length oc, .slice ka hs.length kc], Row ka (rows (kindsN hs hs.length)), Row B (rows hs)]⟩ (fun x => hs.length - x.1) (0, 0) ⟨Nat.zero_le _, by decide, fun j => by simp⟩ ⟨rfl, rfl, rfl, rfl, rfl, rfl, trivial⟩ (List.nil_sublist _) ⟨(by repeat constructor), (by repeat constructor), (by repeat constructor), trivial⟩ fun x hx => ?_
 obtain ⟨k, m⟩ := x
 obtain ⟨hk, hM⟩ := hx
 simp only at hk hM
 refine hc_seq ?_
 refine hc_region ?_
 refine r_lss rfl rfl rfl ?_
 refine hl_nil ?_
 refine then_n ?_
 refine hc_seq ?_
 first | refine c_dec rfl (fun hb1 => ?_) (fun hb1 => ?_) | refine hc_cond rfl (fun hb1 => ?_) (fun hb1 => ?_)
 ·have hb1' := hb1; try simp at hb1'
  have hk2 : k < hs.length := by omega
  have hgd : ((trOf cs hs).hs.getD k default).1 = (hs.getD k default).1 := by show ((hs.map Hd.p).getD k default).1 = _; rw [hd_get hk2]; rfl
  refine hc_skip ?_
  refine then_n ?_
  refine hc_seq ?_
  refine hc_block ?_
  refine hc_seq ?_
  refine hc_region ?_
  refine r_move rfl rfl ?_
  refine r_elem (α := Hd) hs k rfl T.u_L_api_Head T.sz_api_Head rfl rfl rfl (by repeat constructor) rfl hk2 (by decide) ?_
  refine r_loadS rfl T.row_api_Head T.sz_api_Head rfl rfl (cells_row (by repeat constructor) (rows_all (by omega))) ?_
  refine r_alloc rfl (fun _ => T.al_api_Head _) fun gA => ?_
  refine r_assign rfl rfl ?_
  refine r_storeS rfl rfl (by first | exact .refl _ | exact perm2 _ _ _ | exact perm3 _ _ _ _ | exact perm4 _ _ _ _ _) T.sz_api_Head (by rfl) (by rfl) ?_
  refine hl_nil ?_
  refine then_n ?_
  refine hc_seq ?_
  refine hc_seq ?_
  refine hc_letgo (rows [hs.getD k default]) ⟨[], List.append_nil _⟩ ?_
  refine hc_region ?_
  first | refine r_fieldAddr ⟨_, 0, none⟩ rfl rfl T.fa_api_Head_0 rfl ?_ | refine r_fieldAddr _ rfl rfl T.fa_api_Head_0 rfl ?_
  first | refine r_load rfl T.cell_string rfl (cell_own (by repeat constructor) rfl) ?_ | refine r_load rfl T.cell_string rfl (cell_blk (by repeat constructor) rfl) ?_ | refine r_load rfl T.cell_string rfl (cell_row (by repeat constructor) (rows_get0 (by omega) rfl)) ?_ | refine r_load rfl T.cell_string rfl (cell_row_f (by repeat constructor) (rows_get (by omega) rfl)) ?_ | refine r_load rfl T.cell_string rfl (cell_rowg (by repeat constructor) rfl) ?_
  refine r_move rfl rfl ?_
  refine hl_call F.strings_HasPrefix_cb rfl rfl (strings_HasPrefix_meets (hs.getD k default).1 b) (List.Perm.refl _) trivial fun _ _ => ?_
  refine r_not rfl rfl ?_
  refine hl_nil ?_
  refine then_n ?_
  first | refine c_dec rfl (fun hb2 => ?_) (fun hb2 => ?_) | refine hc_cond rfl (fun hb2 => ?_) (fun hb2 => ?_)
  ·have hb2' := hb2; try simp at hb2'
   have hp : ¬ b <+: ((trOf cs hs).hs.getD k default).1 := by rw [hgd]; exact fun e => by rw [decide_eq_true (pre_iff.2 e)] at hb2; cases hb2
   refine hc_exit ?_
   refine then_exit ?_
   refine inb_hit ?_
   refine then_n ?_
   refine hc_region ?_
   refine r_add _ rfl rfl rfl rfl (by unfold I64; omega) ?_
   refine r_move rfl rfl ?_
   refine hl_nil ?_
   exact again _ (k + 1, m) ⟨by show k + 1 ≤ hs.length; omega, by exact may_same hM fun j => leads_no hp⟩ (by show hs.length - (k + 1) < hs.length - k; omega) ⟨rfl, rfl, rfl, rfl, rfl, rfl, trivial⟩ (List.nil_sublist _) ⟨(by repeat constructor), (by repeat constructor), (by repeat constructor), trivial⟩
  ·have hb2' := hb2; try simp at hb2'
   have hp : b <+: ((trOf cs hs).hs.getD k default).1 := by rw [hgd]; exact Classical.byContradiction fun e => by rw [decide_eq_false (fun f => e (pre_iff.1 f))] at hb2; cases hb2
   refine hc_skip ?_
   refine then_n ?_
   refine hc_seq ?_
   refine hc_region ?_
   refine r_move rfl rfl ?_
   refine r_move rfl rfl ?_
   refine hl_call F.trade_list_follow_cb rfl rfl (trade_list_follow_meets (oa := oa) (oc := oc) (ka := ka) (kc := kc) (gl := gl) cs hs (k : Int) (by omega) (by omega) (by omega) hS) (List.Perm.refl _) ⟨(by repeat constructor), (by repeat constructor), trivial⟩ fun _ _ => ?_
   refine r_move rfl rfl ?_
   refine r_extract (vs := #[int ((followT (trOf cs hs) (k : Int)).getD (0, 0)).1, int ((followT (trOf cs hs) (k : Int)).getD (0, 0)).2, .bool (followT (trOf cs hs) (k : Int)).isSome]) rfl rfl rfl ?_
   refine r_extract (vs := #[int ((followT (trOf cs hs) (k : Int)).getD (0, 0)).1, int ((followT (trOf cs hs) (k : Int)).getD (0, 0)).2, .bool (followT (trOf cs hs) (k : Int)).isSome]) rfl rfl rfl ?_
   refine r_extract (vs := #[int ((followT (trOf cs hs) (k : Int)).getD (0, 0)).1, int ((followT (trOf cs hs) (k : Int)).getD (0, 0)).2, .bool (followT (trOf cs hs) (k : Int)).isSome]) rfl rfl rfl ?_
   refine r_assign rfl rfl ?_
   refine r_assign rfl rfl ?_
   refine r_assign rfl rfl ?_
   refine hl_nil ?_
   refine then_n ?_
   refine hc_seq ?_
   refine hc_region ?_
   refine r_move rfl rfl ?_
   refine r_move rfl rfl ?_
   refine g_split rfl rfl ?_ ?_
   ·intro hg1; have hg1' := hg1; try simp at hg1'
    have hs1 : (followT (trOf cs hs) (k : Int)).isSome = true := bt1 hg1
    have hat := follow_at hok (by rw [hln]; exact hk2) hs1
    rw [hln] at hat
    have hL := fun i => leads_is (i := i) hp hs1
    refine g_yes rfl rfl hg1 ?_
    refine r_move rfl rfl ?_
    refine g_yes rfl rfl hg1 ?_
    refine r_move rfl rfl ?_
    refine g_yes rfl rfl hg1 ?_
    refine hl_call F.trade_list_isTrade_cb rfl rfl (trade_list_isTrade_meets (oa := oa) (oc := oc) (ka := ka) (kc := kc) (gl := gl) (A := A) (B := B) (ca := ca) (cb := cb) cs hs ((followT (trOf cs hs) (k : Int)).getD (0, 0)).1 hat.1 hat.2 (by omega)) (List.Perm.refl _) ⟨(by repeat constructor), (by repeat constructor), trivial⟩ fun _ _ => ?_
    refine p_t rfl rfl (bt1 hg1) rfl ?_
    refine hl_nil ?_
    refine then_n ?_
    first | refine c_dec rfl (fun hb3 => ?_) (fun hb3 => ?_) | refine hc_cond rfl (fun hb3 => ?_) (fun hb3 => ?_)
    ·have hb3' := hb3; try simp at hb3'
     obtain ⟨en, hen⟩ := Int.eq_ofNat_of_zero_le hat.1
     refine hc_region ?_
     refine r_move rfl rfl ?_
     refine r_move (v := int (en : Int)) rfl (congrArg (fun z => some (int z)) hen) ?_
     refine hl_call F.trade_heads_with_cb rfl rfl (trade_heads_with_meets m en hM.1 (by omega)) (List.Perm.refl _) trivial fun _ _ => ?_
     refine r_assign rfl rfl ?_
     refine hl_nil ?_
     refine inb_n ?_
     refine then_n ?_
     refine hc_region ?_
     refine r_add _ rfl rfl rfl rfl (by unfold I64; omega) ?_
     refine r_move rfl rfl ?_
     refine hl_nil ?_
     exact again _ (k + 1, m ||| 2 ^ en) ⟨by show k + 1 ≤ hs.length; omega, by exact may_more hM (by omega) fun j => by rw [hL j, hb3, Bool.and_true]; exact decide_eq_decide.2 (by omega)⟩ (by show hs.length - (k + 1) < hs.length - k; omega) ⟨rfl, rfl, rfl, rfl, rfl, rfl, trivial⟩ (List.nil_sublist _) ⟨(by repeat constructor), (by repeat constructor), (by repeat constructor), trivial⟩
    ·have hb3' := hb3; try simp at hb3'
     refine hc_skip ?_
     refine inb_n ?_
     refine then_n ?_
     refine hc_region ?_
     refine r_add _ rfl rfl rfl rfl (by unfold I64; omega) ?_
     refine r_move rfl rfl ?_
     refine hl_nil ?_
     exact again _ (k + 1, m) ⟨by show k + 1 ≤ hs.length; omega, by exact may_same hM fun j => by rw [hL j, hb3, Bool.and_false]⟩ (by show hs.length - (k + 1) < hs.length - k; omega) ⟨rfl, rfl, rfl, rfl, rfl, rfl, trivial⟩ (List.nil_sublist _) ⟨(by repeat constructor), (by repeat constructor), (by repeat constructor), trivial⟩
   ·intro hg1; have hg1' := hg1; try simp at hg1'
    have hs1 : (followT (trOf cs hs) (k : Int)).isSome = false := bf2 hg1
    refine g_no rfl rfl rfl rfl rfl hg1 ?_
    refine g_no rfl rfl rfl rfl rfl hg1 ?_
    refine g_no rfl rfl rfl rfl rfl hg1 ?_
    refine p_f rfl rfl (bf2 hg1) rfl ?_
    refine hl_nil ?_
    refine then_n ?_
    refine c_f rfl rfl ?_
    refine hc_skip ?_
    refine inb_n ?_
    refine then_n ?_
    refine hc_region ?_
    refine r_add _ rfl rfl rfl rfl (by unfold I64; omega) ?_
    refine r_move rfl rfl ?_
    refine hl_nil ?_
    exact again _ (k + 1, m) ⟨by show k + 1 ≤ hs.length; omega, by exact may_same hM fun j => leads_none hs1⟩ (by show hs.length - (k + 1) < hs.length - k; omega) ⟨rfl, rfl, rfl, rfl, rfl, rfl, trivial⟩ (List.nil_sublist _) ⟨(by repeat constructor), (by repeat constructor), (by repeat constructor), trivial⟩
 ·have hb1' := hb1; try simp at hb1'
  have hk2 : k = hs.length := by omega
  subst hk2
  rw [← hln] at hM
  have hA := mayK_all hM
  rw [hln] at hA
  refine hc_exit ?_
  refine then_exit ?_
  refine then_exit ?_
  refine inb_hit ?_
  refine then_n ?_
  refine hc_seq ?_
  refine hc_region ?_
  refine r_assign rfl rfl ?_
  refine hl_nil ?_
  refine then_n ?_
  refine hc_seq ?_
  refine hc_seq ?_
  refine hc_region ?_
  refine r_move rfl rfl ?_
  refine r_nilCheck rfl rfl ?_
  first | refine r_fieldAddr ⟨_, 0, none⟩ rfl rfl T.fa_trade_list_0 rfl ?_ | refine r_fieldAddr _ rfl rfl T.fa_trade_list_0 rfl ?_
  first | refine r_fieldAddr ⟨_, 1, none⟩ rfl rfl T.fa_api_Trades_1 rfl ?_ | refine r_fieldAddr _ rfl rfl T.fa_api_Trades_1 rfl ?_
  first | refine r_load rfl T.cell_L_api_Head rfl (cell_own (by repeat constructor) rfl) ?_ | refine r_load rfl T.cell_L_api_Head rfl (cell_blk (by repeat constructor) rfl) ?_ | refine r_load rfl T.cell_L_api_Head rfl (cell_row (by repeat constructor) (rows_get0 (by omega) rfl)) ?_ | refine r_load rfl T.cell_L_api_Head rfl (cell_row_f (by repeat constructor) (rows_get (by omega) rfl)) ?_ | refine r_load rfl T.cell_L_api_Head rfl (cell_rowg (by repeat constructor) rfl) ?_
  refine r_len_sl rfl T.u_L_api_Head rfl ?_
  refine r_move rfl rfl ?_
  refine hl_nil ?_
  refine then_n ?_
  refine hc_block ?_
  refine hc_loop (β := Nat × OutC × Hp) ⟨fun x => x.1 ≤ hs.length ∧ Grow T.int 1 x.2.1.1 (mayK m x.1).length x.2.1.2 (rows (mayK m x.1)) x.2.2, fun x => [(5, u8 m), (11, .slice x.2.1.1 (mayK m x.1).length x.2.1.2), (51, int hs.length), (52, int x.1)], fun x => x.2.2, fun _ => []⟩ (fun x => hs.length - x.1) (0, (none, 0), []) ⟨Nat.zero_le _, Grow.nil _ _⟩ ⟨rfl, rfl, rfl, rfl, trivial⟩ (List.nil_sublist _) trivial fun x hx => ?_
  obtain ⟨k, ⟨na, nc⟩, og⟩ := x
  obtain ⟨hk, hG⟩ := hx
  simp only at hk hG
  refine hc_seq ?_
  refine hc_region ?_
  refine r_lss rfl rfl rfl ?_
  refine hl_nil ?_
  refine then_n ?_
  refine hc_seq ?_
  first | refine c_dec rfl (fun hb4 => ?_) (fun hb4 => ?_) | refine hc_cond rfl (fun hb4 => ?_) (fun hb4 => ?_)
  ·have hb4' := hb4; try simp at hb4'
   have hk2 : k < hs.length := by omega
   have hml := mayK_len m k
   refine hc_skip ?_
   refine then_n ?_
   refine hc_seq ?_
   refine hc_block ?_
   refine hc_seq ?_
   refine hc_region ?_
   refine r_move rfl rfl ?_
   refine r_assign rfl rfl ?_
   refine hl_nil ?_
   refine then_n ?_
   refine hc_seq ?_
   refine hc_region ?_
   refine r_move rfl rfl ?_
   refine r_move rfl rfl ?_
   refine hl_call F.trade_heads_has_cb rfl rfl (trade_heads_has_meets m k hM.1 (by omega)) (List.Perm.refl _) trivial fun _ _ => ?_
   refine hl_nil ?_
   refine then_n ?_
   first | refine c_dec rfl (fun hb5 => ?_) (fun hb5 => ?_) | refine hc_cond rfl (fun hb5 => ?_) (fun hb5 => ?_)
   ·have hb5' := hb5; try simp at hb5'
    refine hc_region ?_
    refine r_move rfl rfl ?_
    refine r_move rfl rfl ?_
    refine r_buildSlice _ rfl rfl (fun _ => T.bs_ints_1 ..) fun gS => ?_
    refine hl_letgo (rows [(k : Int)]) (List.prefix_refl _) ?_
    refine r_append ((mayK m k).length + 1) (rows (mayK m k ++ [(k : Int)])) T.el_ints rfl rfl rfl hG (hp' := []) (by rw [List.append_nil]; exact List.Perm.refl _) (Src.row (news := rows [(k : Int)]) (m := 1) m0 rfl (rows_one _) (by decide)) rfl (rows_append _ _).symm (by unfold maxLen; omega) (by omega) fun A' c' og' hG' => ?_
    refine r_assign rfl rfl ?_
    refine hl_nil ?_
    refine inb_n ?_
    refine then_n ?_
    refine hc_region ?_
    refine r_add _ rfl rfl rfl rfl (by unfold I64; omega) ?_
    refine r_move rfl rfl ?_
    refine hl_nil ?_
    exact again _ (k + 1, (A', c'), og') ⟨by show k + 1 ≤ hs.length; omega, by show Grow _ _ _ (mayK m (k + 1)).length _ (rows (mayK m (k + 1))) _; rw [mayK_succ, if_pos hb5, List.length_append]; exact hG'⟩ (by show hs.length - (k + 1) < hs.length - k; omega) ⟨rfl, by show some (Value.slice A' ((mayK m k).length + 1) c') = some (Value.slice A' (mayK m (k + 1)).length c'); rw [mayK_succ, if_pos hb5, List.length_append]; rfl, rfl, rfl, trivial⟩ (List.sublist_append_left _ _) trivial
   ·have hb5' := hb5; try simp at hb5'
    refine hc_skip ?_
    refine inb_n ?_
    refine then_n ?_
    refine hc_region ?_
    refine r_add _ rfl rfl rfl rfl (by unfold I64; omega) ?_
    refine r_move rfl rfl ?_
    refine hl_nil ?_
    exact again _ (k + 1, (na, nc), og) ⟨by show k + 1 ≤ hs.length; omega, by show Grow _ _ _ (mayK m (k + 1)).length _ (rows (mayK m (k + 1))) _; rw [mayK_succ, if_neg (by rw [hb5]; decide)]; exact hG⟩ (by show hs.length - (k + 1) < hs.length - k; omega) ⟨rfl, by show some (Value.slice na (mayK m k).length nc) = some (Value.slice na (mayK m (k + 1)).length nc); rw [mayK_succ, if_neg (by rw [hb5]; decide)], rfl, rfl, trivial⟩ (List.Sublist.refl _) trivial
  ·have hb4' := hb4; try simp at hb4'
   have hk2 : k = hs.length := by omega
   subst hk2
   have hG2 := hG
   rw [hA] at hG2
   refine hc_exit ?_
   refine then_exit ?_
   refine then_exit ?_
   refine inb_hit ?_
   refine then_n ?_
   refine hc_seq ?_
   refine hc_region ?_
   refine r_move rfl rfl ?_
   refine r_assign rfl rfl ?_
   refine hl_nil ?_
   refine then_n ?_
   refine hc_ret ?_
   refine hq_grown0 hG2 ?_
   exact ret1 (na, nc) rfl (by show some (Value.slice na (mayK m hs.length).length nc) = some (Value.slice na (mayT (trOf cs hs) b).length nc); rw [hA]) rfl hG2.le (List.nil_sublist _) ⟨m0, trivial⟩

end Go.Proofs.Ytlpgheniajdkfaa
