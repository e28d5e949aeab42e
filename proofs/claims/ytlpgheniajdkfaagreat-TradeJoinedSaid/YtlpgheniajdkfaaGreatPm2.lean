/- Follow, May, Short, paths, names, words, dice, lists. -/
import Derived.Test.YtlpgheniajdkfaaGreatPm1
import Derived.Test.YtlpgheniajdkfaaGreatPb
import Derived.Lib.Bytealg
namespace Go.Proofs.YtlpgheniajdkfaaGreat
open Go Go.W
set_option linter.unusedVariables false
set_option linter.unusedSimpArgs false
set_option maxRecDepth 20000
attribute [local irreducible] HL HC HQ HB Row Rows2 Blk Facts

def followE (t : Tr) (h : Int) : Int × Int × Int := if ¬ askE t [h] = 0 then (0, 0, askE t [h]) else if (followT t h).isSome = false then (0, 0, 9) else (((followT t h).getD (0, 0)).1, ((followT t h).getD (0, 0)).2, 0)

theorem trade_Follow_meets {A B : Option Addr} {ca cb : Nat} (cs : List Cl) (hs : List Hd) (h : Int) (hca : cs.length ≤ ca) (hcb : hs.length ≤ cb) (ha : ∀ h ∈ hs, h.2.2.2.l.length ≤ 1000000) : Meets Tryz.prog F.trade_Follow [.agg #[.slice A cs.length ca, .slice B hs.length cb], int h] { LI := [Row A (rows cs), RowsF B hs Hd.row], val := fun _ : Unit => .tuple #[int (followE (trOf cs hs) h).1, int (followE (trOf cs hs) h).2.1, int (followE (trOf cs hs) h).2.2] } := by
 refine meets_intro F.trade_Follow_f rfl (Nat.le_of_ble_eq_true rfl) fun w0 => ?_
 refine hc_seq (hc_region ?_)
 refine r_box rfl rfl fun gB => ?_
 refine r_assign rfl rfl (r_assign rfl rfl (r_assign rfl rfl (hl_nil (then_n ?_))))
 refine hc_cut ⟨fun _ : Nat × OutC × OutC => True, fun x => [(1, int h), (2, .pointer (some ⟨gB, 0, none⟩)), (7, if askE (trOf cs hs) [h] = 0 then .pointer (some ⟨x.1, 0, none⟩) else .pointer none), (6, int (askE (trOf cs hs) [h]))], fun _ => [(gB, .cells #[.slice A cs.length ca, .slice B hs.length cb] T.api_Trades (0, 0))], fun x => (if askE (trOf cs hs) [h] = 0 then beginL cs hs A ca B cb x else []) ++ [Row A (rows cs), RowsF B hs Hd.row]⟩ ?_ ?_
 ·skip
  refine hc_region ?_
  refine r_loadA rfl T.row_api_Trades T.sz_api_Trades rfl (by repeat constructor) (by rfl) ?_
  refine r_move rfl rfl ?_
  refine r_buildSlice _ rfl rfl (fun _ => T.bs_ints_1 ..) fun gS => ?_
  refine hl_letgo (rows [h]) (List.prefix_refl _) ?_
  refine hl_call F.trade_ask_cb rfl rfl (trade_ask_meets cs hs [h] hca hcb ha (by simp)) (List.Perm.refl _) ⟨(by repeat constructor), (by repeat constructor), (by repeat constructor), trivial⟩ fun x _ => ?_
  refine r_move rfl rfl (r_extract rfl rfl rfl (r_extract rfl rfl rfl (r_assign rfl rfl (r_assign rfl rfl (hl_nil ?_)))))
  exact cut_n _ x trivial ⟨rfl, rfl, rfl, rfl, trivial⟩ (List.Sublist.refl _) (LSub.of_mem fun F hF => (List.mem_append.1 hF).elim (fun h1 => List.mem_append_left _ h1) (fun h2 => List.mem_append_right _ (List.mem_cons_of_mem _ h2)))
 ·refine fun x _ => ?_
  dsimp only
  refine hc_seq (hc_seq (hc_region (r_move rfl rfl (r_neq rfl rfl rfl (hl_nil (then_n ?_))))))
  refine c_dec rfl (fun hb1 => ?_) (fun hb1 => ?_)
  ·have hb1' := hb1; try simp at hb1'
   refine hc_seq (hc_region (r_move rfl rfl (r_assign rfl rfl (r_assign rfl rfl (r_assign rfl rfl (hl_nil (then_n (hc_ret (then_ret ?_)))))))))
   exact ret3 () rfl rfl rfl rfl (by show Value.tuple #[int (followE (trOf cs hs) h).1, int (followE (trOf cs hs) h).2.1, int (followE (trOf cs hs) h).2.2] = _; rw [followE, if_pos hb1]) rfl trivial (List.nil_sublist _) trivial
  ·have hb1' := hb1; try simp at hb1'
   have h0 := Classical.not_not.1 hb1
   rw [if_pos h0, if_pos h0]
   have hch := ask_check h0
   have hin := ask_in h0 (List.mem_singleton.2 rfl)
   rw [hs_len] at hin
   have hok := tr_ok hch
   have h6 : cs.length ≤ 6 := hok.c6
   have h6h := hok.h6
   rw [hs_len] at h6h
   have hcl : ∀ i, i < cs.length → ClsOK cs i := hok.c
   obtain ⟨gl, ⟨oa, oc⟩, ⟨ka, kc⟩⟩ := x
   have hS := sees_ok hok
   show HC _ _ _ _ _ [Row (some ⟨gl, 0, none⟩) [.slice A cs.length ca, .slice B hs.length cb, .slice oa cs.length oc, .slice ka hs.length kc], Row oa (rows (masksN cs cs.length)), Row ka (rows (kindsN hs hs.length)), Row A (rows cs), RowsF B hs Hd.row]
   refine hc_skip (then_n (hc_seq (hc_region (r_move rfl rfl (r_move rfl rfl ?_)))))
   refine hl_call F.trade_list_follow_cb rfl rfl (trade_list_follow_meets (oa := oa) (oc := oc) (ka := ka) (kc := kc) (gl := gl) cs hs h hin.1 (by omega) (by omega) hS) (List.Perm.refl _) ⟨(by repeat constructor), (by repeat constructor), trivial⟩ fun _ _ => ?_
   refine r_move rfl rfl ?_
   refine r_extract (vs := #[int ((followT (trOf cs hs) h).getD (0, 0)).1, int ((followT (trOf cs hs) h).getD (0, 0)).2, .bool (followT (trOf cs hs) h).isSome]) rfl rfl rfl ?_
   refine r_extract (vs := #[int ((followT (trOf cs hs) h).getD (0, 0)).1, int ((followT (trOf cs hs) h).getD (0, 0)).2, .bool (followT (trOf cs hs) h).isSome]) rfl rfl rfl ?_
   refine r_extract (vs := #[int ((followT (trOf cs hs) h).getD (0, 0)).1, int ((followT (trOf cs hs) h).getD (0, 0)).2, .bool (followT (trOf cs hs) h).isSome]) rfl rfl rfl ?_
   refine r_assign rfl rfl (r_assign rfl rfl (r_assign rfl rfl (hl_nil (then_n (hc_seq (hc_seq (hc_region (r_move rfl rfl (r_not rfl rfl (hl_nil (then_n ?_)))))))))))
   refine hc_cond rfl (fun hb2 => ?_) (fun hb2 => ?_)
   ·have hb2' := hb2; try simp at hb2'
    have h2 : (followT (trOf cs hs) h).isSome = false := by simpa using hb2
    refine hc_seq (hc_region (r_assign rfl rfl (r_assign rfl rfl (r_assign rfl rfl (hl_nil (then_n (hc_ret (then_ret ?_))))))))
    exact ret3 () rfl rfl rfl rfl (by show Value.tuple #[int (followE (trOf cs hs) h).1, int (followE (trOf cs hs) h).2.1, int (followE (trOf cs hs) h).2.2] = _; rw [followE, if_neg hb1, if_pos h2]) rfl trivial (List.nil_sublist _) trivial
   ·have hb2' := hb2; try simp at hb2'
    have h2 : ¬ (followT (trOf cs hs) h).isSome = false := fun e => by rw [e] at hb2; cases hb2
    refine hc_skip (then_n (hc_seq (hc_region (r_move rfl rfl (r_move rfl rfl (r_assign rfl rfl (r_assign rfl rfl (r_assign rfl rfl (hl_nil (then_n (hc_ret ?_)))))))))))
    exact ret3 () rfl rfl rfl rfl (by show Value.tuple #[int (followE (trOf cs hs) h).1, int (followE (trOf cs hs) h).2.1, int (followE (trOf cs hs) h).2.2] = _; rw [followE, if_neg hb1, if_neg h2]; rfl) rfl trivial (List.nil_sublist _) trivial

theorem trade_heads_with_meets (m i : Nat) (hm : m < 256) (hi : i < 8) : Meets Tryz.prog F.trade_heads_with [u8 m, int i] { val := fun _ : Unit => u8 (m ||| 2 ^ i) } := by
 refine meets_intro F.trade_heads_with_f rfl (Nat.le_of_ble_eq_true rfl) fun w0 => ?_
 refine hc_seq (hc_region (r_assign rfl rfl (hl_nil (then_n (hc_seq (hc_region (r_move rfl rfl (r_move rfl rfl (r_shl8 i rfl rfl rfl rfl hi ?_)))))))))
 refine r_or8 rfl rfl rfl hm (Nat.pow_lt_pow_right (by omega) hi : 2 ^ i < 2 ^ 8) ?_
 refine r_assign rfl rfl (hl_nil (then_n (hc_ret ?_)))
 exact ret1 () rfl rfl rfl trivial (List.nil_sublist _) trivial

theorem trade_heads_has_meets (m i : Nat) (hm : m < 256) (hi : i < 8) : Meets Tryz.prog F.trade_heads_has [u8 m, int i] { val := fun _ : Unit => .bool (m.testBit i) } := by
 refine meets_intro F.trade_heads_has_f rfl (Nat.le_of_ble_eq_true rfl) fun w0 => ?_
 refine hc_seq (hc_region (r_assign rfl rfl (hl_nil (then_n (hc_seq (hc_region (r_move rfl rfl (r_move rfl rfl (r_shr8 i rfl rfl rfl rfl hi ?_)))))))))
 refine r_and8 (b := 1) rfl rfl rfl (Nat.lt_of_le_of_lt (Nat.div_le_self _ _) hm) (by decide) ?_
 refine r_eql rfl rfl rfl (r_assign rfl rfl (hl_nil (then_n (hc_ret ?_))))
 exact ret1 () rfl (congrArg (fun b => some (Value.bool b)) (by exact bit_of m i)) rfl trivial (List.nil_sublist _) trivial

theorem internal_stringslite_HasPrefix_meets (s p : Str) :
    Meets Tryz.prog F.internal_stringslite_HasPrefix [str s, str p] { val := fun _ : Unit => .bool (decide (p.length ≤ s.length ∧ s.take p.length = p)) } := by
 refine meets_intro F.internal_stringslite_HasPrefix_f rfl (Nat.le_of_ble_eq_true rfl) fun w0 => ?_
 refine hc_seq (hc_region (r_assign rfl rfl (hl_nil (then_n (hc_seq (hc_region (r_move rfl rfl ?_)))))))
 refine r_len_str rfl T.u_string rfl ?_
 refine r_move rfl rfl ?_
 refine r_len_str rfl T.u_string rfl ?_
 refine r_geq rfl rfl rfl (r_move rfl rfl ?_)
 refine g_split rfl rfl ?_ ?_
 ·intro hg1; have hg1' := hg1; try simp at hg1'
  have hle : p.length ≤ s.length := by simpa using hg1
  refine g_yes rfl rfl hg1 (r_move rfl rfl (g_yes rfl rfl hg1 (r_move rfl rfl (g_yes rfl rfl hg1 ?_))))
  refine r_len_str rfl T.u_string rfl ?_
  refine g_yes rfl rfl hg1 ?_
  refine r_sslice_hi p.length rfl T.u_string rfl rfl rfl (by omega) ?_
  refine g_yes rfl rfl hg1 (r_move rfl rfl (g_yes rfl rfl hg1 (r_seql rfl rfl rfl ?_)))
  refine p_t rfl rfl (bt1 hg1) rfl ?_
  refine r_assign rfl rfl (hl_nil (then_n (hc_ret ?_)))
  exact ret1 () rfl (congrArg (fun b => some (Value.bool b)) (by simp [hle])) rfl trivial (List.nil_sublist _) trivial
 ·intro hg1; have hg1' := hg1; try simp at hg1'
  have hle : ¬ p.length ≤ s.length := by simpa using hg1
  refine g_no rfl rfl rfl rfl rfl hg1 (g_no rfl rfl rfl rfl rfl hg1 (g_no rfl rfl rfl rfl rfl hg1 (g_no rfl rfl rfl rfl rfl hg1 (g_no rfl rfl rfl rfl rfl hg1 (g_no rfl rfl rfl rfl rfl hg1 ?_)))))
  refine p_f rfl rfl (bf2 hg1) rfl ?_
  refine r_assign rfl rfl (hl_nil (then_n (hc_ret ?_)))
  exact ret1 () rfl (congrArg (fun b => some (Value.bool b)) (by simp [hle])) rfl trivial (List.nil_sublist _) trivial

theorem strings_HasPrefix_meets (s p : Str) :
    Meets Tryz.prog F.strings_HasPrefix [str s, str p] { val := fun _ : Unit => .bool (decide (p.length ≤ s.length ∧ s.take p.length = p)) } := by
 refine meets_intro F.strings_HasPrefix_f rfl (Nat.le_of_ble_eq_true rfl) fun w0 => ?_
 refine hc_seq (hc_region (r_assign rfl rfl (hl_nil (then_n (hc_seq (hc_region (r_move rfl rfl (r_move rfl rfl ?_))))))))
 refine hl_call F.internal_stringslite_HasPrefix_cb rfl rfl (internal_stringslite_HasPrefix_meets s p) (.refl _) trivial fun _ _ => ?_
 refine r_assign rfl rfl (hl_nil (then_n (hc_ret ?_)))
 exact ret1 () rfl rfl rfl trivial (.refl _) trivial

theorem pre_iff {s p : Str} : (p.length ≤ s.length ∧ s.take p.length = p) ↔ p <+: s := by
  rw [List.prefix_iff_eq_take]
  constructor
  · exact fun e => e.2.symm
  · intro e
    refine ⟨?_, e.symm⟩
    have := congrArg List.length e
    rw [List.length_take] at this
    omega
theorem leads_no {t : Tr} {b : Str} {h i : Nat} (hn : ¬ b <+: (t.hs.getD h default).1) : leadsB t b h i = false := by rw [leadsB, decide_eq_false hn, Bool.false_and]
theorem leads_none {t : Tr} {b : Str} {h i : Nat} (hn : (followT t h).isSome = false) : leadsB t b h i = false := by
  rw [leadsB]
  cases e : followT t h with
  | none => simp
  | some x => rw [e] at hn; cases hn
theorem leads_is {t : Tr} {b : Str} {h i : Nat} (hp : b <+: (t.hs.getD h default).1) (hn : (followT t h).isSome = true) : leadsB t b h i = (decide (((followT t h).getD (0, 0)).1 = (i : Int)) && isTrB t ((followT t h).getD (0, 0)).1) := by
  rw [leadsB, decide_eq_true hp, Bool.true_and]
  cases e : followT t h with
  | none => rw [e] at hn; cases hn
  | some x => rfl
theorem follow_at {t : Tr} (hok : TrOK t) {h : Nat} (hh : h < t.hs.length) (hn : (followT t h).isSome = true) : 0 ≤ ((followT t h).getD (0, 0)).1 ∧ ((followT t h).getD (0, 0)).1 < (t.hs.length : Int) := by
  cases e : followT t h with
  | none => rw [e] at hn; cases hn
  | some x => exact follow_in hok _ (h : Int) 0 x.1 x.2 (by omega) (by omega) e
theorem any_succ (f : Nat → Bool) (k : Nat) : (List.range (k + 1)).any f = ((List.range k).any f || f k) := by rw [List.range_succ, List.any_append]; simp
/-- What a beginning may mean, as a set. -/
def MaySet (t : Tr) (b : Str) (k m : Nat) : Prop := m < 256 ∧ ∀ j, m.testBit j = (List.range k).any fun h => leadsB t b h j
theorem may_same {t : Tr} {b : Str} {k m : Nat} (h : MaySet t b k m) (hn : ∀ j, leadsB t b k j = false) : MaySet t b (k + 1) m := ⟨h.1, fun j => by rw [any_succ, hn j, Bool.or_false]; exact h.2 j⟩
theorem may_more {t : Tr} {b : Str} {k m e : Nat} (h : MaySet t b k m) (he : e < 8) (hn : ∀ j, leadsB t b k j = decide (e = j)) : MaySet t b (k + 1) (m ||| 2 ^ e) := ⟨Nat.or_lt_two_pow (n := 8) h.1 (Nat.pow_lt_pow_right (by omega) he), fun j => by rw [any_succ, hn j, Nat.testBit_or, Nat.testBit_two_pow, h.2 j]⟩
def mayK (m k : Nat) : List Int := ((List.range k).filter fun i => m.testBit i).map fun i : Nat => (i : Int)
theorem mayK_succ (m k : Nat) : mayK m (k + 1) = if m.testBit k = true then mayK m k ++ [(k : Int)] else mayK m k := by
  unfold mayK
  rw [List.range_succ, List.filter_append, List.map_append]
  by_cases h : m.testBit k = true <;> simp [h]
theorem mayK_len (m k : Nat) : (mayK m k).length ≤ k := by
  unfold mayK
  rw [List.length_map]
  exact Nat.le_trans (List.length_filter_le _ _) (by simp)
theorem mayK_all {t : Tr} {b : Str} {m : Nat} (h : MaySet t b t.hs.length m) : mayK m t.hs.length = mayT t b := by
  unfold mayK mayT
  congr 1
  exact List.filter_congr fun i _ => h.2 i

set_option maxHeartbeats 1000000 in
theorem trade_list_may_meets {A B oa ka : Option Addr} {ca cb oc kc gl : Nat} (cs : List Cl) (hs : List Hd) (b : Str) (hok : TrOK (trOf cs hs)) : Meets Tryz.prog F.trade_list_may [.pointer (some ⟨gl, 0, none⟩), str b] { LI := [Row (some ⟨gl, 0, none⟩) [.slice A cs.length ca, .slice B hs.length cb, .slice oa cs.length oc, .slice ka hs.length kc], Row ka (rows (kindsN hs hs.length)), Row B (rows hs)], inv := fun x : OutC => (mayT (trOf cs hs) b).length ≤ x.2, val := fun x => .slice x.1 (mayT (trOf cs hs) b).length x.2, LO := fun x => [Row x.1 (rows (mayT (trOf cs hs) b))] } := by
 refine meets_intro F.trade_list_may_f rfl (Nat.le_of_ble_eq_true rfl) fun w0 => ?_
 refine hc_seq (hc_region (r_assign rfl rfl (hl_nil (then_n (hc_seq ?_)))))
 have h6h := hok.h6
 have hln := hs_len cs hs
 rw [hln] at h6h
 have hS := sees_ok hok
 refine hc_region (r_assign rfl rfl (hl_nil (then_n (hc_seq (hc_seq (hc_region (r_move rfl rfl (r_nilCheck rfl rfl ?_))))))))
 refine r_fieldAddr ⟨_, 0, none⟩ rfl rfl T.fa_trade_list_0 rfl ?_
 refine r_fieldAddr ⟨_, 1, none⟩ rfl rfl T.fa_api_Trades_1 rfl ?_
 refine r_load rfl T.cell_L_api_Head rfl (cell_rowg (by repeat constructor) rfl) ?_
 refine r_len_sl rfl T.u_L_api_Head rfl ?_
 refine r_move rfl rfl (hl_nil (then_n (hc_block ?_)))
 refine hc_loop (β := Nat × Nat) ⟨fun x => x.1 ≤ hs.length ∧ MaySet (trOf cs hs) b x.1 x.2, fun x => [(0, .pointer (some ⟨gl, 0, none⟩)), (1, str b), (5, u8 x.2), (18, int hs.length), (17, .slice B hs.length cb), (19, int x.1)], fun _ => [], fun _ => [Row (some ⟨gl, 0, none⟩) [.slice A cs.length ca, .slice B hs.length cb, .slice oa cs.length oc, .slice ka hs.length kc], Row ka (rows (kindsN hs hs.length)), Row B (rows hs)]⟩ (fun x => hs.length - x.1) (0, 0) ⟨Nat.zero_le _, by decide, fun j => by simp⟩ ⟨rfl, rfl, rfl, rfl, rfl, rfl, trivial⟩ (List.nil_sublist _) ⟨(by repeat constructor), (by repeat constructor), (by repeat constructor), trivial⟩ fun x hx => ?_
 obtain ⟨k, m⟩ := x
 obtain ⟨hk, hM⟩ := hx
 simp only at hk hM
 refine hc_seq (hc_region (r_lss rfl rfl rfl (hl_nil (then_n (hc_seq ?_)))))
 refine c_dec rfl (fun hb1 => ?_) (fun hb1 => ?_)
 ·have hb1' := hb1; try simp at hb1'
  have hk2 : k < hs.length := by omega
  have hgd : ((trOf cs hs).hs.getD k default).1 = (hs.getD k default).1 := by show ((hs.map Hd.p).getD k default).1 = _; rw [hd_get hk2]; rfl
  refine hc_skip (then_n (hc_seq (hc_block (hc_seq (hc_region (r_move rfl rfl ?_))))))
  refine r_elem (α := Hd) hs k rfl T.u_L_api_Head T.sz_api_Head rfl rfl rfl (by repeat constructor) rfl hk2 (by decide) ?_
  refine r_loadS rfl T.row_api_Head T.sz_api_Head rfl rfl (cells_row (by repeat constructor) (rows_all (by omega))) ?_
  refine r_alloc rfl (fun _ => T.al_api_Head _) fun gA => ?_
  refine r_assign rfl rfl ?_
  refine r_storeS rfl rfl (by first | exact .refl _ | exact perm2 _ _ _ | exact perm3 _ _ _ _ | exact perm4 _ _ _ _ _) T.sz_api_Head (by rfl) (by rfl) ?_
  refine hl_nil (then_n (hc_seq (hc_seq ?_)))
  refine hc_letgo (rows [hs.getD k default]) ⟨[], List.append_nil _⟩ ?_
  refine hc_region ?_
  refine r_fieldAddr ⟨_, 0, none⟩ rfl rfl T.fa_api_Head_0 rfl ?_
  refine r_load rfl T.cell_string rfl (cell_rowg (by repeat constructor) rfl) ?_
  refine r_move rfl rfl ?_
  refine hl_call F.strings_HasPrefix_cb rfl rfl (strings_HasPrefix_meets (hs.getD k default).1 b) (List.Perm.refl _) trivial fun _ _ => ?_
  refine r_not rfl rfl (hl_nil (then_n ?_))
  refine hc_cond rfl (fun hb2 => ?_) (fun hb2 => ?_)
  ·have hb2' := hb2; try simp at hb2'
   have hp : ¬ b <+: ((trOf cs hs).hs.getD k default).1 := by rw [hgd]; exact fun e => by rw [decide_eq_true (pre_iff.2 e)] at hb2; cases hb2
   refine hc_exit (then_exit (inb_hit (then_n (hc_region ?_))))
   refine r_add _ rfl rfl rfl rfl (by unfold I64; omega) ?_
   refine r_move rfl rfl (hl_nil ?_)
   exact again _ (k + 1, m) ⟨by show k + 1 ≤ hs.length; omega, by exact may_same hM fun j => leads_no hp⟩ (by show hs.length - (k + 1) < hs.length - k; omega) ⟨rfl, rfl, rfl, rfl, rfl, rfl, trivial⟩ (List.nil_sublist _) ⟨(by repeat constructor), (by repeat constructor), (by repeat constructor), trivial⟩
  ·have hb2' := hb2; try simp at hb2'
   have hp : b <+: ((trOf cs hs).hs.getD k default).1 := by rw [hgd]; exact Classical.byContradiction fun e => by rw [decide_eq_false (fun f => e (pre_iff.1 f))] at hb2; cases hb2
   refine hc_skip (then_n (hc_seq (hc_region (r_move rfl rfl (r_move rfl rfl ?_)))))
   refine hl_call F.trade_list_follow_cb rfl rfl (trade_list_follow_meets (oa := oa) (oc := oc) (ka := ka) (kc := kc) (gl := gl) cs hs (k : Int) (by omega) (by omega) (by omega) hS) (List.Perm.refl _) ⟨(by repeat constructor), (by repeat constructor), trivial⟩ fun _ _ => ?_
   refine r_move rfl rfl ?_
   refine r_extract (vs := #[int ((followT (trOf cs hs) (k : Int)).getD (0, 0)).1, int ((followT (trOf cs hs) (k : Int)).getD (0, 0)).2, .bool (followT (trOf cs hs) (k : Int)).isSome]) rfl rfl rfl ?_
   refine r_extract (vs := #[int ((followT (trOf cs hs) (k : Int)).getD (0, 0)).1, int ((followT (trOf cs hs) (k : Int)).getD (0, 0)).2, .bool (followT (trOf cs hs) (k : Int)).isSome]) rfl rfl rfl ?_
   refine r_extract (vs := #[int ((followT (trOf cs hs) (k : Int)).getD (0, 0)).1, int ((followT (trOf cs hs) (k : Int)).getD (0, 0)).2, .bool (followT (trOf cs hs) (k : Int)).isSome]) rfl rfl rfl ?_
   refine r_assign rfl rfl (r_assign rfl rfl (r_assign rfl rfl (hl_nil (then_n (hc_seq (hc_region (r_move rfl rfl (r_move rfl rfl ?_))))))))
   refine g_split rfl rfl ?_ ?_
   ·intro hg1; have hg1' := hg1; try simp at hg1'
    have hs1 : (followT (trOf cs hs) (k : Int)).isSome = true := bt1 hg1
    have hat := follow_at hok (by rw [hln]; exact hk2) hs1
    rw [hln] at hat
    have hL := fun i => leads_is (i := i) hp hs1
    refine g_yes rfl rfl hg1 (r_move rfl rfl (g_yes rfl rfl hg1 (r_move rfl rfl (g_yes rfl rfl hg1 ?_))))
    refine hl_call F.trade_list_isTrade_cb rfl rfl (trade_list_isTrade_meets (oa := oa) (oc := oc) (ka := ka) (kc := kc) (gl := gl) (A := A) (B := B) (ca := ca) (cb := cb) cs hs ((followT (trOf cs hs) (k : Int)).getD (0, 0)).1 hat.1 hat.2 (by omega)) (List.Perm.refl _) ⟨(by repeat constructor), (by repeat constructor), trivial⟩ fun _ _ => ?_
    refine p_t rfl rfl (bt1 hg1) rfl ?_
    refine hl_nil (then_n ?_)
    refine hc_cond rfl (fun hb3 => ?_) (fun hb3 => ?_)
    ·have hb3' := hb3; try simp at hb3'
     obtain ⟨en, hen⟩ := Int.eq_ofNat_of_zero_le hat.1
     refine hc_region (r_move rfl rfl ?_)
     refine r_move (v := int (en : Int)) rfl (congrArg (fun z => some (int z)) hen) ?_
     refine hl_call F.trade_heads_with_cb rfl rfl (trade_heads_with_meets m en hM.1 (by omega)) (List.Perm.refl _) trivial fun _ _ => ?_
     refine r_assign rfl rfl (hl_nil (inb_n (then_n (hc_region ?_))))
     refine r_add _ rfl rfl rfl rfl (by unfold I64; omega) ?_
     refine r_move rfl rfl (hl_nil ?_)
     exact again _ (k + 1, m ||| 2 ^ en) ⟨by show k + 1 ≤ hs.length; omega, by exact may_more hM (by omega) fun j => by rw [hL j, hb3, Bool.and_true]; exact decide_eq_decide.2 (by omega)⟩ (by show hs.length - (k + 1) < hs.length - k; omega) ⟨rfl, rfl, rfl, rfl, rfl, rfl, trivial⟩ (List.nil_sublist _) ⟨(by repeat constructor), (by repeat constructor), (by repeat constructor), trivial⟩
    ·have hb3' := hb3; try simp at hb3'
     refine hc_skip (inb_n (then_n (hc_region ?_)))
     refine r_add _ rfl rfl rfl rfl (by unfold I64; omega) ?_
     refine r_move rfl rfl (hl_nil ?_)
     exact again _ (k + 1, m) ⟨by show k + 1 ≤ hs.length; omega, by exact may_same hM fun j => by rw [hL j, hb3, Bool.and_false]⟩ (by show hs.length - (k + 1) < hs.length - k; omega) ⟨rfl, rfl, rfl, rfl, rfl, rfl, trivial⟩ (List.nil_sublist _) ⟨(by repeat constructor), (by repeat constructor), (by repeat constructor), trivial⟩
   ·intro hg1; have hg1' := hg1; try simp at hg1'
    have hs1 : (followT (trOf cs hs) (k : Int)).isSome = false := bf2 hg1
    refine g_no rfl rfl rfl rfl rfl hg1 (g_no rfl rfl rfl rfl rfl hg1 (g_no rfl rfl rfl rfl rfl hg1 ?_))
    refine p_f rfl rfl (bf2 hg1) rfl ?_
    refine hl_nil (then_n (c_f rfl rfl (hc_skip (inb_n (then_n (hc_region ?_))))))
    refine r_add _ rfl rfl rfl rfl (by unfold I64; omega) ?_
    refine r_move rfl rfl (hl_nil ?_)
    exact again _ (k + 1, m) ⟨by show k + 1 ≤ hs.length; omega, by exact may_same hM fun j => leads_none hs1⟩ (by show hs.length - (k + 1) < hs.length - k; omega) ⟨rfl, rfl, rfl, rfl, rfl, rfl, trivial⟩ (List.nil_sublist _) ⟨(by repeat constructor), (by repeat constructor), (by repeat constructor), trivial⟩
 ·have hb1' := hb1; try simp at hb1'
  have hk2 : k = hs.length := by omega
  subst hk2
  rw [← hln] at hM
  have hA := mayK_all hM
  rw [hln] at hA
  refine hc_exit (then_exit (then_exit (inb_hit (then_n (hc_seq (hc_region (r_assign rfl rfl (hl_nil (then_n (hc_seq (hc_seq ?_)))))))))))
  refine hc_region (r_move rfl rfl (r_nilCheck rfl rfl ?_))
  refine r_fieldAddr ⟨_, 0, none⟩ rfl rfl T.fa_trade_list_0 rfl ?_
  refine r_fieldAddr ⟨_, 1, none⟩ rfl rfl T.fa_api_Trades_1 rfl ?_
  refine r_load rfl T.cell_L_api_Head rfl (cell_rowg (by repeat constructor) rfl) ?_
  refine r_len_sl rfl T.u_L_api_Head rfl ?_
  refine r_move rfl rfl (hl_nil (then_n (hc_block ?_)))
  refine hc_loop (β := Nat × OutC × Hp) ⟨fun x => x.1 ≤ hs.length ∧ Grow T.int 1 x.2.1.1 (mayK m x.1).length x.2.1.2 (rows (mayK m x.1)) x.2.2, fun x => [(5, u8 m), (11, .slice x.2.1.1 (mayK m x.1).length x.2.1.2), (51, int hs.length), (52, int x.1)], fun x => x.2.2, fun _ => []⟩ (fun x => hs.length - x.1) (0, (none, 0), []) ⟨Nat.zero_le _, Grow.nil _ _⟩ ⟨rfl, rfl, rfl, rfl, trivial⟩ (List.nil_sublist _) trivial fun x hx => ?_
  obtain ⟨k, ⟨na, nc⟩, og⟩ := x
  obtain ⟨hk, hG⟩ := hx
  simp only at hk hG
  refine hc_seq (hc_region (r_lss rfl rfl rfl (hl_nil (then_n (hc_seq ?_)))))
  refine c_dec rfl (fun hb4 => ?_) (fun hb4 => ?_)
  ·have hb4' := hb4; try simp at hb4'
   have hk2 : k < hs.length := by omega
   have hml := mayK_len m k
   refine hc_skip (then_n (hc_seq (hc_block (hc_seq (hc_region (r_move rfl rfl (r_assign rfl rfl (hl_nil (then_n (hc_seq (hc_region ?_)))))))))))
   refine r_move rfl rfl (r_move rfl rfl ?_)
   refine hl_call F.trade_heads_has_cb rfl rfl (trade_heads_has_meets m k hM.1 (by omega)) (List.Perm.refl _) trivial fun _ _ => ?_
   refine hl_nil (then_n ?_)
   refine hc_cond rfl (fun hb5 => ?_) (fun hb5 => ?_)
   ·have hb5' := hb5; try simp at hb5'
    refine hc_region (r_move rfl rfl (r_move rfl rfl ?_))
    refine r_buildSlice _ rfl rfl (fun _ => T.bs_ints_1 ..) fun gS => ?_
    refine hl_letgo (rows [(k : Int)]) (List.prefix_refl _) ?_
    refine r_append ((mayK m k).length + 1) (rows (mayK m k ++ [(k : Int)])) T.el_ints rfl rfl rfl hG (hp' := []) (by rw [List.append_nil]; exact List.Perm.refl _) (Src.row (news := rows [(k : Int)]) (m := 1) m0 rfl (rows_one _) (by decide)) rfl (rows_append _ _).symm (by unfold maxLen; omega) (by omega) fun A' c' og' hG' => ?_
    refine r_assign rfl rfl (hl_nil (inb_n (then_n (hc_region ?_))))
    refine r_add _ rfl rfl rfl rfl (by unfold I64; omega) ?_
    refine r_move rfl rfl (hl_nil ?_)
    exact again _ (k + 1, (A', c'), og') ⟨by show k + 1 ≤ hs.length; omega, by show Grow _ _ _ (mayK m (k + 1)).length _ (rows (mayK m (k + 1))) _; rw [mayK_succ, if_pos hb5, List.length_append]; exact hG'⟩ (by show hs.length - (k + 1) < hs.length - k; omega) ⟨rfl, by show some (Value.slice A' ((mayK m k).length + 1) c') = some (Value.slice A' (mayK m (k + 1)).length c'); rw [mayK_succ, if_pos hb5, List.length_append]; rfl, rfl, rfl, trivial⟩ (List.sublist_append_left _ _) trivial
   ·have hb5' := hb5; try simp at hb5'
    refine hc_skip (inb_n (then_n (hc_region ?_)))
    refine r_add _ rfl rfl rfl rfl (by unfold I64; omega) ?_
    refine r_move rfl rfl (hl_nil ?_)
    exact again _ (k + 1, (na, nc), og) ⟨by show k + 1 ≤ hs.length; omega, by show Grow _ _ _ (mayK m (k + 1)).length _ (rows (mayK m (k + 1))) _; rw [mayK_succ, if_neg (by rw [hb5]; decide)]; exact hG⟩ (by show hs.length - (k + 1) < hs.length - k; omega) ⟨rfl, by show some (Value.slice na (mayK m k).length nc) = some (Value.slice na (mayK m (k + 1)).length nc); rw [mayK_succ, if_neg (by rw [hb5]; decide)], rfl, rfl, trivial⟩ (List.Sublist.refl _) trivial
  ·have hb4' := hb4; try simp at hb4'
   have hk2 : k = hs.length := by omega
   subst hk2
   have hG2 := hG
   rw [hA] at hG2
   refine hc_exit (then_exit (then_exit (inb_hit (then_n (hc_seq (hc_region (r_move rfl rfl (r_assign rfl rfl (hl_nil (then_n (hc_ret ?_)))))))))))
   refine hq_grown0 hG2 ?_
   exact ret1 (na, nc) rfl (by show some (Value.slice na (mayK m hs.length).length nc) = some (Value.slice na (mayT (trOf cs hs) b).length nc); rw [hA]) rfl hG2.le (List.nil_sublist _) ⟨m0, trivial⟩

def mayE (t : Tr) (b : Str) : List Int × Int := if ¬ checkT t = 0 then ([], checkT t) else (mayT t b, 0)

theorem trade_May_meets {A B : Option Addr} {ca cb : Nat} (cs : List Cl) (hs : List Hd) (b : Str) (hca : cs.length ≤ ca) (hcb : hs.length ≤ cb) (ha : ∀ h ∈ hs, h.2.2.2.l.length ≤ 1000000) : Meets Tryz.prog F.trade_May [.agg #[.slice A cs.length ca, .slice B hs.length cb], str b] { LI := [Row A (rows cs), RowsF B hs Hd.row], inv := fun x : OutC => (mayE (trOf cs hs) b).1.length ≤ x.2, val := fun x => .tuple #[.slice x.1 (mayE (trOf cs hs) b).1.length x.2, int (mayE (trOf cs hs) b).2], LO := fun x => [Row x.1 (rows (mayE (trOf cs hs) b).1)] } := by
 refine meets_intro F.trade_May_f rfl (Nat.le_of_ble_eq_true rfl) fun w0 => ?_
 refine hc_seq (hc_region ?_)
 refine r_box rfl rfl fun gB => ?_
 refine r_assign rfl rfl (r_assign rfl rfl (hl_nil (then_n ?_)))
 refine hc_cut ⟨fun _ : Nat × OutC × OutC => True, fun x => [(1, str b), (2, .pointer (some ⟨gB, 0, none⟩)), (6, if checkT (trOf cs hs) = 0 then .pointer (some ⟨x.1, 0, none⟩) else .pointer none), (7, int (checkT (trOf cs hs)))], fun _ => [(gB, .cells #[.slice A cs.length ca, .slice B hs.length cb] T.api_Trades (0, 0))], fun x => (if checkT (trOf cs hs) = 0 then beginL cs hs A ca B cb x else []) ++ [Row A (rows cs), RowsF B hs Hd.row]⟩ ?_ ?_
 ·skip
  refine hc_region ?_
  refine r_loadA rfl T.row_api_Trades T.sz_api_Trades rfl (by repeat constructor) (by rfl) ?_
  refine hl_call F.trade_begin_cb rfl rfl (trade_begin_meets cs hs hca hcb ha) (List.Perm.refl _) ⟨(by repeat constructor), (by repeat constructor), trivial⟩ fun x _ => ?_
  refine r_move rfl rfl (r_extract rfl rfl rfl (r_extract rfl rfl rfl (r_assign rfl rfl (r_assign rfl rfl (hl_nil ?_)))))
  exact cut_n _ x trivial ⟨rfl, rfl, rfl, rfl, trivial⟩ (List.Sublist.refl _) (LSub.of_mem fun F h => h)
 ·refine fun x _ => ?_
  dsimp only
  refine hc_seq (hc_seq (hc_region (r_move rfl rfl (r_neq rfl rfl rfl (hl_nil (then_n ?_))))))
  refine c_dec rfl (fun hb1 => ?_) (fun hb1 => ?_)
  ·have hb1' := hb1; try simp at hb1'
   have hE : mayE (trOf cs hs) b = ([], checkT (trOf cs hs)) := by rw [mayE, if_pos hb1]
   refine hc_seq (hc_region (r_move rfl rfl (r_assign rfl rfl (r_assign rfl rfl (hl_nil (then_n (hc_ret (then_ret ?_))))))))
   refine hq_nilrow (α := Int) ?_
   exact ret2 (none, 0) rfl rfl rfl (by show Value.tuple #[.slice none (mayE (trOf cs hs) b).1.length 0, int (mayE (trOf cs hs) b).2] = _; rw [hE]; rfl) rfl (by show (mayE (trOf cs hs) b).1.length ≤ 0; rw [hE]; exact Nat.le_refl _) (List.nil_sublist _) (by show LSub _ [Row none (rows (mayE (trOf cs hs) b).1)]; rw [hE]; exact ⟨m0, trivial⟩)
  ·have hb1' := hb1; try simp at hb1'
   have h0 := Classical.not_not.1 hb1
   rw [if_pos h0, if_pos h0]
   have hok := tr_ok h0
   have h6 : cs.length ≤ 6 := hok.c6
   have h6h := hok.h6
   rw [hs_len] at h6h
   have hcl : ∀ i, i < cs.length → ClsOK cs i := hok.c
   obtain ⟨gl, ⟨oa, oc⟩, ⟨ka, kc⟩⟩ := x
   have hE : mayE (trOf cs hs) b = (mayT (trOf cs hs) b, 0) := by rw [mayE, if_neg hb1]
   show HC _ _ _ _ _ [Row (some ⟨gl, 0, none⟩) [.slice A cs.length ca, .slice B hs.length cb, .slice oa cs.length oc, .slice ka hs.length kc], Row oa (rows (masksN cs cs.length)), Row ka (rows (kindsN hs hs.length)), Row A (rows cs), RowsF B hs Hd.row]
   refine hc_outerF (by repeat constructor) ?_
   refine hc_skip (then_n (hc_seq (hc_region (r_move rfl rfl (r_move rfl rfl ?_)))))
   refine hl_call F.trade_list_may_cb rfl rfl (trade_list_may_meets (A := A) (B := B) (oa := oa) (oc := oc) (ka := ka) (kc := kc) (gl := gl) (ca := ca) (cb := cb) cs hs (b) hok) (List.Perm.refl _) ⟨(by repeat constructor), (by repeat constructor), (by repeat constructor), trivial⟩ fun y hy => ?_
   refine r_assign rfl rfl (r_assign rfl rfl (hl_nil (then_n (hc_ret ?_))))
   exact ret2 y rfl rfl rfl (by show Value.tuple #[.slice y.1 (mayE (trOf cs hs) b).1.length y.2, int (mayE (trOf cs hs) b).2] = _; rw [hE]) rfl (by show (mayE (trOf cs hs) b).1.length ≤ y.2; rw [hE]; exact hy) (List.nil_sublist _) (by show LSub _ [Row y.1 (rows (mayE (trOf cs hs) b).1)]; rw [hE]; exact ⟨m0, trivial⟩)

theorem next_az {s : Str} (h : s.all azB = true) {k : Nat} (hk : k < s.length) : nextP s k = k + 1 := by
  have h1 := List.all_eq_true.1 h _ (List.getElem_mem hk)
  simp only [azB, Bool.and_eq_true, decide_eq_true_eq] at h1
  rw [nextP, if_pos hk, dec_small (List.getElem?_eq_getElem hk) (by omega)]
theorem word_az {s : Str} (h : wordB s = true) : s.all azB = true := by
  unfold wordB at h
  simp only [Bool.and_eq_true] at h
  exact h.2.2.2.2
theorem word_12 {s : Str} (h : wordB s = true) : s.length ≤ 12 := by
  unfold wordB at h
  simp only [Bool.and_eq_true, decide_eq_true_eq] at h
  exact h.2.1
theorem head_word {cs : List Cl} {hs : List Hd} (hok : TrOK (trOf cs hs)) {i : Nat} (hi : i < hs.length) : wordB (hs.getD i default).1 = true := by
  have := (hok.h i (by rw [hs_len]; exact hi)).w
  simp only [trOf, hd_get hi] at this
  exact this
theorem shortT_of {cs : List Cl} {hs : List Hd} {h : Int} (h0 : 0 ≤ h) (hh : h < (hs.length : Int)) : shortT (trOf cs hs) h = shortN (trOf cs hs) (hs.getD h.toNat default).1 ((hs.getD h.toNat default).1.length + 1) 0 := by
  unfold shortT
  simp only [trOf, hd_get (show h.toNat < hs.length by omega)]
  rfl
def shortE (t : Tr) (h : Int) : Str × Int := if ¬ askE t [h] = 0 then ([], askE t [h]) else match shortT t h with | none => ([], 11) | some s => (s, 0)

theorem trade_list_short_meets {A B oa ka : Option Addr} {ca cb oc kc gl : Nat} (cs : List Cl) (hs : List Hd) (h : Int) (h0 : 0 ≤ h) (hh : h < (hs.length : Int)) (hok : TrOK (trOf cs hs)) : Meets Tryz.prog F.trade_list_short [.pointer (some ⟨gl, 0, none⟩), int h] { LI := [Row (some ⟨gl, 0, none⟩) [.slice A cs.length ca, .slice B hs.length cb, .slice oa cs.length oc, .slice ka hs.length kc], Row ka (rows (kindsN hs hs.length)), Row B (rows hs)], val := fun _ : Unit => .tuple #[str ((shortT (trOf cs hs) h).getD (hs.getD h.toNat default).1), .bool (shortT (trOf cs hs) h).isSome] } := by
 refine meets_intro F.trade_list_short_f rfl (Nat.le_of_ble_eq_true rfl) fun w0 => ?_
 refine hc_seq (hc_region (r_assign rfl rfl (r_assign rfl rfl (hl_nil (then_n (hc_seq (hc_region (r_move rfl rfl (r_nilCheck rfl rfl ?_)))))))))
 refine r_fieldAddr ⟨_, 0, none⟩ rfl rfl T.fa_trade_list_0 rfl ?_
 refine r_fieldAddr ⟨_, 1, none⟩ rfl rfl T.fa_api_Trades_1 rfl ?_
 refine r_load rfl T.cell_L_api_Head rfl (cell_rowg (by repeat constructor) rfl) ?_
 refine r_move rfl rfl ?_
 refine r_elem (α := Hd) hs h.toNat rfl T.u_L_api_Head T.sz_api_Head rfl rfl (Int.toNat_of_nonneg h0).symm (by repeat constructor) rfl (by omega) (by decide) ?_
 refine r_fieldAddr _ rfl rfl T.fa_api_Head_0 rfl ?_
 refine r_load (v := str (hs.getD h.toNat default).1) rfl T.cell_string rfl (cell_row (by repeat constructor) (rows_get0 (by omega) rfl)) ?_
 refine r_assign rfl rfl (hl_nil (then_n (hc_seq (hc_seq ?_))))
 have hw := head_word hok (show h.toNat < hs.length by omega)
 have haz := word_az hw
 have h12 := word_12 hw
 have hT := shortT_of (cs := cs) h0 hh
 -- (hs.getD h.toNat default).1 = s at *
 refine hc_region (r_move rfl rfl ?_)
 refine r_rangeS rfl T.u_string rfl fun gI => ?_
 refine hl_nil (then_n (hc_block ?_))
 refine hc_loop (β := Nat) ⟨fun k => k ≤ (hs.getD h.toNat default).1.length ∧ shortT (trOf cs hs) h = shortN (trOf cs hs) (hs.getD h.toNat default).1 ((hs.getD h.toNat default).1.length + 1 - k) k, fun k => [(0, .pointer (some ⟨gl, 0, none⟩)), (6, str (hs.getD h.toNat default).1), (18, .pointer (some ⟨gI, 0, none⟩))], fun k => [(gI, iter (hs.getD h.toNat default).1 k)], fun _ => [Row (some ⟨gl, 0, none⟩) [.slice A cs.length ca, .slice B hs.length cb, .slice oa cs.length oc, .slice ka hs.length kc], Row ka (rows (kindsN hs hs.length)), Row B (rows hs)]⟩ (fun k => (hs.getD h.toNat default).1.length - k) 0 ⟨Nat.zero_le _, hT⟩ ⟨rfl, rfl, rfl, trivial⟩ (List.Sublist.refl _) ⟨(by repeat constructor), (by repeat constructor), (by repeat constructor), trivial⟩ fun k hk => ?_
 obtain ⟨hk, ht⟩ := hk
 refine hc_seq (hc_region ?_)
 refine r_nextS rfl rfl (.refl _) ?_
 refine r_ext0 rfl rfl (hl_nil (then_n (hc_seq ?_)))
 refine c_dec rfl (fun hb1 => ?_) (fun hb1 => ?_)
 ·have hb1' := hb1; try simp at hb1'
  rw [show (hs.getD h.toNat default).1.length + 1 - k = ((hs.getD h.toNat default).1.length - k) + 1 by omega, shortN] at ht
  have hnx := next_az haz hb1
  refine hc_skip (then_n (hc_block (hc_seq (hc_region (r_ext1 rfl rfl hb1 (r_assign rfl rfl (hl_nil (then_n (hc_seq (hc_region (r_move rfl rfl ?_)))))))))))
  refine r_move rfl rfl (r_move rfl rfl ?_)
  refine r_sslice_hi k rfl T.u_string rfl rfl rfl (by omega) ?_
  refine hl_call F.trade_list_may_cb rfl rfl (trade_list_may_meets (A := A) (B := B) (oa := oa) (oc := oc) (ka := ka) (kc := kc) (gl := gl) (ca := ca) (cb := cb) cs hs ((hs.getD h.toNat default).1.take k) hok) (List.Perm.refl _) ⟨(by repeat constructor), (by repeat constructor), (by repeat constructor), trivial⟩ fun y hy => ?_
  refine r_len_sl rfl T.u_ints rfl ?_
  refine r_eql rfl rfl rfl (hl_nil (then_n ?_))
  refine c_dec rfl (fun hb2 => ?_) (fun hb2 => ?_)
  ·have hb2' := hb2; try simp at hb2'
   rw [if_pos (by omega)] at ht
   refine hc_seq (hc_region (r_move rfl rfl (r_move rfl rfl ?_)))
   refine r_sslice_hi k rfl T.u_string rfl rfl rfl (by omega) ?_
   refine r_assign rfl rfl (r_assign rfl rfl (hl_nil (then_n (hc_ret (inb_ret (then_ret (inb_ret (then_ret ?_))))))))
   exact ret2 () rfl rfl rfl (by show Value.tuple #[str ((shortT (trOf cs hs) h).getD (hs.getD h.toNat default).1), .bool (shortT (trOf cs hs) h).isSome] = _; rw [ht]; rfl) rfl trivial (List.nil_sublist _) trivial
  ·have hb2' := hb2; try simp at hb2'
   rw [if_neg (by omega)] at ht
   refine hc_skip (inb_n ?_)
   refine again _ (k + 1) ⟨by omega, by rw [ht, show (hs.getD h.toNat default).1.length + 1 - (k + 1) = (hs.getD h.toNat default).1.length - k by omega]⟩ (by show (hs.getD h.toNat default).1.length - (k + 1) < (hs.getD h.toNat default).1.length - k; omega) ⟨rfl, rfl, rfl, trivial⟩ ?_ ⟨(by repeat constructor), (by repeat constructor), (by repeat constructor), trivial⟩
   rw [hnx]
   exact (List.Sublist.refl _)
 ·have hb1' := hb1; try simp at hb1'
  have hk2 : k = (hs.getD h.toNat default).1.length := by omega
  rw [hk2, show (hs.getD h.toNat default).1.length + 1 - (hs.getD h.toNat default).1.length = 0 + 1 by omega, shortN, List.take_length] at ht
  refine hc_exit (then_exit (then_exit (inb_hit (then_n (hc_seq (hc_region (r_move rfl rfl (r_move rfl rfl (r_move rfl rfl ?_)))))))))
  refine hl_call F.trade_list_may_cb rfl rfl (trade_list_may_meets (A := A) (B := B) (oa := oa) (oc := oc) (ka := ka) (kc := kc) (gl := gl) (ca := ca) (cb := cb) cs hs (hs.getD h.toNat default).1 hok) (List.Perm.refl _) ⟨(by repeat constructor), (by repeat constructor), (by repeat constructor), trivial⟩ fun y hy => ?_
  refine r_len_sl rfl T.u_ints rfl ?_
  refine r_eql rfl rfl rfl (r_assign rfl rfl (r_assign rfl rfl (hl_nil (then_n (hc_ret ?_)))))
  have hv : ((shortT (trOf cs hs) h).getD (hs.getD h.toNat default).1, (shortT (trOf cs hs) h).isSome) = ((hs.getD h.toNat default).1, decide (((mayT (trOf cs hs) (hs.getD h.toNat default).1).length : Int) = 1)) := by
    rw [ht]
    by_cases h1 : (mayT (trOf cs hs) (hs.getD h.toNat default).1).length = 1
    · rw [if_pos h1, decide_eq_true (by omega)]; rfl
    · rw [if_neg h1, shortN, decide_eq_false (by omega)]; rfl
  exact ret2 () rfl rfl rfl (by show Value.tuple #[str ((shortT (trOf cs hs) h).getD (hs.getD h.toNat default).1), .bool (shortT (trOf cs hs) h).isSome] = _; rw [show (shortT (trOf cs hs) h).getD (hs.getD h.toNat default).1 = (hs.getD h.toNat default).1 from congrArg Prod.fst hv, show (shortT (trOf cs hs) h).isSome = _ from congrArg Prod.snd hv]) rfl trivial (List.nil_sublist _) trivial

theorem trade_Short_meets {A B : Option Addr} {ca cb : Nat} (cs : List Cl) (hs : List Hd) (h : Int) (hca : cs.length ≤ ca) (hcb : hs.length ≤ cb) (ha : ∀ h ∈ hs, h.2.2.2.l.length ≤ 1000000) : Meets Tryz.prog F.trade_Short [.agg #[.slice A cs.length ca, .slice B hs.length cb], int h] { LI := [Row A (rows cs), RowsF B hs Hd.row], val := fun _ : Unit => .tuple #[str (shortE (trOf cs hs) h).1, int (shortE (trOf cs hs) h).2] } := by
 refine meets_intro F.trade_Short_f rfl (Nat.le_of_ble_eq_true rfl) fun w0 => ?_
 refine hc_seq (hc_region ?_)
 refine r_box rfl rfl fun gB => ?_
 refine r_assign rfl rfl (r_assign rfl rfl (hl_nil (then_n ?_)))
 refine hc_cut ⟨fun _ : Nat × OutC × OutC => True, fun x => [(1, int h), (2, .pointer (some ⟨gB, 0, none⟩)), (6, if askE (trOf cs hs) [h] = 0 then .pointer (some ⟨x.1, 0, none⟩) else .pointer none), (7, int (askE (trOf cs hs) [h]))], fun _ => [(gB, .cells #[.slice A cs.length ca, .slice B hs.length cb] T.api_Trades (0, 0))], fun x => (if askE (trOf cs hs) [h] = 0 then beginL cs hs A ca B cb x else []) ++ [Row A (rows cs), RowsF B hs Hd.row]⟩ ?_ ?_
 ·skip
  refine hc_region ?_
  refine r_loadA rfl T.row_api_Trades T.sz_api_Trades rfl (by repeat constructor) (by rfl) ?_
  refine r_move rfl rfl ?_
  refine r_buildSlice _ rfl rfl (fun _ => T.bs_ints_1 ..) fun gS => ?_
  refine hl_letgo (rows [h]) (List.prefix_refl _) ?_
  refine hl_call F.trade_ask_cb rfl rfl (trade_ask_meets cs hs [h] hca hcb ha (by simp)) (List.Perm.refl _) ⟨(by repeat constructor), (by repeat constructor), (by repeat constructor), trivial⟩ fun x _ => ?_
  refine r_move rfl rfl (r_extract rfl rfl rfl (r_extract rfl rfl rfl (r_assign rfl rfl (r_assign rfl rfl (hl_nil ?_)))))
  exact cut_n _ x trivial ⟨rfl, rfl, rfl, rfl, trivial⟩ (List.Sublist.refl _) (LSub.of_mem fun F hF => (List.mem_append.1 hF).elim (fun h1 => List.mem_append_left _ h1) (fun h2 => List.mem_append_right _ (List.mem_cons_of_mem _ h2)))
 ·refine fun x _ => ?_
  dsimp only
  refine hc_seq (hc_seq (hc_region (r_move rfl rfl (r_neq rfl rfl rfl (hl_nil (then_n ?_))))))
  refine c_dec rfl (fun hb1 => ?_) (fun hb1 => ?_)
  ·have hb1' := hb1; try simp at hb1'
   refine hc_seq (hc_region (r_move rfl rfl (r_assign rfl rfl (r_assign rfl rfl (hl_nil (then_n (hc_ret (then_ret ?_))))))))
   exact ret2 () rfl rfl rfl (by show Value.tuple #[str (shortE (trOf cs hs) h).1, int (shortE (trOf cs hs) h).2] = _; rw [shortE, if_pos hb1]; rfl) rfl trivial (List.nil_sublist _) trivial
  ·have hb1' := hb1; try simp at hb1'
   have h0 := Classical.not_not.1 hb1
   rw [if_pos h0, if_pos h0]
   have hch := ask_check h0
   have hin := ask_in h0 (List.mem_singleton.2 rfl)
   rw [hs_len] at hin
   have hok := tr_ok hch
   have h6 : cs.length ≤ 6 := hok.c6
   have h6h := hok.h6
   rw [hs_len] at h6h
   have hcl : ∀ i, i < cs.length → ClsOK cs i := hok.c
   obtain ⟨gl, ⟨oa, oc⟩, ⟨ka, kc⟩⟩ := x
   show HC _ _ _ _ _ [Row (some ⟨gl, 0, none⟩) [.slice A cs.length ca, .slice B hs.length cb, .slice oa cs.length oc, .slice ka hs.length kc], Row oa (rows (masksN cs cs.length)), Row ka (rows (kindsN hs hs.length)), Row A (rows cs), RowsF B hs Hd.row]
   refine hc_outerF (by repeat constructor) ?_
   refine hc_skip (then_n (hc_seq (hc_region (r_move rfl rfl (r_move rfl rfl ?_)))))
   refine hl_call F.trade_list_short_cb rfl rfl (trade_list_short_meets (A := A) (B := B) (oa := oa) (oc := oc) (ka := ka) (kc := kc) (gl := gl) (ca := ca) (cb := cb) cs hs h hin.1 (by omega) hok) (List.Perm.refl _) ⟨(by repeat constructor), (by repeat constructor), (by repeat constructor), trivial⟩ fun _ _ => ?_
   refine r_move rfl rfl (r_extract rfl rfl rfl (r_extract rfl rfl rfl (r_assign rfl rfl (r_assign rfl rfl (hl_nil (then_n (hc_seq (hc_seq (hc_region (r_move rfl rfl (r_not rfl rfl ?_)))))))))))
   refine hl_nil (then_n ?_)
   refine hc_cond rfl (fun hb2 => ?_) (fun hb2 => ?_)
   ·have hb2' := hb2; try simp at hb2'
    have h2 : shortT (trOf cs hs) h = none := by cases e : shortT (trOf cs hs) h with
     | none => rfl
     | some s => rw [e] at hb2; cases hb2
    refine hc_seq (hc_region (r_assign rfl rfl (r_assign rfl rfl (hl_nil (then_n (hc_ret (then_ret ?_)))))))
    exact ret2 () rfl rfl rfl (by show Value.tuple #[str (shortE (trOf cs hs) h).1, int (shortE (trOf cs hs) h).2] = _; rw [shortE, if_neg hb1, h2]; rfl) rfl trivial (List.nil_sublist _) trivial
   ·have hb2' := hb2; try simp at hb2'
    obtain ⟨s, hs2⟩ : ∃ s, shortT (trOf cs hs) h = some s := by cases e : shortT (trOf cs hs) h with
     | none => rw [e] at hb2; cases hb2
     | some s => exact ⟨s, rfl⟩
    refine hc_skip (then_n (hc_seq (hc_region (r_move rfl rfl (r_assign rfl rfl (r_assign rfl rfl (hl_nil (then_n (hc_ret ?_)))))))))
    exact ret2 () rfl rfl rfl (by show Value.tuple #[str (shortE (trOf cs hs) h).1, int (shortE (trOf cs hs) h).2] = Value.tuple #[str ((shortT (trOf cs hs) h).getD (hs.getD h.toNat default).1), int 0]; rw [shortE, if_neg hb1, hs2]; rfl) rfl trivial (List.nil_sublist _) trivial

theorem ascI_uniq : ∀ {l l' : List Int}, l.Pairwise (· < ·) → l'.Pairwise (· < ·) → (∀ x, x ∈ l ↔ x ∈ l') → l = l'
  | [], [], _, _, _ => rfl
  | [], y :: l', _, _, h => by have := (h y).2 (by simp); simp at this
  | x :: l, [], _, _, h => by have := (h x).1 (by simp); simp at this
  | x :: l, y :: l', h1, h2, h => by
    have p1 := List.pairwise_cons.1 h1
    have p2 := List.pairwise_cons.1 h2
    have e : x = y := by
      rcases List.mem_cons.1 ((h x).1 (by simp)) with e | e
      · exact e
      · rcases List.mem_cons.1 ((h y).2 (by simp)) with e2 | e2
        · exact e2.symm
        · have := p2.1 x e; have := p1.1 y e2; omega
    subst e
    congr 1
    refine ascI_uniq p1.2 p2.2 fun z => ?_
    have hz := h z
    rw [List.mem_cons, List.mem_cons] at hz
    constructor
    · intro hm
      rcases hz.1 (.inr hm) with e | e
      · subst e; have := p1.1 z hm; omega
      · exact e
    · intro hm
      rcases hz.2 (.inr hm) with e | e
      · subst e; have := p2.1 z hm; omega
      · exact e
theorem path_bits {cs : List Cl} (h6 : cs.length ≤ 6) (hc : ∀ i, i < cs.length → ClsOK cs i) {c : Int} (h : c < (cs.length : Int)) : mayK (maskOf (pathT cs c)) cs.length = pathT cs c := by
  have hp := path_asc cs hc c.toNat c (Nat.le_refl _) h
  refine ascI_uniq ?_ hp.1 fun x => ?_
  · unfold mayK
    refine List.pairwise_map.2 ((List.pairwise_lt_range.filter _).imp fun h => ?_)
    omega
  · unfold mayK
    rw [List.mem_map]
    constructor
    · rintro ⟨i, hi, rfl⟩
      rw [List.mem_filter, mask_test fun x hx => (hp.2 x hx).1, decide_eq_true_eq] at hi
      exact hi.2
    · intro hx
      have h1 := hp.2 x hx
      have h2 := path_small h6 hc h x hx
      refine ⟨x.toNat, ?_, Int.toNat_of_nonneg h1.1⟩
      rw [List.mem_filter, mask_test fun x hx => (hp.2 x hx).1, decide_eq_true_eq, Int.toNat_of_nonneg h1.1]
      exact ⟨List.mem_range.2 (by omega), hx⟩

set_option maxHeartbeats 1000000 in
theorem trade_list_path_meets {A B oa ka : Option Addr} {ca cb oc kc gl : Nat} (cs : List Cl) (hs : List Hd) (c : Int) (h0 : 0 ≤ c) (h : c < (cs.length : Int)) (h6 : cs.length ≤ 6) (hc : ∀ i, i < cs.length → ClsOK cs i) : Meets Tryz.prog F.trade_list_path [.pointer (some ⟨gl, 0, none⟩), int c] { LI := [Row (some ⟨gl, 0, none⟩) [.slice A cs.length ca, .slice B hs.length cb, .slice oa cs.length oc, .slice ka hs.length kc], Row oa (rows (masksN cs cs.length))], inv := fun x : OutC => (pathT cs c).length ≤ x.2, val := fun x => .slice x.1 (pathT cs c).length x.2, LO := fun x => [Row x.1 (rows (pathT cs c))] } := by
 refine meets_intro F.trade_list_path_f rfl (Nat.le_of_ble_eq_true rfl) fun w0 => ?_
 refine hc_seq (hc_region (r_assign rfl rfl (hl_nil (then_n (hc_seq (hc_region (r_assign rfl rfl (hl_nil (then_n (hc_seq (hc_seq ?_)))))))))))
 have hA := path_bits h6 hc h
 refine hc_region (r_move rfl rfl (r_nilCheck rfl rfl ?_))
 refine r_fieldAddr ⟨_, 0, none⟩ rfl rfl T.fa_trade_list_0 rfl ?_
 refine r_fieldAddr ⟨_, 0, none⟩ rfl rfl T.fa_api_Trades_0 rfl ?_
 refine r_load rfl T.cell_L_api_Class rfl (cell_rowg (by repeat constructor) rfl) ?_
 refine r_len_sl rfl T.u_L_api_Class rfl ?_
 refine r_move rfl rfl (hl_nil (then_n (hc_block ?_)))
 refine hc_loop (β := Nat × OutC × Hp) ⟨fun x => x.1 ≤ cs.length ∧ Grow T.int 1 x.2.1.1 (mayK (maskOf (pathT cs c)) x.1).length x.2.1.2 (rows (mayK (maskOf (pathT cs c)) x.1)) x.2.2, fun x => [(0, .pointer (some ⟨gl, 0, none⟩)), (1, int c), (5, .slice x.2.1.1 (mayK (maskOf (pathT cs c)) x.1).length x.2.1.2), (12, int cs.length), (13, int x.1)], fun x => x.2.2, fun _ => [Row (some ⟨gl, 0, none⟩) [.slice A cs.length ca, .slice B hs.length cb, .slice oa cs.length oc, .slice ka hs.length kc], Row oa (rows (masksN cs cs.length))]⟩ (fun x => cs.length - x.1) (0, (none, 0), []) ⟨Nat.zero_le _, Grow.nil _ _⟩ ⟨rfl, rfl, rfl, rfl, rfl, trivial⟩ (List.nil_sublist _) ⟨(by repeat constructor), (by repeat constructor), trivial⟩ fun x hx => ?_
 obtain ⟨k, ⟨na, nc⟩, og⟩ := x
 obtain ⟨hk, hG⟩ := hx
 simp only at hk hG
 refine hc_seq (hc_region (r_lss rfl rfl rfl (hl_nil (then_n (hc_seq ?_)))))
 refine c_dec rfl (fun hb1 => ?_) (fun hb1 => ?_)
 ·have hb1' := hb1; try simp at hb1'
  have hk2 : k < cs.length := by omega
  have hml := mayK_len (maskOf (pathT cs c)) k
  refine hc_skip (then_n (hc_seq (hc_block (hc_seq (hc_region (r_move rfl rfl (r_assign rfl rfl (hl_nil (then_n (hc_seq (hc_region ?_)))))))))))
  refine r_move rfl rfl (r_nilCheck rfl rfl ?_)
  refine r_fieldAddr ⟨_, 2, none⟩ rfl rfl T.fa_trade_list_1 rfl ?_
  refine r_load rfl T.cell_L_trade_classes rfl (cell_rowg (by repeat constructor) rfl) ?_
  refine r_move rfl rfl ?_
  refine r_elem (α := Nat) (masksN cs cs.length) c.toNat rfl T.u_L_trade_classes T.sz_trade_classes rfl rfl (Int.toNat_of_nonneg h0).symm (by repeat constructor) (masks_len _ _).symm (by rw [masks_len]; omega) (by decide) ?_
  refine r_load (v := u8 (maskOf (pathT cs c))) rfl T.cell_trade_classes rfl (cell_row (by repeat constructor) (rows_get0 (by rw [masks_len]; omega) (by rw [masks_get (by omega), Int.toNat_of_nonneg h0]; rfl))) ?_
  refine r_move rfl rfl ?_
  refine hl_call F.trade_classes_has_cb rfl rfl (trade_classes_has_meets (maskOf (pathT cs c)) k (mask_path h6 hc h) (by omega)) (List.Perm.refl _) trivial fun _ _ => ?_
  refine hl_nil (then_n ?_)
  refine hc_cond rfl (fun hb2 => ?_) (fun hb2 => ?_)
  ·have hb2' := hb2; try simp at hb2'
   refine hc_region (r_move rfl rfl (r_move rfl rfl ?_))
   refine r_buildSlice _ rfl rfl (fun _ => T.bs_ints_1 ..) fun gS => ?_
   refine hl_letgo (rows [(k : Int)]) (List.prefix_refl _) ?_
   refine r_append ((mayK (maskOf (pathT cs c)) k).length + 1) (rows (mayK (maskOf (pathT cs c)) k ++ [(k : Int)])) T.el_ints rfl rfl rfl hG (hp' := []) (by rw [List.append_nil]; exact List.Perm.refl _) (Src.row (news := rows [(k : Int)]) (m := 1) m0 rfl (rows_one _) (by decide)) rfl (rows_append _ _).symm (by unfold maxLen; omega) (by omega) fun A' c' og' hG' => ?_
   refine r_assign rfl rfl (hl_nil (inb_n (then_n (hc_region ?_))))
   refine r_add _ rfl rfl rfl rfl (by unfold I64; omega) ?_
   refine r_move rfl rfl (hl_nil ?_)
   exact again _ (k + 1, (A', c'), og') ⟨by show k + 1 ≤ cs.length; omega, by show Grow _ _ _ (mayK (maskOf (pathT cs c)) (k + 1)).length _ (rows (mayK (maskOf (pathT cs c)) (k + 1))) _; rw [mayK_succ, if_pos hb2, List.length_append]; exact hG'⟩ (by show cs.length - (k + 1) < cs.length - k; omega) ⟨rfl, rfl, by show some (Value.slice A' ((mayK (maskOf (pathT cs c)) k).length + 1) c') = some (Value.slice A' (mayK (maskOf (pathT cs c)) (k + 1)).length c'); rw [mayK_succ, if_pos hb2, List.length_append]; rfl, rfl, rfl, trivial⟩ (List.sublist_append_left _ _) ⟨(by repeat constructor), (by repeat constructor), trivial⟩
  ·have hb2' := hb2; try simp at hb2'
   refine hc_skip (inb_n (then_n (hc_region ?_)))
   refine r_add _ rfl rfl rfl rfl (by unfold I64; omega) ?_
   refine r_move rfl rfl (hl_nil ?_)
   exact again _ (k + 1, (na, nc), og) ⟨by show k + 1 ≤ cs.length; omega, by show Grow _ _ _ (mayK (maskOf (pathT cs c)) (k + 1)).length _ (rows (mayK (maskOf (pathT cs c)) (k + 1))) _; rw [mayK_succ, if_neg (by rw [hb2]; decide)]; exact hG⟩ (by show cs.length - (k + 1) < cs.length - k; omega) ⟨rfl, rfl, by show some (Value.slice na (mayK (maskOf (pathT cs c)) k).length nc) = some (Value.slice na (mayK (maskOf (pathT cs c)) (k + 1)).length nc); rw [mayK_succ, if_neg (by rw [hb2]; decide)], rfl, rfl, trivial⟩ (List.Sublist.refl _) ⟨(by repeat constructor), (by repeat constructor), trivial⟩
 ·have hb1' := hb1; try simp at hb1'
  have hk2 : k = cs.length := by omega
  subst hk2
  have hG2 := hG
  rw [hA] at hG2
  refine hc_exit (then_exit (then_exit (inb_hit (then_n (hc_seq (hc_region (r_move rfl rfl (r_assign rfl rfl (hl_nil (then_n (hc_ret ?_)))))))))))
  refine hq_grown0 hG2 ?_
  exact ret1 (na, nc) rfl (by show some (Value.slice na (mayK (maskOf (pathT cs c)) cs.length).length nc) = some (Value.slice na (pathT cs c).length nc); rw [hA]) rfl hG2.le (List.nil_sublist _) ⟨m0, trivial⟩

/-- The heading is the one that is looked for. -/
def hitB (s : Str) (h : Hd) : Bool := decide (h.1 = s) && decide (¬ h.2.1 = -1)
theorem hit_no1 {s : Str} {x : Hd} (h : ¬ x.1 = s) : hitB s x = false := by unfold hitB; rw [decide_eq_false h]; rfl
theorem hit_no2 {s : Str} {x : Hd} (h : x.2.1 = -1) : hitB s x = false := by unfold hitB; simp [h]
theorem hit_yes {s : Str} {x : Hd} (h : x.1 = s) (h2 : ¬ x.2.1 = -1) : hitB s x = true := by unfold hitB; simp [h, h2]
def nameOf (cs : List Cl) (c : Int) : Str := (cs.getD c.toNat default).1
theorem names_of (cs : List Cl) (hs : List Hd) (s : Str) : namesN (trOf cs hs) s = (hs.find? (hitB s)).map fun h => (pathT cs h.2.1).map (nameOf cs) := by
  unfold namesN
  show ((hs.map Hd.p).find? _).map _ = _
  rw [List.find?_map, Option.map_map]
  rfl
theorem names_at {cs : List Cl} {hs : List Hd} {s : Str} {k : Nat} (hk : k < hs.length) (h1 : hitB s (hs.getD k default) = true) (ht : ∀ i, i < k → hitB s (hs.getD i default) = false) : namesN (trOf cs hs) s = some ((pathT cs (hs.getD k default).2.1).map (nameOf cs)) := by
  rw [names_of]
  have : hs.find? (hitB s) = some (hs.getD k default) := by
    rw [List.find?_eq_some_iff_getElem]
    refine ⟨h1, k, hk, (getD_at hk).symm, fun j hj => ?_⟩
    have := ht j hj
    rw [getD_at (by omega)] at this
    simp [this]
  rw [this]
  rfl
theorem names_no {cs : List Cl} {hs : List Hd} {s : Str} (ht : ∀ i, i < hs.length → hitB s (hs.getD i default) = false) : namesN (trOf cs hs) s = none := by
  rw [names_of]
  have : hs.find? (hitB s) = none := by
    rw [List.find?_eq_none]
    intro x hx
    obtain ⟨i, hi, rfl⟩ := List.getElem_of_mem hx
    have := ht i hi
    rw [getD_at hi] at this
    simp [this]
  rw [this]
  rfl
theorem hit_next {s : Str} {hs : List Hd} {k : Nat} (ht : ∀ i, i < k → hitB s (hs.getD i default) = false) (h : hitB s (hs.getD k default) = false) : ∀ i, i < k + 1 → hitB s (hs.getD i default) = false := fun i hi => by
  rcases Nat.lt_or_ge i k with h1 | h1
  · exact ht i h1
  · rw [show i = k by omega]; exact h

set_option maxHeartbeats 1000000 in
theorem trade_list_names_meets {A B oa ka : Option Addr} {ca cb oc kc gl : Nat} (cs : List Cl) (hs : List Hd) (s : Str) (hok : TrOK (trOf cs hs)) : Meets Tryz.prog F.trade_list_names [.pointer (some ⟨gl, 0, none⟩), str s] { LI := [Row (some ⟨gl, 0, none⟩) [.slice A cs.length ca, .slice B hs.length cb, .slice oa cs.length oc, .slice ka hs.length kc], Row oa (rows (masksN cs cs.length)), Row A (rows cs), Row B (rows hs)], inv := fun x : OutC => ((namesN (trOf cs hs) s).getD []).length ≤ x.2, val := fun x => .tuple #[.slice x.1 ((namesN (trOf cs hs) s).getD []).length x.2, .bool (namesN (trOf cs hs) s).isSome], LO := fun x => [Row x.1 (rows ((namesN (trOf cs hs) s).getD []))] } := by
 refine meets_intro F.trade_list_names_f rfl (Nat.le_of_ble_eq_true rfl) fun w0 => ?_
 refine hc_seq (hc_region (r_assign rfl rfl (r_assign rfl rfl (hl_nil (then_n (hc_seq (hc_seq ?_)))))))
 have h6 : cs.length ≤ 6 := hok.c6
 have h6h := hok.h6
 rw [hs_len] at h6h
 have hcl : ∀ i, i < cs.length → ClsOK cs i := hok.c
 refine hc_region (r_move rfl rfl (r_nilCheck rfl rfl ?_))
 refine r_fieldAddr ⟨_, 0, none⟩ rfl rfl T.fa_trade_list_0 rfl ?_
 refine r_fieldAddr ⟨_, 1, none⟩ rfl rfl T.fa_api_Trades_1 rfl ?_
 refine r_load rfl T.cell_L_api_Head rfl (cell_rowg (by repeat constructor) rfl) ?_
 refine r_len_sl rfl T.u_L_api_Head rfl ?_
 refine r_move rfl rfl (hl_nil (then_n (hc_block ?_)))
 refine hc_loop (β := Nat) ⟨fun k => k ≤ hs.length ∧ ∀ i, i < k → hitB s (hs.getD i default) = false, fun k => [(0, .pointer (some ⟨gl, 0, none⟩)), (1, str s), (15, .slice B hs.length cb), (16, int hs.length), (17, int k)], fun _ => [], fun _ => [Row (some ⟨gl, 0, none⟩) [.slice A cs.length ca, .slice B hs.length cb, .slice oa cs.length oc, .slice ka hs.length kc], Row oa (rows (masksN cs cs.length)), Row A (rows cs), Row B (rows hs)]⟩ (fun k => hs.length - k) 0 ⟨Nat.zero_le _, fun i hi => by omega⟩ ⟨rfl, rfl, rfl, rfl, rfl, trivial⟩ (List.nil_sublist _) ⟨(by repeat constructor), (by repeat constructor), (by repeat constructor), (by repeat constructor), trivial⟩ fun k hk => ?_
 obtain ⟨hk, ht⟩ := hk
 refine hc_seq (hc_region (r_lss rfl rfl rfl (hl_nil (then_n (hc_seq ?_)))))
 refine c_dec rfl (fun hb1 => ?_) (fun hb1 => ?_)
 ·have hb1' := hb1; try simp at hb1'
  have hk2 : k < hs.length := by omega
  have hcc : -1 ≤ (hs.getD k default).2.1 ∧ (hs.getD k default).2.1 < (cs.length : Int) := by
    have := (hok.h k (by rw [hs_len]; exact hk2)).c
    simp only [trOf, hd_get hk2] at this
    exact this
  refine hc_skip (then_n (hc_seq (hc_block (hc_seq (hc_region ?_)))))
  refine r_elem (α := Hd) _ _ rfl T.u_L_api_Head T.sz_api_Head rfl rfl rfl (by repeat constructor) rfl (by omega) (by decide) ?_
  refine r_loadS rfl T.row_api_Head T.sz_api_Head rfl rfl (cells_row (by repeat constructor) (rows_all (by omega))) ?_
  refine r_alloc rfl (fun _ => T.al_api_Head _) fun gA => ?_
  refine r_storeS rfl rfl (by first | exact .refl _ | exact perm2 _ _ _ | exact perm3 _ _ _ _ | exact perm4 _ _ _ _ _) T.sz_api_Head (by rfl) (by rfl) ?_
  refine hl_nil (then_n (hc_seq (hc_seq ?_)))
  refine hc_letgo (rows [hs.getD k default]) ⟨[], List.append_nil _⟩ ?_
  refine hc_region ?_
  refine r_fieldAddr ⟨_, 0, none⟩ rfl rfl T.fa_api_Head_0 rfl ?_
  refine r_load rfl T.cell_string rfl (cell_rowg (by repeat constructor) rfl) ?_
  refine r_move rfl rfl (r_sneq rfl rfl rfl (r_move rfl rfl ?_))
  refine g_split rfl rfl ?_ ?_
  ·intro hg1; have hg1' := hg1; try simp at hg1'
   have e1 : (hs.getD k default).1 = s := by simp only [beq_iff_eq, decide_eq_false_iff_not] at hg1; exact Classical.not_not.1 hg1
   refine g_yes rfl rfl hg1 ?_
   refine r_fieldAddr ⟨_, 1, none⟩ rfl rfl T.fa_api_Head_1 rfl ?_
   refine g_yes rfl rfl hg1 ?_
   refine r_load rfl T.cell_int rfl (cell_rowg (by repeat constructor) rfl) ?_
   refine g_yes rfl rfl hg1 (r_eql rfl rfl rfl ?_)
   refine p_f rfl rfl (bf1 hg1) rfl ?_
   refine hl_nil (then_n ?_)
   refine c_dec rfl (fun hb2 => ?_) (fun hb2 => ?_)
   ·have hb2' := hb2; try simp at hb2'
    have hh : hitB s (hs.getD k default) = false := hit_no2 hb2
    refine hc_exit (then_exit (inb_hit (then_n (hc_region ?_))))
    refine r_add _ rfl rfl rfl rfl (by unfold I64; omega) ?_
    refine r_move rfl rfl (hl_nil ?_)
    exact again _ (k + 1) ⟨by omega, hit_next ht hh⟩ (by show hs.length - (k + 1) < hs.length - k; omega) ⟨rfl, rfl, rfl, rfl, rfl, trivial⟩ (List.nil_sublist _) ⟨(by repeat constructor), (by repeat constructor), (by repeat constructor), (by repeat constructor), trivial⟩
   ·have hb2' := hb2; try simp at hb2'
    have hh : hitB s (hs.getD k default) = true := hit_yes e1 hb2
    have hN := names_at (cs := cs) hk2 hh ht
    refine hc_skip (then_n (hc_seq (hc_region (r_assign rfl rfl (hl_nil (then_n (hc_seq (hc_seq (hc_region (r_move rfl rfl ?_))))))))))
    refine r_fieldAddr ⟨_, 1, none⟩ rfl rfl T.fa_api_Head_1 rfl ?_
    refine r_load rfl T.cell_int rfl (cell_rowg (by repeat constructor) rfl) ?_
    refine hl_call F.trade_list_path_cb rfl rfl (trade_list_path_meets (A := A) (B := B) (oa := oa) (oc := oc) (ka := ka) (kc := kc) (gl := gl) (ca := ca) (cb := cb) cs hs (hs.getD k default).2.1 (by omega) hcc.2 h6 hcl) (List.Perm.refl _) ⟨(by repeat constructor), (by repeat constructor), trivial⟩ fun y hy => ?_
    obtain ⟨ya, yc⟩ := y
    have hps := path_small h6 hcl hcc.2
    have hpa := path_asc cs hcl (hs.getD k default).2.1.toNat _ (Nat.le_refl _) hcc.2
    have hpl : (pathT cs (hs.getD k default).2.1).length ≤ 6 := by
      have := congrArg List.length (path_bits h6 hcl hcc.2)
      have h2 := mayK_len (maskOf (pathT cs (hs.getD k default).2.1)) cs.length
      omega
    refine r_len_sl rfl T.u_ints rfl ?_
    refine r_move rfl rfl (hl_nil (then_n (hc_block ?_)))
    refine hc_loop (β := Nat × OutC × Hp) ⟨fun x => x.1 ≤ (pathT cs (hs.getD k default).2.1).length ∧ Grow T.string 1 x.2.1.1 x.1 x.2.1.2 (rows (((pathT cs (hs.getD k default).2.1).take (x.1)).map (nameOf cs))) x.2.2, fun x => [(0, .pointer (some ⟨gl, 0, none⟩)), (8, .slice x.2.1.1 x.1 x.2.1.2), (33, .slice ya (pathT cs (hs.getD k default).2.1).length yc), (34, int (pathT cs (hs.getD k default).2.1).length), (35, int x.1)], fun x => x.2.2, fun _ => Row ya (rows (pathT cs (hs.getD k default).2.1)) :: [Row (some ⟨gl, 0, none⟩) [.slice A cs.length ca, .slice B hs.length cb, .slice oa cs.length oc, .slice ka hs.length kc], Row oa (rows (masksN cs cs.length)), Row A (rows cs), Row B (rows hs)]⟩ (fun x => (pathT cs (hs.getD k default).2.1).length - x.1) (0, (none, 0), []) ⟨Nat.zero_le _, Grow.nil _ _⟩ ⟨rfl, rfl, rfl, rfl, rfl, trivial⟩ (List.nil_sublist _) ⟨(by repeat constructor), (by repeat constructor), (by repeat constructor), (by repeat constructor), (by repeat constructor), trivial⟩ fun x hx => ?_
    obtain ⟨j, ⟨na, nc⟩, og⟩ := x
    obtain ⟨hj, hG⟩ := hx
    simp only at hj hG
    refine hc_seq (hc_region (r_lss rfl rfl rfl (hl_nil (then_n (hc_seq ?_)))))
    refine c_dec rfl (fun hb3 => ?_) (fun hb3 => ?_)
    ·have hb3' := hb3; try simp at hb3'
     have hj2 : j < (pathT cs (hs.getD k default).2.1).length := by omega
     have hcj := hpa.2 _ (getD_mem hj2)
     refine hc_skip (then_n (hc_seq (hc_block (hc_seq (hc_region ?_)))))
     refine r_elem (α := Int) (pathT cs (hs.getD k default).2.1) j rfl T.u_ints T.sz_int rfl rfl rfl (by repeat constructor) rfl hj2 (by decide) ?_
     refine r_load (v := int ((pathT cs (hs.getD k default).2.1).getD j default)) rfl T.cell_int rfl (cell_row (by repeat constructor) (rows_get0 hj2 rfl)) ?_
     refine r_assign rfl rfl (hl_nil (then_n (hc_region (r_move rfl rfl (r_move rfl rfl (r_nilCheck rfl rfl ?_))))))
     refine r_fieldAddr ⟨_, 0, none⟩ rfl rfl T.fa_trade_list_0 rfl ?_
     refine r_fieldAddr ⟨_, 0, none⟩ rfl rfl T.fa_api_Trades_0 rfl ?_
     refine r_load rfl T.cell_L_api_Class rfl (cell_rowg (by repeat constructor) rfl) ?_
     refine r_move rfl rfl ?_
     refine r_elem (α := Cl) cs ((pathT cs (hs.getD k default).2.1).getD j default).toNat rfl T.u_L_api_Class T.sz_api_Class rfl rfl (Int.toNat_of_nonneg hcj.1).symm (by repeat constructor) rfl (by omega) (by decide) ?_
     refine r_fieldAddr _ rfl rfl T.fa_api_Class_0 rfl ?_
     refine r_load (v := str (nameOf cs ((pathT cs (hs.getD k default).2.1).getD j default))) rfl T.cell_string rfl (cell_row (by repeat constructor) (rows_get0 (by omega) rfl)) ?_
     refine r_buildSlice _ rfl rfl (fun _ => T.bs_strs_1 ..) fun gS => ?_
     refine hl_letgo (rows [nameOf cs ((pathT cs (hs.getD k default).2.1).getD j default)]) (List.prefix_refl _) ?_
     refine r_append (j + 1) (rows ((((pathT cs (hs.getD k default).2.1).take (j)).map (nameOf cs)) ++ [nameOf cs ((pathT cs (hs.getD k default).2.1).getD j default)])) T.el_strs rfl rfl rfl hG (hp' := []) (by first | (rw [List.append_nil]; done) | (rw [List.append_nil]; exact List.Perm.refl _)) (Src.row (news := rows [nameOf cs ((pathT cs (hs.getD k default).2.1).getD j default)]) (m := 1) m0 rfl (rows_one _) (by decide)) rfl (rows_append _ _).symm (by unfold maxLen; omega) (by omega) fun A' c' og' hG' => ?_
     refine r_assign rfl rfl (hl_nil (inb_n (then_n (hc_region ?_))))
     refine r_add _ rfl rfl rfl rfl (by unfold I64; omega) ?_
     refine r_move rfl rfl (hl_nil ?_)
     exact again _ (j + 1, (A', c'), og') ⟨by show j + 1 ≤ (pathT cs (hs.getD k default).2.1).length; omega, by show Grow _ _ _ _ _ (rows (((pathT cs (hs.getD k default).2.1).take (j + 1)).map (nameOf cs))) _; rw [take_succ_getD _ _ hj2, List.map_append]; exact hG'⟩ (by show (pathT cs (hs.getD k default).2.1).length - (j + 1) < (pathT cs (hs.getD k default).2.1).length - j; omega) ⟨rfl, rfl, rfl, rfl, rfl, trivial⟩ (List.sublist_append_left _ _) ⟨(by repeat constructor), (by repeat constructor), (by repeat constructor), (by repeat constructor), (by repeat constructor), trivial⟩
    ·have hb3' := hb3; try simp at hb3'
     have hj2 : j = (pathT cs (hs.getD k default).2.1).length := by omega
     subst hj2
     rw [List.take_length] at hG
     refine hc_exit (then_exit (then_exit (inb_hit (then_n (hc_seq (hc_region (r_move rfl rfl (r_assign rfl rfl (r_assign rfl rfl (hl_nil (then_n ?_)))))))))))
     refine hc_ret (inb_ret (then_ret (then_ret (inb_ret (then_ret ?_)))))
     have hgl : ((namesN (trOf cs hs) s).getD []).length = (pathT cs (hs.getD k default).2.1).length := by rw [hN]; exact List.length_map ..
     refine hq_grown0 hG ?_
     exact ret2 (na, nc) rfl rfl rfl (by show Value.tuple #[.slice na ((namesN (trOf cs hs) s).getD []).length nc, .bool (namesN (trOf cs hs) s).isSome] = _; rw [hgl, hN]; rfl) rfl (by show ((namesN (trOf cs hs) s).getD []).length ≤ nc; rw [hgl]; exact hG.le) (List.nil_sublist _) (by show LSub _ [Row na (rows ((namesN (trOf cs hs) s).getD []))]; rw [hN]; exact ⟨m0, trivial⟩)
  ·intro hg1; have hg1' := hg1; try simp at hg1'
   have e1 : ¬ (hs.getD k default).1 = s := fun e => by rw [decide_eq_false (not_not_intro e)] at hg1; cases hg1
   refine g_no rfl rfl rfl rfl rfl hg1 (g_no rfl rfl rfl rfl rfl hg1 (g_no rfl rfl rfl rfl rfl hg1 ?_))
   refine p_t rfl rfl (bt2 hg1) rfl ?_
   refine hl_nil (then_n (c_t rfl rfl (hc_exit (then_exit (inb_hit (then_n (hc_region ?_)))))))
   refine r_add _ rfl rfl rfl rfl (by unfold I64; omega) ?_
   refine r_move rfl rfl (hl_nil ?_)
   exact again _ (k + 1) ⟨by omega, hit_next ht (hit_no1 e1)⟩ (by show hs.length - (k + 1) < hs.length - k; omega) ⟨rfl, rfl, rfl, rfl, rfl, trivial⟩ (List.nil_sublist _) ⟨(by repeat constructor), (by repeat constructor), (by repeat constructor), (by repeat constructor), trivial⟩
 ·have hb1' := hb1; try simp at hb1'
  have hk2 : k = hs.length := by omega
  subst hk2
  have hN := names_no (cs := cs) ht
  refine hc_exit (then_exit (then_exit (inb_hit (then_n (hc_seq (hc_region (r_assign rfl rfl (r_assign rfl rfl (hl_nil (then_n (hc_ret ?_)))))))))))
  refine hq_nilrow (α := Str) ?_
  exact ret2 (none, 0) rfl rfl rfl (by show Value.tuple #[.slice none ((namesN (trOf cs hs) s).getD []).length 0, .bool (namesN (trOf cs hs) s).isSome] = _; rw [hN]; rfl) rfl (by show ((namesN (trOf cs hs) s).getD []).length ≤ 0; rw [hN]; exact Nat.le_refl _) (List.nil_sublist _) (by show LSub _ [Row none (rows ((namesN (trOf cs hs) s).getD []))]; rw [hN]; exact ⟨m0, trivial⟩)

/-- The comparison of words. -/
def cmpW (a b : Str) : Int := Lib.compareBytes a b
theorem cmp_run (a b : Str) (w : World) : (callFunc 148 [str a, str b].toArray).run Tryz.prog w = .ok (.value (int (cmpW a b))) w := by
  show (callFunc 148 #[str a, str b]).run Tryz.prog w = _
  rw [run_callFunc_extern Tryz.func148 (by kernel_rfl) (by kernel_rfl) (by kernel_rfl) (e := Extern.BytealgCompare.compare) (by kernel_rfl)]
  unfold str
  rw [Lib.run_compareString]
  rfl
theorem cmpW_eq : ∀ (a b : Str), cmpW a b = if a < b then -1 else if a = b then 0 else 1
  | [], [] => by simp [cmpW, Lib.compareBytes]
  | [], y :: b => by simp [cmpW, Lib.compareBytes]
  | x :: a, [] => by simp [cmpW, Lib.compareBytes]
  | x :: a, y :: b => by
    have ih := cmpW_eq a b
    unfold cmpW at ih ⊢
    rw [Lib.compareBytes, ih]
    simp only [List.cons_lt_cons_iff, List.cons.injEq]
    by_cases h1 : x < y
    · rw [if_pos h1, if_pos (.inl h1)]
    · rw [if_neg h1]
      by_cases h2 : y < x
      · have hne : ¬ x = y := fun e => by subst e; exact h1 h2
        rw [if_pos h2, if_neg (fun e => e.elim h1 (fun e => hne e.1)), if_neg (fun e => hne e.1)]
      · rw [if_neg h2]
        have e : x = y := by
          apply UInt8.toNat_inj.1
          rw [UInt8.lt_iff_toNat_lt] at h1 h2
          omega
        subst e
        by_cases h3 : a < b
        · rw [if_pos h3, if_pos (.inr ⟨rfl, h3⟩)]
        · have hn : ¬ (x < x ∨ x = x ∧ a < b) := fun e => e.elim h1 (fun e => h3 e.2)
          rw [if_neg h3, if_neg hn]
          by_cases h4 : a = b
          · rw [if_pos h4, if_pos ⟨rfl, h4⟩]
          · rw [if_neg h4, if_neg (fun e => h4 e.2)]
theorem cmpW_lt (a b : Str) : cmpW a b < 0 ↔ a < b := by
  rw [cmpW_eq]
  by_cases h : a < b
  · rw [if_pos h]; exact ⟨fun _ => h, fun _ => by decide⟩
  · rw [if_neg h]
    refine ⟨fun e => ?_, fun e => absurd e h⟩
    split at e <;> omega

theorem internal_bytealg_CompareString_meets (a b : Str) : Meets Tryz.prog F.internal_bytealg_CompareString [str a, str b] { val := fun _ : Unit => int (cmpW a b) } := by
 refine meets_intro F.internal_bytealg_CompareString_f rfl (Nat.le_of_ble_eq_true rfl) fun w0 => ?_
 refine hc_seq (hc_region (r_assign rfl rfl (hl_nil (then_n (hc_seq (hc_region (r_move rfl rfl (r_move rfl rfl ?_))))))))
 refine hl_extern rfl rfl (fun w => cmp_run a b w) ?_
 refine r_assign rfl rfl (hl_nil (then_n (hc_ret ?_)))
 exact ret1 () rfl rfl rfl trivial (List.nil_sublist _) trivial

theorem strings_Compare_meets (a b : Str) : Meets Tryz.prog F.strings_Compare [str a, str b] { val := fun _ : Unit => int (cmpW a b) } := by
 refine meets_intro F.strings_Compare_f rfl (Nat.le_of_ble_eq_true rfl) fun w0 => ?_
 refine hc_seq (hc_region (r_assign rfl rfl (hl_nil (then_n (hc_seq (hc_region (r_move rfl rfl (r_move rfl rfl ?_))))))))
 refine hl_call F.internal_bytealg_CompareString_cb rfl rfl (internal_bytealg_CompareString_meets a b) (.refl _) trivial fun _ _ => ?_
 refine r_assign rfl rfl (hl_nil (then_n (hc_ret ?_)))
 exact ret1 () rfl rfl rfl trivial (List.nil_sublist _) trivial

theorem slices_Equal_strs_meets {A B : Option Addr} {ca cb : Nat} (a b : List Str) (ha : a.length ≤ 1000000) :
    Meets Tryz.prog F.slices_Equal_strs [.slice A a.length ca, .slice B b.length cb] { LI := [Row A (rows a), Row B (rows b)], val := fun _ : Unit => .bool (decide (a = b)) } := by
 refine meets_intro F.slices_Equal_strs_f rfl (Nat.le_of_ble_eq_true rfl) fun w0 => ?_
 refine hc_seq (hc_region (r_assign rfl rfl (hl_nil (then_n (hc_seq (hc_seq (hc_region (r_move rfl rfl ?_))))))))
 refine r_len_sl rfl T.u_strs rfl ?_
 refine r_move rfl rfl ?_
 refine r_len_sl rfl T.u_strs rfl ?_
 refine r_neq rfl rfl rfl (hl_nil (then_n ?_))
 refine c_dec rfl (fun hb1 => ?_) (fun hb1 => ?_)
 ·have hb1' := hb1; try simp at hb1'
  have hb1 : ¬ a = b := fun e => by subst e; exact hb1 rfl
  refine hc_seq (hc_region (r_assign rfl rfl (hl_nil (then_n (hc_ret (then_ret ?_))))))
  exact ret1 () rfl (by rw [decide_eq_false hb1]; rfl) rfl trivial (.refl _) trivial
 ·have hb1' := hb1; try simp at hb1'
  have hb1 : a.length = b.length := by omega
  refine hc_skip (then_n (hc_seq (hc_seq (hc_region (r_move rfl rfl ?_)))))
  refine r_len_sl rfl T.u_strs rfl ?_
  refine r_move rfl rfl (hl_nil (then_n (hc_block ?_)))
  refine hc_loop (β := Nat) ⟨fun k => k ≤ a.length ∧ a.take k = b.take k, fun k => [(0, .slice A a.length ca), (1, .slice B b.length cb), (12, int a.length), (13, int k)], fun _ => [], fun _ => [Row A (rows a), Row B (rows b)]⟩ (fun k => a.length - k) 0 ⟨Nat.zero_le _, rfl⟩ ⟨rfl, rfl, rfl, rfl, trivial⟩ (.refl _) ⟨m0, m1, trivial⟩ fun k hk => ?_
  obtain ⟨hk, ht⟩ := hk
  refine hc_seq (hc_region (r_lss rfl rfl rfl (hl_nil (then_n (hc_seq ?_)))))
  refine c_dec rfl (fun hb2 => ?_) (fun hb2 => ?_)
  ·have hb2' := hb2; try simp at hb2'
   have hb2 : k < a.length := by omega
   refine hc_skip (then_n (hc_seq (hc_block (hc_seq (hc_region (r_move rfl rfl (r_assign rfl rfl (hl_nil (then_n (hc_seq ?_))))))))))
   refine hc_draw 8 mixed (by decide) (by decide) rfl rfl ?_
   apply hb_ex _ rfl rfl rfl
   ·intro w1
    refine r_move rfl rfl (hl_nil ?_)
    exact qe_done rfl
   apply hb_ex _ rfl rfl rfl
   ·intro w1
    refine r_move rfl rfl (hl_nil ?_)
    exact qe_done rfl
   apply hb_ex _ rfl rfl rfl
   ·intro w1
    refine r_elem (α := Str) _ _ rfl T.u_strs T.sz_string rfl rfl rfl (by repeat constructor) rfl (by omega) (by decide) ?_
    refine hl_nil ?_
    exact qe_done rfl
   apply hb_ex _ rfl rfl rfl
   ·intro w1
    refine r_load rfl T.cell_string rfl (cell_row (by repeat constructor) (rows_get0 (by omega) rfl)) ?_
    refine hl_nil ?_
    exact qe_done rfl
   apply hb_ex _ rfl rfl rfl
   ·intro w1
    refine r_move rfl rfl (hl_nil ?_)
    exact qe_done rfl
   apply hb_ex _ rfl rfl rfl
   ·intro w1
    refine r_move rfl rfl (hl_nil ?_)
    exact qe_done rfl
   apply hb_ex _ rfl rfl rfl
   ·intro w1
    refine r_elem (α := Str) _ _ rfl T.u_strs T.sz_string rfl rfl rfl (by repeat constructor) rfl (by omega) (by decide) ?_
    refine hl_nil ?_
    exact qe_done rfl
   apply hb_ex _ rfl rfl rfl
   ·intro w1
    refine r_load rfl T.cell_string rfl (cell_row (by repeat constructor) (rows_get0 (by omega) rfl)) ?_
    refine hl_nil ?_
    exact qe_done rfl
   refine hb_nil ⟨rfl, ?_⟩
   refine r_sneq rfl rfl rfl (hl_nil (then_n ?_))
   refine c_dec rfl (fun hb3 => ?_) (fun hb3 => ?_)
   ·have hb3' := hb3; try simp at hb3'
    have hb3 : ¬ a = b := ne_at (a := a) (b := b) (k := k) hb3
    refine hc_seq (hc_region (r_assign rfl rfl (hl_nil (then_n (hc_ret (inb_ret (then_ret (then_ret (inb_ret (then_ret ?_))))))))))
    exact ret1 () rfl (by rw [decide_eq_false hb3]; rfl) rfl trivial (.refl _) trivial
   ·have hb3' := hb3; try simp at hb3'
    have hb3 : a.getD k default = b.getD k default := Classical.not_not.1 hb3
    refine hc_skip (inb_n (then_n (hc_region ?_)))
    refine r_add _ rfl rfl rfl rfl (by unfold I64; omega) ?_
    refine r_move rfl rfl (hl_nil ?_)
    exact again _ (k + 1) ⟨by omega, by rw [take_succ_getD a k hb2, take_succ_getD b k (by omega), ht, hb3]⟩ (by first | omega | (simp only; omega)) ⟨rfl, rfl, rfl, rfl, trivial⟩ (.refl _) ⟨m0, m1, trivial⟩
  ·have hb2' := hb2; try simp at hb2'
   have hb2 : k = a.length := by omega
   refine hc_exit (then_exit (then_exit (inb_hit (then_n (hc_seq (hc_region (r_assign rfl rfl (hl_nil (then_n (hc_ret ?_))))))))))
   exact ret1 () rfl (by rw [decide_eq_true (eq_of_takes ht (by omega) (by omega))]; rfl) rfl trivial (.refl _) trivial

theorem kit_EqMoves_meets {A B : Option Addr} {ca cb : Nat} (a b : List Cl) (ha : a.length ≤ 1000000) :
    Meets Tryz.prog F.kit_EqMoves [.slice A a.length ca, .slice B b.length cb] { LI := [Row A (rows a), Row B (rows b)], val := fun _ : Unit => .bool (decide (a = b)) } := by
 refine meets_intro F.kit_EqMoves_f rfl (Nat.le_of_ble_eq_true rfl) fun w0 => ?_
 refine hc_seq (hc_region (r_assign rfl rfl (hl_nil (then_n (hc_seq (hc_seq (hc_region (r_move rfl rfl ?_))))))))
 refine r_len_sl rfl T.u_L_api_Move rfl ?_
 refine r_move rfl rfl ?_
 refine r_len_sl rfl T.u_L_api_Move rfl ?_
 refine r_neq rfl rfl rfl (hl_nil (then_n ?_))
 refine c_dec rfl (fun hb1 => ?_) (fun hb1 => ?_)
 ·have hb1' := hb1; try simp at hb1'
  have hb1 : ¬ a = b := fun e => by subst e; exact hb1 rfl
  refine hc_seq (hc_region (r_assign rfl rfl (hl_nil (then_n (hc_ret (then_ret ?_))))))
  exact ret1 () rfl (by rw [decide_eq_false hb1]; rfl) rfl trivial (.refl _) trivial
 ·have hb1' := hb1; try simp at hb1'
  have hb1 : a.length = b.length := by omega
  refine hc_skip (then_n (hc_seq (hc_seq (hc_region (r_assign rfl rfl (hl_nil (then_n (hc_block ?_))))))))
  refine hc_loop (β := Nat) ⟨fun k => k ≤ a.length ∧ a.take k = b.take k, fun k => [(0, .slice A a.length ca), (1, .slice B b.length cb), (5, int k)], fun _ => [], fun _ => [Row A (rows a), Row B (rows b)]⟩ (fun k => a.length - k) 0 ⟨Nat.zero_le _, rfl⟩ ⟨rfl, rfl, rfl, trivial⟩ (.refl _) ⟨m0, m1, trivial⟩ fun k hk => ?_
  obtain ⟨hk, ht⟩ := hk
  refine hc_seq (hc_seq (hc_region (r_move rfl rfl (r_move rfl rfl ?_))))
  refine r_len_sl rfl T.u_L_api_Move rfl ?_
  refine r_lss rfl rfl rfl (hl_nil (then_n ?_))
  refine c_dec rfl (fun hb2 => ?_) (fun hb2 => ?_)
  ·have hb2' := hb2; try simp at hb2'
   have hb2 : k < a.length := by omega
   refine hc_skip (then_n (hc_seq (hc_block (hc_seq ?_))))
   refine hc_draw 8 mixed (by decide) (by decide) rfl rfl ?_
   apply hb_ex _ rfl rfl rfl
   ·intro w1
    refine r_move rfl rfl (hl_nil ?_)
    exact qe_done rfl
   apply hb_ex _ rfl rfl rfl
   ·intro w1
    refine r_move rfl rfl (hl_nil ?_)
    exact qe_done rfl
   apply hb_ex _ rfl rfl rfl
   ·intro w1
    refine r_elem (α := Cl) _ _ rfl T.u_L_api_Move T.sz_api_Move rfl rfl rfl (by repeat constructor) rfl (by omega) (by decide) ?_
    refine hl_nil ?_
    exact qe_done rfl
   apply hb_ex _ rfl rfl rfl
   ·intro w1
    refine r_loadS rfl T.row_api_Move T.sz_api_Move rfl rfl (cells_row (by repeat constructor) (rows_all (by omega))) ?_
    refine hl_nil ?_
    exact qe_done rfl
   apply hb_ex _ rfl rfl rfl
   ·intro w1
    refine r_move rfl rfl (hl_nil ?_)
    exact qe_done rfl
   apply hb_ex _ rfl rfl rfl
   ·intro w1
    refine r_move rfl rfl (hl_nil ?_)
    exact qe_done rfl
   apply hb_ex _ rfl rfl rfl
   ·intro w1
    refine r_elem (α := Cl) _ _ rfl T.u_L_api_Move T.sz_api_Move rfl rfl rfl (by repeat constructor) rfl (by omega) (by decide) ?_
    refine hl_nil ?_
    exact qe_done rfl
   apply hb_ex _ rfl rfl rfl
   ·intro w1
    refine r_loadS rfl T.row_api_Move T.sz_api_Move rfl rfl (cells_row (by repeat constructor) (rows_all (by omega))) ?_
    refine hl_nil ?_
    exact qe_done rfl
   refine hb_nil ⟨rfl, ?_⟩
   refine r_bin _ rfl rfl rfl (fun _ => T.eqg_api_Move ..) (fun _ => T.neq_api_Move ..) ?_
   refine hl_nil (then_n ?_)
   refine c_dec rfl (fun hb3 => ?_) (fun hb3 => ?_)
   ·have hb3' := hb3; try simp at hb3'
    have hb3 : ¬ a = b := ne_at (a := a) (b := b) (k := k) hb3
    refine hc_seq (hc_region (r_assign rfl rfl (hl_nil (then_n (hc_ret (inb_ret (then_ret (then_ret (inb_ret (then_ret ?_))))))))))
    exact ret1 () rfl (by rw [decide_eq_false hb3]; rfl) rfl trivial (.refl _) trivial
   ·have hb3' := hb3; try simp at hb3'
    have hb3 : a.getD k default = b.getD k default := Classical.not_not.1 hb3
    refine hc_skip (inb_n (then_n (hc_region (r_move rfl rfl ?_))))
    refine r_add _ rfl rfl rfl rfl (by unfold I64; omega) ?_
    refine r_assign rfl rfl (hl_nil ?_)
    exact again _ (k + 1) ⟨by omega, by rw [take_succ_getD a k hb2, take_succ_getD b k (by omega), ht, hb3]⟩ (by first | omega | (simp only; omega)) ⟨rfl, rfl, rfl, trivial⟩ (.refl _) ⟨m0, m1, trivial⟩
  ·have hb2' := hb2; try simp at hb2'
   have hb2 : k = a.length := by omega
   refine hc_exit (then_exit (then_exit (inb_hit (then_n (hc_seq (hc_region (r_assign rfl rfl (hl_nil (then_n (hc_ret ?_))))))))))
   exact ret1 () rfl (by rw [decide_eq_true (eq_of_takes ht (by omega) (by omega))]; rfl) rfl trivial (.refl _) trivial

def FromInv (lo hi z : Int) : Prop := lo ≤ z ∧ (lo < hi → z ≤ hi) ∧ (hi ≤ lo → z = lo)
def sortsL : List Str := [[102, 111, 111, 100], [98, 114, 101, 97, 100], [99, 108, 111, 116, 104], [104, 97, 116, 115], [119, 111, 111, 100], [105, 114, 111, 110], [98, 101, 101, 114], [105, 110], [115, 101, 101]]
def callingsL : List Str := [[98, 97, 107, 101, 114], [98, 97, 107, 101, 114, 115], [98, 111, 110, 110, 101, 116, 115], [98, 114, 101, 119, 101, 114], [98, 114, 117, 115, 104, 101, 115], [98, 117, 116, 99, 104, 101, 114], [99, 97, 110, 100, 108, 101, 115], [99, 111, 111, 112, 101, 114], [99, 111, 111, 112, 101, 114, 115], [99, 117, 116, 108, 101, 114], [104, 97, 116, 116, 101, 114], [104, 111, 115, 105, 101, 114], [109, 101, 114, 99, 101, 114], [109, 105, 108, 108, 105, 110, 101, 114], [116, 97, 105, 108, 111, 114], [116, 97, 110, 110, 101, 114]]

theorem kit_NewDice_meets {A : Option Addr} {c : Nat} (nums : List Int) : Meets Tryz.prog F.kit_NewDice [.slice A nums.length c] { LI := [Row A (rows nums)], val := fun g : Nat => .pointer (some ⟨g, 0, none⟩), hpO := fun g => [dice g A c nums (0, 11400714819323198485)] } := by
 refine meets_intro F.kit_NewDice_f rfl (Nat.le_of_ble_eq_true rfl) fun w0 => ?_
 refine hc_seq (hc_region (r_assign rfl rfl (hl_nil (then_n (hc_seq (hc_region (r_move rfl rfl ?_)))))))
 refine r_build _ rfl rfl (fun _ => T.bd_wayzgoosekit_Dice_0_2 ..) ?_
 refine r_box rfl rfl fun gB => ?_
 refine r_assign rfl rfl (hl_nil (then_n (hc_ret ?_)))
 exact ret1 gB rfl rfl rfl trivial (.refl _) trivial

theorem kit_Dice_From_meets {g : Nat} {A : Option Addr} {c : Nat} {nums : List Int} {s : Int × Int} (lo hi : Int) (hn : nums.length ≤ 9223372036854775807) (hs : DOK nums s) (hI : -1000 ≤ lo ∧ lo ≤ 1000 ∧ -1000 ≤ hi ∧ hi ≤ 1000) :
    Meets Tryz.prog F.kit_Dice_From [.pointer (some ⟨g, 0, none⟩), int lo, int hi] (diceCon g A c nums s (FromInv lo hi) (fun z => int z) (fun _ => [])) := by
 refine meets_intro F.kit_Dice_From_f rfl (Nat.le_of_ble_eq_true rfl) fun w0 => ?_
 refine hc_seq (hc_region (r_assign rfl rfl (hl_nil (then_n (hc_seq (hc_region (r_move rfl rfl (r_move rfl rfl (r_move rfl rfl (r_move rfl rfl ?_))))))))))
 refine r_sub _ rfl rfl rfl rfl (by unfold I64; omega) ?_
 refine hl_call F.kit_Dice_To_cb rfl rfl (kit_Dice_To_meets (hi - lo) hn hs (by omega)) (.refl _) ⟨m0, trivial⟩ fun x hx => ?_
 obtain ⟨s1, z⟩ := x
 obtain ⟨hs1, hz⟩ := hx
 simp only [ToInv] at hz
 have hz1 : 0 ≤ z ∧ z ≤ 2000 := by
   refine ⟨hz.1, ?_⟩
   by_cases h1 : 1 ≤ hi - lo
   · have := hz.2.1 h1; omega
   · have := hz.2.2 (by omega); omega
 refine r_add (lo + z) rfl rfl rfl rfl (by unfold I64; omega) ?_
 refine r_assign rfl rfl (hl_nil (then_n (hc_ret ?_)))
 exact ret1 (s1, lo + z) rfl rfl rfl ⟨hs1, by simp only; omega, fun h => by have := hz.2.1 (by omega); simp only; omega, fun h => by have := hz.2.2 (by omega); simp only; omega⟩ (.refl _) trivial

theorem kit_sorts_meets : Meets Tryz.prog F.kit_sorts [] { val := fun g : Nat => .slice (some ⟨g, 0, none⟩) 9 9, LO := fun g => [Row (some ⟨g, 0, none⟩) (rows sortsL)] } := by
 refine meets_intro F.kit_sorts_f rfl (Nat.le_of_ble_eq_true rfl) fun w0 => ?_
 refine hc_seq (hc_region (r_assign rfl rfl (hl_nil (then_n (hc_seq (hc_region ?_))))))
 refine r_buildSlice _ rfl rfl (fun _ => T.bs_strs_9 ..) fun gS => ?_
 refine r_assign rfl rfl (hl_nil (then_n (hc_ret ?_)))
 refine hq_letgo (rows sortsL) (List.prefix_refl _) ?_
 exact ret1 gS rfl rfl rfl trivial (List.nil_sublist _) ⟨m0, trivial⟩

theorem kit_callings_meets : Meets Tryz.prog F.kit_callings [] { val := fun g : Nat => .slice (some ⟨g, 0, none⟩) 16 16, LO := fun g => [Row (some ⟨g, 0, none⟩) (rows callingsL)] } := by
 refine meets_intro F.kit_callings_f rfl (Nat.le_of_ble_eq_true rfl) fun w0 => ?_
 refine hc_seq (hc_region (r_assign rfl rfl (hl_nil (then_n (hc_seq (hc_region ?_))))))
 refine r_buildSlice _ rfl rfl (fun _ => T.bs_strs_16 ..) fun gS => ?_
 refine r_assign rfl rfl (hl_nil (then_n (hc_ret ?_)))
 refine hq_letgo (rows callingsL) (List.prefix_refl _) ?_
 exact ret1 gS rfl rfl rfl trivial (List.nil_sublist _) ⟨m0, trivial⟩

abbrev rngI (n : Nat) : List Int := (List.range n).map fun i : Nat => (i : Int)
theorem rng_len (n : Nat) : (rngI n).length = n := by simp
theorem rng_succ (n : Nat) : rngI (n + 1) = rngI n ++ [(n : Int)] := by unfold rngI; rw [List.range_succ, List.map_append]; rfl
theorem grow_own {e : TypeId} {g n cap : Nat} {xs : List Value} {cur : Array Value} (hG : Grow e 1 (some ⟨g, 0, none⟩) n cap xs [(g, Obj.cells cur e (0, 0))]) (hn : 0 < n) : n ≤ cap ∧ cap ≤ maxLen ∧ cur.size = cap * 1 ∧ cur.toList.take (n * 1) = xs := by
  obtain ⟨g', cur', e1, e2, h1, h2, h3, h4, _⟩ := hG.open_ hn
  cases e1
  injection e2 with e2 _
  injection e2 with _ e2
  injection e2 with e2 _ _
  subst e2
  exact ⟨h1, h2, h3, h4⟩
theorem own_int {cur : Array Value} {l : List Int} {i : Nat} (h : cur.toList.take (l.length * 1) = rows l) (hi : i < l.length) : cur[0 + i * 1]? = some (int (l.getD i default)) := by
  have h1 : (rows l)[i * 1]? = some (int (l.getD i default)) := rows_get0 hi rfl
  rw [← h, List.getElem?_take, if_pos (by omega)] at h1
  rw [Nat.zero_add, ← Array.getElem?_toList]
  exact h1
theorem swap_perm {l : List Int} {i j : Nat} (hi : i < l.length) (hj : j < l.length) : ((l.set i (l.getD j default)).set j (l.getD i default)).Perm l := by
  rw [getD_at hi, getD_at hj]
  exact List.set_set_perm hi hj

set_option maxHeartbeats 1000000 in
theorem kit_Dice_Order_meets {g : Nat} {A : Option Addr} {c : Nat} {nums : List Int} {s : Int × Int} (n : Nat) (hn : nums.length ≤ 9223372036854775807) (hs : DOK nums s) (hI : n ≤ 100) :
    Meets Tryz.prog F.kit_Dice_Order [.pointer (some ⟨g, 0, none⟩), int n] (diceCon g A c nums s (fun x : List Int × OutC => x.1.Perm (rngI n) ∧ x.1.length ≤ x.2.2) (fun x => .slice x.2.1 x.1.length x.2.2) (fun x => [Row x.2.1 (rows x.1)])) := by
 refine meets_intro F.kit_Dice_Order_f rfl (Nat.le_of_ble_eq_true rfl) fun w0 => ?_
 refine hc_seq (hc_region (r_assign rfl rfl (hl_nil (then_n (hc_seq (hc_region (r_assign rfl rfl (hl_nil (then_n (hc_seq (hc_seq ?_)))))))))))
 refine hc_region (r_assign rfl rfl (hl_nil (then_n (hc_block ?_))))
 refine hc_loop (β := Nat × OutC × Hp) ⟨fun x => x.1 ≤ n ∧ Grow T.int 1 x.2.1.1 x.1 x.2.1.2 (rows (rngI x.1)) x.2.2, fun x => [(0, .pointer (some ⟨g, 0, none⟩)), (1, int n), (5, .slice x.2.1.1 x.1 x.2.1.2), (6, int x.1)], fun x => x.2.2 ++ [dice g A c nums s], fun _ => [Row A (rows nums)]⟩ (fun x => n - x.1) (0, (none, 0), []) ⟨Nat.zero_le _, Grow.nil _ _⟩ ⟨rfl, rfl, rfl, rfl, trivial⟩ (List.Sublist.refl _) ⟨(by repeat constructor), trivial⟩ fun x hx => ?_
 obtain ⟨k, ⟨na, nc⟩, og⟩ := x
 obtain ⟨hk, hG⟩ := hx
 simp only at hk hG
 refine hc_seq (hc_seq (hc_region (r_move rfl rfl (r_move rfl rfl (r_lss rfl rfl rfl (hl_nil (then_n ?_)))))))
 refine c_dec rfl (fun hb1 => ?_) (fun hb1 => ?_)
 ·have hb1' := hb1; try simp at hb1'
  have hk2 : k < n := by omega
  refine hc_skip (then_n (hc_seq (hc_block (hc_region (r_move rfl rfl (r_move rfl rfl ?_))))))
  refine r_buildSlice _ rfl rfl (fun _ => T.bs_ints_1 ..) fun gS => ?_
  refine hl_letgo (rows [(k : Int)]) (List.prefix_refl _) ?_
  refine r_append (k + 1) (rows (rngI k ++ [(k : Int)])) T.el_ints rfl rfl rfl hG (.refl _) (Src.row (news := rows [(k : Int)]) (m := 1) m0 rfl (rows_one _) (by decide)) rfl (rows_append _ _).symm (by unfold maxLen; omega) (by omega) fun A' c' og' hG' => ?_
  refine r_assign rfl rfl (hl_nil (inb_n (then_n (hc_region (r_move rfl rfl ?_)))))
  refine r_add _ rfl rfl rfl rfl (by unfold I64; omega) ?_
  refine r_assign rfl rfl (hl_nil ?_)
  exact again _ (k + 1, (A', c'), og') ⟨by show k + 1 ≤ n; omega, by show Grow _ _ _ _ _ (rows (rngI (k + 1))) _; rw [rng_succ]; exact hG'⟩ (by show n - (k + 1) < n - k; omega) ⟨rfl, rfl, rfl, rfl, trivial⟩ (List.Sublist.refl _) ⟨(by repeat constructor), trivial⟩
 ·have hb1' := hb1; try simp at hb1'
  have hk2 : k = n := by omega
  subst hk2
  refine hc_exit (then_exit (then_exit (inb_hit (then_n (hc_seq (hc_seq (hc_region (r_move rfl rfl ?_))))))))
  refine r_sub _ rfl rfl rfl rfl (by unfold I64; omega) ?_
  refine r_assign rfl rfl (hl_nil (then_n (hc_block ?_)))
  refine hc_loop (β := (Int × Int) × List Int × Nat × Hp) ⟨fun x => DOK nums x.1 ∧ x.2.1.Perm (rngI k) ∧ x.2.2.1 ≤ k ∧ Grow T.int 1 na k nc (rows x.2.1) x.2.2.2, fun x => [(0, .pointer (some ⟨g, 0, none⟩)), (5, .slice na k nc), (7, int ((x.2.2.1 : Int) - 1))], fun x => x.2.2.2 ++ [dice g A c nums x.1], fun _ => [Row A (rows nums)]⟩ (fun x => x.2.2.1) (s, rngI k, k, og) ⟨hs, .refl _, Nat.le_refl _, hG⟩ ⟨rfl, rfl, rfl, trivial⟩ (List.Sublist.refl _) ⟨(by repeat constructor), trivial⟩ fun x hx => ?_
  clear hG
  obtain ⟨s, l, m, og⟩ := x
  obtain ⟨hs, hP, hm, hG⟩ := hx
  simp only at hs hP hm hG
  have hll : l.length = k := by rw [hP.length_eq, rng_len]
  refine hc_seq (hc_seq (hc_region (r_move rfl rfl (r_gtr rfl rfl rfl (hl_nil (then_n ?_))))))
  refine c_dec rfl (fun hb2 => ?_) (fun hb2 => ?_)
  ·have hb2' := hb2; try simp at hb2'
   obtain ⟨i, rfl⟩ : ∃ i, m = i + 1 := ⟨m - 1, by omega⟩
   have hi1 : (((i + 1 : Nat) : Int) - 1) = (i : Int) := by omega
   obtain ⟨gd, cur, e1, e2, hnc, hcm, hcs, hct, _⟩ := hG.open_ (by omega)
   subst e1
   subst e2
   rw [← hll] at hct
   refine hc_skip (then_n (hc_seq (hc_block (hc_seq (hc_region (r_move rfl rfl ?_))))))
   refine r_move (v := int (i : Int)) rfl (congrArg (fun z => some (int z)) hi1) ?_
   refine hl_call F.kit_Dice_To_cb rfl rfl (kit_Dice_To_meets (i : Int) hn hs (by omega)) (.swap _ _ _) ⟨(by repeat constructor), trivial⟩ fun x hx => ?_
   obtain ⟨s1, z⟩ := x
   obtain ⟨hs1, hz⟩ := hx
   simp only [ToInv] at hz
   obtain ⟨j, rfl⟩ := Int.eq_ofNat_of_zero_le hz.1
   have hj : j ≤ i := by
     by_cases h1 : 1 ≤ (i : Int)
     · have := hz.2.1 h1; omega
     · have := hz.2.2 (by omega); omega
   refine r_assign rfl rfl (hl_nil (then_n (hc_seq (hc_region (r_move rfl rfl ?_)))))
   refine r_move (v := int (i : Int)) rfl (congrArg (fun z => some (int z)) hi1) ?_
   refine r_indexAddr_own i (0 + i * 1) rfl T.u_ints T.sz_int rfl rfl rfl (by omega) rfl ?_
   refine r_load (v := int (l.getD i default)) rfl T.cell_int rfl (cell_own (by repeat constructor) (own_int hct (by omega))) ?_
   refine r_assign rfl rfl (hl_nil (then_n (hc_seq (hc_region (r_move rfl rfl ?_)))))
   refine r_move (v := int (i : Int)) rfl (congrArg (fun z => some (int z)) hi1) ?_
   refine r_move rfl rfl (r_move rfl rfl ?_)
   refine r_indexAddr_own j (0 + j * 1) rfl T.u_ints T.sz_int rfl rfl rfl (by omega) rfl ?_
   refine r_load (v := int (l.getD j default)) rfl T.cell_int rfl (cell_own (by repeat constructor) (own_int hct (by omega))) ?_
   refine r_indexAddr_own i i rfl T.u_ints T.sz_int rfl rfl rfl (by omega) (by omega) ?_
   refine r_store rfl rfl (.swap _ _ _) T.sz_int (by have := own_int hct (show i < l.length by omega); rw [Nat.zero_add, Nat.mul_one] at this; exact this) (by rfl) ?_
   have hG1 := Grow.set (e := T.int) (g := gd) (l := l) (k := i) (a := l.getD j default) rfl rfl (by omega) hcm hcs hct
   rw [hll] at hG1
   have hc1 := (grow_own hG1 (by omega)).2.2
   have hl1 : (l.set i (l.getD j default)).length = l.length := List.length_set ..
   rw [← hll, ← hl1] at hc1
   refine hl_nil (then_n (hc_region (r_move rfl rfl (r_move rfl rfl (r_move rfl rfl ?_)))))
   refine r_indexAddr_own j j rfl T.u_ints T.sz_int rfl rfl rfl (by omega) (by omega) ?_
   refine r_store rfl rfl (.refl _) T.sz_int (by have := own_int hc1.2 (show j < _ by omega); rw [Nat.zero_add, Nat.mul_one] at this; exact this) (by rfl) ?_
   have hG2 := Grow.set (e := T.int) (g := gd) (l := l.set i (l.getD j default)) (k := j) (a := l.getD i default) rfl rfl (by omega) hcm hc1.1 hc1.2
   rw [hl1, hll] at hG2
   refine hl_nil (inb_n (then_n (hc_region ?_)))
   refine r_move (v := int (i : Int)) rfl (congrArg (fun z => some (int z)) hi1) ?_
   refine r_sub ((i : Int) - 1) rfl rfl rfl (by omega) (by unfold I64; omega) ?_
   refine r_assign rfl rfl (hl_nil ?_)
   exact again _ (s1, (l.set i (l.getD j default)).set j (l.getD i default), i, [_]) ⟨hs1, (swap_perm (by omega) (by omega)).trans hP, by show i ≤ k; omega, hG2⟩ (by show i < i + 1; omega) ⟨rfl, rfl, rfl, trivial⟩ (List.Sublist.refl _) ⟨(by repeat constructor), trivial⟩
  ·have hb2' := hb2; try simp at hb2'
   refine hc_exit (then_exit (then_exit (inb_hit (then_n (hc_seq (hc_region (r_move rfl rfl (r_assign rfl rfl (hl_nil (then_n (hc_ret ?_)))))))))))
   refine hq_grown hG ?_
   exact ret1 (s, l, (na, nc)) rfl (by show some (Value.slice na k nc) = some (Value.slice na l.length nc); rw [hll]) rfl ⟨hs, hP, by show l.length ≤ nc; rw [hll]; exact hG.le⟩ (List.Sublist.refl _) ⟨m0, trivial⟩

theorem not_mem_take {α : Type} [Inhabited α] {l : List α} {k : Nat} {s : α} (hk : k < l.length) (h : s ∉ l.take k) (h1 : ¬ s = l.getD k default) : s ∉ l.take (k + 1) := by
  rw [take_succ_getD l k hk]
  simp only [List.mem_append, List.mem_singleton, not_or]
  exact ⟨h, h1⟩
/-- Where a number lies. -/
def AtInv (l : List Int) (s z : Int) : Prop := (0 ≤ z ↔ s ∈ l) ∧ (s ∈ l → ∀ k : Nat, z < (k : Int) ↔ s ∈ l.take k)
theorem at_found {l : List Int} {k : Nat} {s : Int} (hk : k < l.length) (hb : l.getD k default = s) (ht : s ∉ l.take k) : AtInv l s (k : Int) := by
  refine ⟨⟨fun _ => hb ▸ getD_mem hk, fun _ => by omega⟩, fun _ j => ⟨fun h => ?_, fun h => ?_⟩⟩
  · have h1 : s ∈ l.take (k + 1) := by rw [take_succ_getD l k hk, hb]; simp
    exact List.take_subset_take_left l (by omega) h1
  · rcases Nat.lt_or_ge k j with h2 | h2
    · omega
    · exact absurd (List.take_subset_take_left l h2 h) ht
theorem at_none {l : List Int} {s : Int} (ht : s ∉ l) : AtInv l s (-1) := ⟨⟨fun h => by omega, fun h => absurd h ht⟩, fun h => absurd h ht⟩
def partL (o : List Int) (m n : Nat) : List Int := (rngI n).filter fun v => decide (v ∈ o.take m)
theorem partL_succ (o : List Int) (m n : Nat) : partL o m (n + 1) = if (n : Int) ∈ o.take m then partL o m n ++ [(n : Int)] else partL o m n := by
  unfold partL
  rw [rng_succ, List.filter_append]
  by_cases h : (n : Int) ∈ o.take m <;> simp [h]
theorem partL_asc (o : List Int) (m n : Nat) : (partL o m n).Pairwise (· < ·) := by
  unfold partL rngI
  refine List.Pairwise.filter _ (List.pairwise_map.2 (List.pairwise_lt_range.imp fun h => ?_))
  omega
theorem partL_in {o : List Int} {m n : Nat} {v : Int} (h : v ∈ partL o m n) : 0 ≤ v ∧ v < (n : Int) := by
  unfold partL rngI at h
  have h1 := (List.mem_filter.1 h).1
  obtain ⟨i, hi, rfl⟩ := List.mem_map.1 h1
  have := List.mem_range.1 hi
  omega
theorem partL_len0 (o : List Int) (m n : Nat) : (partL o m n).length ≤ n := by
  unfold partL
  have := List.length_filter_le (fun v => decide (v ∈ o.take m)) (rngI n)
  rw [rng_len] at this
  exact this
theorem partL_len {o : List Int} {m n : Nat} (h : o.Perm (rngI n)) : (partL o m n).length ≤ m := by
  have hn : o.Nodup := h.nodup_iff.2 (by unfold rngI List.Nodup; exact List.pairwise_map.2 (List.pairwise_lt_range.imp fun h => by omega))
  unfold partL
  rw [(h.symm.filter _).length_eq]
  have e : o.filter (fun v => decide (v ∈ o.take m)) = (o.take m).filter (fun v => decide (v ∈ o.take m)) ++ (o.drop m).filter (fun v => decide (v ∈ o.take m)) := by rw [← List.filter_append, List.take_append_drop]
  have hd := (List.nodup_append.1 ((List.take_append_drop m o).symm ▸ hn : (o.take m ++ o.drop m).Nodup)).2.2
  have h0 : (o.drop m).filter (fun v => decide (v ∈ o.take m)) = [] := List.filter_eq_nil_iff.2 fun a ha => by
    rw [decide_eq_true_eq]
    exact fun h => hd a h a ha rfl
  rw [e, h0, List.append_nil]
  exact Nat.le_trans (List.length_filter_le _ _) (by rw [List.length_take]; omega)

theorem kit_Index_meets {A : Option Addr} {c : Nat} (l : List Int) (s : Int) (hl : l.length ≤ 1000000) : Meets Tryz.prog F.kit_Index [.slice A l.length c, int s] { LI := [Row A (rows l)], inv := fun z : Int => AtInv l s z, val := fun z => int z } := by
 refine meets_intro F.kit_Index_f rfl (Nat.le_of_ble_eq_true rfl) fun w0 => ?_
 refine hc_seq (hc_region (r_assign rfl rfl (hl_nil (then_n (hc_seq (hc_seq (hc_region (r_assign rfl rfl (hl_nil (then_n (hc_block ?_)))))))))))
 refine hc_loop (β := Nat) ⟨fun k => k ≤ l.length ∧ s ∉ l.take k, fun k => [(0, .slice A l.length c), (1, int s), (5, int k)], fun _ => [], fun _ => [Row A (rows l)]⟩ (fun k => l.length - k) 0 ⟨Nat.zero_le _, by simp⟩ ⟨rfl, rfl, rfl, trivial⟩ (.refl _) ⟨m0, trivial⟩ fun k hk => ?_
 obtain ⟨hk, ht⟩ := hk
 refine hc_seq (hc_seq (hc_region (r_move rfl rfl (r_move rfl rfl ?_))))
 refine r_len_sl rfl T.u_ints rfl ?_
 refine r_lss rfl rfl rfl (hl_nil (then_n ?_))
 refine c_dec rfl (fun hb1 => ?_) (fun hb1 => ?_)
 ·have hb1' := hb1; try simp at hb1'
  have hk2 : k < l.length := by omega
  refine hc_skip (then_n (hc_seq (hc_block (hc_seq (hc_region (r_move rfl rfl (r_move rfl rfl ?_)))))))
  refine r_elem (α := Int) _ _ rfl T.u_ints T.sz_int rfl rfl rfl (by repeat constructor) rfl (by omega) (by decide) ?_
  refine r_load rfl T.cell_int rfl (cell_row (by repeat constructor) (rows_get0 (by omega) rfl)) ?_
  refine r_move rfl rfl (r_eql rfl rfl rfl (hl_nil (then_n ?_)))
  refine c_dec rfl (fun hb2 => ?_) (fun hb2 => ?_)
  ·have hb2' := hb2; try simp at hb2'
   refine hc_seq (hc_region (r_move rfl rfl (r_assign rfl rfl (hl_nil (then_n (hc_ret (inb_ret (then_ret (then_ret (inb_ret (then_ret ?_)))))))))))
   exact ret1 (k : Int) rfl rfl rfl (at_found hk2 hb2 ht) (.refl _) trivial
  ·have hb2' := hb2; try simp at hb2'
   refine hc_skip (inb_n (then_n (hc_region (r_move rfl rfl ?_))))
   refine r_add _ rfl rfl rfl rfl (by unfold I64; omega) ?_
   refine r_assign rfl rfl (hl_nil ?_)
   exact again _ (k + 1) ⟨by omega, not_mem_take hk2 ht (fun e => hb2 e.symm)⟩ (by show l.length - (k + 1) < l.length - k; omega) ⟨rfl, rfl, rfl, trivial⟩ (.refl _) ⟨m0, trivial⟩
 ·have hb1' := hb1; try simp at hb1'
  have hk2 : k = l.length := by omega
  subst hk2
  rw [List.take_length] at ht
  refine hc_exit (then_exit (then_exit (inb_hit (then_n (hc_seq (hc_region (r_assign rfl rfl (hl_nil (then_n (hc_ret ?_))))))))))
  exact ret1 (-1) rfl rfl rfl (at_none ht) (.refl _) trivial

set_option maxHeartbeats 1000000 in
theorem kit_partOf_meets {g : Nat} {A : Option Addr} {c : Nat} {nums : List Int} {s : Int × Int} (n m : Nat) (hn : nums.length ≤ 9223372036854775807) (hs : DOK nums s) (hI : n ≤ 100 ∧ m ≤ 100) :
    Meets Tryz.prog F.kit_partOf [.pointer (some ⟨g, 0, none⟩), int n, int m] (diceCon g A c nums s (fun x : List Int × OutC => (x.1.Pairwise (· < ·) ∧ ∀ v ∈ x.1, 0 ≤ v ∧ v < (n : Int)) ∧ x.1.length ≤ m ∧ x.1.length ≤ x.2.2) (fun x => .slice x.2.1 x.1.length x.2.2) (fun x => [Row x.2.1 (rows x.1)])) := by
 refine meets_intro F.kit_partOf_f rfl (Nat.le_of_ble_eq_true rfl) fun w0 => ?_
 refine hc_seq (hc_region (r_assign rfl rfl (hl_nil (then_n (hc_seq (hc_region (r_move rfl rfl (r_move rfl rfl ?_))))))))
 refine hl_call F.kit_Dice_Order_cb rfl rfl (kit_Dice_Order_meets n hn hs hI.1) (List.Perm.refl _) ⟨(by repeat constructor), trivial⟩ fun x hx => ?_
 obtain ⟨s1, o, oa, oc⟩ := x
 obtain ⟨hs1, hP, hoc⟩ := hx
 simp only at hP hoc
 have hol : o.length = n := by rw [hP.length_eq, rng_len]
 refine r_assign rfl rfl (hl_nil (then_n (hc_seq (hc_region (r_assign rfl rfl (hl_nil (then_n (hc_seq (hc_seq (hc_region (r_assign rfl rfl ?_)))))))))))
 refine hl_nil (then_n (hc_block ?_))
 refine hc_loop (β := Nat × OutC × Hp) ⟨fun x => x.1 ≤ n ∧ Grow T.int 1 x.2.1.1 (partL o m x.1).length x.2.1.2 (rows (partL o m x.1)) x.2.2, fun x => [(1, int n), (2, int m), (7, .slice oa o.length oc), (8, .slice x.2.1.1 (partL o m x.1).length x.2.1.2), (9, int x.1)], fun x => x.2.2 ++ [dice g A c nums s1], fun _ => [Row oa (rows o)]⟩ (fun x => n - x.1) (0, (none, 0), []) ⟨Nat.zero_le _, Grow.nil _ _⟩ ⟨rfl, rfl, rfl, rfl, rfl, trivial⟩ (List.Sublist.refl _) ⟨(by repeat constructor), trivial⟩ fun x hx => ?_
 obtain ⟨k, ⟨na, nc⟩, og⟩ := x
 obtain ⟨hk, hG⟩ := hx
 simp only at hk hG
 have hpl := partL_len0 o m k
 refine hc_seq (hc_seq (hc_region (r_move rfl rfl (r_move rfl rfl (r_lss rfl rfl rfl (hl_nil (then_n ?_)))))))
 refine c_dec rfl (fun hb1 => ?_) (fun hb1 => ?_)
 ·have hb1' := hb1; try simp at hb1'
  have hk2 : k < n := by omega
  have hmem : (k : Int) ∈ o := hP.mem_iff.2 (List.mem_map.2 ⟨k, List.mem_range.2 hk2, rfl⟩)
  refine hc_skip (then_n (hc_seq (hc_block (hc_seq (hc_region (r_move rfl rfl (r_move rfl rfl ?_)))))))
  refine hl_call F.kit_Index_cb rfl rfl (kit_Index_meets o (k : Int) (by omega)) (List.Perm.refl _) ⟨(by repeat constructor), trivial⟩ fun z hz => ?_
  refine r_assign rfl rfl (hl_nil (then_n (hc_seq (hc_region (r_move rfl rfl (r_move rfl rfl (r_lss rfl rfl rfl (hl_nil (then_n ?_)))))))))
  refine c_dec rfl (fun hb2 => ?_) (fun hb2 => ?_)
  ·have hb2' := hb2; try simp at hb2'
   have hin := (hz.2 hmem m).1 hb2
   refine hc_region (r_move rfl rfl (r_move rfl rfl ?_))
   refine r_buildSlice _ rfl rfl (fun _ => T.bs_ints_1 ..) fun gS => ?_
   refine hl_letgo (rows [(k : Int)]) (List.prefix_refl _) ?_
   refine r_append ((partL o m k).length + 1) (rows (partL o m k ++ [(k : Int)])) T.el_ints rfl rfl rfl hG (.refl _) (Src.row (news := rows [(k : Int)]) (m := 1) m0 rfl (rows_one _) (by decide)) rfl (rows_append _ _).symm (by unfold maxLen; omega) (by omega) fun A' c' og' hG' => ?_
   refine r_assign rfl rfl (hl_nil (inb_n (then_n (hc_region (r_move rfl rfl ?_)))))
   refine r_add _ rfl rfl rfl rfl (by unfold I64; omega) ?_
   refine r_assign rfl rfl (hl_nil ?_)
   exact again _ (k + 1, (A', c'), og') ⟨by show k + 1 ≤ n; omega, by show Grow _ _ _ (partL o m (k + 1)).length _ (rows (partL o m (k + 1))) _; rw [partL_succ, if_pos hin, List.length_append]; exact hG'⟩ (by show n - (k + 1) < n - k; omega) ⟨rfl, rfl, rfl, by show some (Value.slice A' ((partL o m k).length + 1) c') = some (Value.slice A' (partL o m (k + 1)).length c'); rw [partL_succ, if_pos hin, List.length_append]; rfl, rfl, trivial⟩ (List.Sublist.refl _) ⟨(by repeat constructor), trivial⟩
  ·have hb2' := hb2; try simp at hb2'
   have hin := mt (hz.2 hmem m).2 hb2
   refine hc_skip (inb_n (then_n (hc_region (r_move rfl rfl ?_))))
   refine r_add _ rfl rfl rfl rfl (by unfold I64; omega) ?_
   refine r_assign rfl rfl (hl_nil ?_)
   exact again _ (k + 1, (na, nc), og) ⟨by show k + 1 ≤ n; omega, by show Grow _ _ _ (partL o m (k + 1)).length _ (rows (partL o m (k + 1))) _; rw [partL_succ, if_neg hin]; exact hG⟩ (by show n - (k + 1) < n - k; omega) ⟨rfl, rfl, rfl, by show some (Value.slice na (partL o m k).length nc) = some (Value.slice na (partL o m (k + 1)).length nc); rw [partL_succ, if_neg hin], rfl, trivial⟩ (List.Sublist.refl _) ⟨(by repeat constructor), trivial⟩
 ·have hb1' := hb1; try simp at hb1'
  have hk2 : k = n := by omega
  subst hk2
  refine hc_exit (then_exit (then_exit (inb_hit (then_n (hc_seq (hc_region (r_move rfl rfl (r_assign rfl rfl (hl_nil (then_n (hc_ret ?_)))))))))))
  refine hq_grown hG ?_
  exact ret1 (s1, partL o m k, (na, nc)) rfl rfl rfl ⟨hs1, ⟨partL_asc o m k, fun v hv => partL_in hv⟩, partL_len hP, hG.le⟩ (List.Sublist.refl _) ⟨m0, trivial⟩

theorem law04_is_meets {A : Option Addr} {n cp : Nat} (s : Str) (c : Int) : Meets Tryz.prog F.law04_is [str s, int c, .slice A n cp] { val := fun _ : Unit => .agg #[str s, int c, int (-1), .slice A n cp] } := by
 refine meets_intro F.law04_is_f rfl (Nat.le_of_ble_eq_true rfl) fun w0 => ?_
 refine hc_seq (hc_region ?_)
 refine r_alloc rfl (fun _ => T.al_api_Head _) fun gA => ?_
 refine hl_nil (then_n (hc_seq (hc_region (r_move rfl rfl (r_move rfl rfl (r_move rfl rfl ?_))))))
 refine r_build _ rfl rfl (fun _ => T.bd_api_Head_0_1_2_3 ..) ?_
 refine r_storeS rfl rfl (by first | exact .refl _ | exact perm2 _ _ _ | exact perm3 _ _ _ _ | exact perm4 _ _ _ _ _) T.sz_api_Head (by rfl) (by rfl) ?_
 refine hl_nil (then_n (hc_ret ?_))
 refine ret_row () rfl rfl T.row_api_Head T.sz_api_Head rfl m0 rfl rfl trivial (List.nil_sublist _) trivial

theorem law04_see_meets (s : Str) (c : Int) : Meets Tryz.prog F.law04_see [str s, int c] { val := fun _ : Unit => .agg #[str s, int (-1), int c, .slice none 0 0] } := by
 refine meets_intro F.law04_see_f rfl (Nat.le_of_ble_eq_true rfl) fun w0 => ?_
 refine hc_seq (hc_region ?_)
 refine r_alloc rfl (fun _ => T.al_api_Head _) fun gA => ?_
 refine hl_nil (then_n (hc_seq (hc_region (r_move rfl rfl (r_move rfl rfl ?_)))))
 refine r_build _ rfl rfl (fun _ => T.bd_api_Head_0_1_2 ..) ?_
 refine r_storeS rfl rfl (by first | exact .refl _ | exact perm2 _ _ _ | exact perm3 _ _ _ _ | exact perm4 _ _ _ _ _) T.sz_api_Head (by rfl) (by rfl) ?_
 refine hl_nil (then_n (hc_ret ?_))
 refine ret_row () rfl rfl T.row_api_Head T.sz_api_Head rfl m0 rfl rfl trivial (List.nil_sublist _) trivial

def shopsC : List Cl := [([102, 111, 111, 100], -1), ([98, 114, 101, 97, 100], 0), ([99, 108, 111, 116, 104], -1), ([104, 97, 116, 115], 2)]
def shopsH (g1 g2 : Nat) : List Hd := [([98, 97, 107, 101, 114], 1, -1, ⟨none, 0, []⟩), ([98, 111, 110, 110, 101, 116, 115], -1, 3, ⟨none, 0, []⟩), ([99, 111, 110, 102, 101, 99, 116, 105, 111, 110, 101, 114], 0, -1, ⟨some ⟨g1, 0, none⟩, 1, [0]⟩), ([104, 97, 116, 116, 101, 114], 3, -1, ⟨none, 0, []⟩), ([109, 101, 114, 99, 101, 114], 2, -1, ⟨some ⟨g2, 0, none⟩, 1, [3]⟩), ([109, 105, 108, 108, 105, 110, 101, 114], -1, 1, ⟨none, 0, []⟩)]

set_option maxHeartbeats 1000000 in
theorem law04_shops_meets : Meets Tryz.prog F.law04_shops [] { val := fun x : Nat × Nat × Nat × Nat => .agg #[.slice (some ⟨x.1, 0, none⟩) 4 4, .slice (some ⟨x.2.1, 0, none⟩) 6 6], LO := fun x => [Row (some ⟨x.1, 0, none⟩) (rows shopsC), RowsF (some ⟨x.2.1, 0, none⟩) (shopsH x.2.2.1 x.2.2.2) Hd.row] } := by
 refine meets_intro F.law04_shops_f rfl (Nat.le_of_ble_eq_true rfl) fun w0 => ?_
 refine hc_seq (hc_region ?_)
 refine r_alloc rfl (fun _ => T.al_api_Trades _) fun gA => ?_
 refine hl_nil (then_n (hc_seq (hc_region ?_)))
 refine r_build _ rfl rfl (fun _ => T.bd_api_Class_0_1 ..) ?_
 refine r_build _ rfl rfl (fun _ => T.bd_api_Class_0 ..) ?_
 refine r_build _ rfl rfl (fun _ => T.bd_api_Class_0_1 ..) ?_
 refine r_build _ rfl rfl (fun _ => T.bd_api_Class_0_1 ..) ?_
 refine r_buildSlice _ rfl rfl (fun _ => T.bs_L_api_Class_4 ..) fun gC => ?_
 refine hl_letgo (rows shopsC) (List.prefix_refl _) ?_
 refine hl_call F.law04_is_cb rfl rfl (law04_is_meets (A := none) (n := 0) (cp := 0) [98, 97, 107, 101, 114] 1) (List.Perm.refl _) trivial fun _ _ => ?_
 refine hl_call F.law04_see_cb rfl rfl (law04_see_meets [98, 111, 110, 110, 101, 116, 115] 3) (List.Perm.refl _) trivial fun _ _ => ?_
 refine r_buildSlice _ rfl rfl (fun _ => T.bs_ints_1 ..) fun g1 => ?_
 refine hl_letgo (rows [(0 : Int)]) (List.prefix_refl _) ?_
 refine hl_call F.law04_is_cb rfl rfl (law04_is_meets (A := some ⟨g1, 0, none⟩) (n := 1) (cp := 1) [99, 111, 110, 102, 101, 99, 116, 105, 111, 110, 101, 114] 0) (List.Perm.refl _) trivial fun _ _ => ?_
 refine hl_call F.law04_is_cb rfl rfl (law04_is_meets (A := none) (n := 0) (cp := 0) [104, 97, 116, 116, 101, 114] 3) (List.Perm.refl _) trivial fun _ _ => ?_
 refine r_buildSlice _ rfl rfl (fun _ => T.bs_ints_1 ..) fun g2 => ?_
 refine hl_letgo (rows [(3 : Int)]) (List.prefix_refl _) ?_
 refine hl_call F.law04_is_cb rfl rfl (law04_is_meets (A := some ⟨g2, 0, none⟩) (n := 1) (cp := 1) [109, 101, 114, 99, 101, 114] 2) (List.Perm.refl _) trivial fun _ _ => ?_
 refine hl_call F.law04_see_cb rfl rfl (law04_see_meets [109, 105, 108, 108, 105, 110, 101, 114] 1) (List.Perm.refl _) trivial fun _ _ => ?_
 refine r_buildSlice _ rfl rfl (fun _ => T.bs_L_api_Head_6 ..) fun gH => ?_
 refine hl_letgo (rows (shopsH g1 g2)) (List.prefix_refl _) ?_
 refine r_build _ rfl rfl (fun _ => T.bd_api_Trades_0_1 ..) ?_
 refine r_storeS rfl rfl (by first | exact .refl _ | exact perm2 _ _ _ | exact perm3 _ _ _ _ | exact perm4 _ _ _ _ _) T.sz_api_Trades (by rfl) (by rfl) ?_
 refine hl_nil (then_n (hc_ret ?_))
 refine hq_nilrow (α := Int) ?_
 refine hq_facts (Fs := (shopsH g1 g2).map Hd.row) (by intro F hF; left; simp only [shopsH, List.map_cons, List.map_nil, List.mem_cons, List.not_mem_nil, or_false] at hF; rcases hF with rfl | rfl | rfl | rfl | rfl | rfl <;> repeat constructor) ?_
 refine hq_rowsF (A := some ⟨gH, 0, none⟩) (ps := shopsH g1 g2) (f := Hd.row) (by repeat constructor) m0 ?_
 refine ret_row (gC, gH, g1, g2) rfl rfl T.row_api_Trades T.sz_api_Trades rfl m0 rfl rfl trivial (List.nil_sublist _) ⟨(by repeat constructor), m0, trivial⟩

def laterH (g : Nat) : List Hd := [([98, 97, 107, 101, 114], 1, -1, ⟨none, 0, []⟩), ([98, 111, 110, 110, 101, 116, 115], -1, 2, ⟨none, 0, []⟩), ([104, 97, 116, 116, 101, 114], 2, -1, ⟨none, 0, []⟩), ([105, 114, 111, 110, 109, 111, 110, 103, 101, 114], 0, -1, ⟨none, 0, []⟩), ([109, 101, 114, 99, 101, 114], 2, -1, ⟨some ⟨g, 0, none⟩, 1, [2]⟩), ([109, 105, 108, 108, 105, 110, 101, 114], -1, 1, ⟨none, 0, []⟩)]

set_option maxHeartbeats 1000000 in
theorem law04_later_meets : Meets Tryz.prog F.law04_later [] { val := fun x : Nat × Nat × Nat => .agg #[.slice (some ⟨x.1, 0, none⟩) 4 4, .slice (some ⟨x.2.1, 0, none⟩) 6 6], LO := fun x => [Row (some ⟨x.1, 0, none⟩) (rows shopsC), RowsF (some ⟨x.2.1, 0, none⟩) (laterH x.2.2) Hd.row] } := by
 refine meets_intro F.law04_later_f rfl (Nat.le_of_ble_eq_true rfl) fun w0 => ?_
 refine hc_seq (hc_region ?_)
 refine r_alloc rfl (fun _ => T.al_api_Trades _) fun g0 => ?_
 refine hl_nil (then_n (hc_seq (hc_region ?_)))
 refine hl_call F.law04_shops_cb rfl rfl (law04_shops_meets) (List.Perm.refl _) trivial fun x _ => ?_
 obtain ⟨gC, gH0, gx, gy⟩ := x
 refine r_alloc rfl (fun _ => T.al_api_Trades _) fun g3 => ?_
 refine r_storeS rfl rfl (by first | exact .refl _ | exact perm2 _ _ _ | exact perm3 _ _ _ _ | exact perm4 _ _ _ _ _) T.sz_api_Trades (by rfl) (by rfl) ?_
 refine hl_nil (then_n (hc_seq (hc_region ?_)))
 refine hl_call F.law04_is_cb rfl rfl (law04_is_meets (A := none) (n := 0) (cp := 0) [98, 97, 107, 101, 114] 1) (List.Perm.refl _) trivial fun _ _ => ?_
 refine hl_call F.law04_see_cb rfl rfl (law04_see_meets [98, 111, 110, 110, 101, 116, 115] 2) (List.Perm.refl _) trivial fun _ _ => ?_
 refine hl_call F.law04_is_cb rfl rfl (law04_is_meets (A := none) (n := 0) (cp := 0) [104, 97, 116, 116, 101, 114] 2) (List.Perm.refl _) trivial fun _ _ => ?_
 refine hl_call F.law04_is_cb rfl rfl (law04_is_meets (A := none) (n := 0) (cp := 0) [105, 114, 111, 110, 109, 111, 110, 103, 101, 114] 0) (List.Perm.refl _) trivial fun _ _ => ?_
 refine r_buildSlice _ rfl rfl (fun _ => T.bs_ints_1 ..) fun g1 => ?_
 refine hl_letgo (rows [(2 : Int)]) (List.prefix_refl _) ?_
 refine hl_call F.law04_is_cb rfl rfl (law04_is_meets (A := some ⟨g1, 0, none⟩) (n := 1) (cp := 1) [109, 101, 114, 99, 101, 114] 2) (List.Perm.refl _) trivial fun _ _ => ?_
 refine hl_call F.law04_see_cb rfl rfl (law04_see_meets [109, 105, 108, 108, 105, 110, 101, 114] 1) (List.Perm.refl _) trivial fun _ _ => ?_
 refine r_buildSlice _ rfl rfl (fun _ => T.bs_L_api_Head_6 ..) fun gH => ?_
 refine hl_letgo (rows (laterH g1)) (List.prefix_refl _) ?_
 refine r_fieldAddr ⟨_, 1, none⟩ rfl rfl T.fa_api_Trades_1 rfl ?_
 refine r_store rfl rfl (by first | exact .refl _ | exact perm2 _ _ _ | exact perm3 _ _ _ _ | exact perm4 _ _ _ _ _) T.sz_L_api_Head (by rfl) (by rfl) ?_
 refine hl_nil (then_n (hc_seq (hc_region ?_)))
 refine r_loadA rfl T.row_api_Trades T.sz_api_Trades rfl (by repeat constructor) (by rfl) ?_
 refine r_storeS rfl rfl (by first | exact .refl _ | exact perm2 _ _ _ | exact perm3 _ _ _ _ | exact perm4 _ _ _ _ _) T.sz_api_Trades (by rfl) (by rfl) ?_
 refine hl_nil (then_n (hc_ret ?_))
 refine hq_nilrow (α := Int) ?_
 refine hq_facts (Fs := (laterH g1).map Hd.row) (by intro F hF; left; simp only [laterH, List.map_cons, List.map_nil, List.mem_cons, List.not_mem_nil, or_false] at hF; rcases hF with rfl | rfl | rfl | rfl | rfl | rfl <;> repeat constructor) ?_
 refine hq_rowsF (A := some ⟨gH, 0, none⟩) (ps := laterH g1) (f := Hd.row) (by repeat constructor) m0 ?_
 refine ret_row (gC, gH, g1) rfl rfl T.row_api_Trades T.sz_api_Trades rfl m0 rfl rfl trivial (List.nil_sublist _) ⟨(by repeat constructor), m0, trivial⟩

abbrev lsts (ps : List (Sl Int)) : List (List Int) := ps.map (·.l)
theorem lsts_len (ps : List (Sl Int)) : (lsts ps).length = ps.length := List.length_map ..
theorem lsts_take_succ {ps : List (Sl Int)} {k : Nat} (hk : k < ps.length) : (lsts ps).take (k + 1) = (lsts ps).take k ++ [(ps.getD k default).l] := by
  have h1 : k < (lsts ps).length := by simpa using hk
  rw [List.take_succ_eq_append_getElem h1, getD_at hk]
  simp
theorem lsts_at (ps : List (Sl Int)) {k : Nat} (hk : k < ps.length) : (lsts ps).getD k [] = (ps.getD k default).l := by
  rw [getD_at hk]
  simp [List.getD_eq_getElem?_getD, hk]

theorem kit_EqLists_meets {A B : Option Addr} {ca cb : Nat} (a b : List (Sl Int)) (ha : a.length ≤ 1000000) (hla : ∀ p ∈ a, p.l.length ≤ 1000000) :
    Meets Tryz.prog F.kit_EqLists [.slice A a.length ca, .slice B b.length cb] { LI := [Rows2 A a, Rows2 B b], val := fun _ : Unit => .bool (decide (lsts a = lsts b)) } := by
 refine meets_intro F.kit_EqLists_f rfl (Nat.le_of_ble_eq_true rfl) fun w0 => ?_
 refine hc_seq (hc_region (r_assign rfl rfl (hl_nil (then_n (hc_seq (hc_seq (hc_region (r_move rfl rfl ?_))))))))
 refine r_len_sl rfl T.u_intss rfl ?_
 refine r_move rfl rfl ?_
 refine r_len_sl rfl T.u_intss rfl ?_
 refine r_neq rfl rfl rfl (hl_nil (then_n ?_))
 refine c_dec rfl (fun hb1 => ?_) (fun hb1 => ?_)
 ·have hb1' := hb1; try simp at hb1'
  have hb1 : ¬ lsts a = lsts b := fun e => by have := congrArg List.length e; rw [lsts_len, lsts_len] at this; omega
  refine hc_seq (hc_region (r_assign rfl rfl (hl_nil (then_n (hc_ret (then_ret ?_))))))
  exact ret1 () rfl (by rw [decide_eq_false hb1]; rfl) rfl trivial (.refl _) trivial
 ·have hb1' := hb1; try simp at hb1'
  have hb1 : a.length = b.length := by omega
  refine hc_outer (A := A) (ps := a) m0 ?_
  refine hc_outer (A := B) (ps := b) m2 ?_
  refine hc_skip (then_n (hc_seq (hc_seq (hc_region (r_assign rfl rfl (hl_nil (then_n (hc_block ?_))))))))
  refine hc_loop (β := Nat) ⟨fun k => k ≤ a.length ∧ (lsts a).take k = (lsts b).take k, fun k => [(0, .slice A a.length ca), (1, .slice B b.length cb), (5, int k)], fun _ => [], fun _ => [Row B (rows b), Row A (rows a), Rows2 A a, Rows2 B b]⟩ (fun k => a.length - k) 0 ⟨Nat.zero_le _, rfl⟩ ⟨rfl, rfl, rfl, trivial⟩ (.refl _) ⟨m0, m1, m2, m3, trivial⟩ fun k hk => ?_
  obtain ⟨hk, ht⟩ := hk
  refine hc_seq (hc_seq (hc_region (r_move rfl rfl (r_move rfl rfl ?_))))
  refine r_len_sl rfl T.u_intss rfl ?_
  refine r_lss rfl rfl rfl (hl_nil (then_n ?_))
  refine c_dec rfl (fun hb2 => ?_) (fun hb2 => ?_)
  ·have hb2' := hb2; try simp at hb2'
   have hk2 : k < a.length := by omega
   have hma := getD_mem hk2
   have hmb := getD_mem (l := b) (k := k) (by omega)
   refine hc_skip (then_n (hc_seq (hc_block (hc_seq ?_))))
   refine hc_draw 8 mixed (by decide) (by decide) rfl rfl ?_
   apply hb_ex _ rfl rfl rfl
   ·intro w1
    refine r_move rfl rfl (hl_nil ?_)
    exact qe_done rfl
   apply hb_ex _ rfl rfl rfl
   ·intro w1
    refine r_move rfl rfl (hl_nil ?_)
    exact qe_done rfl
   apply hb_ex _ rfl rfl rfl
   ·intro w1
    refine r_elem (α := (Sl Int)) _ _ rfl T.u_intss T.sz_ints rfl rfl rfl (by repeat constructor) rfl (by omega) (by decide) ?_
    refine hl_nil ?_
    exact qe_done rfl
   apply hb_ex _ rfl rfl rfl
   ·intro w1
    refine r_load rfl T.cell_ints rfl (cell_row (by repeat constructor) (rows_get0 (by omega) rfl)) ?_
    refine hl_nil ?_
    exact qe_done rfl
   apply hb_ex _ rfl rfl rfl
   ·intro w1
    refine r_move rfl rfl (hl_nil ?_)
    exact qe_done rfl
   apply hb_ex _ rfl rfl rfl
   ·intro w1
    refine r_move rfl rfl (hl_nil ?_)
    exact qe_done rfl
   apply hb_ex _ rfl rfl rfl
   ·intro w1
    refine r_elem (α := (Sl Int)) _ _ rfl T.u_intss T.sz_ints rfl rfl rfl (by repeat constructor) rfl (by omega) (by decide) ?_
    refine hl_nil ?_
    exact qe_done rfl
   apply hb_ex _ rfl rfl rfl
   ·intro w1
    refine r_load rfl T.cell_ints rfl (cell_row (by repeat constructor) (rows_get0 (by omega) rfl)) ?_
    refine hl_nil ?_
    exact qe_done rfl
   refine hb_nil ⟨rfl, ?_⟩
   refine hl_inner (A := A) (ps := a) (p := a.getD k default) (by repeat constructor) hma ?_
   refine hl_inner (A := B) (ps := b) (p := b.getD k default) (by repeat constructor) hmb ?_
   refine hl_call F.kit_EqInts_cb rfl rfl (kit_EqInts_meets (a.getD k default).l (b.getD k default).l (by have := hla _ hma; omega)) (List.Perm.refl _) ⟨m1, m0, trivial⟩ fun _ _ => ?_
   refine r_not rfl rfl (hl_nil (then_n ?_))
   refine hc_cond rfl (fun hb3 => ?_) (fun hb3 => ?_)
   ·have hb3' := hb3; try simp at hb3'
    have hne : ¬ (a.getD k default).l = (b.getD k default).l := by simpa using hb3'
    have hb3 : ¬ lsts a = lsts b := fun e => hne (by rw [← lsts_at a hk2, ← lsts_at b (by omega), e])
    refine hc_seq (hc_region (r_assign rfl rfl (hl_nil (then_n (hc_ret (inb_ret (then_ret (then_ret (inb_ret (then_ret ?_))))))))))
    exact ret1 () rfl (by rw [decide_eq_false hb3]; rfl) rfl trivial (.refl _) trivial
   ·have hb3' := hb3; try simp at hb3'
    have hq : (a.getD k default).l = (b.getD k default).l := by simpa using hb3'
    refine hc_skip (inb_n (then_n (hc_region (r_move rfl rfl ?_))))
    refine r_add _ rfl rfl rfl rfl (by unfold I64; omega) ?_
    refine r_assign rfl rfl (hl_nil ?_)
    exact again _ (k + 1) ⟨by omega, by rw [lsts_take_succ hk2, lsts_take_succ (by omega), ht, hq]⟩ (by show a.length - (k + 1) < a.length - k; omega) ⟨rfl, rfl, rfl, trivial⟩ (.refl _) ⟨(by repeat constructor), (by repeat constructor), (by repeat constructor), (by repeat constructor), trivial⟩
  ·have hb2' := hb2; try simp at hb2'
   have hk2 : k = a.length := by omega
   refine hc_exit (then_exit (then_exit (inb_hit (then_n (hc_seq (hc_region (r_assign rfl rfl (hl_nil (then_n (hc_ret ?_))))))))))
   exact ret1 () rfl (by rw [decide_eq_true (eq_of_takes ht (by rw [lsts_len]; omega) (by rw [lsts_len]; omega))]; rfl) rfl trivial (.refl _) trivial

theorem kit_DupInts_meets {A : Option Addr} {c : Nat} (l : List Int) (hl : l.length ≤ 1000000) :
    Meets Tryz.prog F.kit_DupInts [.slice A l.length c] { outSl l with LI := [Row A (rows l)] } := by
 refine meets_intro F.kit_DupInts_f rfl (Nat.le_of_ble_eq_true rfl) fun w0 => ?_
 refine hc_seq (hc_region (r_assign rfl rfl (hl_nil (then_n (hc_seq (hc_region ?_))))))
 refine r_buildSlice _ rfl rfl (fun _ => T.bs_ints_0 ..) fun gS => ?_
 refine r_move rfl rfl ?_
 refine r_append l.length (rows l) T.el_ints rfl rfl rfl (Grow.new (cs := #[]) (n := 0) rfl (Nat.zero_le _)) (.refl _) (Src.row m0 (rows_len l) (rows_one l) (by decide)) (by omega) rfl (by unfold maxLen; omega) (by omega) fun A' c' og' hG => ?_
 refine r_assign rfl rfl (hl_nil (then_n (hc_ret (hq_grown hG ?_))))
 exact ret1 (A', c') rfl rfl rfl hG.le (.refl _) ⟨m0, trivial⟩

end Go.Proofs.YtlpgheniajdkfaaGreat
