/- One step from a heading; the trades and the references as sets. -/
import Derived.Test.YtlpgheniajdkfaaPau
namespace Go.Proofs.Ytlpgheniajdkfaa
open Go Go.W
set_option linter.unusedVariables false
set_option linter.unusedSimpArgs false
set_option maxRecDepth 20000
attribute [local irreducible] HL HC HQ HB Row Rows2 Blk Facts

theorem mt_art (v : Value) (w : World) : (method (Try.prog.types.size + Made.depth) T.trade_article v "wayzgoose/trade.next").run Try.prog w = .ok (F.trade_article_next, v) w := by kernel_rfl
theorem mt_ptr (v : Value) (w : World) : (method (Try.prog.types.size + Made.depth) T.trade_pointer v "wayzgoose/trade.next").run Try.prog w = .ok (F.trade_pointer_next, v) w := by kernel_rfl
theorem mt_idx (v : Value) (w : World) : (method (Try.prog.types.size + Made.depth) T.trade_index v "wayzgoose/trade.next").run Try.prog w = .ok (F.trade_index_next, v) w := by kernel_rfl
/-- To which one can go from a heading. -/
def nextL (h : Hd) : List Int := if ¬ h.2.2.1 = -1 then [h.2.2.1] else h.2.2.2.l
abbrev SetIs (m : Nat) (p : Nat → Bool) : Prop := m < 256 ∧ ∀ j, m.testBit j = p j
theorem SetIs.add {m e : Nat} {p q : Nat → Bool} (h : SetIs m p) (he : e < 8) (hq : ∀ j, q j = (p j || decide (e = j))) : SetIs (m ||| 2 ^ e) q := ⟨Nat.or_lt_two_pow (n := 8) h.1 (Nat.pow_lt_pow_right (by omega) he), fun j => by rw [Nat.testBit_or, Nat.testBit_two_pow, h.2 j, hq j]⟩
theorem SetIs.same {m : Nat} {p q : Nat → Bool} (h : SetIs m p) (hq : ∀ j, q j = p j) : SetIs m q := ⟨h.1, fun j => by rw [h.2 j, hq j]⟩
theorem SetIs.or {m n : Nat} {p q : Nat → Bool} (h : SetIs m p) (h2 : SetIs n q) : SetIs (m ||| n) (fun j => p j || q j) := ⟨Nat.or_lt_two_pow (n := 8) h.1 h2.1, fun j => by rw [Nat.testBit_or, h.2 j, h2.2 j]⟩
theorem next_in {cs : List Cl} {hs : List Hd} (hok : TrOK (trOf cs hs)) {i : Nat} (hi : i < hs.length) : ∀ x ∈ nextL (hs.getD i default), 0 ≤ x ∧ x < (hs.length : Int) := by
  have hh := hok.h i (by rw [hs_len]; exact hi)
  have e : (trOf cs hs).hs.getD i default = (hs.getD i default).p := hd_get hi
  have hS := hh.s
  have ha := hh.a
  rw [e, hs_len] at hS ha
  intro x hx
  unfold nextL at hx
  split at hx
  · rename_i h1
    rw [List.mem_singleton] at hx
    subst hx
    simp only [Hd.p] at hS
    omega
  · obtain ⟨k, hk, rfl⟩ := List.getElem_of_mem hx
    have := also_ok (ha k hk)
    simp only [Hd.p] at this
    rw [getD_at hk] at this
    omega
theorem nextB_of {cs : List Cl} {hs : List Hd} (hok : TrOK (trOf cs hs)) {i : Nat} (hi : i < hs.length) (k : Nat) : nextB (trOf cs hs) i k = decide ((k : Int) ∈ nextL (hs.getD i default)) := by
  have hh := hok.h i (by rw [hs_len]; exact hi)
  have e : (trOf cs hs).hs.getD i default = (hs.getD i default).p := hd_get hi
  have hk := hh.kinds
  rw [e] at hk
  unfold nextB nextL
  rw [e, Bool.eq_iff_iff, Bool.or_eq_true, decide_eq_true_eq, decide_eq_true_eq, decide_eq_true_eq]
  generalize hs.getD i default = h at *
  simp only [Hd.p] at hk ⊢
  by_cases h1 : h.2.2.1 = -1
  · rw [if_neg (fun e => e h1)]
    exact ⟨fun e => e.elim (fun e => by omega) id, .inr⟩
  · rw [if_pos h1]
    have h2 : h.2.2.2.l = [] := by
      rcases hk with ⟨_, _, h2⟩ | ⟨h2, _⟩ | ⟨h2, _⟩
      · exact h2
      · exact absurd h2 h1
      · exact absurd h2 h1
    rw [h2, List.mem_singleton]
    exact ⟨fun e => e.elim (fun e => e.symm) (fun e => by cases e), fun e => .inl e.symm⟩
theorem nextB_out {t : Tr} {i : Nat} (hi : t.hs.length ≤ i) : t.hs.getD i default = default := by
  rw [List.getD_eq_getElem?_getD, List.getElem?_eq_none hi]; rfl

theorem trade_article_next_meets (c : Int) (al : Sl Int) : Meets Try.prog F.trade_article_next [.agg #[int c, .slice al.a al.l.length al.c]] { val := fun _ : Unit => .slice al.a al.l.length al.c } := by
 refine meets_intro F.trade_article_next_f rfl (Nat.le_of_ble_eq_true rfl) fun w0 => ?_
 refine hc_seq ?_
 refine hc_region ?_
 refine r_box rfl rfl fun gB => ?_
 refine r_assign rfl rfl ?_
 refine hl_nil ?_
 refine then_n ?_
 refine hc_seq ?_
 refine hc_region ?_
 first | refine r_fieldAddr ⟨_, 1, none⟩ rfl rfl T.fa_trade_article_1 rfl ?_ | refine r_fieldAddr _ rfl rfl T.fa_trade_article_1 rfl ?_
 first | refine r_load rfl T.cell_ints rfl (cell_own (by repeat constructor) rfl) ?_ | refine r_load rfl T.cell_ints rfl (cell_blk (by repeat constructor) rfl) ?_ | refine r_load rfl T.cell_ints rfl (cell_row (by repeat constructor) (rows_get0 (by omega) rfl)) ?_ | refine r_load rfl T.cell_ints rfl (cell_row_f (by repeat constructor) (rows_get (by omega) rfl)) ?_ | refine r_load rfl T.cell_ints rfl (cell_rowg (by repeat constructor) rfl) ?_
 refine r_assign rfl rfl ?_
 refine hl_nil ?_
 refine then_n ?_
 refine hc_ret ?_
 exact ret1 () rfl rfl rfl trivial (List.nil_sublist _) trivial

theorem trade_index_next_meets (al : Sl Int) : Meets Try.prog F.trade_index_next [.agg #[.slice al.a al.l.length al.c]] { val := fun _ : Unit => .slice al.a al.l.length al.c } := by
 refine meets_intro F.trade_index_next_f rfl (Nat.le_of_ble_eq_true rfl) fun w0 => ?_
 refine hc_seq ?_
 refine hc_region ?_
 refine r_box rfl rfl fun gB => ?_
 refine r_assign rfl rfl ?_
 refine hl_nil ?_
 refine then_n ?_
 refine hc_seq ?_
 refine hc_region ?_
 first | refine r_fieldAddr ⟨_, 0, none⟩ rfl rfl T.fa_trade_index_0 rfl ?_ | refine r_fieldAddr _ rfl rfl T.fa_trade_index_0 rfl ?_
 first | refine r_load rfl T.cell_ints rfl (cell_own (by repeat constructor) rfl) ?_ | refine r_load rfl T.cell_ints rfl (cell_blk (by repeat constructor) rfl) ?_ | refine r_load rfl T.cell_ints rfl (cell_row (by repeat constructor) (rows_get0 (by omega) rfl)) ?_ | refine r_load rfl T.cell_ints rfl (cell_row_f (by repeat constructor) (rows_get (by omega) rfl)) ?_ | refine r_load rfl T.cell_ints rfl (cell_rowg (by repeat constructor) rfl) ?_
 refine r_assign rfl rfl ?_
 refine hl_nil ?_
 refine then_n ?_
 refine hc_ret ?_
 exact ret1 () rfl rfl rfl trivial (List.nil_sublist _) trivial

theorem trade_pointer_next_meets (s : Int) : Meets Try.prog F.trade_pointer_next [.agg #[int s]] { val := fun x : OutC => .slice x.1 1 x.2, LO := fun x => [Row x.1 (rows [s])] } := by
 refine meets_intro F.trade_pointer_next_f rfl (Nat.le_of_ble_eq_true rfl) fun w0 => ?_
 refine hc_seq ?_
 refine hc_region ?_
 refine r_box rfl rfl fun gB => ?_
 refine r_assign rfl rfl ?_
 refine hl_nil ?_
 refine then_n ?_
 refine hc_seq ?_
 refine hc_region ?_
 first | refine r_fieldAddr ⟨_, 0, none⟩ rfl rfl T.fa_trade_pointer_0 rfl ?_ | refine r_fieldAddr _ rfl rfl T.fa_trade_pointer_0 rfl ?_
 first | refine r_load rfl T.cell_int rfl (cell_own (by repeat constructor) rfl) ?_ | refine r_load rfl T.cell_int rfl (cell_blk (by repeat constructor) rfl) ?_ | refine r_load rfl T.cell_int rfl (cell_row (by repeat constructor) (rows_get0 (by omega) rfl)) ?_ | refine r_load rfl T.cell_int rfl (cell_row_f (by repeat constructor) (rows_get (by omega) rfl)) ?_ | refine r_load rfl T.cell_int rfl (cell_rowg (by repeat constructor) rfl) ?_
 refine r_buildSlice _ rfl rfl (fun _ => T.bs_ints_1 ..) fun gS => ?_
 refine r_assign rfl rfl ?_
 refine hl_nil ?_
 refine then_n ?_
 refine hc_ret ?_
 refine hq_letgo (rows [s]) (List.prefix_refl _) ?_
 exact ret1 (some ⟨gS, 0, none⟩, 1) rfl rfl rfl trivial (List.nil_sublist _) ⟨m0, trivial⟩

theorem tr_step {p : Nat → Bool} {k : Nat} (h : p k = true) (j : Nat) : (decide (j < k + 1) && p j) = ((decide (j < k) && p j) || decide (k = j)) := by
  by_cases hj : k = j
  · subst hj; rw [h]; simp
  · have e : decide (j < k + 1) = decide (j < k) := decide_eq_decide.2 (by omega)
    rw [e]; simp [hj]
theorem tr_skip {p : Nat → Bool} {k : Nat} (h : p k = false) (j : Nat) : (decide (j < k + 1) && p j) = (decide (j < k) && p j) := by
  by_cases hj : k = j
  · subst hj; rw [h]; simp
  · have e : decide (j < k + 1) = decide (j < k) := decide_eq_decide.2 (by omega)
    rw [e]
section
variable {c : Cx} {Q : Exit → Act → World → Prop} {fr : Fr} {hp : Hp} {L : List Fact} {ops : Array Oper} {rest : List Oper} {d : Tmp} {ty : TypeId} {pos : String} {af : Array Edge}
theorem r_next {x : Operand} {ats : Array TypeId} {h : Hd} (hd : Nat.blt d c.n = true) (hP : c.P = Try.prog) (hx : ev fr x = some (kindOf h).v) (hL : Hd.row h ∈ L)
    (k : ∀ o : OutC, HL c ops Q rest ((d, .slice o.1 (nextL h).length o.2) :: fr) hp (Row o.1 (rows (nextL h)) :: L)) : HL c ops Q (⟨some d, .call ⟨.invoke x "wayzgoose/trade.next", #[], ats⟩, ty, pos, af, none⟩ :: rest) fr hp L := by
  unfold kindOf at hx
  unfold nextL at k
  by_cases h1 : ¬ h.2.2.1 = -1
  · rw [if_pos h1] at hx
    simp only [if_pos h1] at k
    have hm := trade_pointer_next_meets h.2.2.1
    rw [← hP] at hm
    refine hl_invoke (f := F.trade_pointer_next) (hpR := hp) (by rw [hP]; exact F.trade_pointer_next_cb) hd hx (by rw [hP]; exact mt_ptr _) hm (List.Perm.refl _) trivial fun o _ => ?_
    exact k o
  · rw [if_neg h1] at hx
    simp only [if_neg h1] at k
    have k2 : HL c ops Q rest ((d, .slice h.2.2.2.a h.2.2.2.l.length h.2.2.2.c) :: fr) hp L := hl_dup hL (k (h.2.2.2.a, h.2.2.2.c))
    by_cases h2 : ¬ h.2.1 = -1
    · rw [if_pos h2] at hx
      have hm := trade_article_next_meets h.2.1 h.2.2.2
      rw [← hP] at hm
      exact hl_invoke (f := F.trade_article_next) (hpR := hp) (by rw [hP]; exact F.trade_article_next_cb) hd hx (by rw [hP]; exact mt_art _) hm (List.Perm.refl _) trivial fun _ _ => k2
    · rw [if_neg h2] at hx
      have hm := trade_index_next_meets h.2.2.2
      rw [← hP] at hm
      exact hl_invoke (f := F.trade_index_next) (hpR := hp) (by rw [hP]; exact F.trade_index_next_cb) hd hx (by rw [hP]; exact mt_idx _) hm (List.Perm.refl _) trivial fun _ _ => k2
end

theorem trade_list_trades_meets {A B oa ka : Option Addr} {ca cb oc kc gl : Nat} (cs : List Cl) (hs : List Hd) (hl : hs.length ≤ 6) : Meets Try.prog F.trade_list_trades [.pointer (some ⟨gl, 0, none⟩)] { LI := [Row (some ⟨gl, 0, none⟩) [.slice A cs.length ca, .slice B hs.length cb, .slice oa cs.length oc, .slice ka hs.length kc], Row ka (rows (kindsN hs hs.length))], inv := fun m : Nat => SetIs m (fun j => decide (j < hs.length) && isTrB (trOf cs hs) (j : Int)), val := fun m => u8 m } := by
 refine meets_intro F.trade_list_trades_f rfl (Nat.le_of_ble_eq_true rfl) fun w0 => ?_
 refine hc_seq ?_
 refine hc_region ?_
 refine r_assign rfl rfl ?_
 refine hl_nil ?_
 refine then_n ?_
 refine hc_seq ?_
 refine hc_region ?_
 refine r_assign rfl rfl ?_
 refine hl_nil ?_
 refine then_n ?_
 refine hc_seq ?_
 refine hc_seq ?_
 refine hc_region ?_
 refine r_move rfl rfl ?_
 refine r_nilCheck rfl rfl ?_
 first | refine r_fieldAddr ⟨_, 3, none⟩ rfl rfl T.fa_trade_list_2 rfl ?_ | refine r_fieldAddr _ rfl rfl T.fa_trade_list_2 rfl ?_
 first | refine r_load rfl T.cell_L_trade_kind rfl (cell_own (by repeat constructor) rfl) ?_ | refine r_load rfl T.cell_L_trade_kind rfl (cell_blk (by repeat constructor) rfl) ?_ | refine r_load rfl T.cell_L_trade_kind rfl (cell_row (by repeat constructor) (rows_get0 (by omega) rfl)) ?_ | refine r_load rfl T.cell_L_trade_kind rfl (cell_row_f (by repeat constructor) (rows_get (by omega) rfl)) ?_ | refine r_load rfl T.cell_L_trade_kind rfl (cell_rowg (by repeat constructor) rfl) ?_
 refine r_len_sl rfl T.u_L_trade_kind rfl ?_
 refine r_move rfl rfl ?_
 refine hl_nil ?_
 refine then_n ?_
 refine hc_block ?_
 refine hc_loop (β := Nat × Nat) ⟨fun x => x.1 ≤ hs.length ∧ SetIs x.2 (fun j => decide (j < x.1) && isTrB (trOf cs hs) (j : Int)), fun x => [(0, .pointer (some ⟨gl, 0, none⟩)), (3, u8 x.2), (9, int hs.length), (10, int x.1)], fun _ => [], fun _ => [Row (some ⟨gl, 0, none⟩) [.slice A cs.length ca, .slice B hs.length cb, .slice oa cs.length oc, .slice ka hs.length kc], Row ka (rows (kindsN hs hs.length))]⟩ (fun x => hs.length - x.1) (0, 0) ⟨Nat.zero_le _, by decide, fun j => by simp⟩ ⟨rfl, rfl, rfl, rfl, trivial⟩ (List.nil_sublist _) ⟨(by repeat constructor), (by repeat constructor), trivial⟩ fun x hx => ?_
 obtain ⟨k, m⟩ := x
 obtain ⟨hk, hM⟩ := hx
 simp only at hk hM
 refine hc_seq ?_
 refine hc_region ?_
 refine r_lss rfl rfl rfl ?_
 refine hl_nil ?_
 refine then_n ?_
 refine hc_seq ?_
 first | refine c_dec rfl (fun hb1 => ?_) (fun hb1 => ?_) | refine hc_cond rfl (fun hb1 => ?_) (fun hb1 => ?_)
 ·have hb1' := hb1; try simp at hb1'
  have hk2 : k < hs.length := by omega
  refine hc_skip ?_
  refine then_n ?_
  refine hc_seq ?_
  refine hc_block ?_
  refine hc_seq ?_
  refine hc_region ?_
  refine r_move rfl rfl ?_
  refine r_assign rfl rfl ?_
  refine hl_nil ?_
  refine then_n ?_
  refine hc_seq ?_
  refine hc_region ?_
  refine r_move rfl rfl ?_
  refine r_move rfl rfl ?_
  refine hl_call F.trade_list_isTrade_cb rfl rfl (trade_list_isTrade_meets (oa := oa) (oc := oc) (ka := ka) (kc := kc) (gl := gl) (A := A) (B := B) (ca := ca) (cb := cb) cs hs (k : Int) (by omega) (by omega) (by omega)) (List.Perm.refl _) ⟨(by repeat constructor), (by repeat constructor), trivial⟩ fun _ _ => ?_
  refine hl_nil ?_
  refine then_n ?_
  first | refine c_dec rfl (fun hb2 => ?_) (fun hb2 => ?_) | refine hc_cond rfl (fun hb2 => ?_) (fun hb2 => ?_)
  ·have hb2' := hb2; try simp at hb2'
   refine hc_region ?_
   refine r_move rfl rfl ?_
   refine r_move rfl rfl ?_
   refine hl_call F.trade_heads_with_cb rfl rfl (trade_heads_with_meets m k hM.1 (by omega)) (List.Perm.refl _) trivial fun _ _ => ?_
   refine r_assign rfl rfl ?_
   refine hl_nil ?_
   refine inb_n ?_
   refine then_n ?_
   refine hc_region ?_
   refine r_add _ rfl rfl rfl rfl (by unfold I64; omega) ?_
   refine r_move rfl rfl ?_
   refine hl_nil ?_
   exact again _ (k + 1, m ||| 2 ^ k) ⟨by show k + 1 ≤ hs.length; omega, hM.add (by omega) (tr_step (p := fun j => isTrB (trOf cs hs) (j : Int)) hb2)⟩ (by show hs.length - (k + 1) < hs.length - k; omega) ⟨rfl, rfl, rfl, rfl, trivial⟩ (List.nil_sublist _) ⟨(by repeat constructor), (by repeat constructor), trivial⟩
  ·have hb2' := hb2; try simp at hb2'
   refine hc_skip ?_
   refine inb_n ?_
   refine then_n ?_
   refine hc_region ?_
   refine r_add _ rfl rfl rfl rfl (by unfold I64; omega) ?_
   refine r_move rfl rfl ?_
   refine hl_nil ?_
   exact again _ (k + 1, m) ⟨by show k + 1 ≤ hs.length; omega, hM.same (tr_skip (p := fun j => isTrB (trOf cs hs) (j : Int)) hb2)⟩ (by show hs.length - (k + 1) < hs.length - k; omega) ⟨rfl, rfl, rfl, rfl, trivial⟩ (List.nil_sublist _) ⟨(by repeat constructor), (by repeat constructor), trivial⟩
 ·have hb1' := hb1; try simp at hb1'
  have hk2 : k = hs.length := by omega
  subst hk2
  refine hc_exit ?_
  refine then_exit ?_
  refine then_exit ?_
  refine inb_hit ?_
  refine then_n ?_
  refine hc_seq ?_
  refine hc_region ?_
  refine r_move rfl rfl ?_
  refine r_assign rfl rfl ?_
  refine hl_nil ?_
  refine then_n ?_
  refine hc_ret ?_
  exact ret1 m rfl rfl rfl hM (List.nil_sublist _) trivial

end Go.Proofs.Ytlpgheniajdkfaa
