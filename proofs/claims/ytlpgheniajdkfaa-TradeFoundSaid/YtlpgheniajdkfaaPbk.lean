/- Steps: a queue that is a channel. -/
import Derived.Test.YtlpgheniajdkfaaPbj
namespace Go.Proofs.Ytlpgheniajdkfaa
open Go Go.W
set_option linter.unusedVariables false
set_option linter.unusedSimpArgs false
set_option maxRecDepth 20000
attribute [local irreducible] HL HC HQ HB Row Rows2 Blk Facts
attribute [local irreducible] KC KL

theorem nodup_le : ∀ {n : Nat} {l : List Nat}, l.Nodup → (∀ y ∈ l, y < n) → l.length ≤ n
  | 0, [], _, _ => Nat.le_refl _
  | 0, x :: l, _, h => by have := h x (by simp); omega
  | n + 1, l, hnd, h => by
    have h1 := nodup_le (n := n) (hnd.erase n) fun y hy => by
      have h2 := (List.Nodup.mem_erase_iff hnd).1 hy
      have h3 := h y h2.2
      have := h2.1
      omega
    rw [List.length_erase] at h1
    split at h1 <;> omega
section
variable {n : Nat} {e : Edges} {h : Nat}
abbrev dAt (ds : List Int) (i : Nat) : Int := ds.getD i default
/-- What is found so far is found at its distance. -/
structure Bf (n : Nat) (e : Edges) (h : Nat) (ds : List Int) : Prop where
  len : ds.length = n
  lo : ∀ i, i < n → -1 ≤ dAt ds i
  at_ : ∀ i, i < n → 0 ≤ dAt ds i → reachB n e h (dAt ds i).toNat i = true ∧ ∀ m, m < (dAt ds i).toNat → reachB n e h m i = false
/-- Between two rounds: the queue q, of the levels k and k + 1. -/
structure Bo (n : Nat) (e : Edges) (h : Nat) (k : Nat) (ds : List Int) (q : List Nat) : Prop where
  b : Bf n e h ds
  nd : q.Nodup
  inq : ∀ y ∈ q, y < n ∧ (dAt ds y = (k : Int) ∨ dAt ds y = (k : Int) + 1)
  srt : q.Pairwise fun a b => dAt ds a ≤ dAt ds b
  pr : ∀ i, i < n → 0 ≤ dAt ds i → i ∉ q → ∀ s, s < n → e i s = true → 0 ≤ dAt ds s
  lv : ∀ i, i < n → reachB n e h k i = true → 0 ≤ dAt ds i
/-- Within a round: x is taken from the queue; the headings of l are seen. -/
structure Br (n : Nat) (e : Edges) (h : Nat) (k : Nat) (x : Nat) (ds : List Int) (q : List Nat) : Prop where
  b : Bf n e h ds
  hx : x < n
  dx : dAt ds x = (k : Int)
  nd : q.Nodup
  inq : ∀ y ∈ q, y < n ∧ (dAt ds y = (k : Int) ∨ dAt ds y = (k : Int) + 1)
  srt : q.Pairwise fun a b => dAt ds a ≤ dAt ds b
  pr : ∀ i, i < n → 0 ≤ dAt ds i → i ∉ q → i ≠ x → ∀ s, s < n → e i s = true → 0 ≤ dAt ds s
  lv : ∀ i, i < n → reachB n e h k i = true → 0 ≤ dAt ds i
theorem bf_le {ds : List Int} (hb : Bf n e h ds) {i m : Nat} (hi : i < n) (hr : reachB n e h m i = true) (h0 : 0 ≤ dAt ds i) : dAt ds i ≤ (m : Int) := by
  apply Classical.byContradiction
  intro hn
  have := (hb.at_ i hi h0).2 m (by omega)
  rw [hr] at this; cases this
theorem bo_pop {k : Nat} {ds : List Int} {x : Nat} {q : List Nat} (H : Bo n e h k ds (x :: q)) : ∃ k', Br n e h k' x ds q := by
  obtain ⟨hx, hdx⟩ := H.inq x (by simp)
  have hs := List.pairwise_cons.1 H.srt
  have hnd := List.nodup_cons.1 H.nd
  rcases hdx with hdx | hdx
  · refine ⟨k, H.b, hx, hdx, hnd.2, fun y hy => H.inq y (by simp [hy]), hs.2, fun i hi h0 hq hix => H.pr i hi h0 (by simp [hq, hix]), H.lv⟩
  · refine ⟨k + 1, H.b, hx, by rw [hdx]; omega, hnd.2, fun y hy => ?_, hs.2, fun i hi h0 hq hix => H.pr i hi h0 (by simp [hq, hix]), fun i hi hr => ?_⟩
    · have h1 := H.inq y (by simp [hy])
      have h2 := hs.1 y hy
      refine ⟨h1.1, .inl ?_⟩
      rcases h1.2 with h3 | h3 <;> omega
    · rcases reach_succ.1 hr with h1 | ⟨z, hz, hrz, hez⟩
      · exact H.lv i hi h1
      · have hz0 := H.lv z hz hrz
        have hzk := bf_le H.b hz hrz hz0
        refine H.pr z hz hz0 (fun hm => ?_) i hi hez
        rcases List.mem_cons.1 hm with e1 | hm
        · subst e1; omega
        · have := hs.1 z hm
          omega
theorem dAt_set {ds : List Int} {i j : Nat} {v : Int} (hi : i < ds.length) : dAt (ds.set i v) j = if j = i then v else dAt ds j := by
  unfold dAt
  rw [List.getD_eq_getElem?_getD, List.getElem?_set, List.getD_eq_getElem?_getD]
  by_cases e1 : i = j
  · subst e1; rw [if_pos rfl, if_pos rfl, if_pos hi]; rfl
  · rw [if_neg e1, if_neg (fun e2 => e1 e2.symm)]
/-- A heading that is found now. -/
theorem br_put {k x i : Nat} {ds : List Int} {q : List Nat} (H : Br n e h k x ds q) (hi : i < n) (hei : e x i = true) (h0 : dAt ds i < 0) : Br n e h k x (ds.set i (dAt ds x + 1)) (q ++ [i]) ∧ q.length < n := by
  have hil : i < ds.length := by rw [H.b.len]; exact hi
  have hg : ∀ j, dAt (ds.set i (dAt ds x + 1)) j = if j = i then dAt ds x + 1 else dAt ds j := fun j => dAt_set hil
  have hge : ∀ j, ¬ j = i → dAt (ds.set i (dAt ds x + 1)) j = dAt ds j := fun j hj => by rw [hg, if_neg hj]
  have hgi : dAt (ds.set i (dAt ds x + 1)) i = (k : Int) + 1 := by rw [hg, if_pos rfl, H.dx]
  have hxi : ¬ x = i := fun e1 => by subst e1; have := H.dx; omega
  have hiq : i ∉ q := fun hm => by rcases (H.inq i hm).2 with h1 | h1 <;> omega
  have hqi : ∀ y ∈ q, ¬ y = i := fun y hy e1 => by subst e1; exact hiq hy
  have hnd : (q ++ [i]).Nodup := by
    rw [List.nodup_append]
    exact ⟨H.nd, by simp, fun a ha b hb e1 => by rw [List.mem_singleton] at hb; subst hb; subst e1; exact hiq ha⟩
  have hrx := H.b.at_ x H.hx (by rw [H.dx]; omega)
  rw [H.dx, Int.toNat_natCast] at hrx
  have hni : reachB n e h k i = false := by
    cases hc : reachB n e h k i with
    | false => rfl
    | true => have := H.lv i hi hc; omega
  refine ⟨⟨⟨by rw [List.length_set]; exact H.b.len, fun j hj => ?_, fun j hj hj0 => ?_⟩, H.hx, by rw [hge x hxi]; exact H.dx, hnd, fun y hy => ?_, ?_, fun j hj hj0 hjq hjx s hs hes => ?_, fun j hj hr => ?_⟩, ?_⟩
  · by_cases e1 : j = i
    · subst e1; rw [hgi]; omega
    · rw [hge j e1]; exact H.b.lo j hj
  · by_cases e1 : j = i
    · subst e1
      rw [hgi, show ((k : Int) + 1).toNat = k + 1 by omega]
      refine ⟨reach_succ.2 (.inr ⟨x, H.hx, hrx.1, hei⟩), fun m hm => ?_⟩
      cases hc : reachB n e h m j with
      | false => rfl
      | true => rw [reach_mono (show m ≤ k by omega) hc] at hni; cases hni
    · rw [hge j e1] at hj0 ⊢; exact H.b.at_ j hj hj0
  · rcases List.mem_append.1 hy with hy | hy
    · rw [hge y (hqi y hy)]; exact H.inq y hy
    · rw [List.mem_singleton] at hy; subst hy; exact ⟨hi, .inr hgi⟩
  · rw [List.pairwise_append]
    refine ⟨H.srt.imp_of_mem fun {a b} ha hb hab => by rw [hge a (hqi a ha), hge b (hqi b hb)]; exact hab, by simp, fun a ha b hb => ?_⟩
    rw [List.mem_singleton] at hb
    subst hb
    rw [hgi, hge a (hqi a ha)]
    rcases (H.inq a ha).2 with h1 | h1 <;> omega
  · have hji : ¬ j = i := fun e1 => hjq (by simp [e1])
    rw [hge j hji] at hj0
    have := H.pr j hj hj0 (fun hm => hjq (by simp [hm])) hjx s hs hes
    by_cases e1 : s = i
    · subst e1; rw [hgi]; omega
    · rw [hge s e1]; exact this
  · by_cases e1 : j = i
    · subst e1; rw [hgi]; omega
    · rw [hge j e1]; exact H.lv j hj hr
  · have h1 : (q ++ [i]).length ≤ n := nodup_le hnd fun y hy => by
      rcases List.mem_append.1 hy with hy | hy
      · exact (H.inq y hy).1
      · rw [List.mem_singleton] at hy; subst hy; exact hi
    rw [List.length_append, List.length_singleton] at h1
    omega
theorem br_k {k x : Nat} {ds : List Int} {q : List Nat} (hh : h < n) (H : Br n e h k x ds q) : k ≤ n := by
  have hr := H.b.at_ x H.hx (by rw [H.dx]; omega)
  rw [H.dx, Int.toNat_natCast] at hr
  apply Classical.byContradiction
  intro hn
  have := hr.2 n (by omega)
  rw [reach_cap hh H.hx hr.1] at this; cases this
/-- All that x leads to is seen. -/
theorem br_done {k x : Nat} {ds : List Int} {q : List Nat} (H : Br n e h k x ds q) (hd : ∀ s, s < n → e x s = true → 0 ≤ dAt ds s) : Bo n e h k ds q :=
  ⟨H.b, H.nd, H.inq, H.srt, fun i hi h0 hq s hs hes => by
    by_cases e1 : i = x
    · subst e1; exact hd s hs hes
    · exact H.pr i hi h0 hq e1 s hs hes, H.lv⟩
theorem bo_end {k : Nat} {ds : List Int} (hh : h < n) (H : Bo n e h k ds []) (h0 : dAt ds h = 0) : ds = (List.range n).map fun i => distI n e h i := by
  have hall : ∀ m i, i < n → reachB n e h m i = true → 0 ≤ dAt ds i := by
    intro m
    induction m with
    | zero => intro i hi hr; rw [reachB] at hr; rw [of_decide_eq_true hr, h0]; omega
    | succ m ih =>
      intro i hi hr
      rcases reach_succ.1 hr with h1 | ⟨z, hz, hrz, hez⟩
      · exact ih i hi h1
      · exact H.pr z hz (ih z hz hrz) (by simp) i hi hez
  refine List.ext_getElem (by rw [H.b.len, List.length_map, List.length_range]) fun i hi hi2 => ?_
  rw [H.b.len] at hi
  rw [List.getElem_map, List.getElem_range, ← getD_at]
  have hlo := H.b.lo i hi
  unfold distI
  cases hd : distB n e h i with
  | none =>
    have hr := dist_none.1 hd
    show dAt ds i = -1
    apply Classical.byContradiction
    intro hn
    have h1 := (H.b.at_ i hi (by omega)).1
    have h2 := hr n (Nat.le_refl _)
    rw [reach_cap hh hi h1] at h2; cases h2
  | some s =>
    have hr := dist_some.1 hd
    show dAt ds i = (s : Int)
    have h1 := hall s i hi hr.2.1
    have h2 := bf_le H.b hi hr.2.1 h1
    have h3 := (H.b.at_ i hi h1).1
    apply Classical.byContradiction
    intro hn
    have h4 := hr.2.2 (dAt ds i).toNat (by omega)
    rw [h3] at h4; cases h4
theorem bo_start (hh : h < n) : Bo n e h 0 ((List.replicate n (-1 : Int)).set h 0) [h] := by
  have hg : ∀ j, dAt ((List.replicate n (-1 : Int)).set h 0) j = if j = h then 0 else dAt (List.replicate n (-1 : Int)) j := fun j => dAt_set (by rw [List.length_replicate]; exact hh)
  have hm : ∀ j, j < n → ¬ j = h → dAt ((List.replicate n (-1 : Int)).set h 0) j = -1 := fun j hj e1 => by
    rw [hg, if_neg e1]; unfold dAt; rw [List.getD_eq_getElem?_getD, List.getElem?_replicate, if_pos hj]; rfl
  have h0 : dAt ((List.replicate n (-1 : Int)).set h 0) h = 0 := by rw [hg, if_pos rfl]
  refine ⟨⟨by simp, fun j hj => ?_, fun j hj hj0 => ?_⟩, by simp, fun y hy => ?_, by simp, fun i hi hi0 hq => ?_, fun i hi hr => ?_⟩
  · by_cases e1 : j = h
    · subst e1; rw [h0]; omega
    · rw [hm j hj e1]; omega
  · by_cases e1 : j = h
    · subst e1; rw [h0]; exact ⟨by simp [reachB], fun m hm => by simp at hm⟩
    · rw [hm j hj e1] at hj0; omega
  · rw [List.mem_singleton] at hy; subst hy; exact ⟨hh, .inl h0⟩
  · by_cases e1 : i = h
    · subst e1; exact absurd (List.mem_singleton.2 rfl) hq
    · rw [hm i hi e1] at hi0; omega
  · rw [reachB] at hr; rw [of_decide_eq_true hr, h0]; omega
end
theorem zv_int (w : World) : (zeroValue T.int).run Try.prog w = .ok (int 0) w := by kernel_rfl
theorem arr_set (l : List Int) (k : Nat) (v : Int) : (rows l).toArray.setIfInBounds (0 + k * 1) (int v) = (rows (l.set k v)).toArray := by
  rw [← rows_set1 rfl (int v) v rfl]
  simp
theorem arr_take (l : List Int) : (rows l).toArray.toList.take (l.length * 1) = rows l := by
  have h1 : (rows l).length = l.length := by rw [rows_len]; exact Nat.mul_one _
  rw [List.take_of_length_le (by simp [h1])]
theorem cnt_set {l : List Int} {i : Nat} {v : Int} (hi : i < l.length) (h : l.getD i default < 0) (hv : 0 ≤ v) : (l.set i v).countP (fun z => decide (z < 0)) + 1 = l.countP fun z => decide (z < 0) := by
  rw [getD_at hi] at h
  rw [List.countP_set hi]
  have h1 : 0 < l.countP fun z => decide (z < 0) := List.countP_pos_iff.2 ⟨l[i], List.getElem_mem hi, by simpa using h⟩
  rw [if_pos (by simpa using h), if_neg (by simpa using hv)]
  omega

set_option maxHeartbeats 2000000 in
theorem trade_list_steps_meets {A B oa ka : Option Addr} {ca cb oc kc gl : Nat} (cs : List Cl) (hs : List Hd) (h : Nat) (hok : TrOK (trOf cs hs)) (hh : h < hs.length) : Meets Try.prog F.trade_list_steps [.pointer (some ⟨gl, 0, none⟩), int h] { LI := [Row (some ⟨gl, 0, none⟩) [.slice A cs.length ca, .slice B hs.length cb, .slice oa cs.length oc, .slice ka hs.length kc], Row ka (rows (kindsN hs hs.length)), RowsF B hs Hd.row], inv := fun x : OutC => (stepsT (trOf cs hs) (h : Int)).length ≤ x.2, val := fun x => .slice x.1 (stepsT (trOf cs hs) (h : Int)).length x.2, LO := fun x => [Row x.1 (rows (stepsT (trOf cs hs) (h : Int)))] } := by
 refine kmeets_intro F.trade_list_steps_f rfl (Nat.le_of_ble_eq_true rfl) fun w0 => ?_
 refine kc_seq ?_
 refine kc_region ?_
 refine r_assign rfl rfl ?_
 refine hl_nil ?_
 refine kthen_n ?_
 refine kc_seq ?_
 have h6h := hok.h6
 have hln := hs_len cs hs
 rw [hln] at h6h
 refine kc_region ?_
 refine r_buildSlice _ rfl rfl (fun _ => T.bs_ints_1 ..) fun gS => ?_
 refine r_move rfl rfl ?_
 refine r_nilCheck rfl rfl ?_
 first | refine r_fieldAddr ⟨_, 3, none⟩ rfl rfl T.fa_trade_list_2 rfl ?_ | refine r_fieldAddr _ rfl rfl T.fa_trade_list_2 rfl ?_
 first | refine r_load rfl T.cell_L_trade_kind rfl (cell_own (by repeat constructor) rfl) ?_ | refine r_load rfl T.cell_L_trade_kind rfl (cell_blk (by repeat constructor) rfl) ?_ | refine r_load rfl T.cell_L_trade_kind rfl (cell_row (by repeat constructor) (rows_get0 (by omega) rfl)) ?_ | refine r_load rfl T.cell_L_trade_kind rfl (cell_row_f (by repeat constructor) (rows_get (by omega) rfl)) ?_ | refine r_load rfl T.cell_L_trade_kind rfl (cell_rowg (by repeat constructor) rfl) ?_
 refine r_len_sl rfl T.u_L_trade_kind rfl ?_
 refine hl_letgo (rows [(-1 : Int)]) ⟨[], List.append_nil _⟩ ?_
 refine hl_call F.slices_Repeat_ints_cb rfl rfl (slices_Repeat_ints_meets (-1) hs.length (by omega) h6h) (List.Perm.refl _) ⟨(by repeat constructor), trivial⟩ fun g5 _ => ?_
 refine r_assign rfl rfl ?_
 refine hl_nil ?_
 refine kthen_n ?_
 refine kc_seq ?_
 refine kc_region ?_
 refine r_move rfl rfl ?_
 refine r_move rfl rfl ?_
 refine r_indexAddr_own h (0 + h * 1) rfl T.u_ints T.sz_int rfl rfl rfl hh rfl ?_
 refine r_store rfl rfl (.refl _) T.sz_int (own_el rfl (arr_take (List.replicate hs.length (-1))) (by rw [List.length_replicate]; exact hh) (by omega) rfl) (by rfl) ?_
 rw [arr_set]
 refine hl_nil ?_
 refine kthen_n ?_
 refine kc_seq ?_
 refine kc_region ?_
 refine r_move rfl rfl ?_
 refine r_nilCheck rfl rfl ?_
 first | refine r_fieldAddr ⟨_, 3, none⟩ rfl rfl T.fa_trade_list_2 rfl ?_ | refine r_fieldAddr _ rfl rfl T.fa_trade_list_2 rfl ?_
 first | refine r_load rfl T.cell_L_trade_kind rfl (cell_own (by repeat constructor) rfl) ?_ | refine r_load rfl T.cell_L_trade_kind rfl (cell_blk (by repeat constructor) rfl) ?_ | refine r_load rfl T.cell_L_trade_kind rfl (cell_row (by repeat constructor) (rows_get0 (by omega) rfl)) ?_ | refine r_load rfl T.cell_L_trade_kind rfl (cell_row_f (by repeat constructor) (rows_get (by omega) rfl)) ?_ | refine r_load rfl T.cell_L_trade_kind rfl (cell_rowg (by repeat constructor) rfl) ?_
 refine r_len_sl rfl T.u_L_trade_kind rfl ?_
 obtain ⟨ii, zz, hii, _, _, hby, _⟩ := T.el_ints.i
 refine r_makeChan (n := hs.length) rfl Try.underlying130 hii rfl (by omega) (by rw [hby]; omega) fun gC => ?_
 refine r_assign rfl rfl ?_
 refine hl_nil ?_
 refine kthen_n ?_
 refine kc_seq ?_
 refine kc_comm ?_
 show KL _ _ _ [0, 1, 2] _ _ _
 refine kl_move rfl rfl rfl ?_
 refine kl_move rfl rfl rfl ?_
 refine kl_send (buf := []) rfl rfl rfl (List.Perm.refl _) (by simp; omega) ?_
 refine kl_nil ?_
 refine kthen_n ?_
 refine kc_seq ?_
 refine kc_seq ?_
 refine kc_region ?_
 refine r_assign rfl rfl ?_
 refine hl_nil ?_
 refine kthen_n ?_
 refine kc_block ?_
 refine kc_loop (β := Nat × List Int × List Nat × Nat × Nat) ⟨fun x => Bo hs.length (nextB (trOf cs hs)) h x.1 x.2.1 x.2.2.1 ∧ dAt x.2.1 h = 0, fun x => [(0, .pointer (some ⟨gl, 0, none⟩)), (5, .slice (some ⟨g5, 0, none⟩) hs.length hs.length), (6, .chan (some gC)), (7, int x.2.2.1.length)], fun x => [(gC, chanO hs.length (x.2.2.1.map fun y : Nat => int (y : Int)) x.2.2.2.1 x.2.2.2.2), (g5, Obj.cells (rows x.2.1).toArray T.int (0, 0))], fun _ => [Row (some ⟨gl, 0, none⟩) [.slice A cs.length ca, .slice B hs.length cb, .slice oa cs.length oc, .slice ka hs.length kc], Row ka (rows (kindsN hs hs.length)), RowsF B hs Hd.row]⟩ (fun x => 2 * x.2.1.countP (fun z => decide (z < 0)) + x.2.2.1.length) (0, (List.replicate hs.length (-1 : Int)).set h 0, [h], 1, 0) ⟨bo_start hh, by rw [dAt_set (by rw [List.length_replicate]; exact hh), if_pos rfl]⟩ ⟨rfl, rfl, rfl, rfl, trivial⟩ (List.Sublist.refl _) ⟨(by repeat constructor), (by repeat constructor), (by repeat constructor), trivial⟩ fun x hx => ?_
 obtain ⟨k, ds, q, s, r⟩ := x
 obtain ⟨hB, hd0⟩ := hx
 simp only at hB hd0
 refine kc_seq ?_
 refine kc_seq ?_
 refine kc_region ?_
 refine r_move rfl rfl ?_
 refine r_gtr rfl rfl rfl ?_
 refine hl_nil ?_
 refine kthen_n ?_
 first | refine k_dec rfl (fun hb1 => ?_) (fun hb1 => ?_) | refine kc_cond rfl (fun hb1 => ?_) (fun hb1 => ?_)
 ·have hb1' := hb1; try simp at hb1'
  obtain ⟨x, q, rfl⟩ : ∃ x q', q = x :: q' := by
    cases q with
    | nil => simp at hb1
    | cons x q => exact ⟨x, q, rfl⟩
  obtain ⟨k, hR⟩ := bo_pop hB
  clear hB
  have hx := hR.hx
  have hin := next_in hok hx
  have hnle := next_len hok hx
  have hnb := fun k => nextB_of hok hx k
  generalize hnl : nextL (hs.getD x default) = nl at hin hnle hnb
  refine kc_skip ?_
  refine kthen_n ?_
  refine kc_seq ?_
  refine kc_block ?_
  refine kc_seq ?_
  refine kc_comm ?_
  show KL _ _ _ [0, 1, 2] _ _ _
  refine kl_move rfl rfl rfl ?_
  refine kl_recv (v := int x) (buf := q.map fun y : Nat => int (y : Int)) rfl rfl Try.underlying130 zv_int rfl (List.Perm.refl _) ?_
  refine kl_assign rfl rfl rfl ?_
  refine kl_nil ?_
  refine kthen_n ?_
  refine kc_seq ?_
  refine kc_region ?_
  refine r_move rfl rfl ?_
  refine r_nilCheck rfl rfl ?_
  first | refine r_fieldAddr ⟨_, 3, none⟩ rfl rfl T.fa_trade_list_2 rfl ?_ | refine r_fieldAddr _ rfl rfl T.fa_trade_list_2 rfl ?_
  first | refine r_load rfl T.cell_L_trade_kind rfl (cell_own (by repeat constructor) rfl) ?_ | refine r_load rfl T.cell_L_trade_kind rfl (cell_blk (by repeat constructor) rfl) ?_ | refine r_load rfl T.cell_L_trade_kind rfl (cell_row (by repeat constructor) (rows_get0 (by omega) rfl)) ?_ | refine r_load rfl T.cell_L_trade_kind rfl (cell_row_f (by repeat constructor) (rows_get (by omega) rfl)) ?_ | refine r_load rfl T.cell_L_trade_kind rfl (cell_rowg (by repeat constructor) rfl) ?_
  refine r_move rfl rfl ?_
  refine r_elem (α := Kd) (kindsN hs hs.length) x rfl T.u_L_trade_kind T.sz_trade_kind rfl rfl rfl (by repeat constructor) (kinds_len (Nat.le_refl _)).symm (by rw [kinds_len (Nat.le_refl _)]; exact hx) (by decide) ?_
  refine r_load (v := (kindOf (hs.getD x default)).v) rfl T.cell_trade_kind rfl (cell_row (by repeat constructor) (by rw [← kind_get hx]; exact rows_get0 (by rw [kinds_len (Nat.le_refl _)]; exact hx) rfl)) ?_
  refine hl_innerF (p := hs.getD x default) (by repeat constructor) (getD_mem hx) ?_
  refine r_next rfl rfl rfl m0 fun o => ?_
  rw [hnl]
  refine r_len_sl rfl T.u_ints rfl ?_
  refine r_move rfl rfl ?_
  refine hl_nil ?_
  refine kthen_n ?_
  refine kc_block ?_
  refine kc_loop (β := Nat × List Int × List Nat × Nat × Nat) ⟨fun y => y.1 ≤ nl.length ∧ Br hs.length (nextB (trOf cs hs)) h k x y.2.1 y.2.2.1 ∧ (∀ i, i < y.1 → 0 ≤ dAt y.2.1 (nl.getD i default).toNat) ∧ dAt y.2.1 h = 0 ∧ 2 * y.2.1.countP (fun z => decide (z < 0)) + y.2.2.1.length < 2 * ds.countP (fun z => decide (z < 0)) + (x :: q).length, fun y => [(0, .pointer (some ⟨gl, 0, none⟩)), (5, .slice (some ⟨g5, 0, none⟩) hs.length hs.length), (6, .chan (some gC)), (7, int (y.2.2.1.length + 1 : Nat)), (8, int x), (42, .slice o.1 nl.length o.2), (43, int nl.length), (44, int y.1)], fun y => [(gC, chanO hs.length (y.2.2.1.map fun y : Nat => int (y : Int)) y.2.2.2.1 y.2.2.2.2), (g5, Obj.cells (rows y.2.1).toArray T.int (0, 0))], fun _ => Row o.1 (rows nl) :: [Row (some ⟨gl, 0, none⟩) [.slice A cs.length ca, .slice B hs.length cb, .slice oa cs.length oc, .slice ka hs.length kc], Row ka (rows (kindsN hs hs.length)), RowsF B hs Hd.row]⟩ (fun y => nl.length - y.1) (0, ds, q, s, r + 1) ⟨Nat.zero_le _, hR, fun i hi => by omega, hd0, by show 2 * ds.countP (fun z => decide (z < 0)) + q.length < 2 * ds.countP (fun z => decide (z < 0)) + (x :: q).length; rw [List.length_cons]; omega⟩ ⟨rfl, rfl, rfl, rfl, rfl, rfl, rfl, rfl, trivial⟩ (List.Sublist.refl _) ⟨(by repeat constructor), (by repeat constructor), (by repeat constructor), (by repeat constructor), trivial⟩ fun y hy => ?_
  generalize 2 * ds.countP (fun z => decide (z < 0)) + (x :: q).length = M at hy ⊢
  clear hR hd0
  obtain ⟨j, ds, q, s, r⟩ := y
  obtain ⟨hj, hR, hdn, hd0, hM⟩ := hy
  simp only at hj hR hdn hd0 hM
  have hdl := hR.b.len
  have hqn := nodup_le hR.nd fun y hy => (hR.inq y hy).1
  have hdx := hR.dx
  have hkn := br_k hh hR
  refine kc_seq ?_
  refine kc_region ?_
  refine r_lss rfl rfl rfl ?_
  refine hl_nil ?_
  refine kthen_n ?_
  refine kc_seq ?_
  first | refine k_dec rfl (fun hb2 => ?_) (fun hb2 => ?_) | refine kc_cond rfl (fun hb2 => ?_) (fun hb2 => ?_)
  ·have hb2' := hb2; try simp at hb2'
   have hj2 : j < nl.length := by omega
   have hij := hin _ (getD_mem hj2)
   obtain ⟨i, hi⟩ := Int.eq_ofNat_of_zero_le hij.1
   have hil : i < hs.length := by omega
   refine kc_skip ?_
   refine kthen_n ?_
   refine kc_seq ?_
   refine kc_block ?_
   refine kc_seq ?_
   refine kc_region ?_
   refine r_elem (α := Int) nl j rfl T.u_ints T.sz_int rfl rfl rfl (by repeat constructor) rfl hj2 (by decide) ?_
   refine r_load (v := int (i : Int)) rfl T.cell_int rfl (cell_row (by repeat constructor) (rows_get0 hj2 (by rw [← hi]; rfl))) ?_
   refine r_assign rfl rfl ?_
   refine hl_nil ?_
   refine kthen_n ?_
   refine kc_seq ?_
   refine kc_region ?_
   refine r_move rfl rfl ?_
   refine r_move rfl rfl ?_
   refine r_indexAddr_own i (0 + i * 1) rfl T.u_ints T.sz_int rfl rfl rfl hil rfl ?_
   refine r_load (v := int (dAt ds i)) rfl T.cell_int rfl (cell_own (by repeat constructor) (own_el rfl (arr_take ds) (by rw [hdl]; exact hil) (by omega) rfl)) ?_
   refine r_lss rfl rfl rfl ?_
   refine hl_nil ?_
   refine kthen_n ?_
   first | refine k_dec rfl (fun hb3 => ?_) (fun hb3 => ?_) | refine kc_cond rfl (fun hb3 => ?_) (fun hb3 => ?_)
   ·have hb3' := hb3; try simp at hb3'
    obtain ⟨hR2, hql⟩ := br_put hR hil (by rw [hnb i, decide_eq_true_eq, ← hi]; exact getD_mem hj2) hb3
    have hc2 := cnt_set (v := dAt ds x + 1) (by rw [hdl]; exact hil) hb3 (by rw [hdx]; omega)
    refine kc_seq ?_
    refine kc_region ?_
    refine r_move rfl rfl ?_
    refine r_move rfl rfl ?_
    refine r_move rfl rfl ?_
    refine r_move rfl rfl ?_
    refine r_indexAddr_own x (0 + x * 1) rfl T.u_ints T.sz_int rfl rfl rfl hx rfl ?_
    refine r_load (v := int (dAt ds x)) rfl T.cell_int rfl (cell_own (by repeat constructor) (own_el rfl (arr_take ds) (by rw [hdl]; exact hx) (by omega) rfl)) ?_
    refine r_add _ rfl rfl rfl rfl (by unfold I64; omega) ?_
    refine r_indexAddr_own i (0 + i * 1) rfl T.u_ints T.sz_int rfl rfl rfl hil rfl ?_
    refine r_store rfl rfl (.swap _ _ _) T.sz_int (own_el rfl (arr_take ds) (by rw [hdl]; exact hil) (by omega) rfl) (by rfl) ?_
    rw [arr_set]
    refine hl_nil ?_
    refine kthen_n ?_
    refine kc_seq ?_
    refine kc_comm ?_
    show KL _ _ _ [0, 1, 2] _ _ _
    refine kl_move rfl rfl rfl ?_
    refine kl_move rfl rfl rfl ?_
    refine kl_send (buf := q.map fun y : Nat => int (y : Int)) rfl rfl rfl (.swap _ _ _) (by rw [List.length_map]; exact hql) ?_
    refine kl_nil ?_
    refine kthen_n ?_
    refine kc_region ?_
    refine r_move rfl rfl ?_
    refine r_add ((q.length : Int) + 2) rfl rfl rfl (by show ((q.length + 1 : Nat) : Int) + 1 = _; omega) (by unfold I64; omega) ?_
    refine r_assign rfl rfl ?_
    refine hl_nil ?_
    refine inb_n ?_
    refine kthen_n ?_
    refine kc_region ?_
    refine r_add _ rfl rfl rfl rfl (by unfold I64; omega) ?_
    refine r_move rfl rfl ?_
    refine hl_nil ?_
    exact again _ (j + 1, ds.set i (dAt ds x + 1), q ++ [i], s + 1, r) ⟨by show j + 1 ≤ nl.length; omega, hR2, fun p hp => by show 0 ≤ dAt (ds.set i (dAt ds x + 1)) _; rw [dAt_set (by rw [hdl]; exact hil)]; split; omega; exact hdn p (by rename_i hne; rcases Nat.lt_or_ge p j with h1 | h1; exact h1; exact absurd (by rw [show p = j by omega, hi]; rfl) hne), by show dAt (ds.set i (dAt ds x + 1)) h = 0; rw [dAt_set (by rw [hdl]; exact hil), if_neg (fun e1 => by subst e1; omega)]; exact hd0, by show 2 * (ds.set i (dAt ds x + 1)).countP (fun z => decide (z < 0)) + (q ++ [i]).length < M; rw [List.length_append, List.length_singleton]; omega⟩ (by show nl.length - (j + 1) < nl.length - j; omega) ⟨rfl, rfl, rfl, congrArg (fun z : Int => some (int z)) (by show (q.length : Int) + 2 = (((q ++ [i]).length + 1 : Nat) : Int); rw [List.length_append, List.length_singleton]; omega), rfl, rfl, rfl, rfl, trivial⟩ (by show List.Sublist [(gC, chanO hs.length ((q ++ [i]).map fun y : Nat => int (y : Int)) (s + 1) r), (g5, Obj.cells (rows (ds.set i (dAt ds x + 1))).toArray T.int (0, 0))] _; rw [List.map_append]; exact List.Sublist.refl _) ⟨(by repeat constructor), (by repeat constructor), (by repeat constructor), (by repeat constructor), trivial⟩
   ·have hb3' := hb3; try simp at hb3'
    skip
    refine kc_skip ?_
    refine inb_n ?_
    refine kthen_n ?_
    refine kc_region ?_
    refine r_add _ rfl rfl rfl rfl (by unfold I64; omega) ?_
    refine r_move rfl rfl ?_
    refine hl_nil ?_
    exact again _ (j + 1, ds, q, s, r) ⟨by show j + 1 ≤ nl.length; omega, hR, fun p hp => by rcases Nat.lt_or_ge p j with h1 | h1; exact hdn p h1; rw [show p = j by omega, hi]; exact Int.not_lt.1 hb3, hd0, hM⟩ (by show nl.length - (j + 1) < nl.length - j; omega) ⟨rfl, rfl, rfl, rfl, rfl, rfl, rfl, rfl, trivial⟩ (List.Sublist.refl _) ⟨(by repeat constructor), (by repeat constructor), (by repeat constructor), (by repeat constructor), trivial⟩
  ·have hb2' := hb2; try simp at hb2'
   obtain rfl : j = nl.length := by omega
   have hB := br_done hR fun t ht het => by
     rw [hnb t, decide_eq_true_eq] at het
     obtain ⟨p, hp, he⟩ := List.getElem_of_mem het
     have h1 := hdn p hp
     rw [getD_at hp, he, Int.toNat_natCast] at h1
     exact h1
   refine kc_exit ?_
   refine then_exit ?_
   refine then_exit ?_
   refine inb_hit ?_
   refine inb_n ?_
   refine kthen_n ?_
   refine kc_region ?_
   refine r_move rfl rfl ?_
   refine r_sub (q.length : Int) rfl rfl rfl (by show ((q.length + 1 : Nat) : Int) - 1 = _; omega) (by unfold I64; omega) ?_
   refine r_assign rfl rfl ?_
   refine hl_nil ?_
   exact again _ (k, ds, q, s, r) ⟨hB, hd0⟩ hM ⟨rfl, rfl, rfl, rfl, trivial⟩ (List.Sublist.refl _) ⟨(by repeat constructor), (by repeat constructor), (by repeat constructor), trivial⟩
 ·have hb1' := hb1; try simp at hb1'
  have hq0 : q = [] := by
    cases q with
    | nil => rfl
    | cons x q => exact absurd hb1 (by simp)
  subst hq0
  have hE := bo_end hh hB hd0
  refine kc_exit ?_
  refine then_exit ?_
  refine then_exit ?_
  refine inb_hit ?_
  refine kthen_n ?_
  refine kc_seq ?_
  refine kc_region ?_
  refine r_move rfl rfl ?_
  refine r_assign rfl rfl ?_
  refine hl_nil ?_
  refine kthen_n ?_
  refine kc_ret ?_
  have hE2 : ds = (stepsT (trOf cs hs) (h : Int)) := by rw [hE]; unfold stepsT; rw [hln]; try rfl
  have hle : (stepsT (trOf cs hs) (h : Int)).length = hs.length := by rw [← hE2]; exact hB.b.len
  refine hq_perm (.swap _ _ _) ?_
  refine hq_letgo (rows ds) ⟨[], List.append_nil _⟩ ?_
  exact ret1 (some ⟨g5, 0, none⟩, hs.length) rfl (by show some (Value.slice _ hs.length hs.length) = some (Value.slice _ (stepsT (trOf cs hs) (h : Int)).length hs.length); rw [hle]) rfl (by show (stepsT (trOf cs hs) (h : Int)).length ≤ hs.length; rw [hle]; exact Nat.le_refl _) (List.nil_sublist _) (by rw [← hE2]; exact ⟨m0, trivial⟩)

end Go.Proofs.Ytlpgheniajdkfaa
