/- Texts of this claim, one behind another. -/
import Derived.ProofKit
import Derived.OpenShut
import Derived.ShutString
import Derived.ChangeOld
import Derived.Below
import Derived.SliceStrings
import Derived.ChangeSlices
import Derived.Deep.Slices
import Derived.Test.YtdlbbfcfahahdaaPAp
import Derived.Test.YtdlbbfcfahahdaaPAf
set_option linter.unusedVariables false
set_option linter.unusedSimpArgs false
section
namespace Go.Proofs.Ytdlbbfcfahahdaa
open Go Go.W
set_option maxRecDepth 20000
attribute [local irreducible] HL HC HQ HB Row Rows2 Blk Facts
def nearB (t : Tr) (p : Int) (w : Int) (k : Int) : Bool := decide (0 ≤ (stepsT t w).getD k.toNat default ∧ (stepsT t w).getD k.toNat default ≤ p)
theorem near_at {cs : List Cl} {hs : List Hd} (h0 : checkT (trOf cs hs) = 0) {p w k : Int} (hw : 0 ≤ w ∧ w < (hs.length : Int)) (hk : 0 ≤ k ∧ k < (hs.length : Int)) : ((reachK (trOf cs hs) p hs.length).getD w.toNat default).getD k.toNat default = nearB (trOf cs hs) p w k := by
  obtain ⟨a, rfl⟩ := Int.eq_ofNat_of_zero_le hw.1
  obtain ⟨b, rfl⟩ := Int.eq_ofNat_of_zero_le hk.1
  rw [Int.toNat_natCast, Int.toNat_natCast]
  have hl : (trOf cs hs).hs.length = hs.length := hs_len cs hs
  have e1 : (reachK (trOf cs hs) p hs.length).getD a default = rdK p (stepsE (trOf cs hs) (a : Int)).1 := range_getD _ (by omega)
  have e2 : stepsE (trOf cs hs) (a : Int) = (stepsT (trOf cs hs) (a : Int), 0) := by
    exact if_neg (fun e => e (ask_one h0 (by omega)))
  rw [e1, e2]
  unfold nearB rdK
  have h3 : ((stepsT (trOf cs hs) (a : Int), (0 : Int)).1).length = hs.length := by rw [← hl]; exact steps_len (trOf cs hs) (a : Int)
  rw [getD_at (by rw [List.length_map]; omega), List.getElem_map, Int.toNat_natCast, ← getD_at (by rw [h3]; omega)]
theorem found_eq {cs : List Cl} {hs : List Hd} (h0 : checkT (trOf cs hs) = 0) {p : Int} {ws s : List Int} (hw : ∀ w ∈ ws, 0 ≤ w ∧ w < (hs.length : Int)) (hk : ∀ k ∈ s, 0 ≤ k ∧ k < (hs.length : Int)) : fndOK hs (reachK (trOf cs hs) p hs.length) ws s = ((s.all fun k => decide (0 ≤ (hs.getD k.toNat default).2.1)) && ws.all fun w => s.any fun k => nearB (trOf cs hs) p w k) := by
  unfold fndOK
  congr 1
  rw [Bool.eq_iff_iff, List.all_eq_true, List.all_eq_true]
  refine forall_congr' fun w => forall_congr' fun hw2 => ?_
  rw [List.any_eq_true, List.any_eq_true]
  refine exists_congr fun k => and_congr_right fun hk2 => ?_
  rw [near_at h0 (hw w hw2) (hk k hk2)]
theorem any_cut {α : Type} [Inhabited α] {p : α → Bool} {l : List α} {k : Nat} (hk : k < l.length) : (l.take (k + 1)).any p = ((l.take k).any p || p (l.getD k default)) := by
  rw [List.take_succ_eq_append_getElem hk, List.any_append, getD_at hk]
  simp
theorem any_here {α : Type} [Inhabited α] {p : α → Bool} {l : List α} {k : Nat} (hk : k < l.length) (h : p (l.getD k default) = true) : l.any p = true := List.any_eq_true.2 ⟨_, getD_mem hk, h⟩
theorem law09_found_meets {A B S : Option Addr} {ca cb sc n : Nat} (cs : List Cl) (hs : List Hd) (h : Int) (ks : List Int) (p : Int) (hca : cs.length ≤ ca) (hcb : hs.length ≤ cb) (ha : ∀ h ∈ hs, h.2.2.2.l.length ≤ 1000000) (h0 : checkT (trOf cs hs) = 0) (hh : 0 ≤ h ∧ h < (hs.length : Int)) (hk : ∀ k ∈ ks, 0 ≤ k ∧ k < (hs.length : Int)) (hkl : ks.length ≤ 1000000) (e : ks.length = n) : Meets Try.prog F.law09_found [.agg #[.slice A cs.length ca, .slice B hs.length cb], int h, .slice S n sc, int p] { LI := [Row A (rows cs), RowsF B hs Hd.row, Row S (rows ks)], val := fun _ : Unit => .tuple #[.bool (ks.any (nearB (trOf cs hs) p h)), .bool true] } := by
 subst e
 have hln := hs_len cs hs
 have hsl := steps_len (trOf cs hs) h
 refine meets_intro F.law09_found_f rfl (Nat.le_of_ble_eq_true rfl) fun w0 => ?_
 refine hc_seq (hc_region ?_)
 refine r_box rfl rfl fun gB => ?_
 refine r_assign rfl rfl (r_assign rfl rfl (hl_nil (then_n (hc_seq (hc_region ?_)))))
 refine r_loadA rfl T.row_api_Trades T.sz_api_Trades rfl mB (by rfl) ?_
 refine r_move rfl rfl ?_
 refine hl_call F.trade_Steps_cb rfl rfl (steps_is cs hs h hca hcb ha h0 (by omega)) (List.Perm.refl _) ⟨mB, mB, trivial⟩ fun y hy => ?_
 obtain ⟨sa, sc1⟩ := y
 refine r_move rfl rfl (r_extract rfl rfl rfl (r_extract rfl rfl rfl (r_assign rfl rfl (r_assign rfl rfl (hl_nil (then_n (hc_seq (hc_seq (hc_region (r_move rfl rfl (r_neq rfl rfl rfl ?_)))))))))))
 refine r_move rfl rfl ?_
 refine g_split rfl rfl ?_ ?_
 ·intro hg1; have hg1' := hg1; try simp at hg1'
  refine g_yes rfl rfl hg1 (r_move rfl rfl (g_yes rfl rfl hg1 ?_))
  refine r_len_sl rfl T.u_ints rfl ?_
  refine g_yes rfl rfl hg1 ?_
  refine r_fieldAddr ⟨_, 1, none⟩ rfl rfl T.fa_api_Trades_1 rfl ?_
  refine g_yes rfl rfl hg1 ?_
  refine r_load rfl T.cell_L_api_Head rfl (cell_own mB rfl) ?_
  refine g_yes rfl rfl hg1 ?_
  refine r_len_sl rfl T.u_L_api_Head rfl ?_
  refine g_yes rfl rfl hg1 (r_neq rfl rfl rfl ?_)
  refine p_f rfl rfl (bf1 hg1) rfl ?_
  refine hl_nil (then_n ?_)
  refine c_dec rfl (fun hb1 => ?_) (fun hb1 => ?_)
  ·all_goals omega
  ·have hb1' := hb1; try simp at hb1'
   refine hc_skip (then_n (hc_seq (hc_seq (hc_region (r_assign rfl rfl (hl_nil (then_n (hc_block ?_))))))))
   refine hc_loop (β := Nat) ⟨fun k => k ≤ ks.length ∧ (ks.take k).any (nearB (trOf cs hs) p h) = false, fun k => [(2, .slice S ks.length sc), (3, int p), (10, .slice sa (stepsT (trOf cs hs) h).length sc1), (12, int k)], fun _ => [], fun _ => [Row sa (rows (stepsT (trOf cs hs) h)), Row S (rows ks)]⟩ (fun k => ks.length - k) 0 ⟨Nat.zero_le _, rfl⟩ ⟨rfl, rfl, rfl, rfl, trivial⟩ (List.nil_sublist _) ⟨mB, mB, trivial⟩ fun k hkk => ?_
   obtain ⟨hkk, hno⟩ := hkk
   refine hc_seq (hc_seq (hc_region (r_move rfl rfl (r_move rfl rfl ?_))))
   refine r_len_sl rfl T.u_ints rfl ?_
   refine r_lss rfl rfl rfl (hl_nil (then_n ?_))
   refine c_dec rfl (fun hb2 => ?_) (fun hb2 => ?_)
   ·have hb2' := hb2; try simp at hb2'
    have hk2 : k < ks.length := by omega
    have hkv := hk _ (getD_mem hk2)
    obtain ⟨m, hme⟩ := Int.eq_ofNat_of_zero_le hkv.1
    have hm2 : m < (stepsT (trOf cs hs) h).length := by omega
    have hcut := any_cut (p := nearB (trOf cs hs) p h) hk2
    rw [hno, Bool.false_or] at hcut
    have hnr : nearB (trOf cs hs) p h (ks.getD k default) = decide (0 ≤ (stepsT (trOf cs hs) h).getD m default ∧ (stepsT (trOf cs hs) h).getD m default ≤ p) := by unfold nearB; rw [hme, Int.toNat_natCast]
    refine hc_skip (then_n (hc_seq (hc_block (hc_seq (hc_region (r_move rfl rfl (r_move rfl rfl (r_move rfl rfl ?_))))))))
    refine r_elem (α := Int) ks k rfl T.u_ints T.sz_int rfl rfl rfl mB rfl (hk2) (by decide) ?_
    refine r_load (v := int ((m : Int))) rfl T.cell_int rfl (cell_row mB (by rw [← hme]; exact rows_get0 (hk2) rfl)) ?_
    refine r_elem (α := Int) (stepsT (trOf cs hs) h) m rfl T.u_ints T.sz_int rfl rfl rfl mB rfl (hm2) (by decide) ?_
    refine r_load (v := int ((stepsT (trOf cs hs) h).getD m default)) rfl T.cell_int rfl (cell_row mB (rows_get0 (hm2) rfl)) ?_
    refine r_assign rfl rfl (hl_nil (then_n (hc_seq (hc_region (r_move rfl rfl (r_geq rfl rfl rfl (r_move rfl rfl ?_)))))))
    refine g_split rfl rfl ?_ ?_
    ·intro hg2; have hg2' := hg2; try simp at hg2'
     have q1 : 0 ≤ (stepsT (trOf cs hs) h).getD m default := of_decide_eq_true (eq_of_beq hg2)
     refine g_yes rfl rfl hg2 (r_move rfl rfl (g_yes rfl rfl hg2 (r_move rfl rfl (g_yes rfl rfl hg2 (r_leq rfl rfl rfl ?_)))))
     refine p_t rfl rfl (bt1 hg2) rfl ?_
     refine hl_nil (then_n ?_)
     refine c_dec rfl (fun hb3 => ?_) (fun hb3 => ?_)
     ·have hb3' := hb3; try simp at hb3'
      refine hc_seq (hc_region (r_assign rfl rfl (r_assign rfl rfl (hl_nil (then_n (hc_ret (inb_ret (then_ret (then_ret (inb_ret (then_ret ?_)))))))))))
      exact ret2 () rfl rfl rfl (by show Value.tuple #[.bool (ks.any (nearB (trOf cs hs) p h)), .bool true] = _; rw [show ks.any (nearB (trOf cs hs) p h) = true from any_here hk2 (by rw [hnr]; exact decide_eq_true ⟨q1, hb3⟩)]) rfl trivial (List.nil_sublist _) trivial
     ·have hb3' := hb3; try simp at hb3'
      refine hc_skip (inb_n (then_n (hc_region (r_move rfl rfl ?_))))
      refine r_add _ rfl rfl rfl rfl (by unfold I64; omega) ?_
      refine r_assign rfl rfl (hl_nil ?_)
      exact again _ (k + 1) ⟨by show k + 1 ≤ ks.length; omega, by rw [hcut, hnr]; exact decide_eq_false fun e => hb3 e.2⟩ (by show ks.length - (k + 1) < ks.length - k; omega) ⟨rfl, rfl, rfl, rfl, trivial⟩ (.refl _) ⟨mB, mB, trivial⟩
    ·intro hg2; have hg2' := hg2; try simp at hg2'
     have q1 : ¬ 0 ≤ (stepsT (trOf cs hs) h).getD m default := of_decide_eq_false (bf2 hg2)
     refine g_no rfl rfl rfl rfl rfl hg2 (g_no rfl rfl rfl rfl rfl hg2 (g_no rfl rfl rfl rfl rfl hg2 ?_))
     refine p_f rfl rfl (bf2 hg2) rfl ?_
     refine hl_nil (then_n (c_f rfl rfl (hc_skip (inb_n (then_n (hc_region (r_move rfl rfl ?_)))))))
     refine r_add _ rfl rfl rfl rfl (by unfold I64; omega) ?_
     refine r_assign rfl rfl (hl_nil ?_)
     exact again _ (k + 1) ⟨by show k + 1 ≤ ks.length; omega, by rw [hcut, hnr]; exact decide_eq_false fun e => q1 e.1⟩ (by show ks.length - (k + 1) < ks.length - k; omega) ⟨rfl, rfl, rfl, rfl, trivial⟩ (.refl _) ⟨mB, mB, trivial⟩
   ·have hb2' := hb2; try simp at hb2'
    obtain rfl : k = ks.length := by omega
    rw [List.take_length] at hno
    refine hc_exit (then_exit (then_exit (inb_hit (then_n (hc_seq (hc_region (r_assign rfl rfl (r_assign rfl rfl (hl_nil (then_n (hc_ret ?_)))))))))))
    exact ret2 () rfl rfl rfl (by show Value.tuple #[.bool (ks.any (nearB (trOf cs hs) p h)), .bool true] = _; rw [show ks.any (nearB (trOf cs hs) p h) = false from hno]) rfl trivial (List.nil_sublist _) trivial
 ·intro hg1; have hg1' := hg1; try simp at hg1'
def FoundS (hs : List Hd) (rs : List (List Bool)) (pr ws : List Int) (x : Hn) : Prop := ∃ c, c.Sublist (upI 0 hs.length) ∧ fndOK hs rs ws c = true ∧ x = fndH pr c
theorem fndH_inj {pr a b : List Int} (h : (fndH pr a).1 = (fndH pr b).1) : fndH pr a = fndH pr b := congrArg (fndH pr) h
theorem fnd_mem {hs : List Hd} {rs : List (List Bool)} {pr ws : List Int} {x : Hn} : x ∈ fndL hs rs pr ws (2 ^ hs.length) ↔ FoundS hs rs pr ws x := by
  unfold fndL
  rw [List.mem_map]
  constructor
  · rintro ⟨c, hc, rfl⟩
    obtain ⟨h1, h2⟩ := List.mem_filter.1 hc
    obtain ⟨s, hs1, rfl⟩ := List.mem_map.1 h1
    exact ⟨_, pick_sub s _, h2, rfl⟩
  · rintro ⟨c, h1, h2, rfl⟩
    obtain ⟨s, hs1, rfl⟩ := pick_all h1
    exact ⟨_, List.mem_filter.2 ⟨List.mem_map.2 ⟨s, List.mem_range.2 hs1, rfl⟩, h2⟩, rfl⟩
theorem found_inj {hs : List Hd} {rs : List (List Bool)} {pr ws : List Int} {x y : Hn} (hx : FoundS hs rs pr ws x) (hy : FoundS hs rs pr ws y) (h : x.1 = y.1) : x = y := by
  obtain ⟨c, _, _, rfl⟩ := hx
  obtain ⟨d, _, _, rfl⟩ := hy
  exact fndH_inj h
theorem fndB_is {t : Tr} {hs : List Hd} {pr ws : List Int} {p : Int} : ((fndB t hs pr ws p).2 = false ∧ ∀ x, ¬ FoundS hs (reachK t p hs.length) pr ws x) ∨ ((fndB t hs pr ws p).2 = true ∧ BestIs ordP (FoundS hs (reachK t p hs.length) pr ws) (fndB t hs pr ws p).1) := by
  rcases bestL_is tot_P (l := fndL hs (reachK t p hs.length) pr ws (2 ^ hs.length)) (fun x hx y hy => found_inj (fnd_mem.1 hx) (fnd_mem.1 hy)) with ⟨h1, h2⟩ | ⟨h1, h2⟩
  · exact .inl ⟨h1, fun x hx => by have := fnd_mem.2 hx; rw [h2] at this; cases this⟩
  · exact .inr ⟨h1, fnd_mem.1 h2.1, fun x hx => h2.2 x (fnd_mem.2 hx)⟩
theorem found_ok {cs : List Cl} {hs : List Hd} {pr ws : List Int} {p : Int} (h0 : checkT (trOf cs hs) = 0) (hl : pr.length = hs.length) (hp : ∀ x ∈ pr, prB x) (hw : ∀ w ∈ ws, 0 ≤ w ∧ w < (hs.length : Int)) (h6 : 0 ≤ p ∧ p ≤ 6) : foundE cs hs pr ws p = if (fndB (trOf cs hs) hs pr ws p).2 = false then ([], 0, 11) else ((fndB (trOf cs hs) hs pr ws p).1.1, (fndB (trOf cs hs) hs pr ws p).1.2.2, 0) := by
  unfold foundE
  rw [if_neg (fun e => e h0), if_neg (by omega), if_neg (by omega), if_neg (fun e => e hp), if_neg (fun e => e fun w h => by have := hw w h; omega), if_neg (fun e => e h6)]
theorem made_pr {l : List Int} (h : ∀ y ∈ l, 0 ≤ y ∧ y ≤ 40) : ∀ x ∈ l, prB x := fun x hx => by
  have := h x hx
  exact ⟨by omega, by omega⟩
end Go.Proofs.Ytdlbbfcfahahdaa
end
section
namespace Go.Proofs.Ytdlbbfcfahahdaa
open Go Go.W
set_option maxRecDepth 20000
attribute [local irreducible] HL HC HQ HB Row Rows2 Blk Facts
def placeE (hs : List Hd) : List Int → Int
  | [] => 0
  | v :: r => if ¬ (0 ≤ v ∧ v ≤ (hs.length : Int) - 1) then 3 else if (hs.getD v.toNat default).2.1 < 0 then 8 else placeE hs r
theorem placeE_drop (hs : List Hd) {l : List Int} {k : Nat} (hk : k < l.length) : placeE hs (l.drop k) = if ¬ (0 ≤ l.getD k default ∧ l.getD k default ≤ (hs.length : Int) - 1) then 3 else if (hs.getD (l.getD k default).toNat default).2.1 < 0 then 8 else placeE hs (l.drop (k + 1)) := by
  rw [drop_getD hk, placeE]
theorem place_ok {hs : List Hd} : ∀ {l : List Int}, placeE hs l = 0 → ∀ v ∈ l, 0 ≤ v ∧ v < (hs.length : Int)
  | [], _, v, hv => by cases hv
  | x :: r, h, v, hv => by
    rw [placeE] at h
    split at h
    · cases h
    · split at h
      · cases h
      · rcases List.mem_cons.1 hv with rfl | hv
        · omega
        · exact place_ok h v hv
theorem place_mk {hs : List Hd} : ∀ {l : List Int}, (∀ v ∈ l, (0 ≤ v ∧ v < (hs.length : Int)) ∧ 0 ≤ (hs.getD v.toNat default).2.1) → placeE hs l = 0
  | [], _ => rfl
  | x :: r, h => by
    have h1 := h x (List.mem_cons_self ..)
    rw [placeE, if_neg (by omega), if_neg (by omega)]
    exact place_mk fun v hv => h v (List.mem_cons_of_mem _ hv)
def missB (rs : List (List Bool)) (ks : List Int) (i : Nat) : Bool := ks.any fun v => (rs.getD i default).getD v.toNat default
def missK (rs : List (List Bool)) (ks : List Int) (k : Nat) : List Int := ((List.range k).filter fun i => !missB rs ks i).map fun i : Nat => (i : Int)
theorem missK_succ (rs : List (List Bool)) (ks : List Int) (k : Nat) : missK rs ks (k + 1) = if missB rs ks k = true then missK rs ks k else missK rs ks k ++ [(k : Int)] := by
  unfold missK
  rw [List.range_succ, List.filter_append, List.map_append]
  by_cases e : missB rs ks k = true
  · rw [if_pos e]; simp [e]
  · rw [if_neg e]; simp [e]
theorem missK_len (rs : List (List Bool)) (ks : List Int) (k : Nat) : (missK rs ks k).length ≤ k := by
  unfold missK
  rw [List.length_map]
  exact Nat.le_trans (List.length_filter_le _ _) (by simp)
def missE (cs : List Cl) (hs : List Hd) (ks : List Int) (p : Int) : List Int × Int :=
  if ¬ checkT (trOf cs hs) = 0 then ([], checkT (trOf cs hs)) else if ¬ placeE hs ks = 0 then ([], placeE hs ks) else if ¬ (0 ≤ p ∧ p ≤ 6) then ([], 1) else (missK (reachK (trOf cs hs) p hs.length) ks hs.length, 0)
set_option maxHeartbeats 1000000 in
theorem bold_Missed_meets {A B S : Option Addr} {ca cb sc : Nat} (cs : List Cl) (hs : List Hd) (ks : List Int) (p : Int) (hca : cs.length ≤ ca) (hcb : hs.length ≤ cb) (ha : ∀ h ∈ hs, h.2.2.2.l.length ≤ 1000000) (hkl : ks.length ≤ 1000000) : Meets Try.prog F.bold_Missed [.agg #[.slice A cs.length ca, .slice B hs.length cb], .slice S ks.length sc, int p] { LI := [Row A (rows cs), RowsF B hs Hd.row, Row S (rows ks)], inv := fun x : OutC => (missE cs hs ks p).1.length ≤ x.2, val := fun x => .tuple #[.slice x.1 (missE cs hs ks p).1.length x.2, int (missE cs hs ks p).2], LO := fun x => [Row x.1 (rows (missE cs hs ks p).1)] } := by
 refine meets_intro F.bold_Missed_f rfl (Nat.le_of_ble_eq_true rfl) fun w0 => ?_
 refine hc_seq (hc_region ?_)
 refine r_box rfl rfl fun gT => ?_
 refine r_assign rfl rfl (r_assign rfl rfl (hl_nil (then_n (hc_seq (hc_seq (hc_region (hl_letgoB ?_)))))))
 refine r_loadB (cs := #[.slice A cs.length ca, .slice B hs.length cb]) rfl T.row_api_Trades T.sz_api_Trades rfl mB rfl ?_
 refine hl_call F.trade_Check_cb rfl rfl (trade_Check_meets cs hs hca hcb ha) (List.Perm.refl _) ⟨mB, mB, trivial⟩ fun _ _ => ?_
 refine r_assign rfl rfl (hl_nil (then_n (hc_seq (hc_region (r_move rfl rfl (r_neq rfl rfl rfl (hl_nil (then_n ?_))))))))
 refine c_dec rfl (fun hb1 => ?_) (fun hb1 => ?_)
 ·have hb1' := hb1; try simp at hb1'
  refine hc_seq (hc_region (r_move rfl rfl (r_assign rfl rfl (r_assign rfl rfl (hl_nil (then_n (hc_ret (then_ret ?_))))))))
  refine hq_nilrow (α := Int) ?_
  have hE : (missE cs hs ks p) = ([], checkT (trOf cs hs)) := by rw [missE, if_pos hb1]
  exact ret2 (none, 0) rfl rfl rfl (by show Value.tuple #[.slice none (missE cs hs ks p).1.length 0, int (missE cs hs ks p).2] = _; rw [hE]; rfl) rfl (by show (missE cs hs ks p).1.length ≤ 0; rw [hE]; exact Nat.le_refl _) (List.nil_sublist _) (by show LSub _ [Row none (rows (missE cs hs ks p).1)]; rw [hE]; exact ⟨m0, trivial⟩)
 ·have hb1' := hb1; try simp at hb1'
  have h0 : checkT (trOf cs hs) = 0 := Classical.not_not.1 hb1
  have hok := tr_ok h0
  have hn6 := hok.h6
  rw [hs_len] at hn6
  refine hc_skip (then_n (hc_seq (hc_seq (hc_region (r_move rfl rfl ?_)))))
  refine r_len_sl rfl T.u_ints rfl ?_
  refine r_move rfl rfl (hl_nil (then_n (hc_block ?_)))
  refine hc_loop (β := Nat) ⟨fun k => k ≤ ks.length ∧ placeE hs ks = placeE hs (ks.drop k), fun k => [(1, .slice S ks.length sc), (2, int p), (3, .pointer (some ⟨gT, 0, none⟩)), (19, .slice S ks.length sc), (20, int ks.length), (21, int k)], fun _ => [], fun _ => [Blk gT (Obj.cells #[.slice A cs.length ca, .slice B hs.length cb] T.api_Trades (0, 0)), Row A (rows cs), RowsF B hs Hd.row, Row S (rows ks)]⟩ (fun k => ks.length - k) 0 ⟨Nat.zero_le _, rfl⟩ ⟨rfl, rfl, rfl, rfl, rfl, rfl, trivial⟩ (List.nil_sublist _) ⟨mB, mB, mB, mB, trivial⟩ fun k hk => ?_
  obtain ⟨hk, hpe⟩ := hk
  refine hc_seq (hc_region (r_lss rfl rfl rfl (hl_nil (then_n (hc_seq ?_)))))
  refine c_dec rfl (fun hb2 => ?_) (fun hb2 => ?_)
  ·have hb2' := hb2; try simp at hb2'
   have hk2 : k < ks.length := by omega
   rw [placeE_drop hs hk2] at hpe
   refine hc_skip (then_n (hc_seq (hc_block (hc_seq (hc_region ?_)))))
   refine r_elem (α := Int) ks k rfl T.u_ints T.sz_int rfl rfl rfl mB rfl (hk2) (by decide) ?_
   refine r_load (v := int ((ks.getD k default))) rfl T.cell_int rfl (cell_row mB (rows_get0 (hk2) rfl)) ?_
   refine r_assign rfl rfl (hl_nil (then_n (hc_seq (hc_seq (hc_region (r_move rfl rfl ?_))))))
   refine r_fieldAddr ⟨_, 1, none⟩ rfl rfl T.fa_api_Trades_1 rfl ?_
   refine r_load (v := .slice B hs.length cb) rfl T.cell_L_api_Head rfl (cell_blk mB rfl) ?_
   refine r_len_sl rfl T.u_L_api_Head rfl ?_
   refine r_sub _ rfl rfl rfl rfl (by unfold I64; omega) ?_
   refine hl_call F.bold_between_cb rfl rfl (bold_between_meets _ _ _) (List.Perm.refl _) trivial fun _ _ => ?_
   refine r_not rfl rfl (hl_nil (then_n ?_))
   refine hc_cond rfl (fun hb3 => ?_) (fun hb3 => ?_)
   ·have hb3' := hb3; try simp at hb3'
    rw [if_pos (nbt hb3)] at hpe
    refine hc_seq (hc_region (r_assign rfl rfl (r_assign rfl rfl (hl_nil (then_n (hc_ret (then_ret (inb_ret (then_ret (then_ret (inb_ret ?_)))))))))))
    refine then_ret ?_
    refine hq_nilrow (α := Int) ?_
    have hE : (missE cs hs ks p) = ([], 3) := by rw [missE, if_neg (Classical.not_not.2 h0), if_pos (by rw [hpe]; decide), hpe]
    exact ret2 (none, 0) rfl rfl rfl (by show Value.tuple #[.slice none (missE cs hs ks p).1.length 0, int (missE cs hs ks p).2] = _; rw [hE]; rfl) rfl (by show (missE cs hs ks p).1.length ≤ 0; rw [hE]; exact Nat.le_refl _) (List.nil_sublist _) (by show LSub _ [Row none (rows (missE cs hs ks p).1)]; rw [hE]; exact ⟨m0, trivial⟩)
   ·have hb3' := hb3; try simp at hb3'
    have hkv := nbf hb3
    rw [if_neg (Classical.not_not.2 hkv)] at hpe
    obtain ⟨m, hme⟩ := Int.eq_ofNat_of_zero_le hkv.1
    have hm2 : m < hs.length := by omega
    rw [hme, Int.toNat_natCast] at hpe
    refine hc_skip (then_n (hc_seq (hc_region ?_)))
    refine r_fieldAddr ⟨_, 1, none⟩ rfl rfl T.fa_api_Trades_1 rfl ?_
    refine r_load (v := .slice B hs.length cb) rfl T.cell_L_api_Head rfl (cell_blk mB rfl) ?_
    refine r_move rfl rfl ?_
    refine hl_outerF (A := B) (ps := hs) (f := Hd.row) mB ?_
    refine r_elem (α := Hd) hs m rfl T.u_L_api_Head T.sz_api_Head rfl rfl hme mB rfl hm2 (by decide) ?_
    refine r_fieldAddr _ rfl rfl T.fa_api_Head_1 rfl ?_
    refine r_load (v := int (hs.getD m default).2.1) rfl T.cell_int rfl (cell_row_f mB (rows_get hm2 rfl)) ?_
    refine r_lss rfl rfl rfl (hl_nil (then_n ?_))
    refine c_dec rfl (fun hb4 => ?_) (fun hb4 => ?_)
    ·have hb4' := hb4; try simp at hb4'
     rw [if_pos hb4] at hpe
     refine hc_seq (hc_region (r_assign rfl rfl (r_assign rfl rfl (hl_nil (then_n (hc_ret (inb_ret (then_ret (then_ret (inb_ret (then_ret ?_)))))))))))
     refine hq_nilrow (α := Int) ?_
     have hE : (missE cs hs ks p) = ([], 8) := by rw [missE, if_neg (Classical.not_not.2 h0), if_pos (by rw [hpe]; decide), hpe]
     exact ret2 (none, 0) rfl rfl rfl (by show Value.tuple #[.slice none (missE cs hs ks p).1.length 0, int (missE cs hs ks p).2] = _; rw [hE]; rfl) rfl (by show (missE cs hs ks p).1.length ≤ 0; rw [hE]; exact Nat.le_refl _) (List.nil_sublist _) (by show LSub _ [Row none (rows (missE cs hs ks p).1)]; rw [hE]; exact ⟨m0, trivial⟩)
    ·have hb4' := hb4; try simp at hb4'
     rw [if_neg hb4] at hpe
     refine hc_skip (inb_n (then_n (hc_region ?_)))
     refine r_add _ rfl rfl rfl rfl (by unfold I64; omega) ?_
     refine r_move rfl rfl (hl_nil ?_)
     exact again _ (k + 1) ⟨by show k + 1 ≤ ks.length; omega, hpe⟩ (by show ks.length - (k + 1) < ks.length - k; omega) ⟨rfl, rfl, rfl, rfl, rfl, rfl, trivial⟩ (.refl _) ⟨mB, mB, mB, mB, trivial⟩
  ·have hb2' := hb2; try simp at hb2'
   obtain rfl : k = ks.length := by omega
   rw [List.drop_length, placeE] at hpe
   refine hc_exit (then_exit (then_exit (inb_hit (then_n (hc_seq (hc_seq (hc_region (r_move rfl rfl ?_))))))))
   refine hl_call F.bold_between_cb rfl rfl (bold_between_meets _ _ _) (List.Perm.refl _) trivial fun _ _ => ?_
   refine r_not rfl rfl (hl_nil (then_n ?_))
   refine hc_cond rfl (fun hb5 => ?_) (fun hb5 => ?_)
   ·have hb5' := hb5; try simp at hb5'
    refine hc_seq (hc_region (r_assign rfl rfl (r_assign rfl rfl (hl_nil (then_n (hc_ret (then_ret ?_)))))))
    refine hq_nilrow (α := Int) ?_
    have hE : (missE cs hs ks p) = ([], 1) := by rw [missE, if_neg (Classical.not_not.2 h0), if_neg (Classical.not_not.2 hpe), if_pos (nbt hb5)]
    exact ret2 (none, 0) rfl rfl rfl (by show Value.tuple #[.slice none (missE cs hs ks p).1.length 0, int (missE cs hs ks p).2] = _; rw [hE]; rfl) rfl (by show (missE cs hs ks p).1.length ≤ 0; rw [hE]; exact Nat.le_refl _) (List.nil_sublist _) (by show LSub _ [Row none (rows (missE cs hs ks p).1)]; rw [hE]; exact ⟨m0, trivial⟩)
   ·have hb5' := hb5; try simp at hb5'
    have h5 := nbf hb5
    have hkin := place_ok hpe
    refine hc_skip (then_n (hc_seq (hc_region (r_assign rfl rfl (hl_nil (then_n (hc_seq (hc_seq (hc_region ?_)))))))))
    refine r_loadB (cs := #[.slice A cs.length ca, .slice B hs.length cb]) rfl T.row_api_Trades T.sz_api_Trades rfl mB rfl ?_
    refine r_move rfl rfl ?_
    refine hl_call F.bold_reached_cb rfl rfl (bold_reached_meets cs hs p hca hcb ha (by omega) (steps_bd cs hs (by omega))) (List.Perm.refl _) ⟨mB, mB, trivial⟩ fun x hx => ?_
    obtain ⟨go, ps⟩ := x
    obtain ⟨hpn2, hpm⟩ := hx
    simp only at hpn2 hpm
    refine r_len_sl rfl T.u_L_L_bool rfl ?_
    refine r_move rfl rfl (hl_nil (then_n (hc_block ?_)))
    refine hc_loop (β := Nat × OutC × Hp) ⟨fun x => x.1 ≤ hs.length ∧ Grow T.int 1 x.2.1.1 (missK (reachK (trOf cs hs) p hs.length) ks x.1).length x.2.1.2 (rows (missK (reachK (trOf cs hs) p hs.length) ks x.1)) x.2.2, fun x => [(1, .slice S ks.length sc), (2, int p), (3, .pointer (some ⟨gT, 0, none⟩)), (11, .slice x.2.1.1 (missK (reachK (trOf cs hs) p hs.length) ks x.1).length x.2.1.2), (45, .slice (some ⟨go, 0, none⟩) hs.length hs.length), (46, int hs.length), (47, int x.1)], fun x => x.2.2, fun _ => [Row (some ⟨go, 0, none⟩) (rows ps), innerF ps, Blk gT (Obj.cells #[.slice A cs.length ca, .slice B hs.length cb] T.api_Trades (0, 0)), Row A (rows cs), RowsF B hs Hd.row, Row S (rows ks)]⟩ (fun x => hs.length - x.1) (0, (none, 0), []) ⟨Nat.zero_le _, Grow.nil _ _⟩ ⟨rfl, rfl, rfl, rfl, rfl, rfl, rfl, trivial⟩ (List.nil_sublist _) ⟨mB, mB, mB, mB, mB, mB, trivial⟩ fun x hx => ?_
    obtain ⟨k, ⟨na, nc⟩, og⟩ := x
    obtain ⟨hk, hG⟩ := hx
    simp only at hk hG
    have hml := missK_len (reachK (trOf cs hs) p hs.length) ks k
    refine hc_seq (hc_region (r_lss rfl rfl rfl (hl_nil (then_n (hc_seq ?_)))))
    refine c_dec rfl (fun hb6 => ?_) (fun hb6 => ?_)
    ·have hb6' := hb6; try simp at hb6'
     have hk2 : k < hs.length := by omega
     have hk3 : k < ps.length := by omega
     have hpk : (ps.getD k default).l = (reachK (trOf cs hs) p hs.length).getD k default := by rw [← hpm, getD_at (l := ps.map (·.l)) (k := k) (by rw [List.length_map]; omega), getD_at (l := ps) (k := k) (by omega), List.getElem_map]
     have hpkl : (ps.getD k default).l.length = hs.length := by rw [hpk, getD_at (by unfold reachK; simp; omega)]; unfold reachK; simp only [List.getElem_map, List.getElem_range]; rw [rdK_len, reach_len h0 hk2]
     refine hc_skip (then_n (hc_seq (hc_block (hc_seq (hc_region (r_move rfl rfl ?_))))))
     refine r_elem (α := Sl Bool) ps k rfl T.u_L_L_bool T.sz_L_bool rfl rfl rfl mB (hpn2.symm) (hk3) (by decide) ?_
     refine r_load (v := .slice (ps.getD k default).a (ps.getD k default).l.length (ps.getD k default).c) rfl T.cell_L_bool rfl (cell_row mB (rows_get0 hk3 rfl)) ?_
     refine hl_pick (F := Row (ps.getD k default).a (rows (ps.getD k default).l)) (Fs := ps.map fun p => Row p.a (rows p.l)) mB (List.mem_map.2 ⟨_, getD_mem hk3, rfl⟩) ?_
     refine r_alloc rfl (fun _ => T.al_L_bool _) fun g13 => ?_
     refine r_assign rfl rfl ?_
     refine r_store rfl rfl (.refl _) T.sz_L_bool rfl rfl ?_
     refine hl_letgo (rows [((ps.getD k default) : Sl Bool)]) (List.prefix_refl _) ?_
     refine hl_nil (then_n (hc_seq (hc_region (r_move rfl rfl (r_makeFunc rfl rfl rfl ?_)))))
     refine hl_call F.slices_ContainsFunc_ints_cb rfl rfl (slices_ContainsFunc_ints_meets (A := S) (cap := [.pointer (some ⟨g13, 0, none⟩)]) (L0 := [Row (some ⟨g13, 0, none⟩) (rows [((ps.getD k default) : Sl Bool)]), Row (ps.getD k default).a (rows (ps.getD k default).l)]) ks (fun x => (ps.getD k default).l.getD x.toNat default) hkl F.bold_Missed_1_cb (fun x hx => by
       have hxv := hkin x hx
       obtain ⟨v, rfl⟩ := Int.eq_ofNat_of_zero_le hxv.1
       rw [Int.toNat_natCast]
       exact bold_Missed_1_meets (ps.getD k default).l v (by omega))) (List.Perm.refl _) ⟨mB, mB, mB, trivial⟩ fun _ _ => ?_
     have hany : (ks.any fun x => (ps.getD k default).l.getD x.toNat default) = missB (reachK (trOf cs hs) p hs.length) ks k := by unfold missB; rw [hpk]
     rw [hany]
     refine r_not rfl rfl (hl_nil (then_n ?_))
     refine hc_cond rfl (fun hb7 => ?_) (fun hb7 => ?_)
     ·have hb7' := hb7; try simp at hb7'
      have hmb : ¬ missB (reachK (trOf cs hs) p hs.length) ks k = true := by simpa using hb7
      have hms : (missK (reachK (trOf cs hs) p hs.length) ks (k + 1)) = (missK (reachK (trOf cs hs) p hs.length) ks k) ++ [(k : Int)] := by rw [missK_succ, if_neg hmb]
      refine hc_region (r_move rfl rfl (r_move rfl rfl ?_))
      refine r_buildSlice _ rfl rfl (fun _ => T.bs_ints_1 ..) fun gS => ?_
      refine hl_letgo (rows [(k : Int)]) (List.prefix_refl _) ?_
      refine r_append (hp' := []) ((missK (reachK (trOf cs hs) p hs.length) ks k).length + 1) (rows ((missK (reachK (trOf cs hs) p hs.length) ks k) ++ [(k : Int)])) T.el_ints rfl rfl rfl hG (show List.Perm og (og ++ []) from by rw [List.append_nil]) (Src.row (news := rows [(k : Int)]) (m := 1) mB rfl (rows_one _) (by decide)) rfl (rows_append _ _).symm (by unfold maxLen; omega) (by omega) fun A' c' og' hG' => ?_
      refine r_assign rfl rfl (hl_nil (inb_n (then_n (hc_region ?_))))
      refine r_add _ rfl rfl rfl rfl (by unfold I64; omega) ?_
      refine r_move rfl rfl (hl_nil ?_)
      have hms2 : (missK (reachK (trOf cs hs) p hs.length) ks (k + 1)).length = (missK (reachK (trOf cs hs) p hs.length) ks k).length + 1 := by rw [hms, List.length_append]; rfl
      refine hq_perm (hp' := og') (show List.Perm (og' ++ []) og' from by rw [List.append_nil]) ?_
      exact again _ (k + 1, (A', c'), og') ⟨by show k + 1 ≤ hs.length; omega, by show Grow _ _ _ (missK (reachK (trOf cs hs) p hs.length) ks (k + 1)).length _ (rows (missK (reachK (trOf cs hs) p hs.length) ks (k + 1))) _; rw [hms2, hms]; exact hG'⟩ (by show hs.length - (k + 1) < hs.length - k; omega) ⟨rfl, rfl, rfl, congrArg (fun n => some (Value.slice A' n c')) hms2.symm, rfl, rfl, rfl, trivial⟩ (.refl _) ⟨mB, mB, mB, mB, mB, mB, trivial⟩
     ·have hb7' := hb7; try simp at hb7'
      have hmb : missB (reachK (trOf cs hs) p hs.length) ks k = true := by simpa using hb7
      have hms : (missK (reachK (trOf cs hs) p hs.length) ks (k + 1)) = (missK (reachK (trOf cs hs) p hs.length) ks k) := by rw [missK_succ, if_pos hmb]
      refine hc_skip (inb_n (then_n (hc_region ?_)))
      refine r_add _ rfl rfl rfl rfl (by unfold I64; omega) ?_
      refine r_move rfl rfl (hl_nil ?_)
      exact again _ (k + 1, (na, nc), og) ⟨by show k + 1 ≤ hs.length; omega, by show Grow _ _ _ (missK (reachK (trOf cs hs) p hs.length) ks (k + 1)).length _ (rows (missK (reachK (trOf cs hs) p hs.length) ks (k + 1))) _; rw [hms]; exact hG⟩ (by show hs.length - (k + 1) < hs.length - k; omega) ⟨rfl, rfl, rfl, congrArg (fun l : List Int => some (Value.slice na l.length nc)) hms.symm, rfl, rfl, rfl, trivial⟩ (.refl _) ⟨mB, mB, mB, mB, mB, mB, trivial⟩
    ·have hb6' := hb6; try simp at hb6'
     obtain rfl : k = hs.length := by omega
     refine hc_exit (then_exit (then_exit (inb_hit (then_n (hc_seq (hc_region (r_move rfl rfl (r_assign rfl rfl (r_assign rfl rfl (hl_nil (then_n ?_)))))))))))
     refine hc_ret ?_
     have hE : (missE cs hs ks p) = ((missK (reachK (trOf cs hs) p hs.length) ks hs.length), 0) := by rw [missE, if_neg (Classical.not_not.2 h0), if_neg (Classical.not_not.2 hpe), if_neg (Classical.not_not.2 h5)]
     refine hq_grown0 hG ?_
     exact ret2 (na, nc) rfl rfl rfl (by show Value.tuple #[.slice na (missE cs hs ks p).1.length nc, int (missE cs hs ks p).2] = _; rw [hE]) rfl (by show (missE cs hs ks p).1.length ≤ nc; rw [hE]; exact hG.le) (List.nil_sublist _) (by show LSub _ [Row na (rows (missE cs hs ks p).1)]; rw [hE]; exact ⟨mB, trivial⟩)
end Go.Proofs.Ytdlbbfcfahahdaa
end
section
namespace Go.Proofs.Ytdlbbfcfahahdaa
open Go Go.W
set_option maxRecDepth 20000
attribute [local irreducible] HL HC HQ HB Row Rows2 Blk Facts
def xl : Option Hn → List Int
  | none => []
  | some b => b.1
def xp : Option Hn → Int
  | none => -1
  | some b => b.2.2
def BestO (o : Hn → Hn → Int) (S : Hn → Prop) (st : Option Hn) : Prop := (st = none ∧ ∀ x, ¬ S x) ∨ ∃ b, st = some b ∧ BestIs o S b
def PrS (hs : List Hd) (rs : List (List Bool)) (pr ws : List Int) (m i : Nat) (x : Hn) : Prop := ∃ c : List Int, c.Sublist (upI 0 hs.length) ∧ (c.length < m ∨ ∃ j, j < i ∧ c = (combos m (upI 0 hs.length)).getD j default) ∧ fndOK hs rs ws c = true ∧ x = fndH pr c
section
variable {hs : List Hd} {rs : List (List Bool)} {pr ws : List Int} {m i : Nat} {st : Option Hn}
end
end Go.Proofs.Ytdlbbfcfahahdaa
end
section
namespace Go.Proofs.Ytdlbbfcfahahdaa
open Go Go.W
set_option maxRecDepth 20000
attribute [local irreducible] HL HC HQ HB Row Rows2 Blk Facts
-- a dice's number, exactly
def xrQ (a b : Int) : Int := IntKind.u64.wrap ((BitVec.ofInt IntKind.u64.bits a ^^^ BitVec.ofInt IntKind.u64.bits b).toNat : Int)
def slQ (a k : Int) : Int := IntKind.u64.wrap (a * 2 ^ min (Int.toNat k) IntKind.u64.bits)
def srQ (a k : Int) : Int := a.fdiv (2 ^ min (Int.toNat k) IntKind.u64.bits)
def mixA (q : Int) : Int := xrQ q (slQ q 13)
def mixB (q : Int) : Int := xrQ (mixA q) (srQ (mixA q) 7)
def mixQ (q : Int) : Int := xrQ (mixB q) (slQ (mixB q) 17)
def rawS (nums : List Int) (s : Int × Int) : Int × Int := if s.1 < (nums.length : Int) then (s.1 + 1, IntKind.u64.wrap (mixQ s.2 + IntKind.u64.wrap (IntKind.u64.wrap (nums.getD s.1.toNat default) * 13787848793156543929))) else (s.1, mixQ s.2)
def outA (q : Int) : Int := IntKind.u64.wrap (xrQ q (srQ q 30) * 10723151780598845931)
def outQ (q : Int) : Int := xrQ (outA q) (srQ (outA q) 31)
def rawQ (nums : List Int) (s : Int × Int) : Int := outQ (rawS nums s).2
theorem rawQ_bd (nums : List Int) (s : Int × Int) : 0 ≤ rawQ nums s ∧ rawQ nums s < 18446744073709551616 := wrapU _
theorem kit_Dice_raw_is {g : Nat} {A : Option Addr} {c : Nat} {nums : List Int} {s : Int × Int} (hn : nums.length ≤ 9223372036854775807) (hs : DOK nums s) :
    Meets Try.prog F.kit_Dice_raw [.pointer (some ⟨g, 0, none⟩)] { hpI := [dice g A c nums s], LI := [Row A (rows nums)], val := fun _ : Unit => .int .u64 (rawQ nums s), hpO := fun _ => [dice g A c nums (rawS nums s)] } := by
 obtain ⟨p, q⟩ := s
 obtain ⟨h1, h2, h3, h4⟩ := hs
 simp only at h1 h2 h3 h4
 obtain ⟨pn, rfl⟩ := Int.eq_ofNat_of_zero_le h1
 refine meets_intro F.kit_Dice_raw_f rfl (Nat.le_of_ble_eq_true rfl) fun w0 => ?_
 refine hc_seq (hc_region (r_assign rfl rfl (hl_nil (then_n (hc_seq ?_)))))
 refine hc_draw 11 mixed (by decide) (by decide) rfl rfl ?_
 refine hb_ex _ rfl rfl rfl (fun w1 => r_move rfl rfl (hl_nil (qe_done rfl))) ?_
 refine hb_ex _ rfl rfl rfl (fun w1 => r_move rfl rfl (hl_nil (qe_done rfl))) ?_
 refine hb_ex _ rfl rfl rfl (fun w1 => r_nilCheck rfl rfl (hl_nil (qe_done rfl))) ?_
 refine hb_ex _ rfl rfl rfl (fun w1 => r_fieldAddr ⟨_, 2, none⟩ rfl rfl T.fa_wayzgoosekit_Dice_2 rfl (hl_nil (qe_done rfl))) ?_
 refine hb_ex _ rfl rfl rfl (fun w1 => r_load rfl T.cell_u64 rfl (cell_blk mB rfl) (hl_nil (qe_done rfl))) ?_
 refine hb_ex _ rfl rfl rfl (fun w1 => r_move rfl rfl (hl_nil (qe_done rfl))) ?_
 refine hb_ex _ rfl rfl rfl (fun w1 => r_nilCheck rfl rfl (hl_nil (qe_done rfl))) ?_
 refine hb_ex _ rfl rfl rfl (fun w1 => r_fieldAddr ⟨_, 2, none⟩ rfl rfl T.fa_wayzgoosekit_Dice_2 rfl (hl_nil (qe_done rfl))) ?_
 refine hb_ex _ rfl rfl rfl (fun w1 => r_load rfl T.cell_u64 rfl (cell_blk mB rfl) (hl_nil (qe_done rfl))) ?_
 refine hb_ex _ rfl rfl rfl (fun w1 => r_bin _ rfl rfl rfl (fun _ => rfl) (fun _ => rfl) (hl_nil (qe_done rfl))) ?_
 refine hb_ex _ rfl rfl rfl (fun w1 => r_bin _ rfl rfl rfl (fun _ => rfl) (fun _ => rfl) (hl_nil (qe_done rfl))) ?_
 refine hb_nil ⟨rfl, ?_⟩
 refine r_nilCheck rfl rfl ?_
 refine r_fieldAddr ⟨_, 2, none⟩ rfl rfl T.fa_wayzgoosekit_Dice_2 rfl ?_
 refine r_store rfl rfl (by first | exact .refl _ | exact perm2 _ _ _ | exact perm3 _ _ _ _ | exact perm4 _ _ _ _ _) T.sz_u64 (by rfl) (by rfl) ?_
 refine hl_nil (then_n (hc_seq ?_))
 refine hc_draw 11 mixed (by decide) (by decide) rfl rfl ?_
 refine hb_ex _ rfl rfl rfl (fun w1 => r_move rfl rfl (hl_nil (qe_done rfl))) ?_
 refine hb_ex _ rfl rfl rfl (fun w1 => r_move rfl rfl (hl_nil (qe_done rfl))) ?_
 refine hb_ex _ rfl rfl rfl (fun w1 => r_nilCheck rfl rfl (hl_nil (qe_done rfl))) ?_
 refine hb_ex _ rfl rfl rfl (fun w1 => r_fieldAddr ⟨_, 2, none⟩ rfl rfl T.fa_wayzgoosekit_Dice_2 rfl (hl_nil (qe_done rfl))) ?_
 refine hb_ex _ rfl rfl rfl (fun w1 => r_load rfl T.cell_u64 rfl (cell_blk mB rfl) (hl_nil (qe_done rfl))) ?_
 refine hb_ex _ rfl rfl rfl (fun w1 => r_move rfl rfl (hl_nil (qe_done rfl))) ?_
 refine hb_ex _ rfl rfl rfl (fun w1 => r_nilCheck rfl rfl (hl_nil (qe_done rfl))) ?_
 refine hb_ex _ rfl rfl rfl (fun w1 => r_fieldAddr ⟨_, 2, none⟩ rfl rfl T.fa_wayzgoosekit_Dice_2 rfl (hl_nil (qe_done rfl))) ?_
 refine hb_ex _ rfl rfl rfl (fun w1 => r_load rfl T.cell_u64 rfl (cell_blk mB rfl) (hl_nil (qe_done rfl))) ?_
 refine hb_ex _ rfl rfl rfl (fun w1 => r_bin _ rfl rfl rfl (fun _ => rfl) (fun _ => rfl) (hl_nil (qe_done rfl))) ?_
 refine hb_ex _ rfl rfl rfl (fun w1 => r_bin _ rfl rfl rfl (fun _ => rfl) (fun _ => rfl) (hl_nil (qe_done rfl))) ?_
 refine hb_nil ⟨rfl, ?_⟩
 refine r_nilCheck rfl rfl ?_
 refine r_fieldAddr ⟨_, 2, none⟩ rfl rfl T.fa_wayzgoosekit_Dice_2 rfl ?_
 refine r_store rfl rfl (by first | exact .refl _ | exact perm2 _ _ _ | exact perm3 _ _ _ _ | exact perm4 _ _ _ _ _) T.sz_u64 (by rfl) (by rfl) ?_
 refine hl_nil (then_n (hc_seq ?_))
 refine hc_draw 11 mixed (by decide) (by decide) rfl rfl ?_
 refine hb_ex _ rfl rfl rfl (fun w1 => r_move rfl rfl (hl_nil (qe_done rfl))) ?_
 refine hb_ex _ rfl rfl rfl (fun w1 => r_move rfl rfl (hl_nil (qe_done rfl))) ?_
 refine hb_ex _ rfl rfl rfl (fun w1 => r_nilCheck rfl rfl (hl_nil (qe_done rfl))) ?_
 refine hb_ex _ rfl rfl rfl (fun w1 => r_fieldAddr ⟨_, 2, none⟩ rfl rfl T.fa_wayzgoosekit_Dice_2 rfl (hl_nil (qe_done rfl))) ?_
 refine hb_ex _ rfl rfl rfl (fun w1 => r_load rfl T.cell_u64 rfl (cell_blk mB rfl) (hl_nil (qe_done rfl))) ?_
 refine hb_ex _ rfl rfl rfl (fun w1 => r_move rfl rfl (hl_nil (qe_done rfl))) ?_
 refine hb_ex _ rfl rfl rfl (fun w1 => r_nilCheck rfl rfl (hl_nil (qe_done rfl))) ?_
 refine hb_ex _ rfl rfl rfl (fun w1 => r_fieldAddr ⟨_, 2, none⟩ rfl rfl T.fa_wayzgoosekit_Dice_2 rfl (hl_nil (qe_done rfl))) ?_
 refine hb_ex _ rfl rfl rfl (fun w1 => r_load rfl T.cell_u64 rfl (cell_blk mB rfl) (hl_nil (qe_done rfl))) ?_
 refine hb_ex _ rfl rfl rfl (fun w1 => r_bin _ rfl rfl rfl (fun _ => rfl) (fun _ => rfl) (hl_nil (qe_done rfl))) ?_
 refine hb_ex _ rfl rfl rfl (fun w1 => r_bin _ rfl rfl rfl (fun _ => rfl) (fun _ => rfl) (hl_nil (qe_done rfl))) ?_
 refine hb_nil ⟨rfl, ?_⟩
 refine r_nilCheck rfl rfl ?_
 refine r_fieldAddr ⟨_, 2, none⟩ rfl rfl T.fa_wayzgoosekit_Dice_2 rfl ?_
 refine r_store rfl rfl (by first | exact .refl _ | exact perm2 _ _ _ | exact perm3 _ _ _ _ | exact perm4 _ _ _ _ _) T.sz_u64 (by rfl) (by rfl) ?_
 refine hl_nil (then_n (hc_seq (hc_seq ?_)))
 refine hc_draw 9 mixed (by decide) (by decide) rfl rfl ?_
 refine hb_ex _ rfl rfl rfl (fun w1 => r_move rfl rfl (hl_nil (qe_done rfl))) ?_
 refine hb_ex _ rfl rfl rfl (fun w1 => r_nilCheck rfl rfl (hl_nil (qe_done rfl))) ?_
 refine hb_ex _ rfl rfl rfl (fun w1 => r_fieldAddr ⟨_, 1, none⟩ rfl rfl T.fa_wayzgoosekit_Dice_1 rfl (hl_nil (qe_done rfl))) ?_
 refine hb_ex _ rfl rfl rfl (fun w1 => r_load rfl T.cell_int rfl (cell_blk mB rfl) (hl_nil (qe_done rfl))) ?_
 refine hb_ex _ rfl rfl rfl (fun w1 => r_move rfl rfl (hl_nil (qe_done rfl))) ?_
 refine hb_ex _ rfl rfl rfl (fun w1 => r_nilCheck rfl rfl (hl_nil (qe_done rfl))) ?_
 refine hb_ex _ rfl rfl rfl (fun w1 => r_fieldAddr ⟨_, 0, none⟩ rfl rfl T.fa_wayzgoosekit_Dice_0 rfl (hl_nil (qe_done rfl))) ?_
 refine hb_ex _ rfl rfl rfl (fun w1 => r_load rfl T.cell_ints rfl (cell_blk mB rfl) (hl_nil (qe_done rfl))) ?_
 refine hb_ex _ rfl rfl rfl (fun w1 => r_len_sl rfl T.u_ints rfl (hl_nil (qe_done rfl))) ?_
 refine hb_nil ⟨rfl, ?_⟩
 refine r_lss rfl rfl rfl (hl_nil (then_n ?_))
 refine c_dec rfl (fun hb1 => ?_) (fun hb1 => ?_)
 ·have hb1' := hb1; try simp at hb1'
  have hpn : pn < nums.length := by omega
  refine hc_seq ?_
  refine hc_draw 18 mixed (by decide) (by decide) rfl rfl ?_
  refine hb_ex _ rfl rfl rfl (fun w1 => r_move rfl rfl (hl_nil (qe_done rfl))) ?_
  refine hb_ex _ rfl rfl rfl (fun w1 => r_move rfl rfl (hl_nil (qe_done rfl))) ?_
  refine hb_ex _ rfl rfl rfl (fun w1 => r_nilCheck rfl rfl (hl_nil (qe_done rfl))) ?_
  refine hb_ex _ rfl rfl rfl (fun w1 => r_fieldAddr ⟨_, 2, none⟩ rfl rfl T.fa_wayzgoosekit_Dice_2 rfl (hl_nil (qe_done rfl))) ?_
  refine hb_ex _ rfl rfl rfl (fun w1 => r_load rfl T.cell_u64 rfl (cell_blk mB rfl) (hl_nil (qe_done rfl))) ?_
  refine hb_ex _ rfl rfl rfl (fun w1 => r_move rfl rfl (hl_nil (qe_done rfl))) ?_
  refine hb_ex _ rfl rfl rfl (fun w1 => r_nilCheck rfl rfl (hl_nil (qe_done rfl))) ?_
  refine hb_ex _ rfl rfl rfl (fun w1 => r_fieldAddr ⟨_, 0, none⟩ rfl rfl T.fa_wayzgoosekit_Dice_0 rfl (hl_nil (qe_done rfl))) ?_
  refine hb_ex _ rfl rfl rfl (fun w1 => r_load rfl T.cell_ints rfl (cell_blk mB rfl) (hl_nil (qe_done rfl))) ?_
  refine hb_ex _ rfl rfl rfl (fun w1 => r_move rfl rfl (hl_nil (qe_done rfl))) ?_
  refine hb_ex _ rfl rfl rfl (fun w1 => r_nilCheck rfl rfl (hl_nil (qe_done rfl))) ?_
  refine hb_ex _ rfl rfl rfl (fun w1 => r_fieldAddr ⟨_, 1, none⟩ rfl rfl T.fa_wayzgoosekit_Dice_1 rfl (hl_nil (qe_done rfl))) ?_
  refine hb_ex _ rfl rfl rfl (fun w1 => r_load rfl T.cell_int rfl (cell_blk mB rfl) (hl_nil (qe_done rfl))) ?_
  refine hb_ex _ rfl rfl rfl (fun w1 => r_elem (α := Int) nums pn rfl T.u_ints T.sz_int rfl rfl rfl m1 rfl hpn (by decide) (hl_nil (qe_done rfl))) ?_
  refine hb_ex _ rfl rfl rfl (fun w1 => r_load (v := int (nums.getD pn default)) rfl T.cell_int rfl (cell_row mB (rows_get0 hpn rfl)) (hl_nil (qe_done rfl))) ?_
  refine hb_ex _ rfl rfl rfl (fun w1 => r_conv _ rfl T.u_int T.u_u64 rfl rfl (hl_nil (qe_done rfl))) ?_
  refine hb_ex _ rfl rfl rfl (fun w1 => r_bin _ rfl rfl rfl (fun _ => rfl) (fun _ => rfl) (hl_nil (qe_done rfl))) ?_
  refine hb_ex _ rfl rfl rfl (fun w1 => r_bin _ rfl rfl rfl (fun _ => rfl) (fun _ => rfl) (hl_nil (qe_done rfl))) ?_
  refine hb_nil ⟨rfl, ?_⟩
  refine r_nilCheck rfl rfl ?_
  refine r_fieldAddr ⟨_, 2, none⟩ rfl rfl T.fa_wayzgoosekit_Dice_2 rfl ?_
  refine r_store rfl rfl (by first | exact .refl _ | exact perm2 _ _ _ | exact perm3 _ _ _ _ | exact perm4 _ _ _ _ _) T.sz_u64 (by rfl) (by rfl) ?_
  refine hl_nil (then_n (hc_region (r_move rfl rfl (r_nilCheck rfl rfl ?_))))
  refine r_fieldAddr ⟨_, 1, none⟩ rfl rfl T.fa_wayzgoosekit_Dice_1 rfl ?_
  refine r_load rfl T.cell_int rfl (cell_own mB rfl) ?_
  refine r_add _ rfl rfl rfl rfl (by unfold I64; omega) ?_
  refine r_nilCheck rfl rfl ?_
  refine r_fieldAddr ⟨_, 1, none⟩ rfl rfl T.fa_wayzgoosekit_Dice_1 rfl ?_
  refine r_store rfl rfl (by first | exact .refl _ | exact perm2 _ _ _ | exact perm3 _ _ _ _ | exact perm4 _ _ _ _ _) T.sz_int (by rfl) (by rfl) ?_
  refine hl_nil (then_n (hc_seq (hc_region (r_move rfl rfl (r_nilCheck rfl rfl ?_)))))
  refine r_fieldAddr ⟨_, 2, none⟩ rfl rfl T.fa_wayzgoosekit_Dice_2 rfl ?_
  refine r_load rfl T.cell_u64 rfl (cell_own mB rfl) ?_
  refine r_assign rfl rfl (hl_nil (then_n (hc_seq (hc_region (r_move rfl rfl (r_move rfl rfl ?_))))))
  refine r_bin _ rfl rfl rfl (fun _ => rfl) (fun _ => rfl) ?_
  refine r_bin _ rfl rfl rfl (fun _ => rfl) (fun _ => rfl) ?_
  refine r_bin _ rfl rfl rfl (fun _ => rfl) (fun _ => rfl) ?_
  refine r_assign rfl rfl (hl_nil (then_n (hc_seq (hc_region (r_move rfl rfl (r_move rfl rfl ?_))))))
  refine r_bin _ rfl rfl rfl (fun _ => rfl) (fun _ => rfl) ?_
  refine r_bin _ rfl rfl rfl (fun _ => rfl) (fun _ => rfl) ?_
  refine r_assign rfl rfl (hl_nil (then_n (hc_ret ?_)))
  have e : rawS nums ((pn : Int), q) = ((pn : Int) + 1, IntKind.u64.wrap (mixQ q + IntKind.u64.wrap (IntKind.u64.wrap (nums.getD pn default) * 13787848793156543929))) := by rw [rawS, if_pos (by simp only; omega)]; rfl
  exact ret1 () rfl (by show some (Value.int .u64 _) = some (Value.int .u64 (outQ (rawS nums ((pn : Int), q)).2)); rw [e]; rfl) rfl trivial (by show List.Sublist [dice g A c nums (rawS nums ((pn : Int), q))] _; rw [e]; exact .refl _) trivial
 ·have hb1' := hb1; try simp at hb1'
  have hpn : ¬ (pn : Int) < (nums.length : Int) := by omega
  refine hc_skip (then_n (hc_seq (hc_region (r_move rfl rfl (r_nilCheck rfl rfl ?_)))))
  refine r_fieldAddr ⟨_, 2, none⟩ rfl rfl T.fa_wayzgoosekit_Dice_2 rfl ?_
  refine r_load rfl T.cell_u64 rfl (cell_own mB rfl) ?_
  refine r_assign rfl rfl (hl_nil (then_n (hc_seq (hc_region (r_move rfl rfl (r_move rfl rfl ?_))))))
  refine r_bin _ rfl rfl rfl (fun _ => rfl) (fun _ => rfl) ?_
  refine r_bin _ rfl rfl rfl (fun _ => rfl) (fun _ => rfl) ?_
  refine r_bin _ rfl rfl rfl (fun _ => rfl) (fun _ => rfl) ?_
  refine r_assign rfl rfl (hl_nil (then_n (hc_seq (hc_region (r_move rfl rfl (r_move rfl rfl ?_))))))
  refine r_bin _ rfl rfl rfl (fun _ => rfl) (fun _ => rfl) ?_
  refine r_bin _ rfl rfl rfl (fun _ => rfl) (fun _ => rfl) ?_
  refine r_assign rfl rfl (hl_nil (then_n (hc_ret ?_)))
  have e : rawS nums ((pn : Int), q) = ((pn : Int), mixQ q) := by rw [rawS, if_neg hpn]
  exact ret1 () rfl (by show some (Value.int .u64 _) = some (Value.int .u64 (outQ (rawS nums ((pn : Int), q)).2)); rw [e]; rfl) rfl trivial (by show List.Sublist [dice g A c nums (rawS nums ((pn : Int), q))] _; rw [e]; exact .refl _) trivial
def toQ (nums : List Int) (s : Int × Int) (n : Int) : Int := if n < 1 then 0 else ((rawQ nums s).fdiv (2 ^ min (Int.toNat 16) IntKind.u64.bits)).tmod (n + 1)
def toS (nums : List Int) (s : Int × Int) (n : Int) : Int × Int := if n < 1 then s else rawS nums s
theorem toQ_bd {nums : List Int} {s : Int × Int} {n : Int} (hn : 0 ≤ n) : 0 ≤ toQ nums s n ∧ toQ nums s n ≤ n := by
  unfold toQ
  split
  · omega
  · exact mod_range (Int.fdiv_nonneg (rawQ_bd nums s).1 (by decide)) hn
theorem kit_Dice_To_is {g : Nat} {A : Option Addr} {c : Nat} {nums : List Int} {s : Int × Int} (n : Int) (hn : nums.length ≤ 9223372036854775807) (hs : DOK nums s) (hI : 0 ≤ n ∧ n ≤ 9223372036854775806) :
    Meets Try.prog F.kit_Dice_To [.pointer (some ⟨g, 0, none⟩), int n] { hpI := [dice g A c nums s], LI := [Row A (rows nums)], val := fun _ : Unit => int (toQ nums s n), hpO := fun _ => [dice g A c nums (toS nums s n)] } := by
 refine meets_intro F.kit_Dice_To_f rfl (Nat.le_of_ble_eq_true rfl) fun w0 => ?_
 refine hc_seq (hc_region (r_assign rfl rfl (hl_nil (then_n (hc_seq (hc_seq (hc_region (r_move rfl rfl (r_lss rfl rfl rfl (hl_nil (then_n ?_)))))))))))
 refine c_dec rfl (fun hb1 => ?_) (fun hb1 => ?_)
 ·have hb1' := hb1; try simp at hb1'
  refine hc_seq (hc_region (r_assign rfl rfl (hl_nil (then_n (hc_ret (then_ret ?_))))))
  exact ret1 () rfl (by show some (int 0) = some (int (toQ nums s n)); rw [toQ, if_pos hb1]) rfl trivial (by show List.Sublist [dice g A c nums (toS nums s n)] _; rw [toS, if_pos hb1]; exact .refl _) trivial
 ·have hb1' := hb1; try simp at hb1'
  refine hc_skip (then_n (hc_seq (hc_region (r_move rfl rfl ?_))))
  refine hl_call F.kit_Dice_raw_cb rfl rfl (kit_Dice_raw_is hn hs) (.refl _) ⟨m0, trivial⟩ fun _ _ => ?_
  have hz := rawQ_bd nums s
  refine r_bin _ rfl rfl rfl (fun _ => rfl) (fun _ => rfl) ?_
  refine r_move rfl rfl ?_
  refine r_add _ rfl rfl rfl rfl (by unfold I64; omega) ?_
  refine r_conv (n + 1) rfl T.u_int T.u_u64 rfl (IntWalk.u64_in _ (by omega)) ?_
  refine r_rem rfl rfl rfl (by omega) ?_
  have hm := mod_range (z := (rawQ nums s).fdiv (2 ^ min (Int.toNat 16) IntKind.u64.bits)) (n := n) (Int.fdiv_nonneg hz.1 (by decide)) (by omega)
  refine r_conv (((rawQ nums s).fdiv (2 ^ min (Int.toNat 16) IntKind.u64.bits)).tmod (n + 1)) rfl T.u_u64 T.u_int rfl (IntWalk.i64_in (((rawQ nums s).fdiv (2 ^ min (Int.toNat 16) IntKind.u64.bits)).tmod (n + 1)) (by omega)) ?_
  refine r_assign rfl rfl (hl_nil (then_n (hc_ret ?_)))
  exact ret1 () rfl (by show some (int _) = some (int (toQ nums s n)); rw [toQ, if_neg hb1]) rfl trivial (by show List.Sublist [dice g A c nums (toS nums s n)] _; rw [toS, if_neg hb1]; exact .refl _) trivial
theorem found_cases {cs : List Cl} {hs : List Hd} {pr ws : List Int} {p : Int} (h0 : checkT (trOf cs hs) = 0) (hl : pr.length = hs.length) (hp : ∀ x ∈ pr, prB x) (hw : ∀ w ∈ ws, 0 ≤ w ∧ w < (hs.length : Int)) (h6 : 0 ≤ p ∧ p ≤ 6) :
    (foundE cs hs pr ws p = ([], 0, 11) ∧ ∀ x, ¬ FoundS hs (reachK (trOf cs hs) p hs.length) pr ws x) ∨ ∃ b, foundE cs hs pr ws p = (b.1, b.2.2, 0) ∧ BestIs ordP (FoundS hs (reachK (trOf cs hs) p hs.length) pr ws) b := by
  rw [found_ok h0 hl hp hw h6]
  rcases fndB_is (t := trOf cs hs) (hs := hs) (pr := pr) (ws := ws) (p := p) with ⟨h1, h2⟩ | ⟨h1, h2⟩
  · exact .inl ⟨if_pos h1, h2⟩
  · exact .inr ⟨_, if_neg (by rw [h1]; decide), h2⟩
theorem found_more {hs : List Hd} {rs : List (List Bool)} {pr ws : List Int} {v : Int} {x : Hn} (h : FoundS hs rs pr (ws ++ [v]) x) : FoundS hs rs pr ws x := by
  obtain ⟨c, h1, h2, h3⟩ := h
  refine ⟨c, h1, ?_, h3⟩
  unfold fndOK at *
  rw [Bool.and_eq_true] at *
  exact ⟨h2.1, List.all_eq_true.2 fun w hw => List.all_eq_true.1 h2.2 w (List.mem_append_left _ hw)⟩
theorem found_step {cs : List Cl} {hs : List Hd} {pr ws : List Int} {p : Int} {x : Hn} (h0 : checkT (trOf cs hs) = 0) (hw : ∀ w ∈ ws, 0 ≤ w ∧ w < (hs.length : Int)) (h : FoundS hs (reachK (trOf cs hs) p hs.length) pr ws x) : FoundS hs (reachK (trOf cs hs) (p + 1) hs.length) pr ws x := by
  obtain ⟨c, h1, h2, h3⟩ := h
  have hc : ∀ k ∈ c, 0 ≤ k ∧ k < (hs.length : Int) := fun k hk => by have := upI_mem (h1.subset hk); omega
  refine ⟨c, h1, ?_, h3⟩
  rw [found_eq h0 hw hc] at h2 ⊢
  rw [Bool.and_eq_true] at *
  refine ⟨h2.1, List.all_eq_true.2 fun w hw2 => ?_⟩
  obtain ⟨k, hk, h4⟩ := List.any_eq_true.1 (List.all_eq_true.1 h2.2 w hw2)
  refine List.any_eq_true.2 ⟨k, hk, ?_⟩
  have h5 := of_decide_eq_true h4
  exact decide_eq_true ⟨h5.1, by omega⟩
theorem best_price {S S' : Hn → Prop} {b b' : Hn} (h : BestIs ordP S b) (h' : BestIs ordP S' b') (hS : ∀ x, S' x → S x) : b.2.2 ≤ b'.2.2 := by
  have := h.2 _ (hS _ h'.1)
  rw [ordP_lt] at this
  omega
structure Want (cs : List Cl) (hs : List Hd) (pr ws : List Int) (p v : Int) : Prop where
  a : (foundE cs hs pr ws p).2.2 = 0 ∨ (foundE cs hs pr ws p).2.2 = 11
  b : (foundE cs hs pr (ws ++ [v]) p).2.2 = 0 ∨ (foundE cs hs pr (ws ++ [v]) p).2.2 = 11
  c : (foundE cs hs pr ws (p + 1)).2.2 = 0 ∨ (foundE cs hs pr ws (p + 1)).2.2 = 11
  ab : (foundE cs hs pr ws p).2.2 = 11 → (foundE cs hs pr (ws ++ [v]) p).2.2 = 11
  q : (foundE cs hs pr ws p).2.2 = 0 → (foundE cs hs pr (ws ++ [v]) p).2.2 = 0 → (foundE cs hs pr ws p).2.1 ≤ (foundE cs hs pr (ws ++ [v]) p).2.1
  ac : (foundE cs hs pr ws p).2.2 = 0 → (foundE cs hs pr ws (p + 1)).2.2 = 0 ∧ (foundE cs hs pr ws (p + 1)).2.1 ≤ (foundE cs hs pr ws p).2.1
theorem want_is {cs : List Cl} {hs : List Hd} {pr ws : List Int} {p v : Int} (h0 : checkT (trOf cs hs) = 0) (hl : pr.length = hs.length) (hp : ∀ x ∈ pr, prB x) (hw : ∀ w ∈ ws, 0 ≤ w ∧ w < (hs.length : Int)) (hv : 0 ≤ v ∧ v < (hs.length : Int)) (h6 : 0 ≤ p ∧ p + 1 ≤ 6) : Want cs hs pr ws p v := by
  have hw2 : ∀ w ∈ ws ++ [v], 0 ≤ w ∧ w < (hs.length : Int) := forall_snoc hw hv
  rcases found_cases (p := p) h0 hl hp hw (by omega) with ⟨a1, a2⟩ | ⟨b1, a1, a2⟩ <;> rcases found_cases (p := p) h0 hl hp hw2 (by omega) with ⟨c1, c2⟩ | ⟨b2, c1, c2⟩ <;> rcases found_cases (p := p + 1) h0 hl hp hw (by omega) with ⟨d1, d2⟩ | ⟨b3, d1, d2⟩
  · exact ⟨by rw [a1]; exact .inr rfl, by rw [c1]; exact .inr rfl, by rw [d1]; exact .inr rfl, fun _ => by rw [c1], fun e => by (rw [a1] at e; cases e), fun e => by (rw [a1] at e; cases e)⟩
  · exact ⟨by rw [a1]; exact .inr rfl, by rw [c1]; exact .inr rfl, by rw [d1]; exact .inl rfl, fun _ => by rw [c1], fun e => by (rw [a1] at e; cases e), fun e => by (rw [a1] at e; cases e)⟩
  · exact absurd (found_more c2.1) (a2 _)
  · exact absurd (found_more c2.1) (a2 _)
  · exact absurd (found_step h0 hw a2.1) (d2 _)
  · exact ⟨by rw [a1]; exact .inl rfl, by rw [c1]; exact .inr rfl, by rw [d1]; exact .inl rfl, fun _ => by rw [c1], fun _ e => by (rw [c1] at e; cases e), fun _ => by rw [d1, a1]; exact ⟨rfl, best_price d2 a2 fun x => found_step h0 hw⟩⟩
  · exact absurd (found_step h0 hw a2.1) (d2 _)
  · exact ⟨by rw [a1]; exact .inl rfl, by rw [c1]; exact .inl rfl, by rw [d1]; exact .inl rfl, fun e => by (rw [a1] at e; cases e), fun _ _ => by rw [a1, c1]; exact best_price a2 c2 fun x => found_more, fun _ => by rw [d1, a1]; exact ⟨rfl, best_price d2 a2 fun x => found_step h0 hw⟩⟩
theorem heads_is {cs : List Cl} {hs : List Hd} {pr ws : List Int} {p : Int} (h0 : checkT (trOf cs hs) = 0) (hl : pr.length = hs.length) (hp : ∀ x ∈ pr, prB x) (hw : ∀ w ∈ ws, 0 ≤ w ∧ w < (hs.length : Int)) (h6 : 0 ≤ p ∧ p ≤ 6) (he : (foundE cs hs pr ws p).2.2 = 0) :
    (∀ v ∈ (foundE cs hs pr ws p).1, (0 ≤ v ∧ v < (hs.length : Int)) ∧ 0 ≤ (hs.getD v.toNat default).2.1) ∧ (∀ w ∈ ws, missB (reachK (trOf cs hs) p hs.length) (foundE cs hs pr ws p).1 w.toNat = true) := by
  rcases found_cases (p := p) h0 hl hp hw h6 with ⟨a1, a2⟩ | ⟨b1, a1, a2⟩
  · rw [a1] at he; cases he
  · rw [a1]
    obtain ⟨c, h1, h2, rfl⟩ := a2.1
    unfold fndOK at h2
    rw [Bool.and_eq_true] at h2
    refine ⟨fun v hv => ⟨by have := upI_mem (h1.subset hv); omega, of_decide_eq_true (List.all_eq_true.1 h2.1 v hv)⟩, fun w hw => List.all_eq_true.1 h2.2 w hw⟩
theorem found_len {cs : List Cl} {hs : List Hd} {pr ws : List Int} {p : Int} (h0 : checkT (trOf cs hs) = 0) (hl : pr.length = hs.length) (hp : ∀ x ∈ pr, prB x) (hw : ∀ w ∈ ws, 0 ≤ w ∧ w < (hs.length : Int)) (h6 : 0 ≤ p ∧ p ≤ 6) : (foundE cs hs pr ws p).1.length ≤ hs.length := by
  rcases found_cases (p := p) h0 hl hp hw h6 with ⟨a1, a2⟩ | ⟨b1, a1, a2⟩
  · rw [a1]; exact Nat.zero_le _
  · rw [a1]
    obtain ⟨c, h1, h2, rfl⟩ := a2.1
    have := h1.length_le
    rw [upI_len] at this
    show c.length ≤ _
    omega
theorem miss_not {rs : List (List Bool)} {ks : List Int} {n : Nat} {w : Int} (h : missB rs ks w.toNat = true) : w ∉ missK rs ks n := fun hw => by
  obtain ⟨i, hi, rfl⟩ := List.mem_map.1 hw
  rw [Int.toNat_natCast] at h
  have := (List.mem_filter.1 hi).2
  rw [h] at this; cases this
theorem missK_pre (rs : List (List Bool)) (ks : List Int) (i : Nat) : ∀ d, missK rs ks i <+: missK rs ks (i + d)
  | 0 => List.prefix_refl _
  | d + 1 => by
    rw [← Nat.add_assoc, missK_succ]
    split
    · exact missK_pre rs ks i d
    · exact (missK_pre rs ks i d).trans (List.prefix_append _ _)
theorem miss_at {rs : List (List Bool)} {ks : List Int} {i n : Nat} (hi : i < n) (h : ¬ missB rs ks i = true) : (missK rs ks i).length < (missK rs ks n).length ∧ (missK rs ks n).getD (missK rs ks i).length default = (i : Int) := by
  have h1 := missK_pre rs ks (i + 1) (n - (i + 1))
  rw [show i + 1 + (n - (i + 1)) = n by omega, missK_succ, if_neg h] at h1
  obtain ⟨t, ht⟩ := h1
  rw [← ht]
  refine ⟨by simp, ?_⟩
  rw [getD_at (by simp)]
  simp
theorem found_n {A B PA WA : Option Addr} {ca cb pc wc n : Nat} (cs : List Cl) (hs : List Hd) (pr ws : List Int) (p : Int) (hca : cs.length ≤ ca) (hcb : hs.length ≤ cb) (ha : ∀ h ∈ hs, h.2.2.2.l.length ≤ 1000000) (hpn : pr.length ≤ 1000000) (hwn : ws.length ≤ 1000000) (e : ws.length = n) : Meets Try.prog F.bold_Found [.agg #[.slice A cs.length ca, .slice B hs.length cb], .slice PA pr.length pc, .slice WA n wc, int p] { LI := [Row A (rows cs), RowsF B hs Hd.row, Row PA (rows pr), Row WA (rows ws)], val := fun x : OutC => .tuple #[.slice x.1 (foundE cs hs pr ws p).1.length x.2, int (foundE cs hs pr ws p).2.1, int (foundE cs hs pr ws p).2.2], LO := fun x => [Row x.1 (rows (foundE cs hs pr ws p).1)] } := by
  subst e; exact bold_Found_meets cs hs pr ws p hca hcb ha hpn hwn
theorem missed_is {A B S : Option Addr} {ca cb sc : Nat} (cs : List Cl) (hs : List Hd) (ks : List Int) (p : Int) (hca : cs.length ≤ ca) (hcb : hs.length ≤ cb) (ha : ∀ h ∈ hs, h.2.2.2.l.length ≤ 1000000) (hkl : ks.length ≤ 1000000) {l : List Int} (hE : missE cs hs ks p = (l, 0)) : Meets Try.prog F.bold_Missed [.agg #[.slice A cs.length ca, .slice B hs.length cb], .slice S ks.length sc, int p] { LI := [Row A (rows cs), RowsF B hs Hd.row, Row S (rows ks)], inv := fun x : OutC => l.length ≤ x.2, val := fun x => .tuple #[.slice x.1 l.length x.2, int 0], LO := fun x => [Row x.1 (rows l)] } := by
  have h := bold_Missed_meets (A := A) (B := B) (S := S) (ca := ca) (cb := cb) (sc := sc) cs hs ks p hca hcb ha hkl
  rw [hE] at h
  exact h
set_option maxHeartbeats 2000000 in
theorem law09_BoldWanted_meets {A : Option Addr} {cn : Nat} (nums : List Int) (hn : nums.length ≤ 9223372036854775807) : Meets Try.prog F.law09_BoldWanted [.slice A nums.length cn] { LI := [Row A (rows nums)], val := fun _ : Unit => .bool true } := by
 refine meets_intro F.law09_BoldWanted_f rfl (Nat.le_of_ble_eq_true rfl) fun w0 => ?_
 refine hc_seq (hc_region (r_assign rfl rfl (hl_nil (then_n (hc_seq (hc_region (r_move rfl rfl ?_)))))))
 refine hl_call F.kit_NewDice_cb rfl rfl (kit_NewDice_meets nums) (List.Perm.refl _) ⟨mB, trivial⟩ fun g _ => ?_
 refine r_assign rfl rfl (hl_nil (then_n (hc_seq (hc_region (r_move rfl rfl ?_)))))
 refine hl_call F.kit_TradesOf_cb rfl rfl (kit_TradesOf_meets 3 6 hn (dok0 nums) (by decide) (by decide)) (List.Perm.refl _) ⟨mB, trivial⟩ fun x hx => ?_
 obtain ⟨sd, cs, hs, ⟨CA, ca⟩, ⟨HB, cb⟩⟩ := x
 obtain ⟨hsd, hT⟩ := hx
 have hca : cs.length ≤ ca := hT.ca
 have hcb : hs.length ≤ cb := hT.cb
 have ha : ∀ h ∈ hs, h.2.2.2.l.length ≤ 1000000 := hT.ha
 have hT0 : checkT (trOf cs hs) = 0 := hT.ok
 have hok : TrOK (trOf cs hs) := tr_ok hT0
 clear hT
 have h6 : cs.length ≤ 6 := hok.c6
 have h6h := hok.h6
 have hln := hs_len cs hs
 rw [hln] at h6h
 have hcl : ∀ i, i < cs.length → ClsOK cs i := hok.c
 refine r_alloc rfl (fun _ => T.al_api_Trades _) fun gT => ?_
 refine r_storeS (cs := #[.slice CA cs.length ca, .slice HB hs.length cb]) rfl rfl (.refl _) T.sz_api_Trades (by rfl) (by rfl) ?_
 refine hl_nil (then_n (hc_seq (hc_letgoB (hc_region ?_))))
 refine r_fieldAddr ⟨_, 1, none⟩ rfl rfl T.fa_api_Trades_1 rfl ?_
 refine r_load rfl T.cell_L_api_Head rfl (cell_blk mB rfl) ?_
 refine r_len_sl rfl T.u_L_api_Head rfl ?_
 refine r_assign rfl rfl (hl_nil (then_n (hc_seq (hc_seq (hc_region (r_move rfl rfl (r_eql rfl rfl rfl (hl_nil (then_n ?_)))))))))
 refine c_dec rfl (fun hb1 => ?_) (fun hb1 => ?_)
 ·have hb1' := hb1; try simp at hb1'
  refine hc_seq (hc_region ?_)
  refine hl_call F.law09_paying_cb rfl rfl (law09_paying_meets) (List.Perm.refl _) trivial fun _ _ => ?_
  refine r_assign rfl rfl (hl_nil (then_n (hc_ret (then_ret ?_))))
  exact ret1 () rfl rfl rfl trivial (List.nil_sublist _) trivial
 ·have hb1' := hb1; try simp at hb1'
  have hn1 : 0 < hs.length := by omega
  refine hc_skip (then_n (hc_seq (hc_region (r_move rfl rfl (r_move rfl rfl ?_)))))
  refine hl_call F.kit_PricesOf_cb rfl rfl (kit_PricesOf_meets hs.length hn hsd (by omega)) (List.Perm.refl _) ⟨mB, trivial⟩ fun xs2 hs2 => ?_
  obtain ⟨s2, y⟩ := xs2
  obtain ⟨hs2, hy⟩ := hs2
  simp only at hs2
  obtain ⟨pr, pA, pC⟩ := y
  obtain ⟨hpl, hp40, hpc⟩ := hy
  simp only at hpl hp40 hpc
  have hprb := made_pr hp40
  refine r_move rfl rfl (r_move rfl rfl ?_)
  refine hl_call F.kit_HeadsOf_cb rfl rfl (kit_HeadsOf_meets hs.length 3 hn hs2 (by omega) (by decide)) (List.Perm.refl _) ⟨mB, trivial⟩ fun xs3 hs3 => ?_
  obtain ⟨s3, y⟩ := xs3
  obtain ⟨hs3, hy⟩ := hs3
  simp only at hs3
  obtain ⟨ws, wA, wC⟩ := y
  obtain ⟨hw3, hwb, hwc⟩ := hy
  simp only at hw3 hwb hwc
  refine r_move rfl rfl ?_
  refine hl_call F.kit_Dice_To_cb rfl rfl (kit_Dice_To_meets (3) hn hs3 (by omega)) (List.Perm.refl _) ⟨mB, trivial⟩ fun xs4 hs4 => ?_
  obtain ⟨s4, z⟩ := xs4
  obtain ⟨hs4, hz⟩ := hs4
  simp only at hs4
  have hz : 0 ≤ z ∧ z ≤ 3 := to_bd hz (by omega)
  refine r_assign rfl rfl (r_assign rfl rfl (r_assign rfl rfl (hl_nil (then_n (hc_seq (hc_region ?_))))))
  refine r_loadB rfl T.row_api_Trades T.sz_api_Trades rfl mB (by rfl) ?_
  refine r_move rfl rfl (r_move rfl rfl (r_move rfl rfl ?_))
  refine hl_call F.bold_Found_cb rfl rfl (bold_Found_meets cs hs pr ws z hca hcb ha (by omega) (by omega)) (List.Perm.refl _) ⟨mB, mB, mB, mB, trivial⟩ fun x1 _ => ?_
  obtain ⟨a1, c1⟩ := x1
  refine r_move rfl rfl (r_extract rfl rfl rfl (r_extract rfl rfl rfl (r_extract rfl rfl rfl (r_assign rfl rfl (r_assign rfl rfl (r_assign rfl rfl (hl_nil (then_n (hc_seq ?_)))))))))
  have hvb : 0 ≤ (toQ nums s4 ((hs.length : Int) - 1)) ∧ (toQ nums s4 ((hs.length : Int) - 1)) ≤ (hs.length : Int) - 1 := toQ_bd (by omega)
  have hwl2 : (ws ++ [(toQ nums s4 ((hs.length : Int) - 1))]).length = ws.length + 1 := List.length_append
  have hWN := want_is (p := z) hT0 hpl hprb hwb (v := (toQ nums s4 ((hs.length : Int) - 1))) (by omega) (by omega)
  have hfl := found_len (p := z) hT0 hpl hprb hwb (by omega)
  refine hc_drawW ([dice g A cn nums s4]) ([]) (.refl _) 22 [11] mixed (by decide) (by decide) (by decide) rfl rfl rfl ?_
  refine hb_ex _ rfl rfl rfl (fun w1 => r_loadB rfl T.row_api_Trades T.sz_api_Trades rfl mB (by rfl) (hl_nil (qe_done rfl))) ?_
  refine hb_ex _ rfl rfl rfl (fun w1 => r_move rfl rfl (hl_nil (qe_done rfl))) ?_
  refine hb_ex _ rfl rfl rfl (fun w1 => r_move rfl rfl (hl_nil (qe_done rfl))) ?_
  refine hb_ex _ rfl rfl rfl (fun w1 => r_move rfl rfl (hl_nil (qe_done rfl))) ?_
  refine hb_ex _ rfl rfl rfl (fun w1 => r_len_sl rfl T.u_ints rfl (hl_nil (qe_done rfl))) ?_
  refine hb_ex _ rfl rfl rfl (fun w1 => r_move rfl rfl (hl_nil (qe_done rfl))) ?_
  refine hb_ex _ rfl rfl rfl (fun w1 => r_len_sl rfl T.u_ints rfl (hl_nil (qe_done rfl))) ?_
  refine hb_ex _ rfl rfl rfl (fun w1 => r_slice_hm ws.length ws.length rfl T.u_ints T.sz_int rfl rfl rfl rfl rfl (Nat.le_refl _) hwc (hl_nil (qe_done rfl))) ?_
  refine hb_ex _ rfl rfl rfl (fun w1 => r_move rfl rfl (hl_nil (qe_done rfl))) ?_
  refine hb_ex _ rfl rfl rfl (fun w1 => r_move rfl rfl (hl_nil (qe_done rfl))) ?_
  refine hb_ex _ rfl rfl rfl (fun w1 => r_sub _ rfl rfl rfl rfl (by unfold I64; omega) (hl_nil (qe_done rfl))) ?_
  refine hb_wr ⟨Unit, fun _ => True, fun _ => int (toQ nums s4 ((hs.length : Int) - 1)), fun _ => [], fun _ => [dice g A cn nums (toS nums s4 ((hs.length : Int) - 1))]⟩ rfl rfl rfl ?_ ?_
  ·intro w1
   refine hl_call F.kit_Dice_To_cb rfl rfl (kit_Dice_To_is ((hs.length : Int) - 1) hn hs4 (by omega)) (List.Perm.refl _) ⟨mB, trivial⟩ fun _ _ => ?_
   refine hl_nil ?_
   exact qw_done () trivial (fun _ => rfl) (List.Sublist.refl _) trivial
  refine hb_vs ⟨Nat, fun _ => True, fun g1 => .slice (some ⟨g1, 0, none⟩) 1 1, fun g1 => [Row (some ⟨g1, 0, none⟩) (rows [(toQ nums s4 ((hs.length : Int) - 1))])]⟩ rfl rfl rfl ?_ ?_
  ·intro _ _; intro w1
   refine r_buildSlice _ rfl rfl (fun _ => T.bs_ints_1 ..) fun gS => ?_
   refine hl_nil ?_
   refine hq_letgo (rows [(toQ nums s4 ((hs.length : Int) - 1))]) (List.prefix_refl _) ?_
   exact qv_done gS trivial rfl ⟨m0, trivial⟩
  refine hb_vs ⟨OutC, fun _ => True, fun x => .slice x.1 (ws.length + 1) x.2, fun x => [Row x.1 (rows (ws ++ [(toQ nums s4 ((hs.length : Int) - 1))]))]⟩ rfl rfl rfl ?_ ?_
  ·intro g1 _; intro w1
   refine r_append_full (ws.length + 1) (rows (ws ++ [(toQ nums s4 ((hs.length : Int) - 1))])) T.el_ints rfl rfl rfl mB (rows_len ws) (Src.row (news := rows [(toQ nums s4 ((hs.length : Int) - 1))]) (m := 1) mB rfl (rows_one _) (by decide)) rfl (rows_append ws [(toQ nums s4 ((hs.length : Int) - 1))]).symm (by unfold maxLen; omega) (by omega) fun A1 c1 hc1 => ?_
   refine hl_nil ?_
   exact qv_done (A1, c1) trivial rfl ⟨mB, trivial⟩
  refine hb_ex _ rfl rfl rfl (fun w1 => r_move rfl rfl (hl_nil (qe_done rfl))) ?_
  refine hb_vs ⟨OutC, fun _ => True, fun x => .tuple #[.slice x.1 (foundE cs hs pr (ws ++ [(toQ nums s4 ((hs.length : Int) - 1))]) z).1.length x.2, int (foundE cs hs pr (ws ++ [(toQ nums s4 ((hs.length : Int) - 1))]) z).2.1, int (foundE cs hs pr (ws ++ [(toQ nums s4 ((hs.length : Int) - 1))]) z).2.2], fun _ => []⟩ rfl rfl rfl ?_ ?_
  ·intro x13 _; intro w1
   refine hl_call F.bold_Found_cb rfl rfl (found_n cs hs pr (ws ++ [(toQ nums s4 ((hs.length : Int) - 1))]) z hca hcb ha (by omega) (by omega) hwl2) (List.Perm.refl _) ⟨mB, mB, mB, mB, trivial⟩ fun y hy => ?_
   refine hl_nil ?_
   exact qv_done y trivial rfl trivial
  refine hb_vs ⟨OutC, fun _ => True, fun x => .tuple #[.slice x.1 (foundE cs hs pr (ws ++ [(toQ nums s4 ((hs.length : Int) - 1))]) z).1.length x.2, int (foundE cs hs pr (ws ++ [(toQ nums s4 ((hs.length : Int) - 1))]) z).2.1, int (foundE cs hs pr (ws ++ [(toQ nums s4 ((hs.length : Int) - 1))]) z).2.2], fun _ => []⟩ rfl rfl rfl ?_ ?_
  ·intro x15 _; intro w1
   refine r_move rfl rfl (hl_nil ?_)
   exact qv_done x15 trivial rfl trivial
  refine hb_vs ⟨OutC, fun _ => True, fun x => .slice x.1 (foundE cs hs pr (ws ++ [(toQ nums s4 ((hs.length : Int) - 1))]) z).1.length x.2, fun _ => []⟩ rfl rfl rfl ?_ ?_
  ·intro x16 _; intro w1
   refine r_extract rfl rfl rfl (hl_nil ?_)
   exact qv_done x16 trivial rfl trivial
  apply hb_ex _ rfl rfl rfl
  ·intro x16 _; intro w1
   refine r_extract rfl rfl rfl (hl_nil ?_)
   exact qe_done rfl
  apply hb_ex _ rfl rfl rfl
  ·intro x16 _; intro w1
   refine r_extract rfl rfl rfl (hl_nil ?_)
   exact qe_done rfl
  refine hb_vs ⟨OutC, fun _ => True, fun x => .slice x.1 (foundE cs hs pr (ws ++ [(toQ nums s4 ((hs.length : Int) - 1))]) z).1.length x.2, fun _ => []⟩ rfl rfl rfl ?_ ?_
  ·intro x17 _; intro w1
   refine r_assign rfl rfl (hl_nil ?_)
   exact qv_done x17 trivial rfl trivial
  refine hb_ex _ rfl rfl rfl (fun w1 => r_assign rfl rfl (hl_nil (qe_done rfl))) ?_
  refine hb_nil ⟨rfl, ?_⟩
  intro _ _ _ _ _ _ _ _ _ _ _ _ _ _
  refine r_assign rfl rfl (hl_nil (then_n (hc_seq (hc_region ?_))))
  refine r_loadB rfl T.row_api_Trades T.sz_api_Trades rfl mB (by rfl) ?_
  refine r_move rfl rfl (r_move rfl rfl (r_move rfl rfl ?_))
  refine r_add _ rfl rfl rfl rfl (by unfold I64; omega) ?_
  refine hl_call F.bold_Found_cb rfl rfl (bold_Found_meets cs hs pr ws (z + 1) hca hcb ha (by omega) (by omega)) (List.Perm.refl _) ⟨mB, mB, mB, mB, trivial⟩ fun x3 _ => ?_
  obtain ⟨a3, c3⟩ := x3
  obtain ⟨wa, wb, wc, wab, wq, wac⟩ := hWN
  refine r_move rfl rfl (r_extract rfl rfl rfl (r_extract rfl rfl rfl (r_extract rfl rfl rfl (r_assign rfl rfl (r_assign rfl rfl (r_assign rfl rfl (hl_nil (then_n (hc_seq (hc_seq (hc_region ?_)))))))))))
  refine r_move rfl rfl (r_neq rfl rfl rfl (hl_nil (then_n ?_)))
  refine c_dec rfl (fun hb2 => ?_) (fun hb2 => ?_)
  ·have hb2' := hb2; try simp at hb2'
   have he11 : ¬ (foundE cs hs pr ws z).2.2 = 0 := hb2
   refine hc_seq (hc_region (r_move rfl rfl (r_eql rfl rfl rfl (r_move rfl rfl ?_))))
   refine g_split rfl rfl ?_ ?_
   ·intro hg1; have hg1' := hg1; try simp at hg1'
    refine g_yes rfl rfl hg1 (r_move rfl rfl (g_yes rfl rfl hg1 (r_eql rfl rfl rfl ?_)))
    refine p_t rfl rfl (bt1 hg1) rfl ?_
    refine r_move rfl rfl ?_
    refine g_split rfl rfl ?_ ?_
    ·intro hg2; have hg2' := hg2; try simp at hg2'
     refine g_yes rfl rfl hg2 (r_move rfl rfl (g_yes rfl rfl hg2 (r_eql rfl rfl rfl (g_yes rfl rfl hg2 (r_move rfl rfl ?_)))))
     refine g_split rfl rfl ?_ ?_
     ·intro hg3; have hg3' := hg3; try simp at hg3'
      refine g_yes rfl rfl hg3 (r_move rfl rfl (g_yes rfl rfl hg3 (r_eql rfl rfl rfl (g_yes rfl rfl hg2 ?_))))
      refine p_f rfl rfl (bf1 hg3) rfl ?_
      refine p_t rfl rfl (bt1 hg2) rfl ?_
      refine r_move rfl rfl ?_
      refine g_split rfl rfl ?_ ?_
      ·intro hg4; have hg4' := hg4; try simp at hg4'
       refine g_yes rfl rfl hg4 ?_
       refine hl_call F.law09_paying_cb rfl rfl (law09_paying_meets) (List.Perm.refl _) trivial fun _ _ => ?_
       refine p_t rfl rfl (bt1 hg4) rfl ?_
       refine r_assign rfl rfl (hl_nil (then_n (hc_ret (then_ret ?_))))
       exact ret1 () rfl rfl rfl trivial (List.nil_sublist _) trivial
      ·intro hg4; have hg4' := hg4; try simp at hg4'
       all_goals omega
     ·intro hg3; have hg3' := hg3; try simp at hg3'
      refine g_no rfl rfl rfl rfl rfl hg3 (g_no rfl rfl rfl rfl rfl hg3 (g_yes rfl rfl hg2 ?_))
      refine p_t rfl rfl (bt2 hg3) rfl ?_
      refine p_t rfl rfl (bt1 hg2) rfl ?_
      refine r_move rfl rfl (g_yes rfl rfl rfl ?_)
      refine hl_call F.law09_paying_cb rfl rfl (law09_paying_meets) (List.Perm.refl _) trivial fun _ _ => ?_
      refine p_t rfl rfl rfl rfl (r_assign rfl rfl (hl_nil (then_n (hc_ret (then_ret ?_)))))
      exact ret1 () rfl rfl rfl trivial (List.nil_sublist _) trivial
    ·intro hg2; have hg2' := hg2; try simp at hg2'
     all_goals omega
   ·intro hg1; have hg1' := hg1; try simp at hg1'
    all_goals omega
  ·have hb2' := hb2; try simp at hb2'
   have he0 : (foundE cs hs pr ws z).2.2 = 0 := Classical.not_not.1 hb2
   have hwac := wac he0
   obtain ⟨hhv, hhw⟩ := heads_is (p := z) hT0 hpl hprb hwb (by omega) he0
   have hhk : ∀ k ∈ (foundE cs hs pr ws z).1, 0 ≤ k ∧ k < (hs.length : Int) := fun k hk => (hhv k hk).1
   have hME : missE cs hs (foundE cs hs pr ws z).1 z = ((missK (reachK (trOf cs hs) z hs.length) (foundE cs hs pr ws z).1 hs.length), 0) := by rw [missE, if_neg (fun e => e hT0), if_neg (fun e => e (place_mk hhv)), if_neg (fun e => e (by omega))]
   have hmlen := missK_len (reachK (trOf cs hs) z hs.length) (foundE cs hs pr ws z).1 hs.length
   refine hc_skip (then_n (hc_seq ?_))
   refine hc_cut ⟨fun x : Bool => x = false, fun x => [(4, .pointer (some ⟨gT, 0, none⟩)), (5, int hs.length), (7, .slice wA ws.length wC), (8, int z), (9, .slice a1 (foundE cs hs pr ws z).1.length c1), (131, .bool x)], fun _ => [], fun _ => [Row a1 (rows (foundE cs hs pr ws z).1), Blk gT (.cells #[.slice CA cs.length ca, .slice HB hs.length cb] T.api_Trades (0, 0)), Row CA (rows cs), RowsF HB hs Hd.row, Row wA (rows ws)]⟩ ?_ ?_
   ·skip
    refine hc_region (r_move rfl rfl (r_neq rfl rfl rfl (r_move rfl rfl ?_)))
    refine g_split rfl rfl ?_ ?_
    ·intro hg5; have hg5' := hg5; try simp at hg5'
     refine g_yes rfl rfl hg5 (r_move rfl rfl (g_yes rfl rfl hg5 (r_neq rfl rfl rfl ?_)))
     refine p_t rfl rfl (bt1 hg5) rfl ?_
     refine r_move rfl rfl ?_
     refine g_split rfl rfl ?_ ?_
     ·intro hg6; have hg6' := hg6; try simp at hg6'
      refine g_yes rfl rfl hg6 (r_move rfl rfl (g_yes rfl rfl hg6 (r_eql rfl rfl rfl (g_yes rfl rfl hg6 (r_move rfl rfl ?_)))))
      refine g_split rfl rfl ?_ ?_
      ·intro hg7; have hg7' := hg7; try simp at hg7'
       refine g_yes rfl rfl hg7 (r_move rfl rfl (g_yes rfl rfl hg7 (r_move rfl rfl (g_yes rfl rfl hg7 (r_lss rfl rfl rfl (g_yes rfl rfl hg6 ?_))))))
       refine p_t rfl rfl (bt1 hg7) rfl ?_
       refine p_f rfl rfl (bf1 hg6) rfl ?_
       refine r_move rfl rfl ?_
       refine g_split rfl rfl ?_ ?_
       ·intro hg8; have hg8' := hg8; try simp at hg8'
        refine g_yes rfl rfl hg8 (r_move rfl rfl (g_yes rfl rfl hg8 (r_neq rfl rfl rfl ?_)))
        refine p_f rfl rfl (bf1 hg8) rfl ?_
        refine r_move rfl rfl ?_
        refine g_split rfl rfl ?_ ?_
        ·intro hg9; have hg9' := hg9; try simp at hg9'
         refine g_yes rfl rfl hg9 (r_move rfl rfl (g_yes rfl rfl hg9 (r_move rfl rfl (g_yes rfl rfl hg9 (r_gtr rfl rfl rfl ?_)))))
         refine p_f rfl rfl (bf1 hg9) rfl ?_
         refine r_move rfl rfl ?_
         refine g_split rfl rfl ?_ ?_
         ·intro hg10; have hg10' := hg10; try simp at hg10'
          refine g_yes rfl rfl hg10 (r_move rfl rfl (g_yes rfl rfl hg10 ?_))
          refine r_len_sl rfl T.u_ints rfl ?_
          refine g_yes rfl rfl hg10 (r_move rfl rfl (g_yes rfl rfl hg10 (r_gtr rfl rfl rfl ?_)))
          refine p_f rfl rfl (bf1 hg10) rfl ?_
          refine hl_nil ?_
          exact cut_n _ _ (by first | exact decide_eq_false (by omega) | (exfalso; omega)) ⟨rfl, rfl, rfl, rfl, rfl, rfl, trivial⟩ (List.nil_sublist _) ⟨mB, mB, mB, mB, mB, trivial⟩
         ·intro hg10; have hg10' := hg10; try simp at hg10'
          refine g_no rfl rfl rfl rfl rfl hg10 (g_no rfl rfl rfl rfl rfl hg10 (g_no rfl rfl rfl rfl rfl hg10 (g_no rfl rfl rfl rfl rfl hg10 ?_)))
          refine p_t rfl rfl (bt2 hg10) rfl ?_
          refine hl_nil ?_
          exact cut_n _ _ (by first | exact decide_eq_false (by omega) | (exfalso; omega)) ⟨rfl, rfl, rfl, rfl, rfl, rfl, trivial⟩ (List.nil_sublist _) ⟨mB, mB, mB, mB, mB, trivial⟩
        ·intro hg9; have hg9' := hg9; try simp at hg9'
         refine g_no rfl rfl rfl rfl rfl hg9 (g_no rfl rfl rfl rfl rfl hg9 (g_no rfl rfl rfl rfl rfl hg9 ?_))
         refine p_t rfl rfl (bt2 hg9) rfl ?_
         refine r_move rfl rfl (g_no rfl rfl rfl rfl rfl rfl (g_no rfl rfl rfl rfl rfl rfl (g_no rfl rfl rfl rfl rfl rfl (g_no rfl rfl rfl rfl rfl rfl (p_t rfl rfl rfl rfl (hl_nil ?_))))))
         exact cut_n _ _ (by first | exact decide_eq_false (by omega) | (exfalso; omega)) ⟨rfl, rfl, rfl, rfl, rfl, rfl, trivial⟩ (List.nil_sublist _) ⟨mB, mB, mB, mB, mB, trivial⟩
       ·intro hg8; have hg8' := hg8; try simp at hg8'
        refine g_no rfl rfl rfl rfl rfl hg8 (g_no rfl rfl rfl rfl rfl hg8 ?_)
        refine p_t rfl rfl (bt2 hg8) rfl ?_
        refine r_move rfl rfl (g_no rfl rfl rfl rfl rfl rfl (g_no rfl rfl rfl rfl rfl rfl (g_no rfl rfl rfl rfl rfl rfl (p_t rfl rfl rfl rfl (r_move rfl rfl (g_no rfl rfl rfl rfl rfl rfl (g_no rfl rfl rfl rfl rfl rfl (g_no rfl rfl rfl rfl rfl rfl (g_no rfl rfl rfl rfl rfl rfl (p_t rfl rfl rfl rfl (hl_nil ?_)))))))))))
        exact cut_n _ _ (by first | exact decide_eq_false (by omega) | (exfalso; omega)) ⟨rfl, rfl, rfl, rfl, rfl, rfl, trivial⟩ (List.nil_sublist _) ⟨mB, mB, mB, mB, mB, trivial⟩
      ·intro hg7; have hg7' := hg7; try simp at hg7'
       refine g_no rfl rfl rfl rfl rfl hg7 (g_no rfl rfl rfl rfl rfl hg7 (g_no rfl rfl rfl rfl rfl hg7 (g_yes rfl rfl hg6 ?_)))
       refine p_f rfl rfl (bf2 hg7) rfl ?_
       refine p_f rfl rfl (bf1 hg6) rfl ?_
       refine r_move rfl rfl (g_yes rfl rfl rfl (r_move rfl rfl (g_yes rfl rfl rfl (r_neq rfl rfl rfl (p_f rfl rfl rfl rfl (r_move rfl rfl ?_))))))
       refine g_split rfl rfl ?_ ?_
       ·intro hg11; have hg11' := hg11; try simp at hg11'
        refine g_yes rfl rfl hg11 (r_move rfl rfl (g_yes rfl rfl hg11 (r_move rfl rfl (g_yes rfl rfl hg11 (r_gtr rfl rfl rfl ?_)))))
        refine p_f rfl rfl (bf1 hg11) rfl ?_
        refine r_move rfl rfl ?_
        refine g_split rfl rfl ?_ ?_
        ·intro hg12; have hg12' := hg12; try simp at hg12'
         refine g_yes rfl rfl hg12 (r_move rfl rfl (g_yes rfl rfl hg12 ?_))
         refine r_len_sl rfl T.u_ints rfl ?_
         refine g_yes rfl rfl hg12 (r_move rfl rfl (g_yes rfl rfl hg12 (r_gtr rfl rfl rfl ?_)))
         refine p_f rfl rfl (bf1 hg12) rfl ?_
         refine hl_nil ?_
         exact cut_n _ _ (by first | exact decide_eq_false (by omega) | (exfalso; omega)) ⟨rfl, rfl, rfl, rfl, rfl, rfl, trivial⟩ (List.nil_sublist _) ⟨mB, mB, mB, mB, mB, trivial⟩
        ·intro hg12; have hg12' := hg12; try simp at hg12'
         refine g_no rfl rfl rfl rfl rfl hg12 (g_no rfl rfl rfl rfl rfl hg12 (g_no rfl rfl rfl rfl rfl hg12 (g_no rfl rfl rfl rfl rfl hg12 ?_)))
         refine p_t rfl rfl (bt2 hg12) rfl ?_
         refine hl_nil ?_
         exact cut_n _ _ (by first | exact decide_eq_false (by omega) | (exfalso; omega)) ⟨rfl, rfl, rfl, rfl, rfl, rfl, trivial⟩ (List.nil_sublist _) ⟨mB, mB, mB, mB, mB, trivial⟩
       ·intro hg11; have hg11' := hg11; try simp at hg11'
        refine g_no rfl rfl rfl rfl rfl hg11 (g_no rfl rfl rfl rfl rfl hg11 (g_no rfl rfl rfl rfl rfl hg11 ?_))
        refine p_t rfl rfl (bt2 hg11) rfl ?_
        refine r_move rfl rfl (g_no rfl rfl rfl rfl rfl rfl (g_no rfl rfl rfl rfl rfl rfl (g_no rfl rfl rfl rfl rfl rfl (g_no rfl rfl rfl rfl rfl rfl (p_t rfl rfl rfl rfl (hl_nil ?_))))))
        exact cut_n _ _ (by first | exact decide_eq_false (by omega) | (exfalso; omega)) ⟨rfl, rfl, rfl, rfl, rfl, rfl, trivial⟩ (List.nil_sublist _) ⟨mB, mB, mB, mB, mB, trivial⟩
     ·intro hg6; have hg6' := hg6; try simp at hg6'
      refine g_no rfl rfl rfl rfl rfl hg6 (g_no rfl rfl rfl rfl rfl hg6 (g_no rfl rfl rfl rfl rfl hg6 (g_und rfl rfl rfl rfl rfl rfl (g_und rfl rfl rfl rfl rfl rfl (g_und rfl rfl rfl rfl rfl rfl (g_no rfl rfl rfl rfl rfl hg6 ?_))))))
      refine p_t rfl rfl (bt2 hg6) rfl ?_
      refine r_move rfl rfl (g_no rfl rfl rfl rfl rfl rfl (g_no rfl rfl rfl rfl rfl rfl (p_t rfl rfl rfl rfl (r_move rfl rfl (g_no rfl rfl rfl rfl rfl rfl (g_no rfl rfl rfl rfl rfl rfl (g_no rfl rfl rfl rfl rfl rfl (p_t rfl rfl rfl rfl (r_move rfl rfl (g_no rfl rfl rfl rfl rfl rfl (g_no rfl rfl rfl rfl rfl rfl ?_)))))))))))
      refine g_no rfl rfl rfl rfl rfl rfl (g_no rfl rfl rfl rfl rfl rfl (p_t rfl rfl rfl rfl (hl_nil ?_)))
      exact cut_n _ _ (by first | exact decide_eq_false (by omega) | (exfalso; omega)) ⟨rfl, rfl, rfl, rfl, rfl, rfl, trivial⟩ (List.nil_sublist _) ⟨mB, mB, mB, mB, mB, trivial⟩
    ·intro hg5; have hg5' := hg5; try simp at hg5'
     refine g_no rfl rfl rfl rfl rfl hg5 (g_no rfl rfl rfl rfl rfl hg5 ?_)
     refine p_f rfl rfl (bf2 hg5) rfl ?_
     refine r_move rfl rfl (g_yes rfl rfl rfl (r_move rfl rfl (g_yes rfl rfl rfl (r_eql rfl rfl rfl (g_yes rfl rfl rfl (r_move rfl rfl ?_))))))
     refine g_split rfl rfl ?_ ?_
     ·intro hg13; have hg13' := hg13; try simp at hg13'
      refine g_yes rfl rfl hg13 (r_move rfl rfl (g_yes rfl rfl hg13 (r_move rfl rfl (g_yes rfl rfl hg13 (r_lss rfl rfl rfl (g_yes rfl rfl rfl ?_))))))
      refine p_t rfl rfl (bt1 hg13) rfl ?_
      refine p_f rfl rfl rfl rfl (r_move rfl rfl ?_)
      refine g_split rfl rfl ?_ ?_
      ·intro hg14; have hg14' := hg14; try simp at hg14'
       refine g_yes rfl rfl hg14 (r_move rfl rfl (g_yes rfl rfl hg14 (r_neq rfl rfl rfl ?_)))
       refine p_f rfl rfl (bf1 hg14) rfl ?_
       refine r_move rfl rfl ?_
       refine g_split rfl rfl ?_ ?_
       ·intro hg15; have hg15' := hg15; try simp at hg15'
        refine g_yes rfl rfl hg15 (r_move rfl rfl (g_yes rfl rfl hg15 (r_move rfl rfl (g_yes rfl rfl hg15 (r_gtr rfl rfl rfl ?_)))))
        refine p_f rfl rfl (bf1 hg15) rfl ?_
        refine r_move rfl rfl ?_
        refine g_split rfl rfl ?_ ?_
        ·intro hg16; have hg16' := hg16; try simp at hg16'
         refine g_yes rfl rfl hg16 (r_move rfl rfl (g_yes rfl rfl hg16 ?_))
         refine r_len_sl rfl T.u_ints rfl ?_
         refine g_yes rfl rfl hg16 (r_move rfl rfl (g_yes rfl rfl hg16 (r_gtr rfl rfl rfl ?_)))
         refine p_f rfl rfl (bf1 hg16) rfl ?_
         refine hl_nil ?_
         exact cut_n _ _ (by first | exact decide_eq_false (by omega) | (exfalso; omega)) ⟨rfl, rfl, rfl, rfl, rfl, rfl, trivial⟩ (List.nil_sublist _) ⟨mB, mB, mB, mB, mB, trivial⟩
        ·intro hg16; have hg16' := hg16; try simp at hg16'
         refine g_no rfl rfl rfl rfl rfl hg16 (g_no rfl rfl rfl rfl rfl hg16 (g_no rfl rfl rfl rfl rfl hg16 (g_no rfl rfl rfl rfl rfl hg16 ?_)))
         refine p_t rfl rfl (bt2 hg16) rfl ?_
         refine hl_nil ?_
         exact cut_n _ _ (by first | exact decide_eq_false (by omega) | (exfalso; omega)) ⟨rfl, rfl, rfl, rfl, rfl, rfl, trivial⟩ (List.nil_sublist _) ⟨mB, mB, mB, mB, mB, trivial⟩
       ·intro hg15; have hg15' := hg15; try simp at hg15'
        refine g_no rfl rfl rfl rfl rfl hg15 (g_no rfl rfl rfl rfl rfl hg15 (g_no rfl rfl rfl rfl rfl hg15 ?_))
        refine p_t rfl rfl (bt2 hg15) rfl ?_
        refine r_move rfl rfl (g_no rfl rfl rfl rfl rfl rfl (g_no rfl rfl rfl rfl rfl rfl (g_no rfl rfl rfl rfl rfl rfl (g_no rfl rfl rfl rfl rfl rfl (p_t rfl rfl rfl rfl (hl_nil ?_))))))
        exact cut_n _ _ (by first | exact decide_eq_false (by omega) | (exfalso; omega)) ⟨rfl, rfl, rfl, rfl, rfl, rfl, trivial⟩ (List.nil_sublist _) ⟨mB, mB, mB, mB, mB, trivial⟩
      ·intro hg14; have hg14' := hg14; try simp at hg14'
       refine g_no rfl rfl rfl rfl rfl hg14 (g_no rfl rfl rfl rfl rfl hg14 ?_)
       refine p_t rfl rfl (bt2 hg14) rfl ?_
       refine r_move rfl rfl (g_no rfl rfl rfl rfl rfl rfl (g_no rfl rfl rfl rfl rfl rfl (g_no rfl rfl rfl rfl rfl rfl (p_t rfl rfl rfl rfl (r_move rfl rfl (g_no rfl rfl rfl rfl rfl rfl (g_no rfl rfl rfl rfl rfl rfl (g_no rfl rfl rfl rfl rfl rfl (g_no rfl rfl rfl rfl rfl rfl (p_t rfl rfl rfl rfl (hl_nil ?_)))))))))))
       exact cut_n _ _ (by first | exact decide_eq_false (by omega) | (exfalso; omega)) ⟨rfl, rfl, rfl, rfl, rfl, rfl, trivial⟩ (List.nil_sublist _) ⟨mB, mB, mB, mB, mB, trivial⟩
     ·intro hg13; have hg13' := hg13; try simp at hg13'
      refine g_no rfl rfl rfl rfl rfl hg13 (g_no rfl rfl rfl rfl rfl hg13 (g_no rfl rfl rfl rfl rfl hg13 (g_yes rfl rfl rfl ?_)))
      refine p_f rfl rfl (bf2 hg13) rfl ?_
      refine p_f rfl rfl rfl rfl (r_move rfl rfl (g_yes rfl rfl rfl (r_move rfl rfl (g_yes rfl rfl rfl (r_neq rfl rfl rfl (p_f rfl rfl rfl rfl (r_move rfl rfl ?_)))))))
      refine g_split rfl rfl ?_ ?_
      ·intro hg17; have hg17' := hg17; try simp at hg17'
       refine g_yes rfl rfl hg17 (r_move rfl rfl (g_yes rfl rfl hg17 (r_move rfl rfl (g_yes rfl rfl hg17 (r_gtr rfl rfl rfl ?_)))))
       refine p_f rfl rfl (bf1 hg17) rfl ?_
       refine r_move rfl rfl ?_
       refine g_split rfl rfl ?_ ?_
       ·intro hg18; have hg18' := hg18; try simp at hg18'
        refine g_yes rfl rfl hg18 (r_move rfl rfl (g_yes rfl rfl hg18 ?_))
        refine r_len_sl rfl T.u_ints rfl ?_
        refine g_yes rfl rfl hg18 (r_move rfl rfl (g_yes rfl rfl hg18 (r_gtr rfl rfl rfl ?_)))
        refine p_f rfl rfl (bf1 hg18) rfl ?_
        refine hl_nil ?_
        exact cut_n _ _ (by first | exact decide_eq_false (by omega) | (exfalso; omega)) ⟨rfl, rfl, rfl, rfl, rfl, rfl, trivial⟩ (List.nil_sublist _) ⟨mB, mB, mB, mB, mB, trivial⟩
       ·intro hg18; have hg18' := hg18; try simp at hg18'
        refine g_no rfl rfl rfl rfl rfl hg18 (g_no rfl rfl rfl rfl rfl hg18 (g_no rfl rfl rfl rfl rfl hg18 (g_no rfl rfl rfl rfl rfl hg18 ?_)))
        refine p_t rfl rfl (bt2 hg18) rfl ?_
        refine hl_nil ?_
        exact cut_n _ _ (by first | exact decide_eq_false (by omega) | (exfalso; omega)) ⟨rfl, rfl, rfl, rfl, rfl, rfl, trivial⟩ (List.nil_sublist _) ⟨mB, mB, mB, mB, mB, trivial⟩
      ·intro hg17; have hg17' := hg17; try simp at hg17'
       refine g_no rfl rfl rfl rfl rfl hg17 (g_no rfl rfl rfl rfl rfl hg17 (g_no rfl rfl rfl rfl rfl hg17 ?_))
       refine p_t rfl rfl (bt2 hg17) rfl ?_
       refine r_move rfl rfl (g_no rfl rfl rfl rfl rfl rfl (g_no rfl rfl rfl rfl rfl rfl (g_no rfl rfl rfl rfl rfl rfl (g_no rfl rfl rfl rfl rfl rfl (p_t rfl rfl rfl rfl (hl_nil ?_))))))
       exact cut_n _ _ (by first | exact decide_eq_false (by omega) | (exfalso; omega)) ⟨rfl, rfl, rfl, rfl, rfl, rfl, trivial⟩ (List.nil_sublist _) ⟨mB, mB, mB, mB, mB, trivial⟩
   ·rintro x rfl
    refine hc_cond rfl (fun hb3 => ?_) (fun hb3 => ?_)
    ·cases hb3
    ·have hb3' := hb3; try simp at hb3'
     refine hc_skip (then_n (hc_seq (hc_region ?_)))
     refine r_loadB rfl T.row_api_Trades T.sz_api_Trades rfl mB (by rfl) ?_
     refine r_move rfl rfl (r_move rfl rfl ?_)
     refine hl_call F.bold_Missed_cb rfl rfl (missed_is cs hs (foundE cs hs pr ws z).1 z hca hcb ha (by omega) hME) (List.Perm.refl _) ⟨mB, mB, mB, trivial⟩ fun x4 _ => ?_
     obtain ⟨ma, mc⟩ := x4
     refine r_move rfl rfl (r_extract rfl rfl rfl (r_extract rfl rfl rfl (r_assign rfl rfl (r_assign rfl rfl (hl_nil (then_n (hc_seq (hc_seq (hc_region (r_move rfl rfl (r_neq rfl rfl rfl ?_)))))))))))
     refine r_move rfl rfl ?_
     refine g_split rfl rfl ?_ ?_
     ·intro hg19; have hg19' := hg19; try simp at hg19'
      refine g_yes rfl rfl hg19 (r_move rfl rfl (g_yes rfl rfl hg19 ?_))
      refine r_len_sl rfl T.u_ints rfl ?_
      refine g_yes rfl rfl hg19 (r_move rfl rfl (g_yes rfl rfl hg19 (r_gtr rfl rfl rfl ?_)))
      refine p_f rfl rfl (bf1 hg19) rfl ?_
      refine hl_nil (then_n ?_)
      refine c_dec rfl (fun hb4 => ?_) (fun hb4 => ?_)
      ·all_goals omega
      ·have hb4' := hb4; try simp at hb4'
       refine hc_skip (then_n (hc_seq (hc_seq (hc_region (r_assign rfl rfl (hl_nil (then_n (hc_block ?_))))))))
       refine hc_loop (β := Nat) ⟨fun k => k ≤ ws.length, fun k => [(4, .pointer (some ⟨gT, 0, none⟩)), (5, int hs.length), (7, .slice wA ws.length wC), (8, int z), (9, .slice a1 (foundE cs hs pr ws z).1.length c1), (18, .slice ma (missK (reachK (trOf cs hs) z hs.length) (foundE cs hs pr ws z).1 hs.length).length mc), (20, int k)], fun _ => [], fun _ => [Row ma (rows (missK (reachK (trOf cs hs) z hs.length) (foundE cs hs pr ws z).1 hs.length)), Row a1 (rows (foundE cs hs pr ws z).1), Blk gT (.cells #[.slice CA cs.length ca, .slice HB hs.length cb] T.api_Trades (0, 0)), Row CA (rows cs), RowsF HB hs Hd.row, Row wA (rows ws)]⟩ (fun k => ws.length - k) 0 (Nat.zero_le _) ⟨rfl, rfl, rfl, rfl, rfl, rfl, rfl, trivial⟩ (List.nil_sublist _) ⟨mB, mB, mB, mB, mB, mB, trivial⟩ fun k hk => ?_
       simp only at hk
       refine hc_seq (hc_seq (hc_region (r_move rfl rfl (r_move rfl rfl ?_))))
       refine r_len_sl rfl T.u_ints rfl ?_
       refine r_lss rfl rfl rfl (hl_nil (then_n ?_))
       refine c_dec rfl (fun hb5 => ?_) (fun hb5 => ?_)
       ·have hb5' := hb5; try simp at hb5'
        have hk2 : k < ws.length := by omega
        refine hc_skip (then_n (hc_seq (hc_block (hc_seq (hc_region (r_move rfl rfl (r_move rfl rfl (r_move rfl rfl ?_))))))))
        refine r_elem (α := Int) ws k rfl T.u_ints T.sz_int rfl rfl rfl mB rfl (hk2) (by decide) ?_
        refine r_load (v := int (ws.getD k default)) rfl T.cell_int rfl (cell_row mB (rows_get0 (hk2) rfl)) ?_
        refine hl_call F.kit_Index_cb rfl rfl (kit_Index_meets (missK (reachK (trOf cs hs) z hs.length) (foundE cs hs pr ws z).1 hs.length) (ws.getD k default) (by omega)) (List.Perm.refl _) ⟨mB, trivial⟩ fun y hy => ?_
        refine r_geq rfl rfl rfl (hl_nil (then_n ?_))
        refine c_dec rfl (fun hb6 => ?_) (fun hb6 => ?_)
        ·exact absurd (hy.1.1 hb6) (miss_not (hhw _ (getD_mem hk2)))
        ·have hb6' := hb6; try simp at hb6'
         refine hc_skip (inb_n (then_n (hc_region (r_move rfl rfl ?_))))
         refine r_add _ rfl rfl rfl rfl (by unfold I64; omega) ?_
         refine r_assign rfl rfl (hl_nil ?_)
         exact again _ (k + 1) (by show k + 1 ≤ ws.length; omega) (by show ws.length - (k + 1) < ws.length - k; omega) ⟨rfl, rfl, rfl, rfl, rfl, rfl, rfl, trivial⟩ (.refl _) ⟨mB, mB, mB, mB, mB, mB, trivial⟩
       ·have hb5' := hb5; try simp at hb5'
        obtain rfl : k = ws.length := by omega
        refine hc_exit (then_exit (then_exit (inb_hit (then_n (hc_seq (hc_region (r_assign rfl rfl (hl_nil (then_n (hc_seq (hc_seq ?_)))))))))))
        refine hc_region (r_assign rfl rfl (hl_nil (then_n (hc_block ?_))))
        refine hc_loop (β := Nat) ⟨fun i => i ≤ hs.length, fun i => [(4, .pointer (some ⟨gT, 0, none⟩)), (5, int hs.length), (7, .slice wA ws.length wC), (8, int z), (9, .slice a1 (foundE cs hs pr ws z).1.length c1), (18, .slice ma (missK (reachK (trOf cs hs) z hs.length) (foundE cs hs pr ws z).1 hs.length).length mc), (21, int (missK (reachK (trOf cs hs) z hs.length) (foundE cs hs pr ws z).1 i).length), (22, int i)], fun _ => [], fun _ => [Row ma (rows (missK (reachK (trOf cs hs) z hs.length) (foundE cs hs pr ws z).1 hs.length)), Row a1 (rows (foundE cs hs pr ws z).1), Blk gT (.cells #[.slice CA cs.length ca, .slice HB hs.length cb] T.api_Trades (0, 0)), Row CA (rows cs), RowsF HB hs Hd.row, Row wA (rows ws)]⟩ (fun i => hs.length - i) 0 (Nat.zero_le _) ⟨rfl, rfl, rfl, rfl, rfl, rfl, rfl, rfl, trivial⟩ (List.nil_sublist _) ⟨mB, mB, mB, mB, mB, mB, trivial⟩ fun i hi => ?_
        simp only at hi
        have hmi := missK_len (reachK (trOf cs hs) z hs.length) (foundE cs hs pr ws z).1 i
        refine hc_seq (hc_seq (hc_region (r_move rfl rfl (r_move rfl rfl (r_lss rfl rfl rfl (hl_nil (then_n ?_)))))))
        refine c_dec rfl (fun hb7 => ?_) (fun hb7 => ?_)
        ·have hb7' := hb7; try simp at hb7'
         have hi2 : i < hs.length := by omega
         refine hc_skip (then_n (hc_seq (hc_block (hc_seq (hc_seq (hc_region (r_assign rfl rfl (hl_nil (then_n (hc_block ?_))))))))))
         refine hc_loop (β := Nat) ⟨fun k => k ≤ (foundE cs hs pr ws z).1.length, fun k => [(4, .pointer (some ⟨gT, 0, none⟩)), (5, int hs.length), (7, .slice wA ws.length wC), (8, int z), (9, .slice a1 (foundE cs hs pr ws z).1.length c1), (18, .slice ma (missK (reachK (trOf cs hs) z hs.length) (foundE cs hs pr ws z).1 hs.length).length mc), (21, int (missK (reachK (trOf cs hs) z hs.length) (foundE cs hs pr ws z).1 i).length), (22, int i), (23, int k)], fun _ => [], fun _ => [Row ma (rows (missK (reachK (trOf cs hs) z hs.length) (foundE cs hs pr ws z).1 hs.length)), Row a1 (rows (foundE cs hs pr ws z).1), Blk gT (.cells #[.slice CA cs.length ca, .slice HB hs.length cb] T.api_Trades (0, 0)), Row CA (rows cs), RowsF HB hs Hd.row, Row wA (rows ws)]⟩ (fun k => (foundE cs hs pr ws z).1.length - k) 0 (Nat.zero_le _) ⟨rfl, rfl, rfl, rfl, rfl, rfl, rfl, rfl, rfl, trivial⟩ (List.nil_sublist _) ⟨mB, mB, mB, mB, mB, mB, trivial⟩ fun k hk => ?_
         simp only at hk
         refine hc_seq (hc_seq (hc_region (r_move rfl rfl (r_move rfl rfl ?_))))
         refine r_len_sl rfl T.u_ints rfl ?_
         refine r_lss rfl rfl rfl (hl_nil (then_n ?_))
         refine c_dec rfl (fun hb8 => ?_) (fun hb8 => ?_)
         ·have hb8' := hb8; try simp at hb8'
          have hk2 : k < (foundE cs hs pr ws z).1.length := by omega
          have hkv := hhk _ (getD_mem hk2)
          have hkv2 := hkv
          try simp at hkv2
          refine hc_skip (then_n (hc_seq (hc_block (hc_seq (hc_region (r_move rfl rfl (r_move rfl rfl ?_)))))))
          refine r_elem (α := Int) (foundE cs hs pr ws z).1 k rfl T.u_ints T.sz_int rfl rfl rfl mB rfl (hk2) (by decide) ?_
          refine r_load (v := int ((foundE cs hs pr ws z).1.getD k default)) rfl T.cell_int rfl (cell_row mB (rows_get0 (hk2) rfl)) ?_
          refine r_lss rfl rfl rfl (r_move rfl rfl ?_)
          refine g_split rfl rfl ?_ ?_
          ·intro hg20; have hg20' := hg20; try simp at hg20'
           refine g_yes rfl rfl hg20 (r_move rfl rfl (g_yes rfl rfl hg20 (r_move rfl rfl (g_yes rfl rfl hg20 ?_))))
           refine r_elem (α := Int) (foundE cs hs pr ws z).1 k rfl T.u_ints T.sz_int rfl rfl rfl mB rfl (hk2) (by decide) ?_
           refine g_yes rfl rfl hg20 ?_
           refine r_load (v := int ((foundE cs hs pr ws z).1.getD k default)) rfl T.cell_int rfl (cell_row mB (rows_get0 (hk2) rfl)) ?_
           refine g_yes rfl rfl hg20 (r_move rfl rfl (g_yes rfl rfl hg20 (r_geq rfl rfl rfl ?_)))
           refine p_f rfl rfl (bf1 hg20) rfl ?_
           refine hl_nil (then_n ?_)
           refine c_dec rfl (fun hb9 => ?_) (fun hb9 => ?_)
           ·all_goals omega
           ·have hb9' := hb9; try simp at hb9'
            refine hc_skip (inb_n (then_n (hc_region (r_move rfl rfl ?_))))
            refine r_add _ rfl rfl rfl rfl (by unfold I64; omega) ?_
            refine r_assign rfl rfl (hl_nil ?_)
            exact again _ (k + 1) (by show k + 1 ≤ (foundE cs hs pr ws z).1.length; omega) (by show (foundE cs hs pr ws z).1.length - (k + 1) < (foundE cs hs pr ws z).1.length - k; omega) ⟨rfl, rfl, rfl, rfl, rfl, rfl, rfl, rfl, rfl, trivial⟩ (.refl _) ⟨mB, mB, mB, mB, mB, mB, trivial⟩
          ·intro hg20; have hg20' := hg20; try simp at hg20'
           all_goals omega
         ·have hb8' := hb8; try simp at hb8'
          refine hc_exit (then_exit (then_exit (inb_hit (then_n (hc_seq (hc_region ?_))))))
          refine r_loadB rfl T.row_api_Trades T.sz_api_Trades rfl mB (by rfl) ?_
          refine r_move rfl rfl (r_move rfl rfl (r_move rfl rfl ?_))
          refine hl_call F.law09_found_cb rfl rfl (law09_found_meets cs hs (i : Int) (foundE cs hs pr ws z).1 z hca hcb ha hT0 (by omega) hhk (by omega) rfl) (List.Perm.refl _) ⟨mB, mB, mB, trivial⟩ fun _ _ => ?_
          have hnm : (foundE cs hs pr ws z).1.any (nearB (trOf cs hs) z (i : Int)) = missB (reachK (trOf cs hs) z hs.length) (foundE cs hs pr ws z).1 i := by
            unfold missB
            rw [Bool.eq_iff_iff, List.any_eq_true, List.any_eq_true]
            refine exists_congr fun k => and_congr_right fun hk2 => ?_
            have h9 := near_at (p := z) hT0 (w := (i : Int)) (by omega) (hhk k hk2)
            rw [Int.toNat_natCast] at h9
            rw [h9]
          rw [hnm]
          refine r_move rfl rfl (r_extract rfl rfl rfl (r_extract rfl rfl rfl (r_assign rfl rfl (r_assign rfl rfl (hl_nil (then_n (hc_seq (hc_seq (hc_region (r_move rfl rfl (r_not rfl rfl ?_)))))))))))
          refine hl_nil (then_n ?_)
          refine hc_cond rfl (fun hb10 => ?_) (fun hb10 => ?_)
          ·cases hb10
          ·have hb10' := hb10; try simp at hb10'
           refine hc_skip (then_n (hc_seq (hc_region (r_move rfl rfl (r_not rfl rfl (hl_nil (then_n ?_)))))))
           refine hc_cond rfl (fun hb11 => ?_) (fun hb11 => ?_)
           ·have hb11' := hb11; try simp at hb11'
            have hnb : ¬ missB (reachK (trOf cs hs) z hs.length) (foundE cs hs pr ws z).1 i = true := by simpa using hb11
            have hma := miss_at hi2 hnb
            have hms : (missK (reachK (trOf cs hs) z hs.length) (foundE cs hs pr ws z).1 (i + 1)).length = (missK (reachK (trOf cs hs) z hs.length) (foundE cs hs pr ws z).1 i).length + 1 := by rw [missK_succ, if_neg hnb, List.length_append]; rfl
            refine hc_seq (hc_seq (hc_region (r_move rfl rfl (r_move rfl rfl ?_))))
            refine r_len_sl rfl T.u_ints rfl ?_
            refine r_geq rfl rfl rfl (r_move rfl rfl ?_)
            refine g_split rfl rfl ?_ ?_
            ·intro hg21; have hg21' := hg21; try simp at hg21'
             refine g_yes rfl rfl hg21 (r_move rfl rfl (g_yes rfl rfl hg21 (r_move rfl rfl (g_yes rfl rfl hg21 ?_))))
             refine r_elem (α := Int) (missK (reachK (trOf cs hs) z hs.length) (foundE cs hs pr ws z).1 hs.length) (missK (reachK (trOf cs hs) z hs.length) (foundE cs hs pr ws z).1 i).length rfl T.u_ints T.sz_int rfl rfl rfl mB rfl (hma.1) (by decide) ?_
             refine g_yes rfl rfl hg21 ?_
             refine r_load (v := int ((i : Int))) rfl T.cell_int rfl (cell_row mB (by rw [← hma.2]; exact rows_get0 (hma.1) rfl)) ?_
             refine g_yes rfl rfl hg21 (r_move rfl rfl (g_yes rfl rfl hg21 (r_neq rfl rfl rfl ?_)))
             refine p_f rfl rfl (bf1 hg21) rfl ?_
             refine hl_nil (then_n ?_)
             refine c_dec rfl (fun hb12 => ?_) (fun hb12 => ?_)
             ·exact absurd rfl hb12
             ·have hb12' := hb12; try simp at hb12'
              refine hc_skip (then_n (hc_region (r_move rfl rfl ?_)))
              refine r_add _ rfl rfl rfl rfl (by unfold I64; omega) ?_
              refine r_assign rfl rfl (hl_nil (inb_n (then_n (hc_region (r_move rfl rfl ?_)))))
              refine r_add _ rfl rfl rfl rfl (by unfold I64; omega) ?_
              refine r_assign rfl rfl (hl_nil ?_)
              exact again _ (i + 1) (by show i + 1 ≤ hs.length; omega) (by show hs.length - (i + 1) < hs.length - i; omega) ⟨rfl, rfl, rfl, rfl, rfl, rfl, congrArg (fun x => some (int x)) (show ((missK (reachK (trOf cs hs) z hs.length) (foundE cs hs pr ws z).1 i).length : Int) + 1 = ((missK (reachK (trOf cs hs) z hs.length) (foundE cs hs pr ws z).1 (i + 1)).length : Int) by omega), rfl, trivial⟩ (.refl _) ⟨mB, mB, mB, mB, mB, mB, trivial⟩
            ·intro hg21; have hg21' := hg21; try simp at hg21'
             all_goals omega
           ·have hb11' := hb11; try simp at hb11'
            have hnb : missB (reachK (trOf cs hs) z hs.length) (foundE cs hs pr ws z).1 i = true := by simpa using hb11
            have hms : (missK (reachK (trOf cs hs) z hs.length) (foundE cs hs pr ws z).1 (i + 1)).length = (missK (reachK (trOf cs hs) z hs.length) (foundE cs hs pr ws z).1 i).length := by rw [missK_succ, if_pos hnb]
            refine hc_skip (inb_n (then_n (hc_region (r_move rfl rfl ?_))))
            refine r_add _ rfl rfl rfl rfl (by unfold I64; omega) ?_
            refine r_assign rfl rfl (hl_nil ?_)
            exact again _ (i + 1) (by show i + 1 ≤ hs.length; omega) (by show hs.length - (i + 1) < hs.length - i; omega) ⟨rfl, rfl, rfl, rfl, rfl, rfl, congrArg (fun x : Nat => some (int (x : Int))) hms.symm, rfl, trivial⟩ (.refl _) ⟨mB, mB, mB, mB, mB, mB, trivial⟩
        ·have hb7' := hb7; try simp at hb7'
         obtain rfl : i = hs.length := by omega
         refine hc_exit (then_exit (then_exit (inb_hit (then_n (hc_seq (hc_region (r_move rfl rfl (r_move rfl rfl ?_))))))))
         refine r_len_sl rfl T.u_ints rfl ?_
         refine r_eql rfl rfl rfl (r_move rfl rfl ?_)
         refine g_split rfl rfl ?_ ?_
         ·intro hg22; have hg22' := hg22; try simp at hg22'
          refine g_yes rfl rfl hg22 ?_
          refine hl_call F.law09_paying_cb rfl rfl (law09_paying_meets) (List.Perm.refl _) trivial fun _ _ => ?_
          refine p_t rfl rfl (bt1 hg22) rfl ?_
          refine r_assign rfl rfl (hl_nil (then_n (hc_ret ?_)))
          exact ret1 () rfl rfl rfl trivial (List.nil_sublist _) trivial
         ·intro hg22; have hg22' := hg22; try simp at hg22'
          all_goals (first | exact absurd rfl hg22 | cases hg22 | omega)
     ·intro hg19; have hg19' := hg19; try simp at hg19'
end Go.Proofs.Ytdlbbfcfahahdaa
end
section
namespace Go.W
open Go Go.RowKit Go.ChangeShapes Go.WideShapes
section
variable {H : Type} {enc : TypeId × Value → H} {P : Program} {w : World} {base : Nat} {spare : Nat → Bool} {held : Bool}
theorem row_of {α : Type} [El α] (h1 : El.sz α = 1) {a : Addr} {l : List α} (h : ∀ j (hj : j < l.length), ∃ v, El.cells l[j] = [v] ∧ w.cell? (a.add j) = some v) : (Row (some a) (rows l)).P w := by
  intro j u hu
  refine ⟨a, rfl, ?_⟩
  have hj : j < l.length := by
    have := (List.getElem?_eq_some_iff.1 hu).1
    rw [rows_len, h1, Nat.mul_one] at this
    exact this
  obtain ⟨v, hv, hc⟩ := h j hj
  have h2 := rows_get (l := l) (i := j) (j := 0) (v := v) hj (by simp [List.getD_eq_getElem?_getD, hj, hv])
  rw [h1] at h2
  simp only [Nat.mul_one, Nat.add_zero] at h2
  rw [hu] at h2
  cases h2
  exact hc
theorem in_ints {t e : TypeId} {A : Option Addr} {n c fuel : Nat} {x : DataW H × List MemPlace} (ht : P.underlying t = some (.slice e)) (he : P.underlying e = some (.int .i64)) (hc : P.cellsOf e = 1)
    (h : DataW.trod enc P w base spare held fuel t [.slice A n c] = some x) : ∃ l : List Int, n = l.length ∧ l.length ≤ c ∧ c ≤ maxLen ∧ (Row A (rows l)).P w ∧ ∀ z ∈ l, I64 z := by
  rcases open_ints ht he hc h with ⟨hcs, _⟩ | ⟨a, len, cap, zs, hcs, _, hl, hm, hlen, _, hcell, hwf⟩
  · simp at hcs
    obtain ⟨rfl, rfl, rfl⟩ := hcs
    exact ⟨[], rfl, Nat.le_refl _, by unfold maxLen; omega, Row.nil _ _, by intro z hz; simp at hz⟩
  · simp at hcs
    obtain ⟨rfl, rfl, rfl⟩ := hcs
    have hle : n ≤ zs.length := by rw [hlen]; split <;> omega
    have hlen2 : (zs.take n).length = n := by rw [List.length_take]; omega
    refine ⟨zs.take n, hlen2.symm, by rw [hlen2]; exact hl, hm, row_of rfl fun j hj => ?_, fun z hz => ?_⟩
    · rw [hlen2] at hj
      refine ⟨int zs[j], by simp [El.cells], ?_⟩
      rw [hcell j (by omega)]
      simp [List.getD_eq_getElem?_getD, show j < zs.length by omega]
    · have := hwf z (List.mem_of_mem_take hz)
      simp [Lit.wf, IntKind.min, IntKind.max, IntKind.signed, IntKind.bits] at this
      exact ⟨by omega, by omega⟩
theorem law_calls {f : Nat} {args : List Value} {LI : List Fact} (h : Meets P f args ({ LI := LI, val := fun _ : Unit => .bool true } : Con Unit)) (hL : ∀ F ∈ LI, F.P w) : CallsB P f args.toArray w fun v w' => v = .bool true ∧ Below w.heap.size w w' := by
  refine (h w ⟨Ext.refl _ _, by simp, by simp, by simp, hL, by simp, fun F hF k hk => .inr (.inr ⟨F, hF, hk⟩)⟩).mono fun v w' hp => ?_
  obtain ⟨_, rfl, _, hwi⟩ := hp
  exact ⟨rfl, hwi.ext.below⟩
end
end Go.W
end
