/- Texts of this claim, one behind another. -/

import Derived.Test.YtdlbbfcfahahdaaKAf
import Derived.Test.YtdlbbfcfahahdaaKAe
import Derived.Test.YtdlbbfcfahahdaaKAp
section
namespace Go.W
open Go Go.RowKit
set_option linter.unusedVariables false
set_option linter.unusedSimpArgs false
/-- Behind a piece of code that may jump back to the label: the state there, with less to do than before. -/
def GoQ {β : Type} (s : Sta β) (μ : β → Nat) (m : Option Nat) (l : Nat) (c : Cx) (Q : Exit → Act → World → Prop) : Exit → Act → World → Prop
  | .goto l', a, w => l' = l ∧ ∃ y, s.inv y ∧ (∀ k, m = some k → μ y < k) ∧ Ok c a (s.fr y) ∧ WI c.b w (s.hp y) (s.L y)
  | e, a, w => Q e a w
section
variable {c : Cx} {Q : Exit → Act → World → Prop} {fr : Fr} {hp : Hp} {L : List Fact}
theorem hc_goto {β : Type} (s : Sta β) (μ : β → Nat) {l : Nat} {body x : Code} (hl : findLabel body l = some (.seq .skip x))
    (first : (∀ y, s.inv y → HC c x (GoQ s μ none l c Q) (s.fr y) (s.hp y) (s.L y)) → HC c body (GoQ s μ none l c Q) fr hp L)
    (round : ∀ y, s.inv y → HC c x (GoQ s μ (some (μ y)) l c Q) (s.fr y) (s.hp y) (s.L y)) : HC c (.scope body) Q fr hp L := by
  have weak : ∀ m, ∀ e a w, GoQ s μ m l c Q e a w → GoQ s μ none l c Q e a w := fun m e a w h => by
    cases e <;> first | exact h | (obtain ⟨h1, y, h2, _, h3⟩ := h; exact ⟨h1, y, h2, (fun k e => by cases e), h3⟩)
  have hf := first fun y hy a w ha hw => cwp_mono (round y hy a w ha hw) fun e a w h => weak _ e a w h
  intro a w ha hw
  refine cwp_scope hl (fun m a w => ∃ y, μ y = m ∧ s.inv y ∧ Ok c a (s.fr y) ∧ WI c.b w (s.hp y) (s.L y)) (cwp_mono (hf a w ha hw) fun e a w h => ?_) fun m a w ⟨y, hm, hy, hok, hwi⟩ => ?_
  · cases e <;> first | exact h | (obtain ⟨h1, y, h2, _, h3, h4⟩ := h; exact ⟨h1, μ y, y, rfl, h2, h3, h4⟩)
  · have hr : HC c (.seq .skip x) (GoQ s μ (some (μ y)) l c Q) (s.fr y) (s.hp y) (s.L y) := hc_seq (hc_skip (then_n (round y hy)))
    refine cwp_mono (hr a w hok hwi) fun e a w h => ?_
    cases e <;> first | exact h | (obtain ⟨h1, z, h2, h5, h3, h4⟩ := h; exact ⟨h1, μ z, by rw [← hm]; exact h5 _ rfl, z, rfl, h2, h3, h4⟩)
theorem hc_jump {l : Nat} (h : HQ c Q (.goto l) fr hp L) : HC c (.goto l) Q fr hp L := fun a w ha hw => cwp_goto (h a w ha hw)
theorem then_goto {K : Act → World → Prop} {l : Nat} (h : HQ c Q (.goto l) fr hp L) : HQ c (Exit.then K Q) (.goto l) fr hp L := fun a w ha hw => h a w ha hw
theorem go_ret {β : Type} {s : Sta β} {μ : β → Nat} {m : Option Nat} {l : Nat} (h : HQ c Q .ret fr hp L) : HQ c (GoQ s μ m l c Q) .ret fr hp L := fun a w ha hw => h a w ha hw
theorem go_again {β : Type} (s : Sta β) {μ : β → Nat} {m l : Nat} (y : β) (hy : s.inv y) (hlt : μ y < m) (h1 : FrSub fr (s.fr y)) (h2 : (s.hp y).Sublist hp) (h3 : LSub L (s.L y)) :
    HQ c (GoQ s μ (some m) l c Q) (.goto l) fr hp L := fun a w ha hw => ⟨rfl, y, hy, fun k e => by cases e; exact hlt, ha.sub h1, hw.weak h2 h3.mem⟩
theorem go_enter {β : Type} (s : Sta β) {μ : β → Nat} {l : Nat} {x : Code} (H : ∀ y, s.inv y → HC c x (GoQ s μ none l c Q) (s.fr y) (s.hp y) (s.L y)) (y : β) (hy : s.inv y) (h1 : FrSub fr (s.fr y)) (h2 : (s.hp y).Sublist hp) (h3 : LSub L (s.L y)) :
    HC c (.seq (.label l) x) (GoQ s μ none l c Q) fr hp L := hc_seq (hc_label (then_n (hc_sub h1 h2 h3 (H y hy))))
/-- A result that is a variable of several cells, and two that are slots. -/
theorem ret_row_tmp2 {β : Type} {k : Con β} {fn : Func} {w0 : World} (x : β) {t u r : Tmp} {ty e : TypeId} {g n : Nat} {cs : Array Value} {fz : Nat × Nat} {v2 v3 : Value} (hres : fn.results = #[.cell t ty, .tmp u, .tmp r]) (hv : lk fr t = some (.pointer (some ⟨g, 0, none⟩))) (hv2 : lk fr u = some v2) (hv3 : lk fr r = some v3) (ht : IsR c.P ty) (hz : Sz c.P ty n) (hn : cs.size = n)
    (hm : (g, Obj.cells cs e fz) ∈ hp) (hk : k.val x = .tuple #[.agg cs, v2, v3]) (hb : c.b = k.entry w0) (hi : k.inv x) (h2 : (k.hpO x).Sublist hp) (h3 : LSub L (k.LO x)) (hD : c.D = [] := by rfl) : HQ c (postB c.P fn (k.post w0)) .ret fr hp L :=
  ret_run x (fun a w ha hw => by
    obtain ⟨dd, ht, hr⟩ := ht
    have h1 := hw.own _ hm
    simp only at h1
    have hl : (loadVar ty ⟨g, 0, none⟩).run c.P w = .ok (.agg cs) w := by
      have hagg : (isAgg ty).run c.P w = .ok true w := by
        unfold isAgg
        rw [Sem.run_bind, run_underlying ht w]
        cases dd <;> simp_all [TypeDesc.isRow]
      have hc := run_loadCells_list (P := c.P) w ⟨g, 0, none⟩ cs.toList (fun j u hu => by rw [add_mk, Nat.zero_add]; simp at hu; simp [World.cell?, h1, hu])
      have hs := size_of hz w
      simp only [loadVar, Sem.run_bind, hagg, Result.andThen_ok, if_true, hs, ← hn]
      have e : cs.size = cs.toList.length := by simp
      rw [e, hc]
      simp
    have hv' := ha.at_ _ _ hv
    have hv2' := ha.at_ _ _ hv2
    have hv3' := ha.at_ _ _ hv3
    rw [hk]
    unfold results
    rw [hres]
    have h5 : a.tmps[t]?.getD undef = .pointer (some ⟨g, 0, none⟩) := by simpa using hv'
    have h6 : a.tmps[u]?.getD undef = v2 := by simpa using hv2'
    have h7 : a.tmps[r]?.getD undef = v3 := by simpa using hv3'
    simp [h5, h6, h7, asAddr, hl]) hb hi h2 h3 hD
end
end Go.W
end
section
namespace Go.Proofs.Ytdlbbfcfahahdaa
open Go Go.W
set_option linter.unusedVariables false
set_option linter.unusedSimpArgs false
set_option maxRecDepth 20000
attribute [local irreducible] HL HC HQ HB Row Rows2 Blk Facts
/-- The bill of an advert's customer with the advert. -/
def bilA (c : Ch) (ss : List Int) (xs : List Ad) (y : Ad) : Int := bilN c ss (xs ++ [y]) y.1.toNat
def chStep (c : Ch) (ss : List Int) (xs : List Ad) (o : Option (Ad × Int)) (y : Ad) : Option (Ad × Int) :=
  if ¬ adErr ss.length y = 0 then o else match o with
    | none => some (y, bilA c ss xs y)
    | some z => if bilA c ss xs y < z.2 then some (y, bilA c ss xs y) else some z
def xA : Option (Ad × Int) → Ad
  | none => (0, 0, 0)
  | some z => z.1
def xB : Option (Ad × Int) → Int
  | none => 0
  | some z => z.2
/-- All adverts of one kind, with so many lines and more. -/
def chIn (c : Ch) (ss : List Int) (xs : List Ad) (cu ln : Int) (kd : Nat) (o : Option (Ad × Int)) (i : Nat) : Option (Ad × Int) := (List.range i).foldl (fun o (j : Nat) => chStep c ss xs o (cu, (kd : Int), ln + (j : Int))) o
def chOut (c : Ch) (ss : List Int) (xs : List Ad) (cu ln : Int) (k : Nat) : Option (Ad × Int) := (List.range k).foldl (fun o kd => chIn c ss xs cu ln (kd + 1) o (7 - ln).toNat) none
theorem chIn_succ (c : Ch) (ss : List Int) (xs : List Ad) (cu ln : Int) (kd : Nat) (o : Option (Ad × Int)) (i : Nat) : chIn c ss xs cu ln kd o (i + 1) = chStep c ss xs (chIn c ss xs cu ln kd o i) (cu, (kd : Int), ln + (i : Int)) := by
  unfold chIn; rw [List.range_succ, List.foldl_append]; rfl
theorem chOut_succ (c : Ch) (ss : List Int) (xs : List Ad) (cu ln : Int) (k : Nat) : chOut c ss xs cu ln (k + 1) = chIn c ss xs cu ln (k + 1) (chOut c ss xs cu ln k) (7 - ln).toNat := by
  unfold chOut; rw [List.range_succ, List.foldl_append]; rfl
theorem ch_err {c : Ch} {ss : List Int} {xs : List Ad} {o : Option (Ad × Int)} {y : Ad} (h : ¬ adErr ss.length y = 0) : chStep c ss xs o y = o := if_pos h
theorem ch_take {c : Ch} {ss : List Int} {xs : List Ad} {o : Option (Ad × Int)} {y : Ad} (h : adErr ss.length y = 0) (h2 : o.isSome = false ∨ bilA c ss xs y < xB o) : chStep c ss xs o y = some (y, bilA c ss xs y) := by
  unfold chStep
  rw [if_neg (fun e => e h)]
  cases o with
  | none => rfl
  | some z => exact if_pos (h2.elim (fun e => by cases e) fun e => e)
theorem ch_keep {c : Ch} {ss : List Int} {xs : List Ad} {o : Option (Ad × Int)} {y : Ad} (h : adErr ss.length y = 0) (h2 : o.isSome = true) (h3 : ¬ bilA c ss xs y < xB o) : chStep c ss xs o y = o := by
  unfold chStep
  rw [if_neg (fun e => e h)]
  cases o with
  | none => cases h2
  | some z => exact if_neg h3
def cheapE (c : Ch) (ss : List Int) (xs : List Ad) (cu ln : Int) : Ad × Int × Int :=
  if ¬ chkS c ss xs = 0 then ((0, 0, 0), 0, chkS c ss xs) else if ¬ (0 ≤ cu ∧ cu ≤ (ss.length : Int) - 1) then ((0, 0, 0), 0, 3) else if ¬ (1 ≤ ln ∧ ln ≤ 6) then ((0, 0, 0), 0, 1) else if 8 ≤ xs.length then ((0, 0, 0), 0, 6)
  else (xA (chOut c ss xs cu ln 3), xB (chOut c ss xs cu ln 3), 0)
/-- Where the search stands. -/
def chAt (c : Ch) (ss : List Int) (xs : List Ad) (cu ln : Int) (x : Nat × Nat) : Option (Ad × Int) := chIn c ss xs cu ln (x.1 + 1) (chOut c ss xs cu ln x.1) x.2
theorem chAt_next (c : Ch) (ss : List Int) (xs : List Ad) (cu : Int) {ln : Int} {k i : Nat} (h : ln + (i : Int) + 1 = 7) : chAt c ss xs cu ln (k + 1, 0) = chAt c ss xs cu ln (k, i + 1) := by
  show chIn c ss xs cu ln (k + 1 + 1) (chOut c ss xs cu ln (k + 1)) 0 = chIn c ss xs cu ln (k + 1) (chOut c ss xs cu ln k) (i + 1)
  rw [chOut_succ, show (7 - ln).toNat = i + 1 by omega]
  rfl
theorem chAt_succ (c : Ch) (ss : List Int) (xs : List Ad) (cu ln : Int) (k i : Nat) : chAt c ss xs cu ln (k, i + 1) = chStep c ss xs (chAt c ss xs cu ln (k, i)) (cu, ((k + 1 : Nat) : Int), ln + (i : Int)) := chIn_succ ..
theorem not_false_is : ∀ {b : Bool}, ((!b) == false) = true → b = true := by decide
theorem not_true_is : ∀ {b : Bool}, ((!b) == false) = false → b = false := by decide
set_option maxHeartbeats 1000000 in
theorem bold_Cheapest_meets (c : Ch) (ps : Sl Int) (qs : Sl Ad) (cu ln : Int) (hn : ps.l.length ≤ 1000000) (hm : qs.l.length ≤ 1000000) (hqc0 : qs.l.length ≤ qs.c) : Meets Try.prog F.bold_Cheapest [saV c ps qs, int cu, int ln] { LI := saL ps qs, val := fun _ : Unit => .tuple #[adV (cheapE c ps.l qs.l cu ln).1, int (cheapE c ps.l qs.l cu ln).2.1, int (cheapE c ps.l qs.l cu ln).2.2] } := by
 refine meets_intro F.bold_Cheapest_f rfl (Nat.le_of_ble_eq_true rfl) fun w0 => ?_
 refine hc_seq (hc_region ?_)
 refine r_box rfl rfl fun gB => ?_
 refine r_alloc rfl (fun _ => T.al_api_Advert _) fun g6 => ?_
 refine r_assign rfl rfl (r_assign rfl rfl (hl_nil (then_n ?_)))
 refine hc_goto (⟨fun x => (chkS c ps.l qs.l = 0 ∧ (0 ≤ cu ∧ cu ≤ (ps.l.length : Int) - 1) ∧ (1 ≤ ln ∧ ln ≤ 6) ∧ qs.l.length ≤ 7) ∧ x.1 ≤ 2 ∧ ln + (x.2 : Int) ≤ 6, fun x => [(1, int cu), (2, int ln), (3, .pointer (some ⟨gB, 0, none⟩)), (6, .pointer (some ⟨g6, 0, none⟩)), (7, int (xB (chAt c ps.l qs.l cu ln x))), (12, .bool ((chAt c ps.l qs.l cu ln x)).isSome), (10, int (x.1 + 1 : Nat)), (11, int (ln + (x.2 : Int)))], fun x => [(g6, Obj.cells #[int (xA (chAt c ps.l qs.l cu ln x)).1, int (xA (chAt c ps.l qs.l cu ln x)).2.1, int (xA (chAt c ps.l qs.l cu ln x)).2.2] T.api_Advert (0, 0))], fun _ => [Blk gB (.cells (saC c ps qs) T.api_Sales (0, 0)), Row ps.a (rows ps.l), Row qs.a (rows qs.l)]⟩ : Sta (Nat × Nat)) (fun x => (3 - x.1) * 10 + (10 - x.2)) (l := 0) rfl ?_ ?_
 ·refine fun hgo => ?_
  refine hc_seq (hc_seq (hc_region ?_))
  first | refine r_loadA rfl T.row_api_Sales T.sz_api_Sales rfl mB (by rfl) ?_ | refine r_loadB rfl T.row_api_Sales T.sz_api_Sales rfl mB (by rfl) ?_ | refine r_loadS rfl T.row_api_Sales T.sz_api_Sales rfl rfl (cells_row mB (rows_all (by omega))) ?_
  refine hl_call F.bold_Check_cb rfl rfl (bold_Check_meets c ps qs hn hm) (List.Perm.refl _) ⟨mB, mB, trivial⟩ fun _ _ => ?_
  refine r_assign rfl rfl (hl_nil (then_n (hc_seq (hc_region (r_move rfl rfl (r_neq rfl rfl rfl (hl_nil (then_n ?_))))))))
  first | refine c_dec rfl (fun hb1 => ?_) (fun hb1 => ?_) | refine hc_cond rfl (fun hb1 => ?_) (fun hb1 => ?_)
  ·have hb1' := hb1; try simp at hb1'
   refine hc_seq (hc_region ?_)
   refine r_build _ rfl rfl (fun _ => T.bd_api_Advert_ ..) ?_
   refine r_move rfl rfl ?_
   refine r_storeS (cs := #[int 0, int 0, int 0]) rfl rfl (.refl _) T.sz_api_Advert (by rfl) (by rfl) ?_
   refine r_assign rfl rfl (r_assign rfl rfl (hl_nil (then_n (hc_ret (then_ret (go_ret ?_))))))
   have hE : (cheapE c ps.l qs.l cu ln) = ((0, 0, 0), 0, chkS c ps.l qs.l) := by unfold cheapE; rw [if_pos hb1]
   exact ret_row_tmp2 () rfl rfl rfl rfl T.row_api_Advert T.sz_api_Advert (cs := #[int 0, int 0, int 0]) rfl m0 (by show Value.tuple #[adV (cheapE c ps.l qs.l cu ln).1, int (cheapE c ps.l qs.l cu ln).2.1, int (cheapE c ps.l qs.l cu ln).2.2] = _; rw [hE]) rfl trivial (List.nil_sublist _) trivial
  ·have hb1' := hb1; try simp at hb1'
   have h0 : chkS c ps.l qs.l = 0 := Classical.not_not.1 hb1
   have hsa := sa_ok h0
   have hn5 := hsa.n5
   refine hc_skip (then_n (hc_seq (hc_block (hc_seq (hc_region (r_move rfl rfl ?_))))))
   first | refine r_fieldAddr ⟨_, 6, none⟩ rfl rfl T.fa_api_Sales_1 rfl ?_ | refine r_fieldAddr _ rfl rfl T.fa_api_Sales_1 rfl ?_
   first | refine r_load rfl T.cell_ints rfl (cell_own mB rfl) ?_ | refine r_load rfl T.cell_ints rfl (cell_blk mB rfl) ?_ | refine r_load rfl T.cell_ints rfl (cell_row mB (rows_get0 (by omega) rfl)) ?_ | refine r_load rfl T.cell_ints rfl (cell_row_f mB (rows_get (by omega) rfl)) ?_ | refine r_load rfl T.cell_ints rfl (cell_rowg mB rfl) ?_
   refine r_len_sl rfl T.u_ints rfl ?_
   refine r_sub _ rfl rfl rfl rfl (by unfold I64; omega) ?_
   refine hl_call F.bold_between_cb rfl rfl (bold_between_meets _ _ _) (List.Perm.refl _) trivial fun _ _ => ?_
   refine r_not rfl rfl (r_assign rfl rfl (hl_nil (then_n ?_)))
   first | refine c_dec rfl (fun hb2 => ?_) (fun hb2 => ?_) | refine hc_cond rfl (fun hb2 => ?_) (fun hb2 => ?_)
   ·have hb2' := hb2; try simp at hb2'
    refine hc_seq (hc_region ?_)
    refine r_build _ rfl rfl (fun _ => T.bd_api_Advert_ ..) ?_
    refine r_storeS (cs := #[int 0, int 0, int 0]) rfl rfl (.refl _) T.sz_api_Advert (by rfl) (by rfl) ?_
    refine r_assign rfl rfl (r_assign rfl rfl (hl_nil (then_n (hc_ret (inb_ret (then_ret (go_ret ?_)))))))
    have hE : (cheapE c ps.l qs.l cu ln) = ((0, 0, 0), 0, 3) := by unfold cheapE; rw [if_neg hb1, if_pos (nbt hb2)]
    exact ret_row_tmp2 () rfl rfl rfl rfl T.row_api_Advert T.sz_api_Advert (cs := #[int 0, int 0, int 0]) rfl m0 (by show Value.tuple #[adV (cheapE c ps.l qs.l cu ln).1, int (cheapE c ps.l qs.l cu ln).2.1, int (cheapE c ps.l qs.l cu ln).2.2] = _; rw [hE]) rfl trivial (List.nil_sublist _) trivial
   ·have hb2' := hb2; try simp at hb2'
    have hcu := nbf hb2
    refine hc_seq (hc_region (r_move rfl rfl ?_))
    refine hl_call F.bold_between_cb rfl rfl (bold_between_meets _ _ _) (List.Perm.refl _) trivial fun _ _ => ?_
    refine r_not rfl rfl (r_assign rfl rfl (hl_nil (then_n ?_)))
    first | refine c_dec rfl (fun hb3 => ?_) (fun hb3 => ?_) | refine hc_cond rfl (fun hb3 => ?_) (fun hb3 => ?_)
    ·have hb3' := hb3; try simp at hb3'
     refine hc_seq (hc_region ?_)
     refine r_build _ rfl rfl (fun _ => T.bd_api_Advert_ ..) ?_
     refine r_storeS (cs := #[int 0, int 0, int 0]) rfl rfl (.refl _) T.sz_api_Advert (by rfl) (by rfl) ?_
     refine r_assign rfl rfl (r_assign rfl rfl (hl_nil (then_n (hc_ret (inb_ret (then_ret (go_ret ?_)))))))
     have hE : (cheapE c ps.l qs.l cu ln) = ((0, 0, 0), 0, 1) := by unfold cheapE; rw [if_neg hb1, if_neg (Classical.not_not.2 hcu), if_pos (nbt hb3)]
     exact ret_row_tmp2 () rfl rfl rfl rfl T.row_api_Advert T.sz_api_Advert (cs := #[int 0, int 0, int 0]) rfl m0 (by show Value.tuple #[adV (cheapE c ps.l qs.l cu ln).1, int (cheapE c ps.l qs.l cu ln).2.1, int (cheapE c ps.l qs.l cu ln).2.2] = _; rw [hE]) rfl trivial (List.nil_sublist _) trivial
    ·have hb3' := hb3; try simp at hb3'
     have hln := nbf hb3
     refine hc_seq (hc_region ?_)
     first | refine r_fieldAddr ⟨_, 7, none⟩ rfl rfl T.fa_api_Sales_2 rfl ?_ | refine r_fieldAddr _ rfl rfl T.fa_api_Sales_2 rfl ?_
     first | refine r_load rfl T.cell_L_api_Advert rfl (cell_own mB rfl) ?_ | refine r_load rfl T.cell_L_api_Advert rfl (cell_blk mB rfl) ?_ | refine r_load rfl T.cell_L_api_Advert rfl (cell_row mB (rows_get0 (by omega) rfl)) ?_ | refine r_load rfl T.cell_L_api_Advert rfl (cell_row_f mB (rows_get (by omega) rfl)) ?_ | refine r_load rfl T.cell_L_api_Advert rfl (cell_rowg mB rfl) ?_
     refine r_len_sl rfl T.u_L_api_Advert rfl ?_
     refine r_geq rfl rfl rfl (r_assign rfl rfl (hl_nil (then_n ?_)))
     first | refine c_dec rfl (fun hb4 => ?_) (fun hb4 => ?_) | refine hc_cond rfl (fun hb4 => ?_) (fun hb4 => ?_)
     ·have hb4' := hb4; try simp at hb4'
      refine hc_seq (hc_region ?_)
      refine r_build _ rfl rfl (fun _ => T.bd_api_Advert_ ..) ?_
      refine r_storeS (cs := #[int 0, int 0, int 0]) rfl rfl (.refl _) T.sz_api_Advert (by rfl) (by rfl) ?_
      refine r_assign rfl rfl (r_assign rfl rfl (hl_nil (then_n (hc_ret (inb_ret (then_ret (go_ret ?_)))))))
      have hE : (cheapE c ps.l qs.l cu ln) = ((0, 0, 0), 0, 6) := by unfold cheapE; rw [if_neg hb1, if_neg (Classical.not_not.2 hcu), if_neg (Classical.not_not.2 hln), if_pos (by omega)]
      exact ret_row_tmp2 () rfl rfl rfl rfl T.row_api_Advert T.sz_api_Advert (cs := #[int 0, int 0, int 0]) rfl m0 (by show Value.tuple #[adV (cheapE c ps.l qs.l cu ln).1, int (cheapE c ps.l qs.l cu ln).2.1, int (cheapE c ps.l qs.l cu ln).2.2] = _; rw [hE]) rfl trivial (List.nil_sublist _) trivial
     ·have hb4' := hb4; try simp at hb4'
      have hq7 : qs.l.length ≤ 7 := by omega
      refine hc_skip (inb_n (then_n (hc_seq ?_)))
      refine hc_perm (.swap _ _ _) ?_
      refine hc_letgoB (hc_region (r_move rfl rfl (r_assign rfl rfl (r_assign rfl rfl (hl_nil (then_n (hc_seq (hc_region (r_assign rfl rfl (hl_nil (then_n ?_)))))))))))
      exact go_enter (⟨fun x => (chkS c ps.l qs.l = 0 ∧ (0 ≤ cu ∧ cu ≤ (ps.l.length : Int) - 1) ∧ (1 ≤ ln ∧ ln ≤ 6) ∧ qs.l.length ≤ 7) ∧ x.1 ≤ 2 ∧ ln + (x.2 : Int) ≤ 6, fun x => [(1, int cu), (2, int ln), (3, .pointer (some ⟨gB, 0, none⟩)), (6, .pointer (some ⟨g6, 0, none⟩)), (7, int (xB (chAt c ps.l qs.l cu ln x))), (12, .bool ((chAt c ps.l qs.l cu ln x)).isSome), (10, int (x.1 + 1 : Nat)), (11, int (ln + (x.2 : Int)))], fun x => [(g6, Obj.cells #[int (xA (chAt c ps.l qs.l cu ln x)).1, int (xA (chAt c ps.l qs.l cu ln x)).2.1, int (xA (chAt c ps.l qs.l cu ln x)).2.2] T.api_Advert (0, 0))], fun _ => [Blk gB (.cells (saC c ps qs) T.api_Sales (0, 0)), Row ps.a (rows ps.l), Row qs.a (rows qs.l)]⟩ : Sta (Nat × Nat)) hgo (0, 0) ⟨⟨h0, hcu, hln, hq7⟩, Nat.zero_le _, by show ln + ((0 : Nat) : Int) ≤ 6; omega⟩ ⟨rfl, rfl, rfl, rfl, rfl, rfl, rfl, congrArg (fun z => some (int z)) (Int.add_zero ln).symm, trivial⟩ (.refl _) ⟨mB, mB, mB, trivial⟩
 ·rintro ⟨k, i⟩ ⟨⟨h0, hcu, hln, hq7⟩, hk, hi⟩
  simp only at hk hi
  have hsa := sa_ok h0
  have hn5 := hsa.n5
  have hqc : qs.l.length ≤ qs.c := hqc0
  refine hc_seq (hc_region (r_move rfl rfl (r_move rfl rfl (r_move rfl rfl ?_))))
  refine r_build _ rfl rfl (fun _ => T.bd_api_Advert_0_1_2 ..) ?_
  refine r_alloc rfl (fun _ => T.al_api_Advert _) fun gx => ?_
  refine r_storeS (cs := #[int cu, int (k + 1 : Nat), int (ln + (i : Int))]) rfl rfl (.refl _) T.sz_api_Advert (by rfl) (by rfl) ?_
  refine hl_nil (then_n ?_)
  refine hc_cut ⟨fun _ : Unit => True, fun _ => [(1, int cu), (2, int ln), (3, .pointer (some ⟨gB, 0, none⟩)), (6, .pointer (some ⟨g6, 0, none⟩)), (7, int (xB (chAt c ps.l qs.l cu ln (k, i + 1)))), (12, .bool ((chAt c ps.l qs.l cu ln (k, i + 1))).isSome), (10, int (k + 1 : Nat)), (11, int (ln + (i : Int)))], fun _ => [(g6, Obj.cells #[int (xA (chAt c ps.l qs.l cu ln (k, i + 1))).1, int (xA (chAt c ps.l qs.l cu ln (k, i + 1))).2.1, int (xA (chAt c ps.l qs.l cu ln (k, i + 1))).2.2] T.api_Advert (0, 0))], fun _ => [Blk gB (.cells (saC c ps qs) T.api_Sales (0, 0)), Row ps.a (rows ps.l), Row qs.a (rows qs.l)]⟩ ?_ ?_
  ·skip
   refine hc_seq (hc_region ?_)
   first | refine r_loadA rfl T.row_api_Sales T.sz_api_Sales rfl mB (by rfl) ?_ | refine r_loadB rfl T.row_api_Sales T.sz_api_Sales rfl mB (by rfl) ?_ | refine r_loadS rfl T.row_api_Sales T.sz_api_Sales rfl rfl (cells_row mB (rows_all (by omega))) ?_
   first | refine r_loadA rfl T.row_api_Advert T.sz_api_Advert rfl mB (by rfl) ?_ | refine r_loadB rfl T.row_api_Advert T.sz_api_Advert rfl mB (by rfl) ?_ | refine r_loadS rfl T.row_api_Advert T.sz_api_Advert rfl rfl (cells_row mB (rows_all (by omega))) ?_
   refine hl_call F.bold_advertError_cb rfl rfl (bold_advertError_meets c ps qs ((cu, ((k + 1 : Nat) : Int), ln + (i : Int)) : Ad) hn) (List.Perm.refl _) ⟨mB, mB, trivial⟩ fun _ _ => ?_
   refine r_eql rfl rfl rfl (hl_nil (then_n ?_))
   first | refine c_dec rfl (fun hb5 => ?_) (fun hb5 => ?_) | refine hc_cond rfl (fun hb5 => ?_) (fun hb5 => ?_)
   ·have hb5' := hb5; try simp at hb5'
    have hadr : adErr ps.l.length ((cu, ((k + 1 : Nat) : Int), ln + (i : Int)) : Ad) = 0 := hb5
    obtain ⟨m, hme⟩ := Int.eq_ofNat_of_zero_le hcu.1
    have hm2 : m < ps.l.length := by omega
    have h0q : chkS c ps.l (qs.l ++ [((cu, ((k + 1 : Nat) : Int), ln + (i : Int)) : Ad)]) = 0 := chk_snoc h0 hadr hq7
    have hbv : (numsN 103 c ps.l (qs.l ++ [((cu, ((k + 1 : Nat) : Int), ln + (i : Int)) : Ad)])).getD m default = bilA c ps.l qs.l ((cu, ((k + 1 : Nat) : Int), ln + (i : Int)) : Ad) := by rw [bill_at c ps.l _ hm2]; show _ = bilN c ps.l _ cu.toNat; rw [hme, Int.toNat_natCast]
    refine hc_seq (hc_region ?_)
    first | refine r_loadA rfl T.row_api_Sales T.sz_api_Sales rfl mB (by rfl) ?_ | refine r_loadB rfl T.row_api_Sales T.sz_api_Sales rfl mB (by rfl) ?_ | refine r_loadS rfl T.row_api_Sales T.sz_api_Sales rfl rfl (cells_row mB (rows_all (by omega))) ?_
    first | refine r_loadA rfl T.row_api_Advert T.sz_api_Advert rfl mB (by rfl) ?_ | refine r_loadB rfl T.row_api_Advert T.sz_api_Advert rfl mB (by rfl) ?_ | refine r_loadS rfl T.row_api_Advert T.sz_api_Advert rfl rfl (cells_row mB (rows_all (by omega))) ?_
    refine hl_call F.bold_with_cb rfl rfl (bold_with_meets c ps qs ((cu, ((k + 1 : Nat) : Int), ln + (i : Int)) : Ad) (by omega) hqc) (List.Perm.refl _) ⟨mB, mB, trivial⟩ fun q hq => ?_
    obtain ⟨qa, qc, ql⟩ := q
    obtain ⟨hq1, hq2⟩ := hq
    obtain rfl : ql = qs.l ++ [((cu, ((k + 1 : Nat) : Int), ln + (i : Int)) : Ad)] := hq1
    refine hl_call F.bold_bills_cb rfl rfl (bold_bills_meets c ps ⟨qa, qc, qs.l ++ [((cu, ((k + 1 : Nat) : Int), ln + (i : Int)) : Ad)]⟩ (sa_ok h0q)) (List.Perm.refl _) ⟨mB, mB, trivial⟩ fun gb _ => ?_
    refine hl_letgo (rows (numsN 103 c ps.l (qs.l ++ [((cu, ((k + 1 : Nat) : Int), ln + (i : Int)) : Ad)]))) (List.prefix_refl _) ?_
    refine r_move rfl rfl ?_
    refine r_elem (α := Int) (numsN 103 c ps.l (qs.l ++ [((cu, ((k + 1 : Nat) : Int), ln + (i : Int)) : Ad)])) m rfl T.u_ints T.sz_int rfl rfl hme mB (by rw [nums_len]) (by rw [nums_len]; exact hm2) (by decide) ?_
    refine r_load (v := int (bilA c ps.l qs.l ((cu, ((k + 1 : Nat) : Int), ln + (i : Int)) : Ad))) rfl T.cell_int rfl (cell_row mB (by rw [← hbv]; exact rows_get0 (by rw [nums_len]; exact hm2) rfl)) ?_
    refine r_assign rfl rfl (hl_nil (then_n (hc_seq (hc_region (r_move rfl rfl (r_not rfl rfl (r_move rfl rfl ?_)))))))
    refine g_split rfl rfl ?_ ?_
    ·intro hg1; have hg1' := hg1; try simp at hg1'
     have hso := not_false_is hg1
     refine g_yes rfl rfl hg1 (r_move rfl rfl (g_yes rfl rfl hg1 (r_move rfl rfl (g_yes rfl rfl hg1 (r_lss rfl rfl rfl ?_)))))
     refine p_f rfl rfl (bf1 hg1) rfl ?_
     refine hl_nil (then_n ?_)
     first | refine c_dec rfl (fun hb6 => ?_) (fun hb6 => ?_) | refine hc_cond rfl (fun hb6 => ?_) (fun hb6 => ?_)
     ·have hb6' := hb6; try simp at hb6'
      refine hc_region ?_
      first | refine r_loadA rfl T.row_api_Advert T.sz_api_Advert rfl mB (by rfl) ?_ | refine r_loadB rfl T.row_api_Advert T.sz_api_Advert rfl mB (by rfl) ?_ | refine r_loadS rfl T.row_api_Advert T.sz_api_Advert rfl rfl (cells_row mB (rows_all (by omega))) ?_
      refine r_move rfl rfl ?_
      refine r_storeS (cs := #[int cu, int (k + 1 : Nat), int (ln + (i : Int))]) (hp' := [(gx, Obj.cells #[int cu, int (k + 1 : Nat), int (ln + (i : Int))] T.api_Advert (0, 0))]) rfl rfl (.swap _ _ _) T.sz_api_Advert (by rfl) (by rfl) ?_
      refine r_assign rfl rfl (r_assign rfl rfl (hl_nil ?_))
      have hst : (chAt c ps.l qs.l cu ln (k, i + 1)) = some (((cu, ((k + 1 : Nat) : Int), ln + (i : Int)) : Ad), bilA c ps.l qs.l ((cu, ((k + 1 : Nat) : Int), ln + (i : Int)) : Ad)) := by rw [chAt_succ]; exact ch_take hadr (.inr hb6)
      exact cut_n _ () trivial ⟨rfl, rfl, rfl, rfl, congrArg (fun o => some (int (xB o))) hst.symm, congrArg (fun o => some (Value.bool (Option.isSome o))) hst.symm, rfl, rfl, trivial⟩ (by show List.Sublist [(g6, Obj.cells #[int (xA (chAt c ps.l qs.l cu ln (k, i + 1))).1, int (xA (chAt c ps.l qs.l cu ln (k, i + 1))).2.1, int (xA (chAt c ps.l qs.l cu ln (k, i + 1))).2.2] T.api_Advert (0, 0))] _; rw [hst]; exact .cons_cons _ (List.nil_sublist _)) ⟨mB, mB, mB, trivial⟩
     ·have hb6' := hb6; try simp at hb6'
      refine hc_skip ?_
      have hst : (chAt c ps.l qs.l cu ln (k, i + 1)) = (chAt c ps.l qs.l cu ln (k, i)) := by rw [chAt_succ]; exact ch_keep hadr hso hb6
      exact cut_n _ () trivial ⟨rfl, rfl, rfl, rfl, congrArg (fun o => some (int (xB o))) hst.symm, congrArg (fun o => some (Value.bool (Option.isSome o))) hst.symm, rfl, rfl, trivial⟩ (by show List.Sublist [(g6, Obj.cells #[int (xA (chAt c ps.l qs.l cu ln (k, i + 1))).1, int (xA (chAt c ps.l qs.l cu ln (k, i + 1))).2.1, int (xA (chAt c ps.l qs.l cu ln (k, i + 1))).2.2] T.api_Advert (0, 0))] _; rw [hst]; exact .cons _ (.refl _)) ⟨mB, mB, mB, trivial⟩
    ·intro hg1; have hg1' := hg1; try simp at hg1'
     have hso := not_true_is hg1
     refine g_no rfl rfl rfl rfl rfl hg1 (g_no rfl rfl rfl rfl rfl hg1 (g_no rfl rfl rfl rfl rfl hg1 ?_))
     refine p_t rfl rfl (bt2 hg1) rfl ?_
     refine hl_nil (then_n (c_t rfl rfl (hc_region ?_)))
     first | refine r_loadA rfl T.row_api_Advert T.sz_api_Advert rfl mB (by rfl) ?_ | refine r_loadB rfl T.row_api_Advert T.sz_api_Advert rfl mB (by rfl) ?_ | refine r_loadS rfl T.row_api_Advert T.sz_api_Advert rfl rfl (cells_row mB (rows_all (by omega))) ?_
     refine r_move rfl rfl ?_
     refine r_storeS (cs := #[int cu, int (k + 1 : Nat), int (ln + (i : Int))]) (hp' := [(gx, Obj.cells #[int cu, int (k + 1 : Nat), int (ln + (i : Int))] T.api_Advert (0, 0))]) rfl rfl (.swap _ _ _) T.sz_api_Advert (by rfl) (by rfl) ?_
     refine r_assign rfl rfl (r_assign rfl rfl (hl_nil ?_))
     have hst : (chAt c ps.l qs.l cu ln (k, i + 1)) = some (((cu, ((k + 1 : Nat) : Int), ln + (i : Int)) : Ad), bilA c ps.l qs.l ((cu, ((k + 1 : Nat) : Int), ln + (i : Int)) : Ad)) := by rw [chAt_succ]; exact ch_take hadr (.inl hso)
     exact cut_n _ () trivial ⟨rfl, rfl, rfl, rfl, congrArg (fun o => some (int (xB o))) hst.symm, congrArg (fun o => some (Value.bool (Option.isSome o))) hst.symm, rfl, rfl, trivial⟩ (by show List.Sublist [(g6, Obj.cells #[int (xA (chAt c ps.l qs.l cu ln (k, i + 1))).1, int (xA (chAt c ps.l qs.l cu ln (k, i + 1))).2.1, int (xA (chAt c ps.l qs.l cu ln (k, i + 1))).2.2] T.api_Advert (0, 0))] _; rw [hst]; exact .cons_cons _ (List.nil_sublist _)) ⟨mB, mB, mB, trivial⟩
   ·have hb5' := hb5; try simp at hb5'
    refine hc_skip ?_
    have hst : (chAt c ps.l qs.l cu ln (k, i + 1)) = (chAt c ps.l qs.l cu ln (k, i)) := by rw [chAt_succ]; exact ch_err hb5
    exact cut_n _ () trivial ⟨rfl, rfl, rfl, rfl, congrArg (fun o => some (int (xB o))) hst.symm, congrArg (fun o => some (Value.bool (Option.isSome o))) hst.symm, rfl, rfl, trivial⟩ (by show List.Sublist [(g6, Obj.cells #[int (xA (chAt c ps.l qs.l cu ln (k, i + 1))).1, int (xA (chAt c ps.l qs.l cu ln (k, i + 1))).2.1, int (xA (chAt c ps.l qs.l cu ln (k, i + 1))).2.2] T.api_Advert (0, 0))] _; rw [hst]; exact .cons _ (.refl _)) ⟨mB, mB, mB, trivial⟩
  ·refine fun _ _ => ?_
   refine hc_cut ⟨fun x : Nat × Nat => x.1 ≤ 3 ∧ (chAt c ps.l qs.l cu ln x) = (chAt c ps.l qs.l cu ln (k, i + 1)) ∧ (ln + (x.2 : Int) ≤ 6) ∧ (3 - x.1) * 10 + (10 - x.2) < (3 - k) * 10 + (10 - i) ∧ (x.1 = 3 → x.2 = 0), fun x => [(1, int cu), (2, int ln), (3, .pointer (some ⟨gB, 0, none⟩)), (6, .pointer (some ⟨g6, 0, none⟩)), (7, int (xB (chAt c ps.l qs.l cu ln x))), (12, .bool ((chAt c ps.l qs.l cu ln x)).isSome), (10, int (x.1 + 1 : Nat)), (11, int (ln + (x.2 : Int)))], fun x => [(g6, Obj.cells #[int (xA (chAt c ps.l qs.l cu ln x)).1, int (xA (chAt c ps.l qs.l cu ln x)).2.1, int (xA (chAt c ps.l qs.l cu ln x)).2.2] T.api_Advert (0, 0))], fun _ => [Blk gB (.cells (saC c ps qs) T.api_Sales (0, 0)), Row ps.a (rows ps.l), Row qs.a (rows qs.l)]⟩ ?_ ?_
   ·skip
    refine hc_seq (hc_region (r_move rfl rfl ?_))
    refine r_add _ rfl rfl rfl rfl (by unfold I64; omega) ?_
    refine r_assign rfl rfl (hl_nil (then_n (hc_seq (hc_region (r_move rfl rfl (r_gtr rfl rfl rfl (hl_nil (then_n ?_))))))))
    first | refine c_dec rfl (fun hb7 => ?_) (fun hb7 => ?_) | refine hc_cond rfl (fun hb7 => ?_) (fun hb7 => ?_)
    ·have hb7' := hb7; try simp at hb7'
     refine hc_region (r_move rfl rfl ?_)
     refine r_add _ rfl rfl rfl rfl (by unfold I64; omega) ?_
     refine r_move rfl rfl (r_assign rfl rfl (r_assign rfl rfl (hl_nil ?_)))
     have hne := chAt_next c ps.l qs.l cu (ln := ln) (k := k) (i := i) (by omega)
     exact cut_n _ (k + 1, 0) ⟨by show k + 1 ≤ 3; omega, hne, by show ln + ((0 : Nat) : Int) ≤ 6; omega, by show (3 - (k + 1)) * 10 + 10 < (3 - k) * 10 + (10 - i); omega, fun _ => rfl⟩ ⟨rfl, rfl, rfl, rfl, congrArg (fun o => some (int (xB o))) hne.symm, congrArg (fun o => some (Value.bool (Option.isSome o))) hne.symm, rfl, congrArg (fun z => some (int z)) (Int.add_zero ln).symm, trivial⟩ (by show List.Sublist [(g6, Obj.cells #[int (xA (chAt c ps.l qs.l cu ln (k + 1, 0))).1, int (xA (chAt c ps.l qs.l cu ln (k + 1, 0))).2.1, int (xA (chAt c ps.l qs.l cu ln (k + 1, 0))).2.2] T.api_Advert (0, 0))] _; rw [hne]; exact .refl _) ⟨mB, mB, mB, trivial⟩
    ·have hb7' := hb7; try simp at hb7'
     refine hc_skip ?_
     exact cut_n _ (k, i + 1) ⟨by show k ≤ 3; omega, rfl, by show ln + ((i + 1 : Nat) : Int) ≤ 6; omega, by show (3 - k) * 10 + (10 - (i + 1)) < (3 - k) * 10 + (10 - i); omega, fun e => by simp only at e; omega⟩ ⟨rfl, rfl, rfl, rfl, rfl, rfl, rfl, congrArg (fun z => some (int z)) (show ln + (i : Int) + 1 = ln + ((i + 1 : Nat) : Int) by omega), trivial⟩ (.refl _) ⟨mB, mB, mB, trivial⟩
   ·rintro ⟨k2, i2⟩ ⟨h2k, h2e, h2i, h2m, h2z⟩
    simp only at h2k h2e h2i h2m h2z
    refine hc_seq (hc_seq (hc_region (r_move rfl rfl (r_leq rfl rfl rfl (hl_nil (then_n ?_))))))
    first | refine c_dec rfl (fun hb8 => ?_) (fun hb8 => ?_) | refine hc_cond rfl (fun hb8 => ?_) (fun hb8 => ?_)
    ·have hb8' := hb8; try simp at hb8'
     have h2l : k2 ≤ 2 := by omega
     refine hc_jump (then_goto ?_)
     exact go_again (⟨fun x => (chkS c ps.l qs.l = 0 ∧ (0 ≤ cu ∧ cu ≤ (ps.l.length : Int) - 1) ∧ (1 ≤ ln ∧ ln ≤ 6) ∧ qs.l.length ≤ 7) ∧ x.1 ≤ 2 ∧ ln + (x.2 : Int) ≤ 6, fun x => [(1, int cu), (2, int ln), (3, .pointer (some ⟨gB, 0, none⟩)), (6, .pointer (some ⟨g6, 0, none⟩)), (7, int (xB (chAt c ps.l qs.l cu ln x))), (12, .bool ((chAt c ps.l qs.l cu ln x)).isSome), (10, int (x.1 + 1 : Nat)), (11, int (ln + (x.2 : Int)))], fun x => [(g6, Obj.cells #[int (xA (chAt c ps.l qs.l cu ln x)).1, int (xA (chAt c ps.l qs.l cu ln x)).2.1, int (xA (chAt c ps.l qs.l cu ln x)).2.2] T.api_Advert (0, 0))], fun _ => [Blk gB (.cells (saC c ps qs) T.api_Sales (0, 0)), Row ps.a (rows ps.l), Row qs.a (rows qs.l)]⟩ : Sta (Nat × Nat)) (k2, i2) ⟨⟨h0, hcu, hln, hq7⟩, by show k2 ≤ 2; omega, h2i⟩ h2m ⟨rfl, rfl, rfl, rfl, rfl, rfl, rfl, rfl, trivial⟩ (.refl _) ⟨mB, mB, mB, trivial⟩
    ·have hb8' := hb8; try simp at hb8'
     obtain rfl : k2 = 3 := by omega
     obtain rfl : i2 = 0 := h2z rfl
     have hE : (cheapE c ps.l qs.l cu ln) = (xA (chAt c ps.l qs.l cu ln (3, 0)), xB (chAt c ps.l qs.l cu ln (3, 0)), 0) := by unfold cheapE; rw [if_neg (fun e => e h0), if_neg (Classical.not_not.2 hcu), if_neg (Classical.not_not.2 hln), if_neg (by omega)]; rfl
     refine hc_skip (then_n (hc_seq (hc_region ?_)))
     first | refine r_loadA rfl T.row_api_Advert T.sz_api_Advert rfl mB (by rfl) ?_ | refine r_loadB rfl T.row_api_Advert T.sz_api_Advert rfl mB (by rfl) ?_ | refine r_loadS rfl T.row_api_Advert T.sz_api_Advert rfl rfl (cells_row mB (rows_all (by omega))) ?_
     refine r_move rfl rfl ?_
     refine r_storeS (cs := #[int (xA (chAt c ps.l qs.l cu ln (3, 0))).1, int (xA (chAt c ps.l qs.l cu ln (3, 0))).2.1, int (xA (chAt c ps.l qs.l cu ln (3, 0))).2.2]) rfl rfl (.refl _) T.sz_api_Advert (by rfl) (by rfl) ?_
     refine r_assign rfl rfl (r_assign rfl rfl (hl_nil (then_n (hc_ret (go_ret ?_)))))
     exact ret_row_tmp2 () rfl rfl rfl rfl T.row_api_Advert T.sz_api_Advert (cs := #[int (xA (chAt c ps.l qs.l cu ln (3, 0))).1, int (xA (chAt c ps.l qs.l cu ln (3, 0))).2.1, int (xA (chAt c ps.l qs.l cu ln (3, 0))).2.2]) rfl m0 (by show Value.tuple #[adV (cheapE c ps.l qs.l cu ln).1, int (cheapE c ps.l qs.l cu ln).2.1, int (cheapE c ps.l qs.l cu ln).2.2] = _; rw [hE]) rfl trivial (List.nil_sublist _) trivial
end Go.Proofs.Ytdlbbfcfahahdaa
end
section
namespace Go.Proofs.Ytdlbbfcfahahdaa
open Go Go.W
set_option linter.unusedVariables false
set_option linter.unusedSimpArgs false
set_option maxRecDepth 20000
attribute [local irreducible] HL HC HQ HB Row Rows2 Blk Facts
theorem cheap_is (c : Ch) (ps : Sl Int) (qs : Sl Ad) (cu ln : Int) (h0 : chkS c ps.l qs.l = 0) (hcu : 0 ≤ cu ∧ cu ≤ (ps.l.length : Int) - 1) (hln : 1 ≤ ln ∧ ln ≤ 6) (hq7 : qs.l.length ≤ 7) (hn : ps.l.length ≤ 1000000) (hm : qs.l.length ≤ 1000000) (hqc : qs.l.length ≤ qs.c) : Meets Try.prog F.bold_Cheapest [saV c ps qs, int cu, int ln] { LI := saL ps qs, val := fun _ : Unit => .tuple #[adV (xA (chOut c ps.l qs.l cu ln 3)), int (xB (chOut c ps.l qs.l cu ln 3)), int 0] } := by
  have h := bold_Cheapest_meets c ps qs cu ln hn hm hqc
  rw [show cheapE c ps.l qs.l cu ln = (xA (chOut c ps.l qs.l cu ln 3), xB (chOut c ps.l qs.l cu ln 3), 0) by unfold cheapE; rw [if_neg (fun e => e h0), if_neg (Classical.not_not.2 hcu), if_neg (Classical.not_not.2 hln), if_neg (by omega)]] at h
  exact h
def xC : Option (Ad × Int) → Int
  | none => -1
  | some z => z.2
def chItem (cu ln : Int) (kd j : Nat) : Ad := (cu, (kd : Int), ln + (j : Int))
def chList (cu ln : Int) (k : Nat) : List Ad := (List.range k).flatMap fun kd => (List.range (7 - ln).toNat).map fun j => chItem cu ln (kd + 1) j
theorem chIn_fold (c : Ch) (ss : List Int) (xs : List Ad) (cu ln : Int) (kd : Nat) (o : Option (Ad × Int)) (i : Nat) : chIn c ss xs cu ln kd o i = ((List.range i).map fun j => chItem cu ln kd j).foldl (chStep c ss xs) o := by
  rw [List.foldl_map]; rfl
theorem chOut_fold (c : Ch) (ss : List Int) (xs : List Ad) (cu ln : Int) : ∀ k, chOut c ss xs cu ln k = (chList cu ln k).foldl (chStep c ss xs) none
  | 0 => rfl
  | k + 1 => by
    rw [chOut_succ, chOut_fold c ss xs cu ln k, chIn_fold]
    unfold chList
    rw [List.range_succ, List.flatMap_append, List.foldl_append]
    simp
theorem step_some {c : Ch} {ss : List Int} {xs : List Ad} {o : Option (Ad × Int)} (y : Ad) (h : o.isSome = true) : (chStep c ss xs o y).isSome = true ∧ xB (chStep c ss xs o y) ≤ xB o := by
  unfold chStep
  split
  · exact ⟨h, Int.le_refl _⟩
  · cases o with
    | none => cases h
    | some z =>
      simp only
      split
      · exact ⟨rfl, by simp only [xB]; omega⟩
      · exact ⟨rfl, Int.le_refl _⟩
theorem step_take {c : Ch} {ss : List Int} {xs : List Ad} {o : Option (Ad × Int)} {y : Ad} (hy : adErr ss.length y = 0) : (chStep c ss xs o y).isSome = true ∧ xB (chStep c ss xs o y) ≤ bilA c ss xs y := by
  unfold chStep
  rw [if_neg (fun e => e hy)]
  cases o with
  | none => exact ⟨rfl, Int.le_refl _⟩
  | some z =>
    simp only
    split
    · exact ⟨rfl, Int.le_refl _⟩
    · exact ⟨rfl, by simp only [xB]; omega⟩
theorem fold_some {c : Ch} {ss : List Int} {xs : List Ad} : ∀ (l : List Ad) {o : Option (Ad × Int)}, o.isSome = true → (l.foldl (chStep c ss xs) o).isSome = true ∧ xB (l.foldl (chStep c ss xs) o) ≤ xB o
  | [], _, h => ⟨h, Int.le_refl _⟩
  | y :: l, o, h => by
    have h1 := step_some (c := c) (ss := ss) (xs := xs) y h
    have h2 := fold_some (c := c) (ss := ss) (xs := xs) l h1.1
    exact ⟨h2.1, Int.le_trans h2.2 h1.2⟩
theorem fold_least {c : Ch} {ss : List Int} {xs : List Ad} : ∀ (l : List Ad) {o : Option (Ad × Int)} {y : Ad}, y ∈ l → adErr ss.length y = 0 → (l.foldl (chStep c ss xs) o).isSome = true ∧ xB (l.foldl (chStep c ss xs) o) ≤ bilA c ss xs y
  | x :: l, o, y, h, hy => by
    rcases List.mem_cons.1 h with rfl | h
    · have h1 := step_take (c := c) (xs := xs) (o := o) hy
      have h2 := fold_some (c := c) (ss := ss) (xs := xs) l h1.1
      exact ⟨h2.1, Int.le_trans h2.2 h1.2⟩
    · exact fold_least l h hy
theorem step_att {c : Ch} {ss : List Int} {xs : List Ad} {o : Option (Ad × Int)} {y : Ad} {z : Ad × Int} (h : chStep c ss xs o y = some z) : o = some z ∨ (z.1 = y ∧ adErr ss.length z.1 = 0 ∧ z.2 = bilA c ss xs z.1) := by
  unfold chStep at h
  split at h
  · exact .inl h
  · rename_i hy
    have hy := Classical.not_not.1 hy
    cases o with
    | none => simp only [Option.some.injEq] at h; subst h; exact .inr ⟨rfl, hy, rfl⟩
    | some w =>
      simp only at h
      split at h
      · simp only [Option.some.injEq] at h; subst h; exact .inr ⟨rfl, hy, rfl⟩
      · exact .inl h
theorem fold_att {c : Ch} {ss : List Int} {xs : List Ad} : ∀ (l : List Ad) {o : Option (Ad × Int)} {z : Ad × Int}, l.foldl (chStep c ss xs) o = some z → o = some z ∨ (z.1 ∈ l ∧ adErr ss.length z.1 = 0 ∧ z.2 = bilA c ss xs z.1)
  | [], _, _, h => .inl h
  | y :: l, o, z, h => by
    rcases fold_att l (o := chStep c ss xs o y) h with h1 | ⟨h1, h2, h3⟩
    · exact (step_att h1).elim .inl fun ⟨h2, h3, h4⟩ => .inr ⟨h2 ▸ List.mem_cons_self .., h3, h4⟩
    · exact .inr ⟨List.mem_cons_of_mem _ h1, h2, h3⟩
theorem ch_mem {cu ln : Int} {y : Ad} (hl : ln ≤ 7) : y ∈ chList cu ln 3 ↔ y.1 = cu ∧ (1 ≤ y.2.1 ∧ y.2.1 ≤ 3) ∧ (ln ≤ y.2.2 ∧ y.2.2 ≤ 6) := by
  unfold chList chItem
  simp only [List.mem_flatMap, List.mem_map, List.mem_range]
  constructor
  · rintro ⟨kd, h1, j, h2, rfl⟩
    exact ⟨rfl, by simp only; omega, by simp only; omega⟩
  · rintro ⟨h1, h2, h3⟩
    refine ⟨(y.2.1 - 1).toNat, by omega, (y.2.2 - ln).toNat, by omega, ?_⟩
    obtain ⟨a, b, d⟩ := y
    simp only at h1 h2 h3 ⊢
    subst h1
    rw [show (((b - 1).toNat + 1 : Nat) : Int) = b by omega, show ln + (((d - ln).toNat : Nat) : Int) = d by omega]
theorem ad_mk {n : Nat} {y : Ad} (h1 : 0 ≤ y.1 ∧ y.1 < (n : Int)) (h2 : 1 ≤ y.2.1 ∧ y.2.1 ≤ 3) (h3 : 1 ≤ y.2.2 ∧ y.2.2 ≤ 6) (h4 : y.2.1 = 1 → y.2.2 = 1) : adErr n y = 0 := by
  unfold adErr
  have : ¬ y.2.1 = 1 ∨ y.2.2 = 1 := by omega
  rw [if_neg (by omega), if_neg (by omega), if_neg (by omega)]
theorem cheap_least {c : Ch} {ss : List Int} {xs : List Ad} {cu ln : Int} (hcu : 0 ≤ cu ∧ cu < (ss.length : Int)) (hl : 1 ≤ ln ∧ ln ≤ 6) : (chOut c ss xs cu ln 3).isSome = true := by
  rw [chOut_fold]
  refine (fold_least (y := (cu, 2, ln)) _ ((ch_mem (by omega)).2 ⟨rfl, by simp only; omega, by simp only; omega⟩) (ad_mk hcu (by simp only; omega) hl (fun e => by simp only at e; omega))).1
theorem cheap_mono {c : Ch} {ss : List Int} {xs : List Ad} {cu ln : Int} (hcu : 0 ≤ cu ∧ cu < (ss.length : Int)) (hl : 1 ≤ ln ∧ ln + 1 ≤ 6) : xB (chOut c ss xs cu ln 3) ≤ xB (chOut c ss xs cu (ln + 1) 3) := by
  obtain ⟨z, hz⟩ := Option.isSome_iff_exists.1 (cheap_least (c := c) (xs := xs) hcu (show 1 ≤ ln + 1 ∧ ln + 1 ≤ 6 by omega))
  have h1 := hz
  rw [chOut_fold] at h1
  rcases fold_att _ h1 with h2 | ⟨h2, h3, h4⟩
  · cases h2
  · rw [hz]
    show _ ≤ z.2
    rw [h4, chOut_fold]
    have h5 := (ch_mem (by omega)).1 h2
    exact (fold_least _ ((ch_mem (by omega)).2 ⟨h5.1, h5.2.1, by omega⟩) h3).2
theorem xC_some {o : Option (Ad × Int)} (h : o.isSome = true) : xC o = xB o := by cases o <;> simp_all [xC, xB]
/-- What is found has a bill. -/
def chNN (o : Option (Ad × Int)) : Prop := ∀ z, o = some z → 0 ≤ z.2
theorem ch_takeC {c : Ch} {ss : List Int} {xs : List Ad} {o : Option (Ad × Int)} {y : Ad} (h : adErr ss.length y = 0) (hn : chNN o) (h2 : xC o < 0 ∨ bilA c ss xs y < xC o) : chStep c ss xs o y = some (y, bilA c ss xs y) := by
  refine ch_take h ?_
  cases o with
  | none => exact .inl rfl
  | some z => have := hn z rfl; simp only [xC, xB] at h2 ⊢; exact .inr (by omega)
theorem ch_keepC {c : Ch} {ss : List Int} {xs : List Ad} {o : Option (Ad × Int)} {y : Ad} (h : adErr ss.length y = 0) (h1 : ¬ xC o < 0) (h2 : ¬ bilA c ss xs y < xC o) : chStep c ss xs o y = o := by
  cases o with
  | none => exact absurd (show (-1 : Int) < 0 by decide) h1
  | some z => exact ch_keep h rfl h2
theorem chNN_step {c : Ch} {ss : List Int} {xs : List Ad} {o : Option (Ad × Int)} {y : Ad} (h : chNN o) (hy : adErr ss.length y = 0 → 0 ≤ bilA c ss xs y) : chNN (chStep c ss xs o y) := fun z hz => by
  rcases step_att hz with h1 | ⟨h1, h2, h3⟩
  · exact h z h1
  · rw [h3, h1]; exact hy (h1 ▸ h2)
theorem ch_nn {c : Ch} {ss : List Int} {xs : List Ad} {m ln : Nat} (h0 : chkS c ss xs = 0) (hq : xs.length ≤ 7) (hm : m < ss.length) (hl : 1 ≤ ln ∧ ln ≤ 6) : 0 ≤ xB (chOut c ss xs (m : Int) (ln : Int) 3) := by
  obtain ⟨z, hz⟩ := Option.isSome_iff_exists.1 (cheap_least (c := c) (ss := ss) (xs := xs) (cu := (m : Int)) (ln := (ln : Int)) (by omega) (by omega))
  have h1 := hz
  rw [chOut_fold] at h1
  rcases fold_att _ h1 with h2 | ⟨h2, h3, h4⟩
  · cases h2
  · rw [hz]
    show 0 ≤ z.2
    rw [h4]
    exact (bil_bd (sa_ok (chk_snoc h0 h3 hq)) _).1
set_option maxHeartbeats 1000000 in
theorem law09_BoldCheapest_meets {A : Option Addr} {cn : Nat} (nums : List Int) (hn : nums.length ≤ 9223372036854775807) : Meets Try.prog F.law09_BoldCheapest [.slice A nums.length cn] { LI := [Row A (rows nums)], val := fun _ : Unit => .bool true } := by
 refine meets_intro F.law09_BoldCheapest_f rfl (Nat.le_of_ble_eq_true rfl) fun w0 => ?_
 refine hc_seq (hc_region (r_assign rfl rfl (hl_nil (then_n (hc_seq (hc_region (r_move rfl rfl ?_)))))))
 refine hl_call F.kit_NewDice_cb rfl rfl (kit_NewDice_meets nums) (List.Perm.refl _) ⟨mB, trivial⟩ fun g _ => ?_
 refine r_assign rfl rfl (hl_nil (then_n (hc_seq (hc_region (r_move rfl rfl ?_)))))
 refine hl_call F.kit_SalesOf_cb rfl rfl (kit_SalesOf_meets 7 hn (dok0 nums) (by decide)) (List.Perm.refl _) ⟨mB, trivial⟩ fun xs1 hs1 => ?_
 obtain ⟨s1, sz⟩ := xs1
 obtain ⟨hs1, hsz⟩ := hs1
 simp only at hs1
 obtain ⟨c, ps, qs⟩ := sz
 have h0 : chkS c ps.l qs.l = 0 := hsz.ok
 have hqm : qs.l.length ≤ 7 := hsz.x8
 have hpc : ps.l.length ≤ ps.c := hsz.ca
 have hqc : qs.l.length ≤ qs.c := hsz.cb
 have hsa := sa_ok h0
 have hn1 := hsa.n1
 have hn5 := hsa.n5
 have hqx := hsa.x8
 have hpl : ps.l.length ≤ 1000000 := by omega
 have hql : qs.l.length ≤ 1000000 := by omega
 clear hsz
 refine r_alloc rfl (fun _ => T.al_api_Sales _) fun gS => ?_
 refine r_storeS (cs := saC c ps qs) rfl rfl (.refl _) T.sz_api_Sales (by rfl) (by rfl) ?_
 refine hl_nil (then_n (hc_seq (hc_letgoB (hc_region (r_move rfl rfl ?_)))))
 first | refine r_fieldAddr ⟨_, 6, none⟩ rfl rfl T.fa_api_Sales_1 rfl ?_ | refine r_fieldAddr _ rfl rfl T.fa_api_Sales_1 rfl ?_
 first | refine r_load rfl T.cell_ints rfl (cell_own mB rfl) ?_ | refine r_load rfl T.cell_ints rfl (cell_blk mB rfl) ?_ | refine r_load rfl T.cell_ints rfl (cell_row mB (rows_get0 (by omega) rfl)) ?_ | refine r_load rfl T.cell_ints rfl (cell_row_f mB (rows_get (by omega) rfl)) ?_ | refine r_load rfl T.cell_ints rfl (cell_rowg mB rfl) ?_
 refine r_len_sl rfl T.u_ints rfl ?_
 refine r_sub _ rfl rfl rfl rfl (by unfold I64; omega) ?_
 refine hl_call F.kit_Dice_To_cb rfl rfl (kit_Dice_To_meets ((ps.l.length : Int) - 1) hn hs1 (by omega)) (List.Perm.refl _) ⟨mB, trivial⟩ fun xs2 hs2 => ?_
 obtain ⟨s2, m⟩ := xs2
 obtain ⟨hs2, hm⟩ := hs2
 simp only at hs2
 have hm : 0 ≤ m ∧ m ≤ (ps.l.length : Int) - 1 := to_bd hm (by omega)
 obtain ⟨m, rfl⟩ := Int.eq_ofNat_of_zero_le hm.1
 refine r_assign rfl rfl (hl_nil (then_n (hc_seq (hc_region (r_assign rfl rfl (hl_nil (then_n (hc_seq (hc_seq (hc_region (r_assign rfl rfl ?_)))))))))))
 refine hl_nil (then_n (hc_block ?_))
 have hm2 : m < ps.l.length := by omega
 refine hc_loop (β := Nat × Int) ⟨fun x => (1 ≤ x.1 ∧ x.1 ≤ 7) ∧ (x.1 ≤ 6 → x.2 ≤ xB (chOut c ps.l qs.l (m : Int) (x.1 : Int) 3)), fun x => [(4, .pointer (some ⟨gS, 0, none⟩)), (5, int (m : Int)), (6, int x.2), (7, int x.1)], fun _ => [], fun _ => [Blk gS (.cells (saC c ps qs) T.api_Sales (0, 0)), Row ps.a (rows ps.l), Row qs.a (rows qs.l)]⟩ (fun x => 7 - x.1) (1, 0) ⟨⟨Nat.le_refl 1, by decide⟩, fun _ => ch_nn h0 hqm (by omega) (by decide)⟩ ⟨rfl, rfl, rfl, rfl, trivial⟩ (List.nil_sublist _) ⟨mB, mB, mB, trivial⟩ fun x hx => ?_
 obtain ⟨ln, b⟩ := x
 obtain ⟨hl, hb⟩ := hx
 simp only at hl hb
 refine hc_seq (hc_seq (hc_region (r_move rfl rfl (r_leq rfl rfl rfl (hl_nil (then_n ?_))))))
 first | refine c_dec rfl (fun hb1 => ?_) (fun hb1 => ?_) | refine hc_cond rfl (fun hb1 => ?_) (fun hb1 => ?_)
 ·have hb1' := hb1; try simp at hb1'
  have hl6 : ln ≤ 6 := by omega
  have hb := hb hl6
  refine hc_skip (then_n (hc_seq (hc_block (hc_seq (hc_region ?_)))))
  first | refine r_loadA rfl T.row_api_Sales T.sz_api_Sales rfl mB (by rfl) ?_ | refine r_loadB rfl T.row_api_Sales T.sz_api_Sales rfl mB (by rfl) ?_ | refine r_loadS rfl T.row_api_Sales T.sz_api_Sales rfl rfl (cells_row mB (rows_all (by omega))) ?_
  refine r_move rfl rfl (r_move rfl rfl ?_)
  refine hl_call F.bold_Cheapest_cb rfl rfl (cheap_is c ps qs (m : Int) (ln : Int) h0 (by omega) (by omega) hqm hpl hql hqc) (List.Perm.refl _) ⟨mB, mB, trivial⟩ fun _ _ => ?_
  refine r_move rfl rfl (r_extract rfl rfl rfl (r_extract rfl rfl rfl (r_extract rfl rfl rfl ?_)))
  refine r_alloc rfl (fun _ => T.al_api_Advert _) fun g8 => ?_
  refine r_storeS (cs := #[int (xA (chOut c ps.l qs.l (m : Int) (ln : Int) 3)).1, int (xA (chOut c ps.l qs.l (m : Int) (ln : Int) 3)).2.1, int (xA (chOut c ps.l qs.l (m : Int) (ln : Int) 3)).2.2]) rfl rfl (.refl _) T.sz_api_Advert (by rfl) (by rfl) ?_
  refine r_assign rfl rfl (r_assign rfl rfl (hl_nil (then_n (hc_seq (hc_seq (hc_letgoB (hc_region (r_move rfl rfl (r_neq rfl rfl rfl (r_move rfl rfl ?_))))))))))
  refine g_split rfl rfl ?_ ?_
  ·intro hg1; have hg1' := hg1; try simp at hg1'
   refine g_yes rfl rfl hg1 (r_move rfl rfl (g_yes rfl rfl hg1 (r_move rfl rfl (g_yes rfl rfl hg1 (r_lss rfl rfl rfl ?_)))))
   refine p_f rfl rfl (bf1 hg1) rfl ?_
   refine hl_nil (then_n ?_)
   first | refine c_dec rfl (fun hb2 => ?_) (fun hb2 => ?_) | refine hc_cond rfl (fun hb2 => ?_) (fun hb2 => ?_)
   ·all_goals omega
   ·have hb2' := hb2; try simp at hb2'
    refine hc_skip (then_n (hc_seq (hc_region (r_move rfl rfl (r_assign rfl rfl (hl_nil (then_n (hc_seq (hc_region ?_)))))))))
    refine r_build _ rfl rfl (fun _ => T.bd_api_Advert_ ..) ?_
    refine r_alloc rfl (fun _ => T.al_api_Advert _) fun g11 => ?_
    refine r_storeS (cs := #[int 0, int 0, int 0]) rfl rfl (.refl _) T.sz_api_Advert (by rfl) (by rfl) ?_
    refine r_assign rfl rfl (hl_nil (then_n (hc_seq (hc_seq (hc_region (r_assign rfl rfl (hl_nil (then_n (hc_block ?_)))))))))
    refine hc_loop (β := Nat) ⟨fun k => k ≤ 3 ∧ chNN (chOut c ps.l qs.l (m : Int) (ln : Int) k), fun k => [(4, .pointer (some ⟨gS, 0, none⟩)), (5, int (m : Int)), (6, int (xB (chOut c ps.l qs.l (m : Int) (ln : Int) 3))), (7, int ln), (8, .pointer (some ⟨g8, 0, none⟩)), (9, int (xB (chOut c ps.l qs.l (m : Int) (ln : Int) 3))), (11, .pointer (some ⟨g11, 0, none⟩)), (12, int (xC (chOut c ps.l qs.l (m : Int) (ln : Int) k))), (13, int (k + 1 : Nat))], fun k => [(g11, Obj.cells #[int (xA (chOut c ps.l qs.l (m : Int) (ln : Int) k)).1, int (xA (chOut c ps.l qs.l (m : Int) (ln : Int) k)).2.1, int (xA (chOut c ps.l qs.l (m : Int) (ln : Int) k)).2.2] T.api_Advert (0, 0))], fun _ => [Blk g8 (.cells #[int (xA (chOut c ps.l qs.l (m : Int) (ln : Int) 3)).1, int (xA (chOut c ps.l qs.l (m : Int) (ln : Int) 3)).2.1, int (xA (chOut c ps.l qs.l (m : Int) (ln : Int) 3)).2.2] T.api_Advert (0, 0)), Blk gS (.cells (saC c ps qs) T.api_Sales (0, 0)), Row ps.a (rows ps.l), Row qs.a (rows qs.l)]⟩ (fun k => 3 - k) 0 ⟨Nat.zero_le _, fun z e => by cases e⟩ ⟨rfl, rfl, rfl, rfl, rfl, rfl, rfl, rfl, rfl, trivial⟩ (.cons_cons _ (List.nil_sublist _)) ⟨mB, mB, mB, mB, trivial⟩ fun k hk => ?_
    obtain ⟨hk, hnk⟩ := hk
    refine hc_seq (hc_seq (hc_region (r_move rfl rfl (r_leq rfl rfl rfl (hl_nil (then_n ?_))))))
    first | refine c_dec rfl (fun hb3 => ?_) (fun hb3 => ?_) | refine hc_cond rfl (fun hb3 => ?_) (fun hb3 => ?_)
    ·have hb3' := hb3; try simp at hb3'
     have hk2 : k ≤ 2 := by omega
     refine hc_skip (then_n (hc_seq (hc_block (hc_seq (hc_region (r_move rfl rfl (r_assign rfl rfl (hl_nil (then_n (hc_block ?_))))))))))
     refine hc_loop (β := Nat) ⟨fun i => ln + i ≤ 7 ∧ chNN (chIn c ps.l qs.l (m : Int) (ln : Int) (k + 1) (chOut c ps.l qs.l (m : Int) (ln : Int) k) i), fun i => [(4, .pointer (some ⟨gS, 0, none⟩)), (5, int (m : Int)), (6, int (xB (chOut c ps.l qs.l (m : Int) (ln : Int) 3))), (7, int ln), (8, .pointer (some ⟨g8, 0, none⟩)), (9, int (xB (chOut c ps.l qs.l (m : Int) (ln : Int) 3))), (11, .pointer (some ⟨g11, 0, none⟩)), (12, int (xC (chIn c ps.l qs.l (m : Int) (ln : Int) (k + 1) (chOut c ps.l qs.l (m : Int) (ln : Int) k) i))), (13, int (k + 1 : Nat)), (14, int ((ln : Int) + (i : Int)))], fun i => [(g11, Obj.cells #[int (xA (chIn c ps.l qs.l (m : Int) (ln : Int) (k + 1) (chOut c ps.l qs.l (m : Int) (ln : Int) k) i)).1, int (xA (chIn c ps.l qs.l (m : Int) (ln : Int) (k + 1) (chOut c ps.l qs.l (m : Int) (ln : Int) k) i)).2.1, int (xA (chIn c ps.l qs.l (m : Int) (ln : Int) (k + 1) (chOut c ps.l qs.l (m : Int) (ln : Int) k) i)).2.2] T.api_Advert (0, 0))], fun _ => [Blk g8 (.cells #[int (xA (chOut c ps.l qs.l (m : Int) (ln : Int) 3)).1, int (xA (chOut c ps.l qs.l (m : Int) (ln : Int) 3)).2.1, int (xA (chOut c ps.l qs.l (m : Int) (ln : Int) 3)).2.2] T.api_Advert (0, 0)), Blk gS (.cells (saC c ps qs) T.api_Sales (0, 0)), Row ps.a (rows ps.l), Row qs.a (rows qs.l)]⟩ (fun i => 10 - i) 0 ⟨by show ln + 0 ≤ 7; omega, hnk⟩ ⟨rfl, rfl, rfl, rfl, rfl, rfl, rfl, rfl, rfl, congrArg (fun z => some (int z)) (Int.add_zero (ln : Int)).symm, trivial⟩ (.refl _) ⟨mB, mB, mB, mB, trivial⟩ fun i hi => ?_
     obtain ⟨hi, hnn⟩ := hi
     refine hc_seq (hc_seq (hc_region (r_move rfl rfl (r_leq rfl rfl rfl (hl_nil (then_n ?_))))))
     first | refine c_dec rfl (fun hb4 => ?_) (fun hb4 => ?_) | refine hc_cond rfl (fun hb4 => ?_) (fun hb4 => ?_)
     ·have hb4' := hb4; try simp at hb4'
      have hi6 : ln + i ≤ 6 := by omega
      refine hc_skip (then_n (hc_seq (hc_block (hc_seq ?_))))
      refine hc_cut ⟨fun x : Bool => x = decide (k = 0 ∧ 1 < ln + i), fun x => [(4, .pointer (some ⟨gS, 0, none⟩)), (5, int (m : Int)), (6, int (xB (chOut c ps.l qs.l (m : Int) (ln : Int) 3))), (7, int ln), (8, .pointer (some ⟨g8, 0, none⟩)), (9, int (xB (chOut c ps.l qs.l (m : Int) (ln : Int) 3))), (11, .pointer (some ⟨g11, 0, none⟩)), (12, int (xC (chIn c ps.l qs.l (m : Int) (ln : Int) (k + 1) (chOut c ps.l qs.l (m : Int) (ln : Int) k) i))), (13, int (k + 1 : Nat)), (14, int ((ln : Int) + (i : Int))), (63, .bool x)], fun _ => [(g11, Obj.cells #[int (xA (chIn c ps.l qs.l (m : Int) (ln : Int) (k + 1) (chOut c ps.l qs.l (m : Int) (ln : Int) k) i)).1, int (xA (chIn c ps.l qs.l (m : Int) (ln : Int) (k + 1) (chOut c ps.l qs.l (m : Int) (ln : Int) k) i)).2.1, int (xA (chIn c ps.l qs.l (m : Int) (ln : Int) (k + 1) (chOut c ps.l qs.l (m : Int) (ln : Int) k) i)).2.2] T.api_Advert (0, 0))], fun _ => [Blk g8 (.cells #[int (xA (chOut c ps.l qs.l (m : Int) (ln : Int) 3)).1, int (xA (chOut c ps.l qs.l (m : Int) (ln : Int) 3)).2.1, int (xA (chOut c ps.l qs.l (m : Int) (ln : Int) 3)).2.2] T.api_Advert (0, 0)), Blk gS (.cells (saC c ps qs) T.api_Sales (0, 0)), Row ps.a (rows ps.l), Row qs.a (rows qs.l)]⟩ ?_ ?_
      ·skip
       refine hc_region (r_move rfl rfl (r_eql rfl rfl rfl (r_move rfl rfl ?_)))
       refine g_split rfl rfl ?_ ?_
       ·intro hg2; have hg2' := hg2; try simp at hg2'
        refine g_yes rfl rfl hg2 (r_move rfl rfl (g_yes rfl rfl hg2 (r_gtr rfl rfl rfl ?_)))
        refine p_t rfl rfl (bt1 hg2) rfl ?_
        refine hl_nil ?_
        exact cut_n _ (decide (1 < (ln : Int) + (i : Int))) (by show decide (1 < (ln : Int) + (i : Int)) = decide (k = 0 ∧ 1 < ln + i); rw [decide_eq_decide]; omega) ⟨rfl, rfl, rfl, rfl, rfl, rfl, rfl, rfl, rfl, rfl, rfl, trivial⟩ (.refl _) ⟨mB, mB, mB, mB, trivial⟩
       ·intro hg2; have hg2' := hg2; try simp at hg2'
        refine g_no rfl rfl rfl rfl rfl hg2 (g_no rfl rfl rfl rfl rfl hg2 ?_)
        refine p_f rfl rfl (bf2 hg2) rfl ?_
        refine hl_nil ?_
        exact cut_n _ false (by show false = decide (k = 0 ∧ 1 < ln + i); symm; rw [decide_eq_false_iff_not]; omega) ⟨rfl, rfl, rfl, rfl, rfl, rfl, rfl, rfl, rfl, rfl, rfl, trivial⟩ (.refl _) ⟨mB, mB, mB, mB, trivial⟩
      ·rintro x rfl
       first | refine c_dec rfl (fun hb5 => ?_) (fun hb5 => ?_) | refine hc_cond rfl (fun hb5 => ?_) (fun hb5 => ?_)
       ·have hb5' := hb5; try simp at hb5'
        refine hc_exit (then_exit (inb_hit (then_n (hc_region (r_move rfl rfl ?_)))))
        refine r_add _ rfl rfl rfl rfl (by unfold I64; omega) ?_
        refine r_assign rfl rfl (hl_nil ?_)
        have hst : (chIn c ps.l qs.l (m : Int) (ln : Int) (k + 1) (chOut c ps.l qs.l (m : Int) (ln : Int) k) (i + 1)) = (chIn c ps.l qs.l (m : Int) (ln : Int) (k + 1) (chOut c ps.l qs.l (m : Int) (ln : Int) k) i) := by rw [chIn_succ]; exact ch_err (by unfold adErr; simp only; rw [if_neg (by omega), if_neg (by omega), if_pos (by right; omega)]; decide)
        exact again _ (i + 1) ⟨by show ln + (i + 1) ≤ 7; omega, by show chNN (chIn c ps.l qs.l (m : Int) (ln : Int) (k + 1) (chOut c ps.l qs.l (m : Int) (ln : Int) k) (i + 1)); rw [chIn_succ]; exact chNN_step hnn (fun e => by have := bil_bd (sa_ok (chk_snoc h0 e hqm)) m; exact this.1)⟩ (by show 10 - (i + 1) < 10 - i; omega) ⟨rfl, rfl, rfl, rfl, rfl, rfl, rfl, congrArg (fun o => some (int (xC o))) hst.symm, rfl, congrArg (fun z => some (int z)) (show (ln : Int) + (i : Int) + 1 = (ln : Int) + ((i + 1 : Nat) : Int) by omega), trivial⟩ (by show List.Sublist [(g11, Obj.cells #[int (xA (chIn c ps.l qs.l (m : Int) (ln : Int) (k + 1) (chOut c ps.l qs.l (m : Int) (ln : Int) k) (i + 1))).1, int (xA (chIn c ps.l qs.l (m : Int) (ln : Int) (k + 1) (chOut c ps.l qs.l (m : Int) (ln : Int) k) (i + 1))).2.1, int (xA (chIn c ps.l qs.l (m : Int) (ln : Int) (k + 1) (chOut c ps.l qs.l (m : Int) (ln : Int) k) (i + 1))).2.2] T.api_Advert (0, 0))] _; rw [hst]; exact .refl _) ⟨mB, mB, mB, mB, trivial⟩
       ·have hb5' := hb5; try simp at hb5'
        refine hc_skip (then_n (hc_seq ?_))
        have hadr : adErr ps.l.length (((m : Int), ((k + 1 : Nat) : Int), (ln : Int) + (i : Int)) : Ad) = 0 := ad_mk (by show 0 ≤ (m : Int) ∧ (m : Int) < ps.l.length; omega) (by show 1 ≤ ((k + 1 : Nat) : Int) ∧ ((k + 1 : Nat) : Int) ≤ 3; omega) (by show 1 ≤ (ln : Int) + (i : Int) ∧ (ln : Int) + (i : Int) ≤ 6; omega) (fun e => by have e : ((k + 1 : Nat) : Int) = 1 := e; show (ln : Int) + (i : Int) = 1; omega)
        have h0q := chk_snoc h0 hadr hqm
        have hql1 : (qs.l ++ [(((m : Int), ((k + 1 : Nat) : Int), (ln : Int) + (i : Int)) : Ad)]).length ≤ 1000000 := by rw [List.length_append, List.length_singleton]; omega
        have hbv : (numsN 103 c ps.l (qs.l ++ [(((m : Int), ((k + 1 : Nat) : Int), (ln : Int) + (i : Int)) : Ad)])).getD m default = bilA c ps.l qs.l (((m : Int), ((k + 1 : Nat) : Int), (ln : Int) + (i : Int)) : Ad) := by rw [bill_at c ps.l _ hm2]; show _ = bilN c ps.l _ ((m : Int)).toNat; rw [Int.toNat_natCast]
        have hbz := (bil_bd (sa_ok h0q) m).1
        refine hc_region (r_move rfl rfl (r_move rfl rfl (r_move rfl rfl ?_)))
        refine r_build _ rfl rfl (fun _ => T.bd_api_Advert_0_1_2 ..) ?_
        refine r_alloc rfl (fun _ => T.al_api_Advert _) fun gy => ?_
        refine r_storeS (cs := #[int (m : Int), int (k + 1 : Nat), int ((ln : Int) + (i : Int))]) rfl rfl (.refl _) T.sz_api_Advert (by rfl) (by rfl) ?_
        refine hl_nil (then_n (hc_seq (hc_region ?_)))
        first | refine r_loadA rfl T.row_api_Sales T.sz_api_Sales rfl mB (by rfl) ?_ | refine r_loadB rfl T.row_api_Sales T.sz_api_Sales rfl mB (by rfl) ?_ | refine r_loadS rfl T.row_api_Sales T.sz_api_Sales rfl rfl (cells_row mB (rows_all (by omega))) ?_
        first | refine r_loadA rfl T.row_api_Advert T.sz_api_Advert rfl mB (by rfl) ?_ | refine r_loadB rfl T.row_api_Advert T.sz_api_Advert rfl mB (by rfl) ?_ | refine r_loadS rfl T.row_api_Advert T.sz_api_Advert rfl rfl (cells_row mB (rows_all (by omega))) ?_
        refine hl_call F.ref09_With_cb rfl rfl (ref09_With_meets c ps qs (((m : Int), ((k + 1 : Nat) : Int), (ln : Int) + (i : Int)) : Ad) hpl hql) (List.Perm.refl _) ⟨mB, mB, trivial⟩ fun q hq => ?_
        obtain ⟨qa, qc, ql⟩ := q
        obtain ⟨hq1, hq2⟩ := hq
        obtain rfl : ql = qs.l ++ [(((m : Int), ((k + 1 : Nat) : Int), (ln : Int) + (i : Int)) : Ad)] := hq1
        refine hl_call F.bold_Bills_cb rfl rfl (bills_is c ps ⟨qa, qc, qs.l ++ [(((m : Int), ((k + 1 : Nat) : Int), (ln : Int) + (i : Int)) : Ad)]⟩ h0q hpl hql1) (List.Perm.refl _) ⟨mB, mB, trivial⟩ fun x4 hx4 => ?_
        obtain ⟨bx4, cx4⟩ := x4
        refine r_move rfl rfl (r_extract rfl rfl rfl (r_extract rfl rfl rfl (r_assign rfl rfl (r_assign rfl rfl (hl_nil (then_n (hc_seq (hc_seq (hc_region (r_move rfl rfl (r_neq rfl rfl rfl ?_)))))))))))
        refine r_move rfl rfl ?_
        refine g_split rfl rfl ?_ ?_
        ·intro hg3; have hg3' := hg3; try simp at hg3'
         refine g_yes rfl rfl hg3 (r_move rfl rfl (g_yes rfl rfl hg3 ?_))
         refine r_len_sl rfl T.u_ints rfl ?_
         refine g_yes rfl rfl hg3 ?_
         first | refine r_fieldAddr ⟨_, 6, none⟩ rfl rfl T.fa_api_Sales_1 rfl ?_ | refine r_fieldAddr _ rfl rfl T.fa_api_Sales_1 rfl ?_
         refine g_yes rfl rfl hg3 ?_
         first | refine r_load rfl T.cell_ints rfl (cell_own mB rfl) ?_ | refine r_load rfl T.cell_ints rfl (cell_blk mB rfl) ?_ | refine r_load rfl T.cell_ints rfl (cell_row mB (rows_get0 (by omega) rfl)) ?_ | refine r_load rfl T.cell_ints rfl (cell_row_f mB (rows_get (by omega) rfl)) ?_ | refine r_load rfl T.cell_ints rfl (cell_rowg mB rfl) ?_
         refine g_yes rfl rfl hg3 ?_
         refine r_len_sl rfl T.u_ints rfl ?_
         refine g_yes rfl rfl hg3 (r_neq rfl rfl rfl ?_)
         refine p_f rfl rfl (bf1 hg3) rfl ?_
         refine hl_nil (then_n ?_)
         first | refine c_dec rfl (fun hb6 => ?_) (fun hb6 => ?_) | refine hc_cond rfl (fun hb6 => ?_) (fun hb6 => ?_)
         ·all_goals omega
         ·have hb6' := hb6; try simp at hb6'
          refine hc_skip (then_n (hc_seq (hc_region (r_move rfl rfl (r_lss rfl rfl rfl (r_move rfl rfl ?_))))))
          refine g_split rfl rfl ?_ ?_
          ·intro hg4; have hg4' := hg4; try simp at hg4'
           have hlc : ¬ xC (chIn c ps.l qs.l (m : Int) (ln : Int) (k + 1) (chOut c ps.l qs.l (m : Int) (ln : Int) k) i) < 0 := of_decide_eq_false (eq_of_beq hg4)
           refine g_yes rfl rfl hg4 (r_move rfl rfl (g_yes rfl rfl hg4 (r_move rfl rfl (g_yes rfl rfl hg4 ?_))))
           refine r_elem (α := Int) (numsN 103 c ps.l (qs.l ++ [(((m : Int), ((k + 1 : Nat) : Int), (ln : Int) + (i : Int)) : Ad)])) m rfl T.u_ints T.sz_int rfl rfl rfl mB (by rw [nums_len]) (by rw [nums_len]; exact hm2) (by decide) ?_
           refine g_yes rfl rfl hg4 ?_
           refine r_load (v := int (bilA c ps.l qs.l (((m : Int), ((k + 1 : Nat) : Int), (ln : Int) + (i : Int)) : Ad))) rfl T.cell_int rfl (cell_row mB (by rw [← hbv]; exact rows_get0 (by rw [nums_len]; exact hm2) rfl)) ?_
           refine g_yes rfl rfl hg4 (r_move rfl rfl (g_yes rfl rfl hg4 (r_lss rfl rfl rfl ?_)))
           refine p_f rfl rfl (bf1 hg4) rfl ?_
           refine hl_nil (then_n ?_)
           first | refine c_dec rfl (fun hb7 => ?_) (fun hb7 => ?_) | refine hc_cond rfl (fun hb7 => ?_) (fun hb7 => ?_)
           ·have hb7' := hb7; try simp at hb7'
            refine hc_drawW ([(g11, Obj.cells #[int (xA (chIn c ps.l qs.l (m : Int) (ln : Int) (k + 1) (chOut c ps.l qs.l (m : Int) (ln : Int) k) i)).1, int (xA (chIn c ps.l qs.l (m : Int) (ln : Int) (k + 1) (chOut c ps.l qs.l (m : Int) (ln : Int) k) i)).2.1, int (xA (chIn c ps.l qs.l (m : Int) (ln : Int) (k + 1) (chOut c ps.l qs.l (m : Int) (ln : Int) k) i)).2.2] T.api_Advert (0, 0))]) ([(gy, Obj.cells #[int (m : Int), int (k + 1 : Nat), int ((ln : Int) + (i : Int))] T.api_Advert (0, 0))]) (List.Perm.swap _ _ _) 6 [5] mixed (by decide) (by decide) (by decide) rfl rfl rfl ?_
            apply hb_ex _ rfl rfl rfl
            ·intro w1
             first | refine r_loadA rfl T.row_api_Advert T.sz_api_Advert rfl mB (by rfl) ?_ | refine r_loadB rfl T.row_api_Advert T.sz_api_Advert rfl mB (by rfl) ?_ | refine r_loadS rfl T.row_api_Advert T.sz_api_Advert rfl rfl (cells_row mB (rows_all (by omega))) ?_
             refine hl_nil ?_
             exact qe_done rfl
            refine hb_ex _ rfl rfl rfl (fun w1 => r_move rfl rfl (hl_nil (qe_done rfl))) ?_
            refine hb_ex _ rfl rfl rfl (fun w1 => r_move rfl rfl (hl_nil (qe_done rfl))) ?_
            refine hb_ex _ rfl rfl rfl (fun w1 => r_elem (α := Int) (numsN 103 c ps.l (qs.l ++ [(((m : Int), ((k + 1 : Nat) : Int), (ln : Int) + (i : Int)) : Ad)])) m rfl T.u_ints T.sz_int rfl rfl rfl mB (by rw [nums_len]) (by rw [nums_len]; exact hm2) (by decide) (hl_nil (qe_done rfl))) ?_
            refine hb_ex _ rfl rfl rfl (fun w1 => r_load (v := int (bilA c ps.l qs.l (((m : Int), ((k + 1 : Nat) : Int), (ln : Int) + (i : Int)) : Ad))) rfl T.cell_int rfl (cell_row mB (by rw [← hbv]; exact rows_get0 (by rw [nums_len]; exact hm2) rfl)) (hl_nil (qe_done rfl))) ?_
            refine hb_st ⟨Unit, fun _ => True, fun _ => undef, fun _ => [], fun _ => [(g11, Obj.cells #[int (m : Int), int (k + 1 : Nat), int ((ln : Int) + (i : Int))] T.api_Advert (0, 0))]⟩ rfl rfl ?_ ?_
            ·intro w1
             refine r_storeS (cs := #[int (m : Int), int (k + 1 : Nat), int ((ln : Int) + (i : Int))]) rfl rfl (.refl _) T.sz_api_Advert (by rfl) (by rfl) ?_
             refine hl_nil ?_
             exact qw_done () trivial (fun h => by cases h) (List.Sublist.refl _) trivial
            refine hb_nil ⟨rfl, ?_⟩
            intro _ _
            refine r_assign rfl rfl (hl_nil (inb_n (then_n (hc_region (r_move rfl rfl ?_)))))
            refine r_add _ rfl rfl rfl rfl (by unfold I64; omega) ?_
            refine r_assign rfl rfl (hl_nil ?_)
            have hst : (chIn c ps.l qs.l (m : Int) (ln : Int) (k + 1) (chOut c ps.l qs.l (m : Int) (ln : Int) k) (i + 1)) = some ((((m : Int), ((k + 1 : Nat) : Int), (ln : Int) + (i : Int)) : Ad), bilA c ps.l qs.l (((m : Int), ((k + 1 : Nat) : Int), (ln : Int) + (i : Int)) : Ad)) := by rw [chIn_succ]; exact ch_takeC hadr hnn (.inr hb7)
            exact again _ (i + 1) ⟨by show ln + (i + 1) ≤ 7; omega, by show chNN (chIn c ps.l qs.l (m : Int) (ln : Int) (k + 1) (chOut c ps.l qs.l (m : Int) (ln : Int) k) (i + 1)); rw [chIn_succ]; exact chNN_step hnn (fun e => by have := bil_bd (sa_ok (chk_snoc h0 e hqm)) m; exact this.1)⟩ (by show 10 - (i + 1) < 10 - i; omega) ⟨rfl, rfl, rfl, rfl, rfl, rfl, rfl, congrArg (fun o => some (int (xC o))) hst.symm, rfl, congrArg (fun z => some (int z)) (show (ln : Int) + (i : Int) + 1 = (ln : Int) + ((i + 1 : Nat) : Int) by omega), trivial⟩ (by show List.Sublist [(g11, Obj.cells #[int (xA (chIn c ps.l qs.l (m : Int) (ln : Int) (k + 1) (chOut c ps.l qs.l (m : Int) (ln : Int) k) (i + 1))).1, int (xA (chIn c ps.l qs.l (m : Int) (ln : Int) (k + 1) (chOut c ps.l qs.l (m : Int) (ln : Int) k) (i + 1))).2.1, int (xA (chIn c ps.l qs.l (m : Int) (ln : Int) (k + 1) (chOut c ps.l qs.l (m : Int) (ln : Int) k) (i + 1))).2.2] T.api_Advert (0, 0))] _; rw [hst]; exact .cons_cons _ (List.nil_sublist _)) ⟨mB, mB, mB, mB, trivial⟩
           ·have hb7' := hb7; try simp at hb7'
            refine hc_skip (inb_n (then_n (hc_region (r_move rfl rfl ?_))))
            refine r_add _ rfl rfl rfl rfl (by unfold I64; omega) ?_
            refine r_assign rfl rfl (hl_nil ?_)
            have hst : (chIn c ps.l qs.l (m : Int) (ln : Int) (k + 1) (chOut c ps.l qs.l (m : Int) (ln : Int) k) (i + 1)) = (chIn c ps.l qs.l (m : Int) (ln : Int) (k + 1) (chOut c ps.l qs.l (m : Int) (ln : Int) k) i) := by rw [chIn_succ]; exact ch_keepC hadr hlc hb7
            exact again _ (i + 1) ⟨by show ln + (i + 1) ≤ 7; omega, by show chNN (chIn c ps.l qs.l (m : Int) (ln : Int) (k + 1) (chOut c ps.l qs.l (m : Int) (ln : Int) k) (i + 1)); rw [chIn_succ]; exact chNN_step hnn (fun e => by have := bil_bd (sa_ok (chk_snoc h0 e hqm)) m; exact this.1)⟩ (by show 10 - (i + 1) < 10 - i; omega) ⟨rfl, rfl, rfl, rfl, rfl, rfl, rfl, congrArg (fun o => some (int (xC o))) hst.symm, rfl, congrArg (fun z => some (int z)) (show (ln : Int) + (i : Int) + 1 = (ln : Int) + ((i + 1 : Nat) : Int) by omega), trivial⟩ (by show List.Sublist [(g11, Obj.cells #[int (xA (chIn c ps.l qs.l (m : Int) (ln : Int) (k + 1) (chOut c ps.l qs.l (m : Int) (ln : Int) k) (i + 1))).1, int (xA (chIn c ps.l qs.l (m : Int) (ln : Int) (k + 1) (chOut c ps.l qs.l (m : Int) (ln : Int) k) (i + 1))).2.1, int (xA (chIn c ps.l qs.l (m : Int) (ln : Int) (k + 1) (chOut c ps.l qs.l (m : Int) (ln : Int) k) (i + 1))).2.2] T.api_Advert (0, 0))] _; rw [hst]; exact .cons _ (.refl _)) ⟨mB, mB, mB, mB, trivial⟩
          ·intro hg4; have hg4' := hg4; try simp at hg4'
           have hlc : xC (chIn c ps.l qs.l (m : Int) (ln : Int) (k + 1) (chOut c ps.l qs.l (m : Int) (ln : Int) k) i) < 0 := by simpa using hg4
           refine g_no rfl rfl rfl rfl rfl hg4 (g_no rfl rfl rfl rfl rfl hg4 (g_no rfl rfl rfl rfl rfl hg4 (g_no rfl rfl rfl rfl rfl hg4 (g_no rfl rfl rfl rfl rfl hg4 (g_no rfl rfl rfl rfl rfl hg4 ?_)))))
           refine p_t rfl rfl (bt2 hg4) rfl ?_
           refine hl_nil (then_n (c_t rfl rfl ?_))
           refine hc_drawW ([(g11, Obj.cells #[int (xA (chIn c ps.l qs.l (m : Int) (ln : Int) (k + 1) (chOut c ps.l qs.l (m : Int) (ln : Int) k) i)).1, int (xA (chIn c ps.l qs.l (m : Int) (ln : Int) (k + 1) (chOut c ps.l qs.l (m : Int) (ln : Int) k) i)).2.1, int (xA (chIn c ps.l qs.l (m : Int) (ln : Int) (k + 1) (chOut c ps.l qs.l (m : Int) (ln : Int) k) i)).2.2] T.api_Advert (0, 0))]) ([(gy, Obj.cells #[int (m : Int), int (k + 1 : Nat), int ((ln : Int) + (i : Int))] T.api_Advert (0, 0))]) (List.Perm.swap _ _ _) 6 [5] mixed (by decide) (by decide) (by decide) rfl rfl rfl ?_
           apply hb_ex _ rfl rfl rfl
           ·intro w1
            first | refine r_loadA rfl T.row_api_Advert T.sz_api_Advert rfl mB (by rfl) ?_ | refine r_loadB rfl T.row_api_Advert T.sz_api_Advert rfl mB (by rfl) ?_ | refine r_loadS rfl T.row_api_Advert T.sz_api_Advert rfl rfl (cells_row mB (rows_all (by omega))) ?_
            refine hl_nil ?_
            exact qe_done rfl
           refine hb_ex _ rfl rfl rfl (fun w1 => r_move rfl rfl (hl_nil (qe_done rfl))) ?_
           refine hb_ex _ rfl rfl rfl (fun w1 => r_move rfl rfl (hl_nil (qe_done rfl))) ?_
           refine hb_ex _ rfl rfl rfl (fun w1 => r_elem (α := Int) (numsN 103 c ps.l (qs.l ++ [(((m : Int), ((k + 1 : Nat) : Int), (ln : Int) + (i : Int)) : Ad)])) m rfl T.u_ints T.sz_int rfl rfl rfl mB (by rw [nums_len]) (by rw [nums_len]; exact hm2) (by decide) (hl_nil (qe_done rfl))) ?_
           refine hb_ex _ rfl rfl rfl (fun w1 => r_load (v := int (bilA c ps.l qs.l (((m : Int), ((k + 1 : Nat) : Int), (ln : Int) + (i : Int)) : Ad))) rfl T.cell_int rfl (cell_row mB (by rw [← hbv]; exact rows_get0 (by rw [nums_len]; exact hm2) rfl)) (hl_nil (qe_done rfl))) ?_
           refine hb_st ⟨Unit, fun _ => True, fun _ => undef, fun _ => [], fun _ => [(g11, Obj.cells #[int (m : Int), int (k + 1 : Nat), int ((ln : Int) + (i : Int))] T.api_Advert (0, 0))]⟩ rfl rfl ?_ ?_
           ·intro w1
            refine r_storeS (cs := #[int (m : Int), int (k + 1 : Nat), int ((ln : Int) + (i : Int))]) rfl rfl (.refl _) T.sz_api_Advert (by rfl) (by rfl) ?_
            refine hl_nil ?_
            exact qw_done () trivial (fun h => by cases h) (List.Sublist.refl _) trivial
           refine hb_nil ⟨rfl, ?_⟩
           intro _ _
           refine r_assign rfl rfl (hl_nil (inb_n (then_n (hc_region (r_move rfl rfl ?_)))))
           refine r_add _ rfl rfl rfl rfl (by unfold I64; omega) ?_
           refine r_assign rfl rfl (hl_nil ?_)
           have hst : (chIn c ps.l qs.l (m : Int) (ln : Int) (k + 1) (chOut c ps.l qs.l (m : Int) (ln : Int) k) (i + 1)) = some ((((m : Int), ((k + 1 : Nat) : Int), (ln : Int) + (i : Int)) : Ad), bilA c ps.l qs.l (((m : Int), ((k + 1 : Nat) : Int), (ln : Int) + (i : Int)) : Ad)) := by rw [chIn_succ]; exact ch_takeC hadr hnn (.inl hlc)
           exact again _ (i + 1) ⟨by show ln + (i + 1) ≤ 7; omega, by show chNN (chIn c ps.l qs.l (m : Int) (ln : Int) (k + 1) (chOut c ps.l qs.l (m : Int) (ln : Int) k) (i + 1)); rw [chIn_succ]; exact chNN_step hnn (fun e => by have := bil_bd (sa_ok (chk_snoc h0 e hqm)) m; exact this.1)⟩ (by show 10 - (i + 1) < 10 - i; omega) ⟨rfl, rfl, rfl, rfl, rfl, rfl, rfl, congrArg (fun o => some (int (xC o))) hst.symm, rfl, congrArg (fun z => some (int z)) (show (ln : Int) + (i : Int) + 1 = (ln : Int) + ((i + 1 : Nat) : Int) by omega), trivial⟩ (by show List.Sublist [(g11, Obj.cells #[int (xA (chIn c ps.l qs.l (m : Int) (ln : Int) (k + 1) (chOut c ps.l qs.l (m : Int) (ln : Int) k) (i + 1))).1, int (xA (chIn c ps.l qs.l (m : Int) (ln : Int) (k + 1) (chOut c ps.l qs.l (m : Int) (ln : Int) k) (i + 1))).2.1, int (xA (chIn c ps.l qs.l (m : Int) (ln : Int) (k + 1) (chOut c ps.l qs.l (m : Int) (ln : Int) k) (i + 1))).2.2] T.api_Advert (0, 0))] _; rw [hst]; exact .cons_cons _ (List.nil_sublist _)) ⟨mB, mB, mB, mB, trivial⟩
        ·intro hg3; have hg3' := hg3; try simp at hg3'
     ·have hb4' := hb4; try simp at hb4'
      have hi7 : ln + i = 7 := by omega
      refine hc_exit (then_exit (then_exit (inb_hit (inb_n (then_n (hc_region (r_move rfl rfl ?_)))))))
      refine r_add _ rfl rfl rfl rfl (by unfold I64; omega) ?_
      refine r_assign rfl rfl (hl_nil ?_)
      have hko : (chOut c ps.l qs.l (m : Int) (ln : Int) (k + 1)) = (chIn c ps.l qs.l (m : Int) (ln : Int) (k + 1) (chOut c ps.l qs.l (m : Int) (ln : Int) k) i) := by rw [chOut_succ, show (7 - (ln : Int)).toNat = i by omega]
      exact again _ (k + 1) ⟨by show k + 1 ≤ 3; omega, by show chNN (chOut c ps.l qs.l (m : Int) (ln : Int) (k + 1)); rw [hko]; exact hnn⟩ (by show 3 - (k + 1) < 3 - k; omega) ⟨rfl, rfl, rfl, rfl, rfl, rfl, rfl, congrArg (fun o => some (int (xC o))) hko.symm, rfl, trivial⟩ (by show List.Sublist [(g11, Obj.cells #[int (xA (chOut c ps.l qs.l (m : Int) (ln : Int) (k + 1))).1, int (xA (chOut c ps.l qs.l (m : Int) (ln : Int) (k + 1))).2.1, int (xA (chOut c ps.l qs.l (m : Int) (ln : Int) (k + 1))).2.2] T.api_Advert (0, 0))] _; rw [hko]; exact .refl _) ⟨mB, mB, mB, mB, trivial⟩
    ·have hb3' := hb3; try simp at hb3'
     obtain rfl : k = 3 := by omega
     have hxc : xC (chOut c ps.l qs.l (m : Int) (ln : Int) 3) = xB (chOut c ps.l qs.l (m : Int) (ln : Int) 3) := xC_some (cheap_least (by omega) (by omega))
     refine hc_exit (then_exit (then_exit (inb_hit (then_n (hc_seq (hc_region ?_))))))
     first | refine r_loadA rfl T.row_api_Advert T.sz_api_Advert rfl mB (by rfl) ?_ | refine r_loadB rfl T.row_api_Advert T.sz_api_Advert rfl mB (by rfl) ?_ | refine r_loadS rfl T.row_api_Advert T.sz_api_Advert rfl rfl (cells_row mB (rows_all (by omega))) ?_
     first | refine r_loadA rfl T.row_api_Advert T.sz_api_Advert rfl mB (by rfl) ?_ | refine r_loadB rfl T.row_api_Advert T.sz_api_Advert rfl mB (by rfl) ?_ | refine r_loadS rfl T.row_api_Advert T.sz_api_Advert rfl rfl (cells_row mB (rows_all (by omega))) ?_
     refine r_bin _ rfl rfl rfl (fun _ => T.eqg_api_Advert ..) (fun _ => T.neq_api_Advert ..) ?_
     refine r_move rfl rfl ?_
     refine g_split rfl rfl ?_ ?_
     ·intro hg5; have hg5' := hg5; try simp at hg5'
      refine g_yes rfl rfl hg5 (r_move rfl rfl (g_yes rfl rfl hg5 (r_move rfl rfl (g_yes rfl rfl hg5 (r_neq rfl rfl rfl ?_)))))
      refine p_f rfl rfl (bf1 hg5) rfl ?_
      refine hl_nil (then_n ?_)
      first | refine c_dec rfl (fun hb8 => ?_) (fun hb8 => ?_) | refine hc_cond rfl (fun hb8 => ?_) (fun hb8 => ?_)
      ·all_goals omega
      ·have hb8' := hb8; try simp at hb8'
       refine hc_skip (inb_n (then_n (hc_region (r_move rfl rfl ?_))))
       refine r_add _ rfl rfl rfl rfl (by unfold I64; omega) ?_
       refine r_assign rfl rfl (hl_nil ?_)
       exact again _ (ln + 1, xB (chOut c ps.l qs.l (m : Int) (ln : Int) 3)) ⟨⟨by show 1 ≤ ln + 1; omega, by show ln + 1 ≤ 7; omega⟩, fun h => cheap_mono (by omega) (by simp only at h; omega)⟩ (by show 7 - (ln + 1) < 7 - ln; omega) ⟨rfl, rfl, rfl, rfl, trivial⟩ (List.nil_sublist _) ⟨mB, mB, mB, trivial⟩
     ·intro hg5; have hg5' := hg5; try simp at hg5'
  ·intro hg1; have hg1' := hg1; try simp at hg1'
 ·have hb1' := hb1; try simp at hb1'
  refine hc_exit (then_exit (then_exit (inb_hit (then_n (hc_seq (hc_region ?_))))))
  refine hl_call F.law09_paying_cb rfl rfl (law09_paying_meets) (List.Perm.refl _) trivial fun _ _ => ?_
  refine r_assign rfl rfl (hl_nil (then_n (hc_ret ?_)))
  exact ret1 () rfl rfl rfl trivial (List.nil_sublist _) trivial
end Go.Proofs.Ytdlbbfcfahahdaa
end
