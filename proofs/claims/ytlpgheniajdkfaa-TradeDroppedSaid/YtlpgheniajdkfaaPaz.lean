/- All lists of so many references, as a range over a function. -/
import Derived.Test.YtlpgheniajdkfaaPay
namespace Go.Proofs.Ytlpgheniajdkfaa
open Go Go.W
set_option linter.unusedVariables false
set_option linter.unusedSimpArgs false
set_option maxRecDepth 20000
attribute [local irreducible] HL HC HQ HB Row Rows2 Blk Facts

/-- The first list of d more out of the rest that is as wanted. -/
def growQ (p : List Rf → Bool) (d : Nat) (b r : List Rf) : Option (List Rf) := ((combos d r).map (b ++ ·)).find? p
theorem growQ_zero (p : List Rf → Bool) (b r : List Rf) : growQ p 0 b r = if p b = true then some b else none := by
  unfold growQ
  rw [combos]
  simp only [List.map_cons, List.map_nil, List.append_nil, List.find?_cons, List.find?_nil]
  cases p b <;> rfl
theorem growQ_nil (p : List Rf → Bool) (d : Nat) (b : List Rf) : growQ p (d + 1) b [] = none := rfl
theorem growQ_cons (p : List Rf → Bool) (d : Nat) (b r : List Rf) (x : Rf) : growQ p (d + 1) b (x :: r) = (growQ p d (b ++ [x]) r).or (growQ p (d + 1) b r) := by
  unfold growQ
  rw [combos, List.map_append, List.find?_append, List.map_map]
  congr 3
  funext l
  simp
theorem growQ_all (p : List Rf → Bool) (d : Nat) (r : List Rf) : growQ p d [] r = (combos d r).find? p := by
  unfold growQ
  congr 1
  exact (List.map_congr_left fun l _ => List.nil_append l).trans (List.map_id _)
theorem take_shrink {cur : Array Value} {b : List Rf} {x : Rf} (h : cur.toList.take ((b.length + 1) * 2) = rows (b ++ [x])) : cur.toList.take (b.length * 2) = rows b := by
  have h2 : (cur.toList.take ((b.length + 1) * 2)).take (b.length * 2) = (rows (b ++ [x])).take (b.length * 2) := by rw [h]
  rw [List.take_take, Nat.min_eq_left (by omega), rows_append] at h2
  rw [h2]
  exact List.take_left' (rows_len b)
section
variable (lb : Nat) (rc : Option Code → Loop) (J : Code) (gb cap : Nat) (R0 : Hp) {γ : Type} (R1 : γ → Hp) (L1 : γ → List Fact) (I1 : List Rf → γ → Prop) (LI0 : List Fact) (p : List Rf → Bool)
def ry : Option γ → Hp | none => R0 | some y => R1 y
def ly : Option γ → List Fact | none => [] | some y => L1 y
/-- What a call of yield does: it stops at the first list that is as wanted. -/
def yC (b : List Rf) (cur : Array Value) : Con (Option γ) :=
  { hpI := (lb, .loop (rc none)) :: gbO gb cur :: R0, LI := LI0, inv := fun x => x.isSome = p b ∧ ∀ y, x = some y → I1 b y, val := fun x => .bool x.isNone, hpO := fun x => (lb, .loop (rc (x.map fun _ => J))) :: gbO gb cur :: ry R0 R1 x, LO := ly L1 }
abbrev OrdG (γ : Type) := Option (List Rf × γ)
def gC (b : List Rf) (cur : Array Value) (q : Option (List Rf)) (LI : List Fact) : Con (OrdG γ × Array Value) :=
  { hpI := (lb, .loop (rc none)) :: gbO gb cur :: R0, LI := LI, inv := fun x => (q = x.1.map (·.1) ∧ ∀ y, x.1 = some y → I1 y.1 y.2) ∧ x.2.size = cap * 2 ∧ x.2.toList.take (b.length * 2) = rows b, val := fun x => .bool x.1.isNone, hpO := fun x => (lb, .loop (rc (x.1.map fun _ => J))) :: gbO gb x.2 :: ry R0 R1 (x.1.map (·.2)), LO := fun x => ly L1 (x.1.map (·.2)) }
def pC (q : Option (List Rf)) (LI : List Fact) : Con (OrdG γ) :=
  { hpI := (lb, .loop (rc none)) :: R0, LI := LI, inv := fun x => q = x.map (·.1) ∧ ∀ y, x = some y → I1 y.1 y.2, val := fun _ => .tuple #[], hpO := fun x => (lb, .loop (rc (x.map fun _ => J))) :: ry R0 R1 (x.map (·.2)), LO := fun x => ly L1 (x.map (·.2)) }
end
abbrev boxN (g : Nat) (n : Int) : Fact := Blk g (.cells #[int n] T.int (0, 0))
abbrev boxF (g : Nat) (v : Value) : Fact := Blk g (.cells #[v] T.func_L_trade_ref_bool (0, 0))
abbrev boxG (g : Nat) (v : Value) : Fact := Blk g (.cells #[v] T.func_L_trade_ref_int_bool (0, 0))
abbrev boxL (g : Nat) (A : Option Addr) (n c : Nat) : Fact := Blk g (.cells #[.slice A n c] T.L_trade_ref (0, 0))
def growV (gm gy gl gg : Nat) : Value := .func (.func F.trade_picks_1_1) #[] [pt gm, pt gy, pt gl, pt gg].toArray

set_option maxHeartbeats 1000000 in
theorem trade_picks_1_1_meets {lb : Nat} {rc : Option Code → Loop} {J : Code} {R0 : Hp} {γ : Type} {R1 : γ → Hp} {L1 : γ → List Fact} {I1 : List Rf → γ → Prop} {LI0 : List Fact} {p : List Rf → Bool} {cap : Nat} {LA : Option Addr} {lc : Nat} (l : List Rf) {gb gm gy gl gg : Nat} (hn : l.length ≤ 1000) (hc : cap ≤ 1000) (hY : ∀ (b : List Rf) (cur : Array Value), b.length = cap → (∀ r ∈ b, r ∈ l) → cur.toList.take (b.length * 2) = rows b → MeetsY Try.prog lb [.slice (some ⟨gb, 0, none⟩) b.length cap] (yC lb rc J gb R0 R1 L1 I1 LI0 p b cur)) :
    ∀ (d : Nat) (b : List Rf) (frm : Nat) (cur : Array Value), d + b.length = cap → (∀ r ∈ b, r ∈ l) → frm ≤ l.length → cur.size = cap * 2 → cur.toList.take (b.length * 2) = rows b → Meets Try.prog F.trade_picks_1_1 [.slice (some ⟨gb, 0, none⟩) b.length cap, int (frm : Nat), pt gm, pt gy, pt gl, pt gg] (gC lb rc J gb cap R0 R1 L1 I1 b cur (growQ p d b (l.drop frm)) (boxN gm cap :: boxF gy (yieldV lb) :: boxL gl LA l.length lc :: boxG gg (growV gm gy gl gg) :: Row LA (rows l) :: LI0)) := by
 intro d
 induction d using Nat.strongRecOn
 rename_i d ih
 intro b frm cur hd hsub hfrm hcs hct
 refine meets_intro F.trade_picks_1_1_f rfl (Nat.le_of_ble_eq_true rfl) fun w0 => ?_
 refine hc_seq ?_
 refine hc_region ?_
 refine r_assign rfl rfl ?_
 refine hl_nil ?_
 refine then_n ?_
 refine hc_seq ?_
 refine hc_seq ?_
 refine hc_region ?_
 refine r_move rfl rfl ?_
 refine r_len_sl rfl T.u_L_trade_ref rfl ?_
 refine r_load (v := int (cap : Nat)) rfl T.cell_int rfl (cell_blk (by repeat constructor) rfl) ?_
 refine r_eql rfl rfl rfl ?_
 refine hl_nil ?_
 refine then_n ?_
 first | refine c_dec rfl (fun hb1 => ?_) (fun hb1 => ?_) | refine hc_cond rfl (fun hb1 => ?_) (fun hb1 => ?_)
 ·have hb1' := hb1; try simp at hb1'
  have h0 : d = 0 := by omega
  subst h0
  have hlen : b.length = cap := by omega
  refine hc_seq ?_
  refine hc_region ?_
  refine r_load (v := yieldV lb) rfl T.cell_func_L_trade_ref_bool rfl (cell_blk (by repeat constructor) rfl) ?_
  refine r_move rfl rfl ?_
  refine hl_yield (k := yC lb rc J gb R0 R1 L1 I1 LI0 p b cur) rfl rfl rfl (hY b cur hlen hsub hct) (hpR := []) (by rw [List.append_nil]; exact .refl _) (LSub.of_mem fun F hF => by repeat (first | exact hF | apply List.Mem.tail)) fun x hx => ?_
  refine r_assign rfl rfl ?_
  refine hl_nil ?_
  refine then_n ?_
  refine hc_ret ?_
  refine then_ret ?_
  obtain ⟨hx1, hx2⟩ := hx
  cases x with
  | none => exact ret1 (none, cur) rfl rfl rfl ⟨⟨by rw [growQ_zero, ← hx1]; rfl, fun y hy => by cases hy⟩, hcs, hct⟩ (by rw [List.append_nil]; exact .refl _) trivial
  | some y => exact ret1 (some (b, y), cur) rfl rfl rfl ⟨⟨by rw [growQ_zero, ← hx1]; rfl, fun z hz => by cases hz; exact hx2 y rfl⟩, hcs, hct⟩ (by rw [List.append_nil]; exact .refl _) (LSub.of_mem fun F hF => List.mem_append_left _ hF)
 ·have hb1' := hb1; try simp at hb1'
  obtain ⟨d0, rfl⟩ : ∃ d0, d = d0 + 1 := ⟨d - 1, by omega⟩
  refine hc_skip ?_
  refine then_n ?_
  refine hc_seq ?_
  refine hc_seq ?_
  refine hc_region ?_
  refine r_move rfl rfl ?_
  refine r_assign rfl rfl ?_
  refine hl_nil ?_
  refine then_n ?_
  refine hc_block ?_
  refine hc_loop (β := Nat × Array Value) ⟨fun x => x.1 ≤ l.length ∧ growQ p (d0 + 1) b (l.drop frm) = growQ p (d0 + 1) b (l.drop x.1) ∧ x.2.size = cap * 2 ∧ x.2.toList.take (b.length * 2) = rows b, fun x => [(0, .slice (some ⟨gb, 0, none⟩) b.length cap), (2, pt gm), (3, pt gy), (4, pt gl), (5, pt gg), (9, int x.1)], fun x => (lb, .loop (rc none)) :: gbO gb x.2 :: R0, fun _ => (boxN gm cap :: boxF gy (yieldV lb) :: boxL gl LA l.length lc :: boxG gg (growV gm gy gl gg) :: Row LA (rows l) :: LI0)⟩ (fun x => l.length - x.1) (frm, cur) ⟨hfrm, rfl, hcs, hct⟩ ⟨rfl, rfl, rfl, rfl, rfl, rfl, trivial⟩ (.refl _) ⟨(by repeat constructor), (by repeat constructor), (by repeat constructor), (by repeat constructor), (by repeat constructor), (LSub.of_mem fun F hF => by repeat (first | exact hF | apply List.Mem.tail))⟩ fun x hx => ?_
  clear hcs hct
  obtain ⟨i, cur⟩ := x
  obtain ⟨hi, hq, hcs, hct⟩ := hx
  simp only at hi hq hcs hct
  refine hc_seq ?_
  refine hc_seq ?_
  refine hc_region ?_
  refine r_move rfl rfl ?_
  refine r_load (v := .slice LA l.length lc) rfl T.cell_L_trade_ref rfl (cell_blk (by repeat constructor) rfl) ?_
  refine r_len_sl rfl T.u_L_trade_ref rfl ?_
  refine r_lss rfl rfl rfl ?_
  refine hl_nil ?_
  refine then_n ?_
  first | refine c_dec rfl (fun hb2 => ?_) (fun hb2 => ?_) | refine hc_cond rfl (fun hb2 => ?_) (fun hb2 => ?_)
  ·have hb2' := hb2; try simp at hb2'
   have hi2 : i < l.length := by omega
   have hdr : l.drop i = l.getD i default :: l.drop (i + 1) := by rw [List.drop_eq_getElem_cons hi2, getD_at hi2]
   rw [hdr, growQ_cons] at hq
   refine hc_skip ?_
   refine then_n ?_
   refine hc_seq ?_
   refine hc_block ?_
   refine hc_seq ?_
   refine hc_drawW ([gbO gb cur]) ((lb, .loop (rc none)) :: R0) (List.Perm.swap _ _ _) 10 [7] mixed (by decide) (by decide) (by decide) rfl rfl rfl ?_
   apply hb_ex _ rfl rfl rfl
   ·intro w1
    refine r_load (v := growV gm gy gl gg) rfl T.cell_func_L_trade_ref_int_bool rfl (cell_blk (List.mem_append_right _ (by repeat constructor)) rfl) ?_
    refine hl_nil ?_
    exact qe_done rfl
   apply hb_ex _ rfl rfl rfl
   ·intro w1
    refine r_move rfl rfl ?_
    refine hl_nil ?_
    exact qe_done rfl
   apply hb_ex _ rfl rfl rfl
   ·intro w1
    refine r_load (v := .slice LA l.length lc) rfl T.cell_L_trade_ref rfl (cell_blk (List.mem_append_right _ (by repeat constructor)) rfl) ?_
    refine hl_nil ?_
    exact qe_done rfl
   apply hb_ex _ rfl rfl rfl
   ·intro w1
    refine r_move rfl rfl ?_
    refine hl_nil ?_
    exact qe_done rfl
   apply hb_ex _ rfl rfl rfl
   ·intro w1
    refine r_elem (α := Rf) l i rfl T.u_L_trade_ref T.sz_trade_ref rfl rfl rfl (List.mem_append_right _ (by repeat constructor)) rfl hi2 (by decide) ?_
    refine hl_nil ?_
    exact qe_done rfl
   apply hb_ex _ rfl rfl rfl
   ·intro w1
    refine r_loadS rfl T.row_trade_ref T.sz_trade_ref rfl rfl (cells_row (List.mem_append_right _ (by repeat constructor)) (rows_all hi2)) ?_
    refine hl_nil ?_
    exact qe_done rfl
   refine hb_vs ⟨Nat, fun _ => True, fun g1 => .slice (some ⟨g1, 0, none⟩) 1 1, fun g1 => [Row (some ⟨g1, 0, none⟩) (rows [l.getD i default])]⟩ rfl rfl rfl ?_ ?_
   ·intro w1
    refine r_buildSlice _ rfl rfl (fun _ => T.bs_L_trade_ref_1 ..) fun gS => ?_
    refine hl_nil ?_
    refine hq_letgo (rows [l.getD i default]) (List.prefix_refl _) ?_
    exact qv_done gS trivial rfl ⟨m0, trivial⟩
   refine hb_wr ⟨Array Value, fun x => x.size = cap * 2 ∧ x.toList.take ((b.length + 1) * 2) = rows (b ++ [l.getD i default]), fun _ => .slice (some ⟨gb, 0, none⟩) (b.length + 1) cap, fun _ => [], fun x => [gbO gb x]⟩ rfl rfl rfl ?_ ?_
   ·intro g1 _; intro w1
    refine r_append_in T.el_L_trade_ref rfl rfl rfl hcs hct (.refl _) (Src.row (news := rows [l.getD i default]) (m := 1) m0 rfl (rows_one _) (by decide)) (by decide) (by omega) fun cur2 hs2 ht2 => ?_
    refine hl_nil ?_
    exact qw_done cur2 ⟨hs2, by rw [rows_append]; exact ht2⟩ (fun _ => rfl) (.refl _) trivial
   apply hb_ex _ rfl rfl rfl
   ·intro w1
    refine r_move rfl rfl ?_
    refine hl_nil ?_
    exact qe_done rfl
   apply hb_ex _ rfl rfl rfl
   ·intro w1
    refine r_add _ rfl rfl rfl rfl (by unfold I64; omega) ?_
    refine hl_nil ?_
    exact qe_done rfl
   refine hb_nil ⟨rfl, ?_⟩
   intro g1 _ cur2 hx2
   obtain ⟨hs2, ht2⟩ := hx2
   have hl1 : (b ++ [l.getD i default]).length = b.length + 1 := by simp
   have ihk := ih d0 (by omega) (b ++ [l.getD i default]) (i + 1) cur2 (by omega) (fun r hr => (List.mem_append.1 hr).elim (hsub r) (fun h => by rw [List.mem_singleton] at h; subst h; exact getD_mem hi2)) (by omega) hs2 (by rw [hl1]; exact ht2)
   rw [hl1] at ihk
   refine hl_callv (vs := [.slice (some ⟨gb, 0, none⟩) (b.length + 1) cap, int ((i + 1 : Nat) : Int)]) (cap := [pt gm, pt gy, pt gl, pt gg]) F.trade_picks_1_1_cb rfl rfl rfl ihk (hpR := []) (by rw [List.append_nil]; exact List.Perm.swap _ _ _) ⟨(by repeat constructor), (by repeat constructor), (by repeat constructor), (by repeat constructor), (by repeat constructor), (LSub.of_mem fun F hF => by repeat (first | exact hF | apply List.Mem.tail))⟩ fun y hy => ?_
   obtain ⟨z, cur3⟩ := y
   obtain ⟨⟨hz1, hz2⟩, hs3, ht3⟩ := hy
   simp only at hz1 hz2 hs3 ht3
   rw [hl1] at ht3
   refine r_not rfl rfl ?_
   refine hl_nil ?_
   refine then_n ?_
   first | refine c_dec rfl (fun hb3 => ?_) (fun hb3 => ?_) | refine hc_cond rfl (fun hb3 => ?_) (fun hb3 => ?_)
   ·have hb3' := hb3; try simp at hb3'
    obtain ⟨y, rfl⟩ : ∃ y, z = some y := by cases z with | none => cases hb3 | some y => exact ⟨y, rfl⟩
    refine hc_seq ?_
    refine hc_region ?_
    refine r_assign rfl rfl ?_
    refine hl_nil ?_
    refine then_n ?_
    refine hc_ret ?_
    refine inb_ret ?_
    refine then_ret ?_
    refine then_ret ?_
    refine inb_ret ?_
    refine then_ret ?_
    exact ret1 (some y, cur3) rfl rfl rfl ⟨⟨by rw [hq, hz1]; rfl, hz2⟩, hs3, take_shrink ht3⟩ (by rw [List.append_nil]; exact .refl _) (LSub.of_mem fun F hF => List.mem_append_left _ hF)
   ·have hb3' := hb3; try simp at hb3'
    have hzn : z = none := by cases z with | none => rfl | some y => cases hb3
    subst hzn
    refine hc_skip ?_
    refine inb_n ?_
    refine then_n ?_
    refine hc_region ?_
    refine r_move rfl rfl ?_
    refine r_add _ rfl rfl rfl rfl (by unfold I64; omega) ?_
    refine r_assign rfl rfl ?_
    refine hl_nil ?_
    exact again _ (i + 1, cur3) ⟨by show i + 1 ≤ l.length; omega, by rw [hq, hz1]; rfl, hs3, take_shrink ht3⟩ (by show l.length - (i + 1) < l.length - i; omega) ⟨rfl, rfl, rfl, rfl, rfl, rfl, trivial⟩ (by rw [List.append_nil]; exact .refl _) ⟨(by repeat constructor), (by repeat constructor), (by repeat constructor), (by repeat constructor), (by repeat constructor), (LSub.of_mem fun F hF => by repeat (first | exact hF | apply List.Mem.tail))⟩
  ·have hb2' := hb2; try simp at hb2'
   have hi2 : i = l.length := by omega
   subst hi2
   rw [List.drop_length, growQ_nil] at hq
   refine hc_exit ?_
   refine then_exit ?_
   refine then_exit ?_
   refine inb_hit ?_
   refine then_n ?_
   refine hc_seq ?_
   refine hc_region ?_
   refine r_assign rfl rfl ?_
   refine hl_nil ?_
   refine then_n ?_
   refine hc_ret ?_
   exact ret1 (none, cur) rfl rfl rfl ⟨⟨hq, fun y hy => by cases hy⟩, hcs, hct⟩ (.refl _) trivial

theorem trade_picks_1_meets {lb : Nat} {rc : Option Code → Loop} {J : Code} {R0 : Hp} {γ : Type} {R1 : γ → Hp} {L1 : γ → List Fact} {I1 : List Rf → γ → Prop} {LI0 : List Fact} {p : List Rf → Bool} {cap : Nat} {LA : Option Addr} {lc : Nat} (l : List Rf) {gm gl : Nat} (hn : l.length ≤ 1000) (hc : cap ≤ 1000) (hY : ∀ (gb : Nat) (b : List Rf) (cur : Array Value), b.length = cap → (∀ r ∈ b, r ∈ l) → cur.toList.take (b.length * 2) = rows b → MeetsY Try.prog lb [.slice (some ⟨gb, 0, none⟩) b.length cap] (yC lb rc J gb R0 R1 L1 I1 LI0 p b cur)) : Meets Try.prog F.trade_picks_1 [yieldV lb, pt gm, pt gl] (pC lb rc J R0 R1 L1 I1 (growQ p cap [] l) (boxN gm cap :: boxL gl LA l.length lc :: Row LA (rows l) :: LI0)) := by
 refine meets_intro F.trade_picks_1_f rfl (Nat.le_of_ble_eq_true rfl) fun w0 => ?_
 refine hc_seq ?_
 refine hc_region ?_
 refine r_box rfl rfl fun gy => ?_
 refine hl_nil ?_
 refine then_n ?_
 refine hc_seq ?_
 refine hc_region ?_
 refine r_alloc rfl (fun _ => T.al_func_L_trade_ref_int_bool _) fun gg => ?_
 refine hl_nil ?_
 refine then_n ?_
 refine hc_seq ?_
 refine hc_region ?_
 refine r_makeFunc rfl rfl rfl ?_
 refine r_store rfl rfl (.refl _) T.sz_func_L_trade_ref_int_bool (by rfl) (by rfl) ?_
 refine hl_nil ?_
 refine then_n ?_
 refine hc_letgoB ?_
 refine hc_letgoB ?_
 refine hc_drawW ([]) (_) (.refl _) 3 [2] mixed (by decide) (by decide) (by decide) rfl rfl rfl ?_
 apply hb_ex _ rfl rfl rfl
 ·intro w1
  refine r_load (v := growV gm gy gl gg) rfl T.cell_func_L_trade_ref_int_bool rfl (cell_blk (List.mem_append_right _ (by repeat constructor)) rfl) ?_
  refine hl_nil ?_
  exact qe_done rfl
 apply hb_ex _ rfl rfl rfl
 ·intro w1
  refine r_load (v := int (cap : Nat)) rfl T.cell_int rfl (cell_blk (List.mem_append_right _ (by repeat constructor)) rfl) ?_
  refine hl_nil ?_
  exact qe_done rfl
 refine hb_wr ⟨Nat × Array Value, fun x => x.2.size = cap * 2, fun x => .slice (some ⟨x.1, 0, none⟩) 0 cap, fun _ => [], fun x => [gbO x.1 x.2]⟩ rfl rfl rfl ?_ ?_
 ·intro w1
  refine r_make0 (n := cap) T.el_L_trade_ref rfl rfl rfl rfl (by omega) (by omega) fun g cur hcs => ?_
  refine hl_nil ?_
  exact qw_done (g, cur) hcs (fun _ => rfl) (List.Sublist.refl _) trivial
 refine hb_nil ⟨rfl, ?_⟩
 intro x hx
 obtain ⟨gb, cur⟩ := x
 have hcs : cur.size = cap * 2 := hx
 refine hl_callv (vs := [.slice (some ⟨gb, 0, none⟩) 0 cap, int (0 : Nat)]) (cap := [pt gm, pt gy, pt gl, pt gg]) F.trade_picks_1_1_cb rfl rfl rfl (trade_picks_1_1_meets (gb := gb) (gm := gm) (gy := gy) (gl := gl) (gg := gg) (LA := LA) (lc := lc) l hn hc (hY gb) cap [] 0 cur (by simp) (by simp) (Nat.zero_le _) hcs (by simp [rows])) (hpR := []) (by rw [List.append_nil]; exact List.Perm.swap _ _ _) ⟨(by repeat constructor), (by repeat constructor), (by repeat constructor), (by repeat constructor), (by repeat constructor), (LSub.of_mem fun F hF => by repeat (first | exact hF | apply List.Mem.tail))⟩ fun y hy => ?_
 obtain ⟨z, cur3⟩ := y
 obtain ⟨⟨hz1, hz2⟩, _, _⟩ := hy
 refine hl_nil ?_
 exact ret0n z rfl rfl rfl ⟨hz1, hz2⟩ (by rw [List.append_nil]; exact List.Sublist.cons_cons _ (List.sublist_cons_self _ _)) (LSub.of_mem fun F hF => List.mem_append_left _ hF)

theorem trade_picks_meets {A : Option Addr} {n c : Nat} (many : Int) : Meets Try.prog F.trade_picks [.slice A n c, int many] { val := fun x : Nat × Nat => .func (.func F.trade_picks_1) #[] [pt x.1, pt x.2].toArray, LO := fun x => [boxN x.1 many, boxL x.2 A n c] } := by
 refine meets_intro F.trade_picks_f rfl (Nat.le_of_ble_eq_true rfl) fun w0 => ?_
 refine hc_seq ?_
 refine hc_region ?_
 refine r_box rfl rfl fun gl => ?_
 refine r_box rfl rfl fun gm => ?_
 refine r_assign rfl rfl ?_
 refine hl_nil ?_
 refine then_n ?_
 refine hc_seq ?_
 refine hc_region ?_
 refine r_makeFunc rfl rfl rfl ?_
 refine r_assign rfl rfl ?_
 refine hl_nil ?_
 refine then_n ?_
 refine hc_ret ?_
 refine hq_letgoB ?_
 refine hq_letgoB ?_
 exact ret1 (gm, gl) rfl rfl rfl trivial (.refl _) ⟨(by repeat constructor), (by repeat constructor), trivial⟩

end Go.Proofs.Ytlpgheniajdkfaa
