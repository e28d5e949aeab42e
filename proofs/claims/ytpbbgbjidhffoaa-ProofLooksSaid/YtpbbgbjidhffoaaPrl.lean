/- The walk of the statement ProofLooks. -/
import Derived.Test.YtpbbgbjidhffoaaPw
namespace Go.Proofs.Ytpbbgbjidhffoaa
open Go Go.W
set_option linter.unusedVariables false
set_option linter.unusedSimpArgs false
set_option maxRecDepth 20000
attribute [local irreducible] HL HC HQ HB Row Rows2 Blk Facts


set_option maxHeartbeats 4000000 in
theorem law07_ProofLooks_meets {A Mm B N : Option Addr} {ca cm cb cn : Nat} (ys : List (Sl Str)) (ms : List Mk) (p : List Str) (nums : List Int) (hy : ys.length ≤ 9223372036854775807 ∧ ys.length ≤ ca) (hyq : ∀ q ∈ ys, q.l.length ≤ 9223372036854775807) (hm : ms.length ≤ 9223372036854775807) (hp : p.length ≤ 9223372036854775807) (hn : nums.length ≤ 9223372036854775807) :
    Meets Try.prog F.law07_ProofLooks [.slice A ys.length ca, .slice Mm ms.length cm, .slice B p.length cb, .slice N nums.length cn] { LI := [Rows2 A ys, Row Mm (rows ms), Row B (rows p), Row N (rows nums)], val := fun _ : Unit => .bool true } := by
 refine meets_intro F.law07_ProofLooks_f rfl (Nat.le_of_ble_eq_true rfl) fun w0 => ?_
 refine hc_seq ?_
 refine hc_region ?_
 refine r_assign rfl rfl ?_
 refine hl_nil ?_
 refine then_n ?_
 refine hc_cut ⟨fun _ : Unit => oldP (years ys) = false ∧ manyP ms = false ∧ longP p = false, fun _ => [(0, .slice A ys.length ca), (1, .slice Mm ms.length cm), (2, .slice B p.length cb), (3, .slice N nums.length cn)], fun _ => [], fun _ => [Rows2 A ys, Row Mm (rows ms), Row B (rows p), Row N (rows nums)]⟩ ?_ ?_
 ·skip
  refine hc_seq ?_
  refine hc_outer (ps := ys) m0 ?_
  refine hc_region ?_
  refine r_move rfl rfl ?_
  refine hl_call F.law07_old_cb rfl rfl (law07_old_meets ys hy.1 hyq) (List.Perm.refl _) ⟨(by repeat constructor), trivial⟩ fun _ _ => ?_
  refine r_move rfl rfl ?_
  refine g_split rfl rfl ?_ ?_
  ·intro hg1; have hg1' := hg1; try simp at hg1'
   have hold := bf1 hg1
   have hold2 := oldP_false hold
   rw [years_len] at hold2
   refine g_yes rfl rfl hg1 ?_
   refine r_move rfl rfl ?_
   refine g_yes rfl rfl hg1 ?_
   refine hl_call F.law07_many_cb rfl rfl (law07_many_meets ms hm) (List.Perm.refl _) ⟨(by repeat constructor), trivial⟩ fun _ _ => ?_
   refine p_f rfl rfl (bf1 hg1) rfl ?_
   refine r_move rfl rfl ?_
   refine g_split rfl rfl ?_ ?_
   ·intro hg2; have hg2' := hg2; try simp at hg2'
    have hman := bf1 hg2
    refine g_yes rfl rfl hg2 ?_
    refine r_move rfl rfl ?_
    refine g_yes rfl rfl hg2 ?_
    refine hl_call F.law07_long_cb rfl rfl (law07_long_meets p hp) (List.Perm.refl _) ⟨(by repeat constructor), trivial⟩ fun _ _ => ?_
    refine p_f rfl rfl (bf1 hg2) rfl ?_
    refine r_move rfl rfl ?_
    refine g_split rfl rfl ?_ ?_
    ·intro hg3; have hg3' := hg3; try simp at hg3'
     have hlon := bf1 hg3
     refine g_yes rfl rfl hg3 ?_
     refine r_move rfl rfl ?_
     refine g_yes rfl rfl hg3 ?_
     refine r_len_sl rfl T.u_strs rfl ?_
     refine g_yes rfl rfl hg3 ?_
     refine r_gtr rfl rfl rfl ?_
     refine g_yes rfl rfl hg3 ?_
     refine r_move rfl rfl ?_
     refine g_split rfl rfl ?_ ?_
     ·intro hg4; have hg4' := hg4; try simp at hg4'
      refine g_yes rfl rfl hg4 ?_
      refine r_move rfl rfl ?_
      refine g_yes rfl rfl hg4 ?_
      refine r_len_sl rfl T.u_strs rfl ?_
      refine g_yes rfl rfl hg4 ?_
      refine r_leq rfl rfl rfl ?_
      refine g_yes rfl rfl hg3 ?_
      refine p_t rfl rfl (bt1 hg4) rfl ?_
      refine p_f rfl rfl (bf1 hg3) rfl ?_
      refine r_move rfl rfl ?_
      refine g_split rfl rfl ?_ ?_
      ·intro hg5; have hg5' := hg5; try simp at hg5'
       refine g_yes rfl rfl hg5 ?_
       refine r_move rfl rfl ?_
       refine g_yes rfl rfl hg5 ?_
       refine r_len_sl rfl T.u_pages rfl ?_
       refine g_yes rfl rfl hg5 ?_
       refine r_gtr rfl rfl rfl ?_
       refine g_yes rfl rfl hg5 ?_
       refine r_move rfl rfl ?_
       refine g_split rfl rfl ?_ ?_
       ·intro hg6; have hg6' := hg6; try simp at hg6'
        have hpos : 0 < ys.length := by have := of_decide_eq_true (bt1 hg6); omega
        refine g_yes rfl rfl hg6 ?_
        refine r_move rfl rfl ?_
        refine g_yes rfl rfl hg6 ?_
        refine r_move rfl rfl ?_
        refine g_yes rfl rfl hg6 ?_
        refine r_len_sl rfl T.u_pages rfl ?_
        refine g_yes rfl rfl hg6 ?_
        refine r_sub ((ys.length - 1 : Nat) : Int) rfl rfl rfl (by omega) (by unfold I64; omega) ?_
        refine g_yes rfl rfl hg6 ?_
        refine r_elem (α := Sl Str) ys (ys.length - 1) rfl T.u_pages T.sz_strs rfl rfl rfl (by repeat constructor) rfl (by omega) (by decide) ?_
        refine g_yes rfl rfl hg6 ?_
        refine r_load rfl T.cell_strs rfl (cell_row (by repeat constructor) (rows_get0 (by omega) rfl)) ?_
        refine g_yes rfl rfl hg6 ?_
        refine r_len_sl rfl T.u_strs rfl ?_
        refine g_yes rfl rfl hg6 ?_
        refine r_gtr rfl rfl rfl ?_
        refine g_yes rfl rfl hg5 ?_
        refine p_t rfl rfl (bt1 hg6) rfl ?_
        refine g_yes rfl rfl hg5 ?_
        refine r_move rfl rfl ?_
        refine g_split rfl rfl ?_ ?_
        ·intro hg7; have hg7' := hg7; try simp at hg7'
         refine g_yes rfl rfl hg7 ?_
         refine r_move rfl rfl ?_
         refine g_yes rfl rfl hg7 ?_
         refine r_move rfl rfl ?_
         refine g_yes rfl rfl hg7 ?_
         refine r_len_sl rfl T.u_pages rfl ?_
         refine g_yes rfl rfl hg7 ?_
         refine r_sub ((ys.length - 1 : Nat) : Int) rfl rfl rfl (by omega) (by unfold I64; omega) ?_
         refine g_yes rfl rfl hg7 ?_
         refine r_elem (α := Sl Str) ys (ys.length - 1) rfl T.u_pages T.sz_strs rfl rfl rfl (by repeat constructor) rfl (by omega) (by decide) ?_
         refine g_yes rfl rfl hg7 ?_
         refine r_load rfl T.cell_strs rfl (cell_row (by repeat constructor) (rows_get0 (by omega) rfl)) ?_
         refine g_yes rfl rfl hg7 ?_
         refine r_len_sl rfl T.u_strs rfl ?_
         refine g_yes rfl rfl hg7 ?_
         refine r_leq rfl rfl rfl ?_
         refine g_yes rfl rfl hg5 ?_
         refine p_t rfl rfl (bt1 hg7) rfl ?_
         refine p_f rfl rfl (bf1 hg5) rfl ?_
         refine hl_nil ?_
         refine then_n ?_
         first | refine c_dec rfl (fun hb1 => ?_) (fun hb1 => ?_) | refine hc_cond rfl (fun hb1 => ?_) (fun hb1 => ?_)
         ·have hb1' := hb1; try simp at hb1'
          refine hc_seq ?_
          refine hc_region ?_
          refine hl_call F.law07_correcting_cb rfl rfl (law07_correcting_meets) (List.Perm.refl _) trivial fun _ _ => ?_
          refine r_assign rfl rfl ?_
          refine hl_nil ?_
          refine then_n ?_
          refine hc_ret ?_
          refine then_ret ?_
          exact ret1 () rfl rfl rfl trivial (List.nil_sublist _) trivial
         ·have hb1' := hb1; try simp at hb1'
          refine hc_skip ?_
          exact cut_n _ () ⟨hold, hman, hlon⟩ ⟨rfl, rfl, rfl, rfl, trivial⟩ (.refl _) ⟨(by repeat constructor), (by repeat constructor), (by repeat constructor), (by repeat constructor), trivial⟩
        ·intro hg7; have hg7' := hg7; try simp at hg7'
         refine g_no rfl rfl rfl rfl rfl hg7 ?_
         refine g_no rfl rfl rfl rfl rfl hg7 ?_
         refine g_no rfl rfl rfl rfl rfl hg7 ?_
         refine g_no rfl rfl rfl rfl rfl hg7 ?_
         refine g_no rfl rfl rfl rfl rfl hg7 ?_
         refine g_no rfl rfl rfl rfl rfl hg7 ?_
         refine g_no rfl rfl rfl rfl rfl hg7 ?_
         refine g_no rfl rfl rfl rfl rfl hg7 ?_
         refine g_yes rfl rfl hg5 ?_
         refine p_f rfl rfl (bf2 hg7) rfl ?_
         refine p_f rfl rfl (bf1 hg5) rfl ?_
         refine hl_nil ?_
         refine then_n ?_
         refine c_f rfl rfl ?_
         refine hc_skip ?_
         exact cut_n _ () ⟨hold, hman, hlon⟩ ⟨rfl, rfl, rfl, rfl, trivial⟩ (.refl _) ⟨(by repeat constructor), (by repeat constructor), (by repeat constructor), (by repeat constructor), trivial⟩
       ·intro hg6; have hg6' := hg6; try simp at hg6'
        refine g_no rfl rfl rfl rfl rfl hg6 ?_
        refine g_no rfl rfl rfl rfl rfl hg6 ?_
        refine g_no rfl rfl rfl rfl rfl hg6 ?_
        refine g_no rfl rfl rfl rfl rfl hg6 ?_
        refine g_no rfl rfl rfl rfl rfl hg6 ?_
        refine g_no rfl rfl rfl rfl rfl hg6 ?_
        refine g_no rfl rfl rfl rfl rfl hg6 ?_
        refine g_no rfl rfl rfl rfl rfl hg6 ?_
        refine g_yes rfl rfl hg5 ?_
        refine p_f rfl rfl (bf2 hg6) rfl ?_
        refine g_yes rfl rfl hg5 ?_
        refine r_move rfl rfl ?_
        refine g_no rfl rfl rfl rfl rfl rfl ?_
        refine g_no rfl rfl rfl rfl rfl rfl ?_
        refine g_no rfl rfl rfl rfl rfl rfl ?_
        refine g_no rfl rfl rfl rfl rfl rfl ?_
        refine g_no rfl rfl rfl rfl rfl rfl ?_
        refine g_no rfl rfl rfl rfl rfl rfl ?_
        refine g_no rfl rfl rfl rfl rfl rfl ?_
        refine g_no rfl rfl rfl rfl rfl rfl ?_
        refine g_yes rfl rfl hg5 ?_
        refine p_f rfl rfl rfl rfl ?_
        refine p_f rfl rfl (bf1 hg5) rfl ?_
        refine hl_nil ?_
        refine then_n ?_
        refine c_f rfl rfl ?_
        refine hc_skip ?_
        exact cut_n _ () ⟨hold, hman, hlon⟩ ⟨rfl, rfl, rfl, rfl, trivial⟩ (.refl _) ⟨(by repeat constructor), (by repeat constructor), (by repeat constructor), (by repeat constructor), trivial⟩
      ·intro hg5; have hg5' := hg5; try simp at hg5'
       refine g_no rfl rfl rfl rfl rfl hg5 ?_
       refine g_no rfl rfl rfl rfl rfl hg5 ?_
       refine g_no rfl rfl rfl rfl rfl hg5 ?_
       refine g_no rfl rfl rfl rfl rfl hg5 ?_
       refine g_und rfl rfl rfl rfl rfl rfl ?_
       refine g_und rfl rfl rfl rfl rfl rfl ?_
       refine g_und rfl rfl rfl rfl rfl rfl ?_
       refine g_und rfl rfl rfl rfl rfl rfl ?_
       refine g_und rfl rfl rfl rfl rfl rfl ?_
       refine g_und rfl rfl rfl rfl rfl rfl ?_
       refine g_und rfl rfl rfl rfl rfl rfl ?_
       refine g_und rfl rfl rfl rfl rfl rfl ?_
       refine g_no rfl rfl rfl rfl rfl hg5 ?_
       refine g_no rfl rfl rfl rfl rfl hg5 ?_
       refine g_und rfl rfl rfl rfl rfl rfl ?_
       refine g_und rfl rfl rfl rfl rfl rfl ?_
       refine g_und rfl rfl rfl rfl rfl rfl ?_
       refine g_und rfl rfl rfl rfl rfl rfl ?_
       refine g_und rfl rfl rfl rfl rfl rfl ?_
       refine g_und rfl rfl rfl rfl rfl rfl ?_
       refine g_und rfl rfl rfl rfl rfl rfl ?_
       refine g_und rfl rfl rfl rfl rfl rfl ?_
       refine g_no rfl rfl rfl rfl rfl hg5 ?_
       refine p_t rfl rfl (bt2 hg5) rfl ?_
       refine hl_nil ?_
       refine then_n ?_
       refine c_t rfl rfl ?_
       refine hc_seq ?_
       refine hc_region ?_
       refine hl_call F.law07_correcting_cb rfl rfl (law07_correcting_meets) (List.Perm.refl _) trivial fun _ _ => ?_
       refine r_assign rfl rfl ?_
       refine hl_nil ?_
       refine then_n ?_
       refine hc_ret ?_
       refine then_ret ?_
       exact ret1 () rfl rfl rfl trivial (List.nil_sublist _) trivial
     ·intro hg4; have hg4' := hg4; try simp at hg4'
      refine g_no rfl rfl rfl rfl rfl hg4 ?_
      refine g_no rfl rfl rfl rfl rfl hg4 ?_
      refine g_no rfl rfl rfl rfl rfl hg4 ?_
      refine g_yes rfl rfl hg3 ?_
      refine p_f rfl rfl (bf2 hg4) rfl ?_
      refine p_f rfl rfl (bf1 hg3) rfl ?_
      refine r_move rfl rfl ?_
      refine g_yes rfl rfl rfl ?_
      refine r_move rfl rfl ?_
      refine g_yes rfl rfl rfl ?_
      refine r_len_sl rfl T.u_pages rfl ?_
      refine g_yes rfl rfl rfl ?_
      refine r_gtr rfl rfl rfl ?_
      refine g_yes rfl rfl rfl ?_
      refine r_move rfl rfl ?_
      refine g_split rfl rfl ?_ ?_
      ·intro hg8; have hg8' := hg8; try simp at hg8'
       have hpos : 0 < ys.length := by have := of_decide_eq_true (bt1 hg8); omega
       refine g_yes rfl rfl hg8 ?_
       refine r_move rfl rfl ?_
       refine g_yes rfl rfl hg8 ?_
       refine r_move rfl rfl ?_
       refine g_yes rfl rfl hg8 ?_
       refine r_len_sl rfl T.u_pages rfl ?_
       refine g_yes rfl rfl hg8 ?_
       refine r_sub ((ys.length - 1 : Nat) : Int) rfl rfl rfl (by omega) (by unfold I64; omega) ?_
       refine g_yes rfl rfl hg8 ?_
       refine r_elem (α := Sl Str) ys (ys.length - 1) rfl T.u_pages T.sz_strs rfl rfl rfl (by repeat constructor) rfl (by omega) (by decide) ?_
       refine g_yes rfl rfl hg8 ?_
       refine r_load rfl T.cell_strs rfl (cell_row (by repeat constructor) (rows_get0 (by omega) rfl)) ?_
       refine g_yes rfl rfl hg8 ?_
       refine r_len_sl rfl T.u_strs rfl ?_
       refine g_yes rfl rfl hg8 ?_
       refine r_gtr rfl rfl rfl ?_
       refine g_yes rfl rfl rfl ?_
       refine p_t rfl rfl (bt1 hg8) rfl ?_
       refine g_yes rfl rfl rfl ?_
       refine r_move rfl rfl ?_
       refine g_split rfl rfl ?_ ?_
       ·intro hg9; have hg9' := hg9; try simp at hg9'
        refine g_yes rfl rfl hg9 ?_
        refine r_move rfl rfl ?_
        refine g_yes rfl rfl hg9 ?_
        refine r_move rfl rfl ?_
        refine g_yes rfl rfl hg9 ?_
        refine r_len_sl rfl T.u_pages rfl ?_
        refine g_yes rfl rfl hg9 ?_
        refine r_sub ((ys.length - 1 : Nat) : Int) rfl rfl rfl (by omega) (by unfold I64; omega) ?_
        refine g_yes rfl rfl hg9 ?_
        refine r_elem (α := Sl Str) ys (ys.length - 1) rfl T.u_pages T.sz_strs rfl rfl rfl (by repeat constructor) rfl (by omega) (by decide) ?_
        refine g_yes rfl rfl hg9 ?_
        refine r_load rfl T.cell_strs rfl (cell_row (by repeat constructor) (rows_get0 (by omega) rfl)) ?_
        refine g_yes rfl rfl hg9 ?_
        refine r_len_sl rfl T.u_strs rfl ?_
        refine g_yes rfl rfl hg9 ?_
        refine r_leq rfl rfl rfl ?_
        refine g_yes rfl rfl rfl ?_
        refine p_t rfl rfl (bt1 hg9) rfl ?_
        refine p_f rfl rfl rfl rfl ?_
        refine hl_nil ?_
        refine then_n ?_
        first | refine c_dec rfl (fun hb1 => ?_) (fun hb1 => ?_) | refine hc_cond rfl (fun hb1 => ?_) (fun hb1 => ?_)
        ·have hb1' := hb1; try simp at hb1'
         refine hc_seq ?_
         refine hc_region ?_
         refine hl_call F.law07_correcting_cb rfl rfl (law07_correcting_meets) (List.Perm.refl _) trivial fun _ _ => ?_
         refine r_assign rfl rfl ?_
         refine hl_nil ?_
         refine then_n ?_
         refine hc_ret ?_
         refine then_ret ?_
         exact ret1 () rfl rfl rfl trivial (List.nil_sublist _) trivial
        ·have hb1' := hb1; try simp at hb1'
         refine hc_skip ?_
         exact cut_n _ () ⟨hold, hman, hlon⟩ ⟨rfl, rfl, rfl, rfl, trivial⟩ (.refl _) ⟨(by repeat constructor), (by repeat constructor), (by repeat constructor), (by repeat constructor), trivial⟩
       ·intro hg9; have hg9' := hg9; try simp at hg9'
        refine g_no rfl rfl rfl rfl rfl hg9 ?_
        refine g_no rfl rfl rfl rfl rfl hg9 ?_
        refine g_no rfl rfl rfl rfl rfl hg9 ?_
        refine g_no rfl rfl rfl rfl rfl hg9 ?_
        refine g_no rfl rfl rfl rfl rfl hg9 ?_
        refine g_no rfl rfl rfl rfl rfl hg9 ?_
        refine g_no rfl rfl rfl rfl rfl hg9 ?_
        refine g_no rfl rfl rfl rfl rfl hg9 ?_
        refine g_yes rfl rfl rfl ?_
        refine p_f rfl rfl (bf2 hg9) rfl ?_
        refine p_f rfl rfl rfl rfl ?_
        refine hl_nil ?_
        refine then_n ?_
        refine c_f rfl rfl ?_
        refine hc_skip ?_
        exact cut_n _ () ⟨hold, hman, hlon⟩ ⟨rfl, rfl, rfl, rfl, trivial⟩ (.refl _) ⟨(by repeat constructor), (by repeat constructor), (by repeat constructor), (by repeat constructor), trivial⟩
      ·intro hg8; have hg8' := hg8; try simp at hg8'
       refine g_no rfl rfl rfl rfl rfl hg8 ?_
       refine g_no rfl rfl rfl rfl rfl hg8 ?_
       refine g_no rfl rfl rfl rfl rfl hg8 ?_
       refine g_no rfl rfl rfl rfl rfl hg8 ?_
       refine g_no rfl rfl rfl rfl rfl hg8 ?_
       refine g_no rfl rfl rfl rfl rfl hg8 ?_
       refine g_no rfl rfl rfl rfl rfl hg8 ?_
       refine g_no rfl rfl rfl rfl rfl hg8 ?_
       refine g_yes rfl rfl rfl ?_
       refine p_f rfl rfl (bf2 hg8) rfl ?_
       refine g_yes rfl rfl rfl ?_
       refine r_move rfl rfl ?_
       refine g_no rfl rfl rfl rfl rfl rfl ?_
       refine g_no rfl rfl rfl rfl rfl rfl ?_
       refine g_no rfl rfl rfl rfl rfl rfl ?_
       refine g_no rfl rfl rfl rfl rfl rfl ?_
       refine g_no rfl rfl rfl rfl rfl rfl ?_
       refine g_no rfl rfl rfl rfl rfl rfl ?_
       refine g_no rfl rfl rfl rfl rfl rfl ?_
       refine g_no rfl rfl rfl rfl rfl rfl ?_
       refine g_yes rfl rfl rfl ?_
       refine p_f rfl rfl rfl rfl ?_
       refine p_f rfl rfl rfl rfl ?_
       refine hl_nil ?_
       refine then_n ?_
       refine c_f rfl rfl ?_
       refine hc_skip ?_
       exact cut_n _ () ⟨hold, hman, hlon⟩ ⟨rfl, rfl, rfl, rfl, trivial⟩ (.refl _) ⟨(by repeat constructor), (by repeat constructor), (by repeat constructor), (by repeat constructor), trivial⟩
    ·intro hg3; have hg3' := hg3; try simp at hg3'
     refine g_no rfl rfl rfl rfl rfl hg3 ?_
     refine g_no rfl rfl rfl rfl rfl hg3 ?_
     refine g_no rfl rfl rfl rfl rfl hg3 ?_
     refine g_no rfl rfl rfl rfl rfl hg3 ?_
     refine g_und rfl rfl rfl rfl rfl rfl ?_
     refine g_und rfl rfl rfl rfl rfl rfl ?_
     refine g_und rfl rfl rfl rfl rfl rfl ?_
     refine g_no rfl rfl rfl rfl rfl hg3 ?_
     refine p_t rfl rfl (bt2 hg3) rfl ?_
     refine r_move rfl rfl ?_
     refine g_no rfl rfl rfl rfl rfl rfl ?_
     refine g_no rfl rfl rfl rfl rfl rfl ?_
     refine g_no rfl rfl rfl rfl rfl rfl ?_
     refine g_no rfl rfl rfl rfl rfl rfl ?_
     refine g_und rfl rfl rfl rfl rfl rfl ?_
     refine g_und rfl rfl rfl rfl rfl rfl ?_
     refine g_und rfl rfl rfl rfl rfl rfl ?_
     refine g_und rfl rfl rfl rfl rfl rfl ?_
     refine g_und rfl rfl rfl rfl rfl rfl ?_
     refine g_und rfl rfl rfl rfl rfl rfl ?_
     refine g_und rfl rfl rfl rfl rfl rfl ?_
     refine g_und rfl rfl rfl rfl rfl rfl ?_
     refine g_no rfl rfl rfl rfl rfl rfl ?_
     refine g_no rfl rfl rfl rfl rfl rfl ?_
     refine g_und rfl rfl rfl rfl rfl rfl ?_
     refine g_und rfl rfl rfl rfl rfl rfl ?_
     refine g_und rfl rfl rfl rfl rfl rfl ?_
     refine g_und rfl rfl rfl rfl rfl rfl ?_
     refine g_und rfl rfl rfl rfl rfl rfl ?_
     refine g_und rfl rfl rfl rfl rfl rfl ?_
     refine g_und rfl rfl rfl rfl rfl rfl ?_
     refine g_und rfl rfl rfl rfl rfl rfl ?_
     refine g_no rfl rfl rfl rfl rfl rfl ?_
     refine p_t rfl rfl rfl rfl ?_
     refine hl_nil ?_
     refine then_n ?_
     refine c_t rfl rfl ?_
     refine hc_seq ?_
     refine hc_region ?_
     refine hl_call F.law07_correcting_cb rfl rfl (law07_correcting_meets) (List.Perm.refl _) trivial fun _ _ => ?_
     refine r_assign rfl rfl ?_
     refine hl_nil ?_
     refine then_n ?_
     refine hc_ret ?_
     refine then_ret ?_
     exact ret1 () rfl rfl rfl trivial (List.nil_sublist _) trivial
   ·intro hg2; have hg2' := hg2; try simp at hg2'
    refine g_no rfl rfl rfl rfl rfl hg2 ?_
    refine g_no rfl rfl rfl rfl rfl hg2 ?_
    refine p_t rfl rfl (bt2 hg2) rfl ?_
    refine r_move rfl rfl ?_
    refine g_no rfl rfl rfl rfl rfl rfl ?_
    refine g_no rfl rfl rfl rfl rfl rfl ?_
    refine g_no rfl rfl rfl rfl rfl rfl ?_
    refine g_no rfl rfl rfl rfl rfl rfl ?_
    refine g_und rfl rfl rfl rfl rfl rfl ?_
    refine g_und rfl rfl rfl rfl rfl rfl ?_
    refine g_und rfl rfl rfl rfl rfl rfl ?_
    refine g_no rfl rfl rfl rfl rfl rfl ?_
    refine p_t rfl rfl rfl rfl ?_
    refine r_move rfl rfl ?_
    refine g_no rfl rfl rfl rfl rfl rfl ?_
    refine g_no rfl rfl rfl rfl rfl rfl ?_
    refine g_no rfl rfl rfl rfl rfl rfl ?_
    refine g_no rfl rfl rfl rfl rfl rfl ?_
    refine g_und rfl rfl rfl rfl rfl rfl ?_
    refine g_und rfl rfl rfl rfl rfl rfl ?_
    refine g_und rfl rfl rfl rfl rfl rfl ?_
    refine g_und rfl rfl rfl rfl rfl rfl ?_
    refine g_und rfl rfl rfl rfl rfl rfl ?_
    refine g_und rfl rfl rfl rfl rfl rfl ?_
    refine g_und rfl rfl rfl rfl rfl rfl ?_
    refine g_und rfl rfl rfl rfl rfl rfl ?_
    refine g_no rfl rfl rfl rfl rfl rfl ?_
    refine g_no rfl rfl rfl rfl rfl rfl ?_
    refine g_und rfl rfl rfl rfl rfl rfl ?_
    refine g_und rfl rfl rfl rfl rfl rfl ?_
    refine g_und rfl rfl rfl rfl rfl rfl ?_
    refine g_und rfl rfl rfl rfl rfl rfl ?_
    refine g_und rfl rfl rfl rfl rfl rfl ?_
    refine g_und rfl rfl rfl rfl rfl rfl ?_
    refine g_und rfl rfl rfl rfl rfl rfl ?_
    refine g_und rfl rfl rfl rfl rfl rfl ?_
    refine g_no rfl rfl rfl rfl rfl rfl ?_
    refine p_t rfl rfl rfl rfl ?_
    refine hl_nil ?_
    refine then_n ?_
    refine c_t rfl rfl ?_
    refine hc_seq ?_
    refine hc_region ?_
    refine hl_call F.law07_correcting_cb rfl rfl (law07_correcting_meets) (List.Perm.refl _) trivial fun _ _ => ?_
    refine r_assign rfl rfl ?_
    refine hl_nil ?_
    refine then_n ?_
    refine hc_ret ?_
    refine then_ret ?_
    exact ret1 () rfl rfl rfl trivial (List.nil_sublist _) trivial
  ·intro hg1; have hg1' := hg1; try simp at hg1'
   refine g_no rfl rfl rfl rfl rfl hg1 ?_
   refine g_no rfl rfl rfl rfl rfl hg1 ?_
   refine p_t rfl rfl (bt2 hg1) rfl ?_
   refine r_move rfl rfl ?_
   refine g_no rfl rfl rfl rfl rfl rfl ?_
   refine g_no rfl rfl rfl rfl rfl rfl ?_
   refine p_t rfl rfl rfl rfl ?_
   refine r_move rfl rfl ?_
   refine g_no rfl rfl rfl rfl rfl rfl ?_
   refine g_no rfl rfl rfl rfl rfl rfl ?_
   refine g_no rfl rfl rfl rfl rfl rfl ?_
   refine g_no rfl rfl rfl rfl rfl rfl ?_
   refine g_und rfl rfl rfl rfl rfl rfl ?_
   refine g_und rfl rfl rfl rfl rfl rfl ?_
   refine g_und rfl rfl rfl rfl rfl rfl ?_
   refine g_no rfl rfl rfl rfl rfl rfl ?_
   refine p_t rfl rfl rfl rfl ?_
   refine r_move rfl rfl ?_
   refine g_no rfl rfl rfl rfl rfl rfl ?_
   refine g_no rfl rfl rfl rfl rfl rfl ?_
   refine g_no rfl rfl rfl rfl rfl rfl ?_
   refine g_no rfl rfl rfl rfl rfl rfl ?_
   refine g_und rfl rfl rfl rfl rfl rfl ?_
   refine g_und rfl rfl rfl rfl rfl rfl ?_
   refine g_und rfl rfl rfl rfl rfl rfl ?_
   refine g_und rfl rfl rfl rfl rfl rfl ?_
   refine g_und rfl rfl rfl rfl rfl rfl ?_
   refine g_und rfl rfl rfl rfl rfl rfl ?_
   refine g_und rfl rfl rfl rfl rfl rfl ?_
   refine g_und rfl rfl rfl rfl rfl rfl ?_
   refine g_no rfl rfl rfl rfl rfl rfl ?_
   refine g_no rfl rfl rfl rfl rfl rfl ?_
   refine g_und rfl rfl rfl rfl rfl rfl ?_
   refine g_und rfl rfl rfl rfl rfl rfl ?_
   refine g_und rfl rfl rfl rfl rfl rfl ?_
   refine g_und rfl rfl rfl rfl rfl rfl ?_
   refine g_und rfl rfl rfl rfl rfl rfl ?_
   refine g_und rfl rfl rfl rfl rfl rfl ?_
   refine g_und rfl rfl rfl rfl rfl rfl ?_
   refine g_und rfl rfl rfl rfl rfl rfl ?_
   refine g_no rfl rfl rfl rfl rfl rfl ?_
   refine p_t rfl rfl rfl rfl ?_
   refine hl_nil ?_
   refine then_n ?_
   refine c_t rfl rfl ?_
   refine hc_seq ?_
   refine hc_region ?_
   refine hl_call F.law07_correcting_cb rfl rfl (law07_correcting_meets) (List.Perm.refl _) trivial fun _ _ => ?_
   refine r_assign rfl rfl ?_
   refine hl_nil ?_
   refine then_n ?_
   refine hc_ret ?_
   refine then_ret ?_
   exact ret1 () rfl rfl rfl trivial (List.nil_sublist _) trivial
 ·intro _ h0
  obtain ⟨hold, hman, hlon⟩ := h0
  have hold2 := oldP_false hold
  rw [years_len] at hold2
  have hyq2 : ∀ q ∈ ys, q.l.length ≤ 20 := fun q hq => hold2.2 _ (List.mem_map_of_mem hq)
  have hms := manyP_false hman
  have hpl := (longP_false hlon).1
  refine hc_seq ?_
  refine hc_region ?_
  refine r_move rfl rfl ?_
  refine hl_call F.kit_NewDice_cb rfl rfl (kit_NewDice_meets nums) (List.Perm.refl _) ⟨(by repeat constructor), trivial⟩ fun gd _ => ?_
  refine r_assign rfl rfl ?_
  refine hl_nil ?_
  refine then_n ?_
  refine hc_cut ⟨fun z : List (Sl Str) × OutC × (Int × Int) => PagesOK z.1 ∧ 0 < z.1.length ∧ z.1.length ≤ 4 ∧ z.1.length ≤ z.2.1.2 ∧ DOK nums z.2.2, fun z => [(0, .slice A ys.length ca), (1, .slice Mm ms.length cm), (2, .slice B p.length cb), (9, .pointer (some ⟨gd, 0, none⟩)), (10, .slice z.2.1.1 z.1.length z.2.1.2)], fun z => [dice gd N cn nums z.2.2], fun z => [Rows2 A ys, Row Mm (rows ms), Row B (rows p), Row N (rows nums), Rows2 z.2.1.1 z.1]⟩ ?_ ?_
  ·skip
   refine hc_region ?_
   refine r_move rfl rfl ?_
   refine hl_call F.kit_YearsOf_cb rfl rfl (kit_YearsOf_own 3 hn (dok0 nums) (by omega)) (.refl _) ⟨(by repeat constructor), trivial⟩ fun r hr => ?_
   obtain ⟨s1, py, opy, ogy⟩ := r
   obtain ⟨hs1, hyn, hyo, hyG⟩ := hr
   simp only at hs1 hyn hyo hyG
   refine hl_perm (hp' := dice gd N cn nums s1 :: ogy) (perm_of fun p => by show List.countP p ((ogy ++ [dice gd N cn nums s1]) ++ []) = List.countP p (dice gd N cn nums s1 :: ogy); simp only [List.countP_append, List.countP_cons, List.countP_nil]; omega) ?_
   refine r_move rfl rfl ?_
   refine hl_call F.kit_PageOf_cb rfl rfl (kit_PageOf_meets 3 hn hs1 (by omega)) (hpR := ogy) (.refl _) ⟨(by repeat constructor), trivial⟩ fun r hr => ?_
   obtain ⟨s2, x, ox⟩ := r
   obtain ⟨hs2, hxn, hxo, hxc⟩ := hr
   simp only at hs2 hxn hxo hxc
   refine r_buildSlice _ rfl rfl (fun _ => T.bs_pages_1 ..) fun gS => ?_
   refine r_append (hp' := [(gS, Obj.cells #[.slice ox.1 x.length ox.2] T.strs (0, 0)), dice gd N cn nums s2]) (py.length + 1) (rows (py ++ [(⟨ox.1, ox.2, x⟩ : Sl Str)])) T.el_pages rfl rfl rfl hyG (perm_of fun p => by show List.countP p ((gS, Obj.cells #[.slice ox.1 x.length ox.2] T.strs (0, 0)) :: ([dice gd N cn nums s2] ++ ogy)) = List.countP p (ogy ++ [(gS, Obj.cells #[.slice ox.1 x.length ox.2] T.strs (0, 0)), dice gd N cn nums s2]); simp only [List.countP_append, List.countP_cons, List.countP_nil]; omega) (Src.own (g := gS) (cs := #[.slice ox.1 x.length ox.2]) (m := 1) (List.mem_append_right _ m0) rfl rfl) rfl (rows_append py [(⟨ox.1, ox.2, x⟩ : Sl Str)]).symm (by unfold maxLen; omega) (by omega) fun A' c' og' hG' => ?_
   refine r_assign rfl rfl ?_
   refine hl_facts (inner_snoc (ps := py) (p := (⟨ox.1, ox.2, x⟩ : Sl Str)) (by repeat constructor) (by repeat constructor)) ?_
   refine hl_nil ?_
   refine hq_grown hG' ?_
   refine hq_rows2F (ps := py ++ [(⟨ox.1, ox.2, x⟩ : Sl Str)]) (by repeat constructor) (by repeat constructor) ?_
   exact cut_n _ (py ++ [(⟨ox.1, ox.2, x⟩ : Sl Str)], (A', c'), s2) ⟨hyo.snoc ⟨hxo, by simp only; omega, hxc⟩, by rw [len_snoc]; omega, by rw [len_snoc]; omega, by rw [len_snoc]; exact hG'.le, hs2⟩ ⟨rfl, rfl, rfl, rfl, by rw [len_snoc]; rfl, trivial⟩ (.cons _ (.refl _)) ⟨(by repeat constructor), (by repeat constructor), (by repeat constructor), (by repeat constructor), (by repeat constructor), trivial⟩
  ·intro z hz
   obtain ⟨M, oM, s2⟩ := z
   obtain ⟨hMo, hM0, hM4, hMc, hs2⟩ := hz
   simp only at hMo hM0 hM4 hMc hs2
   have hjM : (M, oM, s2).1.length = M.length := rfl
   have hjM2 : (M, oM, s2).2.1.2 = oM.2 := rfl
   have hlm : lastP M ∈ M := getD_mem (by omega)
   have hl6 := (hMo _ hlm).2.1
   refine hc_seq ?_
   refine hc_region ?_
   refine r_move rfl rfl ?_
   refine r_len_sl rfl T.u_pages rfl ?_
   refine r_sub ((M.length - 1 : Nat) : Int) rfl rfl rfl (by omega) (by unfold I64; omega) ?_
   refine r_assign rfl rfl ?_
   refine hl_nil ?_
   refine then_n ?_
   refine hc_seq ?_
   refine hc_outer (ps := M) (by repeat constructor) ?_
   refine hc_region ?_
   refine r_move rfl rfl ?_
   refine r_move rfl rfl ?_
   refine r_move rfl rfl ?_
   refine r_elem (α := Sl Str) M (M.length - 1) rfl T.u_pages T.sz_strs rfl rfl rfl (by repeat constructor) rfl (by omega) (by decide) ?_
   refine r_load rfl T.cell_strs rfl (cell_row (by repeat constructor) (rows_get0 (by omega) rfl)) ?_
   refine r_len_sl rfl T.u_strs rfl ?_
   refine hl_call F.kit_MarksOf_cb rfl rfl (kit_MarksOf_meets (lastP M).l.length 3 hn hs2 (by omega)) (.refl _) ⟨(by repeat constructor), trivial⟩ fun r hr => ?_
   obtain ⟨s3, y, oy⟩ := r
   obtain ⟨hs3, hyyn, hyyo, hyyc⟩ := hr
   simp only at hs3 hyyn hyyo hyyc
   refine r_assign rfl rfl ?_
   refine hl_nil ?_
   refine then_n ?_
   refine hc_seq ?_
   refine hc_region ?_
   refine r_move rfl rfl ?_
   refine r_move rfl rfl ?_
   refine r_elem (α := Sl Str) M (M.length - 1) rfl T.u_pages T.sz_strs rfl rfl rfl (by repeat constructor) rfl (by omega) (by decide) ?_
   refine r_load rfl T.cell_strs rfl (cell_row (by repeat constructor) (rows_get0 (by omega) rfl)) ?_
   refine r_move rfl rfl ?_
   refine hl_inner (ps := M) (p := lastP M) (by repeat constructor) hlm ?_
   refine hl_call F.ref07_Apply_cb rfl rfl (ref07_Apply_meets (lastP M).l y) (hpR := [_]) (.refl _) ⟨(by repeat constructor), (by repeat constructor), trivial⟩ fun oz _ => ?_
   have hR6 := applyR_len (lastP M).l y
   generalize applyR (lastP M).l y = RE at *
   obtain ⟨R, eR⟩ := RE
   simp only at hR6
   refine r_move rfl rfl ?_
   refine r_extract rfl rfl rfl ?_
   refine r_extract rfl rfl rfl ?_
   refine r_assign rfl rfl ?_
   refine r_assign rfl rfl ?_
   refine hl_nil ?_
   refine then_n ?_
   refine hc_seq ?_
   refine hc_region ?_
   refine r_move rfl rfl ?_
   refine hl_call F.kit_DupStrings_cb rfl rfl (kit_DupStrings_own R (by omega)) (hpR := [_]) (.refl _) ⟨(by repeat constructor), trivial⟩ fun r hx => ?_
   obtain ⟨on, ogn⟩ := r
   have hx : GrowS on R ogn := hx
   refine r_assign rfl rfl ?_
   refine hl_nil ?_
   refine then_n ?_
   refine hc_cut ⟨fun z : List Str × OutC => z.1.length ≤ 7 ∧ z.1.length ≤ z.2.2, fun z => [(0, .slice A ys.length ca), (1, .slice Mm ms.length cm), (2, .slice B p.length cb), (10, .slice oM.1 M.length oM.2), (12, .slice oy.1 y.length oy.2), (13, .slice oz.1 R.length oz.2), (15, .slice z.2.1 z.1.length z.2.2)], fun _ => [], fun z => [Row z.2.1 (rows z.1), Rows2 A ys, Row Mm (rows ms), Row B (rows p), Rows2 oM.1 M, Row oy.1 (rows y), Row oz.1 (rows R)]⟩ ?_ ?_
   ·skip
    refine hc_seq ?_
    refine hc_region ?_
    refine r_move rfl rfl ?_
    refine hl_call F.kit_Dice_To_cb rfl rfl (kit_Dice_To_meets 3 hn hs3 (by omega)) (List.perm_append_comm) ⟨(by repeat constructor), trivial⟩ fun r hr => ?_
    obtain ⟨s4, z⟩ := r
    obtain ⟨hs4, _⟩ := hr
    simp only at hs4
    refine hl_nil ?_
    refine then_n ?_
    refine hc_block ?_
    refine hc_seq ?_
    refine hc_region ?_
    refine r_eql rfl rfl rfl ?_
    refine r_assign rfl rfl ?_
    refine hl_nil ?_
    refine then_n ?_
    first | refine c_dec rfl (fun hb2 => ?_) (fun hb2 => ?_) | refine hc_cond rfl (fun hb2 => ?_) (fun hb2 => ?_)
    ·have hb2' := hb2; try simp at hb2'
     refine hc_seq ?_
     refine hc_region ?_
     refine r_move rfl rfl ?_
     refine r_len_sl rfl T.u_strs rfl ?_
     refine r_gtr rfl rfl rfl ?_
     refine hl_nil ?_
     refine then_n ?_
     first | refine c_dec rfl (fun hb3 => ?_) (fun hb3 => ?_) | refine hc_cond rfl (fun hb3 => ?_) (fun hb3 => ?_)
     ·have hb3' := hb3; try simp at hb3'
      refine hc_region ?_
      refine r_move rfl rfl ?_
      refine r_slice_lo 1 rfl T.u_strs T.sz_string rfl rfl rfl (by omega) ?_
      refine r_assign rfl rfl ?_
      refine hl_nil ?_
      refine inb_n ?_
      refine hq_perm (List.perm_append_comm (l₁ := [_])) ?_
      refine hq_grown hx ?_
      refine hq_cut (p := R) (ca := on.2) 1 R.length (by repeat constructor) hx.le ?_
      rw [List.take_length]
      exact cut_n _ (R.drop 1, (cutA on.1 on.2 1 1, on.2 - 1)) ⟨by rw [List.length_drop]; omega, by rw [List.length_drop]; have := hx.le; simp only; omega⟩ ⟨rfl, rfl, rfl, rfl, rfl, rfl, by rw [List.length_drop]; rfl, trivial⟩ (List.nil_sublist _) ⟨(by repeat constructor), (by repeat constructor), (by repeat constructor), (by repeat constructor), (by repeat constructor), (by repeat constructor), (by repeat constructor), trivial⟩
     ·have hb3' := hb3; try simp at hb3'
      refine hc_skip ?_
      refine inb_n ?_
      refine hq_perm (List.perm_append_comm (l₁ := [_])) ?_
      refine hq_grown hx ?_
      exact cut_n _ (R, on) ⟨by simp only; omega, hx.le⟩ ⟨rfl, rfl, rfl, rfl, rfl, rfl, rfl, trivial⟩ (List.nil_sublist _) ⟨(by repeat constructor), (by repeat constructor), (by repeat constructor), (by repeat constructor), (by repeat constructor), (by repeat constructor), (by repeat constructor), trivial⟩
    ·have hb2' := hb2; try simp at hb2'
     refine hc_seq ?_
     refine hc_region ?_
     refine r_eql rfl rfl rfl ?_
     refine r_assign rfl rfl ?_
     refine hl_nil ?_
     refine then_n ?_
     first | refine c_dec rfl (fun hb4 => ?_) (fun hb4 => ?_) | refine hc_cond rfl (fun hb4 => ?_) (fun hb4 => ?_)
     ·have hb4' := hb4; try simp at hb4'
      refine hc_perm (List.perm_append_comm (l₁ := [_])) ?_
      refine hc_grown hx ?_
      refine hc_drawW ([dice gd N cn nums s4]) ([]) (.refl _) 9 [7] mixed (by decide) (by decide) (by decide) rfl rfl rfl ?_
      apply hb_ex _ rfl rfl rfl
      ·intro w1
       refine r_move rfl rfl ?_
       refine hl_nil ?_
       exact qe_done rfl
      apply hb_ex _ rfl rfl rfl
      ·intro w1
       refine r_move rfl rfl ?_
       refine hl_nil ?_
       exact qe_done rfl
      apply hb_ex _ rfl rfl rfl
      ·intro w1
       refine r_len_sl rfl T.u_strs rfl ?_
       refine hl_nil ?_
       exact qe_done rfl
      apply hb_ex _ rfl rfl rfl
      ·intro w1
       refine r_move rfl rfl ?_
       refine hl_nil ?_
       exact qe_done rfl
      apply hb_ex _ rfl rfl rfl
      ·intro w1
       refine r_len_sl rfl T.u_strs rfl ?_
       refine hl_nil ?_
       exact qe_done rfl
      apply hb_ex _ rfl rfl rfl
      ·intro w1
       refine r_slice_hm R.length R.length rfl T.u_strs T.sz_string rfl rfl rfl rfl rfl (Nat.le_refl _) hx.le ?_
       refine hl_nil ?_
       exact qe_done rfl
      apply hb_ex _ rfl rfl rfl
      ·intro w1
       refine r_move rfl rfl ?_
       refine hl_nil ?_
       exact qe_done rfl
      refine hb_wr ⟨(Int × Int) × Str, fun x => DOK nums x.1 ∧ x.2 ∈ lineWords, fun x => str x.2, fun _ => [], fun x => [dice gd N cn nums x.1]⟩ rfl rfl rfl ?_ ?_
      ·intro w1
       refine hl_call F.kit_LineOf_cb rfl rfl (kit_LineOf_meets hn hs4) (hpR := []) (.refl _) ⟨(by repeat constructor), trivial⟩ fun r hr => ?_
       refine hl_nil ?_
       exact qw_done r hr (fun _ => rfl) (.refl _) trivial
      refine hb_vs ⟨Nat × Str, fun _ => True, fun x => .slice (some ⟨x.1, 0, none⟩) 1 1, fun x => [Row (some ⟨x.1, 0, none⟩) (rows [x.2])]⟩ rfl rfl rfl ?_ ?_
      ·intro x7 hx7; intro w1
       refine r_buildSlice _ rfl rfl (fun _ => T.bs_strs_1 ..) fun gS => ?_
       refine hl_nil ?_
       refine hq_letgo (rows [x7.2]) (List.prefix_refl _) ?_
       exact qv_done (gS, x7.2) trivial rfl ⟨m0, trivial⟩
      refine hb_nil ⟨rfl, ?_⟩
      intro x7 hx7 x8 _
      obtain ⟨g8, t8⟩ := x8
      refine r_append_full (R.length + 1) (rows (R ++ [t8])) T.el_strs rfl rfl rfl (by repeat constructor) (rows_len R) (Src.row (news := rows [t8]) (m := 1) (by repeat constructor) rfl (rows_one _) (by decide)) rfl (rows_append R [t8]).symm (by unfold maxLen; omega) (by omega) fun A' c' hc' => ?_
      refine r_assign rfl rfl ?_
      refine hl_nil ?_
      refine inb_n ?_
      exact cut_n _ (R ++ [t8], (A', c')) ⟨by rw [len_snoc]; omega, by rw [len_snoc]; exact hc'⟩ ⟨rfl, rfl, rfl, rfl, rfl, rfl, by rw [len_snoc]; rfl, trivial⟩ (List.nil_sublist _) ⟨(by repeat constructor), (by repeat constructor), (by repeat constructor), (by repeat constructor), (by repeat constructor), (by repeat constructor), (by repeat constructor), trivial⟩
     ·have hb4' := hb4; try simp at hb4'
      refine hc_seq ?_
      refine hc_region ?_
      refine r_eql rfl rfl rfl ?_
      refine r_assign rfl rfl ?_
      refine hl_nil ?_
      refine then_n ?_
      first | refine c_dec rfl (fun hb5 => ?_) (fun hb5 => ?_) | refine hc_cond rfl (fun hb5 => ?_) (fun hb5 => ?_)
      ·have hb5' := hb5; try simp at hb5'
       refine hc_seq ?_
       refine hc_region ?_
       refine r_move rfl rfl ?_
       refine r_len_sl rfl T.u_strs rfl ?_
       refine r_gtr rfl rfl rfl ?_
       refine hl_nil ?_
       refine then_n ?_
       first | refine c_dec rfl (fun hb6 => ?_) (fun hb6 => ?_) | refine hc_cond rfl (fun hb6 => ?_) (fun hb6 => ?_)
       ·have hb6' := hb6; try simp at hb6'
        obtain ⟨gp, cur, e1, e2, h3, h4, h5, h6, _⟩ := hx.open_ (by omega)
        obtain ⟨na, nc⟩ := on
        simp only at e1 e2 h3 h4 h5
        subst e1
        subst e2
        refine hc_region ?_
        refine r_move rfl rfl ?_
        refine r_move rfl rfl ?_
        refine r_move rfl rfl ?_
        refine r_len_sl rfl T.u_strs rfl ?_
        refine r_sub ((R.length - 1 : Nat) : Int) rfl rfl rfl (by omega) (by unfold I64; omega) ?_
        refine hl_call F.kit_Dice_To_cb rfl rfl (kit_Dice_To_meets ((R.length - 1 : Nat) : Int) hn hs4 (by omega)) (.refl _) ⟨(by repeat constructor), trivial⟩ fun r hr => ?_
        obtain ⟨s5, z⟩ := r
        obtain ⟨hs5, hz⟩ := hr
        simp only [ToInv] at hz
        obtain ⟨zn, rfl⟩ := Int.eq_ofNat_of_zero_le hz.1
        have hzl : zn < R.length := by
          by_cases h1 : 1 ≤ ((R.length - 1 : Nat) : Int)
          · have := hz.2.1 h1; omega
          · have := hz.2.2 (by omega); omega
        refine r_move rfl rfl ?_
        refine hl_call F.kit_LineOf_cb rfl rfl (kit_LineOf_meets hn hs5) (.refl _) ⟨(by repeat constructor), trivial⟩ fun r hr => ?_
        obtain ⟨s6, t⟩ := r
        obtain ⟨hs6, ht⟩ := hr
        refine r_indexAddr_own zn zn rfl T.u_strs T.sz_string rfl rfl rfl hzl (by omega) ?_
        refine r_store (u := cur[zn]) rfl rfl (.swap _ _ _) T.sz_string (Array.getElem?_eq_getElem (by omega)) rfl ?_
        refine hl_nil ?_
        refine inb_n ?_
        refine hq_grown (og := [_]) (Grow.set (l := R) (k := zn) (a := t) rfl rfl h3 h4 h5 h6) ?_
        exact cut_n _ (R.set zn t, (some ⟨gp, 0, none⟩, nc)) ⟨by rw [List.length_set]; omega, by rw [List.length_set]; exact h3⟩ ⟨rfl, rfl, rfl, rfl, rfl, rfl, by rw [List.length_set]; rfl, trivial⟩ (List.nil_sublist _) ⟨(by repeat constructor), (by repeat constructor), (by repeat constructor), (by repeat constructor), (by repeat constructor), (by repeat constructor), (by repeat constructor), trivial⟩
       ·have hb6' := hb6; try simp at hb6'
        refine hc_skip ?_
        refine inb_n ?_
        refine hq_perm (List.perm_append_comm (l₁ := [_])) ?_
        refine hq_grown hx ?_
        exact cut_n _ (R, on) ⟨by simp only; omega, hx.le⟩ ⟨rfl, rfl, rfl, rfl, rfl, rfl, rfl, trivial⟩ (List.nil_sublist _) ⟨(by repeat constructor), (by repeat constructor), (by repeat constructor), (by repeat constructor), (by repeat constructor), (by repeat constructor), (by repeat constructor), trivial⟩
      ·have hb5' := hb5; try simp at hb5'
       refine hc_skip ?_
       refine inb_n ?_
       refine hq_perm (List.perm_append_comm (l₁ := [_])) ?_
       refine hq_grown hx ?_
       exact cut_n _ (R, on) ⟨by simp only; omega, hx.le⟩ ⟨rfl, rfl, rfl, rfl, rfl, rfl, rfl, trivial⟩ (List.nil_sublist _) ⟨(by repeat constructor), (by repeat constructor), (by repeat constructor), (by repeat constructor), (by repeat constructor), (by repeat constructor), (by repeat constructor), trivial⟩
   ·intro z hz
    obtain ⟨q, on⟩ := z
    obtain ⟨hq7, hqc⟩ := hz
    simp only at hq7 hqc
    refine hc_seq ?_
    refine hc_region ?_
    refine r_move rfl rfl ?_
    refine r_move rfl rfl ?_
    refine r_move rfl rfl ?_
    refine r_move rfl rfl ?_
    refine r_buildSlice _ rfl rfl (fun _ => T.bs_L_L_L_string_4 ..) fun g50 => ?_
    refine r_move rfl rfl ?_
    refine r_move rfl rfl ?_
    refine r_move rfl rfl ?_
    refine r_move rfl rfl ?_
    refine r_buildSlice _ rfl rfl (fun _ => T.bs_L_L_api_Mark_4 ..) fun g51 => ?_
    refine r_move rfl rfl ?_
    refine r_move rfl rfl ?_
    refine r_move rfl rfl ?_
    refine r_move rfl rfl ?_
    refine r_buildSlice _ rfl rfl (fun _ => T.bs_pages_4 ..) fun g52 => ?_
    refine r_assign rfl rfl ?_
    refine r_assign rfl rfl ?_
    refine r_assign rfl rfl ?_
    refine hl_nil ?_
    refine then_n ?_
    refine hc_seq ?_
    refine hc_seq ?_
    refine hc_letgo (rows [(⟨B, cb, p⟩ : Sl Str), ⟨on.1, on.2, q⟩, ⟨oz.1, oz.2, R⟩, ⟨on.1, on.2, q⟩]) (List.prefix_refl _) ?_
    refine hc_letgo (rows [(⟨Mm, cm, ms⟩ : Sl Mk), ⟨oy.1, oy.2, y⟩, ⟨oy.1, oy.2, y⟩, ⟨Mm, cm, ms⟩]) (List.prefix_refl _) ?_
    refine hc_letgo (rows [(⟨A, ca, ys⟩ : Sl (Sl Str)), ⟨oM.1, oM.2, M⟩, ⟨oM.1, oM.2, M⟩, ⟨oM.1, oM.2, M⟩]) (List.prefix_refl _) ?_
    have hM20 : ∀ q ∈ M, q.l.length ≤ 20 := fun q hq => by have := (hMo q hq).2.1; omega
    have yal : ∀ w ∈ [(⟨A, ca, ys⟩ : Sl (Sl Str)), ⟨oM.1, oM.2, M⟩, ⟨oM.1, oM.2, M⟩, ⟨oM.1, oM.2, M⟩], w.l.length ≤ 20 ∧ w.l.length ≤ w.c ∧ ∀ q ∈ w.l, q.l.length ≤ 20 := by
      intro w hw; simp only [List.mem_cons, List.not_mem_nil, or_false] at hw
      rcases hw with rfl | rfl | rfl | rfl
      · exact ⟨hold2.1, hy.2, hyq2⟩
      all_goals exact ⟨by simp only; omega, hMc, hM20⟩
    have mal : ∀ w ∈ [(⟨Mm, cm, ms⟩ : Sl Mk), ⟨oy.1, oy.2, y⟩, ⟨oy.1, oy.2, y⟩, ⟨Mm, cm, ms⟩], w.l.length ≤ 20 := by
      intro w hw; simp only [List.mem_cons, List.not_mem_nil, or_false] at hw
      rcases hw with rfl | rfl | rfl | rfl <;> simp only <;> omega
    have pal : ∀ w ∈ [(⟨B, cb, p⟩ : Sl Str), ⟨on.1, on.2, q⟩, ⟨oz.1, oz.2, R⟩, ⟨on.1, on.2, q⟩], w.l.length ≤ 20 := by
      intro w hw; simp only [List.mem_cons, List.not_mem_nil, or_false] at hw
      rcases hw with rfl | rfl | rfl | rfl <;> simp only <;> omega
    refine hc_facts (Fs := [(⟨A, ca, ys⟩ : Sl (Sl Str)), ⟨oM.1, oM.2, M⟩, ⟨oM.1, oM.2, M⟩, ⟨oM.1, oM.2, M⟩].map fun w => Rows2 w.a w.l) (by intro F hF; left; simp only [List.map_cons, List.map_nil, List.mem_cons, List.not_mem_nil, or_false] at hF; rcases hF with rfl | rfl | rfl | rfl <;> repeat constructor) ?_
    refine hc_rows2 (A := (some ⟨g51, 0, none⟩)) (ps := [(⟨Mm, cm, ms⟩ : Sl Mk), ⟨oy.1, oy.2, y⟩, ⟨oy.1, oy.2, y⟩, ⟨Mm, cm, ms⟩]) (by repeat constructor) (by intro w hw; simp only [List.mem_cons, List.not_mem_nil, or_false] at hw; rcases hw with rfl | rfl | rfl | rfl <;> repeat constructor) ?_
    refine hc_rows2 (A := (some ⟨g52, 0, none⟩)) (ps := [(⟨B, cb, p⟩ : Sl Str), ⟨on.1, on.2, q⟩, ⟨oz.1, oz.2, R⟩, ⟨on.1, on.2, q⟩]) (by repeat constructor) (by intro w hw; simp only [List.mem_cons, List.not_mem_nil, or_false] at hw; rcases hw with rfl | rfl | rfl | rfl <;> repeat constructor) ?_
    have h4y : [(⟨A, ca, ys⟩ : Sl (Sl Str)), ⟨oM.1, oM.2, M⟩, ⟨oM.1, oM.2, M⟩, ⟨oM.1, oM.2, M⟩].length = 4 := rfl
    have h4m : [(⟨Mm, cm, ms⟩ : Sl Mk), ⟨oy.1, oy.2, y⟩, ⟨oy.1, oy.2, y⟩, ⟨Mm, cm, ms⟩].length = 4 := rfl
    have h4p : [(⟨B, cb, p⟩ : Sl Str), ⟨on.1, on.2, q⟩, ⟨oz.1, oz.2, R⟩, ⟨on.1, on.2, q⟩].length = 4 := rfl
    generalize [(⟨A, ca, ys⟩ : Sl (Sl Str)), ⟨oM.1, oM.2, M⟩, ⟨oM.1, oM.2, M⟩, ⟨oM.1, oM.2, M⟩] = yL at *
    generalize [(⟨Mm, cm, ms⟩ : Sl Mk), ⟨oy.1, oy.2, y⟩, ⟨oy.1, oy.2, y⟩, ⟨Mm, cm, ms⟩] = mL at *
    generalize [(⟨B, cb, p⟩ : Sl Str), ⟨on.1, on.2, q⟩, ⟨oz.1, oz.2, R⟩, ⟨on.1, on.2, q⟩] = pL at *
    refine hc_region ?_
    refine r_assign rfl rfl ?_
    refine hl_nil ?_
    refine then_n ?_
    refine hc_block ?_
    refine hc_loop (β := Nat) ⟨fun i => i ≤ 4, fun i => [(16, .slice (some ⟨g50, 0, none⟩) 4 4), (17, .slice (some ⟨g51, 0, none⟩) 4 4), (18, .slice (some ⟨g52, 0, none⟩) 4 4), (19, int i)], fun _ => [], fun _ => [Row (some ⟨g52, 0, none⟩) (rows pL), Row (some ⟨g51, 0, none⟩) (rows mL), Row (some ⟨g50, 0, none⟩) (rows yL), Rows2 (some ⟨g52, 0, none⟩) pL, Rows2 (some ⟨g51, 0, none⟩) mL, Facts (yL.map fun p => Rows2 p.a p.l)]⟩ (fun i => 4 - i) 0 (Nat.zero_le _) ⟨rfl, rfl, rfl, rfl, trivial⟩ (List.nil_sublist _) ⟨(by repeat constructor), (by repeat constructor), (by repeat constructor), (by repeat constructor), (by repeat constructor), (by repeat constructor), trivial⟩ fun i hi => ?_
    simp only at hi
    refine hc_seq ?_
    refine hc_seq ?_
    refine hc_region ?_
    refine r_move rfl rfl ?_
    refine r_move rfl rfl ?_
    refine r_len_sl rfl T.u_L_L_L_string rfl ?_
    refine r_lss rfl rfl rfl ?_
    refine hl_nil ?_
    refine then_n ?_
    first | refine c_dec rfl (fun hb7 => ?_) (fun hb7 => ?_) | refine hc_cond rfl (fun hb7 => ?_) (fun hb7 => ?_)
    ·have hb7' := hb7; try simp at hb7'
     have hi2 : i < 4 := by omega
     have hmy : (yL.getD i default) ∈ yL := getD_mem (by omega)
     have hmm : (mL.getD i default) ∈ mL := getD_mem (by omega)
     have hmp : (pL.getD i default) ∈ pL := getD_mem (by omega)
     have hya := yal _ hmy
     have hma := mal _ hmm
     have hpa := pal _ hmp
     refine hc_skip ?_
     refine then_n ?_
     refine hc_seq ?_
     refine hc_block ?_
     refine hc_seq ?_
     refine hc_drawW ([]) (_) (.refl _) 15 [10, 5] mixed (by decide) (by decide) (by decide) rfl rfl rfl ?_
     apply hb_ex _ rfl rfl rfl
     ·intro w1
      refine r_move rfl rfl ?_
      refine hl_nil ?_
      exact qe_done rfl
     apply hb_ex _ rfl rfl rfl
     ·intro w1
      refine r_move rfl rfl ?_
      refine hl_nil ?_
      exact qe_done rfl
     apply hb_ex _ rfl rfl rfl
     ·intro w1
      refine r_elem (α := Sl (Sl Str)) yL i rfl T.u_L_L_L_string T.sz_pages rfl rfl rfl (by repeat constructor) h4y.symm (by omega) (by decide) ?_
      refine hl_nil ?_
      exact qe_done rfl
     apply hb_ex _ rfl rfl rfl
     ·intro w1
      refine r_load rfl T.cell_pages rfl (cell_row (by repeat constructor) (rows_get0 (by omega) rfl)) ?_
      refine hl_nil ?_
      exact qe_done rfl
     refine hb_vs ⟨List (Sl Str) × OutC, fun x => years x.1 = years (yL.getD i default).l ∧ CapOK x.1 ∧ x.1.length ≤ x.2.2, fun x => .slice x.2.1 x.1.length x.2.2, fun x => [Rows2 x.2.1 x.1]⟩ rfl rfl rfl ?_ ?_
     ·intro w1
      refine hl_pick (Fs := yL.map fun p => Rows2 p.a p.l) (F := Rows2 (yL.getD i default).a (yL.getD i default).l) (by repeat constructor) (List.mem_map.2 ⟨_, hmy, rfl⟩) ?_
      refine hl_call F.kit_DupYears_cb rfl rfl (kit_DupYears_meets (yL.getD i default).l (by omega) (fun q hq => by have := hya.2.2 q hq; omega)) (List.Perm.refl _) ⟨(by repeat constructor), trivial⟩ fun z hz => ?_
      refine hl_nil ?_
      exact qv_done z hz rfl ⟨m0, trivial⟩
     refine hb_wr ⟨OutC × Hp, fun x => Grow T.api_Mark 3 x.1.1 0 x.1.2 [] x.2, fun x => .slice x.1.1 0 x.1.2, fun _ => [], fun x => x.2⟩ rfl rfl rfl ?_ ?_
     ·intro w1
      refine r_buildSlice [] rfl rfl (fun _ => T.bs_L_api_Mark_0 ..) fun gS => ?_
      refine hl_nil ?_
      exact qw_done ((some ⟨gS, 0, none⟩, 0), [_]) (Grow.new (cs := #[]) (n := 0) rfl (Nat.zero_le _)) (fun _ => rfl) (.refl _) trivial
     apply hb_ex _ rfl rfl rfl
     ·intro w1
      refine r_move rfl rfl ?_
      refine hl_nil ?_
      exact qe_done rfl
     apply hb_ex _ rfl rfl rfl
     ·intro w1
      refine r_move rfl rfl ?_
      refine hl_nil ?_
      exact qe_done rfl
     apply hb_ex _ rfl rfl rfl
     ·intro w1
      refine r_elem (α := Sl Mk) mL i rfl T.u_L_L_api_Mark T.sz_L_api_Mark rfl rfl rfl (by repeat constructor) h4m.symm (by omega) (by decide) ?_
      refine hl_nil ?_
      exact qe_done rfl
     apply hb_ex _ rfl rfl rfl
     ·intro w1
      refine r_load rfl T.cell_L_api_Mark rfl (cell_row (by repeat constructor) (rows_get0 (by omega) rfl)) ?_
      refine hl_nil ?_
      exact qe_done rfl
     refine hb_wr ⟨OutC, fun _ => True, fun x => .slice x.1 (mL.getD i default).l.length x.2, fun x => [Row x.1 (rows (mL.getD i default).l)], fun _ => []⟩ rfl rfl rfl ?_ ?_
     ·intro x5 hx5; intro w1
      refine hl_inner (A := (some ⟨g51, 0, none⟩)) (ps := mL) (p := (mL.getD i default)) (by repeat constructor) hmm ?_
      refine r_append (mL.getD i default).l.length (rows (mL.getD i default).l) T.el_L_api_Mark rfl rfl rfl hx5 (hp' := []) (by rw [List.append_nil]) (Src.row m0 (rows_len _) (rows_one _) (by decide)) (by omega) rfl (by unfold maxLen; omega) (by omega) fun A' c' og' hG' => ?_
      refine hl_grown hG' ?_
      refine hl_nil ?_
      exact qw_done (A', c') trivial (fun _ => rfl) (.refl _) ⟨m0, trivial⟩
     apply hb_ex _ rfl rfl rfl
     ·intro w1
      refine r_move rfl rfl ?_
      refine hl_nil ?_
      exact qe_done rfl
     apply hb_ex _ rfl rfl rfl
     ·intro w1
      refine r_move rfl rfl ?_
      refine hl_nil ?_
      exact qe_done rfl
     apply hb_ex _ rfl rfl rfl
     ·intro w1
      refine r_elem (α := Sl Str) pL i rfl T.u_pages T.sz_strs rfl rfl rfl (by repeat constructor) h4p.symm (by omega) (by decide) ?_
      refine hl_nil ?_
      exact qe_done rfl
     apply hb_ex _ rfl rfl rfl
     ·intro w1
      refine r_load rfl T.cell_strs rfl (cell_row (by repeat constructor) (rows_get0 (by omega) rfl)) ?_
      refine hl_nil ?_
      exact qe_done rfl
     refine hb_nil ⟨rfl, ?_⟩
     intro x4 hx4 x5 hx5 x10 hx10
     refine hl_inner (A := (some ⟨g52, 0, none⟩)) (ps := pL) (p := (pL.getD i default)) (by repeat constructor) hmp ?_
     refine hl_call F.kit_DupStrings_cb rfl rfl (kit_DupStrings_meets (pL.getD i default).l (by omega)) (List.Perm.refl _) ⟨(by repeat constructor), trivial⟩ fun x15 hx15 => ?_
     refine r_assign rfl rfl ?_
     refine r_assign rfl rfl ?_
     refine r_assign rfl rfl ?_
     refine hl_nil ?_
     refine then_n ?_
     refine hc_seq ?_
     refine hc_region ?_
     refine r_move rfl rfl ?_
     refine r_move rfl rfl ?_
     refine r_move rfl rfl ?_
     have hlk := proof_Look_meets (A := x4.2.1) (ca := x4.2.2) (B := x10.1) (cb := x10.2) (C := x15.1) (cc := x15.2) x4.1 (mL.getD i default).l (pL.getD i default).l hx4.2.2 hx4.2.1
     rw [look_congr hx4.1] at hlk
     refine hl_call F.proof_Look_cb rfl rfl (hlk) (List.Perm.refl _) ⟨(by repeat constructor), (by repeat constructor), (by repeat constructor), trivial⟩ fun _ _ => ?_
     refine r_move rfl rfl ?_
     refine r_extract rfl rfl rfl ?_
     refine r_extract rfl rfl rfl ?_
     refine r_alloc rfl (fun _ => T.al_api_Flaw _) fun gA => ?_
     refine r_storeS rfl rfl (by first | exact .refl _ | exact perm2 _ _ _ | exact perm3 _ _ _ _ | exact perm4 _ _ _ _ _) T.sz_api_Flaw (by rfl) (by rfl) ?_
     refine r_assign rfl rfl ?_
     refine hl_nil ?_
     refine then_n ?_
     refine hc_seq ?_
     refine hc_drawW ([]) (_) (.refl _) 18 [17, 16] mixed (by decide) (by decide) (by decide) rfl rfl rfl ?_
     apply hb_ex _ rfl rfl rfl
     ·intro w1
      refine r_move rfl rfl ?_
      refine hl_nil ?_
      exact qe_done rfl
     apply hb_ex _ rfl rfl rfl
     ·intro w1
      refine r_move rfl rfl ?_
      refine hl_nil ?_
      exact qe_done rfl
     apply hb_ex _ rfl rfl rfl
     ·intro w1
      refine r_elem (α := Sl (Sl Str)) yL i rfl T.u_L_L_L_string T.sz_pages rfl rfl rfl (by repeat constructor) h4y.symm (by omega) (by decide) ?_
      refine hl_nil ?_
      exact qe_done rfl
     apply hb_ex _ rfl rfl rfl
     ·intro w1
      refine r_load rfl T.cell_pages rfl (cell_row (by repeat constructor) (rows_get0 (by omega) rfl)) ?_
      refine hl_nil ?_
      exact qe_done rfl
     apply hb_ex _ rfl rfl rfl
     ·intro w1
      refine r_move rfl rfl ?_
      refine hl_nil ?_
      exact qe_done rfl
     apply hb_ex _ rfl rfl rfl
     ·intro w1
      refine r_move rfl rfl ?_
      refine hl_nil ?_
      exact qe_done rfl
     apply hb_ex _ rfl rfl rfl
     ·intro w1
      refine r_elem (α := Sl Mk) mL i rfl T.u_L_L_api_Mark T.sz_L_api_Mark rfl rfl rfl (by repeat constructor) h4m.symm (by omega) (by decide) ?_
      refine hl_nil ?_
      exact qe_done rfl
     apply hb_ex _ rfl rfl rfl
     ·intro w1
      refine r_load rfl T.cell_L_api_Mark rfl (cell_row (by repeat constructor) (rows_get0 (by omega) rfl)) ?_
      refine hl_nil ?_
      exact qe_done rfl
     apply hb_ex _ rfl rfl rfl
     ·intro w1
      refine r_move rfl rfl ?_
      refine hl_nil ?_
      exact qe_done rfl
     apply hb_ex _ rfl rfl rfl
     ·intro w1
      refine r_move rfl rfl ?_
      refine hl_nil ?_
      exact qe_done rfl
     apply hb_ex _ rfl rfl rfl
     ·intro w1
      refine r_elem (α := Sl Str) pL i rfl T.u_pages T.sz_strs rfl rfl rfl (by repeat constructor) h4p.symm (by omega) (by decide) ?_
      refine hl_nil ?_
      exact qe_done rfl
     apply hb_ex _ rfl rfl rfl
     ·intro w1
      refine r_load rfl T.cell_strs rfl (cell_row (by repeat constructor) (rows_get0 (by omega) rfl)) ?_
      refine hl_nil ?_
      exact qe_done rfl
     apply hb_ex _ rfl rfl rfl
     ·intro w1
      refine hl_pick (Fs := yL.map fun p => Rows2 p.a p.l) (F := Rows2 (yL.getD i default).a (yL.getD i default).l) (by repeat constructor) (List.mem_map.2 ⟨_, hmy, rfl⟩) ?_
      refine hl_inner (A := (some ⟨g51, 0, none⟩)) (ps := mL) (p := (mL.getD i default)) (by repeat constructor) hmm ?_
      refine hl_inner (A := (some ⟨g52, 0, none⟩)) (ps := pL) (p := (pL.getD i default)) (by repeat constructor) hmp ?_
      have hrd := ref07_Look_meets (A := (yL.getD i default).a) (ca := (yL.getD i default).c) (B := (mL.getD i default).a) (cb := (mL.getD i default).c) (C := (pL.getD i default).a) (cc := (pL.getD i default).c) (yL.getD i default).l (mL.getD i default).l (pL.getD i default).l hya.2.1
      rw [← look_same] at hrd
      refine hl_call F.ref07_Look_cb rfl rfl (hrd) (List.Perm.refl _) ⟨(by repeat constructor), (by repeat constructor), (by repeat constructor), trivial⟩ fun _ _ => ?_
      refine hl_nil ?_
      exact qe_done rfl
     apply hb_ex _ rfl rfl rfl
     ·intro w1
      refine r_move rfl rfl ?_
      refine hl_nil ?_
      exact qe_done rfl
     apply hb_ex _ rfl rfl rfl
     ·intro w1
      refine r_extract rfl rfl rfl ?_
      refine hl_nil ?_
      exact qe_done rfl
     apply hb_ex _ rfl rfl rfl
     ·intro w1
      refine r_extract rfl rfl rfl ?_
      refine hl_nil ?_
      exact qe_done rfl
     refine hb_wr ⟨Nat, fun _ => True, fun g => .pointer (some ⟨g, 0, none⟩), fun _ => [], fun g => [(g, .cells #[int 0, int 0] T.api_Flaw (0, 0))]⟩ rfl rfl rfl ?_ ?_
     ·intro w1
      refine r_alloc rfl (fun _ => T.al_api_Flaw _) fun gA => ?_
      refine hl_nil ?_
      exact qw_done gA trivial (fun _ => rfl) (.refl _) trivial
     refine hb_stL ⟨Nat, fun _ => True, fun _ => undef, fun _ => [], fun g => [(g, .cells #[int (lookP (yL.getD i default).l (mL.getD i default).l (pL.getD i default).l).1.1, int (lookP (yL.getD i default).l (mL.getD i default).l (pL.getD i default).l).1.2] T.api_Flaw (0, 0))]⟩ [(25, 0)] rfl rfl rfl ?_ ?_
     ·intro ρ; intro x16 hx16 hr16 _; intro w1
      refine r_storeS rfl rfl (by first | exact .refl _ | exact perm2 _ _ _ | exact perm3 _ _ _ _ | exact perm4 _ _ _ _ _) T.sz_api_Flaw (by rfl) (by rfl) ?_
      refine hl_nil ?_
      exact ql_done x16 trivial (fun h => by cases h) (fun p hp => by simp at hp; subst hp; exact hr16 rfl) (.refl _) trivial
     refine hb_nil ⟨rfl, ?_⟩
     intro x16 hx16 x17 hx17 hl17
     obtain rfl : x16 = x17 := ptr_inj (hl17 (25, 0) (by simp) rfl _ rfl)
     refine r_assign rfl rfl ?_
     refine hl_nil ?_
     refine then_n ?_
     refine hc_seq ?_
     refine hc_perm (hp' := [(x16, .cells #[int (lookP (yL.getD i default).l (mL.getD i default).l (pL.getD i default).l).1.1, int (lookP (yL.getD i default).l (mL.getD i default).l (pL.getD i default).l).1.2] T.api_Flaw (0, 0)), (gA, .cells #[int (lookP (yL.getD i default).l (mL.getD i default).l (pL.getD i default).l).1.1, int (lookP (yL.getD i default).l (mL.getD i default).l (pL.getD i default).l).1.2] T.api_Flaw (0, 0))]) (.refl _) ?_
     refine hc_region ?_
     first | refine r_loadA rfl T.row_api_Flaw T.sz_api_Flaw rfl (by repeat constructor) (by rfl) ?_ | refine r_loadB rfl T.row_api_Flaw T.sz_api_Flaw rfl (by repeat constructor) (by rfl) ?_ | refine r_loadS rfl T.row_api_Flaw T.sz_api_Flaw rfl rfl (cells_row (by repeat constructor) (rows_all (by omega))) ?_
     first | refine r_loadA rfl T.row_api_Flaw T.sz_api_Flaw rfl (by repeat constructor) (by rfl) ?_ | refine r_loadB rfl T.row_api_Flaw T.sz_api_Flaw rfl (by repeat constructor) (by rfl) ?_ | refine r_loadS rfl T.row_api_Flaw T.sz_api_Flaw rfl rfl (cells_row (by repeat constructor) (rows_all (by omega))) ?_
     refine r_bin _ rfl rfl rfl (fun _ => T.eqg_api_Flaw ..) (fun _ => T.neq_api_Flaw ..) ?_
     refine r_move rfl rfl ?_
     refine g_split rfl rfl ?_ ?_
     ·intro hg10; have hg10' := hg10; try simp at hg10'
      refine g_yes rfl rfl hg10 ?_
      refine r_move rfl rfl ?_
      refine g_yes rfl rfl hg10 ?_
      refine r_move rfl rfl ?_
      refine g_yes rfl rfl hg10 ?_
      refine r_neq rfl rfl rfl ?_
      refine p_f rfl rfl (bf1 hg10) rfl ?_
      refine r_move rfl rfl ?_
      refine g_split rfl rfl ?_ ?_
      ·intro hg11; have hg11' := hg11; try simp at hg11'
       refine g_yes rfl rfl hg11 ?_
       refine r_move rfl rfl ?_
       refine g_yes rfl rfl hg11 ?_
       refine r_move rfl rfl ?_
       refine g_yes rfl rfl hg11 ?_
       refine r_move rfl rfl ?_
       refine g_yes rfl rfl hg11 ?_
       refine r_elem (α := Sl (Sl Str)) yL i rfl T.u_L_L_L_string T.sz_pages rfl rfl rfl (by repeat constructor) h4y.symm (by omega) (by decide) ?_
       refine g_yes rfl rfl hg11 ?_
       refine r_load rfl T.cell_pages rfl (cell_row (by repeat constructor) (rows_get0 (by omega) rfl)) ?_
       refine g_yes rfl rfl hg11 ?_
       refine hl_pick (Fs := yL.map fun p => Rows2 p.a p.l) (F := Rows2 (yL.getD i default).a (yL.getD i default).l) (by repeat constructor) (List.mem_map.2 ⟨_, hmy, rfl⟩) ?_
       refine hl_call F.kit_EqYears_cb rfl rfl (kit_EqYears_meets x4.1 (yL.getD i default).l (by have := congrArg List.length hx4.1; rw [years_len, years_len] at this; omega) (fun q hq => by have h := hx4.1; obtain ⟨w, hw, e⟩ := List.mem_map.1 (h ▸ List.mem_map_of_mem hq : q.l ∈ years (yL.getD i default).l); have := hya.2.2 w hw; rw [← e]; omega)) (hpR := [_, _]) (.refl _) ⟨(by repeat constructor), (by repeat constructor), trivial⟩ fun _ _ => ?_
       refine g_yes rfl rfl hg11 ?_
       refine r_not rfl rfl ?_
       refine p_f rfl rfl (bf1 hg11) rfl ?_
       refine r_move rfl rfl ?_
       refine g_split rfl rfl ?_ ?_
       ·intro hg12; have hg12' := hg12; try simp at hg12'
        refine g_yes rfl rfl hg12 ?_
        refine r_move rfl rfl ?_
        refine g_yes rfl rfl hg12 ?_
        refine r_move rfl rfl ?_
        refine g_yes rfl rfl hg12 ?_
        refine r_move rfl rfl ?_
        refine g_yes rfl rfl hg12 ?_
        refine r_elem (α := Sl Mk) mL i rfl T.u_L_L_api_Mark T.sz_L_api_Mark rfl rfl rfl (by repeat constructor) h4m.symm (by omega) (by decide) ?_
        refine g_yes rfl rfl hg12 ?_
        refine r_load rfl T.cell_L_api_Mark rfl (cell_row (by repeat constructor) (rows_get0 (by omega) rfl)) ?_
        refine g_yes rfl rfl hg12 ?_
        refine hl_inner (A := (some ⟨g51, 0, none⟩)) (ps := mL) (p := (mL.getD i default)) (by repeat constructor) hmm ?_
        refine hl_call F.kit_EqMarks_cb rfl rfl (kit_EqMarks_meets (mL.getD i default).l (mL.getD i default).l (by omega)) (hpR := [_, _]) (.refl _) ⟨(by repeat constructor), (by repeat constructor), trivial⟩ fun _ _ => ?_
        refine g_yes rfl rfl hg12 ?_
        refine r_not rfl rfl ?_
        refine p_f rfl rfl (bf1 hg12) rfl ?_
        refine r_move rfl rfl ?_
        refine g_split rfl rfl ?_ ?_
        ·intro hg13; have hg13' := hg13; try simp at hg13'
         refine g_yes rfl rfl hg13 ?_
         refine r_move rfl rfl ?_
         refine g_yes rfl rfl hg13 ?_
         refine r_move rfl rfl ?_
         refine g_yes rfl rfl hg13 ?_
         refine r_move rfl rfl ?_
         refine g_yes rfl rfl hg13 ?_
         refine r_elem (α := Sl Str) pL i rfl T.u_pages T.sz_strs rfl rfl rfl (by repeat constructor) h4p.symm (by omega) (by decide) ?_
         refine g_yes rfl rfl hg13 ?_
         refine r_load rfl T.cell_strs rfl (cell_row (by repeat constructor) (rows_get0 (by omega) rfl)) ?_
         refine g_yes rfl rfl hg13 ?_
         refine hl_inner (A := (some ⟨g52, 0, none⟩)) (ps := pL) (p := (pL.getD i default)) (by repeat constructor) hmp ?_
         refine hl_call F.kit_EqStrings_cb rfl rfl (kit_EqStrings_meets (pL.getD i default).l (pL.getD i default).l (by omega)) (hpR := [_, _]) (.refl _) ⟨(by repeat constructor), (by repeat constructor), trivial⟩ fun _ _ => ?_
         refine g_yes rfl rfl hg13 ?_
         refine r_not rfl rfl ?_
         refine p_f rfl rfl (bf1 hg13) rfl ?_
         refine hl_nil ?_
         refine then_n ?_
         first | refine c_dec rfl (fun hb8 => ?_) (fun hb8 => ?_) | refine hc_cond rfl (fun hb8 => ?_) (fun hb8 => ?_)
         ·have hb8' := hb8; try simp at hb8'
         ·have hb8' := hb8; try simp at hb8'
          refine hc_skip ?_
          refine inb_n ?_
          refine then_n ?_
          refine hc_region ?_
          refine r_move rfl rfl ?_
          refine r_add _ rfl rfl rfl rfl (by unfold I64; omega) ?_
          refine r_assign rfl rfl ?_
          refine hl_nil ?_
          exact again _ (i + 1) (by show i + 1 ≤ 4; omega) (by show 4 - (i + 1) < 4 - i; omega) ⟨rfl, rfl, rfl, rfl, trivial⟩ (List.nil_sublist _) ⟨(by repeat constructor), (by repeat constructor), (by repeat constructor), (by repeat constructor), (by repeat constructor), (by repeat constructor), trivial⟩
        ·intro hg13; have hg13' := hg13; try simp at hg13'
       ·intro hg12; have hg12' := hg12; try simp at hg12'
        all_goals (rw [decide_eq_true hx4.1] at hg12; cases hg12)
      ·intro hg11; have hg11' := hg11; try simp at hg11'
     ·intro hg10; have hg10' := hg10; try simp at hg10'
    ·have hb7' := hb7; try simp at hb7'
     refine hc_exit ?_
     refine then_exit ?_
     refine then_exit ?_
     refine inb_hit ?_
     refine then_n ?_
     refine hc_seq ?_
     refine hc_region ?_
     refine hl_call F.law07_correcting_cb rfl rfl (law07_correcting_meets) (List.Perm.refl _) trivial fun _ _ => ?_
     refine r_assign rfl rfl ?_
     refine hl_nil ?_
     refine then_n ?_
     refine hc_ret ?_
     exact ret1 () rfl rfl rfl trivial (List.nil_sublist _) trivial

end Go.Proofs.Ytpbbgbjidhffoaa
