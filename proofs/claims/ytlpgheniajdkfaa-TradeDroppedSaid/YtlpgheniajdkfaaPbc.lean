/- The examples that every statement of the layer asks for. -/
import Derived.Test.YtlpgheniajdkfaaPbb
import Derived.Test.YtlpgheniajdkfaaPar
namespace Go.Proofs.Ytlpgheniajdkfaa
open Go Go.W
set_option linter.unusedVariables false
set_option linter.unusedSimpArgs false
set_option maxRecDepth 20000
attribute [local irreducible] HL HC HQ HB Row Rows2 Blk Facts

theorem sh_ok (a b : Nat) : ∀ h ∈ shopsH a b, h.2.2.2.l.length ≤ 1000000 := by
  intro h hh
  simp only [shopsH, List.mem_cons, List.not_mem_nil, or_false] at hh
  rcases hh with rfl | rfl | rfl | rfl | rfl | rfl <;> simp
theorem la_ok (a : Nat) : ∀ h ∈ laterH a, h.2.2.2.l.length ≤ 1000000 := by
  intro h hh
  simp only [laterH, List.mem_cons, List.not_mem_nil, or_false] at hh
  rcases hh with rfl | rfl | rfl | rfl | rfl | rfl <;> simp
abbrev shF (x : Nat × Nat × Nat × Nat) : List Fact := [Row (some ⟨x.1, 0, none⟩) (rows shopsC), RowsF (some ⟨x.2.1, 0, none⟩) (shopsH x.2.2.1 x.2.2.2) Hd.row]
abbrev shV (x : Nat × Nat × Nat × Nat) : Value := .agg #[.slice (some ⟨x.1, 0, none⟩) 4 4, .slice (some ⟨x.2.1, 0, none⟩) 6 6]
theorem ex_least (x : Nat × Nat × Nat × Nat) : Meets Try.prog F.trade_Least [shV x, int 1, int 0] { LI := shF x, val := fun _ : Unit => .tuple #[int 0, int 0] } := by
  have h := trade_Least_meets (A := some ⟨x.1, 0, none⟩) (B := some ⟨x.2.1, 0, none⟩) (ca := 4) (cb := 6) shopsC (shopsH x.2.2.1 x.2.2.2) 1 0 (Nat.le_refl 4) (Nat.le_refl 6) (sh_ok _ _)
  rw [sh_of, ix_least] at h
  exact h
theorem ex_follow (x : Nat × Nat × Nat × Nat) : Meets Try.prog F.trade_Follow [shV x, int 5] { LI := shF x, val := fun _ : Unit => .tuple #[int 3, int 2, int 0] } := by
  have h := trade_Follow_meets (A := some ⟨x.1, 0, none⟩) (B := some ⟨x.2.1, 0, none⟩) (ca := 4) (cb := 6) shopsC (shopsH x.2.2.1 x.2.2.2) 5 (Nat.le_refl 4) (Nat.le_refl 6) (sh_ok _ _)
  rw [sh_of, ix_follow] at h
  exact h
theorem ex_join (x : Nat × Nat × Nat × Nat) : Meets Try.prog F.trade_Join [shV x, int 3, int 2] { LI := shF x, inv := fun y : OutS => lsts y.1 = [[2, 4], [3, 2]], val := fun y => .tuple #[.slice y.2.1 y.1.length y.2.2, int 0], LO := fun y => [Rows2 y.2.1 y.1] } := by
  have h := trade_Join_meets (A := some ⟨x.1, 0, none⟩) (B := some ⟨x.2.1, 0, none⟩) (ca := 4) (cb := 6) shopsC (shopsH x.2.2.1 x.2.2.2) 3 2 (Nat.le_refl 4) (Nat.le_refl 6) (sh_ok _ _)
  rw [sh_of, ix_join] at h
  exact h
theorem ex_may (x : Nat × Nat × Nat × Nat) : Meets Try.prog F.trade_May [shV x, str [109]] { LI := shF x, inv := fun y : OutC => 2 ≤ y.2, val := fun y => .tuple #[.slice y.1 2 y.2, int 0], LO := fun y => [Row y.1 (rows ([3, 4] : List Int))] } := by
  have h := trade_May_meets (A := some ⟨x.1, 0, none⟩) (B := some ⟨x.2.1, 0, none⟩) (ca := 4) (cb := 6) shopsC (shopsH x.2.2.1 x.2.2.2) [109] (Nat.le_refl 4) (Nat.le_refl 6) (sh_ok _ _)
  rw [sh_of, ix_may] at h
  exact h
theorem ex_short (x : Nat × Nat × Nat × Nat) : Meets Try.prog F.trade_Short [shV x, int 1] { LI := shF x, val := fun _ : Unit => .tuple #[str [98, 111], int 0] } := by
  have h := trade_Short_meets (A := some ⟨x.1, 0, none⟩) (B := some ⟨x.2.1, 0, none⟩) (ca := 4) (cb := 6) shopsC (shopsH x.2.2.1 x.2.2.2) 1 (Nat.le_refl 4) (Nat.le_refl 6) (sh_ok _ _)
  rw [sh_of, ix_short] at h
  exact h
def movesX : List Cl := [([99, 111, 110, 102, 101, 99, 116, 105, 111, 110, 101, 114], 1), ([104, 97, 116, 116, 101, 114], 3), ([105, 114, 111, 110, 109, 111, 110, 103, 101, 114], 2)]
theorem ex_compare (x : Nat × Nat × Nat × Nat) (y : Nat × Nat × Nat) : Meets Try.prog F.trade_Compare [shV x, .agg #[.slice (some ⟨y.1, 0, none⟩) 4 4, .slice (some ⟨y.2.1, 0, none⟩) 6 6]] { LI := shF x ++ [Row (some ⟨y.1, 0, none⟩) (rows shopsC), RowsF (some ⟨y.2.1, 0, none⟩) (laterH y.2.2) Hd.row], inv := fun z : OutC => 3 ≤ z.2, val := fun z => .tuple #[.slice z.1 3 z.2, int 0], LO := fun z => [Row z.1 (rows movesX)] } := by
  have h := trade_Compare_meets (A := some ⟨x.1, 0, none⟩) (B := some ⟨x.2.1, 0, none⟩) (ca := 4) (cb := 6) (A2 := some ⟨y.1, 0, none⟩) (B2 := some ⟨y.2.1, 0, none⟩) (ca2 := 4) (cb2 := 6) shopsC (shopsH x.2.2.1 x.2.2.2) shopsC (laterH y.2.2) (Nat.le_refl 4) (Nat.le_refl 6) (sh_ok _ _) (Nat.le_refl 4) (Nat.le_refl 6) (la_ok _)
  rw [sh_of, la_of, ix_compare] at h
  exact h
def pairsX (p q : Nat) : List (Sl Int) := [⟨some ⟨p, 0, none⟩, 2, [2, 4]⟩, ⟨some ⟨q, 0, none⟩, 2, [3, 2]⟩]
theorem ex_lists {A B : Option Addr} {ca p q : Nat} {a : List (Sl Int)} (h : lsts a = [[2, 4], [3, 2]]) : Meets Try.prog F.kit_EqLists [.slice A a.length ca, .slice B 2 2] { LI := [Rows2 A a, Rows2 B (pairsX p q)], val := fun _ : Unit => .bool true } := by
  have hl : a.length = 2 := by have := congrArg List.length h; rw [lsts_len] at this; exact this
  have h2 := kit_EqLists_meets (A := A) (B := B) (ca := ca) (cb := 2) a (pairsX p q) (by omega) (fun s hs => by
    have hm : s.l ∈ lsts a := List.mem_map.2 ⟨s, hs, rfl⟩
    rw [h] at hm
    simp only [List.mem_cons, List.not_mem_nil, or_false] at hm
    rcases hm with e | e <;> rw [e] <;> decide)
  rw [decide_eq_true (show lsts a = lsts (pairsX p q) from h)] at h2
  exact h2
theorem ex_moves {A B : Option Addr} {ca cb : Nat} : Meets Try.prog F.kit_EqMoves [.slice A 3 ca, .slice B 3 cb] { LI := [Row A (rows movesX), Row B (rows movesX)], val := fun _ : Unit => .bool true } := by
  have h2 := kit_EqMoves_meets (A := A) (B := B) (ca := ca) (cb := cb) movesX movesX (by decide)
  rw [decide_eq_true rfl] at h2
  exact h2
theorem ex_ints {A B : Option Addr} {ca cb : Nat} : Meets Try.prog F.kit_EqInts [.slice A 2 ca, .slice B 2 cb] { LI := [Row A (rows ([3, 4] : List Int)), Row B (rows ([3, 4] : List Int))], val := fun _ : Unit => .bool true } := by
  have h2 := kit_EqInts_meets (A := A) (B := B) (ca := ca) (cb := cb) [3, 4] [3, 4] (by decide)
  rw [decide_eq_true rfl] at h2
  exact h2

set_option maxHeartbeats 1000000 in
theorem law04_indexed_meets : Meets Try.prog F.law04_indexed [] { val := fun _ : Unit => .bool true } := by
 refine meets_intro F.law04_indexed_f rfl (Nat.le_of_ble_eq_true rfl) fun w0 => ?_
 refine hc_seq ?_
 refine hc_region ?_
 refine r_assign rfl rfl ?_
 refine hl_nil ?_
 refine then_n ?_
 refine hc_seq ?_
 refine hc_region ?_
 refine hl_call F.law04_shops_cb rfl rfl (law04_shops_meets) (List.Perm.refl _) trivial fun x1 _ => ?_
 refine hl_call F.trade_Least_cb rfl rfl (ex_least x1) (List.Perm.refl _) ⟨(by repeat constructor), (by repeat constructor), trivial⟩ fun _ _ => ?_
 refine r_move rfl rfl ?_
 refine r_extract rfl rfl rfl ?_
 refine r_extract rfl rfl rfl ?_
 refine r_assign rfl rfl ?_
 refine r_assign rfl rfl ?_
 refine hl_nil ?_
 refine then_n ?_
 refine hc_seq ?_
 refine hc_region ?_
 refine hl_call F.law04_shops_cb rfl rfl (law04_shops_meets) (List.Perm.refl _) trivial fun x2 _ => ?_
 refine hl_call F.trade_Follow_cb rfl rfl (ex_follow x2) (List.Perm.refl _) ⟨(by repeat constructor), (by repeat constructor), trivial⟩ fun _ _ => ?_
 refine r_move rfl rfl ?_
 refine r_extract rfl rfl rfl ?_
 refine r_extract rfl rfl rfl ?_
 refine r_extract rfl rfl rfl ?_
 refine r_assign rfl rfl ?_
 refine r_assign rfl rfl ?_
 refine r_assign rfl rfl ?_
 refine hl_nil ?_
 refine then_n ?_
 refine hc_seq ?_
 refine hc_region ?_
 refine hl_call F.law04_shops_cb rfl rfl (law04_shops_meets) (List.Perm.refl _) trivial fun x3 _ => ?_
 refine hl_call F.trade_Join_cb rfl rfl (ex_join x3) (List.Perm.refl _) ⟨(by repeat constructor), (by repeat constructor), trivial⟩ fun y3 hy3 => ?_
 refine r_move rfl rfl ?_
 refine r_extract rfl rfl rfl ?_
 refine r_extract rfl rfl rfl ?_
 refine r_assign rfl rfl ?_
 refine r_assign rfl rfl ?_
 refine hl_nil ?_
 refine then_n ?_
 refine hc_seq ?_
 refine hc_region ?_
 refine hl_call F.law04_shops_cb rfl rfl (law04_shops_meets) (List.Perm.refl _) trivial fun x4 _ => ?_
 refine hl_call F.trade_May_cb rfl rfl (ex_may x4) (List.Perm.refl _) ⟨(by repeat constructor), (by repeat constructor), trivial⟩ fun y4 _ => ?_
 refine r_move rfl rfl ?_
 refine r_extract rfl rfl rfl ?_
 refine r_extract rfl rfl rfl ?_
 refine r_assign rfl rfl ?_
 refine r_assign rfl rfl ?_
 refine hl_nil ?_
 refine then_n ?_
 refine hc_seq ?_
 refine hc_region ?_
 refine hl_call F.law04_shops_cb rfl rfl (law04_shops_meets) (List.Perm.refl _) trivial fun x5 _ => ?_
 refine hl_call F.trade_Short_cb rfl rfl (ex_short x5) (List.Perm.refl _) ⟨(by repeat constructor), (by repeat constructor), trivial⟩ fun _ _ => ?_
 refine r_move rfl rfl ?_
 refine r_extract rfl rfl rfl ?_
 refine r_extract rfl rfl rfl ?_
 refine r_assign rfl rfl ?_
 refine r_assign rfl rfl ?_
 refine hl_nil ?_
 refine then_n ?_
 refine hc_seq ?_
 refine hc_region ?_
 refine hl_call F.law04_shops_cb rfl rfl (law04_shops_meets) (List.Perm.refl _) trivial fun x6 _ => ?_
 refine hl_call F.law04_later_cb rfl rfl (law04_later_meets) (List.Perm.refl _) trivial fun x7 _ => ?_
 refine hl_call F.trade_Compare_cb rfl rfl (ex_compare x6 x7) (List.Perm.refl _) ⟨(by repeat constructor), (by repeat constructor), (by repeat constructor), (by repeat constructor), trivial⟩ fun y6 _ => ?_
 refine r_move rfl rfl ?_
 refine r_extract rfl rfl rfl ?_
 refine r_extract rfl rfl rfl ?_
 refine r_assign rfl rfl ?_
 refine r_assign rfl rfl ?_
 refine hl_nil ?_
 refine then_n ?_
 refine hc_seq ?_
 refine hc_region ?_
 refine r_move rfl rfl ?_
 refine r_eql rfl rfl rfl ?_
 refine r_move rfl rfl ?_
 refine g_split rfl rfl ?_ ?_
 ·intro hg1; have hg1' := hg1; try simp at hg1'
  refine g_yes rfl rfl hg1 ?_
  refine r_move rfl rfl ?_
  refine g_yes rfl rfl hg1 ?_
  refine r_eql rfl rfl rfl ?_
  refine p_t rfl rfl (bt1 hg1) rfl ?_
  refine r_move rfl rfl ?_
  refine g_split rfl rfl ?_ ?_
  ·intro hg2; have hg2' := hg2; try simp at hg2'
   refine g_yes rfl rfl hg2 ?_
   refine r_move rfl rfl ?_
   refine g_yes rfl rfl hg2 ?_
   refine r_eql rfl rfl rfl ?_
   refine p_t rfl rfl (bt1 hg2) rfl ?_
   refine r_move rfl rfl ?_
   refine g_split rfl rfl ?_ ?_
   ·intro hg3; have hg3' := hg3; try simp at hg3'
    refine g_yes rfl rfl hg3 ?_
    refine r_move rfl rfl ?_
    refine g_yes rfl rfl hg3 ?_
    refine r_eql rfl rfl rfl ?_
    refine p_t rfl rfl (bt1 hg3) rfl ?_
    refine r_move rfl rfl ?_
    refine g_split rfl rfl ?_ ?_
    ·intro hg4; have hg4' := hg4; try simp at hg4'
     refine g_yes rfl rfl hg4 ?_
     refine r_move rfl rfl ?_
     refine g_yes rfl rfl hg4 ?_
     refine r_eql rfl rfl rfl ?_
     refine p_t rfl rfl (bt1 hg4) rfl ?_
     refine r_move rfl rfl ?_
     refine g_split rfl rfl ?_ ?_
     ·intro hg5; have hg5' := hg5; try simp at hg5'
      refine g_yes rfl rfl hg5 ?_
      refine r_move rfl rfl ?_
      refine g_yes rfl rfl hg5 ?_
      refine r_eql rfl rfl rfl ?_
      refine p_t rfl rfl (bt1 hg5) rfl ?_
      refine r_move rfl rfl ?_
      refine g_split rfl rfl ?_ ?_
      ·intro hg6; have hg6' := hg6; try simp at hg6'
       refine g_yes rfl rfl hg6 ?_
       refine r_move rfl rfl ?_
       refine g_yes rfl rfl hg6 ?_
       refine r_eql rfl rfl rfl ?_
       refine p_t rfl rfl (bt1 hg6) rfl ?_
       refine r_move rfl rfl ?_
       refine g_split rfl rfl ?_ ?_
       ·intro hg7; have hg7' := hg7; try simp at hg7'
        refine g_yes rfl rfl hg7 ?_
        refine r_move rfl rfl ?_
        refine g_yes rfl rfl hg7 ?_
        refine r_eql rfl rfl rfl ?_
        refine p_t rfl rfl (bt1 hg7) rfl ?_
        refine r_move rfl rfl ?_
        refine g_split rfl rfl ?_ ?_
        ·intro hg8; have hg8' := hg8; try simp at hg8'
         refine g_yes rfl rfl hg8 ?_
         refine r_move rfl rfl ?_
         refine g_yes rfl rfl hg8 ?_
         refine r_eql rfl rfl rfl ?_
         refine p_t rfl rfl (bt1 hg8) rfl ?_
         refine r_move rfl rfl ?_
         refine g_split rfl rfl ?_ ?_
         ·intro hg9; have hg9' := hg9; try simp at hg9'
          refine g_yes rfl rfl hg9 ?_
          refine r_move rfl rfl ?_
          refine g_yes rfl rfl hg9 ?_
          refine r_seql rfl rfl rfl ?_
          refine p_t rfl rfl (bt1 hg9) rfl ?_
          refine r_move rfl rfl ?_
          refine g_split rfl rfl ?_ ?_
          ·intro hg10; have hg10' := hg10; try simp at hg10'
           refine g_yes rfl rfl hg10 ?_
           refine r_move rfl rfl ?_
           refine g_yes rfl rfl hg10 ?_
           refine r_buildSlice _ rfl rfl (fun _ => T.bs_ints_2 ..) fun gp => ?_
           refine hl_letgo (rows [(2 : Int), 4]) (List.prefix_refl _) ?_
           refine g_yes rfl rfl hg10 ?_
           refine r_buildSlice _ rfl rfl (fun _ => T.bs_ints_2 ..) fun gq => ?_
           refine hl_letgo (rows [(3 : Int), 2]) (List.prefix_refl _) ?_
           refine g_yes rfl rfl hg10 ?_
           refine r_buildSlice _ rfl rfl (fun _ => T.bs_intss_2 ..) fun gr => ?_
           refine hl_letgo (rows (pairsX gp gq)) (List.prefix_refl _) ?_
           refine hl_rows2 (A := some ⟨gr, 0, none⟩) (ps := pairsX gp gq) (by repeat constructor) (by intro p hp; simp only [pairsX, List.mem_cons, List.not_mem_nil, or_false] at hp; rcases hp with rfl | rfl <;> repeat constructor) ?_
           refine g_yes rfl rfl hg10 ?_
           refine hl_call F.kit_EqLists_cb rfl rfl (ex_lists (p := gp) (q := gq) hy3) (List.Perm.refl _) ⟨(by repeat constructor), (by repeat constructor), trivial⟩ fun _ _ => ?_
           refine p_t rfl rfl (bt1 hg10) rfl ?_
           refine r_move rfl rfl ?_
           refine g_split rfl rfl ?_ ?_
           ·intro hg11; have hg11' := hg11; try simp at hg11'
            refine g_yes rfl rfl hg11 ?_
            refine r_move rfl rfl ?_
            refine g_yes rfl rfl hg11 ?_
            refine r_buildSlice _ rfl rfl (fun _ => T.bs_ints_2 ..) fun gS => ?_
            refine g_yes rfl rfl hg11 ?_
            refine hl_letgo (rows ([3, 4] : List Int)) (List.prefix_refl _) ?_
            refine hl_call F.kit_EqInts_cb rfl rfl (ex_ints) (List.Perm.refl _) ⟨(by repeat constructor), (by repeat constructor), trivial⟩ fun _ _ => ?_
            refine p_t rfl rfl (bt1 hg11) rfl ?_
            refine r_move rfl rfl ?_
            refine g_split rfl rfl ?_ ?_
            ·intro hg12; have hg12' := hg12; try simp at hg12'
             refine g_yes rfl rfl hg12 ?_
             refine r_move rfl rfl ?_
             refine g_yes rfl rfl hg12 ?_
             refine r_build _ rfl rfl (fun _ => T.bd_api_Move_0_1 ..) ?_
             refine g_yes rfl rfl hg12 ?_
             refine r_build _ rfl rfl (fun _ => T.bd_api_Move_0_1 ..) ?_
             refine g_yes rfl rfl hg12 ?_
             refine r_build _ rfl rfl (fun _ => T.bd_api_Move_0_1 ..) ?_
             refine g_yes rfl rfl hg12 ?_
             refine r_buildSlice _ rfl rfl (fun _ => T.bs_L_api_Move_3 ..) fun gS => ?_
             refine g_yes rfl rfl hg12 ?_
             refine hl_letgo (rows movesX) (List.prefix_refl _) ?_
             refine hl_call F.kit_EqMoves_cb rfl rfl (ex_moves) (List.Perm.refl _) ⟨(by repeat constructor), (by repeat constructor), trivial⟩ fun _ _ => ?_
             refine p_t rfl rfl (bt1 hg12) rfl ?_
             refine r_assign rfl rfl ?_
             refine hl_nil ?_
             refine then_n ?_
             refine hc_ret ?_
             exact ret1 () rfl rfl rfl trivial (List.nil_sublist _) trivial
            ·intro hg12; have hg12' := hg12; try simp at hg12'
           ·intro hg11; have hg11' := hg11; try simp at hg11'
          ·intro hg10; have hg10' := hg10; try simp at hg10'
         ·intro hg9; have hg9' := hg9; try simp at hg9'
        ·intro hg8; have hg8' := hg8; try simp at hg8'
       ·intro hg7; have hg7' := hg7; try simp at hg7'
      ·intro hg6; have hg6' := hg6; try simp at hg6'
     ·intro hg5; have hg5' := hg5; try simp at hg5'
    ·intro hg4; have hg4' := hg4; try simp at hg4'
   ·intro hg3; have hg3' := hg3; try simp at hg3'
  ·intro hg2; have hg2' := hg2; try simp at hg2'
 ·intro hg1; have hg1' := hg1; try simp at hg1'

end Go.Proofs.Ytlpgheniajdkfaa
