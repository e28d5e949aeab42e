/- The shops of the statements. -/
import Derived.Test.YtlpgheniajdkfaaPao
namespace Go.Proofs.Ytlpgheniajdkfaa
open Go Go.W
set_option linter.unusedVariables false
set_option linter.unusedSimpArgs false
set_option maxRecDepth 20000
attribute [local irreducible] HL HC HQ HB Row Rows2 Blk Facts


theorem law04_is_meets {A : Option Addr} {n cp : Nat} (s : Str) (c : Int) : Meets Try.prog F.law04_is [str s, int c, .slice A n cp] { val := fun _ : Unit => .agg #[str s, int c, int (-1), .slice A n cp] } := by
 refine meets_intro F.law04_is_f rfl (Nat.le_of_ble_eq_true rfl) fun w0 => ?_
 refine hc_seq ?_
 refine hc_region ?_
 refine r_alloc rfl (fun _ => T.al_api_Head _) fun gA => ?_
 refine hl_nil ?_
 refine then_n ?_
 refine hc_seq ?_
 refine hc_region ?_
 refine r_move rfl rfl ?_
 refine r_move rfl rfl ?_
 refine r_move rfl rfl ?_
 refine r_build _ rfl rfl (fun _ => T.bd_api_Head_0_1_2_3 ..) ?_
 refine r_storeS rfl rfl (by first | exact .refl _ | exact perm2 _ _ _ | exact perm3 _ _ _ _ | exact perm4 _ _ _ _ _) T.sz_api_Head (by rfl) (by rfl) ?_
 refine hl_nil ?_
 refine then_n ?_
 refine hc_ret ?_
 refine ret_row () rfl rfl T.row_api_Head T.sz_api_Head rfl m0 rfl rfl trivial (List.nil_sublist _) trivial

theorem law04_see_meets (s : Str) (c : Int) : Meets Try.prog F.law04_see [str s, int c] { val := fun _ : Unit => .agg #[str s, int (-1), int c, .slice none 0 0] } := by
 refine meets_intro F.law04_see_f rfl (Nat.le_of_ble_eq_true rfl) fun w0 => ?_
 refine hc_seq ?_
 refine hc_region ?_
 refine r_alloc rfl (fun _ => T.al_api_Head _) fun gA => ?_
 refine hl_nil ?_
 refine then_n ?_
 refine hc_seq ?_
 refine hc_region ?_
 refine r_move rfl rfl ?_
 refine r_move rfl rfl ?_
 refine r_build _ rfl rfl (fun _ => T.bd_api_Head_0_1_2 ..) ?_
 refine r_storeS rfl rfl (by first | exact .refl _ | exact perm2 _ _ _ | exact perm3 _ _ _ _ | exact perm4 _ _ _ _ _) T.sz_api_Head (by rfl) (by rfl) ?_
 refine hl_nil ?_
 refine then_n ?_
 refine hc_ret ?_
 refine ret_row () rfl rfl T.row_api_Head T.sz_api_Head rfl m0 rfl rfl trivial (List.nil_sublist _) trivial

def shopsC : List Cl := [([102, 111, 111, 100], -1), ([98, 114, 101, 97, 100], 0), ([99, 108, 111, 116, 104], -1), ([104, 97, 116, 115], 2)]
def shopsH (g1 g2 : Nat) : List Hd := [([98, 97, 107, 101, 114], 1, -1, ⟨none, 0, []⟩), ([98, 111, 110, 110, 101, 116, 115], -1, 3, ⟨none, 0, []⟩), ([99, 111, 110, 102, 101, 99, 116, 105, 111, 110, 101, 114], 0, -1, ⟨some ⟨g1, 0, none⟩, 1, [0]⟩), ([104, 97, 116, 116, 101, 114], 3, -1, ⟨none, 0, []⟩), ([109, 101, 114, 99, 101, 114], 2, -1, ⟨some ⟨g2, 0, none⟩, 1, [3]⟩), ([109, 105, 108, 108, 105, 110, 101, 114], -1, 1, ⟨none, 0, []⟩)]

set_option maxHeartbeats 1000000 in
theorem law04_shops_meets : Meets Try.prog F.law04_shops [] { val := fun x : Nat × Nat × Nat × Nat => .agg #[.slice (some ⟨x.1, 0, none⟩) 4 4, .slice (some ⟨x.2.1, 0, none⟩) 6 6], LO := fun x => [Row (some ⟨x.1, 0, none⟩) (rows shopsC), RowsF (some ⟨x.2.1, 0, none⟩) (shopsH x.2.2.1 x.2.2.2) Hd.row] } := by
 refine meets_intro F.law04_shops_f rfl (Nat.le_of_ble_eq_true rfl) fun w0 => ?_
 refine hc_seq ?_
 refine hc_region ?_
 refine r_alloc rfl (fun _ => T.al_api_Trades _) fun gA => ?_
 refine hl_nil ?_
 refine then_n ?_
 refine hc_seq ?_
 refine hc_region ?_
 refine r_build _ rfl rfl (fun _ => T.bd_api_Class_0_1 ..) ?_
 refine r_build _ rfl rfl (fun _ => T.bd_api_Class_0 ..) ?_
 refine r_build _ rfl rfl (fun _ => T.bd_api_Class_0_1 ..) ?_
 refine r_build _ rfl rfl (fun _ => T.bd_api_Class_0_1 ..) ?_
 refine r_buildSlice _ rfl rfl (fun _ => T.bs_L_api_Class_4 ..) fun gC => ?_
 refine hl_letgo (rows shopsC) (List.prefix_refl _) ?_
 refine hl_call F.law04_is_cb rfl rfl (law04_is_meets (A := none) (n := 0) (cp := 0) [98, 97, 107, 101, 114] 1) (List.Perm.refl _) trivial fun _ _ => ?_
 refine hl_call F.law04_see_cb rfl rfl (law04_see_meets [98, 111, 110, 110, 101, 116, 115] 3) (List.Perm.refl _) trivial fun _ _ => ?_
 refine r_buildSlice _ rfl rfl (fun _ => T.bs_ints_1 ..) fun g1 => ?_
 refine hl_letgo (rows [(0 : Int)]) (List.prefix_refl _) ?_
 refine hl_call F.law04_is_cb rfl rfl (law04_is_meets (A := some ⟨g1, 0, none⟩) (n := 1) (cp := 1) [99, 111, 110, 102, 101, 99, 116, 105, 111, 110, 101, 114] 0) (List.Perm.refl _) trivial fun _ _ => ?_
 refine hl_call F.law04_is_cb rfl rfl (law04_is_meets (A := none) (n := 0) (cp := 0) [104, 97, 116, 116, 101, 114] 3) (List.Perm.refl _) trivial fun _ _ => ?_
 refine r_buildSlice _ rfl rfl (fun _ => T.bs_ints_1 ..) fun g2 => ?_
 refine hl_letgo (rows [(3 : Int)]) (List.prefix_refl _) ?_
 refine hl_call F.law04_is_cb rfl rfl (law04_is_meets (A := some ⟨g2, 0, none⟩) (n := 1) (cp := 1) [109, 101, 114, 99, 101, 114] 2) (List.Perm.refl _) trivial fun _ _ => ?_
 refine hl_call F.law04_see_cb rfl rfl (law04_see_meets [109, 105, 108, 108, 105, 110, 101, 114] 1) (List.Perm.refl _) trivial fun _ _ => ?_
 refine r_buildSlice _ rfl rfl (fun _ => T.bs_L_api_Head_6 ..) fun gH => ?_
 refine hl_letgo (rows (shopsH g1 g2)) (List.prefix_refl _) ?_
 refine r_build _ rfl rfl (fun _ => T.bd_api_Trades_0_1 ..) ?_
 refine r_storeS rfl rfl (by first | exact .refl _ | exact perm2 _ _ _ | exact perm3 _ _ _ _ | exact perm4 _ _ _ _ _) T.sz_api_Trades (by rfl) (by rfl) ?_
 refine hl_nil ?_
 refine then_n ?_
 refine hc_ret ?_
 refine hq_nilrow (α := Int) ?_
 refine hq_facts (Fs := (shopsH g1 g2).map Hd.row) (by intro F hF; left; simp only [shopsH, List.map_cons, List.map_nil, List.mem_cons, List.not_mem_nil, or_false] at hF; rcases hF with rfl | rfl | rfl | rfl | rfl | rfl <;> repeat constructor) ?_
 refine hq_rowsF (A := some ⟨gH, 0, none⟩) (ps := shopsH g1 g2) (f := Hd.row) (by repeat constructor) m0 ?_
 refine ret_row (gC, gH, g1, g2) rfl rfl T.row_api_Trades T.sz_api_Trades rfl m0 rfl rfl trivial (List.nil_sublist _) ⟨(by repeat constructor), m0, trivial⟩

def laterH (g : Nat) : List Hd := [([98, 97, 107, 101, 114], 1, -1, ⟨none, 0, []⟩), ([98, 111, 110, 110, 101, 116, 115], -1, 2, ⟨none, 0, []⟩), ([104, 97, 116, 116, 101, 114], 2, -1, ⟨none, 0, []⟩), ([105, 114, 111, 110, 109, 111, 110, 103, 101, 114], 0, -1, ⟨none, 0, []⟩), ([109, 101, 114, 99, 101, 114], 2, -1, ⟨some ⟨g, 0, none⟩, 1, [2]⟩), ([109, 105, 108, 108, 105, 110, 101, 114], -1, 1, ⟨none, 0, []⟩)]

set_option maxHeartbeats 1000000 in
theorem law04_later_meets : Meets Try.prog F.law04_later [] { val := fun x : Nat × Nat × Nat => .agg #[.slice (some ⟨x.1, 0, none⟩) 4 4, .slice (some ⟨x.2.1, 0, none⟩) 6 6], LO := fun x => [Row (some ⟨x.1, 0, none⟩) (rows shopsC), RowsF (some ⟨x.2.1, 0, none⟩) (laterH x.2.2) Hd.row] } := by
 refine meets_intro F.law04_later_f rfl (Nat.le_of_ble_eq_true rfl) fun w0 => ?_
 refine hc_seq ?_
 refine hc_region ?_
 refine r_alloc rfl (fun _ => T.al_api_Trades _) fun g0 => ?_
 refine hl_nil ?_
 refine then_n ?_
 refine hc_seq ?_
 refine hc_region ?_
 refine hl_call F.law04_shops_cb rfl rfl (law04_shops_meets) (List.Perm.refl _) trivial fun x _ => ?_
 obtain ⟨gC, gH0, gx, gy⟩ := x
 refine r_alloc rfl (fun _ => T.al_api_Trades _) fun g3 => ?_
 refine r_storeS rfl rfl (by first | exact .refl _ | exact perm2 _ _ _ | exact perm3 _ _ _ _ | exact perm4 _ _ _ _ _) T.sz_api_Trades (by rfl) (by rfl) ?_
 refine hl_nil ?_
 refine then_n ?_
 refine hc_seq ?_
 refine hc_region ?_
 refine hl_call F.law04_is_cb rfl rfl (law04_is_meets (A := none) (n := 0) (cp := 0) [98, 97, 107, 101, 114] 1) (List.Perm.refl _) trivial fun _ _ => ?_
 refine hl_call F.law04_see_cb rfl rfl (law04_see_meets [98, 111, 110, 110, 101, 116, 115] 2) (List.Perm.refl _) trivial fun _ _ => ?_
 refine hl_call F.law04_is_cb rfl rfl (law04_is_meets (A := none) (n := 0) (cp := 0) [104, 97, 116, 116, 101, 114] 2) (List.Perm.refl _) trivial fun _ _ => ?_
 refine hl_call F.law04_is_cb rfl rfl (law04_is_meets (A := none) (n := 0) (cp := 0) [105, 114, 111, 110, 109, 111, 110, 103, 101, 114] 0) (List.Perm.refl _) trivial fun _ _ => ?_
 refine r_buildSlice _ rfl rfl (fun _ => T.bs_ints_1 ..) fun g1 => ?_
 refine hl_letgo (rows [(2 : Int)]) (List.prefix_refl _) ?_
 refine hl_call F.law04_is_cb rfl rfl (law04_is_meets (A := some ⟨g1, 0, none⟩) (n := 1) (cp := 1) [109, 101, 114, 99, 101, 114] 2) (List.Perm.refl _) trivial fun _ _ => ?_
 refine hl_call F.law04_see_cb rfl rfl (law04_see_meets [109, 105, 108, 108, 105, 110, 101, 114] 1) (List.Perm.refl _) trivial fun _ _ => ?_
 refine r_buildSlice _ rfl rfl (fun _ => T.bs_L_api_Head_6 ..) fun gH => ?_
 refine hl_letgo (rows (laterH g1)) (List.prefix_refl _) ?_
 first | refine r_fieldAddr ⟨_, 1, none⟩ rfl rfl T.fa_api_Trades_1 rfl ?_ | refine r_fieldAddr _ rfl rfl T.fa_api_Trades_1 rfl ?_
 refine r_store rfl rfl (by first | exact .refl _ | exact perm2 _ _ _ | exact perm3 _ _ _ _ | exact perm4 _ _ _ _ _) T.sz_L_api_Head (by rfl) (by rfl) ?_
 refine hl_nil ?_
 refine then_n ?_
 refine hc_seq ?_
 refine hc_region ?_
 first | refine r_loadA rfl T.row_api_Trades T.sz_api_Trades rfl (by repeat constructor) (by rfl) ?_ | refine r_loadB rfl T.row_api_Trades T.sz_api_Trades rfl (by repeat constructor) (by rfl) ?_ | refine r_loadS rfl T.row_api_Trades T.sz_api_Trades rfl rfl (cells_row (by repeat constructor) (rows_all (by omega))) ?_
 refine r_storeS rfl rfl (by first | exact .refl _ | exact perm2 _ _ _ | exact perm3 _ _ _ _ | exact perm4 _ _ _ _ _) T.sz_api_Trades (by rfl) (by rfl) ?_
 refine hl_nil ?_
 refine then_n ?_
 refine hc_ret ?_
 refine hq_nilrow (α := Int) ?_
 refine hq_facts (Fs := (laterH g1).map Hd.row) (by intro F hF; left; simp only [laterH, List.map_cons, List.map_nil, List.mem_cons, List.not_mem_nil, or_false] at hF; rcases hF with rfl | rfl | rfl | rfl | rfl | rfl <;> repeat constructor) ?_
 refine hq_rowsF (A := some ⟨gH, 0, none⟩) (ps := laterH g1) (f := Hd.row) (by repeat constructor) m0 ?_
 refine ret_row (gC, gH, g1) rfl rfl T.row_api_Trades T.sz_api_Trades rfl m0 rfl rfl trivial (List.nil_sublist _) ⟨(by repeat constructor), m0, trivial⟩

end Go.Proofs.Ytlpgheniajdkfaa
