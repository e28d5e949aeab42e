/- Texts of this claim, one behind another. -/
import Derived.Test.YtpbbgbjidhffoaaGreatProg
import Derived.KernelRfl
import Derived.Laws.StructEq
import Derived.Laws.IdiomStrings
import Derived.MapKept
import Derived.Laws.Rows
import Derived.Deep.AppendSrc
import Derived.Deep.Upon
import Derived.Test.YtpbbgbjidhffoaaGreatYAc
set_option linter.unusedVariables false
set_option linter.unusedSimpArgs false
section
namespace Go.Proofs.YtpbbgbjidhffoaaGreat
open Go Go.W
theorem mixed : Tryz.prog.follows .mixedOrders = true := by kernel_rfl
namespace F
abbrev law07_ProofYears : Nat := 3
theorem law07_ProofYears_f : Tryz.prog.funcs[law07_ProofYears]? = some Tryz.f3 := Tryz.func3
abbrev law07_old : Nat := 4
theorem law07_old_f : Tryz.prog.funcs[law07_old]? = some Tryz.f4 := Tryz.func4
theorem law07_old_cb : Callable Tryz.prog law07_old := ⟨⟨_, Tryz.func4, by kernel_rfl, by kernel_rfl⟩⟩
abbrev law07_long : Nat := 5
theorem law07_long_f : Tryz.prog.funcs[law07_long]? = some Tryz.f5 := Tryz.func5
theorem law07_long_cb : Callable Tryz.prog law07_long := ⟨⟨_, Tryz.func5, by kernel_rfl, by kernel_rfl⟩⟩
abbrev law07_correcting : Nat := 6
theorem law07_correcting_f : Tryz.prog.funcs[law07_correcting]? = some Tryz.f6 := Tryz.func6
theorem law07_correcting_cb : Callable Tryz.prog law07_correcting := ⟨⟨_, Tryz.func6, by kernel_rfl, by kernel_rfl⟩⟩
abbrev kit_NewDice : Nat := 7
theorem kit_NewDice_f : Tryz.prog.funcs[kit_NewDice]? = some Tryz.f7 := Tryz.func7
theorem kit_NewDice_cb : Callable Tryz.prog kit_NewDice := ⟨⟨_, Tryz.func7, by kernel_rfl, by kernel_rfl⟩⟩
abbrev kit_YearsOf : Nat := 8
theorem kit_YearsOf_f : Tryz.prog.funcs[kit_YearsOf]? = some Tryz.f8 := Tryz.func8
theorem kit_YearsOf_cb : Callable Tryz.prog kit_YearsOf := ⟨⟨_, Tryz.func8, by kernel_rfl, by kernel_rfl⟩⟩
abbrev kit_PageOf : Nat := 9
theorem kit_PageOf_f : Tryz.prog.funcs[kit_PageOf]? = some Tryz.f9 := Tryz.func9
theorem kit_PageOf_cb : Callable Tryz.prog kit_PageOf := ⟨⟨_, Tryz.func9, by kernel_rfl, by kernel_rfl⟩⟩
abbrev kit_DupYears : Nat := 10
theorem kit_DupYears_f : Tryz.prog.funcs[kit_DupYears]? = some Tryz.f10 := Tryz.func10
theorem kit_DupYears_cb : Callable Tryz.prog kit_DupYears := ⟨⟨_, Tryz.func10, by kernel_rfl, by kernel_rfl⟩⟩
abbrev kit_DupStrings : Nat := 11
theorem kit_DupStrings_f : Tryz.prog.funcs[kit_DupStrings]? = some Tryz.f11 := Tryz.func11
theorem kit_DupStrings_cb : Callable Tryz.prog kit_DupStrings := ⟨⟨_, Tryz.func11, by kernel_rfl, by kernel_rfl⟩⟩
abbrev proof_Origin : Nat := 12
theorem proof_Origin_f : Tryz.prog.funcs[proof_Origin]? = some Tryz.f12 := Tryz.func12
theorem proof_Origin_cb : Callable Tryz.prog proof_Origin := ⟨⟨_, Tryz.func12, by kernel_rfl, by kernel_rfl⟩⟩
abbrev ref07_Origin : Nat := 13
theorem ref07_Origin_f : Tryz.prog.funcs[ref07_Origin]? = some Tryz.f13 := Tryz.func13
theorem ref07_Origin_cb : Callable Tryz.prog ref07_Origin := ⟨⟨_, Tryz.func13, by kernel_rfl, by kernel_rfl⟩⟩
abbrev proof_Back : Nat := 14
theorem proof_Back_f : Tryz.prog.funcs[proof_Back]? = some Tryz.f14 := Tryz.func14
theorem proof_Back_cb : Callable Tryz.prog proof_Back := ⟨⟨_, Tryz.func14, by kernel_rfl, by kernel_rfl⟩⟩
abbrev ref07_Back : Nat := 15
theorem ref07_Back_f : Tryz.prog.funcs[ref07_Back]? = some Tryz.f15 := Tryz.func15
theorem ref07_Back_cb : Callable Tryz.prog ref07_Back := ⟨⟨_, Tryz.func15, by kernel_rfl, by kernel_rfl⟩⟩
abbrev proof_Stock : Nat := 16
theorem proof_Stock_f : Tryz.prog.funcs[proof_Stock]? = some Tryz.f16 := Tryz.func16
theorem proof_Stock_cb : Callable Tryz.prog proof_Stock := ⟨⟨_, Tryz.func16, by kernel_rfl, by kernel_rfl⟩⟩
abbrev ref07_Stock : Nat := 17
theorem ref07_Stock_f : Tryz.prog.funcs[ref07_Stock]? = some Tryz.f17 := Tryz.func17
theorem ref07_Stock_cb : Callable Tryz.prog ref07_Stock := ⟨⟨_, Tryz.func17, by kernel_rfl, by kernel_rfl⟩⟩
abbrev proof_Fresh : Nat := 18
theorem proof_Fresh_f : Tryz.prog.funcs[proof_Fresh]? = some Tryz.f18 := Tryz.func18
theorem proof_Fresh_cb : Callable Tryz.prog proof_Fresh := ⟨⟨_, Tryz.func18, by kernel_rfl, by kernel_rfl⟩⟩
abbrev ref07_Fresh : Nat := 19
theorem ref07_Fresh_f : Tryz.prog.funcs[ref07_Fresh]? = some Tryz.f19 := Tryz.func19
theorem ref07_Fresh_cb : Callable Tryz.prog ref07_Fresh := ⟨⟨_, Tryz.func19, by kernel_rfl, by kernel_rfl⟩⟩
abbrev kit_EqInts : Nat := 20
theorem kit_EqInts_f : Tryz.prog.funcs[kit_EqInts]? = some Tryz.f20 := Tryz.func20
theorem kit_EqInts_cb : Callable Tryz.prog kit_EqInts := ⟨⟨_, Tryz.func20, by kernel_rfl, by kernel_rfl⟩⟩
abbrev kit_EqTypes : Nat := 21
theorem kit_EqTypes_f : Tryz.prog.funcs[kit_EqTypes]? = some Tryz.f21 := Tryz.func21
theorem kit_EqTypes_cb : Callable Tryz.prog kit_EqTypes := ⟨⟨_, Tryz.func21, by kernel_rfl, by kernel_rfl⟩⟩
abbrev kit_EqYears : Nat := 22
theorem kit_EqYears_f : Tryz.prog.funcs[kit_EqYears]? = some Tryz.f22 := Tryz.func22
theorem kit_EqYears_cb : Callable Tryz.prog kit_EqYears := ⟨⟨_, Tryz.func22, by kernel_rfl, by kernel_rfl⟩⟩
abbrev kit_EqStrings : Nat := 23
theorem kit_EqStrings_f : Tryz.prog.funcs[kit_EqStrings]? = some Tryz.f23 := Tryz.func23
theorem kit_EqStrings_cb : Callable Tryz.prog kit_EqStrings := ⟨⟨_, Tryz.func23, by kernel_rfl, by kernel_rfl⟩⟩
abbrev proof_Apply : Nat := 24
theorem proof_Apply_f : Tryz.prog.funcs[proof_Apply]? = some Tryz.f24 := Tryz.func24
theorem proof_Apply_cb : Callable Tryz.prog proof_Apply := ⟨⟨_, Tryz.func24, by kernel_rfl, by kernel_rfl⟩⟩
abbrev law07_folk : Nat := 25
theorem law07_folk_f : Tryz.prog.funcs[law07_folk]? = some Tryz.f25 := Tryz.func25
theorem law07_folk_cb : Callable Tryz.prog law07_folk := ⟨⟨_, Tryz.func25, by kernel_rfl, by kernel_rfl⟩⟩
abbrev law07_slip : Nat := 26
theorem law07_slip_f : Tryz.prog.funcs[law07_slip]? = some Tryz.f26 := Tryz.func26
theorem law07_slip_cb : Callable Tryz.prog law07_slip := ⟨⟨_, Tryz.func26, by kernel_rfl, by kernel_rfl⟩⟩
abbrev proof_Diff : Nat := 27
theorem proof_Diff_f : Tryz.prog.funcs[proof_Diff]? = some Tryz.f27 := Tryz.func27
theorem proof_Diff_cb : Callable Tryz.prog proof_Diff := ⟨⟨_, Tryz.func27, by kernel_rfl, by kernel_rfl⟩⟩
abbrev proof_Steps : Nat := 28
theorem proof_Steps_f : Tryz.prog.funcs[proof_Steps]? = some Tryz.f28 := Tryz.func28
theorem proof_Steps_cb : Callable Tryz.prog proof_Steps := ⟨⟨_, Tryz.func28, by kernel_rfl, by kernel_rfl⟩⟩
abbrev law07_in : Nat := 29
theorem law07_in_f : Tryz.prog.funcs[law07_in]? = some Tryz.f29 := Tryz.func29
theorem law07_in_cb : Callable Tryz.prog law07_in := ⟨⟨_, Tryz.func29, by kernel_rfl, by kernel_rfl⟩⟩
abbrev law07_out : Nat := 30
theorem law07_out_f : Tryz.prog.funcs[law07_out]? = some Tryz.f30 := Tryz.func30
theorem law07_out_cb : Callable Tryz.prog law07_out := ⟨⟨_, Tryz.func30, by kernel_rfl, by kernel_rfl⟩⟩
abbrev law07_ages : Nat := 31
theorem law07_ages_f : Tryz.prog.funcs[law07_ages]? = some Tryz.f31 := Tryz.func31
theorem law07_ages_cb : Callable Tryz.prog law07_ages := ⟨⟨_, Tryz.func31, by kernel_rfl, by kernel_rfl⟩⟩
abbrev proof_Look : Nat := 32
theorem proof_Look_f : Tryz.prog.funcs[proof_Look]? = some Tryz.f32 := Tryz.func32
theorem proof_Look_cb : Callable Tryz.prog proof_Look := ⟨⟨_, Tryz.func32, by kernel_rfl, by kernel_rfl⟩⟩
abbrev kit_EqMarks : Nat := 33
theorem kit_EqMarks_f : Tryz.prog.funcs[kit_EqMarks]? = some Tryz.f33 := Tryz.func33
theorem kit_EqMarks_cb : Callable Tryz.prog kit_EqMarks := ⟨⟨_, Tryz.func33, by kernel_rfl, by kernel_rfl⟩⟩
abbrev kit_Dice_To : Nat := 34
theorem kit_Dice_To_f : Tryz.prog.funcs[kit_Dice_To]? = some Tryz.f34 := Tryz.func34
theorem kit_Dice_To_cb : Callable Tryz.prog kit_Dice_To := ⟨⟨_, Tryz.func34, by kernel_rfl, by kernel_rfl⟩⟩
abbrev kit_Dice_Once : Nat := 35
theorem kit_Dice_Once_f : Tryz.prog.funcs[kit_Dice_Once]? = some Tryz.f35 := Tryz.func35
theorem kit_Dice_Once_cb : Callable Tryz.prog kit_Dice_Once := ⟨⟨_, Tryz.func35, by kernel_rfl, by kernel_rfl⟩⟩
abbrev kit_LineOf : Nat := 36
theorem kit_LineOf_f : Tryz.prog.funcs[kit_LineOf]? = some Tryz.f36 := Tryz.func36
theorem kit_LineOf_cb : Callable Tryz.prog kit_LineOf := ⟨⟨_, Tryz.func36, by kernel_rfl, by kernel_rfl⟩⟩
abbrev proof_asked : Nat := 37
theorem proof_asked_f : Tryz.prog.funcs[proof_asked]? = some Tryz.f37 := Tryz.func37
theorem proof_asked_cb : Callable Tryz.prog proof_asked := ⟨⟨_, Tryz.func37, by kernel_rfl, by kernel_rfl⟩⟩
abbrev proof_origin : Nat := 38
theorem proof_origin_f : Tryz.prog.funcs[proof_origin]? = some Tryz.f38 := Tryz.func38
theorem proof_origin_cb : Callable Tryz.prog proof_origin := ⟨⟨_, Tryz.func38, by kernel_rfl, by kernel_rfl⟩⟩
abbrev ref07_checkBoth : Nat := 39
theorem ref07_checkBoth_f : Tryz.prog.funcs[ref07_checkBoth]? = some Tryz.f39 := Tryz.func39
theorem ref07_checkBoth_cb : Callable Tryz.prog ref07_checkBoth := ⟨⟨_, Tryz.func39, by kernel_rfl, by kernel_rfl⟩⟩
abbrev ref07_count : Nat := 40
theorem ref07_count_f : Tryz.prog.funcs[ref07_count]? = some Tryz.f40 := Tryz.func40
theorem ref07_count_cb : Callable Tryz.prog ref07_count := ⟨⟨_, Tryz.func40, by kernel_rfl, by kernel_rfl⟩⟩
abbrev proof_yearsError : Nat := 41
theorem proof_yearsError_f : Tryz.prog.funcs[proof_yearsError]? = some Tryz.f41 := Tryz.func41
theorem proof_yearsError_cb : Callable Tryz.prog proof_yearsError := ⟨⟨_, Tryz.func41, by kernel_rfl, by kernel_rfl⟩⟩
abbrev proof_stock : Nat := 42
theorem proof_stock_f : Tryz.prog.funcs[proof_stock]? = some Tryz.f42 := Tryz.func42
theorem proof_stock_cb : Callable Tryz.prog proof_stock := ⟨⟨_, Tryz.func42, by kernel_rfl, by kernel_rfl⟩⟩
abbrev slices_SortFunc : Nat := 43
theorem slices_SortFunc_cb : Callable Tryz.prog slices_SortFunc := ⟨⟨_, Tryz.func43, by kernel_rfl, by kernel_rfl⟩⟩
abbrev proof_Stock_1 : Nat := 44
theorem proof_Stock_1_f : Tryz.prog.funcs[proof_Stock_1]? = some Tryz.f44 := Tryz.func44
theorem proof_Stock_1_cb : Callable Tryz.prog proof_Stock_1 := ⟨⟨_, Tryz.func44, by kernel_rfl, by kernel_rfl⟩⟩
abbrev slices_Compare_byte_byte : Nat := 45
theorem slices_Compare_byte_byte_f : Tryz.prog.funcs[slices_Compare_byte_byte]? = some Tryz.f45 := Tryz.func45
theorem slices_Compare_byte_byte_cb : Callable Tryz.prog slices_Compare_byte_byte := ⟨⟨_, Tryz.func45, by kernel_rfl, by kernel_rfl⟩⟩
abbrev ref07_CheckYears : Nat := 46
theorem ref07_CheckYears_f : Tryz.prog.funcs[ref07_CheckYears]? = some Tryz.f46 := Tryz.func46
theorem ref07_CheckYears_cb : Callable Tryz.prog ref07_CheckYears := ⟨⟨_, Tryz.func46, by kernel_rfl, by kernel_rfl⟩⟩
abbrev ref07_stock : Nat := 47
theorem ref07_stock_f : Tryz.prog.funcs[ref07_stock]? = some Tryz.f47 := Tryz.func47
theorem ref07_stock_cb : Callable Tryz.prog ref07_stock := ⟨⟨_, Tryz.func47, by kernel_rfl, by kernel_rfl⟩⟩
abbrev proof_checked : Nat := 48
theorem proof_checked_f : Tryz.prog.funcs[proof_checked]? = some Tryz.f48 := Tryz.func48
theorem proof_checked_cb : Callable Tryz.prog proof_checked := ⟨⟨_, Tryz.func48, by kernel_rfl, by kernel_rfl⟩⟩
abbrev proof_made : Nat := 49
theorem proof_made_f : Tryz.prog.funcs[proof_made]? = some Tryz.f49 := Tryz.func49
theorem proof_made_cb : Callable Tryz.prog proof_made := ⟨⟨_, Tryz.func49, by kernel_rfl, by kernel_rfl⟩⟩
abbrev law07_set : Nat := 50
theorem law07_set_f : Tryz.prog.funcs[law07_set]? = some Tryz.f50 := Tryz.func50
theorem law07_set_cb : Callable Tryz.prog law07_set := ⟨⟨_, Tryz.func50, by kernel_rfl, by kernel_rfl⟩⟩
abbrev proof_Check : Nat := 51
theorem proof_Check_f : Tryz.prog.funcs[proof_Check]? = some Tryz.f51 := Tryz.func51
theorem proof_Check_cb : Callable Tryz.prog proof_Check := ⟨⟨_, Tryz.func51, by kernel_rfl, by kernel_rfl⟩⟩
abbrev proof_diff : Nat := 52
theorem proof_diff_f : Tryz.prog.funcs[proof_diff]? = some Tryz.f52 := Tryz.func52
theorem proof_diff_cb : Callable Tryz.prog proof_diff := ⟨⟨_, Tryz.func52, by kernel_rfl, by kernel_rfl⟩⟩
abbrev proof_orders : Nat := 53
theorem proof_orders_f : Tryz.prog.funcs[proof_orders]? = some Tryz.f53 := Tryz.func53
theorem proof_orders_cb : Callable Tryz.prog proof_orders := ⟨⟨_, Tryz.func53, by kernel_rfl, by kernel_rfl⟩⟩
abbrev slices_Contains_strs : Nat := 54
theorem slices_Contains_strs_f : Tryz.prog.funcs[slices_Contains_strs]? = some Tryz.f54 := Tryz.func54
theorem slices_Contains_strs_cb : Callable Tryz.prog slices_Contains_strs := ⟨⟨_, Tryz.func54, by kernel_rfl, by kernel_rfl⟩⟩
abbrev kit_Dice_raw : Nat := 55
theorem kit_Dice_raw_f : Tryz.prog.funcs[kit_Dice_raw]? = some Tryz.f55 := Tryz.func55
theorem kit_Dice_raw_cb : Callable Tryz.prog kit_Dice_raw := ⟨⟨_, Tryz.func55, by kernel_rfl, by kernel_rfl⟩⟩
abbrev kit_Dice_Word : Nat := 56
theorem kit_Dice_Word_f : Tryz.prog.funcs[kit_Dice_Word]? = some Tryz.f56 := Tryz.func56
theorem kit_Dice_Word_cb : Callable Tryz.prog kit_Dice_Word := ⟨⟨_, Tryz.func56, by kernel_rfl, by kernel_rfl⟩⟩
abbrev ref07_Check : Nat := 57
theorem ref07_Check_f : Tryz.prog.funcs[ref07_Check]? = some Tryz.f57 := Tryz.func57
theorem ref07_Check_cb : Callable Tryz.prog ref07_Check := ⟨⟨_, Tryz.func57, by kernel_rfl, by kernel_rfl⟩⟩
abbrev proof_counts : Nat := 58
theorem proof_counts_f : Tryz.prog.funcs[proof_counts]? = some Tryz.f58 := Tryz.func58
theorem proof_counts_cb : Callable Tryz.prog proof_counts := ⟨⟨_, Tryz.func58, by kernel_rfl, by kernel_rfl⟩⟩
abbrev slices_pdqsortCmpFunc : Nat := 59
abbrev math_bits_Len : Nat := 60
abbrev cmp_Compare_byte : Nat := 61
theorem cmp_Compare_byte_f : Tryz.prog.funcs[cmp_Compare_byte]? = some Tryz.f61 := Tryz.func61
theorem cmp_Compare_byte_cb : Callable Tryz.prog cmp_Compare_byte := ⟨⟨_, Tryz.func61, by kernel_rfl, by kernel_rfl⟩⟩
abbrev proof_marksError : Nat := 62
theorem proof_marksError_f : Tryz.prog.funcs[proof_marksError]? = some Tryz.f62 := Tryz.func62
theorem proof_marksError_cb : Callable Tryz.prog proof_marksError := ⟨⟨_, Tryz.func62, by kernel_rfl, by kernel_rfl⟩⟩
abbrev proof_deeds : Nat := 63
theorem proof_deeds_f : Tryz.prog.funcs[proof_deeds]? = some Tryz.f63 := Tryz.func63
theorem proof_deeds_cb : Callable Tryz.prog proof_deeds := ⟨⟨_, Tryz.func63, by kernel_rfl, by kernel_rfl⟩⟩
abbrev proof_lineError : Nat := 64
theorem proof_lineError_f : Tryz.prog.funcs[proof_lineError]? = some Tryz.f64 := Tryz.func64
theorem proof_lineError_cb : Callable Tryz.prog proof_lineError := ⟨⟨_, Tryz.func64, by kernel_rfl, by kernel_rfl⟩⟩
abbrev proof_diff_1 : Nat := 65
theorem proof_diff_1_f : Tryz.prog.funcs[proof_diff_1]? = some Tryz.f65 := Tryz.func65
theorem proof_diff_1_cb : Callable Tryz.prog proof_diff_1 := ⟨⟨_, Tryz.func65, by kernel_rfl, by kernel_rfl⟩⟩
abbrev proof_list_behind : Nat := 66
theorem proof_list_behind_f : Tryz.prog.funcs[proof_list_behind]? = some Tryz.f66 := Tryz.func66
theorem proof_list_behind_cb : Callable Tryz.prog proof_list_behind := ⟨⟨_, Tryz.func66, by kernel_rfl, by kernel_rfl⟩⟩
abbrev proof_least : Nat := 67
theorem proof_least_f : Tryz.prog.funcs[proof_least]? = some Tryz.f67 := Tryz.func67
theorem proof_least_cb : Callable Tryz.prog proof_least := ⟨⟨_, Tryz.func67, by kernel_rfl, by kernel_rfl⟩⟩
abbrev proof_compareLists : Nat := 68
theorem proof_compareLists_f : Tryz.prog.funcs[proof_compareLists]? = some Tryz.f68 := Tryz.func68
theorem proof_compareLists_cb : Callable Tryz.prog proof_compareLists := ⟨⟨_, Tryz.func68, by kernel_rfl, by kernel_rfl⟩⟩
abbrev proof_orders_1 : Nat := 69
theorem proof_orders_1_f : Tryz.prog.funcs[proof_orders_1]? = some Tryz.f69 := Tryz.func69
theorem proof_orders_1_cb : Callable Tryz.prog proof_orders_1 := ⟨⟨_, Tryz.func69, by kernel_rfl, by kernel_rfl⟩⟩
abbrev proof_orders_1_1 : Nat := 70
theorem proof_orders_1_1_f : Tryz.prog.funcs[proof_orders_1_1]? = some Tryz.f70 := Tryz.func70
theorem proof_orders_1_1_cb : Callable Tryz.prog proof_orders_1_1 := ⟨⟨_, Tryz.func70, by kernel_rfl, by kernel_rfl⟩⟩
abbrev slices_Contains_ints : Nat := 71
theorem slices_Contains_ints_f : Tryz.prog.funcs[slices_Contains_ints]? = some Tryz.f71 := Tryz.func71
theorem slices_Contains_ints_cb : Callable Tryz.prog slices_Contains_ints := ⟨⟨_, Tryz.func71, by kernel_rfl, by kernel_rfl⟩⟩
abbrev slices_Clone_ints : Nat := 72
theorem slices_Clone_ints_f : Tryz.prog.funcs[slices_Clone_ints]? = some Tryz.f72 := Tryz.func72
theorem slices_Clone_ints_cb : Callable Tryz.prog slices_Clone_ints := ⟨⟨_, Tryz.func72, by kernel_rfl, by kernel_rfl⟩⟩
abbrev slices_Index_strs : Nat := 73
theorem slices_Index_strs_f : Tryz.prog.funcs[slices_Index_strs]? = some Tryz.f73 := Tryz.func73
theorem slices_Index_strs_cb : Callable Tryz.prog slices_Index_strs := ⟨⟨_, Tryz.func73, by kernel_rfl, by kernel_rfl⟩⟩
abbrev ref07_CheckLine : Nat := 74
theorem ref07_CheckLine_f : Tryz.prog.funcs[ref07_CheckLine]? = some Tryz.f74 := Tryz.func74
theorem ref07_CheckLine_cb : Callable Tryz.prog ref07_CheckLine := ⟨⟨_, Tryz.func74, by kernel_rfl, by kernel_rfl⟩⟩
abbrev slices_insertionSortCmpFunc : Nat := 75
abbrev slices_heapSortCmpFunc : Nat := 76
abbrev slices_breakPatternsCmpFunc : Nat := 77
abbrev slices_choosePivotCmpFunc : Nat := 78
abbrev slices_reverseRangeCmpFunc : Nat := 79
abbrev slices_partialInsertionSortCmpFunc : Nat := 80
abbrev slices_partitionEqualCmpFunc : Nat := 81
abbrev slices_partitionCmpFunc : Nat := 82
abbrev math_bits_Len64 : Nat := 84
abbrev cmp_isNaN_byte : Nat := 85
theorem cmp_isNaN_byte_f : Tryz.prog.funcs[cmp_isNaN_byte]? = some Tryz.f85 := Tryz.func85
theorem cmp_isNaN_byte_cb : Callable Tryz.prog cmp_isNaN_byte := ⟨⟨_, Tryz.func85, by kernel_rfl, by kernel_rfl⟩⟩
abbrev proof_textError : Nat := 86
theorem proof_textError_f : Tryz.prog.funcs[proof_textError]? = some Tryz.f86 := Tryz.func86
theorem proof_textError_cb : Callable Tryz.prog proof_textError := ⟨⟨_, Tryz.func86, by kernel_rfl, by kernel_rfl⟩⟩
abbrev proof_deeds_1 : Nat := 87
theorem proof_deeds_1_f : Tryz.prog.funcs[proof_deeds_1]? = some Tryz.f87 := Tryz.func87
theorem proof_deeds_1_cb : Callable Tryz.prog proof_deeds_1 := ⟨⟨_, Tryz.func87, by kernel_rfl, by kernel_rfl⟩⟩
abbrev proof_deeds_2 : Nat := 88
theorem proof_deeds_2_f : Tryz.prog.funcs[proof_deeds_2]? = some Tryz.f88 := Tryz.func88
theorem proof_deeds_2_cb : Callable Tryz.prog proof_deeds_2 := ⟨⟨_, Tryz.func88, by kernel_rfl, by kernel_rfl⟩⟩
abbrev proof_deeds_3 : Nat := 89
theorem proof_deeds_3_f : Tryz.prog.funcs[proof_deeds_3]? = some Tryz.f89 := Tryz.func89
theorem proof_deeds_3_cb : Callable Tryz.prog proof_deeds_3 := ⟨⟨_, Tryz.func89, by kernel_rfl, by kernel_rfl⟩⟩
abbrev strings_HasPrefix : Nat := 90
theorem strings_HasPrefix_f : Tryz.prog.funcs[strings_HasPrefix]? = some Tryz.f90 := Tryz.func90
theorem strings_HasPrefix_cb : Callable Tryz.prog strings_HasPrefix := ⟨⟨_, Tryz.func90, by kernel_rfl, by kernel_rfl⟩⟩
abbrev strings_HasSuffix : Nat := 91
theorem strings_HasSuffix_f : Tryz.prog.funcs[strings_HasSuffix]? = some Tryz.f91 := Tryz.func91
theorem strings_HasSuffix_cb : Callable Tryz.prog strings_HasSuffix := ⟨⟨_, Tryz.func91, by kernel_rfl, by kernel_rfl⟩⟩
abbrev cmp_Or_int : Nat := 92
theorem cmp_Or_int_f : Tryz.prog.funcs[cmp_Or_int]? = some Tryz.f92 := Tryz.func92
theorem cmp_Or_int_cb : Callable Tryz.prog cmp_Or_int := ⟨⟨_, Tryz.func92, by kernel_rfl, by kernel_rfl⟩⟩
abbrev cmp_Compare_int : Nat := 93
theorem cmp_Compare_int_f : Tryz.prog.funcs[cmp_Compare_int]? = some Tryz.f93 := Tryz.func93
theorem cmp_Compare_int_cb : Callable Tryz.prog cmp_Compare_int := ⟨⟨_, Tryz.func93, by kernel_rfl, by kernel_rfl⟩⟩
abbrev slices_CompareFunc : Nat := 94
theorem slices_CompareFunc_f : Tryz.prog.funcs[slices_CompareFunc]? = some Tryz.f94 := Tryz.func94
theorem slices_CompareFunc_cb : Callable Tryz.prog slices_CompareFunc := ⟨⟨_, Tryz.func94, by kernel_rfl, by kernel_rfl⟩⟩
abbrev proof_compareMarks : Nat := 95
theorem proof_compareMarks_f : Tryz.prog.funcs[proof_compareMarks]? = some Tryz.f95 := Tryz.func95
theorem proof_compareMarks_cb : Callable Tryz.prog proof_compareMarks := ⟨⟨_, Tryz.func95, by kernel_rfl, by kernel_rfl⟩⟩
abbrev slices_Index_ints : Nat := 96
theorem slices_Index_ints_f : Tryz.prog.funcs[slices_Index_ints]? = some Tryz.f96 := Tryz.func96
theorem slices_Index_ints_cb : Callable Tryz.prog slices_Index_ints := ⟨⟨_, Tryz.func96, by kernel_rfl, by kernel_rfl⟩⟩
abbrev slices_siftDownCmpFunc : Nat := 97
abbrev slices_medianAdjacentCmpFunc : Nat := 100
abbrev slices_medianCmpFunc : Nat := 101
abbrev internal_stringslite_HasPrefix : Nat := 102
theorem internal_stringslite_HasPrefix_f : Tryz.prog.funcs[internal_stringslite_HasPrefix]? = some Tryz.f102 := Tryz.func102
theorem internal_stringslite_HasPrefix_cb : Callable Tryz.prog internal_stringslite_HasPrefix := ⟨⟨_, Tryz.func102, by kernel_rfl, by kernel_rfl⟩⟩
abbrev internal_stringslite_HasSuffix : Nat := 103
theorem internal_stringslite_HasSuffix_f : Tryz.prog.funcs[internal_stringslite_HasSuffix]? = some Tryz.f103 := Tryz.func103
theorem internal_stringslite_HasSuffix_cb : Callable Tryz.prog internal_stringslite_HasSuffix := ⟨⟨_, Tryz.func103, by kernel_rfl, by kernel_rfl⟩⟩
abbrev cmp_isNaN_int : Nat := 104
theorem cmp_isNaN_int_f : Tryz.prog.funcs[cmp_isNaN_int]? = some Tryz.f104 := Tryz.func104
theorem cmp_isNaN_int_cb : Callable Tryz.prog cmp_isNaN_int := ⟨⟨_, Tryz.func104, by kernel_rfl, by kernel_rfl⟩⟩
abbrev cmp_Compare_string : Nat := 105
theorem cmp_Compare_string_f : Tryz.prog.funcs[cmp_Compare_string]? = some Tryz.f105 := Tryz.func105
theorem cmp_Compare_string_cb : Callable Tryz.prog cmp_Compare_string := ⟨⟨_, Tryz.func105, by kernel_rfl, by kernel_rfl⟩⟩
abbrev slices_order2CmpFunc : Nat := 106
abbrev cmp_isNaN_string : Nat := 107
theorem cmp_isNaN_string_f : Tryz.prog.funcs[cmp_isNaN_string]? = some Tryz.f107 := Tryz.func107
theorem cmp_isNaN_string_cb : Callable Tryz.prog cmp_isNaN_string := ⟨⟨_, Tryz.func107, by kernel_rfl, by kernel_rfl⟩⟩
end F
namespace T
abbrev int : Nat := 3
theorem u_int : Tryz.prog.underlying int = some (.int .i64) := Tryz.underlying3
theorem sz_int : Sz Tryz.prog int 1 := by unfold Sz; kernel_rfl
theorem cell_int : NoR Tryz.prog int := ⟨_, Tryz.underlying3, rfl⟩
abbrev bool : Nat := 4
abbrev u8 : Nat := 5
theorem u_u8 : Tryz.prog.underlying u8 = some (.int .u8) := Tryz.underlying5
theorem sz_u8 : Sz Tryz.prog u8 1 := by unfold Sz; kernel_rfl
theorem cell_u8 : NoR Tryz.prog u8 := ⟨_, Tryz.underlying5, rfl⟩
abbrev string : Nat := 9
theorem u_string : Tryz.prog.underlying string = some (.string) := Tryz.underlying9
theorem sz_string : Sz Tryz.prog string 1 := by unfold Sz; kernel_rfl
theorem cell_string : NoR Tryz.prog string := ⟨_, Tryz.underlying9, rfl⟩
abbrev pages : Nat := 22
theorem u_pages : Tryz.prog.underlying pages = some (.slice 23) := Tryz.underlying22
theorem sz_pages : Sz Tryz.prog pages 1 := by unfold Sz; kernel_rfl
theorem cell_pages : NoR Tryz.prog pages := ⟨_, Tryz.underlying22, rfl⟩
theorem el_pages : ElT Tryz.prog pages 23 1 24 := ElT.of (z := (.slice none 0 0)) Tryz.underlying22 (by kernel_rfl) rfl (by decide)
abbrev strs : Nat := 23
theorem u_strs : Tryz.prog.underlying strs = some (.slice 9) := Tryz.underlying23
theorem sz_strs : Sz Tryz.prog strs 1 := by unfold Sz; kernel_rfl
theorem cell_strs : NoR Tryz.prog strs := ⟨_, Tryz.underlying23, rfl⟩
theorem el_strs : ElT Tryz.prog strs 9 1 16 := ElT.of (z := (.string ⟨#[]⟩)) Tryz.underlying23 (by kernel_rfl) rfl (by decide)
abbrev ints : Nat := 24
theorem u_ints : Tryz.prog.underlying ints = some (.slice 3) := Tryz.underlying24
theorem sz_ints : Sz Tryz.prog ints 1 := by unfold Sz; kernel_rfl
theorem cell_ints : NoR Tryz.prog ints := ⟨_, Tryz.underlying24, rfl⟩
theorem el_ints : ElT Tryz.prog ints 3 1 8 := ElT.of (z := (.int .i64 0)) Tryz.underlying24 (by kernel_rfl) rfl (by decide)
abbrev P_wayzgoosekit_Dice : Nat := 28
abbrev L_L_L_string : Nat := 31
theorem u_L_L_L_string : Tryz.prog.underlying L_L_L_string = some (.slice 22) := Tryz.underlying31
abbrev api_Errno : Nat := 35
theorem sz_api_Errno : Sz Tryz.prog api_Errno 1 := by unfold Sz; kernel_rfl
theorem cell_api_Errno : NoR Tryz.prog api_Errno := ⟨_, Tryz.underlying35, rfl⟩
abbrev L_api_Type : Nat := 38
theorem u_L_api_Type : Tryz.prog.underlying L_api_Type = some (.slice 79) := Tryz.underlying38
theorem el_L_api_Type : ElT Tryz.prog L_api_Type 79 2 24 := ElT.of (z := (.agg #[(.string ⟨#[]⟩), (.int .i64 0)])) Tryz.underlying38 (by kernel_rfl) rfl (by decide)
abbrev L_api_Mark : Nat := 51
theorem u_L_api_Mark : Tryz.prog.underlying L_api_Mark = some (.slice 57) := Tryz.underlying51
theorem cell_L_api_Mark : NoR Tryz.prog L_api_Mark := ⟨_, Tryz.underlying51, rfl⟩
theorem el_L_api_Mark : ElT Tryz.prog L_api_Mark 57 3 32 := ElT.of (z := (.agg #[(.int .i64 0), (.int .i64 0), (.string ⟨#[]⟩)])) Tryz.underlying51 (by kernel_rfl) rfl (by decide)
abbrev api_Mark : Nat := 57
theorem sz_api_Mark : Sz Tryz.prog api_Mark 3 := by unfold Sz; kernel_rfl
theorem row_api_Mark : IsR Tryz.prog api_Mark := ⟨_, Tryz.underlying57, rfl⟩
abbrev api_Flaw : Nat := 62
theorem sz_api_Flaw : Sz Tryz.prog api_Flaw 2 := by unfold Sz; kernel_rfl
theorem row_api_Flaw : IsR Tryz.prog api_Flaw := ⟨_, Tryz.underlying62, rfl⟩
abbrev u64 : Nat := 66
theorem u_u64 : Tryz.prog.underlying u64 = some (.int .u64) := Tryz.underlying66
theorem sz_u64 : Sz Tryz.prog u64 1 := by unfold Sz; kernel_rfl
theorem cell_u64 : NoR Tryz.prog u64 := ⟨_, Tryz.underlying66, rfl⟩
abbrev wayzgoosekit_Dice : Nat := 68
abbrev map_string_int : Nat := 76
theorem u_map_string_int : Tryz.prog.underlying map_string_int = some (.map 9 3) := Tryz.underlying76
abbrev api_Type : Nat := 79
theorem sz_api_Type : Sz Tryz.prog api_Type 2 := by unfold Sz; kernel_rfl
theorem row_api_Type : IsR Tryz.prog api_Type := ⟨_, Tryz.underlying79, rfl⟩
abbrev L_uint8 : Nat := 82
theorem u_L_uint8 : Tryz.prog.underlying L_uint8 = some (.slice 5) := Tryz.underlying82
abbrev func_api_Type_api_Type_int : Nat := 83
abbrev uint : Nat := 93
abbrev P_proof_press : Nat := 99
abbrev proof_press : Nat := 101
abbrev map_int_func_P_proof_press_api_Mark : Nat := 102
theorem u_map_int_func_P_proof_press_api_Mark : Tryz.prog.underlying map_int_func_P_proof_press_api_Mark = some (.map 3 104) := Tryz.underlying102
abbrev func_P_proof_press_api_Mark : Nat := 104
abbrev map_2_int_proof_list : Nat := 106
theorem u_map_2_int_proof_list : Tryz.prog.underlying map_2_int_proof_list = some (.map 110 109) := Tryz.underlying106
theorem sz_map_2_int_proof_list : Sz Tryz.prog map_2_int_proof_list 1 := by unfold Sz; kernel_rfl
theorem cell_map_2_int_proof_list : NoR Tryz.prog map_2_int_proof_list := ⟨_, Tryz.underlying106, rfl⟩
abbrev func_int_int_proof_list : Nat := 107
theorem sz_func_int_int_proof_list : Sz Tryz.prog func_int_int_proof_list 1 := by unfold Sz; kernel_rfl
theorem cell_func_int_int_proof_list : NoR Tryz.prog func_int_int_proof_list := ⟨_, Tryz.underlying107, rfl⟩
abbrev proof_list : Nat := 109
theorem sz_proof_list : Sz Tryz.prog proof_list 2 := by unfold Sz; kernel_rfl
theorem row_proof_list : IsR Tryz.prog proof_list := ⟨_, Tryz.underlying109, rfl⟩
abbrev A2_int : Nat := 110
theorem u_A2_int : Tryz.prog.underlying A2_int = some (.array 2 3) := Tryz.underlying110
theorem sz_A2_int : Sz Tryz.prog A2_int 2 := by unfold Sz; kernel_rfl
theorem row_A2_int : IsR Tryz.prog A2_int := ⟨_, Tryz.underlying110, rfl⟩
abbrev L_proof_list : Nat := 112
theorem u_L_proof_list : Tryz.prog.underlying L_proof_list = some (.slice 109) := Tryz.underlying112
theorem el_L_proof_list : ElT Tryz.prog L_proof_list 109 2 32 := ElT.of (z := (.agg #[(.int .i64 0), (.slice none 0 0)])) Tryz.underlying112 (by kernel_rfl) rfl (by decide)
abbrev func_proof_list_proof_list_int : Nat := 115
abbrev func_L_int_bool : Nat := 116
theorem sz_func_L_int_bool : Sz Tryz.prog func_L_int_bool 1 := by unfold Sz; kernel_rfl
theorem cell_func_L_int_bool : NoR Tryz.prog func_L_int_bool := ⟨_, Tryz.underlying116, rfl⟩
abbrev slices_sortedHint : Nat := 120
abbrev uint32 : Nat := 128
abbrev func_api_Mark_api_Mark_int : Nat := 136
abbrev slices_xorshift : Nat := 138
abbrev P_int : Nat := 141
theorem fa_api_Mark_0 (p : Addr) (w : World) : (Instr.fieldAt 57 (.pointer (some p)) 0).run Tryz.prog w = .ok (.pointer (some (p.add 0))) w := by kernel_rfl
theorem fa_api_Mark_1 (p : Addr) (w : World) : (Instr.fieldAt 57 (.pointer (some p)) 1).run Tryz.prog w = .ok (.pointer (some (p.add 1))) w := by kernel_rfl
theorem fa_api_Mark_2 (p : Addr) (w : World) : (Instr.fieldAt 57 (.pointer (some p)) 2).run Tryz.prog w = .ok (.pointer (some (p.add 2))) w := by kernel_rfl
theorem fa_wayzgoosekit_Dice_0 (p : Addr) (w : World) : (Instr.fieldAt 68 (.pointer (some p)) 0).run Tryz.prog w = .ok (.pointer (some (p.add 0))) w := by kernel_rfl
theorem fa_wayzgoosekit_Dice_1 (p : Addr) (w : World) : (Instr.fieldAt 68 (.pointer (some p)) 1).run Tryz.prog w = .ok (.pointer (some (p.add 1))) w := by kernel_rfl
theorem fa_wayzgoosekit_Dice_2 (p : Addr) (w : World) : (Instr.fieldAt 68 (.pointer (some p)) 2).run Tryz.prog w = .ok (.pointer (some (p.add 2))) w := by kernel_rfl
theorem fa_api_Type_0 (p : Addr) (w : World) : (Instr.fieldAt 79 (.pointer (some p)) 0).run Tryz.prog w = .ok (.pointer (some (p.add 0))) w := by kernel_rfl
theorem fa_proof_press_0 (p : Addr) (w : World) : (Instr.fieldAt 101 (.pointer (some p)) 0).run Tryz.prog w = .ok (.pointer (some (p.add 0))) w := by kernel_rfl
theorem fa_proof_press_1 (p : Addr) (w : World) : (Instr.fieldAt 101 (.pointer (some p)) 1).run Tryz.prog w = .ok (.pointer (some (p.add 1))) w := by kernel_rfl
theorem fa_proof_list_0 (p : Addr) (w : World) : (Instr.fieldAt 109 (.pointer (some p)) 0).run Tryz.prog w = .ok (.pointer (some (p.add 0))) w := by kernel_rfl
theorem fa_proof_list_1 (p : Addr) (w : World) : (Instr.fieldAt 109 (.pointer (some p)) 1).run Tryz.prog w = .ok (.pointer (some (p.add 1))) w := by kernel_rfl
theorem f_proof_list_1 (x1 : Value) (x2 : Value) (w : World) : (Instr.field 109 (.agg #[x1, x2]) 1).run Tryz.prog w = .ok x2 w := by kernel_rfl
theorem al_ints (w : World) : (Instr.alloc 24 true (.tuple #[])).run Tryz.prog w = .ok (.pointer (some ⟨w.heap.size, 0, none⟩)) (w.alloc (.cells #[(.slice none 0 0)] 24 (0, 0))) := by kernel_rfl
theorem al_api_Errno (w : World) : (Instr.alloc 35 true (.tuple #[])).run Tryz.prog w = .ok (.pointer (some ⟨w.heap.size, 0, none⟩)) (w.alloc (.cells #[(.int .i64 0)] 35 (0, 0))) := by kernel_rfl
theorem al_api_Mark (w : World) : (Instr.alloc 57 true (.tuple #[])).run Tryz.prog w = .ok (.pointer (some ⟨w.heap.size, 0, none⟩)) (w.alloc (.cells #[(.int .i64 0), (.int .i64 0), (.string ⟨#[]⟩)] 57 (0, 0))) := by kernel_rfl
theorem al_api_Flaw (w : World) : (Instr.alloc 62 true (.tuple #[])).run Tryz.prog w = .ok (.pointer (some ⟨w.heap.size, 0, none⟩)) (w.alloc (.cells #[(.int .i64 0), (.int .i64 0)] 62 (0, 0))) := by kernel_rfl
theorem al_map_2_int_proof_list (w : World) : (Instr.alloc 106 true (.tuple #[])).run Tryz.prog w = .ok (.pointer (some ⟨w.heap.size, 0, none⟩)) (w.alloc (.cells #[(.map none)] 106 (0, 0))) := by kernel_rfl
theorem al_func_int_int_proof_list (w : World) : (Instr.alloc 107 true (.tuple #[])).run Tryz.prog w = .ok (.pointer (some ⟨w.heap.size, 0, none⟩)) (w.alloc (.cells #[.nilFunc] 107 (0, 0))) := by kernel_rfl
theorem al_proof_list (w : World) : (Instr.alloc 109 true (.tuple #[])).run Tryz.prog w = .ok (.pointer (some ⟨w.heap.size, 0, none⟩)) (w.alloc (.cells #[(.int .i64 0), (.slice none 0 0)] 109 (0, 0))) := by kernel_rfl
theorem al_A2_int (w : World) : (Instr.alloc 110 true (.tuple #[])).run Tryz.prog w = .ok (.pointer (some ⟨w.heap.size, 0, none⟩)) (w.alloc (.cells #[(.int .i64 0), (.int .i64 0)] 110 (0, 0))) := by kernel_rfl
theorem al_func_L_int_bool (w : World) : (Instr.alloc 116 true (.tuple #[])).run Tryz.prog w = .ok (.pointer (some ⟨w.heap.size, 0, none⟩)) (w.alloc (.cells #[.nilFunc] 116 (0, 0))) := by kernel_rfl
theorem bd_api_Mark_0_1 (x1 : Int) (x2 : Int) (w : World) : (Instr.build 57 #[(0, (.int .i64 x1)), (1, (.int .i64 x2))]).run Tryz.prog w = .ok (.agg #[(.int .i64 x1), (.int .i64 x2), (.string ⟨#[]⟩)]) w := by kernel_rfl
theorem bd_api_Mark_0_1_2 (x1 : Int) (x2 : Int) (x3 : ByteArray) (w : World) : (Instr.build 57 #[(0, (.int .i64 x1)), (1, (.int .i64 x2)), (2, (.string x3))]).run Tryz.prog w = .ok (.agg #[(.int .i64 x1), (.int .i64 x2), (.string x3)]) w := by kernel_rfl
theorem bd_api_Flaw_  (w : World) : (Instr.build 62 #[]).run Tryz.prog w = .ok (.agg #[(.int .i64 0), (.int .i64 0)]) w := by kernel_rfl
theorem bd_api_Flaw_0_1 (x1 : Int) (x2 : Int) (w : World) : (Instr.build 62 #[(0, (.int .i64 x1)), (1, (.int .i64 x2))]).run Tryz.prog w = .ok (.agg #[(.int .i64 x1), (.int .i64 x2)]) w := by kernel_rfl
theorem bd_wayzgoosekit_Dice_0_2 (x1 : Option Addr) (x2 : Nat) (x3 : Nat) (x4 : Int) (w : World) : (Instr.build 68 #[(0, (.slice x1 x2 x3)), (2, (.int .u64 x4))]).run Tryz.prog w = .ok (.agg #[(.slice x1 x2 x3), (.int .i64 0), (.int .u64 x4)]) w := by kernel_rfl
theorem bd_api_Type_0_1 (x1 : ByteArray) (x2 : Int) (w : World) : (Instr.build 79 #[(0, (.string x1)), (1, (.int .i64 x2))]).run Tryz.prog w = .ok (.agg #[(.string x1), (.int .i64 x2)]) w := by kernel_rfl
theorem bd_proof_press_  (w : World) : (Instr.build 101 #[]).run Tryz.prog w = .ok (.agg #[(.slice none 0 0), (.int .i64 0)]) w := by kernel_rfl
theorem bd_proof_list_  (w : World) : (Instr.build 109 #[]).run Tryz.prog w = .ok (.agg #[(.int .i64 0), (.slice none 0 0)]) w := by kernel_rfl
theorem bd_proof_list_0_1 (x1 : Int) (x2 : Option Addr) (x3 : Nat) (x4 : Nat) (w : World) : (Instr.build 109 #[(0, (.int .i64 x1)), (1, (.slice x2 x3 x4))]).run Tryz.prog w = .ok (.agg #[(.int .i64 x1), (.slice x2 x3 x4)]) w := by kernel_rfl
theorem bd_A2_int_0_1 (x1 : Int) (x2 : Int) (w : World) : (Instr.build 110 #[(0, (.int .i64 x1)), (1, (.int .i64 x2))]).run Tryz.prog w = .ok (.agg #[(.int .i64 x1), (.int .i64 x2)]) w := by kernel_rfl
theorem bs_pages_1 (x1 : Option Addr) (x2 : Nat) (x3 : Nat) (w : World) : (Instr.buildSlice 22 1 #[(0, (.slice x1 x2 x3))]).run Tryz.prog w = .ok (.slice (some ⟨w.heap.size, 0, none⟩) 1 1) (w.alloc (.cells #[(.slice x1 x2 x3)] 23 (0, 0))) := by kernel_rfl
theorem bs_pages_2 (x1 : Option Addr) (x2 : Nat) (x3 : Nat) (x4 : Option Addr) (x5 : Nat) (x6 : Nat) (w : World) : (Instr.buildSlice 22 2 #[(0, (.slice x1 x2 x3)), (1, (.slice x4 x5 x6))]).run Tryz.prog w = .ok (.slice (some ⟨w.heap.size, 0, none⟩) 2 2) (w.alloc (.cells #[(.slice x1 x2 x3), (.slice x4 x5 x6)] 23 (0, 0))) := by kernel_rfl
theorem bs_pages_3 (x1 : Option Addr) (x2 : Nat) (x3 : Nat) (x4 : Option Addr) (x5 : Nat) (x6 : Nat) (x7 : Option Addr) (x8 : Nat) (x9 : Nat) (w : World) : (Instr.buildSlice 22 3 #[(0, (.slice x1 x2 x3)), (1, (.slice x4 x5 x6)), (2, (.slice x7 x8 x9))]).run Tryz.prog w = .ok (.slice (some ⟨w.heap.size, 0, none⟩) 3 3) (w.alloc (.cells #[(.slice x1 x2 x3), (.slice x4 x5 x6), (.slice x7 x8 x9)] 23 (0, 0))) := by kernel_rfl
theorem bs_strs_0  (w : World) : (Instr.buildSlice 23 0 #[]).run Tryz.prog w = .ok (.slice (some ⟨w.heap.size, 0, none⟩) 0 0) (w.alloc (.cells #[] 9 (0, 0))) := by kernel_rfl
theorem bs_strs_1 (x1 : ByteArray) (w : World) : (Instr.buildSlice 23 1 #[(0, (.string x1))]).run Tryz.prog w = .ok (.slice (some ⟨w.heap.size, 0, none⟩) 1 1) (w.alloc (.cells #[(.string x1)] 9 (0, 0))) := by kernel_rfl
theorem bs_strs_2 (x1 : ByteArray) (x2 : ByteArray) (w : World) : (Instr.buildSlice 23 2 #[(0, (.string x1)), (1, (.string x2))]).run Tryz.prog w = .ok (.slice (some ⟨w.heap.size, 0, none⟩) 2 2) (w.alloc (.cells #[(.string x1), (.string x2)] 9 (0, 0))) := by kernel_rfl
theorem bs_strs_3 (x1 : ByteArray) (x2 : ByteArray) (x3 : ByteArray) (w : World) : (Instr.buildSlice 23 3 #[(0, (.string x1)), (1, (.string x2)), (2, (.string x3))]).run Tryz.prog w = .ok (.slice (some ⟨w.heap.size, 0, none⟩) 3 3) (w.alloc (.cells #[(.string x1), (.string x2), (.string x3)] 9 (0, 0))) := by kernel_rfl
theorem bs_strs_4 (x1 : ByteArray) (x2 : ByteArray) (x3 : ByteArray) (x4 : ByteArray) (w : World) : (Instr.buildSlice 23 4 #[(0, (.string x1)), (1, (.string x2)), (2, (.string x3)), (3, (.string x4))]).run Tryz.prog w = .ok (.slice (some ⟨w.heap.size, 0, none⟩) 4 4) (w.alloc (.cells #[(.string x1), (.string x2), (.string x3), (.string x4)] 9 (0, 0))) := by kernel_rfl
theorem bs_strs_6 (x1 : ByteArray) (x2 : ByteArray) (x3 : ByteArray) (x4 : ByteArray) (x5 : ByteArray) (x6 : ByteArray) (w : World) : (Instr.buildSlice 23 6 #[(0, (.string x1)), (1, (.string x2)), (2, (.string x3)), (3, (.string x4)), (4, (.string x5)), (5, (.string x6))]).run Tryz.prog w = .ok (.slice (some ⟨w.heap.size, 0, none⟩) 6 6) (w.alloc (.cells #[(.string x1), (.string x2), (.string x3), (.string x4), (.string x5), (.string x6)] 9 (0, 0))) := by kernel_rfl
theorem bs_ints_0  (w : World) : (Instr.buildSlice 24 0 #[]).run Tryz.prog w = .ok (.slice (some ⟨w.heap.size, 0, none⟩) 0 0) (w.alloc (.cells #[] 3 (0, 0))) := by kernel_rfl
theorem bs_ints_1 (x1 : Int) (w : World) : (Instr.buildSlice 24 1 #[(0, (.int .i64 x1))]).run Tryz.prog w = .ok (.slice (some ⟨w.heap.size, 0, none⟩) 1 1) (w.alloc (.cells #[(.int .i64 x1)] 3 (0, 0))) := by kernel_rfl
theorem bs_ints_3 (x1 : Int) (x2 : Int) (x3 : Int) (w : World) : (Instr.buildSlice 24 3 #[(0, (.int .i64 x1)), (1, (.int .i64 x2)), (2, (.int .i64 x3))]).run Tryz.prog w = .ok (.slice (some ⟨w.heap.size, 0, none⟩) 3 3) (w.alloc (.cells #[(.int .i64 x1), (.int .i64 x2), (.int .i64 x3)] 3 (0, 0))) := by kernel_rfl
theorem bs_L_L_L_string_3 (x1 : Option Addr) (x2 : Nat) (x3 : Nat) (x4 : Option Addr) (x5 : Nat) (x6 : Nat) (x7 : Option Addr) (x8 : Nat) (x9 : Nat) (w : World) : (Instr.buildSlice 31 3 #[(0, (.slice x1 x2 x3)), (1, (.slice x4 x5 x6)), (2, (.slice x7 x8 x9))]).run Tryz.prog w = .ok (.slice (some ⟨w.heap.size, 0, none⟩) 3 3) (w.alloc (.cells #[(.slice x1 x2 x3), (.slice x4 x5 x6), (.slice x7 x8 x9)] 22 (0, 0))) := by kernel_rfl
theorem bs_L_api_Type_0  (w : World) : (Instr.buildSlice 38 0 #[]).run Tryz.prog w = .ok (.slice (some ⟨w.heap.size, 0, none⟩) 0 0) (w.alloc (.cells #[] 79 (0, 0))) := by kernel_rfl
theorem bs_L_api_Type_1 (x1 : ByteArray) (x2 : Int) (w : World) : (Instr.buildSlice 38 1 #[(0, (.agg #[(.string x1), (.int .i64 x2)]))]).run Tryz.prog w = .ok (.slice (some ⟨w.heap.size, 0, none⟩) 1 1) (w.alloc (.cells #[(.string x1), (.int .i64 x2)] 79 (0, 0))) := by kernel_rfl
theorem bs_L_api_Mark_1 (x1 : Int) (x2 : Int) (x3 : ByteArray) (w : World) : (Instr.buildSlice 51 1 #[(0, (.agg #[(.int .i64 x1), (.int .i64 x2), (.string x3)]))]).run Tryz.prog w = .ok (.slice (some ⟨w.heap.size, 0, none⟩) 1 1) (w.alloc (.cells #[(.int .i64 x1), (.int .i64 x2), (.string x3)] 57 (0, 0))) := by kernel_rfl
theorem bs_L_api_Mark_2 (x1 : Int) (x2 : Int) (x3 : ByteArray) (x4 : Int) (x5 : Int) (x6 : ByteArray) (w : World) : (Instr.buildSlice 51 2 #[(0, (.agg #[(.int .i64 x1), (.int .i64 x2), (.string x3)])), (1, (.agg #[(.int .i64 x4), (.int .i64 x5), (.string x6)]))]).run Tryz.prog w = .ok (.slice (some ⟨w.heap.size, 0, none⟩) 2 2) (w.alloc (.cells #[(.int .i64 x1), (.int .i64 x2), (.string x3), (.int .i64 x4), (.int .i64 x5), (.string x6)] 57 (0, 0))) := by kernel_rfl
theorem bs_L_api_Mark_3 (x1 : Int) (x2 : Int) (x3 : ByteArray) (x4 : Int) (x5 : Int) (x6 : ByteArray) (x7 : Int) (x8 : Int) (x9 : ByteArray) (w : World) : (Instr.buildSlice 51 3 #[(0, (.agg #[(.int .i64 x1), (.int .i64 x2), (.string x3)])), (1, (.agg #[(.int .i64 x4), (.int .i64 x5), (.string x6)])), (2, (.agg #[(.int .i64 x7), (.int .i64 x8), (.string x9)]))]).run Tryz.prog w = .ok (.slice (some ⟨w.heap.size, 0, none⟩) 3 3) (w.alloc (.cells #[(.int .i64 x1), (.int .i64 x2), (.string x3), (.int .i64 x4), (.int .i64 x5), (.string x6), (.int .i64 x7), (.int .i64 x8), (.string x9)] 57 (0, 0))) := by kernel_rfl
theorem bs_L_proof_list_1 (x1 : Int) (x2 : Option Addr) (x3 : Nat) (x4 : Nat) (w : World) : (Instr.buildSlice 112 1 #[(0, (.agg #[(.int .i64 x1), (.slice x2 x3 x4)]))]).run Tryz.prog w = .ok (.slice (some ⟨w.heap.size, 0, none⟩) 1 1) (w.alloc (.cells #[(.int .i64 x1), (.slice x2 x3 x4)] 109 (0, 0))) := by kernel_rfl
theorem eqi_api_Mark (a0 b0 : Int) (a1 b1 : Int) (a2 b2 : Str) (w : World) : (Op.equalIn 10000 57 (.agg #[.int .i64 a0, .int .i64 a1, .string ⟨(a2 : Str).toArray⟩]) (.agg #[.int .i64 b0, .int .i64 b1, .string ⟨(b2 : Str).toArray⟩])).run Tryz.prog w = .ok (decide ((a0, a1, a2) = (b0, b1, b2))) w := by
  rw [run_equalIn_agg w 9999 57 _ _ (by simp only [Program.fieldsOf, Tryz.underlying57]) (by kernel_rfl)]; simp only [Program.fieldsOf, Tryz.underlying57]
  by_cases h0 : a0 = b0 <;> by_cases h1 : a1 = b1 <;> by_cases h2 : a2 = b2 <;>
    simp [Op.eqFields, part, isAgg, run_equalIn_int _ 9998 3 .i64 .i64 _ _ Tryz.underlying3, run_equalIn_string _ 9998 9 _ _ Tryz.underlying9, run_underlying Tryz.underlying3, run_underlying Tryz.underlying9, h0, h1, h2]
theorem neq_api_Mark (a0 b0 : Int) (a1 b1 : Int) (a2 b2 : Str) (w : World) : (binOp .neq 57 (.agg #[.int .i64 a0, .int .i64 a1, .string ⟨(a2 : Str).toArray⟩]) (.agg #[.int .i64 b0, .int .i64 b1, .string ⟨(b2 : Str).toArray⟩])).run Tryz.prog w = .ok (.bool (decide (¬ (a0, a1, a2) = (b0, b1, b2)))) w := by rw [run_neq_struct, eqi_api_Mark, decide_not]; rfl
theorem eqg_api_Mark (op : BinOp) (x y : Operand) (xs ys : Array Value) (w : World) : (eqGuard op 57 x y (.agg xs) (.agg ys)).run Tryz.prog w = .ok () w := run_eqGuard_agg w op 57 x y xs ys (by kernel_rfl)
theorem eqi_api_Flaw (a0 b0 : Int) (a1 b1 : Int) (w : World) : (Op.equalIn 10000 62 (.agg #[.int .i64 a0, .int .i64 a1]) (.agg #[.int .i64 b0, .int .i64 b1])).run Tryz.prog w = .ok (decide ((a0, a1) = (b0, b1))) w := by
  rw [run_equalIn_agg w 9999 62 _ _ (by simp only [Program.fieldsOf, Tryz.underlying62]) (by kernel_rfl)]; simp only [Program.fieldsOf, Tryz.underlying62]
  by_cases h0 : a0 = b0 <;> by_cases h1 : a1 = b1 <;>
    simp [Op.eqFields, part, isAgg, run_equalIn_int _ 9998 3 .i64 .i64 _ _ Tryz.underlying3, run_underlying Tryz.underlying3, h0, h1]
theorem eql_api_Flaw (a0 b0 : Int) (a1 b1 : Int) (w : World) : (binOp .eql 62 (.agg #[.int .i64 a0, .int .i64 a1]) (.agg #[.int .i64 b0, .int .i64 b1])).run Tryz.prog w = .ok (.bool (decide ((a0, a1) = (b0, b1)))) w := by rw [run_eql_struct, eqi_api_Flaw]; rfl
theorem eqg_api_Flaw (op : BinOp) (x y : Operand) (xs ys : Array Value) (w : World) : (eqGuard op 62 x y (.agg xs) (.agg ys)).run Tryz.prog w = .ok () w := run_eqGuard_agg w op 62 x y xs ys (by kernel_rfl)
theorem eqi_api_Type (a0 b0 : Str) (a1 b1 : Int) (w : World) : (Op.equalIn 10000 79 (.agg #[.string ⟨(a0 : Str).toArray⟩, .int .i64 a1]) (.agg #[.string ⟨(b0 : Str).toArray⟩, .int .i64 b1])).run Tryz.prog w = .ok (decide ((a0, a1) = (b0, b1))) w := by
  rw [run_equalIn_agg w 9999 79 _ _ (by simp only [Program.fieldsOf, Tryz.underlying79]) (by kernel_rfl)]; simp only [Program.fieldsOf, Tryz.underlying79]
  by_cases h0 : a0 = b0 <;> by_cases h1 : a1 = b1 <;>
    simp [Op.eqFields, part, isAgg, run_equalIn_int _ 9998 3 .i64 .i64 _ _ Tryz.underlying3, run_equalIn_string _ 9998 9 _ _ Tryz.underlying9, run_underlying Tryz.underlying3, run_underlying Tryz.underlying9, h0, h1]
theorem neq_api_Type (a0 b0 : Str) (a1 b1 : Int) (w : World) : (binOp .neq 79 (.agg #[.string ⟨(a0 : Str).toArray⟩, .int .i64 a1]) (.agg #[.string ⟨(b0 : Str).toArray⟩, .int .i64 b1])).run Tryz.prog w = .ok (.bool (decide (¬ (a0, a1) = (b0, b1)))) w := by rw [run_neq_struct, eqi_api_Type, decide_not]; rfl
theorem eqg_api_Type (op : BinOp) (x y : Operand) (xs ys : Array Value) (w : World) : (eqGuard op 79 x y (.agg xs) (.agg ys)).run Tryz.prog w = .ok () w := run_eqGuard_agg w op 79 x y xs ys (by kernel_rfl)
end T
end Go.Proofs.YtpbbgbjidhffoaaGreat
end
section
namespace Go.W
universe u
open Go Go.RowKit
class El (α : Type) extends Inhabited α where
  cells : α → List Value
  sz : Nat
  len : ∀ a, (cells a).length = sz
  one : ∀ a, ∀ u ∈ cells a, u.oneCell' = true
def rows {α : Type} [El α] (l : List α) : List Value := l.flatMap El.cells
instance : El Str where
  default := []
  cells s := [str s]
  sz := 1
  len _ := rfl
  one a u h := by simp at h; subst h; rfl
instance : El Int where
  default := 0
  cells n := [int n]
  sz := 1
  len _ := rfl
  one a u h := by simp at h; subst h; rfl
instance : El UInt8 where
  default := 0
  cells n := [.int .u8 n.toNat]
  sz := 1
  len _ := rfl
  one a u h := by simp at h; subst h; rfl
abbrev Mk := Int × Int × Str
instance : El Mk where
  default := (0, 0, [])
  cells m := [int m.1, int m.2.1, str m.2.2]
  sz := 3
  len _ := rfl
  one a u h := by simp at h; rcases h with h | h | h <;> subst h <;> rfl
structure Sl (α : Type) where
  a : Option Addr
  c : Nat
  l : List α
instance {α : Type} : El (Sl α) where
  default := ⟨none, 0, []⟩
  cells p := [.slice p.a p.l.length p.c]
  sz := 1
  len _ := rfl
  one a u h := by simp at h; subst h; rfl
section
variable {α : Type} [El α]
theorem rows_nil : rows ([] : List α) = [] := rfl
theorem rows_cons (a : α) (l : List α) : rows (a :: l) = El.cells a ++ rows l := rfl
theorem rows_append (l l' : List α) : rows (l ++ l') = rows l ++ rows l' := by simp [rows]
theorem rows_len (l : List α) : (rows l).length = l.length * El.sz α := by
  induction l with
  | nil => simp [rows_nil]
  | cons a l ih => rw [rows_cons, List.length_append, El.len, ih, List.length_cons, Nat.add_mul, Nat.one_mul, Nat.add_comm]
theorem rows_one (l : List α) : ∀ u ∈ rows l, u.oneCell' = true := by
  intro u hu; obtain ⟨a, _, h⟩ := List.mem_flatMap.1 hu; exact El.one a u h
theorem rows_drop (l : List α) (k : Nat) : (rows l).drop (k * El.sz α) = rows (l.drop k) := by
  induction l generalizing k with
  | nil => simp [rows_nil]
  | cons a l ih =>
    cases k with
    | zero => simp
    | succ k =>
      rw [rows_cons, List.drop_succ_cons, ← ih, List.drop_append, El.len, List.drop_eq_nil_of_le (by rw [El.len, Nat.succ_mul]; omega), List.nil_append]
      congr 1
      rw [Nat.succ_mul]
      omega
theorem rows_get' (l : List α) (i j : Nat) (hi : i < l.length) (hj : j < El.sz α) : (rows l)[i * El.sz α + j]? = (El.cells (l.getD i default))[j]? := by
  have h := congrArg (·[j]?) (rows_drop l i); simp only [List.getElem?_drop] at h; rw [h, List.drop_eq_getElem_cons hi, rows_cons, List.getElem?_append_left (by rw [El.len]; exact hj)]
  simp [List.getD_eq_getElem?_getD, hi]
theorem rows_get {l : List α} {i j : Nat} {v : Value} (hi : i < l.length) (hv : (El.cells (l.getD i default))[j]? = some v) : (rows l)[i * El.sz α + j]? = some v := by
  have hj : j < El.sz α := by
    have := (List.getElem?_eq_some_iff.1 hv).1
    rwa [El.len] at this
  rw [rows_get' l i j hi hj, hv]
theorem rows_get0 {l : List α} {i : Nat} {v : Value} (hi : i < l.length) (hv : (El.cells (l.getD i default))[0]? = some v) : (rows l)[i * El.sz α]? = some v := rows_get (j := 0) hi hv
theorem rows_all {l : List α} {i : Nat} (hi : i < l.length) : ∀ j u, (El.cells (l.getD i default))[j]? = some u → (rows l)[i * El.sz α + j]? = some u := fun j u h => rows_get hi h
theorem rows_lt {l : List α} {i : Nat} (hi : i < l.length) (h0 : 0 < El.sz α) : i * El.sz α < (rows l).length := by
  rw [rows_len]; exact Nat.mul_lt_mul_of_pos_right hi h0
theorem rows_take (l : List α) (k : Nat) : (rows l).take (k * El.sz α) = rows (l.take k) := by
  induction l generalizing k with
  | nil => simp [rows_nil]
  | cons a l ih =>
    cases k with
    | zero => simp [rows_nil]
    | succ k =>
      rw [rows_cons, List.take_succ_cons, rows_cons, ← ih, Nat.succ_mul, List.take_append, El.len, List.take_of_length_le (by rw [El.len]; omega)]
      congr 2
      omega
end
theorem r_conv {c : Cx} {Q : Exit → Act → World → Prop} {fr : Fr} {hp : Hp} {L : List Fact} {ops : Array Oper} {rest : List Oper} {d : Tmp} {ty : TypeId} {pos : String} {af : Array Edge}
    {s t : TypeId} {x : Operand} {ks k k' : IntKind} {a : Int} (z : Int) (hd : Nat.blt d c.n = true) (hs : c.P.underlying s = some (.int ks)) (ht : c.P.underlying t = some (.int k')) (hx : ev fr x = some (.int k a)) (hz : k'.wrap a = z)
    (kk : HL c ops Q rest ((d, .int k' z) :: fr) hp L) : HL c ops Q (⟨some d, .convert s t x, ty, pos, af, none⟩ :: rest) fr hp L :=
  hl_val _ rfl rfl hd (fun a' w ha _ => by
    simp only [execOp, ha.ev hx, Sem.run_bind, convert, run_underlying hs, run_underlying ht, Result.andThen_ok]; rw [← hz]
    cases ks <;> rfl) kk
theorem r_rem {c : Cx} {Q : Exit → Act → World → Prop} {fr : Fr} {hp : Hp} {L : List Fact} {ops : Array Oper} {rest : List Oper} {d : Tmp} {ty : TypeId} {pos : String} {af : Array Edge}
    {t yt : TypeId} {x y : Operand} {kd : IntKind} {a b : Int} (hd : Nat.blt d c.n = true) (hx : ev fr x = some (.int kd a)) (hy : ev fr y = some (.int kd b)) (hb : b ≠ 0)
    (kk : HL c ops Q rest ((d, .int kd (a.tmod b)) :: fr) hp L) : HL c ops Q (⟨some d, .binOp .rem t x y yt, ty, pos, af, none⟩ :: rest) fr hp L :=
  r_bin _ hd hx hy (fun _ => rfl) (fun w => by
    have : (binOp .rem t (.int kd a) (.int kd b)) = Op.intDiv .rem kd a b := by cases kd <;> rfl
    rw [this]
    simp [Op.intDiv, hb]) kk
theorem wrapU (n : Int) : 0 ≤ IntKind.u64.wrap n ∧ IntKind.u64.wrap n < 18446744073709551616 := by
  simp only [IntKind.wrap, IntKind.bits, IntKind.signed]
  simp
  omega
theorem r_elem {α : Type} [El α] {c : Cx} {Q : Exit → Act → World → Prop} {fr : Fr} {hp : Hp} {L : List Fact} {ops : Array Oper} {rest : List Oper} {d : Tmp} {ty : TypeId} {pos : String} {af : Array Edge}
    {t e : TypeId} {x i : Operand} {A : Option Addr} {n cp : Nat} {kd : IntKind} {z : Int} (l : List α) (j : Nat) (hd : Nat.blt d c.n = true) (ht : c.P.underlying t = some (.slice e)) (hz : Sz c.P e (El.sz α))
    (hx : ev fr x = some (.slice A n cp)) (hi : ev fr i = some (.int kd z)) (hjz : z = (j : Int)) (hr : Row A (rows l) ∈ L) (hn : n = l.length) (hj : j < l.length) (h0 : 0 < El.sz α)
    (k : HL c ops Q rest ((d, .pointer (some ((adr A).add (j * El.sz α)))) :: fr) hp L) : HL c ops Q (⟨some d, .indexAddr t x i, ty, pos, af, none⟩ :: rest) fr hp L :=
  r_indexAddr j hd ht hz hx hi hjz (by omega) hr (rows_lt hj h0) k
def Rows2 {α : Type} [El α] (A : Option Addr) (ps : List (Sl α)) : Fact where
  P w := (Row A (rows ps)).P w ∧ ∀ p ∈ ps, (Row p.a (rows p.l)).P w
  fp k := (Row A (rows ps)).fp k ∨ ∃ p ∈ ps, (Row p.a (rows p.l)).fp k
  st w w' h hP := ⟨(Row A (rows ps)).st w w' (fun k hk => h k (.inl hk)) hP.1, fun p hp => (Row p.a (rows p.l)).st w w' (fun k hk => h k (.inr ⟨p, hp, hk⟩)) (hP.2 p hp)⟩
  lt w hP k hk := by
    rcases hk with hk | ⟨p, hp, hk⟩
    · exact (Row A (rows ps)).lt w hP.1 k hk
    · exact (Row p.a (rows p.l)).lt w (hP.2 p hp) k hk
section
variable {c : Cx} {Q : Exit → Act → World → Prop} {fr : Fr} {hp : Hp} {L : List Fact} {ops : Array Oper} {rest : List Oper}
theorem wi_outer {α : Type} [El α] {b : Bx} {w : World} {A : Option Addr} {ps : List (Sl α)} (h : Rows2 A ps ∈ L) (hw : WI b w hp L) : WI b w hp (Row A (rows ps) :: L) :=
  wi_more hw (hw.fs _ h).1 (fun k hk => ⟨_, h, .inl hk⟩)
theorem wi_inner {α : Type} [El α] {b : Bx} {w : World} {A : Option Addr} {ps : List (Sl α)} {p : Sl α} (h : Rows2 A ps ∈ L) (hp' : p ∈ ps) (hw : WI b w hp L) : WI b w hp (Row p.a (rows p.l) :: L) :=
  wi_more hw ((hw.fs _ h).2 p hp') (fun k hk => ⟨_, h, .inr ⟨p, hp', hk⟩⟩)
theorem hc_outer {α : Type} [El α] {A : Option Addr} {ps : List (Sl α)} {x : Code} (h : Rows2 A ps ∈ L) (k : HC c x Q fr hp (Row A (rows ps) :: L)) : HC c x Q fr hp L := fun a w ha hw => k a w ha (wi_outer h hw)
theorem hl_inner {α : Type} [El α] {A : Option Addr} {ps : List (Sl α)} {p : Sl α} (h : Rows2 A ps ∈ L) (hp' : p ∈ ps) (k : HL c ops Q rest fr hp (Row p.a (rows p.l) :: L)) : HL c ops Q rest fr hp L := fun a w ha hw => k a w ha (wi_inner h hp' hw)
theorem hc_inner {α : Type} [El α] {A : Option Addr} {ps : List (Sl α)} {p : Sl α} {x : Code} (h : Rows2 A ps ∈ L) (hp' : p ∈ ps) (k : HC c x Q fr hp (Row p.a (rows p.l) :: L)) : HC c x Q fr hp L := fun a w ha hw => k a w ha (wi_inner h hp' hw)
variable {d : Tmp} {ty : TypeId} {pos : String} {af : Array Edge}
theorem p_t {x y z : Operand} {v : Value} {b : Bool} (hd : Nat.blt d c.n = true) (hx : ev fr x = some (.bool b)) (hb : b = true) (hy : ev fr y = some v) (k : HL c ops Q rest ((d, v) :: fr) hp L) : HL c ops Q (⟨some d, .pick x y z, ty, pos, af, none⟩ :: rest) fr hp L := by
  subst hb; exact r_pick_t hd hx hy k
theorem p_f {x y z : Operand} {v : Value} {b : Bool} (hd : Nat.blt d c.n = true) (hx : ev fr x = some (.bool b)) (hb : b = false) (hz : ev fr z = some v) (k : HL c ops Q rest ((d, v) :: fr) hp L) : HL c ops Q (⟨some d, .pick x y z, ty, pos, af, none⟩ :: rest) fr hp L := by
  subst hb; exact r_pick_f hd hx hz k
theorem c_t {x : Operand} {b : Bool} {thn els : Code} (hx : ev fr x = some (.bool b)) (hb : b = true) (ht : HC c thn Q fr hp L) : HC c (.cond x thn els) Q fr hp L := by subst hb; exact hc_cond_t hx ht
theorem c_f {x : Operand} {b : Bool} {thn els : Code} (hx : ev fr x = some (.bool b)) (hb : b = false) (hf : HC c els Q fr hp L) : HC c (.cond x thn els) Q fr hp L := by subst hb; exact hc_cond_f hx hf
theorem bt1 {b : Bool} (h : (b == true) = true) : b = true := by cases b <;> simp_all
theorem bt2 {b : Bool} (h : (b == false) = false) : b = true := by cases b <;> simp_all
theorem bf1 {b : Bool} (h : (b == false) = true) : b = false := by cases b <;> simp_all
theorem bf2 {b : Bool} (h : (b == true) = false) : b = false := by cases b <;> simp_all
theorem gy {b : Bool} (h : (b == true) = false) : (b == false) = true := by cases b <;> simp_all
theorem gn {b : Bool} (h : (b == true) = true) : (b == false) = false := by cases b <;> simp_all
theorem g_und {o : Oper} {j : Nat} {want : Bool} {t : Tmp} {v : Value} (ho : o.dst = some d) (hg : o.guard = some (j, want)) (hd : Nat.blt d c.n = true) (hj : (ops[j]?).bind (·.dst) = some t) (hv : lk fr t = some v) (hu : v = undef)
    (k : HL c ops Q rest ((d, undef) :: fr) hp L) : HL c ops Q (o :: rest) fr hp L := by
  subst hu; intro a w ha hw; refine wpL_skip ?_ ?_
  · rw [Region.wanted, hg]
    show (yielded ops a.tmps j == some want) = false; have h1 := ha.at_ t _ hv
    have : yielded ops a.tmps j = none := by
      unfold yielded; rw [hj]; simp only [Option.bind_some]
      cases h2 : a.tmps[t]? with
      | none => rfl
      | some u => simp [Array.getD_eq_getD_getElem?, h2, undef] at h1; rw [h1]
    rw [this]; rfl
  · rw [ho]; exact k _ _ (ha.put (by simpa using hd) _) hw
theorem g_split {dst : Option Tmp} {op : Op} {j : Nat} {want b : Bool} {t : Tmp} (hj : (ops[j]?).bind (·.dst) = some t) (hv : lk fr t = some (.bool b))
    (hy : (b == want) = true → HL c ops Q (⟨dst, op, ty, pos, af, some (j, want)⟩ :: rest) fr hp L) (hn : (b == want) = false → HL c ops Q (⟨dst, op, ty, pos, af, some (j, want)⟩ :: rest) fr hp L) :
    HL c ops Q (⟨dst, op, ty, pos, af, some (j, want)⟩ :: rest) fr hp L := by
  cases hb : (b == want)
  · exact hn hb
  · exact hy hb
theorem hb_split {O0 : Hp} {K : Env → Prop} {r : List Oper} {E : Env} {want b : Bool} {t : Tmp} (hv : lkE E t = some (.ex (.bool b))) (hy : (b == want) = true → HB c ops fr O0 hp L K r E) (hn : (b == want) = false → HB c ops fr O0 hp L K r E) : HB c ops fr O0 hp L K r E := by
  cases hb : (b == want)
  · exact hn hb
  · exact hy hb
theorem c_dec {x : Operand} {p : Prop} [Decidable p] {thn els : Code} (hx : ev fr x = some (.bool (decide p))) (ht : p → HC c thn Q fr hp L) (hf : ¬ p → HC c els Q fr hp L) : HC c (.cond x thn els) Q fr hp L :=
  hc_cond hx (fun h => ht (of_decide_eq_true h)) (fun h => hf (of_decide_eq_false h))
end
theorem m0 {α : Type u} {a  : α} {l : List α} : a ∈ a :: l := .head _
theorem m1 {α : Type u} {a x0 : α} {l : List α} : a ∈ x0 :: a :: l := .tail _ (.head _)
theorem m2 {α : Type u} {a x0 x1 : α} {l : List α} : a ∈ x0 :: x1 :: a :: l := .tail _ (.tail _ (.head _))
theorem m3 {α : Type u} {a x0 x1 x2 : α} {l : List α} : a ∈ x0 :: x1 :: x2 :: a :: l := .tail _ (.tail _ (.tail _ (.head _)))
theorem m4 {α : Type u} {a x0 x1 x2 x3 : α} {l : List α} : a ∈ x0 :: x1 :: x2 :: x3 :: a :: l := .tail _ (.tail _ (.tail _ (.tail _ (.head _))))
theorem m5 {α : Type u} {a x0 x1 x2 x3 x4 : α} {l : List α} : a ∈ x0 :: x1 :: x2 :: x3 :: x4 :: a :: l := .tail _ (.tail _ (.tail _ (.tail _ (.tail _ (.head _)))))
theorem m6 {α : Type u} {a x0 x1 x2 x3 x4 x5 : α} {l : List α} : a ∈ x0 :: x1 :: x2 :: x3 :: x4 :: x5 :: a :: l := .tail _ (.tail _ (.tail _ (.tail _ (.tail _ (.tail _ (.head _))))))
theorem m7 {α : Type u} {a x0 x1 x2 x3 x4 x5 x6 : α} {l : List α} : a ∈ x0 :: x1 :: x2 :: x3 :: x4 :: x5 :: x6 :: a :: l := .tail _ (.tail _ (.tail _ (.tail _ (.tail _ (.tail _ (.tail _ (.head _)))))))
theorem m8 {α : Type u} {a x0 x1 x2 x3 x4 x5 x6 x7 : α} {l : List α} : a ∈ x0 :: x1 :: x2 :: x3 :: x4 :: x5 :: x6 :: x7 :: a :: l := .tail _ (.tail _ (.tail _ (.tail _ (.tail _ (.tail _ (.tail _ (.tail _ (.head _))))))))
theorem m9 {α : Type u} {a x0 x1 x2 x3 x4 x5 x6 x7 x8 : α} {l : List α} : a ∈ x0 :: x1 :: x2 :: x3 :: x4 :: x5 :: x6 :: x7 :: x8 :: a :: l := .tail _ (.tail _ (.tail _ (.tail _ (.tail _ (.tail _ (.tail _ (.tail _ (.tail _ (.head _)))))))))
theorem m10 {α : Type u} {a x0 x1 x2 x3 x4 x5 x6 x7 x8 x9 : α} {l : List α} : a ∈ x0 :: x1 :: x2 :: x3 :: x4 :: x5 :: x6 :: x7 :: x8 :: x9 :: a :: l := .tail _ (.tail _ (.tail _ (.tail _ (.tail _ (.tail _ (.tail _ (.tail _ (.tail _ (.tail _ (.head _))))))))))
theorem m11 {α : Type u} {a x0 x1 x2 x3 x4 x5 x6 x7 x8 x9 x10 : α} {l : List α} : a ∈ x0 :: x1 :: x2 :: x3 :: x4 :: x5 :: x6 :: x7 :: x8 :: x9 :: x10 :: a :: l := .tail _ (.tail _ (.tail _ (.tail _ (.tail _ (.tail _ (.tail _ (.tail _ (.tail _ (.tail _ (.tail _ (.head _)))))))))))
theorem m12 {α : Type u} {a x0 x1 x2 x3 x4 x5 x6 x7 x8 x9 x10 x11 : α} {l : List α} : a ∈ x0 :: x1 :: x2 :: x3 :: x4 :: x5 :: x6 :: x7 :: x8 :: x9 :: x10 :: x11 :: a :: l := .tail _ (.tail _ (.tail _ (.tail _ (.tail _ (.tail _ (.tail _ (.tail _ (.tail _ (.tail _ (.tail _ (.tail _ (.head _))))))))))))
theorem perm3 {α : Type} (a b c : α) (l : List α) : (a :: b :: c :: l).Perm (c :: a :: b :: l) := by
  have h1 : (a :: b :: c :: l).Perm (a :: c :: b :: l) := (List.Perm.swap c b l).cons a; exact h1.trans (.swap c a _)
theorem perm2 {α : Type} (a b : α) (l : List α) : (a :: b :: l).Perm (b :: a :: l) := .swap b a l
theorem perm4 {α : Type} (a b c d : α) (l : List α) : (a :: b :: c :: d :: l).Perm (d :: a :: b :: c :: l) := ((perm3 b c d l).cons a).trans (.swap d a _)
end Go.W
end
section
namespace Go.W
open Go Go.RowKit
section
variable {c : Cx} {Q : Exit → Act → World → Prop} {fr : Fr} {hp : Hp} {L : List Fact} {ops : Array Oper} {rest : List Oper}
variable {d : Tmp} {ty : TypeId} {pos : String} {af : Array Edge}
theorem own_rowF {g : Nat} {cs : Array Value} {t : TypeId} {fz : Nat × Nat} {w : World} (h : w.heap[g]? = some (.cells cs t fz)) {us : List Value} (hu : us <+: cs.toList) : (Row (some ⟨g, 0, none⟩) us).P w := fun j u hj => by
  refine ⟨_, rfl, ?_⟩; rw [add_mk, Nat.zero_add]; obtain ⟨r, hr⟩ := hu
  have : cs[j]? = some u := by
    rw [← Array.getElem?_toList, ← hr, List.getElem?_append]; have hlt : j < us.length := (List.getElem?_eq_some_iff.1 hj).1; rw [if_pos hlt, hj]
  simp [World.cell?, h, this]
theorem rows_bytes (s : Str) : rows s = s.map (fun b => Value.int .u8 b.toNat) := by
  induction s with
  | nil => rfl
  | cons a s ih => rw [rows_cons, ih]; rfl
theorem r_bytes {s t e : TypeId} {x : Operand} {l : Str} (hd : Nat.blt d c.n = true) (hs : c.P.underlying s = some .string) (ht : c.P.underlying t = some (.slice e)) (he : c.P.underlying e = some (.int .u8)) (hx : ev fr x = some (str l))
    (k : ∀ g cap, HL c ops Q rest ((d, .slice (some ⟨g, 0, none⟩) l.length cap) :: fr) hp (Row (some ⟨g, 0, none⟩) (rows l) :: L)) : HL c ops Q (⟨some d, .convert s t x, ty, pos, af, none⟩ :: rest) fr hp L :=
  hl_gen rfl rfl hd fun a w ha hw => by
    have h1 := run_bytes_of_string (P := c.P) w s t e (.mk l.toArray) hs ht he; refine ⟨_, (w.drew.alloc (.cells (bytesRow (.mk l.toArray) (grownCap w (ByteArray.mk l.toArray).size 0 e)) e ((bytesRow (.mk l.toArray) (grownCap w (ByteArray.mk l.toArray).size 0 e)).size, (bytesRow (.mk l.toArray) (grownCap w (ByteArray.mk l.toArray).size 0 e)).size + 1))), hp, _, ?_, ?_, k w.heap.size (grownCap w (ByteArray.mk l.toArray).size 0 e)⟩
    · simp only [execOp, ha.ev hx, str, Sem.run_bind, h1, Result.andThen_ok, Sem.run_pure]
      rfl
    · have h2 := (hw.quiet (ext_drew w)).alloc (.cells (bytesRow (.mk l.toArray) (grownCap w (ByteArray.mk l.toArray).size 0 e)) e ((bytesRow (.mk l.toArray) (grownCap w (ByteArray.mk l.toArray).size 0 e)).size, (bytesRow (.mk l.toArray) (grownCap w (ByteArray.mk l.toArray).size 0 e)).size + 1))
      refine WI.letgo h2 (own_rowF (h2.own (w.heap.size, _) (.head _)) ?_) (fun k hk => by obtain ⟨ad, e', h3, _⟩ := hk; cases e'; exact h3.symm); rw [rows_bytes, bytesRow]
      simp
theorem r_loadA {t e : TypeId} {x : Operand} {g : Nat} {cs : Array Value} {fz : Nat × Nat} {n : Nat} (hd : Nat.blt d c.n = true) (ht' : IsR c.P t) (hz' : Sz c.P t n) (hx : ev fr x = some (.pointer (some ⟨g, 0, none⟩))) (h : (g, Obj.cells cs e fz) ∈ hp) (hn : cs.size = n)
    (k : HL c ops Q rest ((d, .agg cs) :: fr) hp L) : HL c ops Q (⟨some d, .load t x, ty, pos, af, none⟩ :: rest) fr hp L :=
  r_loadS (cs := cs.toList) hd ht' hz' hx (by simpa using hn) (cells_own h (fun i u hu => by simpa using hu)) k
end
end Go.W
end
section
namespace Go.W
open Go Go.RowKit
abbrev Ment (κ : Type) := κ × Value × Nat
def entOf {κ : Type} (enc : κ → Value) (p : Ment κ) : MapEntry := ⟨enc p.1, p.2.1, p.2.2⟩
def mapO {κ : Type} (enc : κ → Value) (l : List (Ment κ)) (clk : Nat) : Obj := .map (l.map (entOf enc)).toArray clk
def findM {κ : Type} [DecidableEq κ] (k : κ) : List (Ment κ) → Nat → Option (Nat × Value)
  | [], _ => none
  | p :: l, i => if p.1 = k then some (i, p.2.1) else findM k l (i + 1)
def getM {κ : Type} [DecidableEq κ] (l : List (Ment κ)) (k : κ) : Option Value := (findM k l 0).map (·.2)
def putM {κ : Type} [DecidableEq κ] (l : List (Ment κ)) (k : κ) (v : Value) (clk : Nat) : List (Ment κ) :=
  match findM k l 0 with
  | some (i, _) => l.modify i fun p => (k, v, p.2.2)
  | none => l ++ [(k, v, clk)]
def clkM {κ : Type} [DecidableEq κ] (l : List (Ment κ)) (k : κ) (clk : Nat) : Nat := if (findM k l 0).isSome then clk else clk + 1
structure KeyC (P : Program) (kt : TypeId) {κ : Type} [DecidableEq κ] (enc : κ → Value) : Prop where
  chk : ∀ b k w, (Instr.checkKey b 10000 kt (enc k)).run P w = .ok () w
  find : ∀ k l w, (Instr.findKey kt (enc k) (l.map (entOf enc))).run P w = .ok (findM k l 0) w
  stays : ∀ k w, (Instr.keyThatStays (enc k) (enc k)).run P w = .ok (enc k) w
theorem findNow_int (k : Int) : ∀ (l : List (Ment Int)) (i : Nat), Instr.findNow (.int .i64) (int k) (l.map (entOf int)) i = some (findM k l i)
  | [], i => rfl
  | p :: l, i => by
    rw [List.map_cons, Instr.findNow]; simp only [Instr.sameNow, entOf, findM]
    by_cases h : p.1 = k
    · simp [h]
    · have h' : ¬ k = p.1 := fun e => h e.symm
      simp only [if_true, h, if_false, beq_eq_false_iff_ne.2 h']; exact findNow_int k l (i + 1)
theorem findNow_str (k : Str) : ∀ (l : List (Ment Str)) (i : Nat), Instr.findNow .string (str k) (l.map (entOf str)) i = some (findM k l i)
  | [], i => rfl
  | p :: l, i => by
    rw [List.map_cons, Instr.findNow]; simp only [str, Instr.sameNow, entOf, findM]
    have hb : ((ByteArray.mk k.toArray) == ByteArray.mk p.1.toArray) = decide (p.1 = k) := by
      rw [Bool.eq_iff_iff, MapKept.bytes_beq, decide_eq_true_iff]
      constructor
      · intro e
        injection e with e
        have := congrArg Array.toList e
        simpa using this.symm
      · intro e; rw [e]
    rw [hb]
    by_cases h : p.1 = k
    · simp [h]
    · simp only [h, decide_false, if_false]
      exact findNow_str k l (i + 1)
theorem KeyC.int {P : Program} {kt : TypeId} (h : P.underlying kt = some (.int .i64)) : KeyC P kt W.int where
  chk b k w := MapKept.run_checkKey h (by simp [MapKept.IsKey]) b 9999
  find k l w := MapKept.run_findKey h (findNow_int k l 0)
  stays k w := MapKept.run_keyThatStays (d := .int .i64) (by simp [MapKept.IsKey])
theorem KeyC.str {P : Program} {kt : TypeId} (h : P.underlying kt = some .string) : KeyC P kt W.str where
  chk b k w := MapKept.run_checkKey h (by simp [MapKept.IsKey, W.str]) b 9999
  find k l w := MapKept.run_findKey h (findNow_str k l 0)
  stays k w := MapKept.run_keyThatStays (d := .string) (by simp [MapKept.IsKey, W.str])
def pair (p : Int × Int) : Value := .agg #[W.int p.1, W.int p.2]
theorem part_int {P : Program} {e : TypeId} (he : P.underlying e = some (.int .i64)) (cs : Array Value) (i : Nat) (v : Value) (hv : cs[i]? = some v) (w : World) : (part e cs i).run P w = .ok v w := by
  have hagg : (isAgg e).run P w = .ok false w := by
    unfold isAgg; rw [Sem.run_bind, run_underlying he w]
    rfl
  simp [part, Sem.run_bind, hagg, hv]
theorem eq_int {P : Program} {e : TypeId} (he : P.underlying e = some (.int .i64)) (d : Nat) (a b : Int) (w : World) : (Op.equalIn (d + 1) e (W.int a) (W.int b)).run P w = .ok (a == b) w := by
  simp [Op.equalIn, run_underlying he]
theorem eq_pair {P : Program} {kt e : TypeId} (h : P.underlying kt = some (.array 2 e)) (he : P.underlying e = some (.int .i64)) (hz : Sz P e 1) (p q : Int × Int) (w : World) : (Op.equal kt (pair p) (pair q)).run P w = .ok (decide (p = q)) w := by
  have hs := size_of hz w
  have key : ∀ d, (Op.equalIn (d + 2) kt (pair p) (pair q)).run P w = .ok (decide (p = q)) w := by
    intro d; obtain ⟨a, b⟩ := p; obtain ⟨a', b'⟩ := q; have p0 := part_int he #[W.int a, W.int b] 0 (W.int a) rfl w; have p1 := part_int he #[W.int a, W.int b] 1 (W.int b) rfl w; have q0 := part_int he #[W.int a', W.int b'] 0 (W.int a') rfl w; have q1 := part_int he #[W.int a', W.int b'] 1 (W.int b') rfl w; unfold Op.equalIn; simp only [Sem.run_bind, run_underlying h, pair, hs, Result.andThen_ok, Std.Legacy.Range.forIn_eq_forIn_range', Std.Legacy.Range.size, Nat.sub_zero, Nat.reduceAdd, Nat.reduceSub, Nat.reduceDiv, List.range', List.forIn_cons, List.forIn_nil, Nat.zero_mul, Nat.mul_one, Nat.zero_add, p0, p1, q0, q1, eq_int he d]
    by_cases h1 : a = a'
    · subst h1
      by_cases h2 : b = b'
      · subst h2; simp [p1, eq_int he d]
      · simp [h2, p1, q1, eq_int he d]
    · simp [h1]
  exact key 9998
theorem findA_pair {P : Program} {kt e : TypeId} (h : P.underlying kt = some (.array 2 e)) (he : P.underlying e = some (.int .i64)) (hz : Sz P e 1) (k : Int × Int) (w : World) : ∀ (l : List (Ment (Int × Int))) (i : Nat), (Instr.findAsking kt (pair k) (l.map (entOf pair)) i).run P w = .ok (findM k l i) w
  | [], i => rfl
  | p :: l, i => by
    rw [List.map_cons, Instr.findAsking]; simp only [Sem.run_bind, entOf, eq_pair h he hz, Result.andThen_ok, findM]
    by_cases hk : p.1 = k
    · simp [hk]
    · have h' : ¬ k = p.1 := fun e => hk e.symm
      simp only [hk, h', decide_false, Bool.false_eq_true, if_false]; exact findA_pair h he hz k w l (i + 1)
theorem KeyC.pair {P : Program} {kt e : TypeId} (h : P.underlying kt = some (.array 2 e)) (he : P.underlying e = some (.int .i64)) (hz : Sz P e 1) : KeyC P kt W.pair where
  chk b k w := by
    have hs := size_of hz w; have p0 := part_int he #[W.int k.1, W.int k.2] 0 (W.int k.1) rfl w; have p1 := part_int he #[W.int k.1, W.int k.2] 1 (W.int k.2) rfl w; have c : ∀ (n : Int), (Instr.checkKey b 9999 e (W.int n)).run P w = .ok () w := fun n => MapKept.run_checkKey he (by simp [MapKept.IsKey]) b 9998; unfold Instr.checkKey
    simp [run_underlying h, W.pair, hs, Std.Legacy.Range.forIn_eq_forIn_range', List.range', p0, p1, c]
  find k l w := by
    unfold Instr.findKey; simp only [Sem.run_bind, run_underlying h, Result.andThen_ok]
    have : Instr.findNow (.array 2 e) (W.pair k) (l.map (entOf W.pair)) 0 = none ∨ (l = [] ∧ Instr.findNow (.array 2 e) (W.pair k) (l.map (entOf W.pair)) 0 = some none) := by
      cases l with
      | nil => exact .inr ⟨rfl, rfl⟩
      | cons p l => exact .inl rfl
    rcases this with h1 | ⟨rfl, h1⟩
    · rw [h1]
      exact findA_pair h he hz k w l 0
    · rw [h1]; rfl
  stays k w := by
    obtain ⟨a, b⟩ := k
    have : Instr.sameBits 10000 (W.pair (a, b)) (W.pair (a, b)) = true := by
      simp [Instr.sameBits, W.pair]
    unfold Instr.keyThatStays; rw [if_pos this]
    rfl
/-! ### Cuts aS9 facts; perms -/
theorem perm_of {α : Type} {l l' : List α} (h : ∀ p : α → Bool, l.countP p = l'.countP p) : l.Perm l' := by
  classical
  refine List.perm_iff_count.2 fun a => ?_
  simpa [List.count] using h (· == a)
theorem pm1 {α : Type} (l : List α) (a b c : α) : (a :: b :: (l ++ [c])).Perm (l ++ [a, b, c]) := perm_of fun p => by simp only [List.countP_append, List.countP_cons, List.countP_nil]; omega
theorem pm2 {α : Type} (l : List α) (a b c : α) : (l ++ [a, b, c]).Perm (b :: (l ++ [a, c])) := perm_of fun p => by simp only [List.countP_append, List.countP_cons, List.countP_nil]; omega
theorem pm3 {α : Type} (l : List α) (a b c : α) : (a :: (l ++ [b, c])).Perm (l ++ [a, b, c]) := perm_of fun p => by simp only [List.countP_append, List.countP_cons, List.countP_nil]; omega
theorem pm4 {α : Type} (l : List α) (a b c : α) : (l ++ [a, b, c]).Perm (a :: (l ++ [b, c])) := (pm3 l a b c).symm
theorem pm5 {α : Type} (l : List α) (a b c : α) : (a :: (l ++ [b, c])).Perm (b :: c :: a :: l) := perm_of fun p => by simp only [List.countP_append, List.countP_cons, List.countP_nil]; omega
theorem pm6 {α : Type} (l : List α) (a b c : α) : (b :: c :: a :: l).Perm ((a :: l) ++ [b, c]) := perm_of fun p => by simp only [List.countP_append, List.countP_cons, List.countP_nil]; omega
theorem pm7 {α : Type} (l : List α) (a b : α) : (a :: (l ++ [b])).Perm (l ++ [a, b]) := perm_of fun p => by simp only [List.countP_append, List.countP_cons, List.countP_nil]; omega
theorem cut_rows {α : Type} [El α] {A : Option Addr} {p : List α} {ca lo hi : Nat} {w : World} (h : (Row A (rows p)).P w) (hc : p.length ≤ ca) : (Row (cutA A ca lo (El.sz α)) (rows ((p.take hi).drop lo))).P w := by
  refine cut_row h (fun j u hj => ?_) (fun hne => ?_)
  · rw [← rows_drop, ← rows_take, List.getElem?_drop, List.getElem?_take] at hj
    split at hj
    · exact hj
    · cases hj
  · rcases Nat.lt_or_ge lo p.length with h | h
    · omega
    · have : (p.take hi).drop lo = [] := List.drop_eq_nil_of_le (by rw [List.length_take]; omega)
      rw [this] at hne; exact absurd rfl hne
theorem wi_cut {α : Type} [El α] {b : Bx} {hp : Hp} {L : List Fact} {A : Option Addr} {p : List α} {ca : Nat} {w : World} (lo hi : Nat) (h : Row A (rows p) ∈ L) (hc : p.length ≤ ca) (hw : WI b w hp L) : WI b w hp (Row (cutA A ca lo (El.sz α)) (rows ((p.take hi).drop lo)) :: L) :=
  wi_more hw (cut_rows (hw.fs _ h) hc) (fun k hk => ⟨_, h, by
    obtain ⟨ad, e, hb⟩ := cut_fp hk; refine ⟨ad, e, hb, ?_⟩; obtain ⟨_, _, _, hne⟩ := hk; rintro h0
    apply hne
    rw [← rows_drop, ← rows_take, h0]
    simp⟩)
section
variable {c : Cx} {Q : Exit → Act → World → Prop} {fr : Fr} {hp : Hp} {L : List Fact} {ops : Array Oper} {rest : List Oper}
theorem hq_grown0 {e : TypeId} {sz n cap : Nat} {A : Option Addr} {xs : List Value} {og : Hp} {x : Exit} (hG : Grow e sz A n cap xs og) (k : HQ c Q x fr [] (Row A xs :: L)) : HQ c Q x fr og L := fun a w ha hw => k a w ha (wi_grown hG (by simpa using hw))
theorem hl_cut {α : Type} [El α] {A : Option Addr} {p : List α} {ca : Nat} (lo hi : Nat) (h : Row A (rows p) ∈ L) (hc : p.length ≤ ca) (k : HL c ops Q rest fr hp (Row (cutA A ca lo (El.sz α)) (rows ((p.take hi).drop lo)) :: L)) : HL c ops Q rest fr hp L :=
  fun a w ha hw => k a w ha (wi_cut lo hi h hc hw)
theorem hq_cut {α : Type} [El α] {A : Option Addr} {p : List α} {ca : Nat} {x : Exit} (lo hi : Nat) (h : Row A (rows p) ∈ L) (hc : p.length ≤ ca) (k : HQ c Q x fr hp (Row (cutA A ca lo (El.sz α)) (rows ((p.take hi).drop lo)) :: L)) : HQ c Q x fr hp L :=
  fun a w ha hw => k a w ha (wi_cut lo hi h hc hw)
end
/-! ### The rules -/
def MapAt (b : Bx) (hp : Hp) (L : List Fact) (g : Nat) (o : Obj) : Prop := ∀ w, WI b w hp L → w.heap[g]? = some o
section
variable {κ : Type} [DecidableEq κ] {enc : κ → Value} {kt e : TypeId}
theorem map_own {b : Bx} {hp : Hp} {L : List Fact} {g : Nat} {o : Obj} (h : (g, o) ∈ hp) : MapAt b hp L g o := fun w hw => hw.own _ h
variable {c : Cx} {Q : Exit → Act → World → Prop} {fr : Fr} {hp : Hp} {L : List Fact} {ops : Array Oper} {rest : List Oper}
variable {d : Tmp} {ty : TypeId} {pos : String} {af : Array Edge}
theorem run_lookup_map {P : Program} {t : TypeId} (K : KeyC P kt enc) (ht : P.underlying t = some (.map kt e)) {g : Nat} {l : List (Ment κ)} {clk : Nat} {k : κ} {w : World} (hb : w.heap[g]? = some (mapO enc l clk)) (ok : Bool) :
    ((getM l k).isSome = true → (Instr.lookup t (.map (some g)) (enc k) ok).run P w = .ok (if ok then .tuple #[(getM l k).getD undef, .bool true] else (getM l k).getD undef) w) ∧
    ∀ z, (zeroValue e).run P w = .ok z w → getM l k = none → (Instr.lookup t (.map (some g)) (enc k) ok).run P w = .ok (if ok then .tuple #[z, .bool false] else z) w := by
  have hf := K.find k l w; have hc := fun b => K.chk b k w; unfold getM
  cases hr : findM k l 0 with
  | none =>
    rw [hr] at hf; refine ⟨fun h => by simp at h, fun z hz _ => ?_⟩
    simp [Instr.lookup, run_underlying ht, MapKept.run_getObj_map (show w.heap[g]? = some (.map _ _) from hb), hc, hf, hz]
  | some p =>
    obtain ⟨i, v⟩ := p; rw [hr] at hf; refine ⟨fun _ => ?_, fun z hz h => by simp at h⟩
    simp [Instr.lookup, run_underlying ht, MapKept.run_getObj_map (show w.heap[g]? = some (.map _ _) from hb), hc, hf]
theorem r_look {t : TypeId} {x y : Operand} {g : Nat} {l : List (Ment κ)} {clk : Nat} {k : κ} {v : Value} (K : KeyC c.P kt enc) (hd : Nat.blt d c.n = true) (ht : c.P.underlying t = some (.map kt e)) (hx : ev fr x = some (.map (some g))) (hy : ev fr y = some (enc k)) (hm : MapAt c.b hp L g (mapO enc l clk))
    (hv : getM l k = some v) (kk : HL c ops Q rest ((d, v) :: fr) hp L) : HL c ops Q (⟨some d, .lookup t x y false, ty, pos, af, none⟩ :: rest) fr hp L :=
  hl_val _ rfl rfl hd (fun a w ha hw => by
    have := (run_lookup_map (k := k) K ht (hm w hw) false).1 (by simp [hv]); simp only [hv, Option.getD_some, Bool.false_eq_true, if_false] at this
    simp only [execOp, ha.ev hx, ha.ev hy, Sem.run_bind, this, Result.andThen_ok, Sem.run_pure]) kk
theorem r_look0 {t : TypeId} {x y : Operand} {g : Nat} {l : List (Ment κ)} {clk : Nat} {k : κ} {z : Value} (K : KeyC c.P kt enc) (hd : Nat.blt d c.n = true) (ht : c.P.underlying t = some (.map kt e)) (hx : ev fr x = some (.map (some g))) (hy : ev fr y = some (enc k)) (hm : MapAt c.b hp L g (mapO enc l clk))
    (hz : ∀ w, (zeroValue e).run c.P w = .ok z w) (hv : getM l k = none) (kk : HL c ops Q rest ((d, z) :: fr) hp L) : HL c ops Q (⟨some d, .lookup t x y false, ty, pos, af, none⟩ :: rest) fr hp L :=
  hl_val _ rfl rfl hd (fun a w ha hw => by
    have := (run_lookup_map (k := k) K ht (hm w hw) false).2 z (hz w) hv; simp only [Bool.false_eq_true, if_false] at this
    simp only [execOp, ha.ev hx, ha.ev hy, Sem.run_bind, this, Result.andThen_ok, Sem.run_pure]) kk
theorem r_lookOk {t : TypeId} {x y : Operand} {g : Nat} {l : List (Ment κ)} {clk : Nat} {k : κ} {v : Value} (K : KeyC c.P kt enc) (hd : Nat.blt d c.n = true) (ht : c.P.underlying t = some (.map kt e)) (hx : ev fr x = some (.map (some g))) (hy : ev fr y = some (enc k)) (hm : MapAt c.b hp L g (mapO enc l clk))
    (hv : getM l k = some v) (kk : HL c ops Q rest ((d, .tuple #[v, .bool true]) :: fr) hp L) : HL c ops Q (⟨some d, .lookup t x y true, ty, pos, af, none⟩ :: rest) fr hp L :=
  hl_val _ rfl rfl hd (fun a w ha hw => by
    have := (run_lookup_map (k := k) K ht (hm w hw) true).1 (by simp [hv]); simp only [hv, Option.getD_some, if_true] at this
    simp only [execOp, ha.ev hx, ha.ev hy, Sem.run_bind, this, Result.andThen_ok, Sem.run_pure]) kk
theorem r_look0Ok {t : TypeId} {x y : Operand} {g : Nat} {l : List (Ment κ)} {clk : Nat} {k : κ} {z : Value} (K : KeyC c.P kt enc) (hd : Nat.blt d c.n = true) (ht : c.P.underlying t = some (.map kt e)) (hx : ev fr x = some (.map (some g))) (hy : ev fr y = some (enc k)) (hm : MapAt c.b hp L g (mapO enc l clk))
    (hz : ∀ w, (zeroValue e).run c.P w = .ok z w) (hv : getM l k = none) (kk : HL c ops Q rest ((d, .tuple #[z, .bool false]) :: fr) hp L) : HL c ops Q (⟨some d, .lookup t x y true, ty, pos, af, none⟩ :: rest) fr hp L :=
  hl_val _ rfl rfl hd (fun a w ha hw => by
    have := (run_lookup_map (k := k) K ht (hm w hw) true).2 z (hz w) hv; simp only [if_true] at this
    simp only [execOp, ha.ev hx, ha.ev hy, Sem.run_bind, this, Result.andThen_ok, Sem.run_pure]) kk
theorem findM_at {k : κ} : ∀ (l : List (Ment κ)) (i j : Nat) (v : Value), findM k l i = some (j, v) → ∃ m p, j = i + m ∧ l[m]? = some p ∧ p.1 = k ∧ p.2.1 = v
  | [], i, j, v, h => by simp [findM] at h
  | p :: l, i, j, v, h => by
    rw [findM] at h
    split at h
    · rename_i e
      simp only [Option.some.injEq, Prod.mk.injEq] at h; exact ⟨0, p, by omega, rfl, e, h.2⟩
    · obtain ⟨m, q, h1, h2, h3⟩ := findM_at l (i + 1) j v h
      exact ⟨m + 1, q, by omega, by simpa using h2, h3⟩
omit [DecidableEq κ] in
theorem map_modify_ent {l : List (Ment κ)} {i : Nat} {k : κ} {v : Value} {p : Ment κ} (hp : l[i]? = some p) :
    ((l.map (entOf enc)).toArray.modify i fun x => { x with key := enc k, val := v }) = ((l.modify i fun p => (k, v, p.2.2)).map (entOf enc)).toArray := by
  apply Array.ext'
  simp only [Array.toList_modify]
  apply List.ext_getElem?
  intro n; simp only [List.getElem?_modify, List.getElem?_map]
  split
  · cases hl : l[n]? <;> simp [entOf]
  · simp
theorem r_insert {t : TypeId} {x y z : Operand} {g : Nat} {l : List (Ment κ)} {clk : Nat} {k : κ} {v : Value} {hp' : Hp} {o : Op} (K : KeyC c.P kt enc) (ho : o = .mapUpdate t x y z ∨ o = .insert t x y z) (ht : c.P.underlying t = some (.map kt e)) (hx : ev fr x = some (.map (some g))) (hy : ev fr y = some (enc k)) (hz : ev fr z = some v)
    (hpp : hp.Perm ((g, mapO enc l clk) :: hp')) (kk : HL c ops Q rest fr ((g, mapO enc (putM l k v clk) (clkM l k clk)) :: hp') L) : HL c ops Q (⟨none, o, ty, pos, af, none⟩ :: rest) fr hp L :=
  hl_unit rfl rfl fun a w ha hw => by
    have hw' := hw.perm hpp; have hg := hw'.own (g, mapO enc l clk) (by simp); have hg' : w.heap[g]? = some (.map (l.map (entOf enc)).toArray clk) := hg; have hf := K.find k l w
    have hrun : (Instr.mapUpdate t (.map (some g)) (enc k) v).run c.P w = .ok () { w with heap := w.heap.setIfInBounds g (mapO enc (putM l k v clk) (clkM l k clk)) } := by
      unfold putM clkM
      cases hr : findM k l 0 with
      | none =>
        rw [hr] at hf; simp only [Instr.mapUpdate, Sem.run_bind, run_underlying ht, Result.andThen_ok, MapKept.run_getObj_map hg', K.chk, hf, MapKept.run_setObj_map _ hg']
        have : ((l.map (entOf enc)).toArray.push { key := enc k, val := v, born := clk }) = ((l ++ [(k, v, clk)]).map (entOf enc)).toArray := by
          apply Array.ext'; simp [entOf]
        rw [this]
        rfl
      | some p =>
        obtain ⟨i, u⟩ := p; rw [hr] at hf; obtain ⟨m, q, h1, h2, h3, h4⟩ := findM_at l 0 i u hr; have e1 : i = m := by omega
        subst e1
        have e2 : (((l.map (entOf enc)).toArray[i]?).map (·.key)).getD (enc k) = enc k := by
          simp [h2, entOf, h3]
        simp only [Instr.mapUpdate, Sem.run_bind, run_underlying ht, Result.andThen_ok, MapKept.run_getObj_map hg', K.chk, hf, e2, K.stays, MapKept.run_setObj_map _ hg', map_modify_ent h2]
        rfl
    refine ⟨{ w with heap := w.heap.setIfInBounds g (mapO enc (putM l k v clk) (clkM l k clk)) }, _, L, ?_, hw'.write (o' := mapO enc (putM l k v clk) (clkM l k clk)) ⟨rfl, rfl, rfl, by simp, fun j hj hn => by simp only [List.mem_singleton] at hn; simp [Array.getElem?_setIfInBounds_ne (Ne.symm hn)], Nat.le_refl _⟩ ?_, kk⟩
    · rcases ho with rfl | rfl <;> simp only [execOp, ha.ev hx, ha.ev hy, ha.ev hz, Sem.run_bind, hrun, Result.andThen_ok, Sem.run_pure]
    · have := lt_of_own hg
      simp only at this
      simp [this]
omit [DecidableEq κ] in
theorem r_makeMapM (enc : κ → Value) {t : TypeId} (hd : Nat.blt d c.n = true) (k : ∀ g, HL c ops Q rest ((d, .map (some g)) :: fr) ((g, mapO enc [] 0) :: hp) L) : HL c ops Q (⟨some d, .makeMap t none, ty, pos, af, none⟩ :: rest) fr hp L :=
  r_makeMap hd k
theorem findM_succ {k : κ} : ∀ (l : List (Ment κ)) (i : Nat), findM k l (i + 1) = (findM k l i).map fun p => (p.1 + 1, p.2)
  | [], i => rfl
  | p :: l, i => by
    simp only [findM]
    split
    · rfl
    · exact findM_succ l (i + 1)
theorem getM_cons (p : Ment κ) (l : List (Ment κ)) (k : κ) : getM (p :: l) k = if p.1 = k then some p.2.1 else getM l k := by
  unfold getM; simp only [findM]
  split
  · rfl
  · rw [findM_succ]; cases findM k l 0 <;> rfl
theorem getM_put (l : List (Ment κ)) (k k' : κ) (v : Value) (clk : Nat) : getM (putM l k v clk) k' = if k = k' then some v else getM l k' := by
  induction l with
  | nil => simp [putM, findM, getM_cons, getM]
  | cons p l ih =>
    by_cases h : p.1 = k
    · have : putM (p :: l) k v clk = (k, v, p.2.2) :: l := by simp [putM, findM, h]
      rw [this, getM_cons, getM_cons]; simp only [h]
      split <;> rfl
    · have : putM (p :: l) k v clk = p :: putM l k v clk := by
        simp only [putM, findM, h, if_false]; rw [findM_succ]
        cases hf : findM k l 0 with
        | none => simp
        | some q => simp
      rw [this, getM_cons, ih, getM_cons]
      split
      · rename_i e
        rw [if_neg (fun e' => h (e.trans e'.symm))]
      · rfl
end
end Go.W
end
section
namespace Go.W
open Go Go.RowKit
section
variable {c : Cx} {fr : Fr} {hp : Hp} {L : List Fact}
theorem ret_row {β : Type} {k : Con β} {fn : Func} {w0 : World} (x : β) {t : Tmp} {ty e : TypeId} {g n : Nat} {cs : Array Value} {fz : Nat × Nat} (hres : fn.results = #[.cell t ty]) (hv : lk fr t = some (.pointer (some ⟨g, 0, none⟩))) (ht : IsR c.P ty) (hz : Sz c.P ty n) (hn : cs.size = n)
    (hm : (g, Obj.cells cs e fz) ∈ hp) (hk : k.val x = .agg cs) (hb : c.b = k.entry w0) (hi : k.inv x) (h2 : (k.hpO x).Sublist hp) (h3 : LSub L (k.LO x)) (hD : c.D = [] := by rfl) : HQ c (bodyPost c.P fn (k.post w0)) .ret fr hp L :=
  ret_run x (fun a w ha hw => by
    obtain ⟨dd, ht, hr⟩ := ht; have h1 := hw.own _ hm; simp only at h1
    have hl : (loadVar ty ⟨g, 0, none⟩).run c.P w = .ok (.agg cs) w := by
      have hagg : (isAgg ty).run c.P w = .ok true w := by
        unfold isAgg; rw [Sem.run_bind, run_underlying ht w]
        cases dd <;> simp_all [TypeDesc.isRow]
      have hc := run_loadCells_list (P := c.P) w ⟨g, 0, none⟩ cs.toList (fun j u hu => by rw [add_mk, Nat.zero_add]; simp at hu; simp [World.cell?, h1, hu]); have hs := size_of hz w; simp only [loadVar, Sem.run_bind, hagg, Result.andThen_ok, if_true, hs, ← hn]; have e : cs.size = cs.toList.length := by simp
      rw [e, hc]
      simp
    have hv' := ha.at_ _ _ hv; rw [hk]; unfold results; rw [hres]; have hv2 : a.tmps[t]?.getD undef = .pointer (some ⟨g, 0, none⟩) := by simpa using hv'
    simp [hv2, asAddr, hl]) hb hi h2 h3 hD
theorem ret_row_tmp {β : Type} {k : Con β} {fn : Func} {w0 : World} (x : β) {t u : Tmp} {ty e : TypeId} {g n : Nat} {cs : Array Value} {fz : Nat × Nat} {v2 : Value} (hres : fn.results = #[.cell t ty, .tmp u]) (hv : lk fr t = some (.pointer (some ⟨g, 0, none⟩))) (hv2 : lk fr u = some v2) (ht : IsR c.P ty) (hz : Sz c.P ty n) (hn : cs.size = n)
    (hm : (g, Obj.cells cs e fz) ∈ hp) (hk : k.val x = .tuple #[.agg cs, v2]) (hb : c.b = k.entry w0) (hi : k.inv x) (h2 : (k.hpO x).Sublist hp) (h3 : LSub L (k.LO x)) (hD : c.D = [] := by rfl) : HQ c (bodyPost c.P fn (k.post w0)) .ret fr hp L :=
  ret_run x (fun a w ha hw => by
    obtain ⟨dd, ht, hr⟩ := ht; have h1 := hw.own _ hm; simp only at h1
    have hl : (loadVar ty ⟨g, 0, none⟩).run c.P w = .ok (.agg cs) w := by
      have hagg : (isAgg ty).run c.P w = .ok true w := by
        unfold isAgg; rw [Sem.run_bind, run_underlying ht w]
        cases dd <;> simp_all [TypeDesc.isRow]
      have hc := run_loadCells_list (P := c.P) w ⟨g, 0, none⟩ cs.toList (fun j u hu => by rw [add_mk, Nat.zero_add]; simp at hu; simp [World.cell?, h1, hu]); have hs := size_of hz w; simp only [loadVar, Sem.run_bind, hagg, Result.andThen_ok, if_true, hs, ← hn]; have e : cs.size = cs.toList.length := by simp
      rw [e, hc]
      simp
    have hv' := ha.at_ _ _ hv; have hv2' := ha.at_ _ _ hv2; rw [hk]; unfold results; rw [hres]; have h5 : a.tmps[t]?.getD undef = .pointer (some ⟨g, 0, none⟩) := by simpa using hv'
    have h6 : a.tmps[u]?.getD undef = v2 := by simpa using hv2'
    simp [h5, h6, asAddr, hl]) hb hi h2 h3 hD
end
section
variable {c : Cx} {Q : Exit → Act → World → Prop} {fr : Fr} {hp : Hp} {L : List Fact} {ops : Array Oper} {rest : List Oper}
variable {d : Tmp} {ty : TypeId} {pos : String} {af : Array Edge}
theorem r_loadB {t e : TypeId} {x : Operand} {g : Nat} {cs : Array Value} {fz : Nat × Nat} {n : Nat} (hd : Nat.blt d c.n = true) (ht' : IsR c.P t) (hz' : Sz c.P t n) (hx : ev fr x = some (.pointer (some ⟨g, 0, none⟩))) (h : Blk g (Obj.cells cs e fz) ∈ L) (hn : cs.size = n)
    (k : HL c ops Q rest ((d, .agg cs) :: fr) hp L) : HL c ops Q (⟨some d, .load t x, ty, pos, af, none⟩ :: rest) fr hp L :=
  r_loadS (cs := cs.toList) hd ht' hz' hx (by simpa using hn) (cells_blk h (fun i u hu => by simpa using hu)) k
theorem r_append_full {t e : TypeId} {x y : Operand} {sz bytes n m cp : Nat} {A B : Option Addr} {olds news : List Value} (n' : Nat) (xs' : List Value) (el : ElT c.P t e sz bytes) (hd : Nat.blt d c.n = true)
    (hx : ev fr x = some (.slice A n n)) (hy : ev fr y = some (.slice B m cp)) (hA : Row A olds ∈ L) (hlo : olds.length = n * sz) (hs : Src c.b hp L B m sz news) (hn' : n + m = n') (hxs : olds ++ news = xs') (hn : n' ≤ maxLen) (hby : n' * bytes ≤ 140737488355328)
    (k : ∀ A' cap', n' ≤ cap' → HL c ops Q rest ((d, .slice A' n' cap') :: fr) hp (Row A' xs' :: L)) :
    HL c ops Q (⟨some d, .call ⟨.builtin .append, #[x, y], #[t, t]⟩, ty, pos, af, none⟩ :: rest) fr hp L :=
  hl_gen rfl rfl hd fun a w ha hw => by
    subst hn'; subst hxs; obtain ⟨i, z, hi, hz, hsz, hb, hzs⟩ := el.i; have hrow := hw.fs _ hA
    have hgs : Go.Src c.P i.size t (.slice B m cp) m news w := by
      rcases hs.2.2 with ⟨rfl, rfl⟩ | h
      · have : news = [] := List.eq_nil_of_length_eq_zero (by simpa using hs.1)
        subst this; exact Go.Src.ofNil w el.u cp
      · obtain ⟨ad, rfl, hc⟩ := h w hw
        exact Go.Src.ofSlice w el.u ad m cp news (by rw [hsz]; exact hs.1) hc hs.2.1
    by_cases hm : m = 0
    · subst hm
      have : news = [] := List.eq_nil_of_length_eq_zero (by simpa using hs.1); subst this; refine ⟨.slice A n n, w, hp, Row A (olds ++ []) :: L, ?_, hw.weak (.refl _) ?_ |>.add (by simpa using hrow) (fun p hp => by simpa using hw.ap _ hA p hp) (fun k hk => hw.al _ hA k (by simpa using hk)), k A n (Nat.le_refl _)⟩
      · have := run_append_nothing w t t ty e i el.u hi A n n (Nat.le_refl _) (.slice B 0 cp) hgs
        simp only [execOp, resolve, invoke, builtin, Sem.run_bind, Sem.run_pure, Result.andThen_ok, List.map_toArray, List.map_cons, List.map_nil, ha.ev hx, ha.ev hy, this]
      · exact fun _ h => h
    · have hold : (Builtin.firstCells i.size n (.slice A n n)).run c.P w.drew = .ok olds.toArray w.drew := by
        cases A with
        | none =>
          have : olds = [] := by
            cases olds with
            | nil => rfl
            | cons u r => obtain ⟨ad, e, _⟩ := hrow 0 u rfl; cases e
          subst this
          have hn0 : n = 0 := by
            have := el.pos; simp only [List.length_nil] at hlo
            rcases Nat.eq_zero_or_pos n with h | h
            · exact h
            · have := Nat.mul_pos h this; omega
          subst hn0; exact run_firstCells_none _ _ _ _ _
        | some ad => exact run_firstCells_some _ _ _ _ _ _ olds (by rw [hsz]; exact hlo) (fun j u hu => by
            obtain ⟨ad', e, hc⟩ := hrow j u hu
            cases e
            simpa using hc)
      have hrun := run_append_grow_src w t t ty e i z el.u hi hz A n n olds hold (.slice B m cp) m news hgs (by omega) (by unfold maxLen at hn; omega) (growslice_fits (by omega) (by rw [hb]; exact hby)); have h2 := (hw.quiet (ext_drew w)).alloc (.cells ((olds ++ news).toArray ++ Builtin.zeroCells z.cells (grownCap w (n + m) n e - (n + m))) e (0, 0)); refine ⟨_, w.drew.alloc (.cells ((olds ++ news).toArray ++ Builtin.zeroCells z.cells (grownCap w (n + m) n e - (n + m))) e), hp, Row (some ⟨w.heap.size, 0, none⟩) (olds ++ news) :: L, ?_, wi_letgo h2 ?_, k (some ⟨w.heap.size, 0, none⟩) (grownCap w (n + m) n e) (grownCap_ge w (n + m) n e)⟩
      · simp only [execOp, resolve, invoke, builtin, Sem.run_bind, Sem.run_pure, Result.andThen_ok, List.map_toArray, List.map_cons, List.map_nil, ha.ev hx, ha.ev hy, hrun]
      · exact ⟨(Builtin.zeroCells z.cells (grownCap w (n + m) n e - (n + m))).toList, by simp⟩
end
section
variable {κ : Type} [DecidableEq κ] {enc : κ → Value} {kt e : TypeId}
variable {c : Cx} {Q : Exit → Act → World → Prop} {fr : Fr} {hp : Hp} {L : List Fact} {ops : Array Oper} {rest : List Oper}
variable {d : Tmp} {ty : TypeId} {pos : String} {af : Array Edge}
theorem r_lookOkG {t : TypeId} {x y : Operand} {g : Nat} {l : List (Ment κ)} {clk : Nat} {k : κ} (z v : Value) (b : Bool) (K : KeyC c.P kt enc) (hd : Nat.blt d c.n = true) (ht : c.P.underlying t = some (.map kt e)) (hx : ev fr x = some (.map (some g))) (hy : ev fr y = some (enc k)) (hm : MapAt c.b hp L g (mapO enc l clk))
    (hz : ∀ w, (zeroValue e).run c.P w = .ok z w) (hv : (getM l k).getD z = v) (hb : (getM l k).isSome = b) (kk : HL c ops Q rest ((d, .tuple #[v, .bool b]) :: fr) hp L) : HL c ops Q (⟨some d, .lookup t x y true, ty, pos, af, none⟩ :: rest) fr hp L := by
  subst hv; subst hb
  cases hg : getM l k with
  | none => rw [hg] at kk; exact r_look0Ok K hd ht hx hy hm hz hg kk
  | some u => rw [hg] at kk; exact r_lookOk K hd ht hx hy hm hg kk
theorem putM_mem {l : List (Ment κ)} {k : κ} {v : Value} {clk : Nat} {p : Ment κ} (h : p ∈ putM l k v clk) : (p.1 = k ∧ p.2.1 = v) ∨ p ∈ l := by
  unfold putM at h
  cases hf : findM k l 0 with
  | none =>
    rw [hf] at h
    rcases List.mem_append.1 h with h | h
    · exact .inr h
    · simp at h; subst h; exact .inl ⟨rfl, rfl⟩
  | some q =>
    obtain ⟨i, u⟩ := q; rw [hf] at h; simp only at h; obtain ⟨n, hn⟩ := List.getElem?_of_mem h; rw [List.getElem?_modify] at hn
    cases hl : l[n]? with
    | none => rw [hl] at hn; cases hn
    | some r =>
      rw [hl] at hn; simp only [Option.map_eq_map, Option.map_some, Option.some.injEq] at hn
      split at hn
      · subst hn; exact .inl ⟨rfl, rfl⟩
      · subst hn; exact .inr (List.mem_of_getElem? hl)
theorem getM_mem {l : List (Ment κ)} {k : κ} {v : Value} (h : getM l k = some v) : ∃ p ∈ l, p.1 = k ∧ p.2.1 = v := by
  unfold getM at h
  cases hf : findM k l 0 with
  | none => rw [hf] at h; cases h
  | some q =>
    obtain ⟨i, u⟩ := q; rw [hf] at h; simp only [Option.map_some, Option.some.injEq] at h; subst h; obtain ⟨m, p, _, h2, h3, h4⟩ := findM_at l 0 i u hf; exact ⟨p, List.mem_of_getElem? h2, h3, h4⟩
end
theorem sub_of_count {α : Type} {l' : List α} : ∀ {l : List α}, (∀ p : α → Bool, l'.countP p ≤ l.countP p) → ∃ r, l.Perm (l' ++ r) := by
  classical
  induction l' with
  | nil => intro l _; exact ⟨l, .refl _⟩
  | cons a t ih =>
    intro l h; have h1 := h (fun x => decide (x = a)); rw [List.countP_cons_of_pos (by simp)] at h1
    have ha : a ∈ l := by
      have : 0 < l.countP (fun x => decide (x = a)) := by omega
      obtain ⟨x, hx, e⟩ := List.countP_pos_iff.1 this
      simp at e
      exact e ▸ hx
    have hp := List.perm_cons_erase ha
    obtain ⟨r, hr⟩ := ih (l := l.erase a) (fun p => by
      have h2 := h p; have h3 := hp.countP_eq p; rw [List.countP_cons] at h2 h3
      omega)
    exact ⟨r, hp.trans (hr.cons a)⟩
theorem WI.count {b : Bx} {w : World} {hp hp' : Hp} {L L' : List Fact} (h : WI b w hp L) (hc : ∀ p : Nat × Obj → Bool, hp'.countP p ≤ hp.countP p) (h2 : ∀ F ∈ L', F ∈ L) : WI b w hp' L' := by
  obtain ⟨r, hr⟩ := sub_of_count hc; exact (h.perm hr).weak (List.sublist_append_left _ _) h2
section
variable {c : Cx} {Q : Exit → Act → World → Prop} {fr : Fr} {hp : Hp} {L : List Fact} {ops : Array Oper} {rest : List Oper}
theorem cut_c {β : Type} (s : Sta β) (z : β) (hz : s.inv z) (h1 : FrSub fr (s.fr z)) (h2 : ∀ p : Nat × Obj → Bool, (s.hp z).countP p ≤ hp.countP p) (h3 : LSub L (s.L z)) : HQ c (Exit.then (s.holds c) Q) .normal fr hp L :=
  fun _ _ ha hw => ⟨z, hz, ha.sub h1, hw.count h2 h3.mem⟩
end
section
variable {c : Cx} {Q : Exit → Act → World → Prop} {fr : Fr} {hp : Hp} {L : List Fact} {ops : Array Oper} {rest : List Oper}
theorem wi_letgoB {b : Bx} {w : World} {g : Nat} {o : Obj} (h : WI b w ((g, o) :: hp) L) : WI b w hp (Blk g o :: L) := h.letgo (h.own (g, o) (by simp)) (fun k hk => hk)
theorem hc_letgoB {g : Nat} {o : Obj} {x : Code} (k : HC c x Q fr hp (Blk g o :: L)) : HC c x Q fr ((g, o) :: hp) L := fun a w ha hw => k a w ha (wi_letgoB hw)
end
def Facts (Fs : List Fact) : Fact where
  P w := ∀ F ∈ Fs, F.P w
  fp k := ∃ F ∈ Fs, F.fp k
  st w w' h hP F hF := F.st w w' (fun k hk => h k ⟨F, hF, hk⟩) (hP F hF)
  lt w hP k hk := by obtain ⟨F, hF, hk⟩ := hk; exact F.lt w (hP F hF) k hk
section
variable {c : Cx} {Q : Exit → Act → World → Prop} {fr : Fr} {hp : Hp} {L : List Fact} {ops : Array Oper} {rest : List Oper}
theorem wi_pick {b : Bx} {w : World} {Fs : List Fact} {F : Fact} (h : Facts Fs ∈ L) (hF : F ∈ Fs) (hw : WI b w hp L) : WI b w hp (F :: L) := wi_more hw (hw.fs _ h F hF) (fun k hk => ⟨_, h, F, hF, hk⟩)
theorem hl_pick {Fs : List Fact} {F : Fact} (h : Facts Fs ∈ L) (hF : F ∈ Fs) (k : HL c ops Q rest fr hp (F :: L)) : HL c ops Q rest fr hp L := fun a w ha hw => k a w ha (wi_pick h hF hw)
theorem hc_pick {Fs : List Fact} {F : Fact} {x : Code} (h : Facts Fs ∈ L) (hF : F ∈ Fs) (k : HC c x Q fr hp (F :: L)) : HC c x Q fr hp L := fun a w ha hw => k a w ha (wi_pick h hF hw)
theorem hq_pick {Fs : List Fact} {F : Fact} {x : Exit} (h : Facts Fs ∈ L) (hF : F ∈ Fs) (k : HQ c Q x fr hp (F :: L)) : HQ c Q x fr hp L := fun a w ha hw => k a w ha (wi_pick h hF hw)
theorem wi_facts {b : Bx} {w : World} {Fs : List Fact} (h : ∀ F ∈ Fs, F ∈ L ∨ ∃ Gs, Facts Gs ∈ L ∧ F ∈ Gs) (hw : WI b w hp L) : WI b w hp (Facts Fs :: L) :=
  wi_more hw (fun F hF => by
    rcases h F hF with h1 | ⟨Gs, h1, h2⟩
    · exact hw.fs _ h1
    · exact hw.fs _ h1 F h2) (fun k hk => by
    obtain ⟨F, hF, hk⟩ := hk
    rcases h F hF with h1 | ⟨Gs, h1, h2⟩
    · exact ⟨F, h1, hk⟩
    · exact ⟨_, h1, F, h2, hk⟩)
theorem hl_facts {Fs : List Fact} (h : ∀ F ∈ Fs, F ∈ L ∨ ∃ Gs, Facts Gs ∈ L ∧ F ∈ Gs) (k : HL c ops Q rest fr hp (Facts Fs :: L)) : HL c ops Q rest fr hp L := fun a w ha hw => k a w ha (wi_facts h hw)
theorem hc_facts {Fs : List Fact} {x : Code} (h : ∀ F ∈ Fs, F ∈ L ∨ ∃ Gs, Facts Gs ∈ L ∧ F ∈ Gs) (k : HC c x Q fr hp (Facts Fs :: L)) : HC c x Q fr hp L := fun a w ha hw => k a w ha (wi_facts h hw)
theorem hq_facts {Fs : List Fact} {x : Exit} (h : ∀ F ∈ Fs, F ∈ L ∨ ∃ Gs, Facts Gs ∈ L ∧ F ∈ Gs) (k : HQ c Q x fr hp (Facts Fs :: L)) : HQ c Q x fr hp L := fun a w ha hw => k a w ha (wi_facts h hw)
end
section
variable {c : Cx} {Q : Exit → Act → World → Prop} {fr : Fr} {hp : Hp} {L : List Fact} {ops : Array Oper} {rest : List Oper}
theorem hq_nilrow {e : Exit} {α : Type} [El α] (k : HQ c Q e fr hp (Row none (rows ([] : List α)) :: L)) : HQ c Q e fr hp L := hq_more (F := Row none (rows ([] : List α))) (fun w _ => Row.nil _ w) (fun k hk => by obtain ⟨_, e, _⟩ := hk; cases e) k
theorem hl_nilrow {α : Type} [El α] (k : HL c ops Q rest fr hp (Row none (rows ([] : List α)) :: L)) : HL c ops Q rest fr hp L := hl_more (F := Row none (rows ([] : List α))) (fun w _ => Row.nil _ w) (fun k hk => by obtain ⟨_, e, _⟩ := hk; cases e) k
theorem hq_nil0 {e : Exit} (k : HQ c Q e fr hp (Row none [] :: L)) : HQ c Q e fr hp L := hq_more (F := Row none []) (fun w _ => Row.nil _ w) (fun k hk => by obtain ⟨_, e, _⟩ := hk; cases e) k
end
end Go.W
end
