/- Made by a program (gen_T.py): names of the seat's functions and types, and closed facts on them. -/
import Derived.Test.YtpbbgbjidhffoaaProg
import Derived.Test.YtpbbgbjidhffoaaWf
import Derived.KernelRfl
import Derived.Laws.StructEq
namespace Go.Proofs.Ytpbbgbjidhffoaa
open Go Go.W
set_option linter.unusedVariables false

theorem mixed : Try.prog.follows .mixedOrders = true := by kernel_rfl
namespace F
abbrev gosem_cut_init : Nat := 2
theorem gosem_cut_init_f : Try.prog.funcs[gosem_cut_init]? = some Try.f2 := Try.func2
theorem gosem_cut_init_cb : Callable Try.prog gosem_cut_init := ⟨⟨_, Try.func2, by kernel_rfl, by kernel_rfl⟩⟩
abbrev law07_ProofDiffs : Nat := 3
theorem law07_ProofDiffs_f : Try.prog.funcs[law07_ProofDiffs]? = some Try.f3 := Try.func3
theorem law07_ProofDiffs_cb : Callable Try.prog law07_ProofDiffs := ⟨⟨_, Try.func3, by kernel_rfl, by kernel_rfl⟩⟩
abbrev law07_ProofSteps : Nat := 4
theorem law07_ProofSteps_f : Try.prog.funcs[law07_ProofSteps]? = some Try.f4 := Try.func4
theorem law07_ProofSteps_cb : Callable Try.prog law07_ProofSteps := ⟨⟨_, Try.func4, by kernel_rfl, by kernel_rfl⟩⟩
abbrev law07_ProofLooks : Nat := 5
theorem law07_ProofLooks_f : Try.prog.funcs[law07_ProofLooks]? = some Try.f5 := Try.func5
theorem law07_ProofLooks_cb : Callable Try.prog law07_ProofLooks := ⟨⟨_, Try.func5, by kernel_rfl, by kernel_rfl⟩⟩
abbrev law07_ProofMade : Nat := 6
theorem law07_ProofMade_f : Try.prog.funcs[law07_ProofMade]? = some Try.f6 := Try.func6
theorem law07_ProofMade_cb : Callable Try.prog law07_ProofMade := ⟨⟨_, Try.func6, by kernel_rfl, by kernel_rfl⟩⟩
abbrev law07_ProofOrders : Nat := 7
theorem law07_ProofOrders_f : Try.prog.funcs[law07_ProofOrders]? = some Try.f7 := Try.func7
theorem law07_ProofOrders_cb : Callable Try.prog law07_ProofOrders := ⟨⟨_, Try.func7, by kernel_rfl, by kernel_rfl⟩⟩
abbrev law07_ProofFlaws : Nat := 8
theorem law07_ProofFlaws_f : Try.prog.funcs[law07_ProofFlaws]? = some Try.f8 := Try.func8
theorem law07_ProofFlaws_cb : Callable Try.prog law07_ProofFlaws := ⟨⟨_, Try.func8, by kernel_rfl, by kernel_rfl⟩⟩
abbrev law07_ProofMarks : Nat := 9
theorem law07_ProofMarks_f : Try.prog.funcs[law07_ProofMarks]? = some Try.f9 := Try.func9
theorem law07_ProofMarks_cb : Callable Try.prog law07_ProofMarks := ⟨⟨_, Try.func9, by kernel_rfl, by kernel_rfl⟩⟩
abbrev law07_ProofFewest : Nat := 10
theorem law07_ProofFewest_f : Try.prog.funcs[law07_ProofFewest]? = some Try.f10 := Try.func10
theorem law07_ProofFewest_cb : Callable Try.prog law07_ProofFewest := ⟨⟨_, Try.func10, by kernel_rfl, by kernel_rfl⟩⟩
abbrev law07_ProofWay : Nat := 11
theorem law07_ProofWay_f : Try.prog.funcs[law07_ProofWay]? = some Try.f11 := Try.func11
theorem law07_ProofWay_cb : Callable Try.prog law07_ProofWay := ⟨⟨_, Try.func11, by kernel_rfl, by kernel_rfl⟩⟩
abbrev law07_ProofLines : Nat := 12
theorem law07_ProofLines_f : Try.prog.funcs[law07_ProofLines]? = some Try.f12 := Try.func12
theorem law07_ProofLines_cb : Callable Try.prog law07_ProofLines := ⟨⟨_, Try.func12, by kernel_rfl, by kernel_rfl⟩⟩
abbrev law07_ProofOrigins : Nat := 13
theorem law07_ProofOrigins_f : Try.prog.funcs[law07_ProofOrigins]? = some Try.f13 := Try.func13
theorem law07_ProofOrigins_cb : Callable Try.prog law07_ProofOrigins := ⟨⟨_, Try.func13, by kernel_rfl, by kernel_rfl⟩⟩
abbrev law07_ProofType : Nat := 14
theorem law07_ProofType_f : Try.prog.funcs[law07_ProofType]? = some Try.f14 := Try.func14
theorem law07_ProofType_cb : Callable Try.prog law07_ProofType := ⟨⟨_, Try.func14, by kernel_rfl, by kernel_rfl⟩⟩
abbrev law07_long : Nat := 15
theorem law07_long_f : Try.prog.funcs[law07_long]? = some Try.f15 := Try.func15
theorem law07_long_cb : Callable Try.prog law07_long := ⟨⟨_, Try.func15, by kernel_rfl, by kernel_rfl⟩⟩
abbrev law07_correcting : Nat := 16
theorem law07_correcting_f : Try.prog.funcs[law07_correcting]? = some Try.f16 := Try.func16
theorem law07_correcting_cb : Callable Try.prog law07_correcting := ⟨⟨_, Try.func16, by kernel_rfl, by kernel_rfl⟩⟩
abbrev kit_NewDice : Nat := 17
theorem kit_NewDice_f : Try.prog.funcs[kit_NewDice]? = some Try.f17 := Try.func17
theorem kit_NewDice_cb : Callable Try.prog kit_NewDice := ⟨⟨_, Try.func17, by kernel_rfl, by kernel_rfl⟩⟩
abbrev kit_PageOf : Nat := 18
theorem kit_PageOf_f : Try.prog.funcs[kit_PageOf]? = some Try.f18 := Try.func18
theorem kit_PageOf_cb : Callable Try.prog kit_PageOf := ⟨⟨_, Try.func18, by kernel_rfl, by kernel_rfl⟩⟩
abbrev kit_DupStrings : Nat := 19
theorem kit_DupStrings_f : Try.prog.funcs[kit_DupStrings]? = some Try.f19 := Try.func19
theorem kit_DupStrings_cb : Callable Try.prog kit_DupStrings := ⟨⟨_, Try.func19, by kernel_rfl, by kernel_rfl⟩⟩
abbrev proof_Diff : Nat := 20
theorem proof_Diff_f : Try.prog.funcs[proof_Diff]? = some Try.f20 := Try.func20
theorem proof_Diff_cb : Callable Try.prog proof_Diff := ⟨⟨_, Try.func20, by kernel_rfl, by kernel_rfl⟩⟩
abbrev ref07_Diff : Nat := 21
theorem ref07_Diff_f : Try.prog.funcs[ref07_Diff]? = some Try.f21 := Try.func21
theorem ref07_Diff_cb : Callable Try.prog ref07_Diff := ⟨⟨_, Try.func21, by kernel_rfl, by kernel_rfl⟩⟩
abbrev kit_EqMarks : Nat := 22
theorem kit_EqMarks_f : Try.prog.funcs[kit_EqMarks]? = some Try.f22 := Try.func22
theorem kit_EqMarks_cb : Callable Try.prog kit_EqMarks := ⟨⟨_, Try.func22, by kernel_rfl, by kernel_rfl⟩⟩
abbrev kit_EqStrings : Nat := 23
theorem kit_EqStrings_f : Try.prog.funcs[kit_EqStrings]? = some Try.f23 := Try.func23
theorem kit_EqStrings_cb : Callable Try.prog kit_EqStrings := ⟨⟨_, Try.func23, by kernel_rfl, by kernel_rfl⟩⟩
abbrev law07_many : Nat := 24
theorem law07_many_f : Try.prog.funcs[law07_many]? = some Try.f24 := Try.func24
theorem law07_many_cb : Callable Try.prog law07_many := ⟨⟨_, Try.func24, by kernel_rfl, by kernel_rfl⟩⟩
abbrev kit_MarksOf : Nat := 25
theorem kit_MarksOf_f : Try.prog.funcs[kit_MarksOf]? = some Try.f25 := Try.func25
theorem kit_MarksOf_cb : Callable Try.prog kit_MarksOf := ⟨⟨_, Try.func25, by kernel_rfl, by kernel_rfl⟩⟩
abbrev kit_Dice_To : Nat := 26
theorem kit_Dice_To_f : Try.prog.funcs[kit_Dice_To]? = some Try.f26 := Try.func26
theorem kit_Dice_To_cb : Callable Try.prog kit_Dice_To := ⟨⟨_, Try.func26, by kernel_rfl, by kernel_rfl⟩⟩
abbrev proof_Steps : Nat := 27
theorem proof_Steps_f : Try.prog.funcs[proof_Steps]? = some Try.f27 := Try.func27
theorem proof_Steps_cb : Callable Try.prog proof_Steps := ⟨⟨_, Try.func27, by kernel_rfl, by kernel_rfl⟩⟩
abbrev ref07_Steps : Nat := 28
theorem ref07_Steps_f : Try.prog.funcs[ref07_Steps]? = some Try.f28 := Try.func28
theorem ref07_Steps_cb : Callable Try.prog ref07_Steps := ⟨⟨_, Try.func28, by kernel_rfl, by kernel_rfl⟩⟩
abbrev kit_EqInts : Nat := 29
theorem kit_EqInts_f : Try.prog.funcs[kit_EqInts]? = some Try.f29 := Try.func29
theorem kit_EqInts_cb : Callable Try.prog kit_EqInts := ⟨⟨_, Try.func29, by kernel_rfl, by kernel_rfl⟩⟩
abbrev law07_old : Nat := 30
theorem law07_old_f : Try.prog.funcs[law07_old]? = some Try.f30 := Try.func30
theorem law07_old_cb : Callable Try.prog law07_old := ⟨⟨_, Try.func30, by kernel_rfl, by kernel_rfl⟩⟩
abbrev kit_YearsOf : Nat := 31
theorem kit_YearsOf_f : Try.prog.funcs[kit_YearsOf]? = some Try.f31 := Try.func31
theorem kit_YearsOf_cb : Callable Try.prog kit_YearsOf := ⟨⟨_, Try.func31, by kernel_rfl, by kernel_rfl⟩⟩
abbrev ref07_Apply : Nat := 32
theorem ref07_Apply_f : Try.prog.funcs[ref07_Apply]? = some Try.f32 := Try.func32
theorem ref07_Apply_cb : Callable Try.prog ref07_Apply := ⟨⟨_, Try.func32, by kernel_rfl, by kernel_rfl⟩⟩
abbrev kit_LineOf : Nat := 33
theorem kit_LineOf_f : Try.prog.funcs[kit_LineOf]? = some Try.f33 := Try.func33
theorem kit_LineOf_cb : Callable Try.prog kit_LineOf := ⟨⟨_, Try.func33, by kernel_rfl, by kernel_rfl⟩⟩
abbrev kit_DupYears : Nat := 34
theorem kit_DupYears_f : Try.prog.funcs[kit_DupYears]? = some Try.f34 := Try.func34
theorem kit_DupYears_cb : Callable Try.prog kit_DupYears := ⟨⟨_, Try.func34, by kernel_rfl, by kernel_rfl⟩⟩
abbrev proof_Look : Nat := 35
theorem proof_Look_f : Try.prog.funcs[proof_Look]? = some Try.f35 := Try.func35
theorem proof_Look_cb : Callable Try.prog proof_Look := ⟨⟨_, Try.func35, by kernel_rfl, by kernel_rfl⟩⟩
abbrev ref07_Look : Nat := 36
theorem ref07_Look_f : Try.prog.funcs[ref07_Look]? = some Try.f36 := Try.func36
theorem ref07_Look_cb : Callable Try.prog ref07_Look := ⟨⟨_, Try.func36, by kernel_rfl, by kernel_rfl⟩⟩
abbrev kit_EqYears : Nat := 37
theorem kit_EqYears_f : Try.prog.funcs[kit_EqYears]? = some Try.f37 := Try.func37
theorem kit_EqYears_cb : Callable Try.prog kit_EqYears := ⟨⟨_, Try.func37, by kernel_rfl, by kernel_rfl⟩⟩
abbrev proof_Apply : Nat := 38
theorem proof_Apply_f : Try.prog.funcs[proof_Apply]? = some Try.f38 := Try.func38
theorem proof_Apply_cb : Callable Try.prog proof_Apply := ⟨⟨_, Try.func38, by kernel_rfl, by kernel_rfl⟩⟩
abbrev law07_orders : Nat := 39
theorem law07_orders_f : Try.prog.funcs[law07_orders]? = some Try.f39 := Try.func39
theorem law07_orders_cb : Callable Try.prog law07_orders := ⟨⟨_, Try.func39, by kernel_rfl, by kernel_rfl⟩⟩
abbrev law07_on : Nat := 40
theorem law07_on_f : Try.prog.funcs[law07_on]? = some Try.f40 := Try.func40
theorem law07_on_cb : Callable Try.prog law07_on := ⟨⟨_, Try.func40, by kernel_rfl, by kernel_rfl⟩⟩
abbrev kit_Common : Nat := 41
theorem kit_Common_f : Try.prog.funcs[kit_Common]? = some Try.f41 := Try.func41
theorem kit_Common_cb : Callable Try.prog kit_Common := ⟨⟨_, Try.func41, by kernel_rfl, by kernel_rfl⟩⟩
abbrev proof_Cost : Nat := 42
theorem proof_Cost_f : Try.prog.funcs[proof_Cost]? = some Try.f42 := Try.func42
theorem proof_Cost_cb : Callable Try.prog proof_Cost := ⟨⟨_, Try.func42, by kernel_rfl, by kernel_rfl⟩⟩
abbrev ref07_Cost : Nat := 43
theorem ref07_Cost_f : Try.prog.funcs[ref07_Cost]? = some Try.f43 := Try.func43
theorem ref07_Cost_cb : Callable Try.prog ref07_Cost := ⟨⟨_, Try.func43, by kernel_rfl, by kernel_rfl⟩⟩
abbrev proof_Check : Nat := 44
theorem proof_Check_f : Try.prog.funcs[proof_Check]? = some Try.f44 := Try.func44
theorem proof_Check_cb : Callable Try.prog proof_Check := ⟨⟨_, Try.func44, by kernel_rfl, by kernel_rfl⟩⟩
abbrev ref07_Check : Nat := 45
theorem ref07_Check_f : Try.prog.funcs[ref07_Check]? = some Try.f45 := Try.func45
theorem ref07_Check_cb : Callable Try.prog ref07_Check := ⟨⟨_, Try.func45, by kernel_rfl, by kernel_rfl⟩⟩
abbrev law07_lists : Nat := 46
theorem law07_lists_f : Try.prog.funcs[law07_lists]? = some Try.f46 := Try.func46
theorem law07_lists_cb : Callable Try.prog law07_lists := ⟨⟨_, Try.func46, by kernel_rfl, by kernel_rfl⟩⟩
abbrev kit_Dice_Once : Nat := 47
theorem kit_Dice_Once_f : Try.prog.funcs[kit_Dice_Once]? = some Try.f47 := Try.func47
theorem kit_Dice_Once_cb : Callable Try.prog kit_Dice_Once := ⟨⟨_, Try.func47, by kernel_rfl, by kernel_rfl⟩⟩
abbrev law07_price : Nat := 48
theorem law07_price_f : Try.prog.funcs[law07_price]? = some Try.f48 := Try.func48
theorem law07_price_cb : Callable Try.prog law07_price := ⟨⟨_, Try.func48, by kernel_rfl, by kernel_rfl⟩⟩
abbrev law07_within : Nat := 49
theorem law07_within_f : Try.prog.funcs[law07_within]? = some Try.f49 := Try.func49
theorem law07_within_cb : Callable Try.prog law07_within := ⟨⟨_, Try.func49, by kernel_rfl, by kernel_rfl⟩⟩
abbrev proof_Origin : Nat := 50
theorem proof_Origin_f : Try.prog.funcs[proof_Origin]? = some Try.f50 := Try.func50
theorem proof_Origin_cb : Callable Try.prog proof_Origin := ⟨⟨_, Try.func50, by kernel_rfl, by kernel_rfl⟩⟩
abbrev proof_Back : Nat := 51
theorem proof_Back_f : Try.prog.funcs[proof_Back]? = some Try.f51 := Try.func51
theorem proof_Back_cb : Callable Try.prog proof_Back := ⟨⟨_, Try.func51, by kernel_rfl, by kernel_rfl⟩⟩
abbrev proof_Fresh : Nat := 52
theorem proof_Fresh_f : Try.prog.funcs[proof_Fresh]? = some Try.f52 := Try.func52
theorem proof_Fresh_cb : Callable Try.prog proof_Fresh := ⟨⟨_, Try.func52, by kernel_rfl, by kernel_rfl⟩⟩
abbrev proof_Stock : Nat := 53
theorem proof_Stock_f : Try.prog.funcs[proof_Stock]? = some Try.f53 := Try.func53
theorem proof_Stock_cb : Callable Try.prog proof_Stock := ⟨⟨_, Try.func53, by kernel_rfl, by kernel_rfl⟩⟩
abbrev law07_folk : Nat := 54
theorem law07_folk_f : Try.prog.funcs[law07_folk]? = some Try.f54 := Try.func54
theorem law07_folk_cb : Callable Try.prog law07_folk := ⟨⟨_, Try.func54, by kernel_rfl, by kernel_rfl⟩⟩
abbrev law07_slip : Nat := 55
theorem law07_slip_f : Try.prog.funcs[law07_slip]? = some Try.f55 := Try.func55
theorem law07_slip_cb : Callable Try.prog law07_slip := ⟨⟨_, Try.func55, by kernel_rfl, by kernel_rfl⟩⟩
abbrev law07_in : Nat := 56
theorem law07_in_f : Try.prog.funcs[law07_in]? = some Try.f56 := Try.func56
theorem law07_in_cb : Callable Try.prog law07_in := ⟨⟨_, Try.func56, by kernel_rfl, by kernel_rfl⟩⟩
abbrev law07_out : Nat := 57
theorem law07_out_f : Try.prog.funcs[law07_out]? = some Try.f57 := Try.func57
theorem law07_out_cb : Callable Try.prog law07_out := ⟨⟨_, Try.func57, by kernel_rfl, by kernel_rfl⟩⟩
abbrev law07_ages : Nat := 58
theorem law07_ages_f : Try.prog.funcs[law07_ages]? = some Try.f58 := Try.func58
theorem law07_ages_cb : Callable Try.prog law07_ages := ⟨⟨_, Try.func58, by kernel_rfl, by kernel_rfl⟩⟩
abbrev proof_diff : Nat := 59
theorem proof_diff_f : Try.prog.funcs[proof_diff]? = some Try.f59 := Try.func59
theorem proof_diff_cb : Callable Try.prog proof_diff := ⟨⟨_, Try.func59, by kernel_rfl, by kernel_rfl⟩⟩
abbrev ref07_diff : Nat := 60
theorem ref07_diff_f : Try.prog.funcs[ref07_diff]? = some Try.f60 := Try.func60
theorem ref07_diff_cb : Callable Try.prog ref07_diff := ⟨⟨_, Try.func60, by kernel_rfl, by kernel_rfl⟩⟩
abbrev kit_Dice_raw : Nat := 61
theorem kit_Dice_raw_f : Try.prog.funcs[kit_Dice_raw]? = some Try.f61 := Try.func61
theorem kit_Dice_raw_cb : Callable Try.prog kit_Dice_raw := ⟨⟨_, Try.func61, by kernel_rfl, by kernel_rfl⟩⟩
abbrev proof_checked : Nat := 62
theorem proof_checked_f : Try.prog.funcs[proof_checked]? = some Try.f62 := Try.func62
theorem proof_checked_cb : Callable Try.prog proof_checked := ⟨⟨_, Try.func62, by kernel_rfl, by kernel_rfl⟩⟩
abbrev proof_orders : Nat := 63
theorem proof_orders_f : Try.prog.funcs[proof_orders]? = some Try.f63 := Try.func63
theorem proof_orders_cb : Callable Try.prog proof_orders := ⟨⟨_, Try.func63, by kernel_rfl, by kernel_rfl⟩⟩
abbrev ref07_check : Nat := 64
theorem ref07_check_f : Try.prog.funcs[ref07_check]? = some Try.f64 := Try.func64
theorem ref07_check_cb : Callable Try.prog ref07_check := ⟨⟨_, Try.func64, by kernel_rfl, by kernel_rfl⟩⟩
abbrev ref07_steps : Nat := 65
theorem ref07_steps_f : Try.prog.funcs[ref07_steps]? = some Try.f65 := Try.func65
theorem ref07_steps_cb : Callable Try.prog ref07_steps := ⟨⟨_, Try.func65, by kernel_rfl, by kernel_rfl⟩⟩
abbrev ref07_Made : Nat := 66
theorem ref07_Made_f : Try.prog.funcs[ref07_Made]? = some Try.f66 := Try.func66
theorem ref07_Made_cb : Callable Try.prog ref07_Made := ⟨⟨_, Try.func66, by kernel_rfl, by kernel_rfl⟩⟩
abbrev kit_Dice_Word : Nat := 67
theorem kit_Dice_Word_f : Try.prog.funcs[kit_Dice_Word]? = some Try.f67 := Try.func67
theorem kit_Dice_Word_cb : Callable Try.prog kit_Dice_Word := ⟨⟨_, Try.func67, by kernel_rfl, by kernel_rfl⟩⟩
abbrev proof_yearsError : Nat := 68
theorem proof_yearsError_f : Try.prog.funcs[proof_yearsError]? = some Try.f68 := Try.func68
theorem proof_yearsError_cb : Callable Try.prog proof_yearsError := ⟨⟨_, Try.func68, by kernel_rfl, by kernel_rfl⟩⟩
abbrev slices_Contains_strs : Nat := 69
theorem slices_Contains_strs_f : Try.prog.funcs[slices_Contains_strs]? = some Try.f69 := Try.func69
theorem slices_Contains_strs_cb : Callable Try.prog slices_Contains_strs := ⟨⟨_, Try.func69, by kernel_rfl, by kernel_rfl⟩⟩
abbrev proof_origin : Nat := 70
theorem proof_origin_f : Try.prog.funcs[proof_origin]? = some Try.f70 := Try.func70
theorem proof_origin_cb : Callable Try.prog proof_origin := ⟨⟨_, Try.func70, by kernel_rfl, by kernel_rfl⟩⟩
abbrev ref07_CheckYears : Nat := 71
theorem ref07_CheckYears_f : Try.prog.funcs[ref07_CheckYears]? = some Try.f71 := Try.func71
theorem ref07_CheckYears_cb : Callable Try.prog ref07_CheckYears := ⟨⟨_, Try.func71, by kernel_rfl, by kernel_rfl⟩⟩
abbrev ref07_count : Nat := 72
theorem ref07_count_f : Try.prog.funcs[ref07_count]? = some Try.f72 := Try.func72
theorem ref07_count_cb : Callable Try.prog ref07_count := ⟨⟨_, Try.func72, by kernel_rfl, by kernel_rfl⟩⟩
abbrev ref07_stock : Nat := 73
theorem ref07_stock_f : Try.prog.funcs[ref07_stock]? = some Try.f73 := Try.func73
theorem ref07_stock_cb : Callable Try.prog ref07_stock := ⟨⟨_, Try.func73, by kernel_rfl, by kernel_rfl⟩⟩
abbrev proof_made : Nat := 74
theorem proof_made_f : Try.prog.funcs[proof_made]? = some Try.f74 := Try.func74
theorem proof_made_cb : Callable Try.prog proof_made := ⟨⟨_, Try.func74, by kernel_rfl, by kernel_rfl⟩⟩
abbrev kit_Index : Nat := 75
theorem kit_Index_f : Try.prog.funcs[kit_Index]? = some Try.f75 := Try.func75
theorem kit_Index_cb : Callable Try.prog kit_Index := ⟨⟨_, Try.func75, by kernel_rfl, by kernel_rfl⟩⟩
abbrev ref07_cost : Nat := 76
theorem ref07_cost_f : Try.prog.funcs[ref07_cost]? = some Try.f76 := Try.func76
theorem ref07_cost_cb : Callable Try.prog ref07_cost := ⟨⟨_, Try.func76, by kernel_rfl, by kernel_rfl⟩⟩
abbrev proof_lineError : Nat := 77
theorem proof_lineError_f : Try.prog.funcs[proof_lineError]? = some Try.f77 := Try.func77
theorem proof_lineError_cb : Callable Try.prog proof_lineError := ⟨⟨_, Try.func77, by kernel_rfl, by kernel_rfl⟩⟩
abbrev ref07_CheckLine : Nat := 78
theorem ref07_CheckLine_f : Try.prog.funcs[ref07_CheckLine]? = some Try.f78 := Try.func78
theorem ref07_CheckLine_cb : Callable Try.prog ref07_CheckLine := ⟨⟨_, Try.func78, by kernel_rfl, by kernel_rfl⟩⟩
abbrev ref07_Better : Nat := 79
theorem ref07_Better_f : Try.prog.funcs[ref07_Better]? = some Try.f79 := Try.func79
theorem ref07_Better_cb : Callable Try.prog ref07_Better := ⟨⟨_, Try.func79, by kernel_rfl, by kernel_rfl⟩⟩
abbrev law07_set : Nat := 80
theorem law07_set_f : Try.prog.funcs[law07_set]? = some Try.f80 := Try.func80
theorem law07_set_cb : Callable Try.prog law07_set := ⟨⟨_, Try.func80, by kernel_rfl, by kernel_rfl⟩⟩
abbrev proof_asked : Nat := 81
theorem proof_asked_f : Try.prog.funcs[proof_asked]? = some Try.f81 := Try.func81
theorem proof_asked_cb : Callable Try.prog proof_asked := ⟨⟨_, Try.func81, by kernel_rfl, by kernel_rfl⟩⟩
abbrev proof_stock : Nat := 82
theorem proof_stock_f : Try.prog.funcs[proof_stock]? = some Try.f82 := Try.func82
theorem proof_stock_cb : Callable Try.prog proof_stock := ⟨⟨_, Try.func82, by kernel_rfl, by kernel_rfl⟩⟩
abbrev slices_SortFunc : Nat := 83
theorem slices_SortFunc_f : Try.prog.funcs[slices_SortFunc]? = some Try.f83 := Try.func83
theorem slices_SortFunc_cb : Callable Try.prog slices_SortFunc := ⟨⟨_, Try.func83, by kernel_rfl, by kernel_rfl⟩⟩
abbrev proof_Stock_1 : Nat := 84
theorem proof_Stock_1_f : Try.prog.funcs[proof_Stock_1]? = some Try.f84 := Try.func84
theorem proof_Stock_1_cb : Callable Try.prog proof_Stock_1 := ⟨⟨_, Try.func84, by kernel_rfl, by kernel_rfl⟩⟩
abbrev slices_Compare_byte_byte : Nat := 85
theorem slices_Compare_byte_byte_f : Try.prog.funcs[slices_Compare_byte_byte]? = some Try.f85 := Try.func85
theorem slices_Compare_byte_byte_cb : Callable Try.prog slices_Compare_byte_byte := ⟨⟨_, Try.func85, by kernel_rfl, by kernel_rfl⟩⟩
abbrev proof_diff_1 : Nat := 86
theorem proof_diff_1_f : Try.prog.funcs[proof_diff_1]? = some Try.f86 := Try.func86
theorem proof_diff_1_cb : Callable Try.prog proof_diff_1 := ⟨⟨_, Try.func86, by kernel_rfl, by kernel_rfl⟩⟩
abbrev proof_list_behind : Nat := 87
theorem proof_list_behind_f : Try.prog.funcs[proof_list_behind]? = some Try.f87 := Try.func87
theorem proof_list_behind_cb : Callable Try.prog proof_list_behind := ⟨⟨_, Try.func87, by kernel_rfl, by kernel_rfl⟩⟩
abbrev proof_least : Nat := 88
theorem proof_least_f : Try.prog.funcs[proof_least]? = some Try.f88 := Try.func88
theorem proof_least_cb : Callable Try.prog proof_least := ⟨⟨_, Try.func88, by kernel_rfl, by kernel_rfl⟩⟩
abbrev proof_compareLists : Nat := 89
theorem proof_compareLists_f : Try.prog.funcs[proof_compareLists]? = some Try.f89 := Try.func89
theorem proof_compareLists_cb : Callable Try.prog proof_compareLists := ⟨⟨_, Try.func89, by kernel_rfl, by kernel_rfl⟩⟩
abbrev proof_marksError : Nat := 90
theorem proof_marksError_f : Try.prog.funcs[proof_marksError]? = some Try.f90 := Try.func90
theorem proof_marksError_cb : Callable Try.prog proof_marksError := ⟨⟨_, Try.func90, by kernel_rfl, by kernel_rfl⟩⟩
abbrev proof_orders_1 : Nat := 91
theorem proof_orders_1_f : Try.prog.funcs[proof_orders_1]? = some Try.f91 := Try.func91
theorem proof_orders_1_cb : Callable Try.prog proof_orders_1 := ⟨⟨_, Try.func91, by kernel_rfl, by kernel_rfl⟩⟩
abbrev proof_orders_1_1 : Nat := 92
theorem proof_orders_1_1_f : Try.prog.funcs[proof_orders_1_1]? = some Try.f92 := Try.func92
theorem proof_orders_1_1_cb : Callable Try.prog proof_orders_1_1 := ⟨⟨_, Try.func92, by kernel_rfl, by kernel_rfl⟩⟩
abbrev slices_Contains_ints : Nat := 93
theorem slices_Contains_ints_f : Try.prog.funcs[slices_Contains_ints]? = some Try.f93 := Try.func93
theorem slices_Contains_ints_cb : Callable Try.prog slices_Contains_ints := ⟨⟨_, Try.func93, by kernel_rfl, by kernel_rfl⟩⟩
abbrev slices_Clone_ints : Nat := 94
theorem slices_Clone_ints_f : Try.prog.funcs[slices_Clone_ints]? = some Try.f94 := Try.func94
theorem slices_Clone_ints_cb : Callable Try.prog slices_Clone_ints := ⟨⟨_, Try.func94, by kernel_rfl, by kernel_rfl⟩⟩
abbrev ref07_checkMarks : Nat := 95
theorem ref07_checkMarks_f : Try.prog.funcs[ref07_checkMarks]? = some Try.f95 := Try.func95
theorem ref07_checkMarks_cb : Callable Try.prog ref07_checkMarks := ⟨⟨_, Try.func95, by kernel_rfl, by kernel_rfl⟩⟩
abbrev ref07_grows : Nat := 96
theorem ref07_grows_f : Try.prog.funcs[ref07_grows]? = some Try.f96 := Try.func96
theorem ref07_grows_cb : Callable Try.prog ref07_grows := ⟨⟨_, Try.func96, by kernel_rfl, by kernel_rfl⟩⟩
abbrev slices_Index_strs : Nat := 97
theorem slices_Index_strs_f : Try.prog.funcs[slices_Index_strs]? = some Try.f97 := Try.func97
theorem slices_Index_strs_cb : Callable Try.prog slices_Index_strs := ⟨⟨_, Try.func97, by kernel_rfl, by kernel_rfl⟩⟩
abbrev proof_deeds : Nat := 98
theorem proof_deeds_f : Try.prog.funcs[proof_deeds]? = some Try.f98 := Try.func98
theorem proof_deeds_cb : Callable Try.prog proof_deeds := ⟨⟨_, Try.func98, by kernel_rfl, by kernel_rfl⟩⟩
abbrev strings_HasPrefix : Nat := 99
theorem strings_HasPrefix_f : Try.prog.funcs[strings_HasPrefix]? = some Try.f99 := Try.func99
theorem strings_HasPrefix_cb : Callable Try.prog strings_HasPrefix := ⟨⟨_, Try.func99, by kernel_rfl, by kernel_rfl⟩⟩
abbrev strings_HasSuffix : Nat := 100
theorem strings_HasSuffix_f : Try.prog.funcs[strings_HasSuffix]? = some Try.f100 := Try.func100
theorem strings_HasSuffix_cb : Callable Try.prog strings_HasSuffix := ⟨⟨_, Try.func100, by kernel_rfl, by kernel_rfl⟩⟩
abbrev ref07_Before : Nat := 101
theorem ref07_Before_f : Try.prog.funcs[ref07_Before]? = some Try.f101 := Try.func101
theorem ref07_Before_cb : Callable Try.prog ref07_Before := ⟨⟨_, Try.func101, by kernel_rfl, by kernel_rfl⟩⟩
abbrev proof_counts : Nat := 102
theorem proof_counts_f : Try.prog.funcs[proof_counts]? = some Try.f102 := Try.func102
theorem proof_counts_cb : Callable Try.prog proof_counts := ⟨⟨_, Try.func102, by kernel_rfl, by kernel_rfl⟩⟩
abbrev slices_pdqsortCmpFunc : Nat := 103
theorem slices_pdqsortCmpFunc_f : Try.prog.funcs[slices_pdqsortCmpFunc]? = some Try.f103 := Try.func103
theorem slices_pdqsortCmpFunc_cb : Callable Try.prog slices_pdqsortCmpFunc := ⟨⟨_, Try.func103, by kernel_rfl, by kernel_rfl⟩⟩
abbrev math_bits_Len : Nat := 104
theorem math_bits_Len_f : Try.prog.funcs[math_bits_Len]? = some Try.f104 := Try.func104
theorem math_bits_Len_cb : Callable Try.prog math_bits_Len := ⟨⟨_, Try.func104, by kernel_rfl, by kernel_rfl⟩⟩
abbrev cmp_Compare_byte : Nat := 105
theorem cmp_Compare_byte_f : Try.prog.funcs[cmp_Compare_byte]? = some Try.f105 := Try.func105
theorem cmp_Compare_byte_cb : Callable Try.prog cmp_Compare_byte := ⟨⟨_, Try.func105, by kernel_rfl, by kernel_rfl⟩⟩
abbrev cmp_Or_int : Nat := 106
theorem cmp_Or_int_f : Try.prog.funcs[cmp_Or_int]? = some Try.f106 := Try.func106
theorem cmp_Or_int_cb : Callable Try.prog cmp_Or_int := ⟨⟨_, Try.func106, by kernel_rfl, by kernel_rfl⟩⟩
abbrev cmp_Compare_int : Nat := 107
theorem cmp_Compare_int_f : Try.prog.funcs[cmp_Compare_int]? = some Try.f107 := Try.func107
theorem cmp_Compare_int_cb : Callable Try.prog cmp_Compare_int := ⟨⟨_, Try.func107, by kernel_rfl, by kernel_rfl⟩⟩
abbrev slices_CompareFunc : Nat := 108
theorem slices_CompareFunc_f : Try.prog.funcs[slices_CompareFunc]? = some Try.f108 := Try.func108
theorem slices_CompareFunc_cb : Callable Try.prog slices_CompareFunc := ⟨⟨_, Try.func108, by kernel_rfl, by kernel_rfl⟩⟩
abbrev proof_compareMarks : Nat := 109
theorem proof_compareMarks_f : Try.prog.funcs[proof_compareMarks]? = some Try.f109 := Try.func109
theorem proof_compareMarks_cb : Callable Try.prog proof_compareMarks := ⟨⟨_, Try.func109, by kernel_rfl, by kernel_rfl⟩⟩
abbrev proof_textError : Nat := 110
theorem proof_textError_f : Try.prog.funcs[proof_textError]? = some Try.f110 := Try.func110
theorem proof_textError_cb : Callable Try.prog proof_textError := ⟨⟨_, Try.func110, by kernel_rfl, by kernel_rfl⟩⟩
abbrev slices_Index_ints : Nat := 111
theorem slices_Index_ints_f : Try.prog.funcs[slices_Index_ints]? = some Try.f111 := Try.func111
theorem slices_Index_ints_cb : Callable Try.prog slices_Index_ints := ⟨⟨_, Try.func111, by kernel_rfl, by kernel_rfl⟩⟩
abbrev ref07_checkMark : Nat := 112
theorem ref07_checkMark_f : Try.prog.funcs[ref07_checkMark]? = some Try.f112 := Try.func112
theorem ref07_checkMark_cb : Callable Try.prog ref07_checkMark := ⟨⟨_, Try.func112, by kernel_rfl, by kernel_rfl⟩⟩
abbrev proof_deeds_1 : Nat := 113
theorem proof_deeds_1_f : Try.prog.funcs[proof_deeds_1]? = some Try.f113 := Try.func113
theorem proof_deeds_1_cb : Callable Try.prog proof_deeds_1 := ⟨⟨_, Try.func113, by kernel_rfl, by kernel_rfl⟩⟩
abbrev proof_deeds_2 : Nat := 114
theorem proof_deeds_2_f : Try.prog.funcs[proof_deeds_2]? = some Try.f114 := Try.func114
theorem proof_deeds_2_cb : Callable Try.prog proof_deeds_2 := ⟨⟨_, Try.func114, by kernel_rfl, by kernel_rfl⟩⟩
abbrev proof_deeds_3 : Nat := 115
theorem proof_deeds_3_f : Try.prog.funcs[proof_deeds_3]? = some Try.f115 := Try.func115
theorem proof_deeds_3_cb : Callable Try.prog proof_deeds_3 := ⟨⟨_, Try.func115, by kernel_rfl, by kernel_rfl⟩⟩
abbrev internal_stringslite_HasPrefix : Nat := 116
theorem internal_stringslite_HasPrefix_f : Try.prog.funcs[internal_stringslite_HasPrefix]? = some Try.f116 := Try.func116
theorem internal_stringslite_HasPrefix_cb : Callable Try.prog internal_stringslite_HasPrefix := ⟨⟨_, Try.func116, by kernel_rfl, by kernel_rfl⟩⟩
abbrev internal_stringslite_HasSuffix : Nat := 117
theorem internal_stringslite_HasSuffix_f : Try.prog.funcs[internal_stringslite_HasSuffix]? = some Try.f117 := Try.func117
theorem internal_stringslite_HasSuffix_cb : Callable Try.prog internal_stringslite_HasSuffix := ⟨⟨_, Try.func117, by kernel_rfl, by kernel_rfl⟩⟩
abbrev slices_insertionSortCmpFunc : Nat := 118
theorem slices_insertionSortCmpFunc_f : Try.prog.funcs[slices_insertionSortCmpFunc]? = some Try.f118 := Try.func118
theorem slices_insertionSortCmpFunc_cb : Callable Try.prog slices_insertionSortCmpFunc := ⟨⟨_, Try.func118, by kernel_rfl, by kernel_rfl⟩⟩
abbrev slices_heapSortCmpFunc : Nat := 119
theorem slices_heapSortCmpFunc_f : Try.prog.funcs[slices_heapSortCmpFunc]? = some Try.f119 := Try.func119
theorem slices_heapSortCmpFunc_cb : Callable Try.prog slices_heapSortCmpFunc := ⟨⟨_, Try.func119, by kernel_rfl, by kernel_rfl⟩⟩
abbrev slices_breakPatternsCmpFunc : Nat := 120
theorem slices_breakPatternsCmpFunc_f : Try.prog.funcs[slices_breakPatternsCmpFunc]? = some Try.f120 := Try.func120
theorem slices_breakPatternsCmpFunc_cb : Callable Try.prog slices_breakPatternsCmpFunc := ⟨⟨_, Try.func120, by kernel_rfl, by kernel_rfl⟩⟩
abbrev slices_choosePivotCmpFunc : Nat := 121
theorem slices_choosePivotCmpFunc_f : Try.prog.funcs[slices_choosePivotCmpFunc]? = some Try.f121 := Try.func121
theorem slices_choosePivotCmpFunc_cb : Callable Try.prog slices_choosePivotCmpFunc := ⟨⟨_, Try.func121, by kernel_rfl, by kernel_rfl⟩⟩
abbrev slices_reverseRangeCmpFunc : Nat := 122
theorem slices_reverseRangeCmpFunc_f : Try.prog.funcs[slices_reverseRangeCmpFunc]? = some Try.f122 := Try.func122
theorem slices_reverseRangeCmpFunc_cb : Callable Try.prog slices_reverseRangeCmpFunc := ⟨⟨_, Try.func122, by kernel_rfl, by kernel_rfl⟩⟩
abbrev slices_partialInsertionSortCmpFunc : Nat := 123
theorem slices_partialInsertionSortCmpFunc_f : Try.prog.funcs[slices_partialInsertionSortCmpFunc]? = some Try.f123 := Try.func123
theorem slices_partialInsertionSortCmpFunc_cb : Callable Try.prog slices_partialInsertionSortCmpFunc := ⟨⟨_, Try.func123, by kernel_rfl, by kernel_rfl⟩⟩
abbrev slices_partitionEqualCmpFunc : Nat := 124
theorem slices_partitionEqualCmpFunc_f : Try.prog.funcs[slices_partitionEqualCmpFunc]? = some Try.f124 := Try.func124
theorem slices_partitionEqualCmpFunc_cb : Callable Try.prog slices_partitionEqualCmpFunc := ⟨⟨_, Try.func124, by kernel_rfl, by kernel_rfl⟩⟩
abbrev slices_partitionCmpFunc : Nat := 125
theorem slices_partitionCmpFunc_f : Try.prog.funcs[slices_partitionCmpFunc]? = some Try.f125 := Try.func125
theorem slices_partitionCmpFunc_cb : Callable Try.prog slices_partitionCmpFunc := ⟨⟨_, Try.func125, by kernel_rfl, by kernel_rfl⟩⟩
abbrev math_bits_Len32 : Nat := 126
theorem math_bits_Len32_f : Try.prog.funcs[math_bits_Len32]? = some Try.f126 := Try.func126
theorem math_bits_Len32_cb : Callable Try.prog math_bits_Len32 := ⟨⟨_, Try.func126, by kernel_rfl, by kernel_rfl⟩⟩
abbrev math_bits_Len64 : Nat := 127
theorem math_bits_Len64_f : Try.prog.funcs[math_bits_Len64]? = some Try.f127 := Try.func127
theorem math_bits_Len64_cb : Callable Try.prog math_bits_Len64 := ⟨⟨_, Try.func127, by kernel_rfl, by kernel_rfl⟩⟩
abbrev cmp_isNaN_byte : Nat := 128
theorem cmp_isNaN_byte_f : Try.prog.funcs[cmp_isNaN_byte]? = some Try.f128 := Try.func128
theorem cmp_isNaN_byte_cb : Callable Try.prog cmp_isNaN_byte := ⟨⟨_, Try.func128, by kernel_rfl, by kernel_rfl⟩⟩
abbrev cmp_isNaN_int : Nat := 129
theorem cmp_isNaN_int_f : Try.prog.funcs[cmp_isNaN_int]? = some Try.f129 := Try.func129
theorem cmp_isNaN_int_cb : Callable Try.prog cmp_isNaN_int := ⟨⟨_, Try.func129, by kernel_rfl, by kernel_rfl⟩⟩
abbrev cmp_Compare_string : Nat := 130
theorem cmp_Compare_string_f : Try.prog.funcs[cmp_Compare_string]? = some Try.f130 := Try.func130
theorem cmp_Compare_string_cb : Callable Try.prog cmp_Compare_string := ⟨⟨_, Try.func130, by kernel_rfl, by kernel_rfl⟩⟩
abbrev ref07_within : Nat := 131
theorem ref07_within_f : Try.prog.funcs[ref07_within]? = some Try.f131 := Try.func131
theorem ref07_within_cb : Callable Try.prog ref07_within := ⟨⟨_, Try.func131, by kernel_rfl, by kernel_rfl⟩⟩
abbrev slices_siftDownCmpFunc : Nat := 132
theorem slices_siftDownCmpFunc_f : Try.prog.funcs[slices_siftDownCmpFunc]? = some Try.f132 := Try.func132
theorem slices_siftDownCmpFunc_cb : Callable Try.prog slices_siftDownCmpFunc := ⟨⟨_, Try.func132, by kernel_rfl, by kernel_rfl⟩⟩
abbrev slices_nextPowerOfTwo : Nat := 133
theorem slices_nextPowerOfTwo_f : Try.prog.funcs[slices_nextPowerOfTwo]? = some Try.f133 := Try.func133
theorem slices_nextPowerOfTwo_cb : Callable Try.prog slices_nextPowerOfTwo := ⟨⟨_, Try.func133, by kernel_rfl, by kernel_rfl⟩⟩
abbrev slices_xorshift_Next : Nat := 134
theorem slices_xorshift_Next_f : Try.prog.funcs[slices_xorshift_Next]? = some Try.f134 := Try.func134
theorem slices_xorshift_Next_cb : Callable Try.prog slices_xorshift_Next := ⟨⟨_, Try.func134, by kernel_rfl, by kernel_rfl⟩⟩
abbrev slices_medianAdjacentCmpFunc : Nat := 135
theorem slices_medianAdjacentCmpFunc_f : Try.prog.funcs[slices_medianAdjacentCmpFunc]? = some Try.f135 := Try.func135
theorem slices_medianAdjacentCmpFunc_cb : Callable Try.prog slices_medianAdjacentCmpFunc := ⟨⟨_, Try.func135, by kernel_rfl, by kernel_rfl⟩⟩
abbrev slices_medianCmpFunc : Nat := 136
theorem slices_medianCmpFunc_f : Try.prog.funcs[slices_medianCmpFunc]? = some Try.f136 := Try.func136
theorem slices_medianCmpFunc_cb : Callable Try.prog slices_medianCmpFunc := ⟨⟨_, Try.func136, by kernel_rfl, by kernel_rfl⟩⟩
abbrev cmp_isNaN_string : Nat := 137
theorem cmp_isNaN_string_f : Try.prog.funcs[cmp_isNaN_string]? = some Try.f137 := Try.func137
theorem cmp_isNaN_string_cb : Callable Try.prog cmp_isNaN_string := ⟨⟨_, Try.func137, by kernel_rfl, by kernel_rfl⟩⟩
abbrev slices_order2CmpFunc : Nat := 138
theorem slices_order2CmpFunc_f : Try.prog.funcs[slices_order2CmpFunc]? = some Try.f138 := Try.func138
theorem slices_order2CmpFunc_cb : Callable Try.prog slices_order2CmpFunc := ⟨⟨_, Try.func138, by kernel_rfl, by kernel_rfl⟩⟩
end F
namespace T
abbrev int : Nat := 3
theorem u_int : Try.prog.underlying int = some (.int .i64) := Try.underlying3
theorem sz_int : Sz Try.prog int 1 := by unfold Sz; kernel_rfl
theorem cell_int : NoR Try.prog int := ⟨_, Try.underlying3, rfl⟩
abbrev bool : Nat := 4
theorem u_bool : Try.prog.underlying bool = some (.bool) := Try.underlying4
theorem sz_bool : Sz Try.prog bool 1 := by unfold Sz; kernel_rfl
theorem cell_bool : NoR Try.prog bool := ⟨_, Try.underlying4, rfl⟩
abbrev u8 : Nat := 5
theorem u_u8 : Try.prog.underlying u8 = some (.int .u8) := Try.underlying5
theorem sz_u8 : Sz Try.prog u8 1 := by unfold Sz; kernel_rfl
theorem cell_u8 : NoR Try.prog u8 := ⟨_, Try.underlying5, rfl⟩
abbrev string : Nat := 9
theorem u_string : Try.prog.underlying string = some (.string) := Try.underlying9
theorem sz_string : Sz Try.prog string 1 := by unfold Sz; kernel_rfl
theorem cell_string : NoR Try.prog string := ⟨_, Try.underlying9, rfl⟩
abbrev strs : Nat := 22
theorem u_strs : Try.prog.underlying strs = some (.slice 9) := Try.underlying22
theorem sz_strs : Sz Try.prog strs 1 := by unfold Sz; kernel_rfl
theorem cell_strs : NoR Try.prog strs := ⟨_, Try.underlying22, rfl⟩
theorem zi_strs : (Try.prog.info? 9).map (fun i => (i.zero, i.size, i.bytes)) = some (some (.string ⟨#[]⟩), 1, 16) := by kernel_rfl
theorem el_strs : ElT Try.prog strs 9 1 16 := ElT.of (z := (.string ⟨#[]⟩)) Try.underlying22 (by kernel_rfl) rfl (by decide)
abbrev ints : Nat := 23
theorem u_ints : Try.prog.underlying ints = some (.slice 3) := Try.underlying23
theorem sz_ints : Sz Try.prog ints 1 := by unfold Sz; kernel_rfl
theorem cell_ints : NoR Try.prog ints := ⟨_, Try.underlying23, rfl⟩
theorem zi_ints : (Try.prog.info? 3).map (fun i => (i.zero, i.size, i.bytes)) = some (some (.int .i64 0), 1, 8) := by kernel_rfl
theorem el_ints : ElT Try.prog ints 3 1 8 := ElT.of (z := (.int .i64 0)) Try.underlying23 (by kernel_rfl) rfl (by decide)
abbrev P_wayzgoosekit_Dice : Nat := 26
theorem u_P_wayzgoosekit_Dice : Try.prog.underlying P_wayzgoosekit_Dice = some (.pointer 90) := Try.underlying26
theorem sz_P_wayzgoosekit_Dice : Sz Try.prog P_wayzgoosekit_Dice 1 := by unfold Sz; kernel_rfl
theorem cell_P_wayzgoosekit_Dice : NoR Try.prog P_wayzgoosekit_Dice := ⟨_, Try.underlying26, rfl⟩
abbrev pages : Nat := 29
theorem u_pages : Try.prog.underlying pages = some (.slice 22) := Try.underlying29
theorem sz_pages : Sz Try.prog pages 1 := by unfold Sz; kernel_rfl
theorem cell_pages : NoR Try.prog pages := ⟨_, Try.underlying29, rfl⟩
theorem zi_pages : (Try.prog.info? 22).map (fun i => (i.zero, i.size, i.bytes)) = some (some (.slice none 0 0), 1, 24) := by kernel_rfl
theorem el_pages : ElT Try.prog pages 22 1 24 := ElT.of (z := (.slice none 0 0)) Try.underlying29 (by kernel_rfl) rfl (by decide)
abbrev L_api_Mark : Nat := 31
theorem u_L_api_Mark : Try.prog.underlying L_api_Mark = some (.slice 63) := Try.underlying31
theorem sz_L_api_Mark : Sz Try.prog L_api_Mark 1 := by unfold Sz; kernel_rfl
theorem cell_L_api_Mark : NoR Try.prog L_api_Mark := ⟨_, Try.underlying31, rfl⟩
theorem zi_L_api_Mark : (Try.prog.info? 63).map (fun i => (i.zero, i.size, i.bytes)) = some (some (.agg #[(.int .i64 0), (.int .i64 0), (.string ⟨#[]⟩)]), 3, 32) := by kernel_rfl
theorem el_L_api_Mark : ElT Try.prog L_api_Mark 63 3 32 := ElT.of (z := (.agg #[(.int .i64 0), (.int .i64 0), (.string ⟨#[]⟩)])) Try.underlying31 (by kernel_rfl) rfl (by decide)
abbrev api_Errno : Nat := 32
theorem u_api_Errno : Try.prog.underlying api_Errno = some (.int .i64) := Try.underlying32
theorem sz_api_Errno : Sz Try.prog api_Errno 1 := by unfold Sz; kernel_rfl
theorem cell_api_Errno : NoR Try.prog api_Errno := ⟨_, Try.underlying32, rfl⟩
abbrev L_L_api_Mark : Nat := 40
theorem u_L_L_api_Mark : Try.prog.underlying L_L_api_Mark = some (.slice 31) := Try.underlying40
theorem sz_L_L_api_Mark : Sz Try.prog L_L_api_Mark 1 := by unfold Sz; kernel_rfl
theorem cell_L_L_api_Mark : NoR Try.prog L_L_api_Mark := ⟨_, Try.underlying40, rfl⟩
theorem zi_L_L_api_Mark : (Try.prog.info? 31).map (fun i => (i.zero, i.size, i.bytes)) = some (some (.slice none 0 0), 1, 24) := by kernel_rfl
theorem el_L_L_api_Mark : ElT Try.prog L_L_api_Mark 31 1 24 := ElT.of (z := (.slice none 0 0)) Try.underlying40 (by kernel_rfl) rfl (by decide)
abbrev L_L_L_string : Nat := 51
theorem u_L_L_L_string : Try.prog.underlying L_L_L_string = some (.slice 29) := Try.underlying51
theorem sz_L_L_L_string : Sz Try.prog L_L_L_string 1 := by unfold Sz; kernel_rfl
theorem cell_L_L_L_string : NoR Try.prog L_L_L_string := ⟨_, Try.underlying51, rfl⟩
theorem zi_L_L_L_string : (Try.prog.info? 29).map (fun i => (i.zero, i.size, i.bytes)) = some (some (.slice none 0 0), 1, 24) := by kernel_rfl
theorem el_L_L_L_string : ElT Try.prog L_L_L_string 29 1 24 := ElT.of (z := (.slice none 0 0)) Try.underlying51 (by kernel_rfl) rfl (by decide)
abbrev api_Flaw : Nat := 54
theorem sz_api_Flaw : Sz Try.prog api_Flaw 2 := by unfold Sz; kernel_rfl
theorem row_api_Flaw : IsR Try.prog api_Flaw := ⟨_, Try.underlying54, rfl⟩
abbrev func_L_int_bool : Nat := 59
theorem sz_func_L_int_bool : Sz Try.prog func_L_int_bool 1 := by unfold Sz; kernel_rfl
theorem cell_func_L_int_bool : NoR Try.prog func_L_int_bool := ⟨_, Try.underlying59, rfl⟩
abbrev intss : Nat := 60
theorem u_intss : Try.prog.underlying intss = some (.slice 23) := Try.underlying60
theorem sz_intss : Sz Try.prog intss 1 := by unfold Sz; kernel_rfl
theorem cell_intss : NoR Try.prog intss := ⟨_, Try.underlying60, rfl⟩
theorem zi_intss : (Try.prog.info? 23).map (fun i => (i.zero, i.size, i.bytes)) = some (some (.slice none 0 0), 1, 24) := by kernel_rfl
theorem el_intss : ElT Try.prog intss 23 1 24 := ElT.of (z := (.slice none 0 0)) Try.underlying60 (by kernel_rfl) rfl (by decide)
abbrev api_Mark : Nat := 63
theorem sz_api_Mark : Sz Try.prog api_Mark 3 := by unfold Sz; kernel_rfl
theorem row_api_Mark : IsR Try.prog api_Mark := ⟨_, Try.underlying63, rfl⟩
abbrev P_L_api_Mark : Nat := 71
theorem u_P_L_api_Mark : Try.prog.underlying P_L_api_Mark = some (.pointer 31) := Try.underlying71
theorem sz_P_L_api_Mark : Sz Try.prog P_L_api_Mark 1 := by unfold Sz; kernel_rfl
theorem cell_P_L_api_Mark : NoR Try.prog P_L_api_Mark := ⟨_, Try.underlying71, rfl⟩
abbrev P_bool : Nat := 72
theorem u_P_bool : Try.prog.underlying P_bool = some (.pointer 4) := Try.underlying72
theorem sz_P_bool : Sz Try.prog P_bool 1 := by unfold Sz; kernel_rfl
theorem cell_P_bool : NoR Try.prog P_bool := ⟨_, Try.underlying72, rfl⟩
abbrev L_api_Type : Nat := 78
theorem u_L_api_Type : Try.prog.underlying L_api_Type = some (.slice 82) := Try.underlying78
theorem sz_L_api_Type : Sz Try.prog L_api_Type 1 := by unfold Sz; kernel_rfl
theorem cell_L_api_Type : NoR Try.prog L_api_Type := ⟨_, Try.underlying78, rfl⟩
theorem zi_L_api_Type : (Try.prog.info? 82).map (fun i => (i.zero, i.size, i.bytes)) = some (some (.agg #[(.string ⟨#[]⟩), (.int .i64 0)]), 2, 24) := by kernel_rfl
theorem el_L_api_Type : ElT Try.prog L_api_Type 82 2 24 := ElT.of (z := (.agg #[(.string ⟨#[]⟩), (.int .i64 0)])) Try.underlying78 (by kernel_rfl) rfl (by decide)
abbrev api_Type : Nat := 82
theorem sz_api_Type : Sz Try.prog api_Type 2 := by unfold Sz; kernel_rfl
theorem row_api_Type : IsR Try.prog api_Type := ⟨_, Try.underlying82, rfl⟩
abbrev u64 : Nat := 88
theorem u_u64 : Try.prog.underlying u64 = some (.int .u64) := Try.underlying88
theorem sz_u64 : Sz Try.prog u64 1 := by unfold Sz; kernel_rfl
theorem cell_u64 : NoR Try.prog u64 := ⟨_, Try.underlying88, rfl⟩
abbrev wayzgoosekit_Dice : Nat := 90
theorem sz_wayzgoosekit_Dice : Sz Try.prog wayzgoosekit_Dice 3 := by unfold Sz; kernel_rfl
theorem row_wayzgoosekit_Dice : IsR Try.prog wayzgoosekit_Dice := ⟨_, Try.underlying90, rfl⟩
abbrev uint : Nat := 94
theorem u_uint : Try.prog.underlying uint = some (.int .u64) := Try.underlying94
theorem sz_uint : Sz Try.prog uint 1 := by unfold Sz; kernel_rfl
theorem cell_uint : NoR Try.prog uint := ⟨_, Try.underlying94, rfl⟩
abbrev map_string_int : Nat := 110
theorem u_map_string_int : Try.prog.underlying map_string_int = some (.map 9 3) := Try.underlying110
theorem sz_map_string_int : Sz Try.prog map_string_int 1 := by unfold Sz; kernel_rfl
theorem cell_map_string_int : NoR Try.prog map_string_int := ⟨_, Try.underlying110, rfl⟩
abbrev L_uint8 : Nat := 114
theorem u_L_uint8 : Try.prog.underlying L_uint8 = some (.slice 5) := Try.underlying114
theorem sz_L_uint8 : Sz Try.prog L_uint8 1 := by unfold Sz; kernel_rfl
theorem cell_L_uint8 : NoR Try.prog L_uint8 := ⟨_, Try.underlying114, rfl⟩
theorem zi_L_uint8 : (Try.prog.info? 5).map (fun i => (i.zero, i.size, i.bytes)) = some (some (.int .u8 0), 1, 1) := by kernel_rfl
theorem el_L_uint8 : ElT Try.prog L_uint8 5 1 1 := ElT.of (z := (.int .u8 0)) Try.underlying114 (by kernel_rfl) rfl (by decide)
abbrev func_api_Type_api_Type_int : Nat := 115
theorem sz_func_api_Type_api_Type_int : Sz Try.prog func_api_Type_api_Type_int 1 := by unfold Sz; kernel_rfl
theorem cell_func_api_Type_api_Type_int : NoR Try.prog func_api_Type_api_Type_int := ⟨_, Try.underlying115, rfl⟩
abbrev map_2_int_proof_list : Nat := 116
theorem u_map_2_int_proof_list : Try.prog.underlying map_2_int_proof_list = some (.map 120 119) := Try.underlying116
theorem sz_map_2_int_proof_list : Sz Try.prog map_2_int_proof_list 1 := by unfold Sz; kernel_rfl
theorem cell_map_2_int_proof_list : NoR Try.prog map_2_int_proof_list := ⟨_, Try.underlying116, rfl⟩
abbrev func_int_int_proof_list : Nat := 117
theorem sz_func_int_int_proof_list : Sz Try.prog func_int_int_proof_list 1 := by unfold Sz; kernel_rfl
theorem cell_func_int_int_proof_list : NoR Try.prog func_int_int_proof_list := ⟨_, Try.underlying117, rfl⟩
abbrev proof_list : Nat := 119
theorem sz_proof_list : Sz Try.prog proof_list 2 := by unfold Sz; kernel_rfl
theorem row_proof_list : IsR Try.prog proof_list := ⟨_, Try.underlying119, rfl⟩
abbrev A2_int : Nat := 120
theorem u_A2_int : Try.prog.underlying A2_int = some (.array 2 3) := Try.underlying120
theorem sz_A2_int : Sz Try.prog A2_int 2 := by unfold Sz; kernel_rfl
theorem row_A2_int : IsR Try.prog A2_int := ⟨_, Try.underlying120, rfl⟩
abbrev L_proof_list : Nat := 122
theorem u_L_proof_list : Try.prog.underlying L_proof_list = some (.slice 119) := Try.underlying122
theorem sz_L_proof_list : Sz Try.prog L_proof_list 1 := by unfold Sz; kernel_rfl
theorem cell_L_proof_list : NoR Try.prog L_proof_list := ⟨_, Try.underlying122, rfl⟩
theorem zi_L_proof_list : (Try.prog.info? 119).map (fun i => (i.zero, i.size, i.bytes)) = some (some (.agg #[(.int .i64 0), (.slice none 0 0)]), 2, 32) := by kernel_rfl
theorem el_L_proof_list : ElT Try.prog L_proof_list 119 2 32 := ElT.of (z := (.agg #[(.int .i64 0), (.slice none 0 0)])) Try.underlying122 (by kernel_rfl) rfl (by decide)
abbrev func_proof_list_proof_list_int : Nat := 125
theorem sz_func_proof_list_proof_list_int : Sz Try.prog func_proof_list_proof_list_int 1 := by unfold Sz; kernel_rfl
theorem cell_func_proof_list_proof_list_int : NoR Try.prog func_proof_list_proof_list_int := ⟨_, Try.underlying125, rfl⟩
abbrev P_proof_press : Nat := 130
theorem u_P_proof_press : Try.prog.underlying P_proof_press = some (.pointer 132) := Try.underlying130
theorem sz_P_proof_press : Sz Try.prog P_proof_press 1 := by unfold Sz; kernel_rfl
theorem cell_P_proof_press : NoR Try.prog P_proof_press := ⟨_, Try.underlying130, rfl⟩
abbrev proof_press : Nat := 132
theorem sz_proof_press : Sz Try.prog proof_press 2 := by unfold Sz; kernel_rfl
theorem row_proof_press : IsR Try.prog proof_press := ⟨_, Try.underlying132, rfl⟩
abbrev map_int_func_P_proof_press_api_Mark : Nat := 133
theorem u_map_int_func_P_proof_press_api_Mark : Try.prog.underlying map_int_func_P_proof_press_api_Mark = some (.map 3 135) := Try.underlying133
theorem sz_map_int_func_P_proof_press_api_Mark : Sz Try.prog map_int_func_P_proof_press_api_Mark 1 := by unfold Sz; kernel_rfl
theorem cell_map_int_func_P_proof_press_api_Mark : NoR Try.prog map_int_func_P_proof_press_api_Mark := ⟨_, Try.underlying133, rfl⟩
abbrev func_P_proof_press_api_Mark : Nat := 135
theorem sz_func_P_proof_press_api_Mark : Sz Try.prog func_P_proof_press_api_Mark 1 := by unfold Sz; kernel_rfl
theorem cell_func_P_proof_press_api_Mark : NoR Try.prog func_P_proof_press_api_Mark := ⟨_, Try.underlying135, rfl⟩
abbrev func_api_Mark_api_Mark_int : Nat := 145
theorem sz_func_api_Mark_api_Mark_int : Sz Try.prog func_api_Mark_api_Mark_int 1 := by unfold Sz; kernel_rfl
theorem cell_func_api_Mark_api_Mark_int : NoR Try.prog func_api_Mark_api_Mark_int := ⟨_, Try.underlying145, rfl⟩
abbrev slices_sortedHint : Nat := 149
theorem u_slices_sortedHint : Try.prog.underlying slices_sortedHint = some (.int .i64) := Try.underlying149
theorem sz_slices_sortedHint : Sz Try.prog slices_sortedHint 1 := by unfold Sz; kernel_rfl
theorem cell_slices_sortedHint : NoR Try.prog slices_sortedHint := ⟨_, Try.underlying149, rfl⟩
abbrev uint32 : Nat := 156
theorem u_uint32 : Try.prog.underlying uint32 = some (.int .u32) := Try.underlying156
theorem sz_uint32 : Sz Try.prog uint32 1 := by unfold Sz; kernel_rfl
theorem cell_uint32 : NoR Try.prog uint32 := ⟨_, Try.underlying156, rfl⟩
abbrev slices_xorshift : Nat := 161
theorem u_slices_xorshift : Try.prog.underlying slices_xorshift = some (.int .u64) := Try.underlying161
theorem sz_slices_xorshift : Sz Try.prog slices_xorshift 1 := by unfold Sz; kernel_rfl
theorem cell_slices_xorshift : NoR Try.prog slices_xorshift := ⟨_, Try.underlying161, rfl⟩
abbrev P_int : Nat := 164
theorem u_P_int : Try.prog.underlying P_int = some (.pointer 3) := Try.underlying164
theorem sz_P_int : Sz Try.prog P_int 1 := by unfold Sz; kernel_rfl
theorem cell_P_int : NoR Try.prog P_int := ⟨_, Try.underlying164, rfl⟩
theorem fa_api_Flaw_0 (p : Addr) (w : World) : (Instr.fieldAt 54 (.pointer (some p)) 0).run Try.prog w = .ok (.pointer (some (p.add 0))) w := by kernel_rfl
theorem fa_api_Flaw_1 (p : Addr) (w : World) : (Instr.fieldAt 54 (.pointer (some p)) 1).run Try.prog w = .ok (.pointer (some (p.add 1))) w := by kernel_rfl
theorem fa_api_Mark_0 (p : Addr) (w : World) : (Instr.fieldAt 63 (.pointer (some p)) 0).run Try.prog w = .ok (.pointer (some (p.add 0))) w := by kernel_rfl
theorem fa_api_Mark_1 (p : Addr) (w : World) : (Instr.fieldAt 63 (.pointer (some p)) 1).run Try.prog w = .ok (.pointer (some (p.add 1))) w := by kernel_rfl
theorem fa_api_Mark_2 (p : Addr) (w : World) : (Instr.fieldAt 63 (.pointer (some p)) 2).run Try.prog w = .ok (.pointer (some (p.add 2))) w := by kernel_rfl
theorem fa_api_Type_0 (p : Addr) (w : World) : (Instr.fieldAt 82 (.pointer (some p)) 0).run Try.prog w = .ok (.pointer (some (p.add 0))) w := by kernel_rfl
theorem fa_api_Type_1 (p : Addr) (w : World) : (Instr.fieldAt 82 (.pointer (some p)) 1).run Try.prog w = .ok (.pointer (some (p.add 1))) w := by kernel_rfl
theorem fa_wayzgoosekit_Dice_0 (p : Addr) (w : World) : (Instr.fieldAt 90 (.pointer (some p)) 0).run Try.prog w = .ok (.pointer (some (p.add 0))) w := by kernel_rfl
theorem fa_wayzgoosekit_Dice_1 (p : Addr) (w : World) : (Instr.fieldAt 90 (.pointer (some p)) 1).run Try.prog w = .ok (.pointer (some (p.add 1))) w := by kernel_rfl
theorem fa_wayzgoosekit_Dice_2 (p : Addr) (w : World) : (Instr.fieldAt 90 (.pointer (some p)) 2).run Try.prog w = .ok (.pointer (some (p.add 2))) w := by kernel_rfl
theorem fa_proof_list_0 (p : Addr) (w : World) : (Instr.fieldAt 119 (.pointer (some p)) 0).run Try.prog w = .ok (.pointer (some (p.add 0))) w := by kernel_rfl
theorem fa_proof_list_1 (p : Addr) (w : World) : (Instr.fieldAt 119 (.pointer (some p)) 1).run Try.prog w = .ok (.pointer (some (p.add 1))) w := by kernel_rfl
theorem fa_proof_press_0 (p : Addr) (w : World) : (Instr.fieldAt 132 (.pointer (some p)) 0).run Try.prog w = .ok (.pointer (some (p.add 0))) w := by kernel_rfl
theorem fa_proof_press_1 (p : Addr) (w : World) : (Instr.fieldAt 132 (.pointer (some p)) 1).run Try.prog w = .ok (.pointer (some (p.add 1))) w := by kernel_rfl
theorem f_proof_list_1 (x1 : Value) (x2 : Value) (w : World) : (Instr.field 119 (.agg #[x1, x2]) 1).run Try.prog w = .ok x2 w := by kernel_rfl
theorem al_int (w : World) : (Instr.alloc 3 true (.tuple #[])).run Try.prog w = .ok (.pointer (some ⟨w.heap.size, 0, none⟩)) (w.alloc (.cells #[(.int .i64 0)] 3 (0, 0))) := by kernel_rfl
theorem al_bool (w : World) : (Instr.alloc 4 true (.tuple #[])).run Try.prog w = .ok (.pointer (some ⟨w.heap.size, 0, none⟩)) (w.alloc (.cells #[(.bool false)] 4 (0, 0))) := by kernel_rfl
theorem al_ints (w : World) : (Instr.alloc 23 true (.tuple #[])).run Try.prog w = .ok (.pointer (some ⟨w.heap.size, 0, none⟩)) (w.alloc (.cells #[(.slice none 0 0)] 23 (0, 0))) := by kernel_rfl
theorem al_L_api_Mark (w : World) : (Instr.alloc 31 true (.tuple #[])).run Try.prog w = .ok (.pointer (some ⟨w.heap.size, 0, none⟩)) (w.alloc (.cells #[(.slice none 0 0)] 31 (0, 0))) := by kernel_rfl
theorem al_api_Errno (w : World) : (Instr.alloc 32 true (.tuple #[])).run Try.prog w = .ok (.pointer (some ⟨w.heap.size, 0, none⟩)) (w.alloc (.cells #[(.int .i64 0)] 32 (0, 0))) := by kernel_rfl
theorem al_api_Flaw (w : World) : (Instr.alloc 54 true (.tuple #[])).run Try.prog w = .ok (.pointer (some ⟨w.heap.size, 0, none⟩)) (w.alloc (.cells #[(.int .i64 0), (.int .i64 0)] 54 (0, 0))) := by kernel_rfl
theorem al_func_L_int_bool (w : World) : (Instr.alloc 59 true (.tuple #[])).run Try.prog w = .ok (.pointer (some ⟨w.heap.size, 0, none⟩)) (w.alloc (.cells #[.nilFunc] 59 (0, 0))) := by kernel_rfl
theorem al_api_Mark (w : World) : (Instr.alloc 63 true (.tuple #[])).run Try.prog w = .ok (.pointer (some ⟨w.heap.size, 0, none⟩)) (w.alloc (.cells #[(.int .i64 0), (.int .i64 0), (.string ⟨#[]⟩)] 63 (0, 0))) := by kernel_rfl
theorem al_map_2_int_proof_list (w : World) : (Instr.alloc 116 true (.tuple #[])).run Try.prog w = .ok (.pointer (some ⟨w.heap.size, 0, none⟩)) (w.alloc (.cells #[(.map none)] 116 (0, 0))) := by kernel_rfl
theorem al_func_int_int_proof_list (w : World) : (Instr.alloc 117 true (.tuple #[])).run Try.prog w = .ok (.pointer (some ⟨w.heap.size, 0, none⟩)) (w.alloc (.cells #[.nilFunc] 117 (0, 0))) := by kernel_rfl
theorem al_proof_list (w : World) : (Instr.alloc 119 true (.tuple #[])).run Try.prog w = .ok (.pointer (some ⟨w.heap.size, 0, none⟩)) (w.alloc (.cells #[(.int .i64 0), (.slice none 0 0)] 119 (0, 0))) := by kernel_rfl
theorem al_A2_int (w : World) : (Instr.alloc 120 true (.tuple #[])).run Try.prog w = .ok (.pointer (some ⟨w.heap.size, 0, none⟩)) (w.alloc (.cells #[(.int .i64 0), (.int .i64 0)] 120 (0, 0))) := by kernel_rfl
theorem al_slices_xorshift (w : World) : (Instr.alloc 161 true (.tuple #[])).run Try.prog w = .ok (.pointer (some ⟨w.heap.size, 0, none⟩)) (w.alloc (.cells #[(.int .u64 0)] 161 (0, 0))) := by kernel_rfl
theorem bd_api_Flaw_  (w : World) : (Instr.build 54 #[]).run Try.prog w = .ok (.agg #[(.int .i64 0), (.int .i64 0)]) w := by kernel_rfl
theorem bd_api_Flaw_0_1 (x1 : Int) (x2 : Int) (w : World) : (Instr.build 54 #[(0, (.int .i64 x1)), (1, (.int .i64 x2))]).run Try.prog w = .ok (.agg #[(.int .i64 x1), (.int .i64 x2)]) w := by kernel_rfl
theorem bd_api_Mark_0_1 (x1 : Int) (x2 : Int) (w : World) : (Instr.build 63 #[(0, (.int .i64 x1)), (1, (.int .i64 x2))]).run Try.prog w = .ok (.agg #[(.int .i64 x1), (.int .i64 x2), (.string ⟨#[]⟩)]) w := by kernel_rfl
theorem bd_api_Mark_0_1_2 (x1 : Int) (x2 : Int) (x3 : ByteArray) (w : World) : (Instr.build 63 #[(0, (.int .i64 x1)), (1, (.int .i64 x2)), (2, (.string x3))]).run Try.prog w = .ok (.agg #[(.int .i64 x1), (.int .i64 x2), (.string x3)]) w := by kernel_rfl
theorem bd_api_Type_0_1 (x1 : ByteArray) (x2 : Int) (w : World) : (Instr.build 82 #[(0, (.string x1)), (1, (.int .i64 x2))]).run Try.prog w = .ok (.agg #[(.string x1), (.int .i64 x2)]) w := by kernel_rfl
theorem bd_wayzgoosekit_Dice_0_2 (x1 : Option Addr) (x2 : Nat) (x3 : Nat) (x4 : Int) (w : World) : (Instr.build 90 #[(0, (.slice x1 x2 x3)), (2, (.int .u64 x4))]).run Try.prog w = .ok (.agg #[(.slice x1 x2 x3), (.int .i64 0), (.int .u64 x4)]) w := by kernel_rfl
theorem bd_proof_list_  (w : World) : (Instr.build 119 #[]).run Try.prog w = .ok (.agg #[(.int .i64 0), (.slice none 0 0)]) w := by kernel_rfl
theorem bd_proof_list_0_1 (x1 : Int) (x2 : Option Addr) (x3 : Nat) (x4 : Nat) (w : World) : (Instr.build 119 #[(0, (.int .i64 x1)), (1, (.slice x2 x3 x4))]).run Try.prog w = .ok (.agg #[(.int .i64 x1), (.slice x2 x3 x4)]) w := by kernel_rfl
theorem bd_A2_int_0_1 (x1 : Int) (x2 : Int) (w : World) : (Instr.build 120 #[(0, (.int .i64 x1)), (1, (.int .i64 x2))]).run Try.prog w = .ok (.agg #[(.int .i64 x1), (.int .i64 x2)]) w := by kernel_rfl
theorem bd_proof_press_  (w : World) : (Instr.build 132 #[]).run Try.prog w = .ok (.agg #[(.slice none 0 0), (.int .i64 0)]) w := by kernel_rfl
theorem bs_strs_0  (w : World) : (Instr.buildSlice 22 0 #[]).run Try.prog w = .ok (.slice (some ⟨w.heap.size, 0, none⟩) 0 0) (w.alloc (.cells #[] 9 (0, 0))) := by kernel_rfl
theorem bs_strs_1 (x1 : ByteArray) (w : World) : (Instr.buildSlice 22 1 #[(0, (.string x1))]).run Try.prog w = .ok (.slice (some ⟨w.heap.size, 0, none⟩) 1 1) (w.alloc (.cells #[(.string x1)] 9 (0, 0))) := by kernel_rfl
theorem bs_strs_2 (x1 : ByteArray) (x2 : ByteArray) (w : World) : (Instr.buildSlice 22 2 #[(0, (.string x1)), (1, (.string x2))]).run Try.prog w = .ok (.slice (some ⟨w.heap.size, 0, none⟩) 2 2) (w.alloc (.cells #[(.string x1), (.string x2)] 9 (0, 0))) := by kernel_rfl
theorem bs_strs_3 (x1 : ByteArray) (x2 : ByteArray) (x3 : ByteArray) (w : World) : (Instr.buildSlice 22 3 #[(0, (.string x1)), (1, (.string x2)), (2, (.string x3))]).run Try.prog w = .ok (.slice (some ⟨w.heap.size, 0, none⟩) 3 3) (w.alloc (.cells #[(.string x1), (.string x2), (.string x3)] 9 (0, 0))) := by kernel_rfl
theorem bs_strs_4 (x1 : ByteArray) (x2 : ByteArray) (x3 : ByteArray) (x4 : ByteArray) (w : World) : (Instr.buildSlice 22 4 #[(0, (.string x1)), (1, (.string x2)), (2, (.string x3)), (3, (.string x4))]).run Try.prog w = .ok (.slice (some ⟨w.heap.size, 0, none⟩) 4 4) (w.alloc (.cells #[(.string x1), (.string x2), (.string x3), (.string x4)] 9 (0, 0))) := by kernel_rfl
theorem bs_strs_6 (x1 : ByteArray) (x2 : ByteArray) (x3 : ByteArray) (x4 : ByteArray) (x5 : ByteArray) (x6 : ByteArray) (w : World) : (Instr.buildSlice 22 6 #[(0, (.string x1)), (1, (.string x2)), (2, (.string x3)), (3, (.string x4)), (4, (.string x5)), (5, (.string x6))]).run Try.prog w = .ok (.slice (some ⟨w.heap.size, 0, none⟩) 6 6) (w.alloc (.cells #[(.string x1), (.string x2), (.string x3), (.string x4), (.string x5), (.string x6)] 9 (0, 0))) := by kernel_rfl
theorem bs_ints_0  (w : World) : (Instr.buildSlice 23 0 #[]).run Try.prog w = .ok (.slice (some ⟨w.heap.size, 0, none⟩) 0 0) (w.alloc (.cells #[] 3 (0, 0))) := by kernel_rfl
theorem bs_ints_1 (x1 : Int) (w : World) : (Instr.buildSlice 23 1 #[(0, (.int .i64 x1))]).run Try.prog w = .ok (.slice (some ⟨w.heap.size, 0, none⟩) 1 1) (w.alloc (.cells #[(.int .i64 x1)] 3 (0, 0))) := by kernel_rfl
theorem bs_ints_3 (x1 : Int) (x2 : Int) (x3 : Int) (w : World) : (Instr.buildSlice 23 3 #[(0, (.int .i64 x1)), (1, (.int .i64 x2)), (2, (.int .i64 x3))]).run Try.prog w = .ok (.slice (some ⟨w.heap.size, 0, none⟩) 3 3) (w.alloc (.cells #[(.int .i64 x1), (.int .i64 x2), (.int .i64 x3)] 3 (0, 0))) := by kernel_rfl
theorem bs_pages_0  (w : World) : (Instr.buildSlice 29 0 #[]).run Try.prog w = .ok (.slice (some ⟨w.heap.size, 0, none⟩) 0 0) (w.alloc (.cells #[] 22 (0, 0))) := by kernel_rfl
theorem bs_pages_1 (x1 : Option Addr) (x2 : Nat) (x3 : Nat) (w : World) : (Instr.buildSlice 29 1 #[(0, (.slice x1 x2 x3))]).run Try.prog w = .ok (.slice (some ⟨w.heap.size, 0, none⟩) 1 1) (w.alloc (.cells #[(.slice x1 x2 x3)] 22 (0, 0))) := by kernel_rfl
theorem bs_pages_2 (x1 : Option Addr) (x2 : Nat) (x3 : Nat) (x4 : Option Addr) (x5 : Nat) (x6 : Nat) (w : World) : (Instr.buildSlice 29 2 #[(0, (.slice x1 x2 x3)), (1, (.slice x4 x5 x6))]).run Try.prog w = .ok (.slice (some ⟨w.heap.size, 0, none⟩) 2 2) (w.alloc (.cells #[(.slice x1 x2 x3), (.slice x4 x5 x6)] 22 (0, 0))) := by kernel_rfl
theorem bs_pages_3 (x1 : Option Addr) (x2 : Nat) (x3 : Nat) (x4 : Option Addr) (x5 : Nat) (x6 : Nat) (x7 : Option Addr) (x8 : Nat) (x9 : Nat) (w : World) : (Instr.buildSlice 29 3 #[(0, (.slice x1 x2 x3)), (1, (.slice x4 x5 x6)), (2, (.slice x7 x8 x9))]).run Try.prog w = .ok (.slice (some ⟨w.heap.size, 0, none⟩) 3 3) (w.alloc (.cells #[(.slice x1 x2 x3), (.slice x4 x5 x6), (.slice x7 x8 x9)] 22 (0, 0))) := by kernel_rfl
theorem bs_pages_4 (x1 : Option Addr) (x2 : Nat) (x3 : Nat) (x4 : Option Addr) (x5 : Nat) (x6 : Nat) (x7 : Option Addr) (x8 : Nat) (x9 : Nat) (x10 : Option Addr) (x11 : Nat) (x12 : Nat) (w : World) : (Instr.buildSlice 29 4 #[(0, (.slice x1 x2 x3)), (1, (.slice x4 x5 x6)), (2, (.slice x7 x8 x9)), (3, (.slice x10 x11 x12))]).run Try.prog w = .ok (.slice (some ⟨w.heap.size, 0, none⟩) 4 4) (w.alloc (.cells #[(.slice x1 x2 x3), (.slice x4 x5 x6), (.slice x7 x8 x9), (.slice x10 x11 x12)] 22 (0, 0))) := by kernel_rfl
theorem bs_L_api_Mark_0  (w : World) : (Instr.buildSlice 31 0 #[]).run Try.prog w = .ok (.slice (some ⟨w.heap.size, 0, none⟩) 0 0) (w.alloc (.cells #[] 63 (0, 0))) := by kernel_rfl
theorem bs_L_api_Mark_1 (x1 : Int) (x2 : Int) (x3 : ByteArray) (w : World) : (Instr.buildSlice 31 1 #[(0, (.agg #[(.int .i64 x1), (.int .i64 x2), (.string x3)]))]).run Try.prog w = .ok (.slice (some ⟨w.heap.size, 0, none⟩) 1 1) (w.alloc (.cells #[(.int .i64 x1), (.int .i64 x2), (.string x3)] 63 (0, 0))) := by kernel_rfl
theorem bs_L_api_Mark_2 (x1 : Int) (x2 : Int) (x3 : ByteArray) (x4 : Int) (x5 : Int) (x6 : ByteArray) (w : World) : (Instr.buildSlice 31 2 #[(0, (.agg #[(.int .i64 x1), (.int .i64 x2), (.string x3)])), (1, (.agg #[(.int .i64 x4), (.int .i64 x5), (.string x6)]))]).run Try.prog w = .ok (.slice (some ⟨w.heap.size, 0, none⟩) 2 2) (w.alloc (.cells #[(.int .i64 x1), (.int .i64 x2), (.string x3), (.int .i64 x4), (.int .i64 x5), (.string x6)] 63 (0, 0))) := by kernel_rfl
theorem bs_L_api_Mark_3 (x1 : Int) (x2 : Int) (x3 : ByteArray) (x4 : Int) (x5 : Int) (x6 : ByteArray) (x7 : Int) (x8 : Int) (x9 : ByteArray) (w : World) : (Instr.buildSlice 31 3 #[(0, (.agg #[(.int .i64 x1), (.int .i64 x2), (.string x3)])), (1, (.agg #[(.int .i64 x4), (.int .i64 x5), (.string x6)])), (2, (.agg #[(.int .i64 x7), (.int .i64 x8), (.string x9)]))]).run Try.prog w = .ok (.slice (some ⟨w.heap.size, 0, none⟩) 3 3) (w.alloc (.cells #[(.int .i64 x1), (.int .i64 x2), (.string x3), (.int .i64 x4), (.int .i64 x5), (.string x6), (.int .i64 x7), (.int .i64 x8), (.string x9)] 63 (0, 0))) := by kernel_rfl
theorem bs_L_L_api_Mark_3 (x1 : Option Addr) (x2 : Nat) (x3 : Nat) (x4 : Option Addr) (x5 : Nat) (x6 : Nat) (x7 : Option Addr) (x8 : Nat) (x9 : Nat) (w : World) : (Instr.buildSlice 40 3 #[(0, (.slice x1 x2 x3)), (1, (.slice x4 x5 x6)), (2, (.slice x7 x8 x9))]).run Try.prog w = .ok (.slice (some ⟨w.heap.size, 0, none⟩) 3 3) (w.alloc (.cells #[(.slice x1 x2 x3), (.slice x4 x5 x6), (.slice x7 x8 x9)] 31 (0, 0))) := by kernel_rfl
theorem bs_L_L_api_Mark_4 (x1 : Option Addr) (x2 : Nat) (x3 : Nat) (x4 : Option Addr) (x5 : Nat) (x6 : Nat) (x7 : Option Addr) (x8 : Nat) (x9 : Nat) (x10 : Option Addr) (x11 : Nat) (x12 : Nat) (w : World) : (Instr.buildSlice 40 4 #[(0, (.slice x1 x2 x3)), (1, (.slice x4 x5 x6)), (2, (.slice x7 x8 x9)), (3, (.slice x10 x11 x12))]).run Try.prog w = .ok (.slice (some ⟨w.heap.size, 0, none⟩) 4 4) (w.alloc (.cells #[(.slice x1 x2 x3), (.slice x4 x5 x6), (.slice x7 x8 x9), (.slice x10 x11 x12)] 31 (0, 0))) := by kernel_rfl
theorem bs_L_L_L_string_4 (x1 : Option Addr) (x2 : Nat) (x3 : Nat) (x4 : Option Addr) (x5 : Nat) (x6 : Nat) (x7 : Option Addr) (x8 : Nat) (x9 : Nat) (x10 : Option Addr) (x11 : Nat) (x12 : Nat) (w : World) : (Instr.buildSlice 51 4 #[(0, (.slice x1 x2 x3)), (1, (.slice x4 x5 x6)), (2, (.slice x7 x8 x9)), (3, (.slice x10 x11 x12))]).run Try.prog w = .ok (.slice (some ⟨w.heap.size, 0, none⟩) 4 4) (w.alloc (.cells #[(.slice x1 x2 x3), (.slice x4 x5 x6), (.slice x7 x8 x9), (.slice x10 x11 x12)] 29 (0, 0))) := by kernel_rfl
theorem bs_intss_1 (x1 : Option Addr) (x2 : Nat) (x3 : Nat) (w : World) : (Instr.buildSlice 60 1 #[(0, (.slice x1 x2 x3))]).run Try.prog w = .ok (.slice (some ⟨w.heap.size, 0, none⟩) 1 1) (w.alloc (.cells #[(.slice x1 x2 x3)] 23 (0, 0))) := by kernel_rfl
theorem bs_L_api_Type_1 (x1 : ByteArray) (x2 : Int) (w : World) : (Instr.buildSlice 78 1 #[(0, (.agg #[(.string x1), (.int .i64 x2)]))]).run Try.prog w = .ok (.slice (some ⟨w.heap.size, 0, none⟩) 1 1) (w.alloc (.cells #[(.string x1), (.int .i64 x2)] 82 (0, 0))) := by kernel_rfl
theorem bs_L_proof_list_1 (x1 : Int) (x2 : Option Addr) (x3 : Nat) (x4 : Nat) (w : World) : (Instr.buildSlice 122 1 #[(0, (.agg #[(.int .i64 x1), (.slice x2 x3 x4)]))]).run Try.prog w = .ok (.slice (some ⟨w.heap.size, 0, none⟩) 1 1) (w.alloc (.cells #[(.int .i64 x1), (.slice x2 x3 x4)] 119 (0, 0))) := by kernel_rfl
theorem eqi_api_Flaw (a0 b0 : Int) (a1 b1 : Int) (w : World) : (Op.equalIn 10000 54 (.agg #[.int .i64 a0, .int .i64 a1]) (.agg #[.int .i64 b0, .int .i64 b1])).run Try.prog w = .ok (decide ((a0, a1) = (b0, b1))) w := by
  rw [run_equalIn_agg w 9999 54 _ _ (by simp only [Program.fieldsOf, Try.underlying54]) (by kernel_rfl)]
  simp only [Program.fieldsOf, Try.underlying54]
  by_cases h0 : a0 = b0 <;> by_cases h1 : a1 = b1 <;>
    simp [Op.eqFields, part, isAgg, run_equalIn_int _ 9998 3 .i64 .i64 _ _ Try.underlying3, run_underlying Try.underlying3, h0, h1]
theorem eql_api_Flaw (a0 b0 : Int) (a1 b1 : Int) (w : World) : (binOp .eql 54 (.agg #[.int .i64 a0, .int .i64 a1]) (.agg #[.int .i64 b0, .int .i64 b1])).run Try.prog w = .ok (.bool (decide ((a0, a1) = (b0, b1)))) w := by rw [run_eql_struct, eqi_api_Flaw]; rfl
theorem neq_api_Flaw (a0 b0 : Int) (a1 b1 : Int) (w : World) : (binOp .neq 54 (.agg #[.int .i64 a0, .int .i64 a1]) (.agg #[.int .i64 b0, .int .i64 b1])).run Try.prog w = .ok (.bool (decide (¬ (a0, a1) = (b0, b1)))) w := by rw [run_neq_struct, eqi_api_Flaw, decide_not]; rfl
theorem eqg_api_Flaw (op : BinOp) (x y : Operand) (xs ys : Array Value) (w : World) : (eqGuard op 54 x y (.agg xs) (.agg ys)).run Try.prog w = .ok () w := run_eqGuard_agg w op 54 x y xs ys (by kernel_rfl)
theorem eqi_api_Mark (a0 b0 : Int) (a1 b1 : Int) (a2 b2 : Str) (w : World) : (Op.equalIn 10000 63 (.agg #[.int .i64 a0, .int .i64 a1, .string ⟨(a2 : Str).toArray⟩]) (.agg #[.int .i64 b0, .int .i64 b1, .string ⟨(b2 : Str).toArray⟩])).run Try.prog w = .ok (decide ((a0, a1, a2) = (b0, b1, b2))) w := by
  rw [run_equalIn_agg w 9999 63 _ _ (by simp only [Program.fieldsOf, Try.underlying63]) (by kernel_rfl)]
  simp only [Program.fieldsOf, Try.underlying63]
  by_cases h0 : a0 = b0 <;> by_cases h1 : a1 = b1 <;> by_cases h2 : a2 = b2 <;>
    simp [Op.eqFields, part, isAgg, run_equalIn_int _ 9998 3 .i64 .i64 _ _ Try.underlying3, run_equalIn_string _ 9998 9 _ _ Try.underlying9, run_underlying Try.underlying3, run_underlying Try.underlying9, h0, h1, h2]
theorem eql_api_Mark (a0 b0 : Int) (a1 b1 : Int) (a2 b2 : Str) (w : World) : (binOp .eql 63 (.agg #[.int .i64 a0, .int .i64 a1, .string ⟨(a2 : Str).toArray⟩]) (.agg #[.int .i64 b0, .int .i64 b1, .string ⟨(b2 : Str).toArray⟩])).run Try.prog w = .ok (.bool (decide ((a0, a1, a2) = (b0, b1, b2)))) w := by rw [run_eql_struct, eqi_api_Mark]; rfl
theorem neq_api_Mark (a0 b0 : Int) (a1 b1 : Int) (a2 b2 : Str) (w : World) : (binOp .neq 63 (.agg #[.int .i64 a0, .int .i64 a1, .string ⟨(a2 : Str).toArray⟩]) (.agg #[.int .i64 b0, .int .i64 b1, .string ⟨(b2 : Str).toArray⟩])).run Try.prog w = .ok (.bool (decide (¬ (a0, a1, a2) = (b0, b1, b2)))) w := by rw [run_neq_struct, eqi_api_Mark, decide_not]; rfl
theorem eqg_api_Mark (op : BinOp) (x y : Operand) (xs ys : Array Value) (w : World) : (eqGuard op 63 x y (.agg xs) (.agg ys)).run Try.prog w = .ok () w := run_eqGuard_agg w op 63 x y xs ys (by kernel_rfl)
end T
end Go.Proofs.Ytpbbgbjidhffoaa
