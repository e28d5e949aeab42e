/- Texts. -/
import Derived.Test.YtpfbbggmcbhboaaProg
import Derived.KernelRfl
import Derived.Laws.StructEq
import Derived.Test.YtpfbbggmcbhboaaBAe
import Derived.Test.YtpfbbggmcbhboaaBAg
import Derived.Test.YtpfbbggmcbhboaaBAf
set_option linter.unusedVariables false
set_option linter.unusedSimpArgs false
section
namespace Go.Proofs.Ytpfbbggmcbhboaa
open Go Go.W
theorem mixed : Try.prog.follows .mixedOrders = true := by kernel_rfl
namespace F
abbrev law07_ProofMerges : Nat := 3
abbrev law07_ProofMerged : Nat := 4
theorem law07_ProofMerged_f : Try.prog.funcs[law07_ProofMerged]? = some Try.f4 := Try.func4
abbrev law07_long : Nat := 5
abbrev law07_many : Nat := 6
abbrev law07_correcting : Nat := 7
theorem law07_correcting_f : Try.prog.funcs[law07_correcting]? = some Try.f7 := Try.func7
theorem law07_correcting_cb : Callable Try.prog law07_correcting := ⟨⟨_, Try.func7, by kernel_rfl, by kernel_rfl⟩⟩
abbrev kit_NewDice : Nat := 8
theorem kit_NewDice_f : Try.prog.funcs[kit_NewDice]? = some Try.f8 := Try.func8
theorem kit_NewDice_cb : Callable Try.prog kit_NewDice := ⟨⟨_, Try.func8, by kernel_rfl, by kernel_rfl⟩⟩
abbrev kit_PageOf : Nat := 9
theorem kit_PageOf_f : Try.prog.funcs[kit_PageOf]? = some Try.f9 := Try.func9
theorem kit_PageOf_cb : Callable Try.prog kit_PageOf := ⟨⟨_, Try.func9, by kernel_rfl, by kernel_rfl⟩⟩
abbrev kit_MarksOf : Nat := 10
theorem kit_MarksOf_f : Try.prog.funcs[kit_MarksOf]? = some Try.f10 := Try.func10
theorem kit_MarksOf_cb : Callable Try.prog kit_MarksOf := ⟨⟨_, Try.func10, by kernel_rfl, by kernel_rfl⟩⟩
abbrev kit_Dice_Once : Nat := 11
theorem kit_Dice_Once_f : Try.prog.funcs[kit_Dice_Once]? = some Try.f11 := Try.func11
theorem kit_Dice_Once_cb : Callable Try.prog kit_Dice_Once := ⟨⟨_, Try.func11, by kernel_rfl, by kernel_rfl⟩⟩
abbrev kit_Dice_To : Nat := 12
theorem kit_Dice_To_f : Try.prog.funcs[kit_Dice_To]? = some Try.f12 := Try.func12
theorem kit_Dice_To_cb : Callable Try.prog kit_Dice_To := ⟨⟨_, Try.func12, by kernel_rfl, by kernel_rfl⟩⟩
abbrev kit_DupStrings : Nat := 13
abbrev proof_Merge : Nat := 14
theorem proof_Merge_f : Try.prog.funcs[proof_Merge]? = some Try.f14 := Try.func14
theorem proof_Merge_cb : Callable Try.prog proof_Merge := ⟨⟨_, Try.func14, by kernel_rfl, by kernel_rfl⟩⟩
abbrev ref07_Merge : Nat := 15
abbrev kit_EqMarks : Nat := 16
theorem kit_EqMarks_f : Try.prog.funcs[kit_EqMarks]? = some Try.f16 := Try.func16
theorem kit_EqMarks_cb : Callable Try.prog kit_EqMarks := ⟨⟨_, Try.func16, by kernel_rfl, by kernel_rfl⟩⟩
abbrev kit_EqStrings : Nat := 17
theorem kit_EqStrings_f : Try.prog.funcs[kit_EqStrings]? = some Try.f17 := Try.func17
theorem kit_EqStrings_cb : Callable Try.prog kit_EqStrings := ⟨⟨_, Try.func17, by kernel_rfl, by kernel_rfl⟩⟩
abbrev law07_has : Nat := 18
theorem law07_has_f : Try.prog.funcs[law07_has]? = some Try.f18 := Try.func18
theorem law07_has_cb : Callable Try.prog law07_has := ⟨⟨_, Try.func18, by kernel_rfl, by kernel_rfl⟩⟩
abbrev proof_Cost : Nat := 19
theorem proof_Cost_f : Try.prog.funcs[proof_Cost]? = some Try.f19 := Try.func19
theorem proof_Cost_cb : Callable Try.prog proof_Cost := ⟨⟨_, Try.func19, by kernel_rfl, by kernel_rfl⟩⟩
abbrev proof_Apply : Nat := 20
theorem proof_Apply_f : Try.prog.funcs[proof_Apply]? = some Try.f20 := Try.func20
theorem proof_Apply_cb : Callable Try.prog proof_Apply := ⟨⟨_, Try.func20, by kernel_rfl, by kernel_rfl⟩⟩
abbrev law07_folk : Nat := 21
theorem law07_folk_f : Try.prog.funcs[law07_folk]? = some Try.f21 := Try.func21
theorem law07_folk_cb : Callable Try.prog law07_folk := ⟨⟨_, Try.func21, by kernel_rfl, by kernel_rfl⟩⟩
abbrev law07_slip : Nat := 22
theorem law07_slip_f : Try.prog.funcs[law07_slip]? = some Try.f22 := Try.func22
theorem law07_slip_cb : Callable Try.prog law07_slip := ⟨⟨_, Try.func22, by kernel_rfl, by kernel_rfl⟩⟩
abbrev proof_Diff : Nat := 23
theorem proof_Diff_f : Try.prog.funcs[proof_Diff]? = some Try.f23 := Try.func23
theorem proof_Diff_cb : Callable Try.prog proof_Diff := ⟨⟨_, Try.func23, by kernel_rfl, by kernel_rfl⟩⟩
abbrev proof_Steps : Nat := 24
theorem proof_Steps_f : Try.prog.funcs[proof_Steps]? = some Try.f24 := Try.func24
theorem proof_Steps_cb : Callable Try.prog proof_Steps := ⟨⟨_, Try.func24, by kernel_rfl, by kernel_rfl⟩⟩
abbrev law07_in : Nat := 25
theorem law07_in_f : Try.prog.funcs[law07_in]? = some Try.f25 := Try.func25
theorem law07_in_cb : Callable Try.prog law07_in := ⟨⟨_, Try.func25, by kernel_rfl, by kernel_rfl⟩⟩
abbrev law07_out : Nat := 26
theorem law07_out_f : Try.prog.funcs[law07_out]? = some Try.f26 := Try.func26
theorem law07_out_cb : Callable Try.prog law07_out := ⟨⟨_, Try.func26, by kernel_rfl, by kernel_rfl⟩⟩
abbrev proof_Origin : Nat := 27
theorem proof_Origin_f : Try.prog.funcs[proof_Origin]? = some Try.f27 := Try.func27
theorem proof_Origin_cb : Callable Try.prog proof_Origin := ⟨⟨_, Try.func27, by kernel_rfl, by kernel_rfl⟩⟩
abbrev law07_ages : Nat := 28
theorem law07_ages_f : Try.prog.funcs[law07_ages]? = some Try.f28 := Try.func28
theorem law07_ages_cb : Callable Try.prog law07_ages := ⟨⟨_, Try.func28, by kernel_rfl, by kernel_rfl⟩⟩
abbrev proof_Look : Nat := 29
theorem proof_Look_f : Try.prog.funcs[proof_Look]? = some Try.f29 := Try.func29
theorem proof_Look_cb : Callable Try.prog proof_Look := ⟨⟨_, Try.func29, by kernel_rfl, by kernel_rfl⟩⟩
abbrev kit_EqInts : Nat := 30
theorem kit_EqInts_f : Try.prog.funcs[kit_EqInts]? = some Try.f30 := Try.func30
theorem kit_EqInts_cb : Callable Try.prog kit_EqInts := ⟨⟨_, Try.func30, by kernel_rfl, by kernel_rfl⟩⟩
abbrev kit_LineOf : Nat := 31
theorem kit_LineOf_f : Try.prog.funcs[kit_LineOf]? = some Try.f31 := Try.func31
theorem kit_LineOf_cb : Callable Try.prog kit_LineOf := ⟨⟨_, Try.func31, by kernel_rfl, by kernel_rfl⟩⟩
abbrev kit_Dice_raw : Nat := 32
theorem kit_Dice_raw_f : Try.prog.funcs[kit_Dice_raw]? = some Try.f32 := Try.func32
theorem kit_Dice_raw_cb : Callable Try.prog kit_Dice_raw := ⟨⟨_, Try.func32, by kernel_rfl, by kernel_rfl⟩⟩
abbrev proof_checked : Nat := 33
theorem proof_checked_f : Try.prog.funcs[proof_checked]? = some Try.f33 := Try.func33
theorem proof_checked_cb : Callable Try.prog proof_checked := ⟨⟨_, Try.func33, by kernel_rfl, by kernel_rfl⟩⟩
abbrev proof_marksError : Nat := 34
theorem proof_marksError_f : Try.prog.funcs[proof_marksError]? = some Try.f34 := Try.func34
theorem proof_marksError_cb : Callable Try.prog proof_marksError := ⟨⟨_, Try.func34, by kernel_rfl, by kernel_rfl⟩⟩
abbrev proof_collect : Nat := 35
theorem proof_collect_f : Try.prog.funcs[proof_collect]? = some Try.f35 := Try.func35
theorem proof_collect_cb : Callable Try.prog proof_collect := ⟨⟨_, Try.func35, by kernel_rfl, by kernel_rfl⟩⟩
abbrev slices_Contains_strs : Nat := 36
theorem slices_Contains_strs_f : Try.prog.funcs[slices_Contains_strs]? = some Try.f36 := Try.func36
theorem slices_Contains_strs_cb : Callable Try.prog slices_Contains_strs := ⟨⟨_, Try.func36, by kernel_rfl, by kernel_rfl⟩⟩
abbrev ref07_Check : Nat := 37
abbrev ref07_checkMarks : Nat := 38
abbrev ref07_at : Nat := 39
abbrev proof_made : Nat := 40
theorem proof_made_f : Try.prog.funcs[proof_made]? = some Try.f40 := Try.func40
theorem proof_made_cb : Callable Try.prog proof_made := ⟨⟨_, Try.func40, by kernel_rfl, by kernel_rfl⟩⟩
abbrev law07_set : Nat := 41
theorem law07_set_f : Try.prog.funcs[law07_set]? = some Try.f41 := Try.func41
theorem law07_set_cb : Callable Try.prog law07_set := ⟨⟨_, Try.func41, by kernel_rfl, by kernel_rfl⟩⟩
abbrev proof_Check : Nat := 42
theorem proof_Check_f : Try.prog.funcs[proof_Check]? = some Try.f42 := Try.func42
theorem proof_Check_cb : Callable Try.prog proof_Check := ⟨⟨_, Try.func42, by kernel_rfl, by kernel_rfl⟩⟩
abbrev proof_diff : Nat := 43
theorem proof_diff_f : Try.prog.funcs[proof_diff]? = some Try.f43 := Try.func43
theorem proof_diff_cb : Callable Try.prog proof_diff := ⟨⟨_, Try.func43, by kernel_rfl, by kernel_rfl⟩⟩
abbrev proof_orders : Nat := 44
theorem proof_orders_f : Try.prog.funcs[proof_orders]? = some Try.f44 := Try.func44
theorem proof_orders_cb : Callable Try.prog proof_orders := ⟨⟨_, Try.func44, by kernel_rfl, by kernel_rfl⟩⟩
abbrev proof_asked : Nat := 45
theorem proof_asked_f : Try.prog.funcs[proof_asked]? = some Try.f45 := Try.func45
theorem proof_asked_cb : Callable Try.prog proof_asked := ⟨⟨_, Try.func45, by kernel_rfl, by kernel_rfl⟩⟩
abbrev proof_origin : Nat := 46
theorem proof_origin_f : Try.prog.funcs[proof_origin]? = some Try.f46 := Try.func46
theorem proof_origin_cb : Callable Try.prog proof_origin := ⟨⟨_, Try.func46, by kernel_rfl, by kernel_rfl⟩⟩
abbrev proof_yearsError : Nat := 47
theorem proof_yearsError_f : Try.prog.funcs[proof_yearsError]? = some Try.f47 := Try.func47
theorem proof_yearsError_cb : Callable Try.prog proof_yearsError := ⟨⟨_, Try.func47, by kernel_rfl, by kernel_rfl⟩⟩
abbrev kit_Dice_Word : Nat := 48
theorem kit_Dice_Word_f : Try.prog.funcs[kit_Dice_Word]? = some Try.f48 := Try.func48
theorem kit_Dice_Word_cb : Callable Try.prog kit_Dice_Word := ⟨⟨_, Try.func48, by kernel_rfl, by kernel_rfl⟩⟩
abbrev proof_textError : Nat := 49
theorem proof_textError_f : Try.prog.funcs[proof_textError]? = some Try.f49 := Try.func49
theorem proof_textError_cb : Callable Try.prog proof_textError := ⟨⟨_, Try.func49, by kernel_rfl, by kernel_rfl⟩⟩
abbrev proof_send : Nat := 50
theorem proof_send_f : Try.prog.funcs[proof_send]? = some Try.f50 := Try.func50
theorem proof_send_cb : Callable Try.prog proof_send := ⟨⟨_, Try.func50, by kernel_rfl, by kernel_rfl⟩⟩
abbrev proof_desk_take : Nat := 51
theorem proof_desk_take_f : Try.prog.funcs[proof_desk_take]? = some Try.f51 := Try.func51
theorem proof_desk_take_cb : Callable Try.prog proof_desk_take := ⟨⟨_, Try.func51, by kernel_rfl, by kernel_rfl⟩⟩
abbrev slices_Index_strs : Nat := 52
theorem slices_Index_strs_f : Try.prog.funcs[slices_Index_strs]? = some Try.f52 := Try.func52
theorem slices_Index_strs_cb : Callable Try.prog slices_Index_strs := ⟨⟨_, Try.func52, by kernel_rfl, by kernel_rfl⟩⟩
abbrev ref07_CheckLine : Nat := 53
abbrev ref07_checkMark : Nat := 54
abbrev proof_deeds : Nat := 55
theorem proof_deeds_f : Try.prog.funcs[proof_deeds]? = some Try.f55 := Try.func55
theorem proof_deeds_cb : Callable Try.prog proof_deeds := ⟨⟨_, Try.func55, by kernel_rfl, by kernel_rfl⟩⟩
abbrev proof_lineError : Nat := 56
theorem proof_lineError_f : Try.prog.funcs[proof_lineError]? = some Try.f56 := Try.func56
theorem proof_lineError_cb : Callable Try.prog proof_lineError := ⟨⟨_, Try.func56, by kernel_rfl, by kernel_rfl⟩⟩
abbrev proof_diff_1 : Nat := 57
theorem proof_diff_1_f : Try.prog.funcs[proof_diff_1]? = some Try.f57 := Try.func57
theorem proof_diff_1_cb : Callable Try.prog proof_diff_1 := ⟨⟨_, Try.func57, by kernel_rfl, by kernel_rfl⟩⟩
abbrev proof_list_behind : Nat := 58
theorem proof_list_behind_f : Try.prog.funcs[proof_list_behind]? = some Try.f58 := Try.func58
theorem proof_list_behind_cb : Callable Try.prog proof_list_behind := ⟨⟨_, Try.func58, by kernel_rfl, by kernel_rfl⟩⟩
abbrev proof_least : Nat := 59
theorem proof_least_f : Try.prog.funcs[proof_least]? = some Try.f59 := Try.func59
theorem proof_least_cb : Callable Try.prog proof_least := ⟨⟨_, Try.func59, by kernel_rfl, by kernel_rfl⟩⟩
abbrev proof_compareLists : Nat := 60
theorem proof_compareLists_f : Try.prog.funcs[proof_compareLists]? = some Try.f60 := Try.func60
theorem proof_compareLists_cb : Callable Try.prog proof_compareLists := ⟨⟨_, Try.func60, by kernel_rfl, by kernel_rfl⟩⟩
abbrev proof_orders_1 : Nat := 61
theorem proof_orders_1_f : Try.prog.funcs[proof_orders_1]? = some Try.f61 := Try.func61
theorem proof_orders_1_cb : Callable Try.prog proof_orders_1 := ⟨⟨_, Try.func61, by kernel_rfl, by kernel_rfl⟩⟩
abbrev proof_orders_1_1 : Nat := 62
theorem proof_orders_1_1_f : Try.prog.funcs[proof_orders_1_1]? = some Try.f62 := Try.func62
theorem proof_orders_1_1_cb : Callable Try.prog proof_orders_1_1 := ⟨⟨_, Try.func62, by kernel_rfl, by kernel_rfl⟩⟩
abbrev slices_Contains_ints : Nat := 63
theorem slices_Contains_ints_f : Try.prog.funcs[slices_Contains_ints]? = some Try.f63 := Try.func63
theorem slices_Contains_ints_cb : Callable Try.prog slices_Contains_ints := ⟨⟨_, Try.func63, by kernel_rfl, by kernel_rfl⟩⟩
abbrev slices_Clone_ints : Nat := 64
theorem slices_Clone_ints_f : Try.prog.funcs[slices_Clone_ints]? = some Try.f64 := Try.func64
theorem slices_Clone_ints_cb : Callable Try.prog slices_Clone_ints := ⟨⟨_, Try.func64, by kernel_rfl, by kernel_rfl⟩⟩
abbrev proof_send_1 : Nat := 65
theorem proof_send_1_f : Try.prog.funcs[proof_send_1]? = some Try.f65 := Try.func65
abbrev ref07_within : Nat := 66
abbrev proof_deeds_1 : Nat := 67
theorem proof_deeds_1_f : Try.prog.funcs[proof_deeds_1]? = some Try.f67 := Try.func67
theorem proof_deeds_1_cb : Callable Try.prog proof_deeds_1 := ⟨⟨_, Try.func67, by kernel_rfl, by kernel_rfl⟩⟩
abbrev proof_deeds_2 : Nat := 68
theorem proof_deeds_2_f : Try.prog.funcs[proof_deeds_2]? = some Try.f68 := Try.func68
theorem proof_deeds_2_cb : Callable Try.prog proof_deeds_2 := ⟨⟨_, Try.func68, by kernel_rfl, by kernel_rfl⟩⟩
abbrev proof_deeds_3 : Nat := 69
theorem proof_deeds_3_f : Try.prog.funcs[proof_deeds_3]? = some Try.f69 := Try.func69
theorem proof_deeds_3_cb : Callable Try.prog proof_deeds_3 := ⟨⟨_, Try.func69, by kernel_rfl, by kernel_rfl⟩⟩
abbrev strings_HasPrefix : Nat := 70
theorem strings_HasPrefix_f : Try.prog.funcs[strings_HasPrefix]? = some Try.f70 := Try.func70
theorem strings_HasPrefix_cb : Callable Try.prog strings_HasPrefix := ⟨⟨_, Try.func70, by kernel_rfl, by kernel_rfl⟩⟩
abbrev strings_HasSuffix : Nat := 71
theorem strings_HasSuffix_f : Try.prog.funcs[strings_HasSuffix]? = some Try.f71 := Try.func71
theorem strings_HasSuffix_cb : Callable Try.prog strings_HasSuffix := ⟨⟨_, Try.func71, by kernel_rfl, by kernel_rfl⟩⟩
abbrev cmp_Or_int : Nat := 72
theorem cmp_Or_int_f : Try.prog.funcs[cmp_Or_int]? = some Try.f72 := Try.func72
theorem cmp_Or_int_cb : Callable Try.prog cmp_Or_int := ⟨⟨_, Try.func72, by kernel_rfl, by kernel_rfl⟩⟩
abbrev cmp_Compare_int : Nat := 73
theorem cmp_Compare_int_f : Try.prog.funcs[cmp_Compare_int]? = some Try.f73 := Try.func73
theorem cmp_Compare_int_cb : Callable Try.prog cmp_Compare_int := ⟨⟨_, Try.func73, by kernel_rfl, by kernel_rfl⟩⟩
abbrev slices_CompareFunc : Nat := 74
theorem slices_CompareFunc_f : Try.prog.funcs[slices_CompareFunc]? = some Try.f74 := Try.func74
theorem slices_CompareFunc_cb : Callable Try.prog slices_CompareFunc := ⟨⟨_, Try.func74, by kernel_rfl, by kernel_rfl⟩⟩
abbrev proof_compareMarks : Nat := 75
theorem proof_compareMarks_f : Try.prog.funcs[proof_compareMarks]? = some Try.f75 := Try.func75
theorem proof_compareMarks_cb : Callable Try.prog proof_compareMarks := ⟨⟨_, Try.func75, by kernel_rfl, by kernel_rfl⟩⟩
abbrev slices_Index_ints : Nat := 76
theorem slices_Index_ints_f : Try.prog.funcs[slices_Index_ints]? = some Try.f76 := Try.func76
theorem slices_Index_ints_cb : Callable Try.prog slices_Index_ints := ⟨⟨_, Try.func76, by kernel_rfl, by kernel_rfl⟩⟩
abbrev internal_stringslite_HasPrefix : Nat := 77
theorem internal_stringslite_HasPrefix_f : Try.prog.funcs[internal_stringslite_HasPrefix]? = some Try.f77 := Try.func77
theorem internal_stringslite_HasPrefix_cb : Callable Try.prog internal_stringslite_HasPrefix := ⟨⟨_, Try.func77, by kernel_rfl, by kernel_rfl⟩⟩
abbrev internal_stringslite_HasSuffix : Nat := 78
theorem internal_stringslite_HasSuffix_f : Try.prog.funcs[internal_stringslite_HasSuffix]? = some Try.f78 := Try.func78
theorem internal_stringslite_HasSuffix_cb : Callable Try.prog internal_stringslite_HasSuffix := ⟨⟨_, Try.func78, by kernel_rfl, by kernel_rfl⟩⟩
abbrev cmp_isNaN_int : Nat := 79
theorem cmp_isNaN_int_f : Try.prog.funcs[cmp_isNaN_int]? = some Try.f79 := Try.func79
theorem cmp_isNaN_int_cb : Callable Try.prog cmp_isNaN_int := ⟨⟨_, Try.func79, by kernel_rfl, by kernel_rfl⟩⟩
abbrev cmp_Compare_string : Nat := 80
theorem cmp_Compare_string_f : Try.prog.funcs[cmp_Compare_string]? = some Try.f80 := Try.func80
theorem cmp_Compare_string_cb : Callable Try.prog cmp_Compare_string := ⟨⟨_, Try.func80, by kernel_rfl, by kernel_rfl⟩⟩
abbrev cmp_isNaN_string : Nat := 81
theorem cmp_isNaN_string_f : Try.prog.funcs[cmp_isNaN_string]? = some Try.f81 := Try.func81
theorem cmp_isNaN_string_cb : Callable Try.prog cmp_isNaN_string := ⟨⟨_, Try.func81, by kernel_rfl, by kernel_rfl⟩⟩
end F
namespace T
abbrev int : Nat := 3
theorem u_int : Try.prog.underlying int = some (.int .i64) := Try.underlying3
theorem sz_int : Sz Try.prog int 1 := by unfold Sz; kernel_rfl
theorem cell_int : NoR Try.prog int := ⟨_, Try.underlying3, rfl⟩
abbrev bool : Nat := 4
abbrev u8 : Nat := 5
theorem u_u8 : Try.prog.underlying u8 = some (.int .u8) := Try.underlying5
theorem sz_u8 : Sz Try.prog u8 1 := by unfold Sz; kernel_rfl
theorem cell_u8 : NoR Try.prog u8 := ⟨_, Try.underlying5, rfl⟩
abbrev string : Nat := 9
theorem u_string : Try.prog.underlying string = some (.string) := Try.underlying9
theorem sz_string : Sz Try.prog string 1 := by unfold Sz; kernel_rfl
theorem cell_string : NoR Try.prog string := ⟨_, Try.underlying9, rfl⟩
abbrev strs : Nat := 22
theorem u_strs : Try.prog.underlying strs = some (.slice 9) := Try.underlying22
theorem sz_strs : Sz Try.prog strs 1 := by unfold Sz; kernel_rfl
theorem cell_strs : NoR Try.prog strs := ⟨_, Try.underlying22, rfl⟩
theorem el_strs : ElT Try.prog strs 9 1 16 := ElT.of (z := (.string ⟨#[]⟩)) Try.underlying22 (by kernel_rfl) rfl (by decide)
abbrev L_api_Mark : Nat := 23
theorem u_L_api_Mark : Try.prog.underlying L_api_Mark = some (.slice 44) := Try.underlying23
theorem cell_L_api_Mark : NoR Try.prog L_api_Mark := ⟨_, Try.underlying23, rfl⟩
theorem el_L_api_Mark : ElT Try.prog L_api_Mark 44 3 32 := ElT.of (z := (.agg #[(.int .i64 0), (.int .i64 0), (.string ⟨#[]⟩)])) Try.underlying23 (by kernel_rfl) rfl (by decide)
abbrev ints : Nat := 24
theorem u_ints : Try.prog.underlying ints = some (.slice 3) := Try.underlying24
theorem sz_ints : Sz Try.prog ints 1 := by unfold Sz; kernel_rfl
theorem cell_ints : NoR Try.prog ints := ⟨_, Try.underlying24, rfl⟩
theorem el_ints : ElT Try.prog ints 3 1 8 := ElT.of (z := (.int .i64 0)) Try.underlying24 (by kernel_rfl) rfl (by decide)
abbrev P_wayzgoosekit_Dice : Nat := 28
abbrev pages : Nat := 34
theorem u_pages : Try.prog.underlying pages = some (.slice 22) := Try.underlying34
abbrev L_L_api_Mark : Nat := 35
abbrev api_Errno : Nat := 37
theorem sz_api_Errno : Sz Try.prog api_Errno 1 := by unfold Sz; kernel_rfl
theorem cell_api_Errno : NoR Try.prog api_Errno := ⟨_, Try.underlying37, rfl⟩
abbrev api_Mark : Nat := 44
theorem sz_api_Mark : Sz Try.prog api_Mark 3 := by unfold Sz; kernel_rfl
theorem row_api_Mark : IsR Try.prog api_Mark := ⟨_, Try.underlying44, rfl⟩
abbrev func_L_int_bool : Nat := 48
theorem sz_func_L_int_bool : Sz Try.prog func_L_int_bool 1 := by unfold Sz; kernel_rfl
theorem cell_func_L_int_bool : NoR Try.prog func_L_int_bool := ⟨_, Try.underlying48, rfl⟩
abbrev api_Flaw : Nat := 61
theorem sz_api_Flaw : Sz Try.prog api_Flaw 2 := by unfold Sz; kernel_rfl
theorem row_api_Flaw : IsR Try.prog api_Flaw := ⟨_, Try.underlying61, rfl⟩
abbrev u64 : Nat := 65
theorem u_u64 : Try.prog.underlying u64 = some (.int .u64) := Try.underlying65
theorem sz_u64 : Sz Try.prog u64 1 := by unfold Sz; kernel_rfl
theorem cell_u64 : NoR Try.prog u64 := ⟨_, Try.underlying65, rfl⟩
abbrev wayzgoosekit_Dice : Nat := 67
abbrev P_proof_desk : Nat := 72
abbrev map_int_L_string : Nat := 74
theorem u_map_int_L_string : Try.prog.underlying map_int_L_string = some (.map 3 22) := Try.underlying74
theorem sz_map_int_L_string : Sz Try.prog map_int_L_string 1 := by unfold Sz; kernel_rfl
theorem cell_map_int_L_string : NoR Try.prog map_int_L_string := ⟨_, Try.underlying74, rfl⟩
abbrev A2_map_int_L_string : Nat := 75
theorem u_A2_map_int_L_string : Try.prog.underlying A2_map_int_L_string = some (.array 2 74) := Try.underlying75
abbrev map_int_api_Mark : Nat := 76
theorem u_map_int_api_Mark : Try.prog.underlying map_int_api_Mark = some (.map 3 44) := Try.underlying76
theorem sz_map_int_api_Mark : Sz Try.prog map_int_api_Mark 1 := by unfold Sz; kernel_rfl
theorem cell_map_int_api_Mark : NoR Try.prog map_int_api_Mark := ⟨_, Try.underlying76, rfl⟩
abbrev A2_map_int_api_Mark : Nat := 77
theorem u_A2_map_int_api_Mark : Try.prog.underlying A2_map_int_api_Mark = some (.array 2 76) := Try.underlying77
abbrev proof_desk : Nat := 79
abbrev chan_api_Mark : Nat := 96
abbrev P_proof_press : Nat := 102
abbrev proof_press : Nat := 104
abbrev map_int_func_P_proof_press_api_Mark : Nat := 105
theorem u_map_int_func_P_proof_press_api_Mark : Try.prog.underlying map_int_func_P_proof_press_api_Mark = some (.map 3 107) := Try.underlying105
abbrev func_P_proof_press_api_Mark : Nat := 107
abbrev map_2_int_proof_list : Nat := 108
theorem u_map_2_int_proof_list : Try.prog.underlying map_2_int_proof_list = some (.map 112 111) := Try.underlying108
theorem sz_map_2_int_proof_list : Sz Try.prog map_2_int_proof_list 1 := by unfold Sz; kernel_rfl
theorem cell_map_2_int_proof_list : NoR Try.prog map_2_int_proof_list := ⟨_, Try.underlying108, rfl⟩
abbrev func_int_int_proof_list : Nat := 109
theorem sz_func_int_int_proof_list : Sz Try.prog func_int_int_proof_list 1 := by unfold Sz; kernel_rfl
theorem cell_func_int_int_proof_list : NoR Try.prog func_int_int_proof_list := ⟨_, Try.underlying109, rfl⟩
abbrev proof_list : Nat := 111
theorem sz_proof_list : Sz Try.prog proof_list 2 := by unfold Sz; kernel_rfl
theorem row_proof_list : IsR Try.prog proof_list := ⟨_, Try.underlying111, rfl⟩
abbrev A2_int : Nat := 112
theorem u_A2_int : Try.prog.underlying A2_int = some (.array 2 3) := Try.underlying112
theorem sz_A2_int : Sz Try.prog A2_int 2 := by unfold Sz; kernel_rfl
theorem row_A2_int : IsR Try.prog A2_int := ⟨_, Try.underlying112, rfl⟩
abbrev L_proof_list : Nat := 114
theorem u_L_proof_list : Try.prog.underlying L_proof_list = some (.slice 111) := Try.underlying114
theorem el_L_proof_list : ElT Try.prog L_proof_list 111 2 32 := ElT.of (z := (.agg #[(.int .i64 0), (.slice none 0 0)])) Try.underlying114 (by kernel_rfl) rfl (by decide)
abbrev func_proof_list_proof_list_int : Nat := 117
abbrev chan_api_Markx : Nat := 120
theorem sz_chan_api_Markx : Sz Try.prog chan_api_Markx 1 := by unfold Sz; kernel_rfl
theorem cell_chan_api_Markx : NoR Try.prog chan_api_Markx := ⟨_, Try.underlying120, rfl⟩
abbrev L_uint8 : Nat := 122
theorem u_L_uint8 : Try.prog.underlying L_uint8 = some (.slice 5) := Try.underlying122
abbrev func_api_Mark_api_Mark_int : Nat := 127
theorem fa_api_Mark_0 (p : Addr) (w : World) : (Instr.fieldAt 44 (.pointer (some p)) 0).run Try.prog w = .ok (.pointer (some (p.add 0))) w := by kernel_rfl
theorem fa_api_Mark_1 (p : Addr) (w : World) : (Instr.fieldAt 44 (.pointer (some p)) 1).run Try.prog w = .ok (.pointer (some (p.add 1))) w := by kernel_rfl
theorem fa_api_Mark_2 (p : Addr) (w : World) : (Instr.fieldAt 44 (.pointer (some p)) 2).run Try.prog w = .ok (.pointer (some (p.add 2))) w := by kernel_rfl
theorem fa_wayzgoosekit_Dice_0 (p : Addr) (w : World) : (Instr.fieldAt 67 (.pointer (some p)) 0).run Try.prog w = .ok (.pointer (some (p.add 0))) w := by kernel_rfl
theorem fa_wayzgoosekit_Dice_1 (p : Addr) (w : World) : (Instr.fieldAt 67 (.pointer (some p)) 1).run Try.prog w = .ok (.pointer (some (p.add 1))) w := by kernel_rfl
theorem fa_wayzgoosekit_Dice_2 (p : Addr) (w : World) : (Instr.fieldAt 67 (.pointer (some p)) 2).run Try.prog w = .ok (.pointer (some (p.add 2))) w := by kernel_rfl
theorem fa_proof_desk_0 (p : Addr) (w : World) : (Instr.fieldAt 79 (.pointer (some p)) 0).run Try.prog w = .ok (.pointer (some (p.add 0))) w := by kernel_rfl
theorem fa_proof_desk_1 (p : Addr) (w : World) : (Instr.fieldAt 79 (.pointer (some p)) 1).run Try.prog w = .ok (.pointer (some (p.add 2))) w := by kernel_rfl
theorem fa_proof_press_0 (p : Addr) (w : World) : (Instr.fieldAt 104 (.pointer (some p)) 0).run Try.prog w = .ok (.pointer (some (p.add 0))) w := by kernel_rfl
theorem fa_proof_press_1 (p : Addr) (w : World) : (Instr.fieldAt 104 (.pointer (some p)) 1).run Try.prog w = .ok (.pointer (some (p.add 1))) w := by kernel_rfl
theorem fa_proof_list_0 (p : Addr) (w : World) : (Instr.fieldAt 111 (.pointer (some p)) 0).run Try.prog w = .ok (.pointer (some (p.add 0))) w := by kernel_rfl
theorem fa_proof_list_1 (p : Addr) (w : World) : (Instr.fieldAt 111 (.pointer (some p)) 1).run Try.prog w = .ok (.pointer (some (p.add 1))) w := by kernel_rfl
theorem f_proof_list_1 (x1 : Value) (x2 : Value) (w : World) : (Instr.field 111 (.agg #[x1, x2]) 1).run Try.prog w = .ok x2 w := by kernel_rfl
theorem al_ints (w : World) : (Instr.alloc 24 true (.tuple #[])).run Try.prog w = .ok (.pointer (some ⟨w.heap.size, 0, none⟩)) (w.alloc (.cells #[(.slice none 0 0)] 24 (0, 0))) := by kernel_rfl
theorem al_api_Errno (w : World) : (Instr.alloc 37 true (.tuple #[])).run Try.prog w = .ok (.pointer (some ⟨w.heap.size, 0, none⟩)) (w.alloc (.cells #[(.int .i64 0)] 37 (0, 0))) := by kernel_rfl
theorem al_api_Mark (w : World) : (Instr.alloc 44 true (.tuple #[])).run Try.prog w = .ok (.pointer (some ⟨w.heap.size, 0, none⟩)) (w.alloc (.cells #[(.int .i64 0), (.int .i64 0), (.string ⟨#[]⟩)] 44 (0, 0))) := by kernel_rfl
theorem al_func_L_int_bool (w : World) : (Instr.alloc 48 true (.tuple #[])).run Try.prog w = .ok (.pointer (some ⟨w.heap.size, 0, none⟩)) (w.alloc (.cells #[.nilFunc] 48 (0, 0))) := by kernel_rfl
theorem al_api_Flaw (w : World) : (Instr.alloc 61 true (.tuple #[])).run Try.prog w = .ok (.pointer (some ⟨w.heap.size, 0, none⟩)) (w.alloc (.cells #[(.int .i64 0), (.int .i64 0)] 61 (0, 0))) := by kernel_rfl
theorem al_map_2_int_proof_list (w : World) : (Instr.alloc 108 true (.tuple #[])).run Try.prog w = .ok (.pointer (some ⟨w.heap.size, 0, none⟩)) (w.alloc (.cells #[(.map none)] 108 (0, 0))) := by kernel_rfl
theorem al_func_int_int_proof_list (w : World) : (Instr.alloc 109 true (.tuple #[])).run Try.prog w = .ok (.pointer (some ⟨w.heap.size, 0, none⟩)) (w.alloc (.cells #[.nilFunc] 109 (0, 0))) := by kernel_rfl
theorem al_proof_list (w : World) : (Instr.alloc 111 true (.tuple #[])).run Try.prog w = .ok (.pointer (some ⟨w.heap.size, 0, none⟩)) (w.alloc (.cells #[(.int .i64 0), (.slice none 0 0)] 111 (0, 0))) := by kernel_rfl
theorem al_A2_int (w : World) : (Instr.alloc 112 true (.tuple #[])).run Try.prog w = .ok (.pointer (some ⟨w.heap.size, 0, none⟩)) (w.alloc (.cells #[(.int .i64 0), (.int .i64 0)] 112 (0, 0))) := by kernel_rfl
theorem al_chan_api_Markx (w : World) : (Instr.alloc 120 true (.tuple #[])).run Try.prog w = .ok (.pointer (some ⟨w.heap.size, 0, none⟩)) (w.alloc (.cells #[(.chan none)] 120 (0, 0))) := by kernel_rfl
theorem bd_api_Mark_0_1 (x1 : Int) (x2 : Int) (w : World) : (Instr.build 44 #[(0, (.int .i64 x1)), (1, (.int .i64 x2))]).run Try.prog w = .ok (.agg #[(.int .i64 x1), (.int .i64 x2), (.string ⟨#[]⟩)]) w := by kernel_rfl
theorem bd_api_Mark_0_1_2 (x1 : Int) (x2 : Int) (x3 : ByteArray) (w : World) : (Instr.build 44 #[(0, (.int .i64 x1)), (1, (.int .i64 x2)), (2, (.string x3))]).run Try.prog w = .ok (.agg #[(.int .i64 x1), (.int .i64 x2), (.string x3)]) w := by kernel_rfl
theorem bd_api_Flaw_  (w : World) : (Instr.build 61 #[]).run Try.prog w = .ok (.agg #[(.int .i64 0), (.int .i64 0)]) w := by kernel_rfl
theorem bd_api_Flaw_0_1 (x1 : Int) (x2 : Int) (w : World) : (Instr.build 61 #[(0, (.int .i64 x1)), (1, (.int .i64 x2))]).run Try.prog w = .ok (.agg #[(.int .i64 x1), (.int .i64 x2)]) w := by kernel_rfl
theorem bd_wayzgoosekit_Dice_0_2 (x1 : Option Addr) (x2 : Nat) (x3 : Nat) (x4 : Int) (w : World) : (Instr.build 67 #[(0, (.slice x1 x2 x3)), (2, (.int .u64 x4))]).run Try.prog w = .ok (.agg #[(.slice x1 x2 x3), (.int .i64 0), (.int .u64 x4)]) w := by kernel_rfl
theorem bd_proof_desk_  (w : World) : (Instr.build 79 #[]).run Try.prog w = .ok (.agg #[(.map none), (.map none), (.map none), (.map none)]) w := by kernel_rfl
theorem bd_proof_press_  (w : World) : (Instr.build 104 #[]).run Try.prog w = .ok (.agg #[(.slice none 0 0), (.int .i64 0)]) w := by kernel_rfl
theorem bd_proof_list_  (w : World) : (Instr.build 111 #[]).run Try.prog w = .ok (.agg #[(.int .i64 0), (.slice none 0 0)]) w := by kernel_rfl
theorem bd_proof_list_0_1 (x1 : Int) (x2 : Option Addr) (x3 : Nat) (x4 : Nat) (w : World) : (Instr.build 111 #[(0, (.int .i64 x1)), (1, (.slice x2 x3 x4))]).run Try.prog w = .ok (.agg #[(.int .i64 x1), (.slice x2 x3 x4)]) w := by kernel_rfl
theorem bd_A2_int_0_1 (x1 : Int) (x2 : Int) (w : World) : (Instr.build 112 #[(0, (.int .i64 x1)), (1, (.int .i64 x2))]).run Try.prog w = .ok (.agg #[(.int .i64 x1), (.int .i64 x2)]) w := by kernel_rfl
theorem bs_strs_1 (x1 : ByteArray) (w : World) : (Instr.buildSlice 22 1 #[(0, (.string x1))]).run Try.prog w = .ok (.slice (some ⟨w.heap.size, 0, none⟩) 1 1) (w.alloc (.cells #[(.string x1)] 9 (0, 0))) := by kernel_rfl
theorem bs_strs_2 (x1 : ByteArray) (x2 : ByteArray) (w : World) : (Instr.buildSlice 22 2 #[(0, (.string x1)), (1, (.string x2))]).run Try.prog w = .ok (.slice (some ⟨w.heap.size, 0, none⟩) 2 2) (w.alloc (.cells #[(.string x1), (.string x2)] 9 (0, 0))) := by kernel_rfl
theorem bs_strs_3 (x1 : ByteArray) (x2 : ByteArray) (x3 : ByteArray) (w : World) : (Instr.buildSlice 22 3 #[(0, (.string x1)), (1, (.string x2)), (2, (.string x3))]).run Try.prog w = .ok (.slice (some ⟨w.heap.size, 0, none⟩) 3 3) (w.alloc (.cells #[(.string x1), (.string x2), (.string x3)] 9 (0, 0))) := by kernel_rfl
theorem bs_strs_4 (x1 : ByteArray) (x2 : ByteArray) (x3 : ByteArray) (x4 : ByteArray) (w : World) : (Instr.buildSlice 22 4 #[(0, (.string x1)), (1, (.string x2)), (2, (.string x3)), (3, (.string x4))]).run Try.prog w = .ok (.slice (some ⟨w.heap.size, 0, none⟩) 4 4) (w.alloc (.cells #[(.string x1), (.string x2), (.string x3), (.string x4)] 9 (0, 0))) := by kernel_rfl
theorem bs_strs_6 (x1 : ByteArray) (x2 : ByteArray) (x3 : ByteArray) (x4 : ByteArray) (x5 : ByteArray) (x6 : ByteArray) (w : World) : (Instr.buildSlice 22 6 #[(0, (.string x1)), (1, (.string x2)), (2, (.string x3)), (3, (.string x4)), (4, (.string x5)), (5, (.string x6))]).run Try.prog w = .ok (.slice (some ⟨w.heap.size, 0, none⟩) 6 6) (w.alloc (.cells #[(.string x1), (.string x2), (.string x3), (.string x4), (.string x5), (.string x6)] 9 (0, 0))) := by kernel_rfl
theorem bs_L_api_Mark_1 (x1 : Int) (x2 : Int) (x3 : ByteArray) (w : World) : (Instr.buildSlice 23 1 #[(0, (.agg #[(.int .i64 x1), (.int .i64 x2), (.string x3)]))]).run Try.prog w = .ok (.slice (some ⟨w.heap.size, 0, none⟩) 1 1) (w.alloc (.cells #[(.int .i64 x1), (.int .i64 x2), (.string x3)] 44 (0, 0))) := by kernel_rfl
theorem bs_L_api_Mark_2 (x1 : Int) (x2 : Int) (x3 : ByteArray) (x4 : Int) (x5 : Int) (x6 : ByteArray) (w : World) : (Instr.buildSlice 23 2 #[(0, (.agg #[(.int .i64 x1), (.int .i64 x2), (.string x3)])), (1, (.agg #[(.int .i64 x4), (.int .i64 x5), (.string x6)]))]).run Try.prog w = .ok (.slice (some ⟨w.heap.size, 0, none⟩) 2 2) (w.alloc (.cells #[(.int .i64 x1), (.int .i64 x2), (.string x3), (.int .i64 x4), (.int .i64 x5), (.string x6)] 44 (0, 0))) := by kernel_rfl
theorem bs_L_api_Mark_3 (x1 : Int) (x2 : Int) (x3 : ByteArray) (x4 : Int) (x5 : Int) (x6 : ByteArray) (x7 : Int) (x8 : Int) (x9 : ByteArray) (w : World) : (Instr.buildSlice 23 3 #[(0, (.agg #[(.int .i64 x1), (.int .i64 x2), (.string x3)])), (1, (.agg #[(.int .i64 x4), (.int .i64 x5), (.string x6)])), (2, (.agg #[(.int .i64 x7), (.int .i64 x8), (.string x9)]))]).run Try.prog w = .ok (.slice (some ⟨w.heap.size, 0, none⟩) 3 3) (w.alloc (.cells #[(.int .i64 x1), (.int .i64 x2), (.string x3), (.int .i64 x4), (.int .i64 x5), (.string x6), (.int .i64 x7), (.int .i64 x8), (.string x9)] 44 (0, 0))) := by kernel_rfl
theorem bs_ints_0  (w : World) : (Instr.buildSlice 24 0 #[]).run Try.prog w = .ok (.slice (some ⟨w.heap.size, 0, none⟩) 0 0) (w.alloc (.cells #[] 3 (0, 0))) := by kernel_rfl
theorem bs_ints_1 (x1 : Int) (w : World) : (Instr.buildSlice 24 1 #[(0, (.int .i64 x1))]).run Try.prog w = .ok (.slice (some ⟨w.heap.size, 0, none⟩) 1 1) (w.alloc (.cells #[(.int .i64 x1)] 3 (0, 0))) := by kernel_rfl
theorem bs_ints_3 (x1 : Int) (x2 : Int) (x3 : Int) (w : World) : (Instr.buildSlice 24 3 #[(0, (.int .i64 x1)), (1, (.int .i64 x2)), (2, (.int .i64 x3))]).run Try.prog w = .ok (.slice (some ⟨w.heap.size, 0, none⟩) 3 3) (w.alloc (.cells #[(.int .i64 x1), (.int .i64 x2), (.int .i64 x3)] 3 (0, 0))) := by kernel_rfl
theorem bs_pages_2 (x1 : Option Addr) (x2 : Nat) (x3 : Nat) (x4 : Option Addr) (x5 : Nat) (x6 : Nat) (w : World) : (Instr.buildSlice 34 2 #[(0, (.slice x1 x2 x3)), (1, (.slice x4 x5 x6))]).run Try.prog w = .ok (.slice (some ⟨w.heap.size, 0, none⟩) 2 2) (w.alloc (.cells #[(.slice x1 x2 x3), (.slice x4 x5 x6)] 22 (0, 0))) := by kernel_rfl
theorem bs_L_proof_list_1 (x1 : Int) (x2 : Option Addr) (x3 : Nat) (x4 : Nat) (w : World) : (Instr.buildSlice 114 1 #[(0, (.agg #[(.int .i64 x1), (.slice x2 x3 x4)]))]).run Try.prog w = .ok (.slice (some ⟨w.heap.size, 0, none⟩) 1 1) (w.alloc (.cells #[(.int .i64 x1), (.slice x2 x3 x4)] 111 (0, 0))) := by kernel_rfl
theorem eqi_api_Mark (a0 b0 : Int) (a1 b1 : Int) (a2 b2 : Str) (w : World) : (Op.equalIn 10000 44 (.agg #[.int .i64 a0, .int .i64 a1, .string ⟨(a2 : Str).toArray⟩]) (.agg #[.int .i64 b0, .int .i64 b1, .string ⟨(b2 : Str).toArray⟩])).run Try.prog w = .ok (decide ((a0, a1, a2) = (b0, b1, b2))) w := by
  rw [run_equalIn_agg w 9999 44 _ _ (by simp only [Program.fieldsOf, Try.underlying44]) (by kernel_rfl)]; simp only [Program.fieldsOf, Try.underlying44]
  by_cases h0 : a0 = b0 <;> by_cases h1 : a1 = b1 <;> by_cases h2 : a2 = b2 <;>
    simp [Op.eqFields, part, isAgg, run_equalIn_int _ 9998 3 .i64 .i64 _ _ Try.underlying3, run_equalIn_string _ 9998 9 _ _ Try.underlying9, run_underlying Try.underlying3, run_underlying Try.underlying9, h0, h1, h2]
theorem eql_api_Mark (a0 b0 : Int) (a1 b1 : Int) (a2 b2 : Str) (w : World) : (binOp .eql 44 (.agg #[.int .i64 a0, .int .i64 a1, .string ⟨(a2 : Str).toArray⟩]) (.agg #[.int .i64 b0, .int .i64 b1, .string ⟨(b2 : Str).toArray⟩])).run Try.prog w = .ok (.bool (decide ((a0, a1, a2) = (b0, b1, b2)))) w := by rw [run_eql_struct, eqi_api_Mark]; rfl
theorem neq_api_Mark (a0 b0 : Int) (a1 b1 : Int) (a2 b2 : Str) (w : World) : (binOp .neq 44 (.agg #[.int .i64 a0, .int .i64 a1, .string ⟨(a2 : Str).toArray⟩]) (.agg #[.int .i64 b0, .int .i64 b1, .string ⟨(b2 : Str).toArray⟩])).run Try.prog w = .ok (.bool (decide (¬ (a0, a1, a2) = (b0, b1, b2)))) w := by rw [run_neq_struct, eqi_api_Mark, decide_not]; rfl
theorem eqg_api_Mark (op : BinOp) (x y : Operand) (xs ys : Array Value) (w : World) : (eqGuard op 44 x y (.agg xs) (.agg ys)).run Try.prog w = .ok () w := run_eqGuard_agg w op 44 x y xs ys (by kernel_rfl)
theorem eqi_api_Flaw (a0 b0 : Int) (a1 b1 : Int) (w : World) : (Op.equalIn 10000 61 (.agg #[.int .i64 a0, .int .i64 a1]) (.agg #[.int .i64 b0, .int .i64 b1])).run Try.prog w = .ok (decide ((a0, a1) = (b0, b1))) w := by
  rw [run_equalIn_agg w 9999 61 _ _ (by simp only [Program.fieldsOf, Try.underlying61]) (by kernel_rfl)]; simp only [Program.fieldsOf, Try.underlying61]
  by_cases h0 : a0 = b0 <;> by_cases h1 : a1 = b1 <;>
    simp [Op.eqFields, part, isAgg, run_equalIn_int _ 9998 3 .i64 .i64 _ _ Try.underlying3, run_underlying Try.underlying3, h0, h1]
theorem eql_api_Flaw (a0 b0 : Int) (a1 b1 : Int) (w : World) : (binOp .eql 61 (.agg #[.int .i64 a0, .int .i64 a1]) (.agg #[.int .i64 b0, .int .i64 b1])).run Try.prog w = .ok (.bool (decide ((a0, a1) = (b0, b1)))) w := by rw [run_eql_struct, eqi_api_Flaw]; rfl
theorem eqg_api_Flaw (op : BinOp) (x y : Operand) (xs ys : Array Value) (w : World) : (eqGuard op 61 x y (.agg xs) (.agg ys)).run Try.prog w = .ok () w := run_eqGuard_agg w op 61 x y xs ys (by kernel_rfl)
end T
end Go.Proofs.Ytpfbbggmcbhboaa
end
section
namespace Go.Proofs.Ytpfbbggmcbhboaa
open Go Go.W Go.Conc
set_option maxRecDepth 20000
attribute [local irreducible] HL HC HQ HB Row Rows2 Blk Facts
set_option maxRecDepth 20000
abbrev mkV (m : Mk) : Value := .agg #[int m.1, int m.2.1, str m.2.2]
def regionAt (id : Nat) : Code → Array Oper
  | .region i ops _ => if i = id then ops else #[]
  | .seq x y => regionAt id x ++ regionAt id y
  | .block _ x => regionAt id x
  | .loop x => regionAt id x
  | .cond _ x y => regionAt id x ++ regionAt id y
  | _ => #[]
def blockAt (id : Nat) : Code → Code
  | .block i x => if i = id then x else blockAt id x
  | .seq x y => match blockAt id x with
    | .skip => blockAt id y
    | c => c
  | .loop x => blockAt id x
  | .cond _ x y => match blockAt id x with
    | .skip => blockAt id y
    | c => c
  | _ => .skip
def unLoop : Code → Code
  | .loop x => x
  | _ => .skip
section
variable {W : World} {o : List Nat} {v : Nat → Nat → Value} {nn : Nat → Nat} {z : Value} {BW : Nat} {ro : Hq} {j ch gc gb cap : Nat} {A : Option Addr} {l : List Mk}
noncomputable def bodyS : Code := unLoop (blockAt 0 (Try.f65.body.getD .skip))
theorem sends {cs : List Frame} {b0 : Bx} {dd : Deferred} (hgc : (gc, Obj.cells #[.chan (some ch)] T.chan_api_Markx (0, 0)) ∈ ro) (hrow : (Row A (rows l)).P W) (hA : ∀ ad, A = some ad → l ≠ [] → ad.block ∉ o)
    (hn : nn j = l.length) (hv : ∀ i, i < l.length → v j i = mkV (l.getD i default)) (hl : l.length ≤ 1000000) (n : Nat)
    (hend : ∀ hp, TC (.folS ⟨Try.prog, W, o, v, nn, z, BW⟩ j ch ro l.length) ⟨Try.prog, Try.f65.ntmps, b0, [dd], none⟩ (baseD 65) cs n [] [] hp) :
    ∀ (m i : Nat), i + m = l.length → TC (.folS ⟨Try.prog, W, o, v, nn, z, BW⟩ j ch ro i) ⟨Try.prog, Try.f65.ntmps, b0, [dd], none⟩ (baseD 65) cs (n + 10 + 40 * m) (.code bodyS :: .inLoop bodyS :: .inBlock 0 :: [])
      [(0, .pointer (some ⟨gc, 0, none⟩)), (7, int i), (6, int l.length), (5, .slice A l.length cap)] [] := by
  have hk' : (baseD 65).kind ≠ .early := fun h => by cases h
  intro m
  induction m with
  | zero =>
    intro i hi; obtain rfl : i = l.length := by omega
    refine tc_more (m := n + 7) (by omega) ?_; refine tc_seq (tc_region ?_); refine tr_lss rfl rfl hk' rfl rfl ?_; refine tc_nil (tc_seq ?_); refine tc_cond false (by show some (Value.bool (decide ((l.length : Int) < (l.length : Int)))) = _; rw [decide_eq_false (by omega)]) ?_; refine tc_exit [] rfl ?_; exact tc_sub (fr' := []) trivial (hend [])
  | succ m ih =>
    intro i hi; have hi' : i < l.length := by omega
    have hne : l ≠ [] := fun e => by rw [e] at hi'; simp at hi'
    obtain ⟨ad, rfl⟩ : ∃ ad, A = some ad := ⟨_, Row.some_ hrow (j := 0) (by rw [rows_len]; exact Nat.mul_pos (by omega) (by decide))⟩; rw [show n + 10 + 40 * (m + 1) = (n + 10 + 40 * m) + 40 by omega]; refine tc_seq (tc_region ?_); refine tr_lss rfl rfl hk' rfl rfl ?_; refine tc_nil (tc_seq ?_); refine tc_cond true (by show some (Value.bool (decide ((i : Int) < (l.length : Int)))) = _; rw [decide_eq_true (by omega)]) ?_; refine tc_skip (tc_seq (tc_block (tc_seq (tc_region ?_)))); refine tr_indexAddr i (ad.add (i * 3)) rfl rfl hk' Try.underlying23 T.sz_api_Mark rfl rfl rfl hi' rfl ?_; refine tr_loadS (vs := [int (l.getD i default).1, int (l.getD i default).2.1, str (l.getD i default).2.2]) rfl rfl hk' T.row_api_Mark T.sz_api_Mark rfl rfl (atcs_row hrow (by simp) (hA ad rfl hne) fun j u hu => rows_all (α := Mk) hi' j u hu) ?_; refine tr_alloc rfl rfl hk' T.al_api_Mark (fun _ _ => by kernel_rfl) fun g hg hng => ?_; refine tr_storeS (us := #[int (l.getD i default).1, int (l.getD i default).2.1, str (l.getD i default).2.2]) (hp' := []) rfl hk' rfl rfl (List.Perm.refl _) hng T.sz_api_Mark rfl rfl ?_; refine tc_nil (tc_region ?_); refine tr_load (v := .chan (some ch)) rfl rfl hk' T.cell_chan_api_Markx rfl (atc_ro hgc rfl) ?_; refine tr_loadS (vs := [int (l.getD i default).1, int (l.getD i default).2.1, str (l.getD i default).2.2]) rfl rfl hk' T.row_api_Mark T.sz_api_Mark rfl rfl (atcs_own (vs := #[int (l.getD i default).1, int (l.getD i default).2.1, str (l.getD i default).2.2]) (List.mem_cons_self ..) fun j u hu => by rw [Nat.zero_add]; simpa using hu) ?_; refine at_send (q := i) rfl hk' rfl (by show i < nn j; omega) (by show _ = some (v j i); rw [hv i hi']; rfl) ?_; refine tc_nil (tc_inBlock (tc_region ?_)); refine tr_add ((i + 1 : Nat) : Int) rfl rfl hk' rfl rfl (by omega) (by unfold I64; omega) ?_; refine tr_move rfl rfl hk' rfl ?_; refine tc_nil ?_; refine tc_inLoopD (hp' := []) (by simp) ?_; exact tc_more (m := n + 10 + 40 * m) (by omega) (tc_sub (by repeat constructor) (ih (i + 1) (by omega)))
theorem folS_w (hgc : (gc, Obj.cells #[.chan (some ch)] T.chan_api_Markx (0, 0)) ∈ ro) (hgb : (gb, Obj.cells #[.slice A l.length cap] T.L_api_Mark (0, 0)) ∈ ro) (hrow : (Row A (rows l)).P W) (hA : ∀ ad, A = some ad → l ≠ [] → ad.block ∉ o)
    (hn : nn j = l.length) (hv : ∀ i, i < l.length → v j i = mkV (l.getD i default)) (hl : l.length ≤ 1000000) :
    FolS ⟨Try.prog, W, o, v, nn, z, BW⟩ j ch ro (40 * l.length + 60) 0 (born Try.prog ⟨.fn (.func 65) [Value.pointer (some ⟨gc, 0, none⟩), .pointer (some ⟨gb, 0, none⟩)].toArray, #[]⟩).frame [] [] := by
  have hk' : (baseD 65).kind ≠ .early := fun h => by cases h
  refine folS_born (m := 40 * l.length + 59) (p := ⟨Try.prog, W, o, v, nn, z, BW⟩) F.proof_send_1_f rfl rfl ⟨W, [], fun _ => False⟩ (Nat.le_of_ble_eq_true rfl) ?_; refine tc_seq (tc_region ?_); refine tr_load (v := .chan (some ch)) rfl rfl hk' T.cell_chan_api_Markx rfl (atc_ro hgc rfl) ?_; refine tc_defer rfl hk' rfl fun cst => ?_; refine tc_nil (tc_seq (tc_region ?_)); refine tr_load (v := .slice A l.length cap) rfl rfl hk' T.cell_L_api_Mark rfl (atc_ro hgb rfl) ?_; refine tr_len rfl rfl hk' Try.underlying23 rfl ?_; refine tr_move rfl rfl hk' rfl ?_; refine tc_nil (tc_block (tc_loop ?_)); refine tc_more (m := 4 + 10 + 40 * l.length) (by omega) ?_; refine tc_sub (by repeat constructor) (sends (A := A) (cap := cap) hgc hrow hA hn hv hl 4 (fun hp => ?_) l.length 0 (by omega)); exact at_end F.proof_send_1_f rfl rfl hn.symm rfl rfl
end
end Go.Proofs.Ytpfbbggmcbhboaa
end
section
namespace Go.W
open Go Go.RowKit
section
variable {κ : Type} [DecidableEq κ]
def updF (f : κ → Nat) (k : κ) (n : Nat) : κ → Nat := fun x => if x = k then n else f x
structure MapIs (l : List (Ment κ)) (clk : Nat) (f : κ → Nat) : Prop where
  bs : (l.map (·.2.2)).Pairwise (· < ·)
  lt : ∀ p ∈ l, p.2.2 < clk
  nd : (l.map (·.1)).Nodup
  vl : ∀ p ∈ l, p.2.1 = int (f p.1) ∧ 0 < f p.1
  al : ∀ k, 0 < f k → k ∈ l.map (·.1)
theorem MapIs.nil : MapIs ([] : List (Ment κ)) 0 (fun _ => 0) := ⟨.nil, by simp, by simp, by simp, fun k h => by omega⟩
theorem getM_none {l : List (Ment κ)} {k : κ} : getM l k = none ↔ k ∉ l.map (·.1) := by
  induction l with
  | nil => simp [getM, findM]
  | cons p l ih =>
    rw [getM_cons]
    by_cases h : p.1 = k
    · rw [if_pos h]; simp [h]
    · rw [if_neg h, ih, List.map_cons, List.mem_cons]
      simp only [not_or]; exact ⟨fun e => ⟨fun e2 => h e2.symm, e⟩, fun e => e.2⟩
theorem MapIs.get {l : List (Ment κ)} {clk : Nat} {f : κ → Nat} (h : MapIs l clk f) (k : κ) : getM l k = if f k = 0 then none else some (int (f k)) := by
  split
  · rename_i e
    refine getM_none.2 fun hm => ?_; obtain ⟨p, hp, rfl⟩ := List.mem_map.1 hm; have := (h.vl p hp).2
    omega
  · rename_i e
    cases hg : getM l k with
    | none => exact absurd (h.al k (by omega)) (getM_none.1 hg)
    | some v =>
      obtain ⟨p, hp, e1, e2⟩ := getM_mem hg; rw [← e2, (h.vl p hp).1, e1]
theorem putM_cons (p : Ment κ) (l : List (Ment κ)) (k : κ) (v : Value) (clk : Nat) : putM (p :: l) k v clk = if p.1 = k then (k, v, p.2.2) :: l else p :: putM l k v clk := by
  by_cases h : p.1 = k
  · simp [putM, findM, h]
  · simp only [putM, findM, h, if_false]
    rw [findM_succ]
    cases hf : findM k l 0 with
    | none => simp
    | some q => simp
theorem findM_none {l : List (Ment κ)} {k : κ} : findM k l 0 = none ↔ k ∉ l.map (·.1) := by
  rw [← getM_none]; unfold getM
  cases findM k l 0 <;> simp
theorem clkM_eq (l : List (Ment κ)) (k : κ) (clk : Nat) : clkM l k clk = if k ∈ l.map (·.1) then clk else clk + 1 := by
  unfold clkM
  cases hf : findM k l 0 with
  | none => rw [if_neg (findM_none.1 hf)]; rfl
  | some q =>
    have h1 : k ∈ l.map (·.1) := Classical.byContradiction fun h => by rw [findM_none.2 h] at hf; cases hf
    rw [if_pos h1]
    rfl
theorem putM_keys (l : List (Ment κ)) (k : κ) (v : Value) (clk : Nat) : (putM l k v clk).map (·.1) = if k ∈ l.map (·.1) then l.map (·.1) else l.map (·.1) ++ [k] := by
  induction l with
  | nil => simp [putM, findM]
  | cons p l ih =>
    rw [putM_cons]
    by_cases h : p.1 = k
    · rw [if_pos h, if_pos (by simp [h])]
      simp [h]
    · rw [if_neg h, List.map_cons, ih, List.map_cons]
      by_cases h2 : k ∈ l.map (·.1)
      · rw [if_pos h2, if_pos (List.mem_cons_of_mem _ h2)]
      · rw [if_neg h2, if_neg (by rw [List.mem_cons, not_or]; exact ⟨fun e => h e.symm, h2⟩)]
        rfl
theorem putM_borns (l : List (Ment κ)) (k : κ) (v : Value) (clk : Nat) : (putM l k v clk).map (·.2.2) = if k ∈ l.map (·.1) then l.map (·.2.2) else l.map (·.2.2) ++ [clk] := by
  induction l with
  | nil => simp [putM, findM]
  | cons p l ih =>
    rw [putM_cons]
    by_cases h : p.1 = k
    · rw [if_pos h, if_pos (by simp [h])]
      simp
    · rw [if_neg h, List.map_cons, ih, List.map_cons, List.map_cons]
      by_cases h2 : k ∈ l.map (·.1)
      · rw [if_pos h2, if_pos (List.mem_cons_of_mem _ h2)]
      · rw [if_neg h2, if_neg (by rw [List.mem_cons, not_or]; exact ⟨fun e => h e.symm, h2⟩)]
        rfl
theorem putM_in {l : List (Ment κ)} {k : κ} {v : Value} {clk : Nat} (hn : (l.map (·.1)).Nodup) {p : Ment κ} (h : p ∈ putM l k v clk) : (p.1 = k ∧ p.2.1 = v) ∨ (p ∈ l ∧ p.1 ≠ k) := by
  induction l with
  | nil => simp [putM, findM] at h; subst h; exact .inl ⟨rfl, rfl⟩
  | cons q l ih =>
    rw [putM_cons] at h; rw [List.map_cons, List.nodup_cons] at hn
    by_cases e : q.1 = k
    · rw [if_pos e] at h
      rcases List.mem_cons.1 h with rfl | h
      · exact .inl ⟨rfl, rfl⟩
      · refine .inr ⟨List.mem_cons_of_mem _ h, fun e2 => hn.1 ?_⟩
        rw [e, ← e2]; exact List.mem_map_of_mem h
    · rw [if_neg e] at h
      rcases List.mem_cons.1 h with rfl | h
      · exact .inr ⟨List.mem_cons_self, e⟩
      · exact (ih hn.2 h).imp id fun h => ⟨List.mem_cons_of_mem _ h.1, h.2⟩
theorem MapIs.put {l : List (Ment κ)} {clk : Nat} {f : κ → Nat} (h : MapIs l clk f) (k : κ) {n : Nat} (hn : 0 < n) : MapIs (putM l k (int n) clk) (clkM l k clk) (updF f k n) where
  bs := by
    rw [putM_borns]
    split
    · exact h.bs
    · refine List.pairwise_append.2 ⟨h.bs, by simp, fun a ha b hb => ?_⟩
      obtain ⟨p, hp, rfl⟩ := List.mem_map.1 ha; rw [List.mem_singleton.1 hb]; exact h.lt p hp
  lt p hp := by
    have h1 : p.2.2 ∈ (putM l k (int n) clk).map (·.2.2) := List.mem_map_of_mem hp; rw [putM_borns] at h1; rw [clkM_eq]
    split at h1
    · rename_i e
      rw [if_pos e]; obtain ⟨q, hq, e2⟩ := List.mem_map.1 h1; rw [← e2]; exact h.lt q hq
    · rename_i e
      rw [if_neg e]
      rcases List.mem_append.1 h1 with h1 | h1
      · obtain ⟨q, hq, e2⟩ := List.mem_map.1 h1
        have := h.lt q hq
        omega
      · rw [List.mem_singleton.1 h1]; omega
  nd := by
    rw [putM_keys]
    split
    · exact h.nd
    · rename_i e
      refine List.nodup_append.2 ⟨h.nd, by simp, fun a ha b hb e2 => e ?_⟩; rw [← List.mem_singleton.1 hb, ← e2]; exact ha
  vl p hp := by
    unfold updF
    rcases putM_in h.nd hp with ⟨e1, e2⟩ | ⟨e1, e2⟩
    · rw [if_pos e1]; exact ⟨e2, hn⟩
    · rw [if_neg e2]; exact h.vl p e1
  al x hx := by
    rw [putM_keys]; unfold updF at hx
    by_cases e : x = k
    · subst e
      split
      · assumption
      · simp
    · rw [if_neg e] at hx
      have := h.al x hx
      split
      · exact this
      · exact List.mem_append_left _ this
def delM (l : List (Ment κ)) (k : κ) : List (Ment κ) := match findM k l 0 with | some (i, _) => l.eraseIdx i | none => l
omit [DecidableEq κ] in
theorem MapIs.congr {l : List (Ment κ)} {clk : Nat} {f g : κ → Nat} (h : MapIs l clk f) (e : ∀ k, f k = g k) : MapIs l clk g := by
  have : f = g := funext e; exact this ▸ h
theorem nodup_len {α : Type} [DecidableEq α] : ∀ {l K : List α}, l.Nodup → (∀ x ∈ l, x ∈ K) → l.length ≤ K.length
  | [], K, _, _ => Nat.zero_le _
  | x :: l, K, hn, h => by
    rw [List.nodup_cons] at hn; have h1 := h x List.mem_cons_self; have h2 := nodup_len (K := K.erase x) hn.2 fun y hy => (List.mem_erase_of_ne (fun e : y = x => hn.1 (by rw [← e]; exact hy))).2 (h y (List.mem_cons_of_mem _ hy)); rw [List.length_erase_of_mem h1] at h2; have := List.length_pos_of_mem h1; rw [List.length_cons]
    omega
theorem MapIs.len {l : List (Ment κ)} {clk : Nat} {f : κ → Nat} (h : MapIs l clk f) {K : List κ} (hK : ∀ k, 0 < f k → k ∈ K) : l.length ≤ K.length := by
  have h2 := nodup_len (K := K) h.nd fun k hk => by
    obtain ⟨p, hp, rfl⟩ := List.mem_map.1 hk; exact hK _ (h.vl p hp).2
  rwa [List.length_map] at h2
end
structure Vis {κ : Type} (l vis : List (Ment κ)) : Prop where
  sub : ∀ p ∈ vis, p ∈ l
  nd : (vis.map (·.2.2)).Nodup
theorem Vis.nil {κ : Type} (l : List (Ment κ)) : Vis l [] := ⟨by simp, by simp⟩
theorem Vis.snoc {κ : Type} {l vis : List (Ment κ)} (h : Vis l vis) {p : Ment κ} (hp : p ∈ l) (hn : p.2.2 ∉ vis.map (·.2.2)) : Vis l (vis ++ [p]) := by
  refine ⟨fun q hq => ?_, ?_⟩
  · rcases List.mem_append.1 hq with hq | hq
    · exact h.sub q hq
    · rw [List.mem_singleton.1 hq]; exact hp
  · rw [List.map_append]
    refine List.nodup_append.2 ⟨h.nd, by simp, fun a ha b hb e => hn ?_⟩; have h1 : b = p.2.2 := by simpa using hb
    rw [← h1, ← e]; exact ha
theorem Vis.len {κ : Type} {l vis : List (Ment κ)} (h : Vis l vis) : vis.length ≤ l.length := by
  have h2 := nodup_len (K := l.map (·.2.2)) h.nd fun b hb => by
    obtain ⟨p, hp, rfl⟩ := List.mem_map.1 hb; exact List.mem_map_of_mem (h.sub p hp)
  rwa [List.length_map, List.length_map] at h2
theorem Vis.lt {κ : Type} {l vis : List (Ment κ)} (h : Vis l vis) {p : Ment κ} (hp : p ∈ l) (hn : p.2.2 ∉ vis.map (·.2.2)) : vis.length < l.length := by
  have := (h.snoc hp hn).len
  simp at this
  omega
theorem MapIs.born {κ : Type} {l : List (Ment κ)} (h : (l.map (·.2.2)).Pairwise (· < ·)) {p q : Ment κ} (hp : p ∈ l) (hq : q ∈ l) (e : p.2.2 = q.2.2) : p = q := by
  induction l with
  | nil => cases hp
  | cons x l ih =>
    rw [List.map_cons, List.pairwise_cons] at h
    rcases List.mem_cons.1 hp with h1 | h1 <;> rcases List.mem_cons.1 hq with h2 | h2
    · rw [h1, h2]
    · have := h.1 _ (List.mem_map_of_mem h2); rw [h1] at e; omega
    · have := h.1 _ (List.mem_map_of_mem h1); rw [h2] at e; omega
    · exact ih h.2 h1 h2
theorem MapIs.key {κ : Type} {l : List (Ment κ)} (h : (l.map (·.1)).Nodup) {p q : Ment κ} (hp : p ∈ l) (hq : q ∈ l) (e : p.1 = q.1) : p = q := by
  induction l with
  | nil => cases hp
  | cons x l ih =>
    rw [List.map_cons, List.nodup_cons] at h
    rcases List.mem_cons.1 hp with h1 | h1 <;> rcases List.mem_cons.1 hq with h2 | h2
    · rw [h1, h2]
    · exact absurd (by rw [← h1, e]; exact List.mem_map_of_mem h2) h.1
    · exact absurd (by rw [← h2, ← e]; exact List.mem_map_of_mem h1) h.1
    · exact ih h.2 h1 h2
section
variable {κ : Type} [DecidableEq κ] {enc : κ → Value} {kt e : TypeId}
variable {c : Cx} {Q : Exit → Act → World → Prop} {fr : Fr} {hp : Hp} {L : List Fact} {ops : Array Oper} {rest : List Oper}
variable {d : Tmp} {ty : TypeId} {pos : String} {af : Array Edge}
/-! ### A map that is ranged over -/
def iterM (g clk : Nat) (vis : List (Ment κ)) : Obj := .mapIter (some g) clk (vis.map (·.2.2)).toArray clk
def nextMV (enc : κ → Value) : Option (Ment κ) → Value
  | none => .tuple #[.bool false]
  | some p => .tuple #[.bool true, enc p.1, p.2.1]
def restM (l vis : List (Ment κ)) : List (Ment κ) := l.filter fun p => !(vis.map (·.2.2)).contains p.2.2
end
end Go.W
end
section
namespace Go.Proofs.Ytpfbbggmcbhboaa
open Go Go.W Go.Conc
set_option maxRecDepth 20000
attribute [local irreducible] HL HC HQ HB Row Rows2 Blk Facts
/-! ### Lists of words by line -/
abbrev EL := List (Int × List Str)
def getE : EL → Int → Option (List Str)
  | [], _ => none
  | p :: e, k => if p.1 = k then some p.2 else getE e k
def putE : EL → Int → List Str → EL
  | [], k, ws => [(k, ws)]
  | p :: e, k, ws => if p.1 = k then (k, ws) :: e else p :: putE e k ws
theorem getE_put : ∀ (e : EL) (k k' : Int) (ws : List Str), getE (putE e k ws) k' = if k = k' then some ws else getE e k'
  | [], k, k', ws => by simp [putE, getE]
  | p :: e, k, k', ws => by
    simp only [putE]
    by_cases h : p.1 = k
    · simp only [h, if_true, getE]
      by_cases h2 : k = k'
      · simp [h2]
      · simp [h2]
    · simp only [h, if_false, getE, getE_put e k k' ws]
      by_cases h2 : p.1 = k'
      · have : ¬ k = k' := fun e => h (h2.trans e.symm)
        simp [h2, this]
      · simp [h2]
inductive InM : List (Ment Int) → Hp → EL → Prop
  | nil : InM [] [] []
  | cons {k : Int} {A : Option Addr} {cap born : Nat} {ws : List Str} {og hp : Hp} {l : List (Ment Int)} {e : EL} (hG : Grow T.string 1 A ws.length cap (rows ws) og) (h : InM l hp e) : InM ((k, .slice A ws.length cap, born) :: l) (og ++ hp) ((k, ws) :: e)
theorem InM.at_ {l : List (Ment Int)} {hp : Hp} {e : EL} (h : InM l hp e) (k : Int) :
    ∃ A cap og hp', Grow T.string 1 A ((getE e k).getD []).length cap (rows ((getE e k).getD [])) og ∧ hp.Perm (og ++ hp') ∧
      (getM l k = some (.slice A ((getE e k).getD []).length cap) ∨ (getM l k = none ∧ A = none ∧ cap = 0 ∧ (getE e k).getD [] = [])) ∧
      ∀ A' cap' og' ws' clk, Grow T.string 1 A' (List.length ws') cap' (rows ws') og' → ∃ hp'', hp''.Perm (og' ++ hp') ∧ InM (putM l k (.slice A' ws'.length cap') clk) hp'' (putE e k ws') := by
  induction h with
  | nil => exact ⟨none, 0, [], [], Grow.nil _ _, .refl _, .inr ⟨rfl, rfl, rfl, rfl⟩, fun A' cap' og' ws' clk hG => ⟨og' ++ [], .refl _, .cons hG .nil⟩⟩
  | @cons k0 A cap born ws og hp l e hG h ih =>
    by_cases hk : k0 = k
    · subst hk
      have e1 : (getE ((k0, ws) :: e) k0).getD [] = ws := by simp [getE]
      rw [e1]; refine ⟨A, cap, og, hp, hG, .refl _, .inl (by rw [getM_cons, if_pos rfl]), fun A' cap' og' ws' clk hG' => ⟨og' ++ hp, .refl _, ?_⟩⟩; rw [putM_cons, if_pos rfl, putE, if_pos rfl]; exact .cons hG' h
    · have e1 : getE ((k0, ws) :: e) k = getE e k := by simp [getE, hk]
      rw [e1]; obtain ⟨A2, cap2, og2, hp2, h1, h2, h3, h4⟩ := ih; refine ⟨A2, cap2, og2, og ++ hp2, h1, ?_, ?_, fun A' cap' og' ws' clk hG' => ?_⟩
      · refine (List.Perm.append_left og h2).trans ?_
        exact perm_of fun p => by simp only [List.countP_append]; omega
      · rw [getM_cons, if_neg hk]; exact h3
      · obtain ⟨hp3, h5, h6⟩ := h4 A' cap' og' ws' clk hG'
        refine ⟨og ++ hp3, ?_, ?_⟩
        · refine (List.Perm.append_left og h5).trans ?_
          exact perm_of fun p => by simp only [List.countP_append]; omega
        · rw [putM_cons, if_neg hk, putE, if_neg hk]
          exact .cons hG h6
theorem InM.rows {b : Bx} {w : World} {l : List (Ment Int)} {hp : Hp} {e : EL} (h : InM l hp e) : ∀ {rest : Hp} {L : List Fact}, WI b w (hp ++ rest) L → ∃ Ls, WI b w rest (Ls ++ L) ∧ ∀ k, (getM l k = none ∧ getE e k = none) ∨ ∃ A cap ws, getE e k = some ws ∧ getM l k = some (.slice A ws.length cap) ∧ Row A (rows ws) ∈ Ls := by
  induction h with
  | nil => exact fun hw => ⟨[], hw, fun k => .inl ⟨rfl, rfl⟩⟩
  | @cons k0 A cap born ws og hp l e hG h ih =>
    intro rest L hw; have hw2 : WI b w (og ++ (hp ++ rest)) L := by rwa [← List.append_assoc]
    obtain ⟨Ls, h1, h2⟩ := ih (wi_grown hG hw2); refine ⟨Ls ++ [Row A (W.rows ws)], by rw [List.append_assoc]; exact h1, fun k => ?_⟩; rw [getM_cons]
    by_cases hk : k0 = k
    · exact .inr ⟨A, cap, ws, by simp [getE, hk], by rw [if_pos hk], by simp⟩
    · have e1 : getE ((k0, ws) :: e) k = getE e k := by simp [getE, hk]
      rw [if_neg hk, e1]
      rcases h2 k with h3 | ⟨A', cap', ws', h3, h4, h5⟩
      · exact .inl h3
      · exact .inr ⟨A', cap', ws', h3, h4, by simp [h5]⟩
/-! ### What a reader's marks come to -/
def stepE (e : EL) (m : Mk) : EL := if m.1 = 1 then putE e m.2.1 ((getE e m.2.1).getD [] ++ [m.2.2]) else e
def insE (xs : List Mk) : EL := xs.foldl stepE []
def insAt (xs : List Mk) (k : Int) : List Str := (xs.filter fun m => decide (m.1 = 1 ∧ m.2.1 = k)).map (·.2.2)
def lastAt (xs : List Mk) (k : Int) : Option Mk := (xs.filter fun m => decide (m.1 ≠ 1 ∧ m.2.1 = k)).getLast?
theorem insE_snoc (xs : List Mk) (m : Mk) : insE (xs ++ [m]) = stepE (insE xs) m := by simp [insE]
theorem rev_ind {α : Type} {P : List α → Prop} (h0 : P []) (h1 : ∀ l a, P l → P (l ++ [a])) (l : List α) : P l := by
  have : ∀ l : List α, P l.reverse := by
    intro l
    induction l with
    | nil => exact h0
    | cons a l ih => rw [List.reverse_cons]; exact h1 _ _ ih
  simpa using this l.reverse
theorem getE_insE (xs : List Mk) (k : Int) : (getE (insE xs) k).getD [] = insAt xs k := by
  refine rev_ind (P := fun xs => (getE (insE xs) k).getD [] = insAt xs k) rfl (fun xs m ih => ?_) xs; rw [insE_snoc]; unfold stepE insAt; rw [List.filter_append, List.map_append]
  by_cases h1 : m.1 = 1
  · rw [if_pos h1, getE_put]
    by_cases h2 : m.2.1 = k
    · rw [if_pos h2, h2, ih]
      simp [h1, h2, insAt]
    · rw [if_neg h2, ih]
      simp [h2, insAt]
  · rw [if_neg h1, ih]
    simp [h1, insAt]
theorem lastAt_snoc (xs : List Mk) (m : Mk) (k : Int) : lastAt (xs ++ [m]) k = if m.1 ≠ 1 ∧ m.2.1 = k then some m else lastAt xs k := by
  unfold lastAt; rw [List.filter_append]
  by_cases h : m.1 ≠ 1 ∧ m.2.1 = k
  · rw [if_pos h]
    simp [h]
  · rw [if_neg h]
    have : [m].filter (fun m => decide (m.1 ≠ 1 ∧ m.2.1 = k)) = [] := by
      rw [List.filter_cons_of_neg (by simpa using h), List.filter_nil]
    rw [this, List.append_nil]
def LaM (l : List (Ment Int)) (xs : List Mk) : Prop := ∀ k, getM l k = (lastAt xs k).map mkV
theorem LaM.nil : LaM [] [] := fun k => rfl
theorem LaM.put {l : List (Ment Int)} {xs : List Mk} (h : LaM l xs) {m : Mk} (hm : m.1 ≠ 1) (clk : Nat) : LaM (putM l m.2.1 (mkV m) clk) (xs ++ [m]) := fun k => by
  rw [getM_put, lastAt_snoc]
  by_cases e : m.2.1 = k
  · rw [if_pos e, if_pos ⟨hm, e⟩]; rfl
  · rw [if_neg e, if_neg (fun h => e h.2)]; exact h k
theorem LaM.same {l : List (Ment Int)} {xs : List Mk} (h : LaM l xs) {m : Mk} (hm : m.1 = 1) : LaM l (xs ++ [m]) := fun k => by
  rw [lastAt_snoc, if_neg (fun h => h.1 hm)]; exact h k
end Go.Proofs.Ytpfbbggmcbhboaa
end
section
namespace Go.Proofs.Ytpfbbggmcbhboaa
open Go Go.W Go.Conc
set_option maxRecDepth 20000
attribute [local irreducible] HL HC HQ HB Row Rows2 Blk Facts
set_option maxRecDepth 20000
theorem or_f {ld : Nat → Bool} {j i : Nat} (h : Nat.beq j i = false) : (ld j || Nat.beq j i) = ld j := by rw [h, Bool.or_false]
theorem or_t {ld : Nat → Bool} {j i : Nat} (h : Nat.beq j i = true) : (ld j || Nat.beq j i) = true := by rw [h, Bool.or_true]
def Inn (W : World) (o : List Nat) (hp : Hq) : Prop := ∀ q ∈ hp, q.1 ∈ o ∨ W.heap.size ≤ q.1
noncomputable def ops2 : Array Oper := regionAt 2 (Try.f51.body.getD .skip)
noncomputable def ops3 : Array Oper := regionAt 3 (Try.f51.body.getD .skip)
def Mst (W : World) (H H' : Hq) (w : Str) (ws : List Str) (Fin : Hq → Prop) (b19 b20 b21 : Bool) (fr : Fr) (hp : Hq) : Prop :=
  if b21 = true then Fin hp else if b20 = true then ∃ gs A' cap' og', lk fr 29 = some (.slice A' (ws ++ [w]).length cap') ∧ Grow T.string 1 A' (ws ++ [w]).length cap' (rows (ws ++ [w])) og' ∧ hp = og' ++ ((gs, .cells #[str w] T.string (0, 0)) :: H') ∧ (hp.map (·.1)).Nodup ∧ ∀ q ∈ og', Has H q.1 ∨ W.heap.size ≤ q.1
  else if b19 = true then ∃ gs, lk fr 28 = some (.slice (some ⟨gs, 0, none⟩) 1 1) ∧ hp = (gs, .cells #[str w] T.string (0, 0)) :: H ∧ ¬ Has H gs ∧ W.heap.size ≤ gs
  else hp = H
section
variable {W : World} {H H' og : Hq} {w : Str} {ws : List Str} {Fin : Hq → Prop} {b19 b20 b21 : Bool} {fr : Fr} {hp : Hq}
theorem mst_cong {c19 c20 c21 : Bool} (h1 : c19 = b19) (h2 : c20 = b20) (h3 : c21 = b21) (h : Mst W H H' w ws Fin b19 b20 b21 fr hp) : Mst W H H' w ws Fin c19 c20 c21 fr hp := by subst h1 h2 h3; exact h
theorem Mst.put {d : Tmp} {v : Value} (h : Mst W H H' w ws Fin b19 b20 b21 fr hp) (h1 : d ≠ 28) (h2 : d ≠ 29) : Mst W H H' w ws Fin b19 b20 b21 ((d, v) :: fr) hp := by
  have e1 : lk ((d, v) :: fr) 28 = lk fr 28 := by rw [lk_cons, if_neg h1]
  have e2 : lk ((d, v) :: fr) 29 = lk fr 29 := by rw [lk_cons, if_neg h2]
  unfold Mst at h ⊢; rw [e1, e2]; exact h
theorem Mst.mem (h : Mst W H H' w ws Fin b19 b20 false fr hp) (hH : H.Perm (og ++ H')) (x : Nat × Obj) (hx : x ∈ H') : x ∈ hp := by
  have hxH : x ∈ H := hH.mem_iff.2 (by simp [hx]); unfold Mst at h; rw [if_neg (by decide)] at h
  split at h
  · obtain ⟨gs, A', cap', og', _, _, rfl, _⟩ := h
    simp [hx]
  · split at h
    · obtain ⟨gs, _, rfl, _⟩ := h
      simp [hxH]
    · rw [h]; exact hxH
end
def Mst3 (H : Hq) (Fin : Hq → Prop) (b9 : Bool) (hp : Hq) : Prop := if b9 = true then Fin hp else hp = H
theorem mst3_cong {H : Hq} {Fin : Hq → Prop} {b c : Bool} {hp : Hq} (h1 : c = b) (h : Mst3 H Fin b hp) : Mst3 H Fin c hp := by subst h1; exact h
abbrev tab2 (d r g mr : Nat) (m : Mk) (A : Option Addr) (cap : Nat) (ws : List Str) : List (Option Nat × Tmp × Value) := [(none, 0, .pointer (some ⟨d, 0, none⟩)), (none, 1, int (r : Int)), (none, 5, .pointer (some ⟨g, 0, none⟩)), (some 0, 9, .pointer (some ⟨d, 0, none⟩)), (some 1, 10, int (r : Int)), (some 2, 11, .pointer (some ⟨d, 0, none⟩)), (some 3, 12, .pointer (some ⟨d, 0, none⟩)), (some 4, 13, .pointer (some ⟨d, 0 + r, none⟩)), (some 5, 14, .map (some mr)), (some 6, 15, .pointer (some ⟨g, 1, none⟩)), (some 7, 16, int m.2.1), (some 8, 17, .pointer (some ⟨d, 0, none⟩)), (some 9, 18, int (r : Int)), (some 10, 19, .pointer (some ⟨d, 0, none⟩)), (some 11, 20, .pointer (some ⟨d, 0, none⟩)), (some 12, 21, .pointer (some ⟨d, 0 + r, none⟩)), (some 13, 22, .map (some mr)), (some 14, 23, .pointer (some ⟨g, 1, none⟩)), (some 15, 24, int m.2.1), (some 16, 25, .slice A ws.length cap), (some 17, 26, .pointer (some ⟨g, 2, none⟩)), (some 18, 27, str m.2.2)]
abbrev tab3 (d r g qr : Nat) (m : Mk) : List (Option Nat × Tmp × Value) := [(none, 0, .pointer (some ⟨d, 0, none⟩)), (none, 1, int (r : Int)), (none, 5, .pointer (some ⟨g, 0, none⟩)), (some 0, 30, .pointer (some ⟨d, 0, none⟩)), (some 1, 31, int (r : Int)), (some 2, 32, .pointer (some ⟨d, 0, none⟩)), (some 3, 33, .pointer (some ⟨d, 2, none⟩)), (some 4, 34, .pointer (some ⟨d, 2 + r, none⟩)), (some 5, 35, .map (some qr)), (some 6, 36, .pointer (some ⟨g, 1, none⟩)), (some 7, 37, int m.2.1), (some 8, 38, mkV m)]
section
variable {d r g mr qr : Nat} {m : Mk} {A : Option Addr} {cap : Nat} {ws : List Str}
theorem tab2_ds : (tab2 d r g mr m A cap ws).map (·.2.1) = [0, 1, 5, 9, 10, 11, 12, 13, 14, 15, 16, 17, 18, 19, 20, 21, 22, 23, 24, 25, 26, 27] := rfl
theorem tab2_is : (tab2 d r g mr m A cap ws).filterMap (·.1) = [0, 1, 2, 3, 4, 5, 6, 7, 8, 9, 10, 11, 12, 13, 14, 15, 16, 17, 18] := rfl
theorem tab3_is : (tab3 d r g qr m).filterMap (·.1) = [0, 1, 2, 3, 4, 5, 6, 7, 8] := rfl
theorem tab2_nd : ((tab2 d r g mr m A cap ws).map (·.2.1)).Nodup := by show [0, 1, 5, 9, 10, 11, 12, 13, 14, 15, 16, 17, 18, 19, 20, 21, 22, 23, 24, 25, 26, 27].Nodup; decide
theorem tab2_ni : ((tab2 d r g mr m A cap ws).filterMap (·.1)).Nodup := by show [0, 1, 2, 3, 4, 5, 6, 7, 8, 9, 10, 11, 12, 13, 14, 15, 16, 17, 18].Nodup; decide
theorem tab3_nd : ((tab3 d r g qr m).map (·.2.1)).Nodup := by show [0, 1, 5, 30, 31, 32, 33, 34, 35, 36, 37, 38].Nodup; decide
theorem tab3_ni : ((tab3 d r g qr m).filterMap (·.1)).Nodup := by show [0, 1, 2, 3, 4, 5, 6, 7, 8].Nodup; decide
variable {W : World} {o : List Nat} {v : Nat → Nat → Value} {nn : Nat → Nat} {z : Value} {BW : Nat} {Goal : Goroutine → World → Prop} {ms : Ms} {ro : Hq}
variable {dc : Array Value} {H H' og hpk : Hq} {li : List (Ment Int)} {ci : Nat} {Fin : Hq → Prop} {b : Frame} {cs : List Frame} {k : List Item} {b0 : Bx}
noncomputable abbrev XM (W : World) (o : List Nat) (v : Nat → Nat → Value) (nn : Nat → Nat) (z : Value) (BW : Nat) (Goal : Goroutine → World → Prop) (ms : Ms) (ro : Hq) : TX := .folM ⟨Try.prog, W, o, v, nn, z, BW⟩ Goal ms ro
noncomputable abbrev cT (b0 : Bx) : Cx := ⟨Try.prog, Try.f51.ntmps, b0, [], none⟩
theorem step2 (hk2 : b.kind ≠ .early) (hr : r < 2) (hdc1 : dc[0 + r]? = some (.map (some mr)))
    (hG : Grow T.string 1 A ws.length cap (rows ws) og) (hH : H.Perm (og ++ H')) (ndH : (H.map (·.1)).Nodup)
    (memD : (d, Obj.cells dc T.proof_desk (0, 0)) ∈ H') (memG : (g, Obj.cells #[int m.1, int m.2.1, str m.2.2] T.api_Mark (0, 0)) ∈ H') (memM : (mr, mapO int li ci) ∈ H')
    (hlk : getM li m.2.1 = some (.slice A ws.length cap) ∨ (getM li m.2.1 = none ∧ A = none ∧ cap = 0 ∧ ws = [])) (hlen : ws.length ≤ 1000000)
    (hfin : ∀ gs A' cap' og' (hp : Hq), Grow T.string 1 A' (ws ++ [m.2.2]).length cap' (rows (ws ++ [m.2.2])) og' → hp = og' ++ ((gs, .cells #[str m.2.2] T.string (0, 0)) :: H') → (hp.map (·.1)).Nodup → (∀ q ∈ og', Has H q.1 ∨ W.heap.size ≤ q.1) →
      ∃ hp2, hp.Perm ((mr, mapO int li ci) :: hp2) ∧ ¬ Has hp2 mr ∧ Fin ((mr, mapO int (putM li m.2.1 (.slice A' (ws ++ [m.2.2]).length cap') ci) (clkM li m.2.1 ci)) :: hp2)) :
    ∀ i, i < 22 → ∀ (ld : Nat → Bool) fr hp, (Tab (tab2 d r g mr m A cap ws) ld fr ∧ Mst W H H' m.2.2 ws Fin (ld 19) (ld 20) (ld 21) fr hp) → (∀ i, ld i = true → ∀ j ∈ edgesOf ops2 i, ld j = true) → ld i = false → (∀ j ∈ edgesOf ops2 i, ld j = true) →
      ∀ n rest, (∀ fr' hp', (Tab (tab2 d r g mr m A cap ws) (fun j => ld j || Nat.beq j i) fr' ∧ Mst W H H' m.2.2 ws Fin (ld 19 || Nat.beq 19 i) (ld 20 || Nat.beq 20 i) (ld 21 || Nat.beq 21 i) fr' hp') → TC (XM W o v nn z BW Goal ms ro) (cT b0) b cs n (.inRegion ops2 rest :: k) fr' hp') →
        TC (XM W o v nn z BW Goal ms ro) (cT b0) b cs (n + 1) (.inRegion ops2 (i :: rest) :: k) fr hp := by
  rintro i hi ld fr hp ⟨ht, hm⟩ hcl hn hd n rest hk
  have h21 : ld 21 = false := by
    cases h : ld 21 with
    | false => rfl
    | true =>
      by_cases e : i = 21
      · rw [← e, hn] at h; cases h
      · have hall : (List.range 21).all (deps ops2 22 21) = true := by kernel_rfl
        have h2 := deps_ld hcl 22 21 i (hcl 21 h) (List.all_eq_true.1 hall i (List.mem_range.2 (by omega))); rw [hn] at h2; cases h2
  have hmem : ∀ x ∈ H', x ∈ hp := by
    have := hm; rw [h21] at this; exact this.mem hH
  have look25 : ∀ {n : Nat} {rest : List Nat}, lk fr 22 = some (.map (some mr)) → lk fr 24 = some (int m.2.1) → (mr, mapO int li ci) ∈ hp → TC (XM W o v nn z BW Goal ms ro) (cT b0) b cs n (.inRegion ops2 rest :: k) ((25, .slice A ws.length cap) :: fr) hp → TC (XM W o v nn z BW Goal ms ro) (cT b0) b cs (n + 1) (.inRegion ops2 (16 :: rest) :: k) fr hp := fun h22 h24 hmm kk => by
    rcases hlk with h | ⟨h, rfl, rfl, rfl⟩
    · exact tr_look (ok := false) rfl rfl hk2 T.u_map_int_L_string T.u_int h22 h24 hmm h kk
    · exact tr_look0 (ok := false) (v := .slice none 0 0) rfl rfl hk2 T.u_map_int_L_string T.u_int h22 h24 hmm h (fun _ => by kernel_rfl) kk
  have hcases : i = 0 ∨ i = 1 ∨ i = 2 ∨ i = 3 ∨ i = 4 ∨ i = 5 ∨ i = 6 ∨ i = 7 ∨ i = 8 ∨ i = 9 ∨ i = 10 ∨ i = 11 ∨ i = 12 ∨ i = 13 ∨ i = 14 ∨ i = 15 ∨ i = 16 ∨ i = 17 ∨ i = 18 ∨ i = 19 ∨ i = 20 ∨ i = 21 := by omega
  rcases hcases with rfl | rfl | rfl | rfl | rfl | rfl | rfl | rfl | rfl | rfl | rfl | rfl | rfl | rfl | rfl | rfl | rfl | rfl | rfl | rfl | rfl | rfl
  · have hE : edgesOf ops2 0 = [] := by kernel_rfl
    have h0 : lk fr 0 = some (.pointer (some ⟨d, 0, none⟩)) := ht.base (by repeat constructor); refine tr_move rfl rfl hk2 h0 ?_; refine hk _ _ ⟨ht.put 0 (by repeat constructor) tab2_nd tab2_ni, ?_⟩; exact mst_cong (or_f rfl) (or_f rfl) (or_f rfl) (hm.put (by decide) (by decide))
  · have hE : edgesOf ops2 1 = [] := by kernel_rfl
    have h1 : lk fr 1 = some (int (r : Int)) := ht.base (by repeat constructor); refine tr_move rfl rfl hk2 h1 ?_; refine hk _ _ ⟨ht.put 1 (by repeat constructor) tab2_nd tab2_ni, ?_⟩; exact mst_cong (or_f rfl) (or_f rfl) (or_f rfl) (hm.put (by decide) (by decide))
  · have hE : edgesOf ops2 2 = [0] := by kernel_rfl
    have h9 : lk fr 9 = some (.pointer (some ⟨d, 0, none⟩)) := ht.of (j := 0) (hd 0 (by rw [hE]; decide)) (by repeat constructor); refine tr_nilCheck rfl rfl hk2 h9 ?_; refine hk _ _ ⟨ht.put 2 (by repeat constructor) tab2_nd tab2_ni, ?_⟩; exact mst_cong (or_f rfl) (or_f rfl) (or_f rfl) (hm.put (by decide) (by decide))
  · have hE : edgesOf ops2 3 = [2] := by kernel_rfl
    have h11 : lk fr 11 = some (.pointer (some ⟨d, 0, none⟩)) := ht.of (j := 2) (hd 2 (by rw [hE]; decide)) (by repeat constructor); refine tr_fieldAddr ⟨d, 0, none⟩ rfl rfl hk2 h11 T.fa_proof_desk_0 (fun _ _ _ => by kernel_rfl) rfl ?_; refine hk _ _ ⟨ht.put 3 (by repeat constructor) tab2_nd tab2_ni, ?_⟩; exact mst_cong (or_f rfl) (or_f rfl) (or_f rfl) (hm.put (by decide) (by decide))
  · have hE : edgesOf ops2 4 = [3, 1] := by kernel_rfl
    have h12 : lk fr 12 = some (.pointer (some ⟨d, 0, none⟩)) := ht.of (j := 3) (hd 3 (by rw [hE]; decide)) (by repeat constructor); have h10 : lk fr 10 = some (int (r : Int)) := ht.of (j := 1) (hd 1 (by rw [hE]; decide)) (by repeat constructor); refine tr_indexArr (o := 0) (q := 0 + r) r rfl rfl hk2 T.u_A2_map_int_L_string T.sz_map_int_L_string h12 h10 rfl hr (by omega) ?_; refine hk _ _ ⟨ht.put 4 (by repeat constructor) tab2_nd tab2_ni, ?_⟩; exact mst_cong (or_f rfl) (or_f rfl) (or_f rfl) (hm.put (by decide) (by decide))
  · have hE : edgesOf ops2 5 = [4] := by kernel_rfl
    have h13 : lk fr 13 = some (.pointer (some ⟨d, 0 + r, none⟩)) := ht.of (j := 4) (hd 4 (by rw [hE]; decide)) (by repeat constructor); refine tr_load (v := .map (some mr)) rfl rfl hk2 T.cell_map_int_L_string h13 (atc_own (hmem _ memD) hdc1) ?_; refine hk _ _ ⟨ht.put 5 (by repeat constructor) tab2_nd tab2_ni, ?_⟩; exact mst_cong (or_f rfl) (or_f rfl) (or_f rfl) (hm.put (by decide) (by decide))
  · have hE : edgesOf ops2 6 = [] := by kernel_rfl
    have h5 : lk fr 5 = some (.pointer (some ⟨g, 0, none⟩)) := ht.base (by repeat constructor); refine tr_fieldAddr ⟨g, 1, none⟩ rfl rfl hk2 h5 T.fa_api_Mark_1 (fun _ _ _ => by kernel_rfl) rfl ?_; refine hk _ _ ⟨ht.put 6 (by repeat constructor) tab2_nd tab2_ni, ?_⟩; exact mst_cong (or_f rfl) (or_f rfl) (or_f rfl) (hm.put (by decide) (by decide))
  · have hE : edgesOf ops2 7 = [6] := by kernel_rfl
    have h15 : lk fr 15 = some (.pointer (some ⟨g, 1, none⟩)) := ht.of (j := 6) (hd 6 (by rw [hE]; decide)) (by repeat constructor); refine tr_load (v := int m.2.1) rfl rfl hk2 T.cell_int h15 (atc_own (vs := #[int m.1, int m.2.1, str m.2.2]) (hmem _ memG) rfl) ?_; refine hk _ _ ⟨ht.put 7 (by repeat constructor) tab2_nd tab2_ni, ?_⟩; exact mst_cong (or_f rfl) (or_f rfl) (or_f rfl) (hm.put (by decide) (by decide))
  · have hE : edgesOf ops2 8 = [] := by kernel_rfl
    have h0 : lk fr 0 = some (.pointer (some ⟨d, 0, none⟩)) := ht.base (by repeat constructor); refine tr_move rfl rfl hk2 h0 ?_; refine hk _ _ ⟨ht.put 8 (by repeat constructor) tab2_nd tab2_ni, ?_⟩; exact mst_cong (or_f rfl) (or_f rfl) (or_f rfl) (hm.put (by decide) (by decide))
  · have hE : edgesOf ops2 9 = [] := by kernel_rfl
    have h1 : lk fr 1 = some (int (r : Int)) := ht.base (by repeat constructor); refine tr_move rfl rfl hk2 h1 ?_; refine hk _ _ ⟨ht.put 9 (by repeat constructor) tab2_nd tab2_ni, ?_⟩; exact mst_cong (or_f rfl) (or_f rfl) (or_f rfl) (hm.put (by decide) (by decide))
  · have hE : edgesOf ops2 10 = [8] := by kernel_rfl
    have h17 : lk fr 17 = some (.pointer (some ⟨d, 0, none⟩)) := ht.of (j := 8) (hd 8 (by rw [hE]; decide)) (by repeat constructor); refine tr_nilCheck rfl rfl hk2 h17 ?_; refine hk _ _ ⟨ht.put 10 (by repeat constructor) tab2_nd tab2_ni, ?_⟩; exact mst_cong (or_f rfl) (or_f rfl) (or_f rfl) (hm.put (by decide) (by decide))
  · have hE : edgesOf ops2 11 = [10] := by kernel_rfl
    have h19 : lk fr 19 = some (.pointer (some ⟨d, 0, none⟩)) := ht.of (j := 10) (hd 10 (by rw [hE]; decide)) (by repeat constructor); refine tr_fieldAddr ⟨d, 0, none⟩ rfl rfl hk2 h19 T.fa_proof_desk_0 (fun _ _ _ => by kernel_rfl) rfl ?_; refine hk _ _ ⟨ht.put 11 (by repeat constructor) tab2_nd tab2_ni, ?_⟩; exact mst_cong (or_f rfl) (or_f rfl) (or_f rfl) (hm.put (by decide) (by decide))
  · have hE : edgesOf ops2 12 = [11, 9] := by kernel_rfl
    have h20 : lk fr 20 = some (.pointer (some ⟨d, 0, none⟩)) := ht.of (j := 11) (hd 11 (by rw [hE]; decide)) (by repeat constructor); have h18 : lk fr 18 = some (int (r : Int)) := ht.of (j := 9) (hd 9 (by rw [hE]; decide)) (by repeat constructor); refine tr_indexArr (o := 0) (q := 0 + r) r rfl rfl hk2 T.u_A2_map_int_L_string T.sz_map_int_L_string h20 h18 rfl hr (by omega) ?_; refine hk _ _ ⟨ht.put 12 (by repeat constructor) tab2_nd tab2_ni, ?_⟩; exact mst_cong (or_f rfl) (or_f rfl) (or_f rfl) (hm.put (by decide) (by decide))
  · have hE : edgesOf ops2 13 = [12] := by kernel_rfl
    have h21 : lk fr 21 = some (.pointer (some ⟨d, 0 + r, none⟩)) := ht.of (j := 12) (hd 12 (by rw [hE]; decide)) (by repeat constructor); refine tr_load (v := .map (some mr)) rfl rfl hk2 T.cell_map_int_L_string h21 (atc_own (hmem _ memD) hdc1) ?_; refine hk _ _ ⟨ht.put 13 (by repeat constructor) tab2_nd tab2_ni, ?_⟩; exact mst_cong (or_f rfl) (or_f rfl) (or_f rfl) (hm.put (by decide) (by decide))
  · have hE : edgesOf ops2 14 = [] := by kernel_rfl
    have h5 : lk fr 5 = some (.pointer (some ⟨g, 0, none⟩)) := ht.base (by repeat constructor); refine tr_fieldAddr ⟨g, 1, none⟩ rfl rfl hk2 h5 T.fa_api_Mark_1 (fun _ _ _ => by kernel_rfl) rfl ?_; refine hk _ _ ⟨ht.put 14 (by repeat constructor) tab2_nd tab2_ni, ?_⟩; exact mst_cong (or_f rfl) (or_f rfl) (or_f rfl) (hm.put (by decide) (by decide))
  · have hE : edgesOf ops2 15 = [14] := by kernel_rfl
    have h23 : lk fr 23 = some (.pointer (some ⟨g, 1, none⟩)) := ht.of (j := 14) (hd 14 (by rw [hE]; decide)) (by repeat constructor); refine tr_load (v := int m.2.1) rfl rfl hk2 T.cell_int h23 (atc_own (vs := #[int m.1, int m.2.1, str m.2.2]) (hmem _ memG) rfl) ?_; refine hk _ _ ⟨ht.put 15 (by repeat constructor) tab2_nd tab2_ni, ?_⟩; exact mst_cong (or_f rfl) (or_f rfl) (or_f rfl) (hm.put (by decide) (by decide))
  · have hE : edgesOf ops2 16 = [13, 15] := by kernel_rfl
    have h22 : lk fr 22 = some (.map (some mr)) := ht.of (j := 13) (hd 13 (by rw [hE]; decide)) (by repeat constructor); have h24 : lk fr 24 = some (int m.2.1) := ht.of (j := 15) (hd 15 (by rw [hE]; decide)) (by repeat constructor); refine look25 h22 h24 (hmem _ memM) ?_; refine hk _ _ ⟨ht.put 16 (by repeat constructor) tab2_nd tab2_ni, ?_⟩; exact mst_cong (or_f rfl) (or_f rfl) (or_f rfl) (hm.put (by decide) (by decide))
  · have hE : edgesOf ops2 17 = [] := by kernel_rfl
    have h5 : lk fr 5 = some (.pointer (some ⟨g, 0, none⟩)) := ht.base (by repeat constructor); refine tr_fieldAddr ⟨g, 2, none⟩ rfl rfl hk2 h5 T.fa_api_Mark_2 (fun _ _ _ => by kernel_rfl) rfl ?_; refine hk _ _ ⟨ht.put 17 (by repeat constructor) tab2_nd tab2_ni, ?_⟩; exact mst_cong (or_f rfl) (or_f rfl) (or_f rfl) (hm.put (by decide) (by decide))
  · have hE : edgesOf ops2 18 = [17] := by kernel_rfl
    have h26 : lk fr 26 = some (.pointer (some ⟨g, 2, none⟩)) := ht.of (j := 17) (hd 17 (by rw [hE]; decide)) (by repeat constructor); refine tr_load (v := str m.2.2) rfl rfl hk2 T.cell_string h26 (atc_own (vs := #[int m.1, int m.2.1, str m.2.2]) (hmem _ memG) rfl) ?_; refine hk _ _ ⟨ht.put 18 (by repeat constructor) tab2_nd tab2_ni, ?_⟩; exact mst_cong (or_f rfl) (or_f rfl) (or_f rfl) (hm.put (by decide) (by decide))
  · -- the new word's slice
    have hE : edgesOf ops2 19 = [18] := by kernel_rfl
    have h27 : lk fr 27 = some (str m.2.2) := ht.of (j := 18) (hd 18 (by rw [hE]; decide)) (by repeat constructor)
    have h20 : ld 20 = false := by
      cases h : ld 20 with
      | false => rfl
      | true =>
        have hE2 : edgesOf ops2 20 = [16, 19] := by kernel_rfl
        have := hcl 20 h 19 (by rw [hE2]; decide); rw [hn] at this; cases this
    have hHp : hp = H := by
      have := hm; rw [h21, h20, hn] at this; exact this
    subst hHp; refine tr_buildSlice (e := T.string) (us := #[str m.2.2]) [(0, str m.2.2)] rfl rfl hk2 (by show (do let v ← (lk fr 27).map (0, ·); pure [v]) = _; rw [h27]; rfl) (fun w => by kernel_rfl) (fun _ _ => by kernel_rfl) fun gs hgs hns => ?_; refine hk _ _ ⟨?_, ?_⟩
    · intro e he hl
      have hne : e.2.1 ≠ 28 := by
        rintro h; have h1 : e.2.1 ∈ (tab2 d r g mr m A cap ws).map (·.2.1) := List.mem_map.2 ⟨e, he, rfl⟩; rw [tab2_ds] at h1; rw [h] at h1; exact absurd h1 (by decide)
      rw [lk_cons, if_neg (Ne.symm hne)]; refine ht e he ?_
      cases h1 : e.1 with
      | none => rfl
      | some j =>
        rw [h1] at hl; simp only [Option.all_some, Bool.or_eq_true] at hl ⊢
        rcases hl with hl | hl
        · exact hl
        · obtain rfl := Nat.eq_of_beq_eq_true hl
          have h1 : (19 : Nat) ∈ (tab2 d r g mr m A cap ws).filterMap (·.1) := List.mem_filterMap.2 ⟨e, he, h1⟩; rw [tab2_is] at h1; exact absurd h1 (by decide)
    · refine mst_cong (or_t rfl) ((or_f rfl).trans h20) ((or_f rfl).trans h21) ?_
      show ∃ gs, _; exact ⟨gs, by rw [lk_cons, if_pos rfl], rfl, hns, hgs⟩
  · -- it is put behind the others
    have hE : edgesOf ops2 20 = [16, 19] := by kernel_rfl
    have h25 : lk fr 25 = some (.slice A ws.length cap) := ht.of (j := 16) (hd 16 (by rw [hE]; decide)) (by repeat constructor); have h19 : ld 19 = true := hd 19 (by rw [hE]; decide); have hHp := hm; rw [h21, hn, h19] at hHp; obtain ⟨gs, h28, rfl, hns, hgs⟩ := (show ∃ gs, lk fr 28 = some (.slice (some ⟨gs, 0, none⟩) 1 1) ∧ hp = (gs, .cells #[str m.2.2] T.string (0, 0)) :: H ∧ ¬ Has H gs ∧ W.heap.size ≤ gs from hHp); have hl1 : (ws ++ [m.2.2]).length = ws.length + 1 := by simp
    refine tr_append (hp' := (gs, .cells #[str m.2.2] T.string (0, 0)) :: H') (og := og) (ws.length + 1) (rows (ws ++ [m.2.2])) rfl rfl hk2 T.el_strs h25 h28 hG ?_ (nodup_new ndH hns) (List.mem_cons_self ..) rfl rfl rfl (by rw [rows_append]; rfl) (by simp only [maxLen]; omega) (by omega) fun A' cap' og' hG' hnd hfresh => ?_
    · exact (List.Perm.cons _ hH).trans (perm_of fun p => by simp only [List.countP_append, List.countP_cons]; omega)
    refine hk _ _ ⟨?_, ?_⟩
    · intro e he hl
      have hne : e.2.1 ≠ 29 := by
        rintro h; have h1 : e.2.1 ∈ (tab2 d r g mr m A cap ws).map (·.2.1) := List.mem_map.2 ⟨e, he, rfl⟩; rw [tab2_ds] at h1; rw [h] at h1; exact absurd h1 (by decide)
      rw [lk_cons, if_neg (Ne.symm hne)]; refine ht e he ?_
      cases h1 : e.1 with
      | none => rfl
      | some j =>
        rw [h1] at hl; simp only [Option.all_some, Bool.or_eq_true] at hl ⊢
        rcases hl with hl | hl
        · exact hl
        · obtain rfl := Nat.eq_of_beq_eq_true hl
          have h1 : (20 : Nat) ∈ (tab2 d r g mr m A cap ws).filterMap (·.1) := List.mem_filterMap.2 ⟨e, he, h1⟩; rw [tab2_is] at h1; exact absurd h1 (by decide)
    · refine mst_cong (b19 := ld 19) (or_f rfl) (or_t rfl) ((or_f rfl).trans h21) ?_
      show ∃ gs A' cap' og', _; refine ⟨gs, A', cap', og', by rw [lk_cons, if_pos rfl, hl1], by rw [hl1]; exact hG', rfl, hnd, fun q hq => ?_⟩
      rcases hfresh q hq with ⟨q', hq', e⟩ | h
      · rcases List.mem_cons.1 hq' with rfl | hq'
        · exact .inr (e ▸ hgs)
        · exact .inl ⟨q', hq', e⟩
      · exact .inr h
  · -- into the map
    have hall : (List.range 21).all (deps ops2 22 21) = true := by kernel_rfl
    have hld : ∀ j, j < 21 → ld j = true := fun j hj => deps_ld hcl 22 21 j hd (List.all_eq_true.1 hall j (List.mem_range.2 hj)); have h14 : lk fr 14 = some (.map (some mr)) := ht.of (j := 5) (hld 5 (by omega)) (by repeat constructor); have h16 : lk fr 16 = some (int m.2.1) := ht.of (j := 7) (hld 7 (by omega)) (by repeat constructor); have hHp := hm; rw [h21, hld 20 (by omega)] at hHp; obtain ⟨gs, A', cap', og', h29, hG', rfl, hnd, hfr⟩ := (show ∃ gs A' cap' og', lk fr 29 = some (.slice A' (ws ++ [m.2.2]).length cap') ∧ Grow T.string 1 A' (ws ++ [m.2.2]).length cap' (rows (ws ++ [m.2.2])) og' ∧ hp = og' ++ ((gs, .cells #[str m.2.2] T.string (0, 0)) :: H') ∧ (hp.map (·.1)).Nodup ∧ ∀ q ∈ og', Has H q.1 ∨ W.heap.size ≤ q.1 from hHp); obtain ⟨hp2, hpp, hnm, hF⟩ := hfin gs A' cap' og' _ hG' rfl hnd hfr; refine tr_mapUpdate rfl hk2 T.u_map_int_L_string T.u_int h14 h16 h29 hpp hnm ?_; refine hk _ _ ⟨fun e he hl => ht e he ?_, ?_⟩
    · cases h1 : e.1 with
      | none => rfl
      | some j =>
        have h2 : j ∈ (tab2 d r g mr m A cap ws).filterMap (·.1) := List.mem_filterMap.2 ⟨e, he, h1⟩; rw [tab2_is] at h2
        have : j < 21 := by
          have : ∀ j ∈ [0, 1, 2, 3, 4, 5, 6, 7, 8, 9, 10, 11, 12, 13, 14, 15, 16, 17, 18], j < 21 := by decide
          exact this j h2
        simpa using hld j this
    · exact mst_cong (b19 := ld 19) (b20 := ld 20) (or_f rfl) (or_f rfl) (or_t rfl) (show Mst W H H' m.2.2 ws Fin _ _ true fr _ from hF)
theorem step3 {ll : List (Ment Int)} {cl : Nat} (hk2 : b.kind ≠ .early) (hr : r < 2) (hdc2 : dc[2 + r]? = some (.map (some qr)))
    (memD : (d, Obj.cells dc T.proof_desk (0, 0)) ∈ H) (memG : (g, Obj.cells #[int m.1, int m.2.1, str m.2.2] T.api_Mark (0, 0)) ∈ H)
    (hfin : ∃ hp2, H.Perm ((qr, mapO int ll cl) :: hp2) ∧ ¬ Has hp2 qr ∧ Fin ((qr, mapO int (putM ll m.2.1 (mkV m) cl) (clkM ll m.2.1 cl)) :: hp2)) :
    ∀ i, i < 10 → ∀ (ld : Nat → Bool) fr hp, (Tab (tab3 d r g qr m) ld fr ∧ Mst3 H Fin (ld 9) hp) → (∀ i, ld i = true → ∀ j ∈ edgesOf ops3 i, ld j = true) → ld i = false → (∀ j ∈ edgesOf ops3 i, ld j = true) →
      ∀ n rest, (∀ fr' hp', (Tab (tab3 d r g qr m) (fun j => ld j || Nat.beq j i) fr' ∧ Mst3 H Fin (ld 9 || Nat.beq 9 i) hp') → TC (XM W o v nn z BW Goal ms ro) (cT b0) b cs n (.inRegion ops3 rest :: k) fr' hp') →
        TC (XM W o v nn z BW Goal ms ro) (cT b0) b cs (n + 1) (.inRegion ops3 (i :: rest) :: k) fr hp := by
  rintro i hi ld fr hp ⟨ht, hm⟩ hcl hn hd n rest hk
  have h9 : ld 9 = false := by
    cases h : ld 9 with
    | false => rfl
    | true =>
      by_cases e : i = 9
      · rw [← e, hn] at h; cases h
      · have hall : (List.range 9).all (deps ops3 10 9) = true := by kernel_rfl
        have h2 := deps_ld hcl 10 9 i (hcl 9 h) (List.all_eq_true.1 hall i (List.mem_range.2 (by omega))); rw [hn] at h2; cases h2
  have hHp : hp = H := by
    have := hm; rw [h9] at this; exact this
  subst hHp; have hmem : ∀ x ∈ hp, x ∈ hp := fun _ h => h; have hcases : i = 0 ∨ i = 1 ∨ i = 2 ∨ i = 3 ∨ i = 4 ∨ i = 5 ∨ i = 6 ∨ i = 7 ∨ i = 8 ∨ i = 9 := by omega
  rcases hcases with rfl | rfl | rfl | rfl | rfl | rfl | rfl | rfl | rfl | rfl
  · have hE : edgesOf ops3 0 = [] := by kernel_rfl
    have h0 : lk fr 0 = some (.pointer (some ⟨d, 0, none⟩)) := ht.base (by repeat constructor); refine tr_move rfl rfl hk2 h0 ?_; refine hk _ _ ⟨ht.put 0 (by repeat constructor) tab3_nd tab3_ni, ?_⟩; exact mst3_cong (or_f rfl) hm
  · have hE : edgesOf ops3 1 = [] := by kernel_rfl
    have h1 : lk fr 1 = some (int (r : Int)) := ht.base (by repeat constructor); refine tr_move rfl rfl hk2 h1 ?_; refine hk _ _ ⟨ht.put 1 (by repeat constructor) tab3_nd tab3_ni, ?_⟩; exact mst3_cong (or_f rfl) hm
  · have hE : edgesOf ops3 2 = [0] := by kernel_rfl
    have h30 : lk fr 30 = some (.pointer (some ⟨d, 0, none⟩)) := ht.of (j := 0) (hd 0 (by rw [hE]; decide)) (by repeat constructor); refine tr_nilCheck rfl rfl hk2 h30 ?_; refine hk _ _ ⟨ht.put 2 (by repeat constructor) tab3_nd tab3_ni, ?_⟩; exact mst3_cong (or_f rfl) hm
  · have hE : edgesOf ops3 3 = [2] := by kernel_rfl
    have h32 : lk fr 32 = some (.pointer (some ⟨d, 0, none⟩)) := ht.of (j := 2) (hd 2 (by rw [hE]; decide)) (by repeat constructor); refine tr_fieldAddr ⟨d, 2, none⟩ rfl rfl hk2 h32 T.fa_proof_desk_1 (fun _ _ _ => by kernel_rfl) rfl ?_; refine hk _ _ ⟨ht.put 3 (by repeat constructor) tab3_nd tab3_ni, ?_⟩; exact mst3_cong (or_f rfl) hm
  · have hE : edgesOf ops3 4 = [3, 1] := by kernel_rfl
    have h33 : lk fr 33 = some (.pointer (some ⟨d, 2, none⟩)) := ht.of (j := 3) (hd 3 (by rw [hE]; decide)) (by repeat constructor); have h31 : lk fr 31 = some (int (r : Int)) := ht.of (j := 1) (hd 1 (by rw [hE]; decide)) (by repeat constructor); refine tr_indexArr (o := 2) (q := 2 + r) r rfl rfl hk2 T.u_A2_map_int_api_Mark T.sz_map_int_api_Mark h33 h31 rfl hr (by omega) ?_; refine hk _ _ ⟨ht.put 4 (by repeat constructor) tab3_nd tab3_ni, ?_⟩; exact mst3_cong (or_f rfl) hm
  · have hE : edgesOf ops3 5 = [4] := by kernel_rfl
    have h34 : lk fr 34 = some (.pointer (some ⟨d, 2 + r, none⟩)) := ht.of (j := 4) (hd 4 (by rw [hE]; decide)) (by repeat constructor); refine tr_load (v := .map (some qr)) rfl rfl hk2 T.cell_map_int_api_Mark h34 (atc_own (hmem _ memD) hdc2) ?_; refine hk _ _ ⟨ht.put 5 (by repeat constructor) tab3_nd tab3_ni, ?_⟩; exact mst3_cong (or_f rfl) hm
  · have hE : edgesOf ops3 6 = [] := by kernel_rfl
    have h5 : lk fr 5 = some (.pointer (some ⟨g, 0, none⟩)) := ht.base (by repeat constructor); refine tr_fieldAddr ⟨g, 1, none⟩ rfl rfl hk2 h5 T.fa_api_Mark_1 (fun _ _ _ => by kernel_rfl) rfl ?_; refine hk _ _ ⟨ht.put 6 (by repeat constructor) tab3_nd tab3_ni, ?_⟩; exact mst3_cong (or_f rfl) hm
  · have hE : edgesOf ops3 7 = [6] := by kernel_rfl
    have h36 : lk fr 36 = some (.pointer (some ⟨g, 1, none⟩)) := ht.of (j := 6) (hd 6 (by rw [hE]; decide)) (by repeat constructor); refine tr_load (v := int m.2.1) rfl rfl hk2 T.cell_int h36 (atc_own (vs := #[int m.1, int m.2.1, str m.2.2]) (hmem _ memG) rfl) ?_; refine hk _ _ ⟨ht.put 7 (by repeat constructor) tab3_nd tab3_ni, ?_⟩; exact mst3_cong (or_f rfl) hm
  · have hE : edgesOf ops3 8 = [] := by kernel_rfl
    have h5 : lk fr 5 = some (.pointer (some ⟨g, 0, none⟩)) := ht.base (by repeat constructor); refine tr_loadS (vs := [int m.1, int m.2.1, str m.2.2]) rfl rfl hk2 T.row_api_Mark T.sz_api_Mark h5 rfl (atcs_own (vs := #[int m.1, int m.2.1, str m.2.2]) (hmem _ memG) fun j u hu => by rw [Nat.zero_add]; simpa using hu) ?_; refine hk _ _ ⟨ht.put 8 (by repeat constructor) tab3_nd tab3_ni, ?_⟩; exact mst3_cong (or_f rfl) hm
  · have hall : (List.range 9).all (deps ops3 10 9) = true := by kernel_rfl
    have hld : ∀ j, j < 9 → ld j = true := fun j hj => deps_ld hcl 10 9 j hd (List.all_eq_true.1 hall j (List.mem_range.2 hj)); have h35 : lk fr 35 = some (.map (some qr)) := ht.of (j := 5) (hld 5 (by omega)) (by repeat constructor); have h37 : lk fr 37 = some (int m.2.1) := ht.of (j := 7) (hld 7 (by omega)) (by repeat constructor); have h38 : lk fr 38 = some (mkV m) := ht.of (j := 8) (hld 8 (by omega)) (by repeat constructor); obtain ⟨hp2, hpp, hnm, hF⟩ := hfin; refine tr_mapUpdate rfl hk2 T.u_map_int_api_Mark T.u_int h35 h37 h38 hpp hnm ?_; refine hk _ _ ⟨fun e he hl => ht e he ?_, ?_⟩
    · cases h1 : e.1 with
      | none => rfl
      | some j =>
        have h2 : j ∈ (tab3 d r g qr m).filterMap (·.1) := List.mem_filterMap.2 ⟨e, he, h1⟩; rw [tab3_is] at h2
        have : j < 9 := by
          have : ∀ j ∈ [0, 1, 2, 3, 4, 5, 6, 7, 8], j < 9 := by decide
          exact this j h2
        simpa using hld j this
    · exact mst3_cong (or_t rfl) (show Mst3 hp Fin true _ from hF)
end
end Go.Proofs.Ytpfbbggmcbhboaa
end
