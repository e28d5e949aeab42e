/- Made by a program (gen_T.py): names of the seat's functions and types, and closed facts on them. -/
import Derived.Test.YtlpgheniajdkfaaProg
import Derived.Test.YtlpgheniajdkfaaWf
import Derived.KernelRfl
import Derived.Laws.StructEq
namespace Go.Proofs.Ytlpgheniajdkfaa
open Go Go.W
set_option linter.unusedVariables false

theorem mixed : Try.prog.follows .mixedOrders = true := by kernel_rfl
namespace F
abbrev gosem_cut_init : Nat := 2
theorem gosem_cut_init_f : Try.prog.funcs[gosem_cut_init]? = some Try.f2 := Try.func2
theorem gosem_cut_init_cb : Callable Try.prog gosem_cut_init := ⟨⟨_, Try.func2, by kernel_rfl, by kernel_rfl⟩⟩
abbrev law04_TradeLeast : Nat := 3
theorem law04_TradeLeast_f : Try.prog.funcs[law04_TradeLeast]? = some Try.f3 := Try.func3
theorem law04_TradeLeast_cb : Callable Try.prog law04_TradeLeast := ⟨⟨_, Try.func3, by kernel_rfl, by kernel_rfl⟩⟩
abbrev law04_TradeFollowed : Nat := 4
theorem law04_TradeFollowed_f : Try.prog.funcs[law04_TradeFollowed]? = some Try.f4 := Try.func4
theorem law04_TradeFollowed_cb : Callable Try.prog law04_TradeFollowed := ⟨⟨_, Try.func4, by kernel_rfl, by kernel_rfl⟩⟩
abbrev law04_TradeLonger : Nat := 5
theorem law04_TradeLonger_f : Try.prog.funcs[law04_TradeLonger]? = some Try.f5 := Try.func5
theorem law04_TradeLonger_cb : Callable Try.prog law04_TradeLonger := ⟨⟨_, Try.func5, by kernel_rfl, by kernel_rfl⟩⟩
abbrev law04_TradeCompared : Nat := 6
theorem law04_TradeCompared_f : Try.prog.funcs[law04_TradeCompared]? = some Try.f6 := Try.func6
theorem law04_TradeCompared_cb : Callable Try.prog law04_TradeCompared := ⟨⟨_, Try.func6, by kernel_rfl, by kernel_rfl⟩⟩
abbrev law04_TradeRenumbered : Nat := 7
theorem law04_TradeRenumbered_f : Try.prog.funcs[law04_TradeRenumbered]? = some Try.f7 := Try.func7
theorem law04_TradeRenumbered_cb : Callable Try.prog law04_TradeRenumbered := ⟨⟨_, Try.func7, by kernel_rfl, by kernel_rfl⟩⟩
abbrev law04_TradeUp : Nat := 8
theorem law04_TradeUp_f : Try.prog.funcs[law04_TradeUp]? = some Try.f8 := Try.func8
theorem law04_TradeUp_cb : Callable Try.prog law04_TradeUp := ⟨⟨_, Try.func8, by kernel_rfl, by kernel_rfl⟩⟩
abbrev law04_TradeShort : Nat := 9
theorem law04_TradeShort_f : Try.prog.funcs[law04_TradeShort]? = some Try.f9 := Try.func9
theorem law04_TradeShort_cb : Callable Try.prog law04_TradeShort := ⟨⟨_, Try.func9, by kernel_rfl, by kernel_rfl⟩⟩
abbrev law04_TradeDropped : Nat := 10
theorem law04_TradeDropped_f : Try.prog.funcs[law04_TradeDropped]? = some Try.f10 := Try.func10
theorem law04_TradeDropped_cb : Callable Try.prog law04_TradeDropped := ⟨⟨_, Try.func10, by kernel_rfl, by kernel_rfl⟩⟩
abbrev law04_TradeFound : Nat := 11
theorem law04_TradeFound_f : Try.prog.funcs[law04_TradeFound]? = some Try.f11 := Try.func11
theorem law04_TradeFound_cb : Callable Try.prog law04_TradeFound := ⟨⟨_, Try.func11, by kernel_rfl, by kernel_rfl⟩⟩
abbrev law04_TradeMore : Nat := 12
theorem law04_TradeMore_f : Try.prog.funcs[law04_TradeMore]? = some Try.f12 := Try.func12
theorem law04_TradeMore_cb : Callable Try.prog law04_TradeMore := ⟨⟨_, Try.func12, by kernel_rfl, by kernel_rfl⟩⟩
abbrev kit_TradesOf : Nat := 13
theorem kit_TradesOf_f : Try.prog.funcs[kit_TradesOf]? = some Try.f13 := Try.func13
theorem kit_TradesOf_cb : Callable Try.prog kit_TradesOf := ⟨⟨_, Try.func13, by kernel_rfl, by kernel_rfl⟩⟩
abbrev kit_NewDice : Nat := 14
theorem kit_NewDice_f : Try.prog.funcs[kit_NewDice]? = some Try.f14 := Try.func14
theorem kit_NewDice_cb : Callable Try.prog kit_NewDice := ⟨⟨_, Try.func14, by kernel_rfl, by kernel_rfl⟩⟩
abbrev trade_Least : Nat := 15
theorem trade_Least_f : Try.prog.funcs[trade_Least]? = some Try.f15 := Try.func15
theorem trade_Least_cb : Callable Try.prog trade_Least := ⟨⟨_, Try.func15, by kernel_rfl, by kernel_rfl⟩⟩
abbrev law04_under : Nat := 16
theorem law04_under_f : Try.prog.funcs[law04_under]? = some Try.f16 := Try.func16
theorem law04_under_cb : Callable Try.prog law04_under := ⟨⟨_, Try.func16, by kernel_rfl, by kernel_rfl⟩⟩
abbrev law04_indexed : Nat := 17
theorem law04_indexed_f : Try.prog.funcs[law04_indexed]? = some Try.f17 := Try.func17
theorem law04_indexed_cb : Callable Try.prog law04_indexed := ⟨⟨_, Try.func17, by kernel_rfl, by kernel_rfl⟩⟩
abbrev trade_Follow : Nat := 18
theorem trade_Follow_f : Try.prog.funcs[trade_Follow]? = some Try.f18 := Try.func18
theorem trade_Follow_cb : Callable Try.prog trade_Follow := ⟨⟨_, Try.func18, by kernel_rfl, by kernel_rfl⟩⟩
abbrev trade_May : Nat := 19
theorem trade_May_f : Try.prog.funcs[trade_May]? = some Try.f19 := Try.func19
theorem trade_May_cb : Callable Try.prog trade_May := ⟨⟨_, Try.func19, by kernel_rfl, by kernel_rfl⟩⟩
abbrev kit_Index : Nat := 20
theorem kit_Index_f : Try.prog.funcs[kit_Index]? = some Try.f20 := Try.func20
theorem kit_Index_cb : Callable Try.prog kit_Index := ⟨⟨_, Try.func20, by kernel_rfl, by kernel_rfl⟩⟩
abbrev trade_Compare : Nat := 21
theorem trade_Compare_f : Try.prog.funcs[trade_Compare]? = some Try.f21 := Try.func21
theorem trade_Compare_cb : Callable Try.prog trade_Compare := ⟨⟨_, Try.func21, by kernel_rfl, by kernel_rfl⟩⟩
abbrev law04_word : Nat := 22
theorem law04_word_f : Try.prog.funcs[law04_word]? = some Try.f22 := Try.func22
theorem law04_word_cb : Callable Try.prog law04_word := ⟨⟨_, Try.func22, by kernel_rfl, by kernel_rfl⟩⟩
abbrev kit_Dice_Order : Nat := 23
theorem kit_Dice_Order_f : Try.prog.funcs[kit_Dice_Order]? = some Try.f23 := Try.func23
theorem kit_Dice_Order_cb : Callable Try.prog kit_Dice_Order := ⟨⟨_, Try.func23, by kernel_rfl, by kernel_rfl⟩⟩
abbrev kit_DupTrades : Nat := 24
theorem kit_DupTrades_f : Try.prog.funcs[kit_DupTrades]? = some Try.f24 := Try.func24
theorem kit_DupTrades_cb : Callable Try.prog kit_DupTrades := ⟨⟨_, Try.func24, by kernel_rfl, by kernel_rfl⟩⟩
abbrev trade_Path : Nat := 25
theorem trade_Path_f : Try.prog.funcs[trade_Path]? = some Try.f25 := Try.func25
theorem trade_Path_cb : Callable Try.prog trade_Path := ⟨⟨_, Try.func25, by kernel_rfl, by kernel_rfl⟩⟩
abbrev trade_Under : Nat := 26
theorem trade_Under_f : Try.prog.funcs[trade_Under]? = some Try.f26 := Try.func26
theorem trade_Under_cb : Callable Try.prog trade_Under := ⟨⟨_, Try.func26, by kernel_rfl, by kernel_rfl⟩⟩
abbrev trade_Short : Nat := 27
theorem trade_Short_f : Try.prog.funcs[trade_Short]? = some Try.f27 := Try.func27
theorem trade_Short_cb : Callable Try.prog trade_Short := ⟨⟨_, Try.func27, by kernel_rfl, by kernel_rfl⟩⟩
abbrev trade_Means : Nat := 28
theorem trade_Means_f : Try.prog.funcs[trade_Means]? = some Try.f28 := Try.func28
theorem trade_Means_cb : Callable Try.prog trade_Means := ⟨⟨_, Try.func28, by kernel_rfl, by kernel_rfl⟩⟩
abbrev trade_Drop : Nat := 29
theorem trade_Drop_f : Try.prog.funcs[trade_Drop]? = some Try.f29 := Try.func29
theorem trade_Drop_cb : Callable Try.prog trade_Drop := ⟨⟨_, Try.func29, by kernel_rfl, by kernel_rfl⟩⟩
abbrev trade_Check : Nat := 30
theorem trade_Check_f : Try.prog.funcs[trade_Check]? = some Try.f30 := Try.func30
theorem trade_Check_cb : Callable Try.prog trade_Check := ⟨⟨_, Try.func30, by kernel_rfl, by kernel_rfl⟩⟩
abbrev law04_leads : Nat := 31
theorem law04_leads_f : Try.prog.funcs[law04_leads]? = some Try.f31 := Try.func31
theorem law04_leads_cb : Callable Try.prog law04_leads := ⟨⟨_, Try.func31, by kernel_rfl, by kernel_rfl⟩⟩
abbrev kit_Dice_To : Nat := 32
theorem kit_Dice_To_f : Try.prog.funcs[kit_Dice_To]? = some Try.f32 := Try.func32
theorem kit_Dice_To_cb : Callable Try.prog kit_Dice_To := ⟨⟨_, Try.func32, by kernel_rfl, by kernel_rfl⟩⟩
abbrev trade_Steps : Nat := 33
theorem trade_Steps_f : Try.prog.funcs[trade_Steps]? = some Try.f33 := Try.func33
theorem trade_Steps_cb : Callable Try.prog trade_Steps := ⟨⟨_, Try.func33, by kernel_rfl, by kernel_rfl⟩⟩
abbrev trade_Hidden : Nat := 34
theorem trade_Hidden_f : Try.prog.funcs[trade_Hidden]? = some Try.f34 := Try.func34
theorem trade_Hidden_cb : Callable Try.prog trade_Hidden := ⟨⟨_, Try.func34, by kernel_rfl, by kernel_rfl⟩⟩
abbrev law04_free : Nat := 35
theorem law04_free_f : Try.prog.funcs[law04_free]? = some Try.f35 := Try.func35
theorem law04_free_cb : Callable Try.prog law04_free := ⟨⟨_, Try.func35, by kernel_rfl, by kernel_rfl⟩⟩
abbrev law04_added : Nat := 36
theorem law04_added_f : Try.prog.funcs[law04_added]? = some Try.f36 := Try.func36
theorem law04_added_cb : Callable Try.prog law04_added := ⟨⟨_, Try.func36, by kernel_rfl, by kernel_rfl⟩⟩
abbrev kit_sorts : Nat := 37
theorem kit_sorts_f : Try.prog.funcs[kit_sorts]? = some Try.f37 := Try.func37
theorem kit_sorts_cb : Callable Try.prog kit_sorts := ⟨⟨_, Try.func37, by kernel_rfl, by kernel_rfl⟩⟩
abbrev kit_Dice_From : Nat := 38
theorem kit_Dice_From_f : Try.prog.funcs[kit_Dice_From]? = some Try.f38 := Try.func38
theorem kit_Dice_From_cb : Callable Try.prog kit_Dice_From := ⟨⟨_, Try.func38, by kernel_rfl, by kernel_rfl⟩⟩
abbrev kit_partOf : Nat := 39
theorem kit_partOf_f : Try.prog.funcs[kit_partOf]? = some Try.f39 := Try.func39
theorem kit_partOf_cb : Callable Try.prog kit_partOf := ⟨⟨_, Try.func39, by kernel_rfl, by kernel_rfl⟩⟩
abbrev kit_callings : Nat := 40
theorem kit_callings_f : Try.prog.funcs[kit_callings]? = some Try.f40 := Try.func40
theorem kit_callings_cb : Callable Try.prog kit_callings := ⟨⟨_, Try.func40, by kernel_rfl, by kernel_rfl⟩⟩
abbrev kit_Dice_Once : Nat := 41
theorem kit_Dice_Once_f : Try.prog.funcs[kit_Dice_Once]? = some Try.f41 := Try.func41
theorem kit_Dice_Once_cb : Callable Try.prog kit_Dice_Once := ⟨⟨_, Try.func41, by kernel_rfl, by kernel_rfl⟩⟩
abbrev trade_begin : Nat := 42
theorem trade_begin_f : Try.prog.funcs[trade_begin]? = some Try.f42 := Try.func42
theorem trade_begin_cb : Callable Try.prog trade_begin := ⟨⟨_, Try.func42, by kernel_rfl, by kernel_rfl⟩⟩
abbrev trade_between : Nat := 43
theorem trade_between_f : Try.prog.funcs[trade_between]? = some Try.f43 := Try.func43
theorem trade_between_cb : Callable Try.prog trade_between := ⟨⟨_, Try.func43, by kernel_rfl, by kernel_rfl⟩⟩
abbrev trade_classes_has : Nat := 44
theorem trade_classes_has_f : Try.prog.funcs[trade_classes_has]? = some Try.f44 := Try.func44
theorem trade_classes_has_cb : Callable Try.prog trade_classes_has := ⟨⟨_, Try.func44, by kernel_rfl, by kernel_rfl⟩⟩
abbrev law04_shops : Nat := 45
theorem law04_shops_f : Try.prog.funcs[law04_shops]? = some Try.f45 := Try.func45
theorem law04_shops_cb : Callable Try.prog law04_shops := ⟨⟨_, Try.func45, by kernel_rfl, by kernel_rfl⟩⟩
abbrev trade_Join : Nat := 46
theorem trade_Join_f : Try.prog.funcs[trade_Join]? = some Try.f46 := Try.func46
theorem trade_Join_cb : Callable Try.prog trade_Join := ⟨⟨_, Try.func46, by kernel_rfl, by kernel_rfl⟩⟩
abbrev law04_later : Nat := 47
theorem law04_later_f : Try.prog.funcs[law04_later]? = some Try.f47 := Try.func47
theorem law04_later_cb : Callable Try.prog law04_later := ⟨⟨_, Try.func47, by kernel_rfl, by kernel_rfl⟩⟩
abbrev kit_EqLists : Nat := 48
theorem kit_EqLists_f : Try.prog.funcs[kit_EqLists]? = some Try.f48 := Try.func48
theorem kit_EqLists_cb : Callable Try.prog kit_EqLists := ⟨⟨_, Try.func48, by kernel_rfl, by kernel_rfl⟩⟩
abbrev kit_EqInts : Nat := 49
theorem kit_EqInts_f : Try.prog.funcs[kit_EqInts]? = some Try.f49 := Try.func49
theorem kit_EqInts_cb : Callable Try.prog kit_EqInts := ⟨⟨_, Try.func49, by kernel_rfl, by kernel_rfl⟩⟩
abbrev kit_EqMoves : Nat := 50
theorem kit_EqMoves_f : Try.prog.funcs[kit_EqMoves]? = some Try.f50 := Try.func50
theorem kit_EqMoves_cb : Callable Try.prog kit_EqMoves := ⟨⟨_, Try.func50, by kernel_rfl, by kernel_rfl⟩⟩
abbrev trade_ask : Nat := 51
theorem trade_ask_f : Try.prog.funcs[trade_ask]? = some Try.f51 := Try.func51
theorem trade_ask_cb : Callable Try.prog trade_ask := ⟨⟨_, Try.func51, by kernel_rfl, by kernel_rfl⟩⟩
abbrev trade_list_follow : Nat := 52
theorem trade_list_follow_f : Try.prog.funcs[trade_list_follow]? = some Try.f52 := Try.func52
theorem trade_list_follow_cb : Callable Try.prog trade_list_follow := ⟨⟨_, Try.func52, by kernel_rfl, by kernel_rfl⟩⟩
abbrev trade_list_may : Nat := 53
theorem trade_list_may_f : Try.prog.funcs[trade_list_may]? = some Try.f53 := Try.func53
theorem trade_list_may_cb : Callable Try.prog trade_list_may := ⟨⟨_, Try.func53, by kernel_rfl, by kernel_rfl⟩⟩
abbrev slices_Clone : Nat := 54
theorem slices_Clone_f : Try.prog.funcs[slices_Clone]? = some Try.f54 := Try.func54
theorem slices_Clone_cb : Callable Try.prog slices_Clone := ⟨⟨_, Try.func54, by kernel_rfl, by kernel_rfl⟩⟩
abbrev slices_SortFunc_strs : Nat := 55
theorem slices_SortFunc_strs_f : Try.prog.funcs[slices_SortFunc_strs]? = some Try.f55 := Try.func55
theorem slices_SortFunc_strs_cb : Callable Try.prog slices_SortFunc_strs := ⟨⟨_, Try.func55, by kernel_rfl, by kernel_rfl⟩⟩
abbrev strings_Compare : Nat := 56
theorem strings_Compare_f : Try.prog.funcs[strings_Compare]? = some Try.f56 := Try.func56
theorem strings_Compare_cb : Callable Try.prog strings_Compare := ⟨⟨_, Try.func56, by kernel_rfl, by kernel_rfl⟩⟩
abbrev slices_Compact_strs : Nat := 57
theorem slices_Compact_strs_f : Try.prog.funcs[slices_Compact_strs]? = some Try.f57 := Try.func57
theorem slices_Compact_strs_cb : Callable Try.prog slices_Compact_strs := ⟨⟨_, Try.func57, by kernel_rfl, by kernel_rfl⟩⟩
abbrev trade_list_names : Nat := 58
theorem trade_list_names_f : Try.prog.funcs[trade_list_names]? = some Try.f58 := Try.func58
theorem trade_list_names_cb : Callable Try.prog trade_list_names := ⟨⟨_, Try.func58, by kernel_rfl, by kernel_rfl⟩⟩
abbrev slices_Equal_strs : Nat := 59
theorem slices_Equal_strs_f : Try.prog.funcs[slices_Equal_strs]? = some Try.f59 := Try.func59
theorem slices_Equal_strs_cb : Callable Try.prog slices_Equal_strs := ⟨⟨_, Try.func59, by kernel_rfl, by kernel_rfl⟩⟩
abbrev kit_DupInts : Nat := 60
theorem kit_DupInts_f : Try.prog.funcs[kit_DupInts]? = some Try.f60 := Try.func60
theorem kit_DupInts_cb : Callable Try.prog kit_DupInts := ⟨⟨_, Try.func60, by kernel_rfl, by kernel_rfl⟩⟩
abbrev trade_list_path : Nat := 61
theorem trade_list_path_f : Try.prog.funcs[trade_list_path]? = some Try.f61 := Try.func61
theorem trade_list_path_cb : Callable Try.prog trade_list_path := ⟨⟨_, Try.func61, by kernel_rfl, by kernel_rfl⟩⟩
abbrev trade_list_short : Nat := 62
theorem trade_list_short_f : Try.prog.funcs[trade_list_short]? = some Try.f62 := Try.func62
theorem trade_list_short_cb : Callable Try.prog trade_list_short := ⟨⟨_, Try.func62, by kernel_rfl, by kernel_rfl⟩⟩
abbrev trade_list_isTrade : Nat := 63
theorem trade_list_isTrade_f : Try.prog.funcs[trade_list_isTrade]? = some Try.f63 := Try.func63
theorem trade_list_isTrade_cb : Callable Try.prog trade_list_isTrade := ⟨⟨_, Try.func63, by kernel_rfl, by kernel_rfl⟩⟩
abbrev slices_Contains_ints : Nat := 64
theorem slices_Contains_ints_f : Try.prog.funcs[slices_Contains_ints]? = some Try.f64 := Try.func64
theorem slices_Contains_ints_cb : Callable Try.prog slices_Contains_ints := ⟨⟨_, Try.func64, by kernel_rfl, by kernel_rfl⟩⟩
abbrev trade_list_drop : Nat := 65
theorem trade_list_drop_f : Try.prog.funcs[trade_list_drop]? = some Try.f65 := Try.func65
theorem trade_list_drop_cb : Callable Try.prog trade_list_drop := ⟨⟨_, Try.func65, by kernel_rfl, by kernel_rfl⟩⟩
abbrev trade_check : Nat := 66
theorem trade_check_f : Try.prog.funcs[trade_check]? = some Try.f66 := Try.func66
theorem trade_check_cb : Callable Try.prog trade_check := ⟨⟨_, Try.func66, by kernel_rfl, by kernel_rfl⟩⟩
abbrev kit_Dice_raw : Nat := 67
theorem kit_Dice_raw_f : Try.prog.funcs[kit_Dice_raw]? = some Try.f67 := Try.func67
theorem kit_Dice_raw_cb : Callable Try.prog kit_Dice_raw := ⟨⟨_, Try.func67, by kernel_rfl, by kernel_rfl⟩⟩
abbrev trade_list_steps : Nat := 68
theorem trade_list_steps_f : Try.prog.funcs[trade_list_steps]? = some Try.f68 := Try.func68
theorem trade_list_steps_cb : Callable Try.prog trade_list_steps := ⟨⟨_, Try.func68, by kernel_rfl, by kernel_rfl⟩⟩
abbrev trade_classes_with : Nat := 69
theorem trade_classes_with_f : Try.prog.funcs[trade_classes_with]? = some Try.f69 := Try.func69
theorem trade_classes_with_cb : Callable Try.prog trade_classes_with := ⟨⟨_, Try.func69, by kernel_rfl, by kernel_rfl⟩⟩
abbrev law04_is : Nat := 70
theorem law04_is_f : Try.prog.funcs[law04_is]? = some Try.f70 := Try.func70
theorem law04_is_cb : Callable Try.prog law04_is := ⟨⟨_, Try.func70, by kernel_rfl, by kernel_rfl⟩⟩
abbrev law04_see : Nat := 71
theorem law04_see_f : Try.prog.funcs[law04_see]? = some Try.f71 := Try.func71
theorem law04_see_cb : Callable Try.prog law04_see := ⟨⟨_, Try.func71, by kernel_rfl, by kernel_rfl⟩⟩
abbrev trade_list_join : Nat := 72
theorem trade_list_join_f : Try.prog.funcs[trade_list_join]? = some Try.f72 := Try.func72
theorem trade_list_join_cb : Callable Try.prog trade_list_join := ⟨⟨_, Try.func72, by kernel_rfl, by kernel_rfl⟩⟩
abbrev strings_HasPrefix : Nat := 73
theorem strings_HasPrefix_f : Try.prog.funcs[strings_HasPrefix]? = some Try.f73 := Try.func73
theorem strings_HasPrefix_cb : Callable Try.prog strings_HasPrefix := ⟨⟨_, Try.func73, by kernel_rfl, by kernel_rfl⟩⟩
abbrev trade_heads_with : Nat := 74
theorem trade_heads_with_f : Try.prog.funcs[trade_heads_with]? = some Try.f74 := Try.func74
theorem trade_heads_with_cb : Callable Try.prog trade_heads_with := ⟨⟨_, Try.func74, by kernel_rfl, by kernel_rfl⟩⟩
abbrev trade_heads_has : Nat := 75
theorem trade_heads_has_f : Try.prog.funcs[trade_heads_has]? = some Try.f75 := Try.func75
theorem trade_heads_has_cb : Callable Try.prog trade_heads_has := ⟨⟨_, Try.func75, by kernel_rfl, by kernel_rfl⟩⟩
abbrev slices_pdqsortCmpFunc_string : Nat := 76
theorem slices_pdqsortCmpFunc_string_f : Try.prog.funcs[slices_pdqsortCmpFunc_string]? = some Try.f76 := Try.func76
theorem slices_pdqsortCmpFunc_string_cb : Callable Try.prog slices_pdqsortCmpFunc_string := ⟨⟨_, Try.func76, by kernel_rfl, by kernel_rfl⟩⟩
abbrev math_bits_Len : Nat := 77
theorem math_bits_Len_f : Try.prog.funcs[math_bits_Len]? = some Try.f77 := Try.func77
theorem math_bits_Len_cb : Callable Try.prog math_bits_Len := ⟨⟨_, Try.func77, by kernel_rfl, by kernel_rfl⟩⟩
abbrev internal_bytealg_CompareString : Nat := 78
theorem internal_bytealg_CompareString_f : Try.prog.funcs[internal_bytealg_CompareString]? = some Try.f78 := Try.func78
theorem internal_bytealg_CompareString_cb : Callable Try.prog internal_bytealg_CompareString := ⟨⟨_, Try.func78, by kernel_rfl, by kernel_rfl⟩⟩
abbrev slices_Index_ints : Nat := 79
theorem slices_Index_ints_f : Try.prog.funcs[slices_Index_ints]? = some Try.f79 := Try.func79
theorem slices_Index_ints_cb : Callable Try.prog slices_Index_ints := ⟨⟨_, Try.func79, by kernel_rfl, by kernel_rfl⟩⟩
abbrev slices_ContainsFunc_ints : Nat := 80
theorem slices_ContainsFunc_ints_f : Try.prog.funcs[slices_ContainsFunc_ints]? = some Try.f80 := Try.func80
theorem slices_ContainsFunc_ints_cb : Callable Try.prog slices_ContainsFunc_ints := ⟨⟨_, Try.func80, by kernel_rfl, by kernel_rfl⟩⟩
abbrev trade_list_drop_1 : Nat := 81
theorem trade_list_drop_1_f : Try.prog.funcs[trade_list_drop_1]? = some Try.f81 := Try.func81
theorem trade_list_drop_1_cb : Callable Try.prog trade_list_drop_1 := ⟨⟨_, Try.func81, by kernel_rfl, by kernel_rfl⟩⟩
abbrev slices_Clonex : Nat := 82
theorem slices_Clonex_f : Try.prog.funcs[slices_Clonex]? = some Try.f82 := Try.func82
theorem slices_Clonex_cb : Callable Try.prog slices_Clonex := ⟨⟨_, Try.func82, by kernel_rfl, by kernel_rfl⟩⟩
abbrev trade_checkClass : Nat := 83
theorem trade_checkClass_f : Try.prog.funcs[trade_checkClass]? = some Try.f83 := Try.func83
theorem trade_checkClass_cb : Callable Try.prog trade_checkClass := ⟨⟨_, Try.func83, by kernel_rfl, by kernel_rfl⟩⟩
abbrev trade_checkHead : Nat := 84
theorem trade_checkHead_f : Try.prog.funcs[trade_checkHead]? = some Try.f84 := Try.func84
theorem trade_checkHead_cb : Callable Try.prog trade_checkHead := ⟨⟨_, Try.func84, by kernel_rfl, by kernel_rfl⟩⟩
abbrev slices_Repeat_ints : Nat := 85
theorem slices_Repeat_ints_f : Try.prog.funcs[slices_Repeat_ints]? = some Try.f85 := Try.func85
theorem slices_Repeat_ints_cb : Callable Try.prog slices_Repeat_ints := ⟨⟨_, Try.func85, by kernel_rfl, by kernel_rfl⟩⟩
abbrev trade_list_trades : Nat := 86
theorem trade_list_trades_f : Try.prog.funcs[trade_list_trades]? = some Try.f86 := Try.func86
theorem trade_list_trades_cb : Callable Try.prog trade_list_trades := ⟨⟨_, Try.func86, by kernel_rfl, by kernel_rfl⟩⟩
abbrev trade_list_nets : Nat := 87
theorem trade_list_nets_f : Try.prog.funcs[trade_list_nets]? = some Try.f87 := Try.func87
theorem trade_list_nets_cb : Callable Try.prog trade_list_nets := ⟨⟨_, Try.func87, by kernel_rfl, by kernel_rfl⟩⟩
abbrev trade_list_free : Nat := 88
theorem trade_list_free_f : Try.prog.funcs[trade_list_free]? = some Try.f88 := Try.func88
theorem trade_list_free_cb : Callable Try.prog trade_list_free := ⟨⟨_, Try.func88, by kernel_rfl, by kernel_rfl⟩⟩
abbrev trade_list_join_1 : Nat := 89
theorem trade_list_join_1_f : Try.prog.funcs[trade_list_join_1]? = some Try.f89 := Try.func89
theorem trade_list_join_1_cb : Callable Try.prog trade_list_join_1 := ⟨⟨_, Try.func89, by kernel_rfl, by kernel_rfl⟩⟩
abbrev trade_nets_found : Nat := 90
theorem trade_nets_found_f : Try.prog.funcs[trade_nets_found]? = some Try.f90 := Try.func90
theorem trade_nets_found_cb : Callable Try.prog trade_nets_found := ⟨⟨_, Try.func90, by kernel_rfl, by kernel_rfl⟩⟩
abbrev trade_picks : Nat := 91
theorem trade_picks_f : Try.prog.funcs[trade_picks]? = some Try.f91 := Try.func91
theorem trade_picks_cb : Callable Try.prog trade_picks := ⟨⟨_, Try.func91, by kernel_rfl, by kernel_rfl⟩⟩
abbrev internal_stringslite_HasPrefix : Nat := 92
theorem internal_stringslite_HasPrefix_f : Try.prog.funcs[internal_stringslite_HasPrefix]? = some Try.f92 := Try.func92
theorem internal_stringslite_HasPrefix_cb : Callable Try.prog internal_stringslite_HasPrefix := ⟨⟨_, Try.func92, by kernel_rfl, by kernel_rfl⟩⟩
abbrev slices_insertionSortCmpFunc_string : Nat := 93
theorem slices_insertionSortCmpFunc_string_f : Try.prog.funcs[slices_insertionSortCmpFunc_string]? = some Try.f93 := Try.func93
theorem slices_insertionSortCmpFunc_string_cb : Callable Try.prog slices_insertionSortCmpFunc_string := ⟨⟨_, Try.func93, by kernel_rfl, by kernel_rfl⟩⟩
abbrev slices_heapSortCmpFunc_string : Nat := 94
theorem slices_heapSortCmpFunc_string_f : Try.prog.funcs[slices_heapSortCmpFunc_string]? = some Try.f94 := Try.func94
theorem slices_heapSortCmpFunc_string_cb : Callable Try.prog slices_heapSortCmpFunc_string := ⟨⟨_, Try.func94, by kernel_rfl, by kernel_rfl⟩⟩
abbrev slices_breakPatternsCmpFunc_string : Nat := 95
theorem slices_breakPatternsCmpFunc_string_f : Try.prog.funcs[slices_breakPatternsCmpFunc_string]? = some Try.f95 := Try.func95
theorem slices_breakPatternsCmpFunc_string_cb : Callable Try.prog slices_breakPatternsCmpFunc_string := ⟨⟨_, Try.func95, by kernel_rfl, by kernel_rfl⟩⟩
abbrev slices_choosePivotCmpFunc_string : Nat := 96
theorem slices_choosePivotCmpFunc_string_f : Try.prog.funcs[slices_choosePivotCmpFunc_string]? = some Try.f96 := Try.func96
theorem slices_choosePivotCmpFunc_string_cb : Callable Try.prog slices_choosePivotCmpFunc_string := ⟨⟨_, Try.func96, by kernel_rfl, by kernel_rfl⟩⟩
abbrev slices_reverseRangeCmpFunc_string : Nat := 97
theorem slices_reverseRangeCmpFunc_string_f : Try.prog.funcs[slices_reverseRangeCmpFunc_string]? = some Try.f97 := Try.func97
theorem slices_reverseRangeCmpFunc_string_cb : Callable Try.prog slices_reverseRangeCmpFunc_string := ⟨⟨_, Try.func97, by kernel_rfl, by kernel_rfl⟩⟩
abbrev slices_partialInsertionSortCmpFunc_string : Nat := 98
theorem slices_partialInsertionSortCmpFunc_string_f : Try.prog.funcs[slices_partialInsertionSortCmpFunc_string]? = some Try.f98 := Try.func98
theorem slices_partialInsertionSortCmpFunc_string_cb : Callable Try.prog slices_partialInsertionSortCmpFunc_string := ⟨⟨_, Try.func98, by kernel_rfl, by kernel_rfl⟩⟩
abbrev slices_partitionEqualCmpFunc_string : Nat := 99
theorem slices_partitionEqualCmpFunc_string_f : Try.prog.funcs[slices_partitionEqualCmpFunc_string]? = some Try.f99 := Try.func99
theorem slices_partitionEqualCmpFunc_string_cb : Callable Try.prog slices_partitionEqualCmpFunc_string := ⟨⟨_, Try.func99, by kernel_rfl, by kernel_rfl⟩⟩
abbrev slices_partitionCmpFunc_string : Nat := 100
theorem slices_partitionCmpFunc_string_f : Try.prog.funcs[slices_partitionCmpFunc_string]? = some Try.f100 := Try.func100
theorem slices_partitionCmpFunc_string_cb : Callable Try.prog slices_partitionCmpFunc_string := ⟨⟨_, Try.func100, by kernel_rfl, by kernel_rfl⟩⟩
abbrev math_bits_Len32 : Nat := 101
theorem math_bits_Len32_f : Try.prog.funcs[math_bits_Len32]? = some Try.f101 := Try.func101
theorem math_bits_Len32_cb : Callable Try.prog math_bits_Len32 := ⟨⟨_, Try.func101, by kernel_rfl, by kernel_rfl⟩⟩
abbrev math_bits_Len64 : Nat := 102
theorem math_bits_Len64_f : Try.prog.funcs[math_bits_Len64]? = some Try.f102 := Try.func102
theorem math_bits_Len64_cb : Callable Try.prog math_bits_Len64 := ⟨⟨_, Try.func102, by kernel_rfl, by kernel_rfl⟩⟩
abbrev slices_IndexFunc_ints : Nat := 104
theorem slices_IndexFunc_ints_f : Try.prog.funcs[slices_IndexFunc_ints]? = some Try.f104 := Try.func104
theorem slices_IndexFunc_ints_cb : Callable Try.prog slices_IndexFunc_ints := ⟨⟨_, Try.func104, by kernel_rfl, by kernel_rfl⟩⟩
abbrev trade_word : Nat := 105
theorem trade_word_f : Try.prog.funcs[trade_word]? = some Try.f105 := Try.func105
theorem trade_word_cb : Callable Try.prog trade_word := ⟨⟨_, Try.func105, by kernel_rfl, by kernel_rfl⟩⟩
abbrev slices_ContainsFunc : Nat := 106
theorem slices_ContainsFunc_f : Try.prog.funcs[slices_ContainsFunc]? = some Try.f106 := Try.func106
theorem slices_ContainsFunc_cb : Callable Try.prog slices_ContainsFunc := ⟨⟨_, Try.func106, by kernel_rfl, by kernel_rfl⟩⟩
abbrev trade_checkClass_1 : Nat := 107
theorem trade_checkClass_1_f : Try.prog.funcs[trade_checkClass_1]? = some Try.f107 := Try.func107
theorem trade_checkClass_1_cb : Callable Try.prog trade_checkClass_1 := ⟨⟨_, Try.func107, by kernel_rfl, by kernel_rfl⟩⟩
abbrev slices_ContainsFuncx : Nat := 108
theorem slices_ContainsFuncx_f : Try.prog.funcs[slices_ContainsFuncx]? = some Try.f108 := Try.func108
theorem slices_ContainsFuncx_cb : Callable Try.prog slices_ContainsFuncx := ⟨⟨_, Try.func108, by kernel_rfl, by kernel_rfl⟩⟩
abbrev trade_checkHead_1 : Nat := 109
theorem trade_checkHead_1_f : Try.prog.funcs[trade_checkHead_1]? = some Try.f109 := Try.func109
theorem trade_checkHead_1_cb : Callable Try.prog trade_checkHead_1 := ⟨⟨_, Try.func109, by kernel_rfl, by kernel_rfl⟩⟩
abbrev math_bits_Mul : Nat := 110
theorem math_bits_Mul_f : Try.prog.funcs[math_bits_Mul]? = some Try.f110 := Try.func110
theorem math_bits_Mul_cb : Callable Try.prog math_bits_Mul := ⟨⟨_, Try.func110, by kernel_rfl, by kernel_rfl⟩⟩
abbrev trade_picks_1 : Nat := 111
theorem trade_picks_1_f : Try.prog.funcs[trade_picks_1]? = some Try.f111 := Try.func111
theorem trade_picks_1_cb : Callable Try.prog trade_picks_1 := ⟨⟨_, Try.func111, by kernel_rfl, by kernel_rfl⟩⟩
abbrev trade_picks_1_1 : Nat := 112
theorem trade_picks_1_1_f : Try.prog.funcs[trade_picks_1_1]? = some Try.f112 := Try.func112
theorem trade_picks_1_1_cb : Callable Try.prog trade_picks_1_1 := ⟨⟨_, Try.func112, by kernel_rfl, by kernel_rfl⟩⟩
abbrev slices_siftDownCmpFunc_string : Nat := 113
theorem slices_siftDownCmpFunc_string_f : Try.prog.funcs[slices_siftDownCmpFunc_string]? = some Try.f113 := Try.func113
theorem slices_siftDownCmpFunc_string_cb : Callable Try.prog slices_siftDownCmpFunc_string := ⟨⟨_, Try.func113, by kernel_rfl, by kernel_rfl⟩⟩
abbrev slices_nextPowerOfTwo : Nat := 114
theorem slices_nextPowerOfTwo_f : Try.prog.funcs[slices_nextPowerOfTwo]? = some Try.f114 := Try.func114
theorem slices_nextPowerOfTwo_cb : Callable Try.prog slices_nextPowerOfTwo := ⟨⟨_, Try.func114, by kernel_rfl, by kernel_rfl⟩⟩
abbrev slices_xorshift_Next : Nat := 115
theorem slices_xorshift_Next_f : Try.prog.funcs[slices_xorshift_Next]? = some Try.f115 := Try.func115
theorem slices_xorshift_Next_cb : Callable Try.prog slices_xorshift_Next := ⟨⟨_, Try.func115, by kernel_rfl, by kernel_rfl⟩⟩
abbrev slices_medianAdjacentCmpFunc_string : Nat := 116
theorem slices_medianAdjacentCmpFunc_string_f : Try.prog.funcs[slices_medianAdjacentCmpFunc_string]? = some Try.f116 := Try.func116
theorem slices_medianAdjacentCmpFunc_string_cb : Callable Try.prog slices_medianAdjacentCmpFunc_string := ⟨⟨_, Try.func116, by kernel_rfl, by kernel_rfl⟩⟩
abbrev slices_medianCmpFunc_string : Nat := 117
theorem slices_medianCmpFunc_string_f : Try.prog.funcs[slices_medianCmpFunc_string]? = some Try.f117 := Try.func117
theorem slices_medianCmpFunc_string_cb : Callable Try.prog slices_medianCmpFunc_string := ⟨⟨_, Try.func117, by kernel_rfl, by kernel_rfl⟩⟩
abbrev slices_IndexFunc : Nat := 118
theorem slices_IndexFunc_f : Try.prog.funcs[slices_IndexFunc]? = some Try.f118 := Try.func118
theorem slices_IndexFunc_cb : Callable Try.prog slices_IndexFunc := ⟨⟨_, Try.func118, by kernel_rfl, by kernel_rfl⟩⟩
abbrev slices_IndexFuncx : Nat := 119
theorem slices_IndexFuncx_f : Try.prog.funcs[slices_IndexFuncx]? = some Try.f119 := Try.func119
theorem slices_IndexFuncx_cb : Callable Try.prog slices_IndexFuncx := ⟨⟨_, Try.func119, by kernel_rfl, by kernel_rfl⟩⟩
abbrev math_bits_Mul32 : Nat := 120
theorem math_bits_Mul32_f : Try.prog.funcs[math_bits_Mul32]? = some Try.f120 := Try.func120
theorem math_bits_Mul32_cb : Callable Try.prog math_bits_Mul32 := ⟨⟨_, Try.func120, by kernel_rfl, by kernel_rfl⟩⟩
abbrev math_bits_Mul64 : Nat := 121
theorem math_bits_Mul64_f : Try.prog.funcs[math_bits_Mul64]? = some Try.f121 := Try.func121
theorem math_bits_Mul64_cb : Callable Try.prog math_bits_Mul64 := ⟨⟨_, Try.func121, by kernel_rfl, by kernel_rfl⟩⟩
abbrev slices_order2CmpFunc_string : Nat := 122
theorem slices_order2CmpFunc_string_f : Try.prog.funcs[slices_order2CmpFunc_string]? = some Try.f122 := Try.func122
theorem slices_order2CmpFunc_string_cb : Callable Try.prog slices_order2CmpFunc_string := ⟨⟨_, Try.func122, by kernel_rfl, by kernel_rfl⟩⟩
abbrev trade_article_next : Nat := 140
theorem trade_article_next_f : Try.prog.funcs[trade_article_next]? = some Try.f140 := Try.func140
theorem trade_article_next_cb : Callable Try.prog trade_article_next := ⟨⟨_, Try.func140, by kernel_rfl, by kernel_rfl⟩⟩
abbrev trade_pointer_next : Nat := 141
theorem trade_pointer_next_f : Try.prog.funcs[trade_pointer_next]? = some Try.f141 := Try.func141
theorem trade_pointer_next_cb : Callable Try.prog trade_pointer_next := ⟨⟨_, Try.func141, by kernel_rfl, by kernel_rfl⟩⟩
abbrev trade_index_next : Nat := 142
theorem trade_index_next_f : Try.prog.funcs[trade_index_next]? = some Try.f142 := Try.func142
theorem trade_index_next_cb : Callable Try.prog trade_index_next := ⟨⟨_, Try.func142, by kernel_rfl, by kernel_rfl⟩⟩
end F
namespace T
abbrev int : Nat := 3
theorem u_int : Try.prog.underlying int = some (.int .i64) := Try.underlying3
theorem sz_int : Sz Try.prog int 1 := by unfold Sz; kernel_rfl
theorem cell_int : NoR Try.prog int := ⟨_, Try.underlying3, rfl⟩
abbrev bool : Nat := 4
theorem u_bool : Try.prog.underlying bool = some (.bool) := Try.underlying4
theorem sz_bool : Sz Try.prog bool 1 := by unfold Sz; kernel_rfl
theorem cell_bool : NoR Try.prog bool := ⟨_, Try.underlying4, rfl⟩
abbrev u8 : Nat := 5
theorem u_u8 : Try.prog.underlying u8 = some (.int .u8) := Try.underlying5
theorem sz_u8 : Sz Try.prog u8 1 := by unfold Sz; kernel_rfl
theorem cell_u8 : NoR Try.prog u8 := ⟨_, Try.underlying5, rfl⟩
abbrev string : Nat := 9
theorem u_string : Try.prog.underlying string = some (.string) := Try.underlying9
theorem sz_string : Sz Try.prog string 1 := by unfold Sz; kernel_rfl
theorem cell_string : NoR Try.prog string := ⟨_, Try.underlying9, rfl⟩
abbrev int32 : Nat := 21
theorem u_int32 : Try.prog.underlying int32 = some (.int .i32) := Try.underlying21
theorem sz_int32 : Sz Try.prog int32 1 := by unfold Sz; kernel_rfl
theorem cell_int32 : NoR Try.prog int32 := ⟨_, Try.underlying21, rfl⟩
abbrev ints : Nat := 22
theorem u_ints : Try.prog.underlying ints = some (.slice 3) := Try.underlying22
theorem sz_ints : Sz Try.prog ints 1 := by unfold Sz; kernel_rfl
theorem cell_ints : NoR Try.prog ints := ⟨_, Try.underlying22, rfl⟩
theorem zi_ints : (Try.prog.info? 3).map (fun i => (i.zero, i.size, i.bytes)) = some (some (.int .i64 0), 1, 8) := by kernel_rfl
theorem el_ints : ElT Try.prog ints 3 1 8 := ElT.of (z := (.int .i64 0)) Try.underlying22 (by kernel_rfl) rfl (by decide)
abbrev L_api_Class : Nat := 23
theorem u_L_api_Class : Try.prog.underlying L_api_Class = some (.slice 51) := Try.underlying23
theorem sz_L_api_Class : Sz Try.prog L_api_Class 1 := by unfold Sz; kernel_rfl
theorem cell_L_api_Class : NoR Try.prog L_api_Class := ⟨_, Try.underlying23, rfl⟩
theorem zi_L_api_Class : (Try.prog.info? 51).map (fun i => (i.zero, i.size, i.bytes)) = some (some (.agg #[(.string ⟨#[]⟩), (.int .i64 0)]), 2, 24) := by kernel_rfl
theorem el_L_api_Class : ElT Try.prog L_api_Class 51 2 24 := ElT.of (z := (.agg #[(.string ⟨#[]⟩), (.int .i64 0)])) Try.underlying23 (by kernel_rfl) rfl (by decide)
abbrev L_api_Head : Nat := 24
theorem u_L_api_Head : Try.prog.underlying L_api_Head = some (.slice 39) := Try.underlying24
theorem sz_L_api_Head : Sz Try.prog L_api_Head 1 := by unfold Sz; kernel_rfl
theorem cell_L_api_Head : NoR Try.prog L_api_Head := ⟨_, Try.underlying24, rfl⟩
theorem zi_L_api_Head : (Try.prog.info? 39).map (fun i => (i.zero, i.size, i.bytes)) = some (some (.agg #[(.string ⟨#[]⟩), (.int .i64 0), (.int .i64 0), (.slice none 0 0)]), 4, 56) := by kernel_rfl
theorem el_L_api_Head : ElT Try.prog L_api_Head 39 4 56 := ElT.of (z := (.agg #[(.string ⟨#[]⟩), (.int .i64 0), (.int .i64 0), (.slice none 0 0)])) Try.underlying24 (by kernel_rfl) rfl (by decide)
abbrev api_Trades : Nat := 26
theorem sz_api_Trades : Sz Try.prog api_Trades 2 := by unfold Sz; kernel_rfl
theorem row_api_Trades : IsR Try.prog api_Trades := ⟨_, Try.underlying26, rfl⟩
abbrev P_wayzgoosekit_Dice : Nat := 28
theorem u_P_wayzgoosekit_Dice : Try.prog.underlying P_wayzgoosekit_Dice = some (.pointer 72) := Try.underlying28
theorem sz_P_wayzgoosekit_Dice : Sz Try.prog P_wayzgoosekit_Dice 1 := by unfold Sz; kernel_rfl
theorem cell_P_wayzgoosekit_Dice : NoR Try.prog P_wayzgoosekit_Dice := ⟨_, Try.underlying28, rfl⟩
abbrev api_Errno : Nat := 30
theorem u_api_Errno : Try.prog.underlying api_Errno = some (.int .i64) := Try.underlying30
theorem sz_api_Errno : Sz Try.prog api_Errno 1 := by unfold Sz; kernel_rfl
theorem cell_api_Errno : NoR Try.prog api_Errno := ⟨_, Try.underlying30, rfl⟩
abbrev api_Head : Nat := 39
theorem sz_api_Head : Sz Try.prog api_Head 4 := by unfold Sz; kernel_rfl
theorem row_api_Head : IsR Try.prog api_Head := ⟨_, Try.underlying39, rfl⟩
abbrev L_api_Move : Nat := 43
theorem u_L_api_Move : Try.prog.underlying L_api_Move = some (.slice 47) := Try.underlying43
theorem sz_L_api_Move : Sz Try.prog L_api_Move 1 := by unfold Sz; kernel_rfl
theorem cell_L_api_Move : NoR Try.prog L_api_Move := ⟨_, Try.underlying43, rfl⟩
theorem zi_L_api_Move : (Try.prog.info? 47).map (fun i => (i.zero, i.size, i.bytes)) = some (some (.agg #[(.string ⟨#[]⟩), (.int .i64 0)]), 2, 24) := by kernel_rfl
theorem el_L_api_Move : ElT Try.prog L_api_Move 47 2 24 := ElT.of (z := (.agg #[(.string ⟨#[]⟩), (.int .i64 0)])) Try.underlying43 (by kernel_rfl) rfl (by decide)
abbrev api_Move : Nat := 47
theorem sz_api_Move : Sz Try.prog api_Move 2 := by unfold Sz; kernel_rfl
theorem row_api_Move : IsR Try.prog api_Move := ⟨_, Try.underlying47, rfl⟩
abbrev api_Class : Nat := 51
theorem sz_api_Class : Sz Try.prog api_Class 2 := by unfold Sz; kernel_rfl
theorem row_api_Class : IsR Try.prog api_Class := ⟨_, Try.underlying51, rfl⟩
abbrev intss : Nat := 62
theorem u_intss : Try.prog.underlying intss = some (.slice 22) := Try.underlying62
theorem sz_intss : Sz Try.prog intss 1 := by unfold Sz; kernel_rfl
theorem cell_intss : NoR Try.prog intss := ⟨_, Try.underlying62, rfl⟩
theorem zi_intss : (Try.prog.info? 22).map (fun i => (i.zero, i.size, i.bytes)) = some (some (.slice none 0 0), 1, 24) := by kernel_rfl
theorem el_intss : ElT Try.prog intss 22 1 24 := ElT.of (z := (.slice none 0 0)) Try.underlying62 (by kernel_rfl) rfl (by decide)
abbrev strs : Nat := 65
theorem u_strs : Try.prog.underlying strs = some (.slice 9) := Try.underlying65
theorem sz_strs : Sz Try.prog strs 1 := by unfold Sz; kernel_rfl
theorem cell_strs : NoR Try.prog strs := ⟨_, Try.underlying65, rfl⟩
theorem zi_strs : (Try.prog.info? 9).map (fun i => (i.zero, i.size, i.bytes)) = some (some (.string ⟨#[]⟩), 1, 16) := by kernel_rfl
theorem el_strs : ElT Try.prog strs 9 1 16 := ElT.of (z := (.string ⟨#[]⟩)) Try.underlying65 (by kernel_rfl) rfl (by decide)
abbrev func_int_bool : Nat := 69
theorem sz_func_int_bool : Sz Try.prog func_int_bool 1 := by unfold Sz; kernel_rfl
theorem cell_func_int_bool : NoR Try.prog func_int_bool := ⟨_, Try.underlying69, rfl⟩
abbrev u64 : Nat := 70
theorem u_u64 : Try.prog.underlying u64 = some (.int .u64) := Try.underlying70
theorem sz_u64 : Sz Try.prog u64 1 := by unfold Sz; kernel_rfl
theorem cell_u64 : NoR Try.prog u64 := ⟨_, Try.underlying70, rfl⟩
abbrev wayzgoosekit_Dice : Nat := 72
theorem sz_wayzgoosekit_Dice : Sz Try.prog wayzgoosekit_Dice 3 := by unfold Sz; kernel_rfl
theorem row_wayzgoosekit_Dice : IsR Try.prog wayzgoosekit_Dice := ⟨_, Try.underlying72, rfl⟩
abbrev P_trade_list : Nat := 73
theorem u_P_trade_list : Try.prog.underlying P_trade_list = some (.pointer 81) := Try.underlying73
theorem sz_P_trade_list : Sz Try.prog P_trade_list 1 := by unfold Sz; kernel_rfl
theorem cell_P_trade_list : NoR Try.prog P_trade_list := ⟨_, Try.underlying73, rfl⟩
abbrev trade_classes : Nat := 77
theorem u_trade_classes : Try.prog.underlying trade_classes = some (.int .u8) := Try.underlying77
theorem sz_trade_classes : Sz Try.prog trade_classes 1 := by unfold Sz; kernel_rfl
theorem cell_trade_classes : NoR Try.prog trade_classes := ⟨_, Try.underlying77, rfl⟩
abbrev L_trade_classes : Nat := 78
theorem u_L_trade_classes : Try.prog.underlying L_trade_classes = some (.slice 77) := Try.underlying78
theorem sz_L_trade_classes : Sz Try.prog L_trade_classes 1 := by unfold Sz; kernel_rfl
theorem cell_L_trade_classes : NoR Try.prog L_trade_classes := ⟨_, Try.underlying78, rfl⟩
theorem zi_L_trade_classes : (Try.prog.info? 77).map (fun i => (i.zero, i.size, i.bytes)) = some (some (.int .u8 0), 1, 1) := by kernel_rfl
theorem el_L_trade_classes : ElT Try.prog L_trade_classes 77 1 1 := ElT.of (z := (.int .u8 0)) Try.underlying78 (by kernel_rfl) rfl (by decide)
abbrev L_trade_kind : Nat := 79
theorem u_L_trade_kind : Try.prog.underlying L_trade_kind = some (.slice 101) := Try.underlying79
theorem sz_L_trade_kind : Sz Try.prog L_trade_kind 1 := by unfold Sz; kernel_rfl
theorem cell_L_trade_kind : NoR Try.prog L_trade_kind := ⟨_, Try.underlying79, rfl⟩
theorem zi_L_trade_kind : (Try.prog.info? 101).map (fun i => (i.zero, i.size, i.bytes)) = some (some .nilIface, 1, 16) := by kernel_rfl
theorem el_L_trade_kind : ElT Try.prog L_trade_kind 101 1 16 := ElT.of (z := .nilIface) Try.underlying79 (by kernel_rfl) rfl (by decide)
abbrev trade_list : Nat := 81
theorem sz_trade_list : Sz Try.prog trade_list 4 := by unfold Sz; kernel_rfl
theorem row_trade_list : IsR Try.prog trade_list := ⟨_, Try.underlying81, rfl⟩
abbrev func_string_string_int : Nat := 94
theorem sz_func_string_string_int : Sz Try.prog func_string_string_int 1 := by unfold Sz; kernel_rfl
theorem cell_func_string_string_int : NoR Try.prog func_string_string_int := ⟨_, Try.underlying94, rfl⟩
abbrev trade_kind : Nat := 101
theorem sz_trade_kind : Sz Try.prog trade_kind 1 := by unfold Sz; kernel_rfl
theorem cell_trade_kind : NoR Try.prog trade_kind := ⟨_, Try.underlying101, rfl⟩
abbrev trade_article : Nat := 103
theorem sz_trade_article : Sz Try.prog trade_article 2 := by unfold Sz; kernel_rfl
theorem row_trade_article : IsR Try.prog trade_article := ⟨_, Try.underlying103, rfl⟩
abbrev uint : Nat := 110
theorem u_uint : Try.prog.underlying uint = some (.int .u64) := Try.underlying110
theorem sz_uint : Sz Try.prog uint 1 := by unfold Sz; kernel_rfl
theorem cell_uint : NoR Try.prog uint := ⟨_, Try.underlying110, rfl⟩
abbrev trade_pointer : Nat := 113
theorem sz_trade_pointer : Sz Try.prog trade_pointer 1 := by unfold Sz; kernel_rfl
theorem row_trade_pointer : IsR Try.prog trade_pointer := ⟨_, Try.underlying113, rfl⟩
abbrev trade_index : Nat := 115
theorem sz_trade_index : Sz Try.prog trade_index 1 := by unfold Sz; kernel_rfl
theorem row_trade_index : IsR Try.prog trade_index := ⟨_, Try.underlying115, rfl⟩
abbrev trade_heads : Nat := 120
theorem u_trade_heads : Try.prog.underlying trade_heads = some (.int .u8) := Try.underlying120
theorem sz_trade_heads : Sz Try.prog trade_heads 1 := by unfold Sz; kernel_rfl
theorem cell_trade_heads : NoR Try.prog trade_heads := ⟨_, Try.underlying120, rfl⟩
abbrev chan_int : Nat := 130
theorem sz_chan_int : Sz Try.prog chan_int 1 := by unfold Sz; kernel_rfl
theorem cell_chan_int : NoR Try.prog chan_int := ⟨_, Try.underlying130, rfl⟩
abbrev trade_nets : Nat := 134
theorem u_trade_nets : Try.prog.underlying trade_nets = some (.array 6 120) := Try.underlying134
theorem sz_trade_nets : Sz Try.prog trade_nets 6 := by unfold Sz; kernel_rfl
theorem row_trade_nets : IsR Try.prog trade_nets := ⟨_, Try.underlying134, rfl⟩
abbrev L_trade_ref : Nat := 136
theorem u_L_trade_ref : Try.prog.underlying L_trade_ref = some (.slice 139) := Try.underlying136
theorem sz_L_trade_ref : Sz Try.prog L_trade_ref 1 := by unfold Sz; kernel_rfl
theorem cell_L_trade_ref : NoR Try.prog L_trade_ref := ⟨_, Try.underlying136, rfl⟩
theorem zi_L_trade_ref : (Try.prog.info? 139).map (fun i => (i.zero, i.size, i.bytes)) = some (some (.agg #[(.int .i64 0), (.int .i64 0)]), 2, 16) := by kernel_rfl
theorem el_L_trade_ref : ElT Try.prog L_trade_ref 139 2 16 := ElT.of (z := (.agg #[(.int .i64 0), (.int .i64 0)])) Try.underlying136 (by kernel_rfl) rfl (by decide)
abbrev trade_ref : Nat := 139
theorem sz_trade_ref : Sz Try.prog trade_ref 2 := by unfold Sz; kernel_rfl
theorem row_trade_ref : IsR Try.prog trade_ref := ⟨_, Try.underlying139, rfl⟩
abbrev func_L_trade_ref_bool : Nat := 141
theorem sz_func_L_trade_ref_bool : Sz Try.prog func_L_trade_ref_bool 1 := by unfold Sz; kernel_rfl
theorem cell_func_L_trade_ref_bool : NoR Try.prog func_L_trade_ref_bool := ⟨_, Try.underlying141, rfl⟩
abbrev slices_sortedHint : Nat := 146
theorem u_slices_sortedHint : Try.prog.underlying slices_sortedHint = some (.int .i64) := Try.underlying146
theorem sz_slices_sortedHint : Sz Try.prog slices_sortedHint 1 := by unfold Sz; kernel_rfl
theorem cell_slices_sortedHint : NoR Try.prog slices_sortedHint := ⟨_, Try.underlying146, rfl⟩
abbrev uint32 : Nat := 154
theorem u_uint32 : Try.prog.underlying uint32 = some (.int .u32) := Try.underlying154
theorem sz_uint32 : Sz Try.prog uint32 1 := by unfold Sz; kernel_rfl
theorem cell_uint32 : NoR Try.prog uint32 := ⟨_, Try.underlying154, rfl⟩
abbrev func_api_Class_bool : Nat := 159
theorem sz_func_api_Class_bool : Sz Try.prog func_api_Class_bool 1 := by unfold Sz; kernel_rfl
theorem cell_func_api_Class_bool : NoR Try.prog func_api_Class_bool := ⟨_, Try.underlying159, rfl⟩
abbrev func_api_Head_bool : Nat := 161
theorem sz_func_api_Head_bool : Sz Try.prog func_api_Head_bool 1 := by unfold Sz; kernel_rfl
theorem cell_func_api_Head_bool : NoR Try.prog func_api_Head_bool := ⟨_, Try.underlying161, rfl⟩
abbrev map_trade_ref_bool : Nat := 164
theorem u_map_trade_ref_bool : Try.prog.underlying map_trade_ref_bool = some (.map 139 4) := Try.underlying164
theorem sz_map_trade_ref_bool : Sz Try.prog map_trade_ref_bool 1 := by unfold Sz; kernel_rfl
theorem cell_map_trade_ref_bool : NoR Try.prog map_trade_ref_bool := ⟨_, Try.underlying164, rfl⟩
abbrev func_L_trade_ref_int_bool : Nat := 166
theorem sz_func_L_trade_ref_int_bool : Sz Try.prog func_L_trade_ref_int_bool 1 := by unfold Sz; kernel_rfl
theorem cell_func_L_trade_ref_int_bool : NoR Try.prog func_L_trade_ref_int_bool := ⟨_, Try.underlying166, rfl⟩
abbrev slices_xorshift : Nat := 167
theorem u_slices_xorshift : Try.prog.underlying slices_xorshift = some (.int .u64) := Try.underlying167
theorem sz_slices_xorshift : Sz Try.prog slices_xorshift 1 := by unfold Sz; kernel_rfl
theorem cell_slices_xorshift : NoR Try.prog slices_xorshift := ⟨_, Try.underlying167, rfl⟩
abbrev P_int : Nat := 170
theorem u_P_int : Try.prog.underlying P_int = some (.pointer 3) := Try.underlying170
theorem sz_P_int : Sz Try.prog P_int 1 := by unfold Sz; kernel_rfl
theorem cell_P_int : NoR Try.prog P_int := ⟨_, Try.underlying170, rfl⟩
theorem fa_api_Trades_0 (p : Addr) (w : World) : (Instr.fieldAt 26 (.pointer (some p)) 0).run Try.prog w = .ok (.pointer (some (p.add 0))) w := by kernel_rfl
theorem fa_api_Trades_1 (p : Addr) (w : World) : (Instr.fieldAt 26 (.pointer (some p)) 1).run Try.prog w = .ok (.pointer (some (p.add 1))) w := by kernel_rfl
theorem fa_api_Head_0 (p : Addr) (w : World) : (Instr.fieldAt 39 (.pointer (some p)) 0).run Try.prog w = .ok (.pointer (some (p.add 0))) w := by kernel_rfl
theorem fa_api_Head_1 (p : Addr) (w : World) : (Instr.fieldAt 39 (.pointer (some p)) 1).run Try.prog w = .ok (.pointer (some (p.add 1))) w := by kernel_rfl
theorem fa_api_Head_2 (p : Addr) (w : World) : (Instr.fieldAt 39 (.pointer (some p)) 2).run Try.prog w = .ok (.pointer (some (p.add 2))) w := by kernel_rfl
theorem fa_api_Head_3 (p : Addr) (w : World) : (Instr.fieldAt 39 (.pointer (some p)) 3).run Try.prog w = .ok (.pointer (some (p.add 3))) w := by kernel_rfl
theorem fa_api_Move_0 (p : Addr) (w : World) : (Instr.fieldAt 47 (.pointer (some p)) 0).run Try.prog w = .ok (.pointer (some (p.add 0))) w := by kernel_rfl
theorem fa_api_Move_1 (p : Addr) (w : World) : (Instr.fieldAt 47 (.pointer (some p)) 1).run Try.prog w = .ok (.pointer (some (p.add 1))) w := by kernel_rfl
theorem fa_api_Class_0 (p : Addr) (w : World) : (Instr.fieldAt 51 (.pointer (some p)) 0).run Try.prog w = .ok (.pointer (some (p.add 0))) w := by kernel_rfl
theorem fa_api_Class_1 (p : Addr) (w : World) : (Instr.fieldAt 51 (.pointer (some p)) 1).run Try.prog w = .ok (.pointer (some (p.add 1))) w := by kernel_rfl
theorem fa_wayzgoosekit_Dice_0 (p : Addr) (w : World) : (Instr.fieldAt 72 (.pointer (some p)) 0).run Try.prog w = .ok (.pointer (some (p.add 0))) w := by kernel_rfl
theorem fa_wayzgoosekit_Dice_1 (p : Addr) (w : World) : (Instr.fieldAt 72 (.pointer (some p)) 1).run Try.prog w = .ok (.pointer (some (p.add 1))) w := by kernel_rfl
theorem fa_wayzgoosekit_Dice_2 (p : Addr) (w : World) : (Instr.fieldAt 72 (.pointer (some p)) 2).run Try.prog w = .ok (.pointer (some (p.add 2))) w := by kernel_rfl
theorem fa_trade_list_0 (p : Addr) (w : World) : (Instr.fieldAt 81 (.pointer (some p)) 0).run Try.prog w = .ok (.pointer (some (p.add 0))) w := by kernel_rfl
theorem fa_trade_list_1 (p : Addr) (w : World) : (Instr.fieldAt 81 (.pointer (some p)) 1).run Try.prog w = .ok (.pointer (some (p.add 2))) w := by kernel_rfl
theorem fa_trade_list_2 (p : Addr) (w : World) : (Instr.fieldAt 81 (.pointer (some p)) 2).run Try.prog w = .ok (.pointer (some (p.add 3))) w := by kernel_rfl
theorem fa_trade_article_0 (p : Addr) (w : World) : (Instr.fieldAt 103 (.pointer (some p)) 0).run Try.prog w = .ok (.pointer (some (p.add 0))) w := by kernel_rfl
theorem fa_trade_article_1 (p : Addr) (w : World) : (Instr.fieldAt 103 (.pointer (some p)) 1).run Try.prog w = .ok (.pointer (some (p.add 1))) w := by kernel_rfl
theorem fa_trade_pointer_0 (p : Addr) (w : World) : (Instr.fieldAt 113 (.pointer (some p)) 0).run Try.prog w = .ok (.pointer (some (p.add 0))) w := by kernel_rfl
theorem fa_trade_index_0 (p : Addr) (w : World) : (Instr.fieldAt 115 (.pointer (some p)) 0).run Try.prog w = .ok (.pointer (some (p.add 0))) w := by kernel_rfl
theorem fa_trade_ref_0 (p : Addr) (w : World) : (Instr.fieldAt 139 (.pointer (some p)) 0).run Try.prog w = .ok (.pointer (some (p.add 0))) w := by kernel_rfl
theorem fa_trade_ref_1 (p : Addr) (w : World) : (Instr.fieldAt 139 (.pointer (some p)) 1).run Try.prog w = .ok (.pointer (some (p.add 1))) w := by kernel_rfl
theorem al_int (w : World) : (Instr.alloc 3 true (.tuple #[])).run Try.prog w = .ok (.pointer (some ⟨w.heap.size, 0, none⟩)) (w.alloc (.cells #[(.int .i64 0)] 3 (0, 0))) := by kernel_rfl
theorem al_api_Trades (w : World) : (Instr.alloc 26 true (.tuple #[])).run Try.prog w = .ok (.pointer (some ⟨w.heap.size, 0, none⟩)) (w.alloc (.cells #[(.slice none 0 0), (.slice none 0 0)] 26 (0, 0))) := by kernel_rfl
theorem al_api_Head (w : World) : (Instr.alloc 39 true (.tuple #[])).run Try.prog w = .ok (.pointer (some ⟨w.heap.size, 0, none⟩)) (w.alloc (.cells #[(.string ⟨#[]⟩), (.int .i64 0), (.int .i64 0), (.slice none 0 0)] 39 (0, 0))) := by kernel_rfl
theorem al_api_Move (w : World) : (Instr.alloc 47 true (.tuple #[])).run Try.prog w = .ok (.pointer (some ⟨w.heap.size, 0, none⟩)) (w.alloc (.cells #[(.string ⟨#[]⟩), (.int .i64 0)] 47 (0, 0))) := by kernel_rfl
theorem al_api_Class (w : World) : (Instr.alloc 51 true (.tuple #[])).run Try.prog w = .ok (.pointer (some ⟨w.heap.size, 0, none⟩)) (w.alloc (.cells #[(.string ⟨#[]⟩), (.int .i64 0)] 51 (0, 0))) := by kernel_rfl
theorem al_intss (w : World) : (Instr.alloc 62 true (.tuple #[])).run Try.prog w = .ok (.pointer (some ⟨w.heap.size, 0, none⟩)) (w.alloc (.cells #[(.slice none 0 0)] 62 (0, 0))) := by kernel_rfl
theorem al_trade_article (w : World) : (Instr.alloc 103 true (.tuple #[])).run Try.prog w = .ok (.pointer (some ⟨w.heap.size, 0, none⟩)) (w.alloc (.cells #[(.int .i64 0), (.slice none 0 0)] 103 (0, 0))) := by kernel_rfl
theorem al_trade_pointer (w : World) : (Instr.alloc 113 true (.tuple #[])).run Try.prog w = .ok (.pointer (some ⟨w.heap.size, 0, none⟩)) (w.alloc (.cells #[(.int .i64 0)] 113 (0, 0))) := by kernel_rfl
theorem al_trade_index (w : World) : (Instr.alloc 115 true (.tuple #[])).run Try.prog w = .ok (.pointer (some ⟨w.heap.size, 0, none⟩)) (w.alloc (.cells #[(.slice none 0 0)] 115 (0, 0))) := by kernel_rfl
theorem al_trade_heads (w : World) : (Instr.alloc 120 true (.tuple #[])).run Try.prog w = .ok (.pointer (some ⟨w.heap.size, 0, none⟩)) (w.alloc (.cells #[(.int .u8 0)] 120 (0, 0))) := by kernel_rfl
theorem al_trade_nets (w : World) : (Instr.alloc 134 true (.tuple #[])).run Try.prog w = .ok (.pointer (some ⟨w.heap.size, 0, none⟩)) (w.alloc (.cells #[(.int .u8 0), (.int .u8 0), (.int .u8 0), (.int .u8 0), (.int .u8 0), (.int .u8 0)] 134 (0, 0))) := by kernel_rfl
theorem al_trade_ref (w : World) : (Instr.alloc 139 true (.tuple #[])).run Try.prog w = .ok (.pointer (some ⟨w.heap.size, 0, none⟩)) (w.alloc (.cells #[(.int .i64 0), (.int .i64 0)] 139 (0, 0))) := by kernel_rfl
theorem al_func_L_trade_ref_bool (w : World) : (Instr.alloc 141 true (.tuple #[])).run Try.prog w = .ok (.pointer (some ⟨w.heap.size, 0, none⟩)) (w.alloc (.cells #[.nilFunc] 141 (0, 0))) := by kernel_rfl
theorem al_func_L_trade_ref_int_bool (w : World) : (Instr.alloc 166 true (.tuple #[])).run Try.prog w = .ok (.pointer (some ⟨w.heap.size, 0, none⟩)) (w.alloc (.cells #[.nilFunc] 166 (0, 0))) := by kernel_rfl
theorem al_slices_xorshift (w : World) : (Instr.alloc 167 true (.tuple #[])).run Try.prog w = .ok (.pointer (some ⟨w.heap.size, 0, none⟩)) (w.alloc (.cells #[(.int .u64 0)] 167 (0, 0))) := by kernel_rfl
theorem bd_api_Trades_  (w : World) : (Instr.build 26 #[]).run Try.prog w = .ok (.agg #[(.slice none 0 0), (.slice none 0 0)]) w := by kernel_rfl
theorem bd_api_Trades_0 (x1 : Option Addr) (x2 : Nat) (x3 : Nat) (w : World) : (Instr.build 26 #[(0, (.slice x1 x2 x3))]).run Try.prog w = .ok (.agg #[(.slice x1 x2 x3), (.slice none 0 0)]) w := by kernel_rfl
theorem bd_api_Trades_0_1 (x1 : Option Addr) (x2 : Nat) (x3 : Nat) (x4 : Option Addr) (x5 : Nat) (x6 : Nat) (w : World) : (Instr.build 26 #[(0, (.slice x1 x2 x3)), (1, (.slice x4 x5 x6))]).run Try.prog w = .ok (.agg #[(.slice x1 x2 x3), (.slice x4 x5 x6)]) w := by kernel_rfl
theorem bd_api_Head_0_1_2 (x1 : ByteArray) (x2 : Int) (x3 : Int) (w : World) : (Instr.build 39 #[(0, (.string x1)), (1, (.int .i64 x2)), (2, (.int .i64 x3))]).run Try.prog w = .ok (.agg #[(.string x1), (.int .i64 x2), (.int .i64 x3), (.slice none 0 0)]) w := by kernel_rfl
theorem bd_api_Head_0_1_2_3 (x1 : ByteArray) (x2 : Int) (x3 : Int) (x4 : Option Addr) (x5 : Nat) (x6 : Nat) (w : World) : (Instr.build 39 #[(0, (.string x1)), (1, (.int .i64 x2)), (2, (.int .i64 x3)), (3, (.slice x4 x5 x6))]).run Try.prog w = .ok (.agg #[(.string x1), (.int .i64 x2), (.int .i64 x3), (.slice x4 x5 x6)]) w := by kernel_rfl
theorem bd_api_Move_0_1 (x1 : ByteArray) (x2 : Int) (w : World) : (Instr.build 47 #[(0, (.string x1)), (1, (.int .i64 x2))]).run Try.prog w = .ok (.agg #[(.string x1), (.int .i64 x2)]) w := by kernel_rfl
theorem bd_api_Class_0 (x1 : ByteArray) (w : World) : (Instr.build 51 #[(0, (.string x1))]).run Try.prog w = .ok (.agg #[(.string x1), (.int .i64 0)]) w := by kernel_rfl
theorem bd_api_Class_0_1 (x1 : ByteArray) (x2 : Int) (w : World) : (Instr.build 51 #[(0, (.string x1)), (1, (.int .i64 x2))]).run Try.prog w = .ok (.agg #[(.string x1), (.int .i64 x2)]) w := by kernel_rfl
theorem bd_wayzgoosekit_Dice_0_2 (x1 : Option Addr) (x2 : Nat) (x3 : Nat) (x4 : Int) (w : World) : (Instr.build 72 #[(0, (.slice x1 x2 x3)), (2, (.int .u64 x4))]).run Try.prog w = .ok (.agg #[(.slice x1 x2 x3), (.int .i64 0), (.int .u64 x4)]) w := by kernel_rfl
theorem bd_trade_list_0 (x1 : Option Addr) (x2 : Nat) (x3 : Nat) (x4 : Option Addr) (x5 : Nat) (x6 : Nat) (w : World) : (Instr.build 81 #[(0, (.agg #[(.slice x1 x2 x3), (.slice x4 x5 x6)]))]).run Try.prog w = .ok (.agg #[(.slice x1 x2 x3), (.slice x4 x5 x6), (.slice none 0 0), (.slice none 0 0)]) w := by kernel_rfl
theorem bd_trade_article_0_1 (x1 : Int) (x2 : Option Addr) (x3 : Nat) (x4 : Nat) (w : World) : (Instr.build 103 #[(0, (.int .i64 x1)), (1, (.slice x2 x3 x4))]).run Try.prog w = .ok (.agg #[(.int .i64 x1), (.slice x2 x3 x4)]) w := by kernel_rfl
theorem bd_trade_pointer_0 (x1 : Int) (w : World) : (Instr.build 113 #[(0, (.int .i64 x1))]).run Try.prog w = .ok (.agg #[(.int .i64 x1)]) w := by kernel_rfl
theorem bd_trade_index_0 (x1 : Option Addr) (x2 : Nat) (x3 : Nat) (w : World) : (Instr.build 115 #[(0, (.slice x1 x2 x3))]).run Try.prog w = .ok (.agg #[(.slice x1 x2 x3)]) w := by kernel_rfl
theorem bd_trade_ref_0_1 (x1 : Int) (x2 : Int) (w : World) : (Instr.build 139 #[(0, (.int .i64 x1)), (1, (.int .i64 x2))]).run Try.prog w = .ok (.agg #[(.int .i64 x1), (.int .i64 x2)]) w := by kernel_rfl
theorem bs_ints_0  (w : World) : (Instr.buildSlice 22 0 #[]).run Try.prog w = .ok (.slice (some ⟨w.heap.size, 0, none⟩) 0 0) (w.alloc (.cells #[] 3 (0, 0))) := by kernel_rfl
theorem bs_ints_1 (x1 : Int) (w : World) : (Instr.buildSlice 22 1 #[(0, (.int .i64 x1))]).run Try.prog w = .ok (.slice (some ⟨w.heap.size, 0, none⟩) 1 1) (w.alloc (.cells #[(.int .i64 x1)] 3 (0, 0))) := by kernel_rfl
theorem bs_ints_2 (x1 : Int) (x2 : Int) (w : World) : (Instr.buildSlice 22 2 #[(0, (.int .i64 x1)), (1, (.int .i64 x2))]).run Try.prog w = .ok (.slice (some ⟨w.heap.size, 0, none⟩) 2 2) (w.alloc (.cells #[(.int .i64 x1), (.int .i64 x2)] 3 (0, 0))) := by kernel_rfl
theorem bs_L_api_Class_0  (w : World) : (Instr.buildSlice 23 0 #[]).run Try.prog w = .ok (.slice (some ⟨w.heap.size, 0, none⟩) 0 0) (w.alloc (.cells #[] 51 (0, 0))) := by kernel_rfl
theorem bs_L_api_Class_1 (x1 : ByteArray) (x2 : Int) (w : World) : (Instr.buildSlice 23 1 #[(0, (.agg #[(.string x1), (.int .i64 x2)]))]).run Try.prog w = .ok (.slice (some ⟨w.heap.size, 0, none⟩) 1 1) (w.alloc (.cells #[(.string x1), (.int .i64 x2)] 51 (0, 0))) := by kernel_rfl
theorem bs_L_api_Class_4 (x1 : ByteArray) (x2 : Int) (x3 : ByteArray) (x4 : Int) (x5 : ByteArray) (x6 : Int) (x7 : ByteArray) (x8 : Int) (w : World) : (Instr.buildSlice 23 4 #[(0, (.agg #[(.string x1), (.int .i64 x2)])), (1, (.agg #[(.string x3), (.int .i64 x4)])), (2, (.agg #[(.string x5), (.int .i64 x6)])), (3, (.agg #[(.string x7), (.int .i64 x8)]))]).run Try.prog w = .ok (.slice (some ⟨w.heap.size, 0, none⟩) 4 4) (w.alloc (.cells #[(.string x1), (.int .i64 x2), (.string x3), (.int .i64 x4), (.string x5), (.int .i64 x6), (.string x7), (.int .i64 x8)] 51 (0, 0))) := by kernel_rfl
theorem bs_L_api_Head_0  (w : World) : (Instr.buildSlice 24 0 #[]).run Try.prog w = .ok (.slice (some ⟨w.heap.size, 0, none⟩) 0 0) (w.alloc (.cells #[] 39 (0, 0))) := by kernel_rfl
theorem bs_L_api_Head_1 (x1 : ByteArray) (x2 : Int) (x3 : Int) (x4 : Option Addr) (x5 : Nat) (x6 : Nat) (w : World) : (Instr.buildSlice 24 1 #[(0, (.agg #[(.string x1), (.int .i64 x2), (.int .i64 x3), (.slice x4 x5 x6)]))]).run Try.prog w = .ok (.slice (some ⟨w.heap.size, 0, none⟩) 1 1) (w.alloc (.cells #[(.string x1), (.int .i64 x2), (.int .i64 x3), (.slice x4 x5 x6)] 39 (0, 0))) := by kernel_rfl
theorem bs_L_api_Head_6 (x1 : ByteArray) (x2 : Int) (x3 : Int) (x4 : Option Addr) (x5 : Nat) (x6 : Nat) (x7 : ByteArray) (x8 : Int) (x9 : Int) (x10 : Option Addr) (x11 : Nat) (x12 : Nat) (x13 : ByteArray) (x14 : Int) (x15 : Int) (x16 : Option Addr) (x17 : Nat) (x18 : Nat) (x19 : ByteArray) (x20 : Int) (x21 : Int) (x22 : Option Addr) (x23 : Nat) (x24 : Nat) (x25 : ByteArray) (x26 : Int) (x27 : Int) (x28 : Option Addr) (x29 : Nat) (x30 : Nat) (x31 : ByteArray) (x32 : Int) (x33 : Int) (x34 : Option Addr) (x35 : Nat) (x36 : Nat) (w : World) : (Instr.buildSlice 24 6 #[(0, (.agg #[(.string x1), (.int .i64 x2), (.int .i64 x3), (.slice x4 x5 x6)])), (1, (.agg #[(.string x7), (.int .i64 x8), (.int .i64 x9), (.slice x10 x11 x12)])), (2, (.agg #[(.string x13), (.int .i64 x14), (.int .i64 x15), (.slice x16 x17 x18)])), (3, (.agg #[(.string x19), (.int .i64 x20), (.int .i64 x21), (.slice x22 x23 x24)])), (4, (.agg #[(.string x25), (.int .i64 x26), (.int .i64 x27), (.slice x28 x29 x30)])), (5, (.agg #[(.string x31), (.int .i64 x32), (.int .i64 x33), (.slice x34 x35 x36)]))]).run Try.prog w = .ok (.slice (some ⟨w.heap.size, 0, none⟩) 6 6) (w.alloc (.cells #[(.string x1), (.int .i64 x2), (.int .i64 x3), (.slice x4 x5 x6), (.string x7), (.int .i64 x8), (.int .i64 x9), (.slice x10 x11 x12), (.string x13), (.int .i64 x14), (.int .i64 x15), (.slice x16 x17 x18), (.string x19), (.int .i64 x20), (.int .i64 x21), (.slice x22 x23 x24), (.string x25), (.int .i64 x26), (.int .i64 x27), (.slice x28 x29 x30), (.string x31), (.int .i64 x32), (.int .i64 x33), (.slice x34 x35 x36)] 39 (0, 0))) := by kernel_rfl
theorem bs_L_api_Move_1 (x1 : ByteArray) (x2 : Int) (w : World) : (Instr.buildSlice 43 1 #[(0, (.agg #[(.string x1), (.int .i64 x2)]))]).run Try.prog w = .ok (.slice (some ⟨w.heap.size, 0, none⟩) 1 1) (w.alloc (.cells #[(.string x1), (.int .i64 x2)] 47 (0, 0))) := by kernel_rfl
theorem bs_L_api_Move_3 (x1 : ByteArray) (x2 : Int) (x3 : ByteArray) (x4 : Int) (x5 : ByteArray) (x6 : Int) (w : World) : (Instr.buildSlice 43 3 #[(0, (.agg #[(.string x1), (.int .i64 x2)])), (1, (.agg #[(.string x3), (.int .i64 x4)])), (2, (.agg #[(.string x5), (.int .i64 x6)]))]).run Try.prog w = .ok (.slice (some ⟨w.heap.size, 0, none⟩) 3 3) (w.alloc (.cells #[(.string x1), (.int .i64 x2), (.string x3), (.int .i64 x4), (.string x5), (.int .i64 x6)] 47 (0, 0))) := by kernel_rfl
theorem bs_intss_1 (x1 : Option Addr) (x2 : Nat) (x3 : Nat) (w : World) : (Instr.buildSlice 62 1 #[(0, (.slice x1 x2 x3))]).run Try.prog w = .ok (.slice (some ⟨w.heap.size, 0, none⟩) 1 1) (w.alloc (.cells #[(.slice x1 x2 x3)] 22 (0, 0))) := by kernel_rfl
theorem bs_intss_2 (x1 : Option Addr) (x2 : Nat) (x3 : Nat) (x4 : Option Addr) (x5 : Nat) (x6 : Nat) (w : World) : (Instr.buildSlice 62 2 #[(0, (.slice x1 x2 x3)), (1, (.slice x4 x5 x6))]).run Try.prog w = .ok (.slice (some ⟨w.heap.size, 0, none⟩) 2 2) (w.alloc (.cells #[(.slice x1 x2 x3), (.slice x4 x5 x6)] 22 (0, 0))) := by kernel_rfl
theorem bs_strs_1 (x1 : ByteArray) (w : World) : (Instr.buildSlice 65 1 #[(0, (.string x1))]).run Try.prog w = .ok (.slice (some ⟨w.heap.size, 0, none⟩) 1 1) (w.alloc (.cells #[(.string x1)] 9 (0, 0))) := by kernel_rfl
theorem bs_strs_9 (x1 : ByteArray) (x2 : ByteArray) (x3 : ByteArray) (x4 : ByteArray) (x5 : ByteArray) (x6 : ByteArray) (x7 : ByteArray) (x8 : ByteArray) (x9 : ByteArray) (w : World) : (Instr.buildSlice 65 9 #[(0, (.string x1)), (1, (.string x2)), (2, (.string x3)), (3, (.string x4)), (4, (.string x5)), (5, (.string x6)), (6, (.string x7)), (7, (.string x8)), (8, (.string x9))]).run Try.prog w = .ok (.slice (some ⟨w.heap.size, 0, none⟩) 9 9) (w.alloc (.cells #[(.string x1), (.string x2), (.string x3), (.string x4), (.string x5), (.string x6), (.string x7), (.string x8), (.string x9)] 9 (0, 0))) := by kernel_rfl
theorem bs_strs_16 (x1 : ByteArray) (x2 : ByteArray) (x3 : ByteArray) (x4 : ByteArray) (x5 : ByteArray) (x6 : ByteArray) (x7 : ByteArray) (x8 : ByteArray) (x9 : ByteArray) (x10 : ByteArray) (x11 : ByteArray) (x12 : ByteArray) (x13 : ByteArray) (x14 : ByteArray) (x15 : ByteArray) (x16 : ByteArray) (w : World) : (Instr.buildSlice 65 16 #[(0, (.string x1)), (1, (.string x2)), (2, (.string x3)), (3, (.string x4)), (4, (.string x5)), (5, (.string x6)), (6, (.string x7)), (7, (.string x8)), (8, (.string x9)), (9, (.string x10)), (10, (.string x11)), (11, (.string x12)), (12, (.string x13)), (13, (.string x14)), (14, (.string x15)), (15, (.string x16))]).run Try.prog w = .ok (.slice (some ⟨w.heap.size, 0, none⟩) 16 16) (w.alloc (.cells #[(.string x1), (.string x2), (.string x3), (.string x4), (.string x5), (.string x6), (.string x7), (.string x8), (.string x9), (.string x10), (.string x11), (.string x12), (.string x13), (.string x14), (.string x15), (.string x16)] 9 (0, 0))) := by kernel_rfl
theorem bs_L_trade_classes_1 (x1 : Int) (w : World) : (Instr.buildSlice 78 1 #[(0, (.int .u8 x1))]).run Try.prog w = .ok (.slice (some ⟨w.heap.size, 0, none⟩) 1 1) (w.alloc (.cells #[(.int .u8 x1)] 77 (0, 0))) := by kernel_rfl
theorem bs_L_trade_kind_1 (x1 : Nat) (x2 : Value) (w : World) : (Instr.buildSlice 79 1 #[(0, (.iface x1 x2))]).run Try.prog w = .ok (.slice (some ⟨w.heap.size, 0, none⟩) 1 1) (w.alloc (.cells #[(.iface x1 x2)] 101 (0, 0))) := by kernel_rfl
theorem bs_L_trade_ref_1 (x1 : Int) (x2 : Int) (w : World) : (Instr.buildSlice 136 1 #[(0, (.agg #[(.int .i64 x1), (.int .i64 x2)]))]).run Try.prog w = .ok (.slice (some ⟨w.heap.size, 0, none⟩) 1 1) (w.alloc (.cells #[(.int .i64 x1), (.int .i64 x2)] 139 (0, 0))) := by kernel_rfl
theorem eqi_api_Move (a0 b0 : Str) (a1 b1 : Int) (w : World) : (Op.equalIn 10000 47 (.agg #[.string ⟨(a0 : Str).toArray⟩, .int .i64 a1]) (.agg #[.string ⟨(b0 : Str).toArray⟩, .int .i64 b1])).run Try.prog w = .ok (decide ((a0, a1) = (b0, b1))) w := by
  rw [run_equalIn_agg w 9999 47 _ _ (by simp only [Program.fieldsOf, Try.underlying47]) (by kernel_rfl)]
  simp only [Program.fieldsOf, Try.underlying47]
  by_cases h0 : a0 = b0 <;> by_cases h1 : a1 = b1 <;>
    simp [Op.eqFields, part, isAgg, run_equalIn_int _ 9998 3 .i64 .i64 _ _ Try.underlying3, run_equalIn_string _ 9998 9 _ _ Try.underlying9, run_underlying Try.underlying3, run_underlying Try.underlying9, h0, h1]
theorem eql_api_Move (a0 b0 : Str) (a1 b1 : Int) (w : World) : (binOp .eql 47 (.agg #[.string ⟨(a0 : Str).toArray⟩, .int .i64 a1]) (.agg #[.string ⟨(b0 : Str).toArray⟩, .int .i64 b1])).run Try.prog w = .ok (.bool (decide ((a0, a1) = (b0, b1)))) w := by rw [run_eql_struct, eqi_api_Move]; rfl
theorem neq_api_Move (a0 b0 : Str) (a1 b1 : Int) (w : World) : (binOp .neq 47 (.agg #[.string ⟨(a0 : Str).toArray⟩, .int .i64 a1]) (.agg #[.string ⟨(b0 : Str).toArray⟩, .int .i64 b1])).run Try.prog w = .ok (.bool (decide (¬ (a0, a1) = (b0, b1)))) w := by rw [run_neq_struct, eqi_api_Move, decide_not]; rfl
theorem eqg_api_Move (op : BinOp) (x y : Operand) (xs ys : Array Value) (w : World) : (eqGuard op 47 x y (.agg xs) (.agg ys)).run Try.prog w = .ok () w := run_eqGuard_agg w op 47 x y xs ys (by kernel_rfl)
theorem eqi_trade_ref (a0 b0 : Int) (a1 b1 : Int) (w : World) : (Op.equalIn 10000 139 (.agg #[.int .i64 a0, .int .i64 a1]) (.agg #[.int .i64 b0, .int .i64 b1])).run Try.prog w = .ok (decide ((a0, a1) = (b0, b1))) w := by
  rw [run_equalIn_agg w 9999 139 _ _ (by simp only [Program.fieldsOf, Try.underlying139]) (by kernel_rfl)]
  simp only [Program.fieldsOf, Try.underlying139]
  by_cases h0 : a0 = b0 <;> by_cases h1 : a1 = b1 <;>
    simp [Op.eqFields, part, isAgg, run_equalIn_int _ 9998 3 .i64 .i64 _ _ Try.underlying3, run_underlying Try.underlying3, h0, h1]
theorem eql_trade_ref (a0 b0 : Int) (a1 b1 : Int) (w : World) : (binOp .eql 139 (.agg #[.int .i64 a0, .int .i64 a1]) (.agg #[.int .i64 b0, .int .i64 b1])).run Try.prog w = .ok (.bool (decide ((a0, a1) = (b0, b1)))) w := by rw [run_eql_struct, eqi_trade_ref]; rfl
theorem neq_trade_ref (a0 b0 : Int) (a1 b1 : Int) (w : World) : (binOp .neq 139 (.agg #[.int .i64 a0, .int .i64 a1]) (.agg #[.int .i64 b0, .int .i64 b1])).run Try.prog w = .ok (.bool (decide (¬ (a0, a1) = (b0, b1)))) w := by rw [run_neq_struct, eqi_trade_ref, decide_not]; rfl
theorem eqg_trade_ref (op : BinOp) (x y : Operand) (xs ys : Array Value) (w : World) : (eqGuard op 139 x y (.agg xs) (.agg ys)).run Try.prog w = .ok () w := run_eqGuard_agg w op 139 x y xs ys (by kernel_rfl)
end T
end Go.Proofs.Ytlpgheniajdkfaa
