/- Made by a program (gen_T.py): names of the seat's functions and types, and closed facts on them. -/
import Derived.Test.YtlpgheniajdkfaaGreatProg
import Derived.Test.YtlpgheniajdkfaaGreatWf
import Derived.KernelRfl
import Derived.Laws.StructEq
namespace Go.Proofs.YtlpgheniajdkfaaGreat
open Go Go.W
set_option linter.unusedVariables false

theorem mixed : Tryz.prog.follows .mixedOrders = true := by kernel_rfl
namespace F
abbrev law04_TradeJoins : Nat := 3
abbrev law04_TradePaths : Nat := 4
abbrev law04_TradeMeans : Nat := 5
abbrev law04_TradeDrops : Nat := 6
abbrev law04_TradeJoined : Nat := 7
theorem law04_TradeJoined_f : Tryz.prog.funcs[law04_TradeJoined]? = some Tryz.f7 := Tryz.func7
abbrev law04_TradeSteps : Nat := 8
abbrev law04_TradeFollows : Nat := 9
abbrev law04_TradeCircles : Nat := 10
abbrev law04_short : Nat := 11
abbrev law04_indexed : Nat := 12
theorem law04_indexed_f : Tryz.prog.funcs[law04_indexed]? = some Tryz.f12 := Tryz.func12
theorem law04_indexed_cb : Callable Tryz.prog law04_indexed := ⟨⟨_, Tryz.func12, by kernel_rfl, by kernel_rfl⟩⟩
abbrev kit_NewDice : Nat := 13
theorem kit_NewDice_f : Tryz.prog.funcs[kit_NewDice]? = some Tryz.f13 := Tryz.func13
theorem kit_NewDice_cb : Callable Tryz.prog kit_NewDice := ⟨⟨_, Tryz.func13, by kernel_rfl, by kernel_rfl⟩⟩
abbrev kit_TradesOf : Nat := 14
theorem kit_TradesOf_f : Tryz.prog.funcs[kit_TradesOf]? = some Tryz.f14 := Tryz.func14
theorem kit_TradesOf_cb : Callable Tryz.prog kit_TradesOf := ⟨⟨_, Tryz.func14, by kernel_rfl, by kernel_rfl⟩⟩
abbrev kit_Dice_To : Nat := 15
theorem kit_Dice_To_f : Tryz.prog.funcs[kit_Dice_To]? = some Tryz.f15 := Tryz.func15
theorem kit_Dice_To_cb : Callable Tryz.prog kit_Dice_To := ⟨⟨_, Tryz.func15, by kernel_rfl, by kernel_rfl⟩⟩
abbrev kit_Dice_From : Nat := 16
theorem kit_Dice_From_f : Tryz.prog.funcs[kit_Dice_From]? = some Tryz.f16 := Tryz.func16
theorem kit_Dice_From_cb : Callable Tryz.prog kit_Dice_From := ⟨⟨_, Tryz.func16, by kernel_rfl, by kernel_rfl⟩⟩
abbrev kit_DupTrades : Nat := 17
theorem kit_DupTrades_f : Tryz.prog.funcs[kit_DupTrades]? = some Tryz.f17 := Tryz.func17
theorem kit_DupTrades_cb : Callable Tryz.prog kit_DupTrades := ⟨⟨_, Tryz.func17, by kernel_rfl, by kernel_rfl⟩⟩
abbrev trade_Join : Nat := 18
theorem trade_Join_f : Tryz.prog.funcs[trade_Join]? = some Tryz.f18 := Tryz.func18
theorem trade_Join_cb : Callable Tryz.prog trade_Join := ⟨⟨_, Tryz.func18, by kernel_rfl, by kernel_rfl⟩⟩
abbrev ref04_Join : Nat := 19
abbrev kit_EqLists : Nat := 20
theorem kit_EqLists_f : Tryz.prog.funcs[kit_EqLists]? = some Tryz.f20 := Tryz.func20
theorem kit_EqLists_cb : Callable Tryz.prog kit_EqLists := ⟨⟨_, Tryz.func20, by kernel_rfl, by kernel_rfl⟩⟩
abbrev kit_EqTrades : Nat := 21
abbrev law04_lists : Nat := 22
abbrev trade_Path : Nat := 23
abbrev ref04_Path : Nat := 24
abbrev trade_Least : Nat := 25
theorem trade_Least_f : Tryz.prog.funcs[trade_Least]? = some Tryz.f25 := Tryz.func25
theorem trade_Least_cb : Callable Tryz.prog trade_Least := ⟨⟨_, Tryz.func25, by kernel_rfl, by kernel_rfl⟩⟩
abbrev ref04_Least : Nat := 26
abbrev trade_Check : Nat := 27
abbrev ref04_Check : Nat := 28
abbrev kit_EqInts : Nat := 29
theorem kit_EqInts_f : Tryz.prog.funcs[kit_EqInts]? = some Tryz.f29 := Tryz.func29
theorem kit_EqInts_cb : Callable Tryz.prog kit_EqInts := ⟨⟨_, Tryz.func29, by kernel_rfl, by kernel_rfl⟩⟩
abbrev trade_Under : Nat := 30
abbrev ref04_Under : Nat := 31
abbrev trade_May : Nat := 32
theorem trade_May_f : Tryz.prog.funcs[trade_May]? = some Tryz.f32 := Tryz.func32
theorem trade_May_cb : Callable Tryz.prog trade_May := ⟨⟨_, Tryz.func32, by kernel_rfl, by kernel_rfl⟩⟩
abbrev ref04_May : Nat := 33
abbrev trade_Means : Nat := 34
abbrev ref04_Means : Nat := 35
abbrev trade_Short : Nat := 36
theorem trade_Short_f : Tryz.prog.funcs[trade_Short]? = some Tryz.f36 := Tryz.func36
theorem trade_Short_cb : Callable Tryz.prog trade_Short := ⟨⟨_, Tryz.func36, by kernel_rfl, by kernel_rfl⟩⟩
abbrev ref04_Short : Nat := 37
abbrev trade_Drop : Nat := 38
abbrev ref04_Drop : Nat := 39
abbrev trade_Compare : Nat := 40
theorem trade_Compare_f : Tryz.prog.funcs[trade_Compare]? = some Tryz.f40 := Tryz.func40
theorem trade_Compare_cb : Callable Tryz.prog trade_Compare := ⟨⟨_, Tryz.func40, by kernel_rfl, by kernel_rfl⟩⟩
abbrev ref04_Compare : Nat := 41
abbrev kit_EqMoves : Nat := 42
theorem kit_EqMoves_f : Tryz.prog.funcs[kit_EqMoves]? = some Tryz.f42 := Tryz.func42
theorem kit_EqMoves_cb : Callable Tryz.prog kit_EqMoves := ⟨⟨_, Tryz.func42, by kernel_rfl, by kernel_rfl⟩⟩
abbrev law04_free : Nat := 43
theorem law04_free_f : Tryz.prog.funcs[law04_free]? = some Tryz.f43 := Tryz.func43
theorem law04_free_cb : Callable Tryz.prog law04_free := ⟨⟨_, Tryz.func43, by kernel_rfl, by kernel_rfl⟩⟩
abbrev trade_Hidden : Nat := 44
theorem trade_Hidden_f : Tryz.prog.funcs[trade_Hidden]? = some Tryz.f44 := Tryz.func44
theorem trade_Hidden_cb : Callable Tryz.prog trade_Hidden := ⟨⟨_, Tryz.func44, by kernel_rfl, by kernel_rfl⟩⟩
abbrev law04_added : Nat := 45
theorem law04_added_f : Tryz.prog.funcs[law04_added]? = some Tryz.f45 := Tryz.func45
theorem law04_added_cb : Callable Tryz.prog law04_added := ⟨⟨_, Tryz.func45, by kernel_rfl, by kernel_rfl⟩⟩
abbrev kit_Subsets : Nat := 46
theorem kit_Subsets_f : Tryz.prog.funcs[kit_Subsets]? = some Tryz.f46 := Tryz.func46
theorem kit_Subsets_cb : Callable Tryz.prog kit_Subsets := ⟨⟨_, Tryz.func46, by kernel_rfl, by kernel_rfl⟩⟩
abbrev trade_Steps : Nat := 47
abbrev ref04_Steps : Nat := 48
abbrev ref04_Hidden : Nat := 49
abbrev trade_Circles : Nat := 50
abbrev ref04_Circles : Nat := 51
abbrev trade_Follow : Nat := 52
theorem trade_Follow_f : Tryz.prog.funcs[trade_Follow]? = some Tryz.f52 := Tryz.func52
theorem trade_Follow_cb : Callable Tryz.prog trade_Follow := ⟨⟨_, Tryz.func52, by kernel_rfl, by kernel_rfl⟩⟩
abbrev ref04_Follow : Nat := 53
abbrev kit_Index : Nat := 54
theorem kit_Index_f : Tryz.prog.funcs[kit_Index]? = some Tryz.f54 := Tryz.func54
theorem kit_Index_cb : Callable Tryz.prog kit_Index := ⟨⟨_, Tryz.func54, by kernel_rfl, by kernel_rfl⟩⟩
abbrev law04_first : Nat := 55
abbrev law04_shops : Nat := 56
theorem law04_shops_f : Tryz.prog.funcs[law04_shops]? = some Tryz.f56 := Tryz.func56
theorem law04_shops_cb : Callable Tryz.prog law04_shops := ⟨⟨_, Tryz.func56, by kernel_rfl, by kernel_rfl⟩⟩
abbrev law04_later : Nat := 57
theorem law04_later_f : Tryz.prog.funcs[law04_later]? = some Tryz.f57 := Tryz.func57
theorem law04_later_cb : Callable Tryz.prog law04_later := ⟨⟨_, Tryz.func57, by kernel_rfl, by kernel_rfl⟩⟩
abbrev kit_Dice_Order : Nat := 58
theorem kit_Dice_Order_f : Tryz.prog.funcs[kit_Dice_Order]? = some Tryz.f58 := Tryz.func58
theorem kit_Dice_Order_cb : Callable Tryz.prog kit_Dice_Order := ⟨⟨_, Tryz.func58, by kernel_rfl, by kernel_rfl⟩⟩
abbrev kit_sorts : Nat := 59
theorem kit_sorts_f : Tryz.prog.funcs[kit_sorts]? = some Tryz.f59 := Tryz.func59
theorem kit_sorts_cb : Callable Tryz.prog kit_sorts := ⟨⟨_, Tryz.func59, by kernel_rfl, by kernel_rfl⟩⟩
abbrev kit_partOf : Nat := 60
theorem kit_partOf_f : Tryz.prog.funcs[kit_partOf]? = some Tryz.f60 := Tryz.func60
theorem kit_partOf_cb : Callable Tryz.prog kit_partOf := ⟨⟨_, Tryz.func60, by kernel_rfl, by kernel_rfl⟩⟩
abbrev kit_callings : Nat := 61
theorem kit_callings_f : Tryz.prog.funcs[kit_callings]? = some Tryz.f61 := Tryz.func61
theorem kit_callings_cb : Callable Tryz.prog kit_callings := ⟨⟨_, Tryz.func61, by kernel_rfl, by kernel_rfl⟩⟩
abbrev kit_Dice_Once : Nat := 62
theorem kit_Dice_Once_f : Tryz.prog.funcs[kit_Dice_Once]? = some Tryz.f62 := Tryz.func62
theorem kit_Dice_Once_cb : Callable Tryz.prog kit_Dice_Once := ⟨⟨_, Tryz.func62, by kernel_rfl, by kernel_rfl⟩⟩
abbrev kit_Dice_raw : Nat := 63
theorem kit_Dice_raw_f : Tryz.prog.funcs[kit_Dice_raw]? = some Tryz.f63 := Tryz.func63
theorem kit_Dice_raw_cb : Callable Tryz.prog kit_Dice_raw := ⟨⟨_, Tryz.func63, by kernel_rfl, by kernel_rfl⟩⟩
abbrev kit_DupInts : Nat := 64
theorem kit_DupInts_f : Tryz.prog.funcs[kit_DupInts]? = some Tryz.f64 := Tryz.func64
theorem kit_DupInts_cb : Callable Tryz.prog kit_DupInts := ⟨⟨_, Tryz.func64, by kernel_rfl, by kernel_rfl⟩⟩
abbrev trade_ask : Nat := 65
theorem trade_ask_f : Tryz.prog.funcs[trade_ask]? = some Tryz.f65 := Tryz.func65
theorem trade_ask_cb : Callable Tryz.prog trade_ask := ⟨⟨_, Tryz.func65, by kernel_rfl, by kernel_rfl⟩⟩
abbrev trade_between : Nat := 66
theorem trade_between_f : Tryz.prog.funcs[trade_between]? = some Tryz.f66 := Tryz.func66
theorem trade_between_cb : Callable Tryz.prog trade_between := ⟨⟨_, Tryz.func66, by kernel_rfl, by kernel_rfl⟩⟩
abbrev trade_list_join : Nat := 67
theorem trade_list_join_f : Tryz.prog.funcs[trade_list_join]? = some Tryz.f67 := Tryz.func67
theorem trade_list_join_cb : Callable Tryz.prog trade_list_join := ⟨⟨_, Tryz.func67, by kernel_rfl, by kernel_rfl⟩⟩
abbrev ref04_counted : Nat := 68
abbrev ref04_has : Nat := 69
abbrev ref04_With : Nat := 70
abbrev ref04_hidden : Nat := 71
abbrev ref04_first : Nat := 72
abbrev trade_begin : Nat := 73
theorem trade_begin_f : Tryz.prog.funcs[trade_begin]? = some Tryz.f73 := Tryz.func73
theorem trade_begin_cb : Callable Tryz.prog trade_begin := ⟨⟨_, Tryz.func73, by kernel_rfl, by kernel_rfl⟩⟩
abbrev trade_list_path : Nat := 74
theorem trade_list_path_f : Tryz.prog.funcs[trade_list_path]? = some Tryz.f74 := Tryz.func74
theorem trade_list_path_cb : Callable Tryz.prog trade_list_path := ⟨⟨_, Tryz.func74, by kernel_rfl, by kernel_rfl⟩⟩
abbrev ref04_asked : Nat := 75
abbrev ref04_path : Nat := 76
abbrev trade_classes_has : Nat := 77
theorem trade_classes_has_f : Tryz.prog.funcs[trade_classes_has]? = some Tryz.f77 := Tryz.func77
theorem trade_classes_has_cb : Callable Tryz.prog trade_classes_has := ⟨⟨_, Tryz.func77, by kernel_rfl, by kernel_rfl⟩⟩
abbrev trade_check : Nat := 78
theorem trade_check_f : Tryz.prog.funcs[trade_check]? = some Tryz.f78 := Tryz.func78
theorem trade_check_cb : Callable Tryz.prog trade_check := ⟨⟨_, Tryz.func78, by kernel_rfl, by kernel_rfl⟩⟩
abbrev ref04_checkClass : Nat := 79
abbrev ref04_checkHead : Nat := 80
abbrev trade_list_may : Nat := 81
theorem trade_list_may_f : Tryz.prog.funcs[trade_list_may]? = some Tryz.f81 := Tryz.func81
theorem trade_list_may_cb : Callable Tryz.prog trade_list_may := ⟨⟨_, Tryz.func81, by kernel_rfl, by kernel_rfl⟩⟩
abbrev ref04_may : Nat := 82
abbrev trade_list_isTrade : Nat := 83
theorem trade_list_isTrade_f : Tryz.prog.funcs[trade_list_isTrade]? = some Tryz.f83 := Tryz.func83
theorem trade_list_isTrade_cb : Callable Tryz.prog trade_list_isTrade := ⟨⟨_, Tryz.func83, by kernel_rfl, by kernel_rfl⟩⟩
abbrev slices_Contains_ints : Nat := 84
abbrev trade_list_short : Nat := 85
theorem trade_list_short_f : Tryz.prog.funcs[trade_list_short]? = some Tryz.f85 := Tryz.func85
theorem trade_list_short_cb : Callable Tryz.prog trade_list_short := ⟨⟨_, Tryz.func85, by kernel_rfl, by kernel_rfl⟩⟩
abbrev trade_list_drop : Nat := 86
abbrev ref04_falls : Nat := 87
abbrev slices_Clone : Nat := 88
theorem slices_Clone_f : Tryz.prog.funcs[slices_Clone]? = some Tryz.f88 := Tryz.func88
theorem slices_Clone_cb : Callable Tryz.prog slices_Clone := ⟨⟨_, Tryz.func88, by kernel_rfl, by kernel_rfl⟩⟩
abbrev slices_SortFunc_strs : Nat := 89
theorem slices_SortFunc_strs_f : Tryz.prog.funcs[slices_SortFunc_strs]? = some Tryz.f89 := Tryz.func89
theorem slices_SortFunc_strs_cb : Callable Tryz.prog slices_SortFunc_strs := ⟨⟨_, Tryz.func89, by kernel_rfl, by kernel_rfl⟩⟩
abbrev strings_Compare : Nat := 90
theorem strings_Compare_f : Tryz.prog.funcs[strings_Compare]? = some Tryz.f90 := Tryz.func90
theorem strings_Compare_cb : Callable Tryz.prog strings_Compare := ⟨⟨_, Tryz.func90, by kernel_rfl, by kernel_rfl⟩⟩
abbrev slices_Compact_strs : Nat := 91
theorem slices_Compact_strs_f : Tryz.prog.funcs[slices_Compact_strs]? = some Tryz.f91 := Tryz.func91
theorem slices_Compact_strs_cb : Callable Tryz.prog slices_Compact_strs := ⟨⟨_, Tryz.func91, by kernel_rfl, by kernel_rfl⟩⟩
abbrev trade_list_names : Nat := 92
theorem trade_list_names_f : Tryz.prog.funcs[trade_list_names]? = some Tryz.f92 := Tryz.func92
theorem trade_list_names_cb : Callable Tryz.prog trade_list_names := ⟨⟨_, Tryz.func92, by kernel_rfl, by kernel_rfl⟩⟩
abbrev slices_Equal_strs : Nat := 93
theorem slices_Equal_strs_f : Tryz.prog.funcs[slices_Equal_strs]? = some Tryz.f93 := Tryz.func93
theorem slices_Equal_strs_cb : Callable Tryz.prog slices_Equal_strs := ⟨⟨_, Tryz.func93, by kernel_rfl, by kernel_rfl⟩⟩
abbrev ref04_trade : Nat := 94
abbrev ref04_likePaths : Nat := 95
abbrev trade_list_steps : Nat := 96
theorem trade_list_steps_f : Tryz.prog.funcs[trade_list_steps]? = some Tryz.f96 := Tryz.func96
theorem trade_list_steps_cb : Callable Tryz.prog trade_list_steps := ⟨⟨_, Tryz.func96, by kernel_rfl, by kernel_rfl⟩⟩
abbrev kit_subsets : Nat := 97
theorem kit_subsets_f : Tryz.prog.funcs[kit_subsets]? = some Tryz.f97 := Tryz.func97
theorem kit_subsets_cb : Callable Tryz.prog kit_subsets := ⟨⟨_, Tryz.func97, by kernel_rfl, by kernel_rfl⟩⟩
abbrev ref04_steps : Nat := 98
abbrev trade_list_circles : Nat := 99
abbrev trade_list_follow : Nat := 100
theorem trade_list_follow_f : Tryz.prog.funcs[trade_list_follow]? = some Tryz.f100 := Tryz.func100
theorem trade_list_follow_cb : Callable Tryz.prog trade_list_follow := ⟨⟨_, Tryz.func100, by kernel_rfl, by kernel_rfl⟩⟩
abbrev ref04_follow : Nat := 101
abbrev law04_is : Nat := 102
theorem law04_is_f : Tryz.prog.funcs[law04_is]? = some Tryz.f102 := Tryz.func102
theorem law04_is_cb : Callable Tryz.prog law04_is := ⟨⟨_, Tryz.func102, by kernel_rfl, by kernel_rfl⟩⟩
abbrev law04_see : Nat := 103
theorem law04_see_f : Tryz.prog.funcs[law04_see]? = some Tryz.f103 := Tryz.func103
theorem law04_see_cb : Callable Tryz.prog law04_see := ⟨⟨_, Tryz.func103, by kernel_rfl, by kernel_rfl⟩⟩
abbrev trade_list_trades : Nat := 104
theorem trade_list_trades_f : Tryz.prog.funcs[trade_list_trades]? = some Tryz.f104 := Tryz.func104
theorem trade_list_trades_cb : Callable Tryz.prog trade_list_trades := ⟨⟨_, Tryz.func104, by kernel_rfl, by kernel_rfl⟩⟩
abbrev trade_list_nets : Nat := 105
theorem trade_list_nets_f : Tryz.prog.funcs[trade_list_nets]? = some Tryz.f105 := Tryz.func105
theorem trade_list_nets_cb : Callable Tryz.prog trade_list_nets := ⟨⟨_, Tryz.func105, by kernel_rfl, by kernel_rfl⟩⟩
abbrev trade_list_free : Nat := 106
theorem trade_list_free_f : Tryz.prog.funcs[trade_list_free]? = some Tryz.f106 := Tryz.func106
theorem trade_list_free_cb : Callable Tryz.prog trade_list_free := ⟨⟨_, Tryz.func106, by kernel_rfl, by kernel_rfl⟩⟩
abbrev trade_list_join_1 : Nat := 107
theorem trade_list_join_1_f : Tryz.prog.funcs[trade_list_join_1]? = some Tryz.f107 := Tryz.func107
theorem trade_list_join_1_cb : Callable Tryz.prog trade_list_join_1 := ⟨⟨_, Tryz.func107, by kernel_rfl, by kernel_rfl⟩⟩
abbrev trade_heads_with : Nat := 108
theorem trade_heads_with_f : Tryz.prog.funcs[trade_heads_with]? = some Tryz.f108 := Tryz.func108
theorem trade_heads_with_cb : Callable Tryz.prog trade_heads_with := ⟨⟨_, Tryz.func108, by kernel_rfl, by kernel_rfl⟩⟩
abbrev trade_nets_found : Nat := 109
theorem trade_nets_found_f : Tryz.prog.funcs[trade_nets_found]? = some Tryz.f109 := Tryz.func109
theorem trade_nets_found_cb : Callable Tryz.prog trade_nets_found := ⟨⟨_, Tryz.func109, by kernel_rfl, by kernel_rfl⟩⟩
abbrev trade_picks : Nat := 110
theorem trade_picks_f : Tryz.prog.funcs[trade_picks]? = some Tryz.f110 := Tryz.func110
theorem trade_picks_cb : Callable Tryz.prog trade_picks := ⟨⟨_, Tryz.func110, by kernel_rfl, by kernel_rfl⟩⟩
abbrev trade_classes_with : Nat := 111
theorem trade_classes_with_f : Tryz.prog.funcs[trade_classes_with]? = some Tryz.f111 := Tryz.func111
theorem trade_classes_with_cb : Callable Tryz.prog trade_classes_with := ⟨⟨_, Tryz.func111, by kernel_rfl, by kernel_rfl⟩⟩
abbrev trade_checkClass : Nat := 112
theorem trade_checkClass_f : Tryz.prog.funcs[trade_checkClass]? = some Tryz.f112 := Tryz.func112
theorem trade_checkClass_cb : Callable Tryz.prog trade_checkClass := ⟨⟨_, Tryz.func112, by kernel_rfl, by kernel_rfl⟩⟩
abbrev trade_checkHead : Nat := 113
theorem trade_checkHead_f : Tryz.prog.funcs[trade_checkHead]? = some Tryz.f113 := Tryz.func113
theorem trade_checkHead_cb : Callable Tryz.prog trade_checkHead := ⟨⟨_, Tryz.func113, by kernel_rfl, by kernel_rfl⟩⟩
abbrev ref04_Word : Nat := 114
abbrev strings_HasPrefix : Nat := 115
theorem strings_HasPrefix_f : Tryz.prog.funcs[strings_HasPrefix]? = some Tryz.f115 := Tryz.func115
theorem strings_HasPrefix_cb : Callable Tryz.prog strings_HasPrefix := ⟨⟨_, Tryz.func115, by kernel_rfl, by kernel_rfl⟩⟩
abbrev trade_heads_has : Nat := 116
theorem trade_heads_has_f : Tryz.prog.funcs[trade_heads_has]? = some Tryz.f116 := Tryz.func116
theorem trade_heads_has_cb : Callable Tryz.prog trade_heads_has := ⟨⟨_, Tryz.func116, by kernel_rfl, by kernel_rfl⟩⟩
abbrev ref04_begins : Nat := 117
abbrev slices_Index_ints : Nat := 118
abbrev slices_ContainsFunc_ints : Nat := 119
abbrev trade_list_drop_1 : Nat := 120
abbrev slices_Clonex : Nat := 121
abbrev slices_pdqsortCmpFunc_string : Nat := 122
theorem slices_pdqsortCmpFunc_string_f : Tryz.prog.funcs[slices_pdqsortCmpFunc_string]? = some Tryz.f122 := Tryz.func122
theorem slices_pdqsortCmpFunc_string_cb : Callable Tryz.prog slices_pdqsortCmpFunc_string := ⟨⟨_, Tryz.func122, by kernel_rfl, by kernel_rfl⟩⟩
abbrev math_bits_Len : Nat := 123
theorem math_bits_Len_f : Tryz.prog.funcs[math_bits_Len]? = some Tryz.f123 := Tryz.func123
theorem math_bits_Len_cb : Callable Tryz.prog math_bits_Len := ⟨⟨_, Tryz.func123, by kernel_rfl, by kernel_rfl⟩⟩
abbrev internal_bytealg_CompareString : Nat := 124
theorem internal_bytealg_CompareString_f : Tryz.prog.funcs[internal_bytealg_CompareString]? = some Tryz.f124 := Tryz.func124
theorem internal_bytealg_CompareString_cb : Callable Tryz.prog internal_bytealg_CompareString := ⟨⟨_, Tryz.func124, by kernel_rfl, by kernel_rfl⟩⟩
abbrev slices_Repeat_ints : Nat := 125
theorem slices_Repeat_ints_f : Tryz.prog.funcs[slices_Repeat_ints]? = some Tryz.f125 := Tryz.func125
theorem slices_Repeat_ints_cb : Callable Tryz.prog slices_Repeat_ints := ⟨⟨_, Tryz.func125, by kernel_rfl, by kernel_rfl⟩⟩
abbrev ref04_refers : Nat := 126
abbrev trade_least_int : Nat := 127
abbrev slices_Sort_ints : Nat := 128
abbrev trade_picks_1 : Nat := 129
theorem trade_picks_1_f : Tryz.prog.funcs[trade_picks_1]? = some Tryz.f129 := Tryz.func129
theorem trade_picks_1_cb : Callable Tryz.prog trade_picks_1 := ⟨⟨_, Tryz.func129, by kernel_rfl, by kernel_rfl⟩⟩
abbrev trade_picks_1_1 : Nat := 130
theorem trade_picks_1_1_f : Tryz.prog.funcs[trade_picks_1_1]? = some Tryz.f130 := Tryz.func130
theorem trade_picks_1_1_cb : Callable Tryz.prog trade_picks_1_1 := ⟨⟨_, Tryz.func130, by kernel_rfl, by kernel_rfl⟩⟩
abbrev trade_word : Nat := 131
theorem trade_word_f : Tryz.prog.funcs[trade_word]? = some Tryz.f131 := Tryz.func131
theorem trade_word_cb : Callable Tryz.prog trade_word := ⟨⟨_, Tryz.func131, by kernel_rfl, by kernel_rfl⟩⟩
abbrev slices_ContainsFunc : Nat := 132
theorem slices_ContainsFunc_f : Tryz.prog.funcs[slices_ContainsFunc]? = some Tryz.f132 := Tryz.func132
theorem slices_ContainsFunc_cb : Callable Tryz.prog slices_ContainsFunc := ⟨⟨_, Tryz.func132, by kernel_rfl, by kernel_rfl⟩⟩
abbrev trade_checkClass_1 : Nat := 133
theorem trade_checkClass_1_f : Tryz.prog.funcs[trade_checkClass_1]? = some Tryz.f133 := Tryz.func133
theorem trade_checkClass_1_cb : Callable Tryz.prog trade_checkClass_1 := ⟨⟨_, Tryz.func133, by kernel_rfl, by kernel_rfl⟩⟩
abbrev slices_ContainsFuncx : Nat := 134
theorem slices_ContainsFuncx_f : Tryz.prog.funcs[slices_ContainsFuncx]? = some Tryz.f134 := Tryz.func134
theorem slices_ContainsFuncx_cb : Callable Tryz.prog slices_ContainsFuncx := ⟨⟨_, Tryz.func134, by kernel_rfl, by kernel_rfl⟩⟩
abbrev trade_checkHead_1 : Nat := 135
theorem trade_checkHead_1_f : Tryz.prog.funcs[trade_checkHead_1]? = some Tryz.f135 := Tryz.func135
theorem trade_checkHead_1_cb : Callable Tryz.prog trade_checkHead_1 := ⟨⟨_, Tryz.func135, by kernel_rfl, by kernel_rfl⟩⟩
abbrev internal_stringslite_HasPrefix : Nat := 136
theorem internal_stringslite_HasPrefix_f : Tryz.prog.funcs[internal_stringslite_HasPrefix]? = some Tryz.f136 := Tryz.func136
theorem internal_stringslite_HasPrefix_cb : Callable Tryz.prog internal_stringslite_HasPrefix := ⟨⟨_, Tryz.func136, by kernel_rfl, by kernel_rfl⟩⟩
abbrev slices_IndexFunc_ints : Nat := 137
abbrev slices_insertionSortCmpFunc_string : Nat := 138
theorem slices_insertionSortCmpFunc_string_f : Tryz.prog.funcs[slices_insertionSortCmpFunc_string]? = some Tryz.f138 := Tryz.func138
theorem slices_insertionSortCmpFunc_string_cb : Callable Tryz.prog slices_insertionSortCmpFunc_string := ⟨⟨_, Tryz.func138, by kernel_rfl, by kernel_rfl⟩⟩
abbrev math_bits_Len64 : Nat := 147
theorem math_bits_Len64_f : Tryz.prog.funcs[math_bits_Len64]? = some Tryz.f147 := Tryz.func147
theorem math_bits_Len64_cb : Callable Tryz.prog math_bits_Len64 := ⟨⟨_, Tryz.func147, by kernel_rfl, by kernel_rfl⟩⟩
abbrev math_bits_Mul : Nat := 149
theorem math_bits_Mul_f : Tryz.prog.funcs[math_bits_Mul]? = some Tryz.f149 := Tryz.func149
theorem math_bits_Mul_cb : Callable Tryz.prog math_bits_Mul := ⟨⟨_, Tryz.func149, by kernel_rfl, by kernel_rfl⟩⟩
abbrev slices_Min_ints : Nat := 150
abbrev slices_pdqsortOrdered_int : Nat := 151
abbrev slices_IndexFunc : Nat := 152
theorem slices_IndexFunc_f : Tryz.prog.funcs[slices_IndexFunc]? = some Tryz.f152 := Tryz.func152
theorem slices_IndexFunc_cb : Callable Tryz.prog slices_IndexFunc := ⟨⟨_, Tryz.func152, by kernel_rfl, by kernel_rfl⟩⟩
abbrev slices_IndexFuncx : Nat := 153
theorem slices_IndexFuncx_f : Tryz.prog.funcs[slices_IndexFuncx]? = some Tryz.f153 := Tryz.func153
theorem slices_IndexFuncx_cb : Callable Tryz.prog slices_IndexFuncx := ⟨⟨_, Tryz.func153, by kernel_rfl, by kernel_rfl⟩⟩
abbrev math_bits_Mul64 : Nat := 160
theorem math_bits_Mul64_f : Tryz.prog.funcs[math_bits_Mul64]? = some Tryz.f160 := Tryz.func160
theorem math_bits_Mul64_cb : Callable Tryz.prog math_bits_Mul64 := ⟨⟨_, Tryz.func160, by kernel_rfl, by kernel_rfl⟩⟩
abbrev slices_insertionSortOrdered_int : Nat := 161
abbrev cmp_Less_int : Nat := 167
abbrev cmp_isNaN_int : Nat := 174
abbrev trade_article_next : Nat := 193
theorem trade_article_next_f : Tryz.prog.funcs[trade_article_next]? = some Tryz.f193 := Tryz.func193
theorem trade_article_next_cb : Callable Tryz.prog trade_article_next := ⟨⟨_, Tryz.func193, by kernel_rfl, by kernel_rfl⟩⟩
abbrev trade_pointer_next : Nat := 194
theorem trade_pointer_next_f : Tryz.prog.funcs[trade_pointer_next]? = some Tryz.f194 := Tryz.func194
theorem trade_pointer_next_cb : Callable Tryz.prog trade_pointer_next := ⟨⟨_, Tryz.func194, by kernel_rfl, by kernel_rfl⟩⟩
abbrev trade_index_next : Nat := 195
theorem trade_index_next_f : Tryz.prog.funcs[trade_index_next]? = some Tryz.f195 := Tryz.func195
theorem trade_index_next_cb : Callable Tryz.prog trade_index_next := ⟨⟨_, Tryz.func195, by kernel_rfl, by kernel_rfl⟩⟩
end F
namespace T
abbrev int : Nat := 3
theorem u_int : Tryz.prog.underlying int = some (.int .i64) := Tryz.underlying3
theorem sz_int : Sz Tryz.prog int 1 := by unfold Sz; kernel_rfl
theorem cell_int : NoR Tryz.prog int := ⟨_, Tryz.underlying3, rfl⟩
abbrev bool : Nat := 4
abbrev u8 : Nat := 5
theorem u_u8 : Tryz.prog.underlying u8 = some (.int .u8) := Tryz.underlying5
abbrev string : Nat := 9
theorem u_string : Tryz.prog.underlying string = some (.string) := Tryz.underlying9
theorem sz_string : Sz Tryz.prog string 1 := by unfold Sz; kernel_rfl
theorem cell_string : NoR Tryz.prog string := ⟨_, Tryz.underlying9, rfl⟩
abbrev int32 : Nat := 21
abbrev L_api_Class : Nat := 22
theorem u_L_api_Class : Tryz.prog.underlying L_api_Class = some (.slice 78) := Tryz.underlying22
theorem sz_L_api_Class : Sz Tryz.prog L_api_Class 1 := by unfold Sz; kernel_rfl
theorem cell_L_api_Class : NoR Tryz.prog L_api_Class := ⟨_, Tryz.underlying22, rfl⟩
theorem el_L_api_Class : ElT Tryz.prog L_api_Class 78 2 24 := ElT.of (z := (.agg #[(.string ⟨#[]⟩), (.int .i64 0)])) Tryz.underlying22 (by kernel_rfl) rfl (by decide)
abbrev L_api_Head : Nat := 23
theorem u_L_api_Head : Tryz.prog.underlying L_api_Head = some (.slice 44) := Tryz.underlying23
theorem sz_L_api_Head : Sz Tryz.prog L_api_Head 1 := by unfold Sz; kernel_rfl
theorem cell_L_api_Head : NoR Tryz.prog L_api_Head := ⟨_, Tryz.underlying23, rfl⟩
theorem el_L_api_Head : ElT Tryz.prog L_api_Head 44 4 56 := ElT.of (z := (.agg #[(.string ⟨#[]⟩), (.int .i64 0), (.int .i64 0), (.slice none 0 0)])) Tryz.underlying23 (by kernel_rfl) rfl (by decide)
abbrev api_Trades : Nat := 25
theorem sz_api_Trades : Sz Tryz.prog api_Trades 2 := by unfold Sz; kernel_rfl
theorem row_api_Trades : IsR Tryz.prog api_Trades := ⟨_, Tryz.underlying25, rfl⟩
abbrev ints : Nat := 26
theorem u_ints : Tryz.prog.underlying ints = some (.slice 3) := Tryz.underlying26
theorem sz_ints : Sz Tryz.prog ints 1 := by unfold Sz; kernel_rfl
theorem cell_ints : NoR Tryz.prog ints := ⟨_, Tryz.underlying26, rfl⟩
theorem el_ints : ElT Tryz.prog ints 3 1 8 := ElT.of (z := (.int .i64 0)) Tryz.underlying26 (by kernel_rfl) rfl (by decide)
abbrev P_wayzgoosekit_Dice : Nat := 29
abbrev L_api_Trades : Nat := 32
abbrev intss : Nat := 36
theorem u_intss : Tryz.prog.underlying intss = some (.slice 26) := Tryz.underlying36
theorem sz_intss : Sz Tryz.prog intss 1 := by unfold Sz; kernel_rfl
theorem cell_intss : NoR Tryz.prog intss := ⟨_, Tryz.underlying36, rfl⟩
theorem el_intss : ElT Tryz.prog intss 26 1 24 := ElT.of (z := (.slice none 0 0)) Tryz.underlying36 (by kernel_rfl) rfl (by decide)
abbrev api_Errno : Nat := 37
abbrev api_Head : Nat := 44
theorem sz_api_Head : Sz Tryz.prog api_Head 4 := by unfold Sz; kernel_rfl
theorem row_api_Head : IsR Tryz.prog api_Head := ⟨_, Tryz.underlying44, rfl⟩
abbrev strs : Nat := 53
theorem u_strs : Tryz.prog.underlying strs = some (.slice 9) := Tryz.underlying53
theorem el_strs : ElT Tryz.prog strs 9 1 16 := ElT.of (z := (.string ⟨#[]⟩)) Tryz.underlying53 (by kernel_rfl) rfl (by decide)
abbrev L_api_Move : Nat := 61
theorem u_L_api_Move : Tryz.prog.underlying L_api_Move = some (.slice 81) := Tryz.underlying61
theorem el_L_api_Move : ElT Tryz.prog L_api_Move 81 2 24 := ElT.of (z := (.agg #[(.string ⟨#[]⟩), (.int .i64 0)])) Tryz.underlying61 (by kernel_rfl) rfl (by decide)
abbrev api_Class : Nat := 78
theorem sz_api_Class : Sz Tryz.prog api_Class 2 := by unfold Sz; kernel_rfl
theorem row_api_Class : IsR Tryz.prog api_Class := ⟨_, Tryz.underlying78, rfl⟩
abbrev api_Move : Nat := 81
theorem sz_api_Move : Sz Tryz.prog api_Move 2 := by unfold Sz; kernel_rfl
theorem row_api_Move : IsR Tryz.prog api_Move := ⟨_, Tryz.underlying81, rfl⟩
abbrev u64 : Nat := 82
theorem u_u64 : Tryz.prog.underlying u64 = some (.int .u64) := Tryz.underlying82
theorem sz_u64 : Sz Tryz.prog u64 1 := by unfold Sz; kernel_rfl
theorem cell_u64 : NoR Tryz.prog u64 := ⟨_, Tryz.underlying82, rfl⟩
abbrev wayzgoosekit_Dice : Nat := 84
abbrev func_int_bool : Nat := 88
abbrev uint : Nat := 90
theorem u_uint : Tryz.prog.underlying uint = some (.int .u64) := Tryz.underlying90
abbrev P_trade_list : Nat := 92
abbrev trade_classes : Nat := 105
theorem sz_trade_classes : Sz Tryz.prog trade_classes 1 := by unfold Sz; kernel_rfl
theorem cell_trade_classes : NoR Tryz.prog trade_classes := ⟨_, Tryz.underlying105, rfl⟩
abbrev L_trade_classes : Nat := 106
theorem u_L_trade_classes : Tryz.prog.underlying L_trade_classes = some (.slice 105) := Tryz.underlying106
theorem sz_L_trade_classes : Sz Tryz.prog L_trade_classes 1 := by unfold Sz; kernel_rfl
theorem cell_L_trade_classes : NoR Tryz.prog L_trade_classes := ⟨_, Tryz.underlying106, rfl⟩
theorem el_L_trade_classes : ElT Tryz.prog L_trade_classes 105 1 1 := ElT.of (z := (.int .u8 0)) Tryz.underlying106 (by kernel_rfl) rfl (by decide)
abbrev L_trade_kind : Nat := 107
theorem u_L_trade_kind : Tryz.prog.underlying L_trade_kind = some (.slice 112) := Tryz.underlying107
theorem sz_L_trade_kind : Sz Tryz.prog L_trade_kind 1 := by unfold Sz; kernel_rfl
theorem cell_L_trade_kind : NoR Tryz.prog L_trade_kind := ⟨_, Tryz.underlying107, rfl⟩
theorem el_L_trade_kind : ElT Tryz.prog L_trade_kind 112 1 16 := ElT.of (z := .nilIface) Tryz.underlying107 (by kernel_rfl) rfl (by decide)
abbrev trade_list : Nat := 109
abbrev trade_kind : Nat := 112
theorem sz_trade_kind : Sz Tryz.prog trade_kind 1 := by unfold Sz; kernel_rfl
theorem cell_trade_kind : NoR Tryz.prog trade_kind := ⟨_, Tryz.underlying112, rfl⟩
abbrev trade_article : Nat := 114
theorem sz_trade_article : Sz Tryz.prog trade_article 2 := by unfold Sz; kernel_rfl
abbrev L_bool : Nat := 122
abbrev func_string_string_int : Nat := 126
abbrev trade_heads : Nat := 140
theorem u_trade_heads : Tryz.prog.underlying trade_heads = some (.int .u8) := Tryz.underlying140
theorem sz_trade_heads : Sz Tryz.prog trade_heads 1 := by unfold Sz; kernel_rfl
theorem cell_trade_heads : NoR Tryz.prog trade_heads := ⟨_, Tryz.underlying140, rfl⟩
abbrev trade_nets : Nat := 143
theorem u_trade_nets : Tryz.prog.underlying trade_nets = some (.array 6 140) := Tryz.underlying143
theorem sz_trade_nets : Sz Tryz.prog trade_nets 6 := by unfold Sz; kernel_rfl
theorem row_trade_nets : IsR Tryz.prog trade_nets := ⟨_, Tryz.underlying143, rfl⟩
abbrev L_trade_ref : Nat := 145
theorem u_L_trade_ref : Tryz.prog.underlying L_trade_ref = some (.slice 148) := Tryz.underlying145
theorem cell_L_trade_ref : NoR Tryz.prog L_trade_ref := ⟨_, Tryz.underlying145, rfl⟩
theorem el_L_trade_ref : ElT Tryz.prog L_trade_ref 148 2 16 := ElT.of (z := (.agg #[(.int .i64 0), (.int .i64 0)])) Tryz.underlying145 (by kernel_rfl) rfl (by decide)
abbrev trade_ref : Nat := 148
theorem sz_trade_ref : Sz Tryz.prog trade_ref 2 := by unfold Sz; kernel_rfl
theorem row_trade_ref : IsR Tryz.prog trade_ref := ⟨_, Tryz.underlying148, rfl⟩
abbrev func_L_trade_ref_bool : Nat := 151
theorem sz_func_L_trade_ref_bool : Sz Tryz.prog func_L_trade_ref_bool 1 := by unfold Sz; kernel_rfl
theorem cell_func_L_trade_ref_bool : NoR Tryz.prog func_L_trade_ref_bool := ⟨_, Tryz.underlying151, rfl⟩
abbrev trade_pointer : Nat := 157
theorem sz_trade_pointer : Sz Tryz.prog trade_pointer 1 := by unfold Sz; kernel_rfl
abbrev trade_index : Nat := 159
abbrev chan_int : Nat := 168
abbrev map_trade_ref_bool : Nat := 174
theorem u_map_trade_ref_bool : Tryz.prog.underlying map_trade_ref_bool = some (.map 148 4) := Tryz.underlying174
abbrev func_L_trade_ref_int_bool : Nat := 175
theorem sz_func_L_trade_ref_int_bool : Sz Tryz.prog func_L_trade_ref_int_bool 1 := by unfold Sz; kernel_rfl
theorem cell_func_L_trade_ref_int_bool : NoR Tryz.prog func_L_trade_ref_int_bool := ⟨_, Tryz.underlying175, rfl⟩
abbrev func_api_Class_bool : Nat := 177
abbrev func_api_Head_bool : Nat := 179
abbrev slices_sortedHint : Nat := 182
abbrev uint32 : Nat := 190
abbrev slices_xorshift : Nat := 197
abbrev P_int : Nat := 200
theorem fa_api_Trades_0 (p : Addr) (w : World) : (Instr.fieldAt 25 (.pointer (some p)) 0).run Tryz.prog w = .ok (.pointer (some (p.add 0))) w := by kernel_rfl
theorem fa_api_Trades_1 (p : Addr) (w : World) : (Instr.fieldAt 25 (.pointer (some p)) 1).run Tryz.prog w = .ok (.pointer (some (p.add 1))) w := by kernel_rfl
theorem fa_api_Head_0 (p : Addr) (w : World) : (Instr.fieldAt 44 (.pointer (some p)) 0).run Tryz.prog w = .ok (.pointer (some (p.add 0))) w := by kernel_rfl
theorem fa_api_Head_1 (p : Addr) (w : World) : (Instr.fieldAt 44 (.pointer (some p)) 1).run Tryz.prog w = .ok (.pointer (some (p.add 1))) w := by kernel_rfl
theorem fa_api_Head_2 (p : Addr) (w : World) : (Instr.fieldAt 44 (.pointer (some p)) 2).run Tryz.prog w = .ok (.pointer (some (p.add 2))) w := by kernel_rfl
theorem fa_api_Head_3 (p : Addr) (w : World) : (Instr.fieldAt 44 (.pointer (some p)) 3).run Tryz.prog w = .ok (.pointer (some (p.add 3))) w := by kernel_rfl
theorem fa_api_Class_0 (p : Addr) (w : World) : (Instr.fieldAt 78 (.pointer (some p)) 0).run Tryz.prog w = .ok (.pointer (some (p.add 0))) w := by kernel_rfl
theorem fa_api_Class_1 (p : Addr) (w : World) : (Instr.fieldAt 78 (.pointer (some p)) 1).run Tryz.prog w = .ok (.pointer (some (p.add 1))) w := by kernel_rfl
theorem fa_wayzgoosekit_Dice_0 (p : Addr) (w : World) : (Instr.fieldAt 84 (.pointer (some p)) 0).run Tryz.prog w = .ok (.pointer (some (p.add 0))) w := by kernel_rfl
theorem fa_wayzgoosekit_Dice_1 (p : Addr) (w : World) : (Instr.fieldAt 84 (.pointer (some p)) 1).run Tryz.prog w = .ok (.pointer (some (p.add 1))) w := by kernel_rfl
theorem fa_wayzgoosekit_Dice_2 (p : Addr) (w : World) : (Instr.fieldAt 84 (.pointer (some p)) 2).run Tryz.prog w = .ok (.pointer (some (p.add 2))) w := by kernel_rfl
theorem fa_trade_list_0 (p : Addr) (w : World) : (Instr.fieldAt 109 (.pointer (some p)) 0).run Tryz.prog w = .ok (.pointer (some (p.add 0))) w := by kernel_rfl
theorem fa_trade_list_1 (p : Addr) (w : World) : (Instr.fieldAt 109 (.pointer (some p)) 1).run Tryz.prog w = .ok (.pointer (some (p.add 2))) w := by kernel_rfl
theorem fa_trade_list_2 (p : Addr) (w : World) : (Instr.fieldAt 109 (.pointer (some p)) 2).run Tryz.prog w = .ok (.pointer (some (p.add 3))) w := by kernel_rfl
theorem fa_trade_article_1 (p : Addr) (w : World) : (Instr.fieldAt 114 (.pointer (some p)) 1).run Tryz.prog w = .ok (.pointer (some (p.add 1))) w := by kernel_rfl
theorem fa_trade_ref_0 (p : Addr) (w : World) : (Instr.fieldAt 148 (.pointer (some p)) 0).run Tryz.prog w = .ok (.pointer (some (p.add 0))) w := by kernel_rfl
theorem fa_trade_ref_1 (p : Addr) (w : World) : (Instr.fieldAt 148 (.pointer (some p)) 1).run Tryz.prog w = .ok (.pointer (some (p.add 1))) w := by kernel_rfl
theorem fa_trade_pointer_0 (p : Addr) (w : World) : (Instr.fieldAt 157 (.pointer (some p)) 0).run Tryz.prog w = .ok (.pointer (some (p.add 0))) w := by kernel_rfl
theorem fa_trade_index_0 (p : Addr) (w : World) : (Instr.fieldAt 159 (.pointer (some p)) 0).run Tryz.prog w = .ok (.pointer (some (p.add 0))) w := by kernel_rfl
theorem al_api_Trades (w : World) : (Instr.alloc 25 true (.tuple #[])).run Tryz.prog w = .ok (.pointer (some ⟨w.heap.size, 0, none⟩)) (w.alloc (.cells #[(.slice none 0 0), (.slice none 0 0)] 25 (0, 0))) := by kernel_rfl
theorem al_intss (w : World) : (Instr.alloc 36 true (.tuple #[])).run Tryz.prog w = .ok (.pointer (some ⟨w.heap.size, 0, none⟩)) (w.alloc (.cells #[(.slice none 0 0)] 36 (0, 0))) := by kernel_rfl
theorem al_api_Head (w : World) : (Instr.alloc 44 true (.tuple #[])).run Tryz.prog w = .ok (.pointer (some ⟨w.heap.size, 0, none⟩)) (w.alloc (.cells #[(.string ⟨#[]⟩), (.int .i64 0), (.int .i64 0), (.slice none 0 0)] 44 (0, 0))) := by kernel_rfl
theorem al_api_Class (w : World) : (Instr.alloc 78 true (.tuple #[])).run Tryz.prog w = .ok (.pointer (some ⟨w.heap.size, 0, none⟩)) (w.alloc (.cells #[(.string ⟨#[]⟩), (.int .i64 0)] 78 (0, 0))) := by kernel_rfl
theorem al_trade_article (w : World) : (Instr.alloc 114 true (.tuple #[])).run Tryz.prog w = .ok (.pointer (some ⟨w.heap.size, 0, none⟩)) (w.alloc (.cells #[(.int .i64 0), (.slice none 0 0)] 114 (0, 0))) := by kernel_rfl
theorem al_trade_heads (w : World) : (Instr.alloc 140 true (.tuple #[])).run Tryz.prog w = .ok (.pointer (some ⟨w.heap.size, 0, none⟩)) (w.alloc (.cells #[(.int .u8 0)] 140 (0, 0))) := by kernel_rfl
theorem al_trade_nets (w : World) : (Instr.alloc 143 true (.tuple #[])).run Tryz.prog w = .ok (.pointer (some ⟨w.heap.size, 0, none⟩)) (w.alloc (.cells #[(.int .u8 0), (.int .u8 0), (.int .u8 0), (.int .u8 0), (.int .u8 0), (.int .u8 0)] 143 (0, 0))) := by kernel_rfl
theorem al_trade_ref (w : World) : (Instr.alloc 148 true (.tuple #[])).run Tryz.prog w = .ok (.pointer (some ⟨w.heap.size, 0, none⟩)) (w.alloc (.cells #[(.int .i64 0), (.int .i64 0)] 148 (0, 0))) := by kernel_rfl
theorem al_func_L_trade_ref_bool (w : World) : (Instr.alloc 151 true (.tuple #[])).run Tryz.prog w = .ok (.pointer (some ⟨w.heap.size, 0, none⟩)) (w.alloc (.cells #[.nilFunc] 151 (0, 0))) := by kernel_rfl
theorem al_trade_pointer (w : World) : (Instr.alloc 157 true (.tuple #[])).run Tryz.prog w = .ok (.pointer (some ⟨w.heap.size, 0, none⟩)) (w.alloc (.cells #[(.int .i64 0)] 157 (0, 0))) := by kernel_rfl
theorem al_func_L_trade_ref_int_bool (w : World) : (Instr.alloc 175 true (.tuple #[])).run Tryz.prog w = .ok (.pointer (some ⟨w.heap.size, 0, none⟩)) (w.alloc (.cells #[.nilFunc] 175 (0, 0))) := by kernel_rfl
theorem bd_api_Trades_0_1 (x1 : Option Addr) (x2 : Nat) (x3 : Nat) (x4 : Option Addr) (x5 : Nat) (x6 : Nat) (w : World) : (Instr.build 25 #[(0, (.slice x1 x2 x3)), (1, (.slice x4 x5 x6))]).run Tryz.prog w = .ok (.agg #[(.slice x1 x2 x3), (.slice x4 x5 x6)]) w := by kernel_rfl
theorem bd_api_Head_0_1_2 (x1 : ByteArray) (x2 : Int) (x3 : Int) (w : World) : (Instr.build 44 #[(0, (.string x1)), (1, (.int .i64 x2)), (2, (.int .i64 x3))]).run Tryz.prog w = .ok (.agg #[(.string x1), (.int .i64 x2), (.int .i64 x3), (.slice none 0 0)]) w := by kernel_rfl
theorem bd_api_Head_0_1_2_3 (x1 : ByteArray) (x2 : Int) (x3 : Int) (x4 : Option Addr) (x5 : Nat) (x6 : Nat) (w : World) : (Instr.build 44 #[(0, (.string x1)), (1, (.int .i64 x2)), (2, (.int .i64 x3)), (3, (.slice x4 x5 x6))]).run Tryz.prog w = .ok (.agg #[(.string x1), (.int .i64 x2), (.int .i64 x3), (.slice x4 x5 x6)]) w := by kernel_rfl
theorem bd_api_Class_0 (x1 : ByteArray) (w : World) : (Instr.build 78 #[(0, (.string x1))]).run Tryz.prog w = .ok (.agg #[(.string x1), (.int .i64 0)]) w := by kernel_rfl
theorem bd_api_Class_0_1 (x1 : ByteArray) (x2 : Int) (w : World) : (Instr.build 78 #[(0, (.string x1)), (1, (.int .i64 x2))]).run Tryz.prog w = .ok (.agg #[(.string x1), (.int .i64 x2)]) w := by kernel_rfl
theorem bd_api_Move_0_1 (x1 : ByteArray) (x2 : Int) (w : World) : (Instr.build 81 #[(0, (.string x1)), (1, (.int .i64 x2))]).run Tryz.prog w = .ok (.agg #[(.string x1), (.int .i64 x2)]) w := by kernel_rfl
theorem bd_wayzgoosekit_Dice_0_2 (x1 : Option Addr) (x2 : Nat) (x3 : Nat) (x4 : Int) (w : World) : (Instr.build 84 #[(0, (.slice x1 x2 x3)), (2, (.int .u64 x4))]).run Tryz.prog w = .ok (.agg #[(.slice x1 x2 x3), (.int .i64 0), (.int .u64 x4)]) w := by kernel_rfl
theorem bd_trade_list_0 (x1 : Option Addr) (x2 : Nat) (x3 : Nat) (x4 : Option Addr) (x5 : Nat) (x6 : Nat) (w : World) : (Instr.build 109 #[(0, (.agg #[(.slice x1 x2 x3), (.slice x4 x5 x6)]))]).run Tryz.prog w = .ok (.agg #[(.slice x1 x2 x3), (.slice x4 x5 x6), (.slice none 0 0), (.slice none 0 0)]) w := by kernel_rfl
theorem bd_trade_article_0_1 (x1 : Int) (x2 : Option Addr) (x3 : Nat) (x4 : Nat) (w : World) : (Instr.build 114 #[(0, (.int .i64 x1)), (1, (.slice x2 x3 x4))]).run Tryz.prog w = .ok (.agg #[(.int .i64 x1), (.slice x2 x3 x4)]) w := by kernel_rfl
theorem bd_trade_ref_0_1 (x1 : Int) (x2 : Int) (w : World) : (Instr.build 148 #[(0, (.int .i64 x1)), (1, (.int .i64 x2))]).run Tryz.prog w = .ok (.agg #[(.int .i64 x1), (.int .i64 x2)]) w := by kernel_rfl
theorem bd_trade_pointer_0 (x1 : Int) (w : World) : (Instr.build 157 #[(0, (.int .i64 x1))]).run Tryz.prog w = .ok (.agg #[(.int .i64 x1)]) w := by kernel_rfl
theorem bd_trade_index_0 (x1 : Option Addr) (x2 : Nat) (x3 : Nat) (w : World) : (Instr.build 159 #[(0, (.slice x1 x2 x3))]).run Tryz.prog w = .ok (.agg #[(.slice x1 x2 x3)]) w := by kernel_rfl
theorem bs_L_api_Class_0  (w : World) : (Instr.buildSlice 22 0 #[]).run Tryz.prog w = .ok (.slice (some ⟨w.heap.size, 0, none⟩) 0 0) (w.alloc (.cells #[] 78 (0, 0))) := by kernel_rfl
theorem bs_L_api_Class_1 (x1 : ByteArray) (x2 : Int) (w : World) : (Instr.buildSlice 22 1 #[(0, (.agg #[(.string x1), (.int .i64 x2)]))]).run Tryz.prog w = .ok (.slice (some ⟨w.heap.size, 0, none⟩) 1 1) (w.alloc (.cells #[(.string x1), (.int .i64 x2)] 78 (0, 0))) := by kernel_rfl
theorem bs_L_api_Class_4 (x1 : ByteArray) (x2 : Int) (x3 : ByteArray) (x4 : Int) (x5 : ByteArray) (x6 : Int) (x7 : ByteArray) (x8 : Int) (w : World) : (Instr.buildSlice 22 4 #[(0, (.agg #[(.string x1), (.int .i64 x2)])), (1, (.agg #[(.string x3), (.int .i64 x4)])), (2, (.agg #[(.string x5), (.int .i64 x6)])), (3, (.agg #[(.string x7), (.int .i64 x8)]))]).run Tryz.prog w = .ok (.slice (some ⟨w.heap.size, 0, none⟩) 4 4) (w.alloc (.cells #[(.string x1), (.int .i64 x2), (.string x3), (.int .i64 x4), (.string x5), (.int .i64 x6), (.string x7), (.int .i64 x8)] 78 (0, 0))) := by kernel_rfl
theorem bs_L_api_Head_0  (w : World) : (Instr.buildSlice 23 0 #[]).run Tryz.prog w = .ok (.slice (some ⟨w.heap.size, 0, none⟩) 0 0) (w.alloc (.cells #[] 44 (0, 0))) := by kernel_rfl
theorem bs_L_api_Head_1 (x1 : ByteArray) (x2 : Int) (x3 : Int) (x4 : Option Addr) (x5 : Nat) (x6 : Nat) (w : World) : (Instr.buildSlice 23 1 #[(0, (.agg #[(.string x1), (.int .i64 x2), (.int .i64 x3), (.slice x4 x5 x6)]))]).run Tryz.prog w = .ok (.slice (some ⟨w.heap.size, 0, none⟩) 1 1) (w.alloc (.cells #[(.string x1), (.int .i64 x2), (.int .i64 x3), (.slice x4 x5 x6)] 44 (0, 0))) := by kernel_rfl
theorem bs_L_api_Head_6 (x1 : ByteArray) (x2 : Int) (x3 : Int) (x4 : Option Addr) (x5 : Nat) (x6 : Nat) (x7 : ByteArray) (x8 : Int) (x9 : Int) (x10 : Option Addr) (x11 : Nat) (x12 : Nat) (x13 : ByteArray) (x14 : Int) (x15 : Int) (x16 : Option Addr) (x17 : Nat) (x18 : Nat) (x19 : ByteArray) (x20 : Int) (x21 : Int) (x22 : Option Addr) (x23 : Nat) (x24 : Nat) (x25 : ByteArray) (x26 : Int) (x27 : Int) (x28 : Option Addr) (x29 : Nat) (x30 : Nat) (x31 : ByteArray) (x32 : Int) (x33 : Int) (x34 : Option Addr) (x35 : Nat) (x36 : Nat) (w : World) : (Instr.buildSlice 23 6 #[(0, (.agg #[(.string x1), (.int .i64 x2), (.int .i64 x3), (.slice x4 x5 x6)])), (1, (.agg #[(.string x7), (.int .i64 x8), (.int .i64 x9), (.slice x10 x11 x12)])), (2, (.agg #[(.string x13), (.int .i64 x14), (.int .i64 x15), (.slice x16 x17 x18)])), (3, (.agg #[(.string x19), (.int .i64 x20), (.int .i64 x21), (.slice x22 x23 x24)])), (4, (.agg #[(.string x25), (.int .i64 x26), (.int .i64 x27), (.slice x28 x29 x30)])), (5, (.agg #[(.string x31), (.int .i64 x32), (.int .i64 x33), (.slice x34 x35 x36)]))]).run Tryz.prog w = .ok (.slice (some ⟨w.heap.size, 0, none⟩) 6 6) (w.alloc (.cells #[(.string x1), (.int .i64 x2), (.int .i64 x3), (.slice x4 x5 x6), (.string x7), (.int .i64 x8), (.int .i64 x9), (.slice x10 x11 x12), (.string x13), (.int .i64 x14), (.int .i64 x15), (.slice x16 x17 x18), (.string x19), (.int .i64 x20), (.int .i64 x21), (.slice x22 x23 x24), (.string x25), (.int .i64 x26), (.int .i64 x27), (.slice x28 x29 x30), (.string x31), (.int .i64 x32), (.int .i64 x33), (.slice x34 x35 x36)] 44 (0, 0))) := by kernel_rfl
theorem bs_ints_0  (w : World) : (Instr.buildSlice 26 0 #[]).run Tryz.prog w = .ok (.slice (some ⟨w.heap.size, 0, none⟩) 0 0) (w.alloc (.cells #[] 3 (0, 0))) := by kernel_rfl
theorem bs_ints_1 (x1 : Int) (w : World) : (Instr.buildSlice 26 1 #[(0, (.int .i64 x1))]).run Tryz.prog w = .ok (.slice (some ⟨w.heap.size, 0, none⟩) 1 1) (w.alloc (.cells #[(.int .i64 x1)] 3 (0, 0))) := by kernel_rfl
theorem bs_ints_2 (x1 : Int) (x2 : Int) (w : World) : (Instr.buildSlice 26 2 #[(0, (.int .i64 x1)), (1, (.int .i64 x2))]).run Tryz.prog w = .ok (.slice (some ⟨w.heap.size, 0, none⟩) 2 2) (w.alloc (.cells #[(.int .i64 x1), (.int .i64 x2)] 3 (0, 0))) := by kernel_rfl
theorem bs_intss_1 (x1 : Option Addr) (x2 : Nat) (x3 : Nat) (w : World) : (Instr.buildSlice 36 1 #[(0, (.slice x1 x2 x3))]).run Tryz.prog w = .ok (.slice (some ⟨w.heap.size, 0, none⟩) 1 1) (w.alloc (.cells #[(.slice x1 x2 x3)] 26 (0, 0))) := by kernel_rfl
theorem bs_intss_2 (x1 : Option Addr) (x2 : Nat) (x3 : Nat) (x4 : Option Addr) (x5 : Nat) (x6 : Nat) (w : World) : (Instr.buildSlice 36 2 #[(0, (.slice x1 x2 x3)), (1, (.slice x4 x5 x6))]).run Tryz.prog w = .ok (.slice (some ⟨w.heap.size, 0, none⟩) 2 2) (w.alloc (.cells #[(.slice x1 x2 x3), (.slice x4 x5 x6)] 26 (0, 0))) := by kernel_rfl
theorem bs_strs_1 (x1 : ByteArray) (w : World) : (Instr.buildSlice 53 1 #[(0, (.string x1))]).run Tryz.prog w = .ok (.slice (some ⟨w.heap.size, 0, none⟩) 1 1) (w.alloc (.cells #[(.string x1)] 9 (0, 0))) := by kernel_rfl
theorem bs_strs_9 (x1 : ByteArray) (x2 : ByteArray) (x3 : ByteArray) (x4 : ByteArray) (x5 : ByteArray) (x6 : ByteArray) (x7 : ByteArray) (x8 : ByteArray) (x9 : ByteArray) (w : World) : (Instr.buildSlice 53 9 #[(0, (.string x1)), (1, (.string x2)), (2, (.string x3)), (3, (.string x4)), (4, (.string x5)), (5, (.string x6)), (6, (.string x7)), (7, (.string x8)), (8, (.string x9))]).run Tryz.prog w = .ok (.slice (some ⟨w.heap.size, 0, none⟩) 9 9) (w.alloc (.cells #[(.string x1), (.string x2), (.string x3), (.string x4), (.string x5), (.string x6), (.string x7), (.string x8), (.string x9)] 9 (0, 0))) := by kernel_rfl
theorem bs_strs_16 (x1 : ByteArray) (x2 : ByteArray) (x3 : ByteArray) (x4 : ByteArray) (x5 : ByteArray) (x6 : ByteArray) (x7 : ByteArray) (x8 : ByteArray) (x9 : ByteArray) (x10 : ByteArray) (x11 : ByteArray) (x12 : ByteArray) (x13 : ByteArray) (x14 : ByteArray) (x15 : ByteArray) (x16 : ByteArray) (w : World) : (Instr.buildSlice 53 16 #[(0, (.string x1)), (1, (.string x2)), (2, (.string x3)), (3, (.string x4)), (4, (.string x5)), (5, (.string x6)), (6, (.string x7)), (7, (.string x8)), (8, (.string x9)), (9, (.string x10)), (10, (.string x11)), (11, (.string x12)), (12, (.string x13)), (13, (.string x14)), (14, (.string x15)), (15, (.string x16))]).run Tryz.prog w = .ok (.slice (some ⟨w.heap.size, 0, none⟩) 16 16) (w.alloc (.cells #[(.string x1), (.string x2), (.string x3), (.string x4), (.string x5), (.string x6), (.string x7), (.string x8), (.string x9), (.string x10), (.string x11), (.string x12), (.string x13), (.string x14), (.string x15), (.string x16)] 9 (0, 0))) := by kernel_rfl
theorem bs_L_api_Move_1 (x1 : ByteArray) (x2 : Int) (w : World) : (Instr.buildSlice 61 1 #[(0, (.agg #[(.string x1), (.int .i64 x2)]))]).run Tryz.prog w = .ok (.slice (some ⟨w.heap.size, 0, none⟩) 1 1) (w.alloc (.cells #[(.string x1), (.int .i64 x2)] 81 (0, 0))) := by kernel_rfl
theorem bs_L_api_Move_3 (x1 : ByteArray) (x2 : Int) (x3 : ByteArray) (x4 : Int) (x5 : ByteArray) (x6 : Int) (w : World) : (Instr.buildSlice 61 3 #[(0, (.agg #[(.string x1), (.int .i64 x2)])), (1, (.agg #[(.string x3), (.int .i64 x4)])), (2, (.agg #[(.string x5), (.int .i64 x6)]))]).run Tryz.prog w = .ok (.slice (some ⟨w.heap.size, 0, none⟩) 3 3) (w.alloc (.cells #[(.string x1), (.int .i64 x2), (.string x3), (.int .i64 x4), (.string x5), (.int .i64 x6)] 81 (0, 0))) := by kernel_rfl
theorem bs_L_trade_classes_1 (x1 : Int) (w : World) : (Instr.buildSlice 106 1 #[(0, (.int .u8 x1))]).run Tryz.prog w = .ok (.slice (some ⟨w.heap.size, 0, none⟩) 1 1) (w.alloc (.cells #[(.int .u8 x1)] 105 (0, 0))) := by kernel_rfl
theorem bs_L_trade_kind_1 (x1 : Nat) (x2 : Value) (w : World) : (Instr.buildSlice 107 1 #[(0, (.iface x1 x2))]).run Tryz.prog w = .ok (.slice (some ⟨w.heap.size, 0, none⟩) 1 1) (w.alloc (.cells #[(.iface x1 x2)] 112 (0, 0))) := by kernel_rfl
theorem bs_L_trade_ref_1 (x1 : Int) (x2 : Int) (w : World) : (Instr.buildSlice 145 1 #[(0, (.agg #[(.int .i64 x1), (.int .i64 x2)]))]).run Tryz.prog w = .ok (.slice (some ⟨w.heap.size, 0, none⟩) 1 1) (w.alloc (.cells #[(.int .i64 x1), (.int .i64 x2)] 148 (0, 0))) := by kernel_rfl
theorem eqi_api_Move (a0 b0 : Str) (a1 b1 : Int) (w : World) : (Op.equalIn 10000 81 (.agg #[.string ⟨(a0 : Str).toArray⟩, .int .i64 a1]) (.agg #[.string ⟨(b0 : Str).toArray⟩, .int .i64 b1])).run Tryz.prog w = .ok (decide ((a0, a1) = (b0, b1))) w := by
  rw [run_equalIn_agg w 9999 81 _ _ (by simp only [Program.fieldsOf, Tryz.underlying81]) (by kernel_rfl)]
  simp only [Program.fieldsOf, Tryz.underlying81]
  by_cases h0 : a0 = b0 <;> by_cases h1 : a1 = b1 <;>
    simp [Op.eqFields, part, isAgg, run_equalIn_int _ 9998 3 .i64 .i64 _ _ Tryz.underlying3, run_equalIn_string _ 9998 9 _ _ Tryz.underlying9, run_underlying Tryz.underlying3, run_underlying Tryz.underlying9, h0, h1]
theorem neq_api_Move (a0 b0 : Str) (a1 b1 : Int) (w : World) : (binOp .neq 81 (.agg #[.string ⟨(a0 : Str).toArray⟩, .int .i64 a1]) (.agg #[.string ⟨(b0 : Str).toArray⟩, .int .i64 b1])).run Tryz.prog w = .ok (.bool (decide (¬ (a0, a1) = (b0, b1)))) w := by rw [run_neq_struct, eqi_api_Move, decide_not]; rfl
theorem eqg_api_Move (op : BinOp) (x y : Operand) (xs ys : Array Value) (w : World) : (eqGuard op 81 x y (.agg xs) (.agg ys)).run Tryz.prog w = .ok () w := run_eqGuard_agg w op 81 x y xs ys (by kernel_rfl)
theorem eqi_trade_ref (a0 b0 : Int) (a1 b1 : Int) (w : World) : (Op.equalIn 10000 148 (.agg #[.int .i64 a0, .int .i64 a1]) (.agg #[.int .i64 b0, .int .i64 b1])).run Tryz.prog w = .ok (decide ((a0, a1) = (b0, b1))) w := by
  rw [run_equalIn_agg w 9999 148 _ _ (by simp only [Program.fieldsOf, Tryz.underlying148]) (by kernel_rfl)]
  simp only [Program.fieldsOf, Tryz.underlying148]
  by_cases h0 : a0 = b0 <;> by_cases h1 : a1 = b1 <;>
    simp [Op.eqFields, part, isAgg, run_equalIn_int _ 9998 3 .i64 .i64 _ _ Tryz.underlying3, run_underlying Tryz.underlying3, h0, h1]
theorem neq_trade_ref (a0 b0 : Int) (a1 b1 : Int) (w : World) : (binOp .neq 148 (.agg #[.int .i64 a0, .int .i64 a1]) (.agg #[.int .i64 b0, .int .i64 b1])).run Tryz.prog w = .ok (.bool (decide (¬ (a0, a1) = (b0, b1)))) w := by rw [run_neq_struct, eqi_trade_ref, decide_not]; rfl
theorem eqg_trade_ref (op : BinOp) (x y : Operand) (xs ys : Array Value) (w : World) : (eqGuard op 148 x y (.agg xs) (.agg ys)).run Tryz.prog w = .ok () w := run_eqGuard_agg w op 148 x y xs ys (by kernel_rfl)
end T
end Go.Proofs.YtlpgheniajdkfaaGreat
