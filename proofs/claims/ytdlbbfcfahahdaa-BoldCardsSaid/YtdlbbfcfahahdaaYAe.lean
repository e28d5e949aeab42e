/- Texts of this claim, one behind another. -/
import Derived.Test.YtdlbbfcfahahdaaProg
import Derived.KernelRfl
import Derived.Laws.StructEq
import Derived.Laws.IdiomStrings
import Derived.MapKept
import Derived.Laws.Rows
import Derived.Deep.AppendSrc
import Derived.Deep.Upon
import Derived.Test.YtdlbbfcfahahdaaYAd
set_option linter.unusedVariables false
set_option linter.unusedSimpArgs false
section
namespace Go.Proofs.Ytdlbbfcfahahdaa
open Go Go.W
theorem mixed : Try.prog.follows .mixedOrders = true := by kernel_rfl
namespace F
abbrev law09_BoldSheets : Nat := 3
abbrev law09_BoldWorth : Nat := 4
abbrev law09_BoldFilled : Nat := 5
abbrev law09_BoldBound : Nat := 6
abbrev law09_BoldPlaced : Nat := 7
abbrev law09_BoldOrder : Nat := 8
abbrev law09_BoldCards : Nat := 9
theorem law09_BoldCards_f : Try.prog.funcs[law09_BoldCards]? = some Try.f9 := Try.func9
abbrev law09_BoldExact : Nat := 10
abbrev law09_BoldOwes : Nat := 11
abbrev law09_BoldPaid : Nat := 12
abbrev law09_BoldOnce : Nat := 13
abbrev law09_BoldWanted : Nat := 14
abbrev law09_BoldAdverts : Nat := 15
abbrev law09_BoldCheapest : Nat := 16
abbrev kit_NewDice : Nat := 17
theorem kit_NewDice_f : Try.prog.funcs[kit_NewDice]? = some Try.f17 := Try.func17
theorem kit_NewDice_cb : Callable Try.prog kit_NewDice := ⟨⟨_, Try.func17, by kernel_rfl, by kernel_rfl⟩⟩
abbrev kit_Dice_From : Nat := 18
theorem kit_Dice_From_f : Try.prog.funcs[kit_Dice_From]? = some Try.f18 := Try.func18
theorem kit_Dice_From_cb : Callable Try.prog kit_Dice_From := ⟨⟨_, Try.func18, by kernel_rfl, by kernel_rfl⟩⟩
abbrev kit_Dice_To : Nat := 19
theorem kit_Dice_To_f : Try.prog.funcs[kit_Dice_To]? = some Try.f19 := Try.func19
theorem kit_Dice_To_cb : Callable Try.prog kit_Dice_To := ⟨⟨_, Try.func19, by kernel_rfl, by kernel_rfl⟩⟩
abbrev bold_Sheets : Nat := 20
theorem bold_Sheets_f : Try.prog.funcs[bold_Sheets]? = some Try.f20 := Try.func20
theorem bold_Sheets_cb : Callable Try.prog bold_Sheets := ⟨⟨_, Try.func20, by kernel_rfl, by kernel_rfl⟩⟩
abbrev ref09_Sheets : Nat := 21
abbrev law09_paying : Nat := 22
theorem law09_paying_f : Try.prog.funcs[law09_paying]? = some Try.f22 := Try.func22
theorem law09_paying_cb : Callable Try.prog law09_paying := ⟨⟨_, Try.func22, by kernel_rfl, by kernel_rfl⟩⟩
abbrev kit_SalesOf : Nat := 23
abbrev kit_AdvertOf : Nat := 24
abbrev ref09_With : Nat := 25
abbrev kit_DupSales : Nat := 26
abbrev bold_Worth : Nat := 27
theorem bold_Worth_f : Try.prog.funcs[bold_Worth]? = some Try.f27 := Try.func27
theorem bold_Worth_cb : Callable Try.prog bold_Worth := ⟨⟨_, Try.func27, by kernel_rfl, by kernel_rfl⟩⟩
abbrev bold_Bills : Nat := 28
theorem bold_Bills_f : Try.prog.funcs[bold_Bills]? = some Try.f28 := Try.func28
theorem bold_Bills_cb : Callable Try.prog bold_Bills := ⟨⟨_, Try.func28, by kernel_rfl, by kernel_rfl⟩⟩
abbrev kit_Sum : Nat := 29
abbrev kit_CardsOf : Nat := 30
theorem kit_CardsOf_f : Try.prog.funcs[kit_CardsOf]? = some Try.f30 := Try.func30
theorem kit_CardsOf_cb : Callable Try.prog kit_CardsOf := ⟨⟨_, Try.func30, by kernel_rfl, by kernel_rfl⟩⟩
abbrev bold_Fill : Nat := 31
theorem bold_Fill_f : Try.prog.funcs[bold_Fill]? = some Try.f31 := Try.func31
theorem bold_Fill_cb : Callable Try.prog bold_Fill := ⟨⟨_, Try.func31, by kernel_rfl, by kernel_rfl⟩⟩
abbrev kit_Subsets : Nat := 32
abbrev law09_sums : Nat := 33
abbrev kit_Less : Nat := 34
abbrev kit_EqInts : Nat := 35
theorem kit_EqInts_f : Try.prog.funcs[kit_EqInts]? = some Try.f35 := Try.func35
theorem kit_EqInts_cb : Callable Try.prog kit_EqInts := ⟨⟨_, Try.func35, by kernel_rfl, by kernel_rfl⟩⟩
abbrev kit_Dice_One : Nat := 36
theorem kit_Dice_One_f : Try.prog.funcs[kit_Dice_One]? = some Try.f36 := Try.func36
theorem kit_Dice_One_cb : Callable Try.prog kit_Dice_One := ⟨⟨_, Try.func36, by kernel_rfl, by kernel_rfl⟩⟩
abbrev kit_TradesOf : Nat := 37
abbrev kit_PricesOf : Nat := 38
abbrev kit_HeadsOf : Nat := 39
abbrev bold_Found : Nat := 40
theorem bold_Found_f : Try.prog.funcs[bold_Found]? = some Try.f40 := Try.func40
theorem bold_Found_cb : Callable Try.prog bold_Found := ⟨⟨_, Try.func40, by kernel_rfl, by kernel_rfl⟩⟩
abbrev law09_found : Nat := 41
abbrev kit_Dice_Order : Nat := 42
abbrev bold_Streets : Nat := 43
abbrev ref09_Fill : Nat := 44
theorem ref09_Fill_f : Try.prog.funcs[ref09_Fill]? = some Try.f44 := Try.func44
theorem ref09_Fill_cb : Callable Try.prog ref09_Fill := ⟨⟨_, Try.func44, by kernel_rfl, by kernel_rfl⟩⟩
abbrev bold_Exact : Nat := 45
theorem bold_Exact_f : Try.prog.funcs[bold_Exact]? = some Try.f45 := Try.func45
theorem bold_Exact_cb : Callable Try.prog bold_Exact := ⟨⟨_, Try.func45, by kernel_rfl, by kernel_rfl⟩⟩
abbrev ref09_Exact : Nat := 46
theorem ref09_Exact_f : Try.prog.funcs[ref09_Exact]? = some Try.f46 := Try.func46
theorem ref09_Exact_cb : Callable Try.prog ref09_Exact := ⟨⟨_, Try.func46, by kernel_rfl, by kernel_rfl⟩⟩
abbrev kit_EqCards : Nat := 47
theorem kit_EqCards_f : Try.prog.funcs[kit_EqCards]? = some Try.f47 := Try.func47
theorem kit_EqCards_cb : Callable Try.prog kit_EqCards := ⟨⟨_, Try.func47, by kernel_rfl, by kernel_rfl⟩⟩
abbrev law09_large : Nat := 48
abbrev kit_ReceiptsOf : Nat := 49
abbrev bold_Owes : Nat := 50
abbrev ref09_Owes : Nat := 51
abbrev kit_EqSales : Nat := 52
abbrev bold_Saved : Nat := 53
abbrev bold_Price : Nat := 54
abbrev kit_Index : Nat := 55
abbrev bold_Missed : Nat := 56
abbrev ref09_Worth : Nat := 57
abbrev bold_Cheapest : Nat := 58
abbrev ref09_Cheapest : Nat := 59
abbrev kit_Dice_raw : Nat := 60
theorem kit_Dice_raw_f : Try.prog.funcs[kit_Dice_raw]? = some Try.f60 := Try.func60
theorem kit_Dice_raw_cb : Callable Try.prog kit_Dice_raw := ⟨⟨_, Try.func60, by kernel_rfl, by kernel_rfl⟩⟩
abbrev bold_between : Nat := 61
theorem bold_between_f : Try.prog.funcs[bold_between]? = some Try.f61 := Try.func61
theorem bold_between_cb : Callable Try.prog bold_between := ⟨⟨_, Try.func61, by kernel_rfl, by kernel_rfl⟩⟩
abbrev ref09_within : Nat := 62
theorem ref09_within_f : Try.prog.funcs[ref09_within]? = some Try.f62 := Try.func62
theorem ref09_within_cb : Callable Try.prog ref09_within := ⟨⟨_, Try.func62, by kernel_rfl, by kernel_rfl⟩⟩
abbrev law09_counter : Nat := 63
theorem law09_counter_f : Try.prog.funcs[law09_counter]? = some Try.f63 := Try.func63
theorem law09_counter_cb : Callable Try.prog law09_counter := ⟨⟨_, Try.func63, by kernel_rfl, by kernel_rfl⟩⟩
abbrev law09_some : Nat := 64
theorem law09_some_f : Try.prog.funcs[law09_some]? = some Try.f64 := Try.func64
theorem law09_some_cb : Callable Try.prog law09_some := ⟨⟨_, Try.func64, by kernel_rfl, by kernel_rfl⟩⟩
abbrev law09_cards : Nat := 65
theorem law09_cards_f : Try.prog.funcs[law09_cards]? = some Try.f65 := Try.func65
theorem law09_cards_cb : Callable Try.prog law09_cards := ⟨⟨_, Try.func65, by kernel_rfl, by kernel_rfl⟩⟩
abbrev law09_shops : Nat := 66
theorem law09_shops_f : Try.prog.funcs[law09_shops]? = some Try.f66 := Try.func66
theorem law09_shops_cb : Callable Try.prog law09_shops := ⟨⟨_, Try.func66, by kernel_rfl, by kernel_rfl⟩⟩
abbrev law09_rates : Nat := 67
theorem law09_rates_f : Try.prog.funcs[law09_rates]? = some Try.f67 := Try.func67
theorem law09_rates_cb : Callable Try.prog law09_rates := ⟨⟨_, Try.func67, by kernel_rfl, by kernel_rfl⟩⟩
abbrev kit_DupInts : Nat := 68
abbrev bold_Check : Nat := 69
theorem bold_Check_f : Try.prog.funcs[bold_Check]? = some Try.f69 := Try.func69
theorem bold_Check_cb : Callable Try.prog bold_Check := ⟨⟨_, Try.func69, by kernel_rfl, by kernel_rfl⟩⟩
abbrev bold_advertError : Nat := 70
theorem bold_advertError_f : Try.prog.funcs[bold_advertError]? = some Try.f70 := Try.func70
theorem bold_advertError_cb : Callable Try.prog bold_advertError := ⟨⟨_, Try.func70, by kernel_rfl, by kernel_rfl⟩⟩
abbrev bold_sum : Nat := 71
theorem bold_sum_f : Try.prog.funcs[bold_sum]? = some Try.f71 := Try.func71
theorem bold_sum_cb : Callable Try.prog bold_sum := ⟨⟨_, Try.func71, by kernel_rfl, by kernel_rfl⟩⟩
abbrev bold_bills : Nat := 72
theorem bold_bills_f : Try.prog.funcs[bold_bills]? = some Try.f72 := Try.func72
theorem bold_bills_cb : Callable Try.prog bold_bills := ⟨⟨_, Try.func72, by kernel_rfl, by kernel_rfl⟩⟩
abbrev bold_with : Nat := 73
theorem bold_with_f : Try.prog.funcs[bold_with]? = some Try.f73 := Try.func73
theorem bold_with_cb : Callable Try.prog bold_with := ⟨⟨_, Try.func73, by kernel_rfl, by kernel_rfl⟩⟩
abbrev bold_cardsError : Nat := 74
theorem bold_cardsError_f : Try.prog.funcs[bold_cardsError]? = some Try.f74 := Try.func74
theorem bold_cardsError_cb : Callable Try.prog bold_cardsError := ⟨⟨_, Try.func74, by kernel_rfl, by kernel_rfl⟩⟩
abbrev bold_Fill_1 : Nat := 75
theorem bold_Fill_1_f : Try.prog.funcs[bold_Fill_1]? = some Try.f75 := Try.func75
theorem bold_Fill_1_cb : Callable Try.prog bold_Fill_1 := ⟨⟨_, Try.func75, by kernel_rfl, by kernel_rfl⟩⟩
abbrev cmp_Or_int : Nat := 76
theorem cmp_Or_int_f : Try.prog.funcs[cmp_Or_int]? = some Try.f76 := Try.func76
theorem cmp_Or_int_cb : Callable Try.prog cmp_Or_int := ⟨⟨_, Try.func76, by kernel_rfl, by kernel_rfl⟩⟩
abbrev cmp_Compare_int : Nat := 77
theorem cmp_Compare_int_f : Try.prog.funcs[cmp_Compare_int]? = some Try.f77 := Try.func77
theorem cmp_Compare_int_cb : Callable Try.prog cmp_Compare_int := ⟨⟨_, Try.func77, by kernel_rfl, by kernel_rfl⟩⟩
abbrev slices_Compare_ints : Nat := 78
theorem slices_Compare_ints_f : Try.prog.funcs[slices_Compare_ints]? = some Try.f78 := Try.func78
theorem slices_Compare_ints_cb : Callable Try.prog slices_Compare_ints := ⟨⟨_, Try.func78, by kernel_rfl, by kernel_rfl⟩⟩
abbrev bold_hands : Nat := 79
theorem bold_hands_f : Try.prog.funcs[bold_hands]? = some Try.f79 := Try.func79
theorem bold_hands_cb : Callable Try.prog bold_hands := ⟨⟨_, Try.func79, by kernel_rfl, by kernel_rfl⟩⟩
abbrev bold_best_bold_hand_offer : Nat := 80
theorem bold_best_bold_hand_offer_f : Try.prog.funcs[bold_best_bold_hand_offer]? = some Try.f80 := Try.func80
theorem bold_best_bold_hand_offer_cb : Callable Try.prog bold_best_bold_hand_offer := ⟨⟨_, Try.func80, by kernel_rfl, by kernel_rfl⟩⟩
abbrev kit_subsets : Nat := 81
abbrev kit_sorts : Nat := 82
abbrev kit_partOf : Nat := 83
abbrev kit_callings : Nat := 84
abbrev kit_Dice_Once : Nat := 85
abbrev trade_Check : Nat := 86
theorem trade_Check_f : Try.prog.funcs[trade_Check]? = some Try.f86 := Try.func86
theorem trade_Check_cb : Callable Try.prog trade_Check := ⟨⟨_, Try.func86, by kernel_rfl, by kernel_rfl⟩⟩
abbrev bold_Found_1 : Nat := 87
theorem bold_Found_1_f : Try.prog.funcs[bold_Found_1]? = some Try.f87 := Try.func87
theorem bold_Found_1_cb : Callable Try.prog bold_Found_1 := ⟨⟨_, Try.func87, by kernel_rfl, by kernel_rfl⟩⟩
abbrev bold_reached : Nat := 88
theorem bold_reached_f : Try.prog.funcs[bold_reached]? = some Try.f88 := Try.func88
theorem bold_reached_cb : Callable Try.prog bold_reached := ⟨⟨_, Try.func88, by kernel_rfl, by kernel_rfl⟩⟩
abbrev bold_cards_list : Nat := 89
theorem bold_cards_list_f : Try.prog.funcs[bold_cards_list]? = some Try.f89 := Try.func89
theorem bold_cards_list_cb : Callable Try.prog bold_cards_list := ⟨⟨_, Try.func89, by kernel_rfl, by kernel_rfl⟩⟩
abbrev slices_ContainsFunc_ints : Nat := 90
theorem slices_ContainsFunc_ints_f : Try.prog.funcs[slices_ContainsFunc_ints]? = some Try.f90 := Try.func90
theorem slices_ContainsFunc_ints_cb : Callable Try.prog slices_ContainsFunc_ints := ⟨⟨_, Try.func90, by kernel_rfl, by kernel_rfl⟩⟩
abbrev bold_Found_2 : Nat := 91
theorem bold_Found_2_f : Try.prog.funcs[bold_Found_2]? = some Try.f91 := Try.func91
theorem bold_Found_2_cb : Callable Try.prog bold_Found_2 := ⟨⟨_, Try.func91, by kernel_rfl, by kernel_rfl⟩⟩
abbrev trade_Steps : Nat := 92
theorem trade_Steps_f : Try.prog.funcs[trade_Steps]? = some Try.f92 := Try.func92
theorem trade_Steps_cb : Callable Try.prog trade_Steps := ⟨⟨_, Try.func92, by kernel_rfl, by kernel_rfl⟩⟩
abbrev bold_discounts : Nat := 93
theorem bold_discounts_f : Try.prog.funcs[bold_discounts]? = some Try.f93 := Try.func93
theorem bold_discounts_cb : Callable Try.prog bold_discounts := ⟨⟨_, Try.func93, by kernel_rfl, by kernel_rfl⟩⟩
abbrev ref09_checkCards : Nat := 94
theorem ref09_checkCards_f : Try.prog.funcs[ref09_checkCards]? = some Try.f94 := Try.func94
theorem ref09_checkCards_cb : Callable Try.prog ref09_checkCards := ⟨⟨_, Try.func94, by kernel_rfl, by kernel_rfl⟩⟩
abbrev ref09_Picks : Nat := 95
theorem ref09_Picks_f : Try.prog.funcs[ref09_Picks]? = some Try.f95 := Try.func95
theorem ref09_Picks_cb : Callable Try.prog ref09_Picks := ⟨⟨_, Try.func95, by kernel_rfl, by kernel_rfl⟩⟩
abbrev ref09_lines : Nat := 96
theorem ref09_lines_f : Try.prog.funcs[ref09_lines]? = some Try.f96 := Try.func96
theorem ref09_lines_cb : Callable Try.prog ref09_lines := ⟨⟨_, Try.func96, by kernel_rfl, by kernel_rfl⟩⟩
abbrev ref09_better : Nat := 97
theorem ref09_better_f : Try.prog.funcs[ref09_better]? = some Try.f97 := Try.func97
theorem ref09_better_cb : Callable Try.prog ref09_better := ⟨⟨_, Try.func97, by kernel_rfl, by kernel_rfl⟩⟩
abbrev ref09_worth : Nat := 98
theorem ref09_worth_f : Try.prog.funcs[ref09_worth]? = some Try.f98 := Try.func98
theorem ref09_worth_cb : Callable Try.prog ref09_worth := ⟨⟨_, Try.func98, by kernel_rfl, by kernel_rfl⟩⟩
abbrev bold_Exact_1 : Nat := 99
theorem bold_Exact_1_f : Try.prog.funcs[bold_Exact_1]? = some Try.f99 := Try.func99
theorem bold_Exact_1_cb : Callable Try.prog bold_Exact_1 := ⟨⟨_, Try.func99, by kernel_rfl, by kernel_rfl⟩⟩
abbrev ref09_Bills : Nat := 100
abbrev bold_reckon : Nat := 101
theorem bold_reckon_f : Try.prog.funcs[bold_reckon]? = some Try.f101 := Try.func101
theorem bold_reckon_cb : Callable Try.prog bold_reckon := ⟨⟨_, Try.func101, by kernel_rfl, by kernel_rfl⟩⟩
abbrev bold_Saved_1 : Nat := 102
theorem bold_Saved_1_f : Try.prog.funcs[bold_Saved_1]? = some Try.f102 := Try.func102
theorem bold_Saved_1_cb : Callable Try.prog bold_Saved_1 := ⟨⟨_, Try.func102, by kernel_rfl, by kernel_rfl⟩⟩
abbrev bold_account_total : Nat := 103
theorem bold_account_total_f : Try.prog.funcs[bold_account_total]? = some Try.f103 := Try.func103
theorem bold_account_total_cb : Callable Try.prog bold_account_total := ⟨⟨_, Try.func103, by kernel_rfl, by kernel_rfl⟩⟩
abbrev bold_of : Nat := 104
theorem bold_of_f : Try.prog.funcs[bold_of]? = some Try.f104 := Try.func104
theorem bold_of_cb : Callable Try.prog bold_of := ⟨⟨_, Try.func104, by kernel_rfl, by kernel_rfl⟩⟩
abbrev bold_tariff_advert : Nat := 105
theorem bold_tariff_advert_f : Try.prog.funcs[bold_tariff_advert]? = some Try.f105 := Try.func105
theorem bold_tariff_advert_cb : Callable Try.prog bold_tariff_advert := ⟨⟨_, Try.func105, by kernel_rfl, by kernel_rfl⟩⟩
abbrev bold_Missed_1 : Nat := 106
abbrev ref09_Check : Nat := 107
abbrev ref09_CheckAdvert : Nat := 108
abbrev ref09_total : Nat := 109
abbrev ref09_Bill : Nat := 110
abbrev cmp_isNaN_int : Nat := 111
theorem cmp_isNaN_int_f : Try.prog.funcs[cmp_isNaN_int]? = some Try.f111 := Try.func111
theorem cmp_isNaN_int_cb : Callable Try.prog cmp_isNaN_int := ⟨⟨_, Try.func111, by kernel_rfl, by kernel_rfl⟩⟩
abbrev trade_check : Nat := 112
theorem trade_check_f : Try.prog.funcs[trade_check]? = some Try.f112 := Try.func112
theorem trade_check_cb : Callable Try.prog trade_check := ⟨⟨_, Try.func112, by kernel_rfl, by kernel_rfl⟩⟩
abbrev slices_IndexFunc_ints : Nat := 113
theorem slices_IndexFunc_ints_f : Try.prog.funcs[slices_IndexFunc_ints]? = some Try.f113 := Try.func113
theorem slices_IndexFunc_ints_cb : Callable Try.prog slices_IndexFunc_ints := ⟨⟨_, Try.func113, by kernel_rfl, by kernel_rfl⟩⟩
abbrev trade_ask : Nat := 114
theorem trade_ask_f : Try.prog.funcs[trade_ask]? = some Try.f114 := Try.func114
theorem trade_ask_cb : Callable Try.prog trade_ask := ⟨⟨_, Try.func114, by kernel_rfl, by kernel_rfl⟩⟩
abbrev trade_list_steps : Nat := 115
theorem trade_list_steps_f : Try.prog.funcs[trade_list_steps]? = some Try.f115 := Try.func115
theorem trade_list_steps_cb : Callable Try.prog trade_list_steps := ⟨⟨_, Try.func115, by kernel_rfl, by kernel_rfl⟩⟩
abbrev ref09_before : Nat := 116
theorem ref09_before_f : Try.prog.funcs[ref09_before]? = some Try.f116 := Try.func116
theorem ref09_before_cb : Callable Try.prog ref09_before := ⟨⟨_, Try.func116, by kernel_rfl, by kernel_rfl⟩⟩
abbrev bold_accounts : Nat := 117
theorem bold_accounts_f : Try.prog.funcs[bold_accounts]? = some Try.f117 := Try.func117
theorem bold_accounts_cb : Callable Try.prog bold_accounts := ⟨⟨_, Try.func117, by kernel_rfl, by kernel_rfl⟩⟩
abbrev bold_reckon_1 : Nat := 118
theorem bold_reckon_1_f : Try.prog.funcs[bold_reckon_1]? = some Try.f118 := Try.func118
abbrev bold_reckon_2 : Nat := 119
theorem bold_reckon_2_f : Try.prog.funcs[bold_reckon_2]? = some Try.f119 := Try.func119
abbrev ref09_checkCharges : Nat := 120
abbrev ref09_Sum : Nat := 121
abbrev ref09_Off : Nat := 122
abbrev trade_checkClass : Nat := 123
theorem trade_checkClass_f : Try.prog.funcs[trade_checkClass]? = some Try.f123 := Try.func123
theorem trade_checkClass_cb : Callable Try.prog trade_checkClass := ⟨⟨_, Try.func123, by kernel_rfl, by kernel_rfl⟩⟩
abbrev trade_checkHead : Nat := 124
theorem trade_checkHead_f : Try.prog.funcs[trade_checkHead]? = some Try.f124 := Try.func124
theorem trade_checkHead_cb : Callable Try.prog trade_checkHead := ⟨⟨_, Try.func124, by kernel_rfl, by kernel_rfl⟩⟩
abbrev trade_begin : Nat := 125
theorem trade_begin_f : Try.prog.funcs[trade_begin]? = some Try.f125 := Try.func125
theorem trade_begin_cb : Callable Try.prog trade_begin := ⟨⟨_, Try.func125, by kernel_rfl, by kernel_rfl⟩⟩
abbrev trade_between : Nat := 126
theorem trade_between_f : Try.prog.funcs[trade_between]? = some Try.f126 := Try.func126
theorem trade_between_cb : Callable Try.prog trade_between := ⟨⟨_, Try.func126, by kernel_rfl, by kernel_rfl⟩⟩
abbrev slices_Repeat_ints : Nat := 127
theorem slices_Repeat_ints_f : Try.prog.funcs[slices_Repeat_ints]? = some Try.f127 := Try.func127
theorem slices_Repeat_ints_cb : Callable Try.prog slices_Repeat_ints := ⟨⟨_, Try.func127, by kernel_rfl, by kernel_rfl⟩⟩
abbrev bold_accounts_1 : Nat := 128
theorem bold_accounts_1_f : Try.prog.funcs[bold_accounts_1]? = some Try.f128 := Try.func128
theorem bold_accounts_1_cb : Callable Try.prog bold_accounts_1 := ⟨⟨_, Try.func128, by kernel_rfl, by kernel_rfl⟩⟩
abbrev slices_Contains_ints : Nat := 129
theorem slices_Contains_ints_f : Try.prog.funcs[slices_Contains_ints]? = some Try.f129 := Try.func129
theorem slices_Contains_ints_cb : Callable Try.prog slices_Contains_ints := ⟨⟨_, Try.func129, by kernel_rfl, by kernel_rfl⟩⟩
abbrev bold_accounts_2 : Nat := 130
theorem bold_accounts_2_f : Try.prog.funcs[bold_accounts_2]? = some Try.f130 := Try.func130
theorem bold_accounts_2_cb : Callable Try.prog bold_accounts_2 := ⟨⟨_, Try.func130, by kernel_rfl, by kernel_rfl⟩⟩
abbrev ref09_price : Nat := 131
abbrev trade_word : Nat := 132
theorem trade_word_f : Try.prog.funcs[trade_word]? = some Try.f132 := Try.func132
theorem trade_word_cb : Callable Try.prog trade_word := ⟨⟨_, Try.func132, by kernel_rfl, by kernel_rfl⟩⟩
abbrev slices_ContainsFunc : Nat := 133
theorem slices_ContainsFunc_f : Try.prog.funcs[slices_ContainsFunc]? = some Try.f133 := Try.func133
theorem slices_ContainsFunc_cb : Callable Try.prog slices_ContainsFunc := ⟨⟨_, Try.func133, by kernel_rfl, by kernel_rfl⟩⟩
abbrev trade_checkClass_1 : Nat := 134
theorem trade_checkClass_1_f : Try.prog.funcs[trade_checkClass_1]? = some Try.f134 := Try.func134
theorem trade_checkClass_1_cb : Callable Try.prog trade_checkClass_1 := ⟨⟨_, Try.func134, by kernel_rfl, by kernel_rfl⟩⟩
abbrev slices_ContainsFuncx : Nat := 135
theorem slices_ContainsFuncx_f : Try.prog.funcs[slices_ContainsFuncx]? = some Try.f135 := Try.func135
theorem slices_ContainsFuncx_cb : Callable Try.prog slices_ContainsFuncx := ⟨⟨_, Try.func135, by kernel_rfl, by kernel_rfl⟩⟩
abbrev trade_checkHead_1 : Nat := 136
theorem trade_checkHead_1_f : Try.prog.funcs[trade_checkHead_1]? = some Try.f136 := Try.func136
theorem trade_checkHead_1_cb : Callable Try.prog trade_checkHead_1 := ⟨⟨_, Try.func136, by kernel_rfl, by kernel_rfl⟩⟩
abbrev trade_classes_with : Nat := 137
theorem trade_classes_with_f : Try.prog.funcs[trade_classes_with]? = some Try.f137 := Try.func137
theorem trade_classes_with_cb : Callable Try.prog trade_classes_with := ⟨⟨_, Try.func137, by kernel_rfl, by kernel_rfl⟩⟩
abbrev math_bits_Mul : Nat := 138
theorem math_bits_Mul_f : Try.prog.funcs[math_bits_Mul]? = some Try.f138 := Try.func138
theorem math_bits_Mul_cb : Callable Try.prog math_bits_Mul := ⟨⟨_, Try.func138, by kernel_rfl, by kernel_rfl⟩⟩
abbrev slices_Index_ints : Nat := 139
theorem slices_Index_ints_f : Try.prog.funcs[slices_Index_ints]? = some Try.f139 := Try.func139
theorem slices_Index_ints_cb : Callable Try.prog slices_Index_ints := ⟨⟨_, Try.func139, by kernel_rfl, by kernel_rfl⟩⟩
abbrev slices_IndexFunc : Nat := 140
theorem slices_IndexFunc_f : Try.prog.funcs[slices_IndexFunc]? = some Try.f140 := Try.func140
theorem slices_IndexFunc_cb : Callable Try.prog slices_IndexFunc := ⟨⟨_, Try.func140, by kernel_rfl, by kernel_rfl⟩⟩
abbrev slices_IndexFuncx : Nat := 141
theorem slices_IndexFuncx_f : Try.prog.funcs[slices_IndexFuncx]? = some Try.f141 := Try.func141
theorem slices_IndexFuncx_cb : Callable Try.prog slices_IndexFuncx := ⟨⟨_, Try.func141, by kernel_rfl, by kernel_rfl⟩⟩
abbrev math_bits_Mul64 : Nat := 143
theorem math_bits_Mul64_f : Try.prog.funcs[math_bits_Mul64]? = some Try.f143 := Try.func143
theorem math_bits_Mul64_cb : Callable Try.prog math_bits_Mul64 := ⟨⟨_, Try.func143, by kernel_rfl, by kernel_rfl⟩⟩
abbrev bold_plain_price : Nat := 161
theorem bold_plain_price_f : Try.prog.funcs[bold_plain_price]? = some Try.f161 := Try.func161
theorem bold_plain_price_cb : Callable Try.prog bold_plain_price := ⟨⟨_, Try.func161, by kernel_rfl, by kernel_rfl⟩⟩
abbrev bold_bold_price : Nat := 162
theorem bold_bold_price_f : Try.prog.funcs[bold_bold_price]? = some Try.f162 := Try.func162
theorem bold_bold_price_cb : Callable Try.prog bold_bold_price := ⟨⟨_, Try.func162, by kernel_rfl, by kernel_rfl⟩⟩
abbrev bold_card_price : Nat := 163
theorem bold_card_price_f : Try.prog.funcs[bold_card_price]? = some Try.f163 := Try.func163
theorem bold_card_price_cb : Callable Try.prog bold_card_price := ⟨⟨_, Try.func163, by kernel_rfl, by kernel_rfl⟩⟩
abbrev trade_pointer_next : Nat := 165
theorem trade_pointer_next_f : Try.prog.funcs[trade_pointer_next]? = some Try.f165 := Try.func165
theorem trade_pointer_next_cb : Callable Try.prog trade_pointer_next := ⟨⟨_, Try.func165, by kernel_rfl, by kernel_rfl⟩⟩
abbrev trade_article_next : Nat := 166
theorem trade_article_next_f : Try.prog.funcs[trade_article_next]? = some Try.f166 := Try.func166
theorem trade_article_next_cb : Callable Try.prog trade_article_next := ⟨⟨_, Try.func166, by kernel_rfl, by kernel_rfl⟩⟩
abbrev trade_index_next : Nat := 167
theorem trade_index_next_f : Try.prog.funcs[trade_index_next]? = some Try.f167 := Try.func167
theorem trade_index_next_cb : Callable Try.prog trade_index_next := ⟨⟨_, Try.func167, by kernel_rfl, by kernel_rfl⟩⟩
end F
namespace T
abbrev int : Nat := 3
theorem u_int : Try.prog.underlying int = some (.int .i64) := Try.underlying3
theorem sz_int : Sz Try.prog int 1 := by unfold Sz; kernel_rfl
theorem cell_int : NoR Try.prog int := ⟨_, Try.underlying3, rfl⟩
abbrev bool : Nat := 4
theorem sz_bool : Sz Try.prog bool 1 := by unfold Sz; kernel_rfl
theorem cell_bool : NoR Try.prog bool := ⟨_, Try.underlying4, rfl⟩
abbrev string : Nat := 9
theorem u_string : Try.prog.underlying string = some (.string) := Try.underlying9
theorem cell_string : NoR Try.prog string := ⟨_, Try.underlying9, rfl⟩
abbrev int32 : Nat := 21
abbrev ints : Nat := 22
theorem u_ints : Try.prog.underlying ints = some (.slice 3) := Try.underlying22
theorem sz_ints : Sz Try.prog ints 1 := by unfold Sz; kernel_rfl
theorem cell_ints : NoR Try.prog ints := ⟨_, Try.underlying22, rfl⟩
theorem el_ints : ElT Try.prog ints 3 1 8 := ElT.of (z := (.int .i64 0)) Try.underlying22 (by kernel_rfl) rfl (by decide)
abbrev P_wayzgoosekit_Dice : Nat := 23
abbrev func_int_int : Nat := 26
theorem sz_func_int_int : Sz Try.prog func_int_int 1 := by unfold Sz; kernel_rfl
theorem cell_func_int_int : NoR Try.prog func_int_int := ⟨_, Try.underlying26, rfl⟩
abbrev api_Errno : Nat := 27
abbrev api_Charges : Nat := 33
theorem sz_api_Charges : Sz Try.prog api_Charges 6 := by unfold Sz; kernel_rfl
theorem row_api_Charges : IsR Try.prog api_Charges := ⟨_, Try.underlying33, rfl⟩
abbrev L_api_Advert : Nat := 34
theorem u_L_api_Advert : Try.prog.underlying L_api_Advert = some (.slice 39) := Try.underlying34
theorem sz_L_api_Advert : Sz Try.prog L_api_Advert 1 := by unfold Sz; kernel_rfl
theorem cell_L_api_Advert : NoR Try.prog L_api_Advert := ⟨_, Try.underlying34, rfl⟩
theorem el_L_api_Advert : ElT Try.prog L_api_Advert 39 3 24 := ElT.of (z := (.agg #[(.int .i64 0), (.int .i64 0), (.int .i64 0)])) Try.underlying34 (by kernel_rfl) rfl (by decide)
abbrev api_Sales : Nat := 36
theorem sz_api_Sales : Sz Try.prog api_Sales 8 := by unfold Sz; kernel_rfl
theorem row_api_Sales : IsR Try.prog api_Sales := ⟨_, Try.underlying36, rfl⟩
abbrev api_Advert : Nat := 39
theorem sz_api_Advert : Sz Try.prog api_Advert 3 := by unfold Sz; kernel_rfl
theorem row_api_Advert : IsR Try.prog api_Advert := ⟨_, Try.underlying39, rfl⟩
abbrev L_api_Card : Nat := 49
theorem u_L_api_Card : Try.prog.underlying L_api_Card = some (.slice 107) := Try.underlying49
theorem sz_L_api_Card : Sz Try.prog L_api_Card 1 := by unfold Sz; kernel_rfl
theorem cell_L_api_Card : NoR Try.prog L_api_Card := ⟨_, Try.underlying49, rfl⟩
theorem el_L_api_Card : ElT Try.prog L_api_Card 107 2 16 := ElT.of (z := (.agg #[(.int .i64 0), (.int .i64 0)])) Try.underlying49 (by kernel_rfl) rfl (by decide)
abbrev intss : Nat := 53
theorem u_intss : Try.prog.underlying intss = some (.slice 22) := Try.underlying53
theorem el_intss : ElT Try.prog intss 22 1 24 := ElT.of (z := (.slice none 0 0)) Try.underlying53 (by kernel_rfl) rfl (by decide)
abbrev L_api_Class : Nat := 59
theorem u_L_api_Class : Try.prog.underlying L_api_Class = some (.slice 122) := Try.underlying59
theorem cell_L_api_Class : NoR Try.prog L_api_Class := ⟨_, Try.underlying59, rfl⟩
abbrev L_api_Head : Nat := 60
theorem u_L_api_Head : Try.prog.underlying L_api_Head = some (.slice 68) := Try.underlying60
theorem cell_L_api_Head : NoR Try.prog L_api_Head := ⟨_, Try.underlying60, rfl⟩
abbrev api_Trades : Nat := 62
theorem sz_api_Trades : Sz Try.prog api_Trades 2 := by unfold Sz; kernel_rfl
theorem row_api_Trades : IsR Try.prog api_Trades := ⟨_, Try.underlying62, rfl⟩
abbrev api_Head : Nat := 68
theorem sz_api_Head : Sz Try.prog api_Head 4 := by unfold Sz; kernel_rfl
theorem row_api_Head : IsR Try.prog api_Head := ⟨_, Try.underlying68, rfl⟩
abbrev L_L_api_Card : Nat := 72
theorem u_L_L_api_Card : Try.prog.underlying L_L_api_Card = some (.slice 49) := Try.underlying72
abbrev L_api_Receipt : Nat := 76
abbrev L_api_Sales : Nat := 78
abbrev L_L_api_Receipt : Nat := 80
abbrev api_Receipt : Nat := 84
abbrev u64 : Nat := 92
theorem u_u64 : Try.prog.underlying u64 = some (.int .u64) := Try.underlying92
theorem sz_u64 : Sz Try.prog u64 1 := by unfold Sz; kernel_rfl
theorem cell_u64 : NoR Try.prog u64 := ⟨_, Try.underlying92, rfl⟩
abbrev wayzgoosekit_Dice : Nat := 94
abbrev uint : Nat := 96
theorem u_uint : Try.prog.underlying uint = some (.int .u64) := Try.underlying96
abbrev api_Card : Nat := 107
theorem sz_api_Card : Sz Try.prog api_Card 2 := by unfold Sz; kernel_rfl
theorem row_api_Card : IsR Try.prog api_Card := ⟨_, Try.underlying107, rfl⟩
abbrev bold_hand : Nat := 110
theorem sz_bold_hand : Sz Try.prog bold_hand 3 := by unfold Sz; kernel_rfl
theorem row_bold_hand : IsR Try.prog bold_hand := ⟨_, Try.underlying110, rfl⟩
abbrev func_bold_hand_bold_hand_int : Nat := 112
theorem cell_func_bold_hand_bold_hand_int : NoR Try.prog func_bold_hand_bold_hand_int := ⟨_, Try.underlying112, rfl⟩
abbrev bold_best_wayzgoose_bold_hand : Nat := 114
theorem sz_bold_best_wayzgoose_bold_hand : Sz Try.prog bold_best_wayzgoose_bold_hand 5 := by unfold Sz; kernel_rfl
abbrev L_bold_hand : Nat := 115
theorem u_L_bold_hand : Try.prog.underlying L_bold_hand = some (.slice 110) := Try.underlying115
theorem el_L_bold_hand : ElT Try.prog L_bold_hand 110 3 40 := ElT.of (z := (.agg #[(.slice none 0 0), (.int .i64 0), (.int .i64 0)])) Try.underlying115 (by kernel_rfl) rfl (by decide)
abbrev strs : Nat := 119
abbrev api_Class : Nat := 122
theorem sz_api_Class : Sz Try.prog api_Class 2 := by unfold Sz; kernel_rfl
theorem row_api_Class : IsR Try.prog api_Class := ⟨_, Try.underlying122, rfl⟩
abbrev func_int_bool : Nat := 123
abbrev L_L_bool : Nat := 125
theorem u_L_L_bool : Try.prog.underlying L_L_bool = some (.slice 129) := Try.underlying125
theorem sz_L_L_bool : Sz Try.prog L_L_bool 1 := by unfold Sz; kernel_rfl
theorem cell_L_L_bool : NoR Try.prog L_L_bool := ⟨_, Try.underlying125, rfl⟩
abbrev bold_cards : Nat := 127
theorem u_bold_cards : Try.prog.underlying bold_cards = some (.int .u64) := Try.underlying127
abbrev L_bool : Nat := 129
theorem u_L_bool : Try.prog.underlying L_bool = some (.slice 4) := Try.underlying129
theorem sz_L_bool : Sz Try.prog L_bool 1 := by unfold Sz; kernel_rfl
theorem cell_L_bool : NoR Try.prog L_bool := ⟨_, Try.underlying129, rfl⟩
theorem el_L_bool : ElT Try.prog L_bool 4 1 1 := ElT.of (z := (.bool false)) Try.underlying129 (by kernel_rfl) rfl (by decide)
abbrev bold_account : Nat := 135
theorem sz_bold_account : Sz Try.prog bold_account 2 := by unfold Sz; kernel_rfl
theorem row_bold_account : IsR Try.prog bold_account := ⟨_, Try.underlying135, rfl⟩
abbrev func_bold_account_int : Nat := 137
theorem cell_func_bold_account_int : NoR Try.prog func_bold_account_int := ⟨_, Try.underlying137, rfl⟩
abbrev P_bold_tariff : Nat := 140
theorem cell_P_bold_tariff : NoR Try.prog P_bold_tariff := ⟨_, Try.underlying140, rfl⟩
abbrev P_trade_list : Nat := 147
abbrev map_int_bool : Nat := 150
theorem u_map_int_bool : Try.prog.underlying map_int_bool = some (.map 3 4) := Try.underlying150
abbrev chan_bold_numbered : Nat := 151
theorem sz_chan_bold_numbered : Sz Try.prog chan_bold_numbered 1 := by unfold Sz; kernel_rfl
theorem cell_chan_bold_numbered : NoR Try.prog chan_bold_numbered := ⟨_, Try.underlying151, rfl⟩
abbrev chan_bool : Nat := 152
theorem sz_chan_bool : Sz Try.prog chan_bool 1 := by unfold Sz; kernel_rfl
theorem cell_chan_bool : NoR Try.prog chan_bool := ⟨_, Try.underlying152, rfl⟩
abbrev L_bold_account : Nat := 153
theorem u_L_bold_account : Try.prog.underlying L_bold_account = some (.slice 135) := Try.underlying153
abbrev bold_numbered : Nat := 156
theorem sz_bold_numbered : Sz Try.prog bold_numbered 2 := by unfold Sz; kernel_rfl
abbrev bold_tariff : Nat := 158
abbrev bold_plain : Nat := 160
abbrev bold_bold : Nat := 162
abbrev bold_card : Nat := 163
abbrev L_trade_classes : Nat := 170
theorem u_L_trade_classes : Try.prog.underlying L_trade_classes = some (.slice 184) := Try.underlying170
theorem sz_L_trade_classes : Sz Try.prog L_trade_classes 1 := by unfold Sz; kernel_rfl
theorem cell_L_trade_classes : NoR Try.prog L_trade_classes := ⟨_, Try.underlying170, rfl⟩
theorem el_L_trade_classes : ElT Try.prog L_trade_classes 184 1 1 := ElT.of (z := (.int .u8 0)) Try.underlying170 (by kernel_rfl) rfl (by decide)
abbrev L_trade_kind : Nat := 171
theorem u_L_trade_kind : Try.prog.underlying L_trade_kind = some (.slice 176) := Try.underlying171
theorem sz_L_trade_kind : Sz Try.prog L_trade_kind 1 := by unfold Sz; kernel_rfl
theorem cell_L_trade_kind : NoR Try.prog L_trade_kind := ⟨_, Try.underlying171, rfl⟩
theorem el_L_trade_kind : ElT Try.prog L_trade_kind 176 1 16 := ElT.of (z := .nilIface) Try.underlying171 (by kernel_rfl) rfl (by decide)
abbrev trade_list : Nat := 173
abbrev chan_int : Nat := 174
abbrev trade_kind : Nat := 176
theorem sz_trade_kind : Sz Try.prog trade_kind 1 := by unfold Sz; kernel_rfl
theorem cell_trade_kind : NoR Try.prog trade_kind := ⟨_, Try.underlying176, rfl⟩
abbrev func_api_Class_bool : Nat := 181
abbrev func_api_Head_bool : Nat := 183
abbrev trade_classes : Nat := 184
theorem sz_trade_classes : Sz Try.prog trade_classes 1 := by unfold Sz; kernel_rfl
theorem cell_trade_classes : NoR Try.prog trade_classes := ⟨_, Try.underlying184, rfl⟩
abbrev trade_pointer : Nat := 187
abbrev trade_article : Nat := 189
abbrev trade_index : Nat := 191
abbrev uint32 : Nat := 196
theorem fa_api_Charges_0 (p : Addr) (w : World) : (Instr.fieldAt 33 (.pointer (some p)) 0).run Try.prog w = .ok (.pointer (some (p.add 0))) w := by kernel_rfl
theorem fa_api_Charges_1 (p : Addr) (w : World) : (Instr.fieldAt 33 (.pointer (some p)) 1).run Try.prog w = .ok (.pointer (some (p.add 1))) w := by kernel_rfl
theorem fa_api_Charges_2 (p : Addr) (w : World) : (Instr.fieldAt 33 (.pointer (some p)) 2).run Try.prog w = .ok (.pointer (some (p.add 2))) w := by kernel_rfl
theorem fa_api_Charges_3 (p : Addr) (w : World) : (Instr.fieldAt 33 (.pointer (some p)) 3).run Try.prog w = .ok (.pointer (some (p.add 3))) w := by kernel_rfl
theorem fa_api_Charges_4 (p : Addr) (w : World) : (Instr.fieldAt 33 (.pointer (some p)) 4).run Try.prog w = .ok (.pointer (some (p.add 4))) w := by kernel_rfl
theorem fa_api_Charges_5 (p : Addr) (w : World) : (Instr.fieldAt 33 (.pointer (some p)) 5).run Try.prog w = .ok (.pointer (some (p.add 5))) w := by kernel_rfl
theorem fa_api_Sales_0 (p : Addr) (w : World) : (Instr.fieldAt 36 (.pointer (some p)) 0).run Try.prog w = .ok (.pointer (some (p.add 0))) w := by kernel_rfl
theorem fa_api_Sales_1 (p : Addr) (w : World) : (Instr.fieldAt 36 (.pointer (some p)) 1).run Try.prog w = .ok (.pointer (some (p.add 6))) w := by kernel_rfl
theorem fa_api_Sales_2 (p : Addr) (w : World) : (Instr.fieldAt 36 (.pointer (some p)) 2).run Try.prog w = .ok (.pointer (some (p.add 7))) w := by kernel_rfl
theorem fa_api_Advert_0 (p : Addr) (w : World) : (Instr.fieldAt 39 (.pointer (some p)) 0).run Try.prog w = .ok (.pointer (some (p.add 0))) w := by kernel_rfl
theorem fa_api_Advert_1 (p : Addr) (w : World) : (Instr.fieldAt 39 (.pointer (some p)) 1).run Try.prog w = .ok (.pointer (some (p.add 1))) w := by kernel_rfl
theorem fa_api_Advert_2 (p : Addr) (w : World) : (Instr.fieldAt 39 (.pointer (some p)) 2).run Try.prog w = .ok (.pointer (some (p.add 2))) w := by kernel_rfl
theorem fa_api_Trades_0 (p : Addr) (w : World) : (Instr.fieldAt 62 (.pointer (some p)) 0).run Try.prog w = .ok (.pointer (some (p.add 0))) w := by kernel_rfl
theorem fa_api_Trades_1 (p : Addr) (w : World) : (Instr.fieldAt 62 (.pointer (some p)) 1).run Try.prog w = .ok (.pointer (some (p.add 1))) w := by kernel_rfl
theorem fa_api_Head_0 (p : Addr) (w : World) : (Instr.fieldAt 68 (.pointer (some p)) 0).run Try.prog w = .ok (.pointer (some (p.add 0))) w := by kernel_rfl
theorem fa_api_Head_1 (p : Addr) (w : World) : (Instr.fieldAt 68 (.pointer (some p)) 1).run Try.prog w = .ok (.pointer (some (p.add 1))) w := by kernel_rfl
theorem fa_api_Head_2 (p : Addr) (w : World) : (Instr.fieldAt 68 (.pointer (some p)) 2).run Try.prog w = .ok (.pointer (some (p.add 2))) w := by kernel_rfl
theorem fa_api_Head_3 (p : Addr) (w : World) : (Instr.fieldAt 68 (.pointer (some p)) 3).run Try.prog w = .ok (.pointer (some (p.add 3))) w := by kernel_rfl
theorem fa_wayzgoosekit_Dice_0 (p : Addr) (w : World) : (Instr.fieldAt 94 (.pointer (some p)) 0).run Try.prog w = .ok (.pointer (some (p.add 0))) w := by kernel_rfl
theorem fa_wayzgoosekit_Dice_1 (p : Addr) (w : World) : (Instr.fieldAt 94 (.pointer (some p)) 1).run Try.prog w = .ok (.pointer (some (p.add 1))) w := by kernel_rfl
theorem fa_wayzgoosekit_Dice_2 (p : Addr) (w : World) : (Instr.fieldAt 94 (.pointer (some p)) 2).run Try.prog w = .ok (.pointer (some (p.add 2))) w := by kernel_rfl
theorem fa_api_Card_0 (p : Addr) (w : World) : (Instr.fieldAt 107 (.pointer (some p)) 0).run Try.prog w = .ok (.pointer (some (p.add 0))) w := by kernel_rfl
theorem fa_api_Card_1 (p : Addr) (w : World) : (Instr.fieldAt 107 (.pointer (some p)) 1).run Try.prog w = .ok (.pointer (some (p.add 1))) w := by kernel_rfl
theorem fa_bold_hand_0 (p : Addr) (w : World) : (Instr.fieldAt 110 (.pointer (some p)) 0).run Try.prog w = .ok (.pointer (some (p.add 0))) w := by kernel_rfl
theorem fa_bold_hand_1 (p : Addr) (w : World) : (Instr.fieldAt 110 (.pointer (some p)) 1).run Try.prog w = .ok (.pointer (some (p.add 1))) w := by kernel_rfl
theorem fa_bold_hand_2 (p : Addr) (w : World) : (Instr.fieldAt 110 (.pointer (some p)) 2).run Try.prog w = .ok (.pointer (some (p.add 2))) w := by kernel_rfl
theorem fa_bold_best_wayzgoose_bold_hand_0 (p : Addr) (w : World) : (Instr.fieldAt 114 (.pointer (some p)) 0).run Try.prog w = .ok (.pointer (some (p.add 0))) w := by kernel_rfl
theorem fa_bold_best_wayzgoose_bold_hand_1 (p : Addr) (w : World) : (Instr.fieldAt 114 (.pointer (some p)) 1).run Try.prog w = .ok (.pointer (some (p.add 3))) w := by kernel_rfl
theorem fa_bold_best_wayzgoose_bold_hand_2 (p : Addr) (w : World) : (Instr.fieldAt 114 (.pointer (some p)) 2).run Try.prog w = .ok (.pointer (some (p.add 4))) w := by kernel_rfl
theorem fa_api_Class_0 (p : Addr) (w : World) : (Instr.fieldAt 122 (.pointer (some p)) 0).run Try.prog w = .ok (.pointer (some (p.add 0))) w := by kernel_rfl
theorem fa_api_Class_1 (p : Addr) (w : World) : (Instr.fieldAt 122 (.pointer (some p)) 1).run Try.prog w = .ok (.pointer (some (p.add 1))) w := by kernel_rfl
theorem fa_bold_account_0 (p : Addr) (w : World) : (Instr.fieldAt 135 (.pointer (some p)) 0).run Try.prog w = .ok (.pointer (some (p.add 0))) w := by kernel_rfl
theorem fa_bold_account_1 (p : Addr) (w : World) : (Instr.fieldAt 135 (.pointer (some p)) 1).run Try.prog w = .ok (.pointer (some (p.add 1))) w := by kernel_rfl
theorem fa_bold_numbered_0 (p : Addr) (w : World) : (Instr.fieldAt 156 (.pointer (some p)) 0).run Try.prog w = .ok (.pointer (some (p.add 0))) w := by kernel_rfl
theorem fa_bold_numbered_1 (p : Addr) (w : World) : (Instr.fieldAt 156 (.pointer (some p)) 1).run Try.prog w = .ok (.pointer (some (p.add 1))) w := by kernel_rfl
theorem fa_bold_plain_0 (p : Addr) (w : World) : (Instr.fieldAt 160 (.pointer (some p)) 0).run Try.prog w = .ok (.pointer (some (p.add 0))) w := by kernel_rfl
theorem fa_bold_bold_0 (p : Addr) (w : World) : (Instr.fieldAt 162 (.pointer (some p)) 0).run Try.prog w = .ok (.pointer (some (p.add 0))) w := by kernel_rfl
theorem fa_bold_bold_1 (p : Addr) (w : World) : (Instr.fieldAt 162 (.pointer (some p)) 1).run Try.prog w = .ok (.pointer (some (p.add 1))) w := by kernel_rfl
theorem fa_bold_card_0 (p : Addr) (w : World) : (Instr.fieldAt 163 (.pointer (some p)) 0).run Try.prog w = .ok (.pointer (some (p.add 0))) w := by kernel_rfl
theorem fa_bold_card_1 (p : Addr) (w : World) : (Instr.fieldAt 163 (.pointer (some p)) 1).run Try.prog w = .ok (.pointer (some (p.add 1))) w := by kernel_rfl
theorem fa_trade_list_1 (p : Addr) (w : World) : (Instr.fieldAt 173 (.pointer (some p)) 1).run Try.prog w = .ok (.pointer (some (p.add 2))) w := by kernel_rfl
theorem fa_trade_list_2 (p : Addr) (w : World) : (Instr.fieldAt 173 (.pointer (some p)) 2).run Try.prog w = .ok (.pointer (some (p.add 3))) w := by kernel_rfl
theorem fa_trade_pointer_0 (p : Addr) (w : World) : (Instr.fieldAt 187 (.pointer (some p)) 0).run Try.prog w = .ok (.pointer (some (p.add 0))) w := by kernel_rfl
theorem fa_trade_article_1 (p : Addr) (w : World) : (Instr.fieldAt 189 (.pointer (some p)) 1).run Try.prog w = .ok (.pointer (some (p.add 1))) w := by kernel_rfl
theorem fa_trade_index_0 (p : Addr) (w : World) : (Instr.fieldAt 191 (.pointer (some p)) 0).run Try.prog w = .ok (.pointer (some (p.add 0))) w := by kernel_rfl
theorem al_int (w : World) : (Instr.alloc 3 true (.tuple #[])).run Try.prog w = .ok (.pointer (some ⟨w.heap.size, 0, none⟩)) (w.alloc (.cells #[(.int .i64 0)] 3 (0, 0))) := by kernel_rfl
theorem al_ints (w : World) : (Instr.alloc 22 true (.tuple #[])).run Try.prog w = .ok (.pointer (some ⟨w.heap.size, 0, none⟩)) (w.alloc (.cells #[(.slice none 0 0)] 22 (0, 0))) := by kernel_rfl
theorem al_api_Charges (w : World) : (Instr.alloc 33 true (.tuple #[])).run Try.prog w = .ok (.pointer (some ⟨w.heap.size, 0, none⟩)) (w.alloc (.cells #[(.int .i64 0), (.int .i64 0), (.int .i64 0), (.int .i64 0), (.int .i64 0), (.int .i64 0)] 33 (0, 0))) := by kernel_rfl
theorem al_api_Sales (w : World) : (Instr.alloc 36 true (.tuple #[])).run Try.prog w = .ok (.pointer (some ⟨w.heap.size, 0, none⟩)) (w.alloc (.cells #[(.int .i64 0), (.int .i64 0), (.int .i64 0), (.int .i64 0), (.int .i64 0), (.int .i64 0), (.slice none 0 0), (.slice none 0 0)] 36 (0, 0))) := by kernel_rfl
theorem al_api_Advert (w : World) : (Instr.alloc 39 true (.tuple #[])).run Try.prog w = .ok (.pointer (some ⟨w.heap.size, 0, none⟩)) (w.alloc (.cells #[(.int .i64 0), (.int .i64 0), (.int .i64 0)] 39 (0, 0))) := by kernel_rfl
theorem al_api_Trades (w : World) : (Instr.alloc 62 true (.tuple #[])).run Try.prog w = .ok (.pointer (some ⟨w.heap.size, 0, none⟩)) (w.alloc (.cells #[(.slice none 0 0), (.slice none 0 0)] 62 (0, 0))) := by kernel_rfl
theorem al_api_Head (w : World) : (Instr.alloc 68 true (.tuple #[])).run Try.prog w = .ok (.pointer (some ⟨w.heap.size, 0, none⟩)) (w.alloc (.cells #[(.string ⟨#[]⟩), (.int .i64 0), (.int .i64 0), (.slice none 0 0)] 68 (0, 0))) := by kernel_rfl
theorem al_api_Card (w : World) : (Instr.alloc 107 true (.tuple #[])).run Try.prog w = .ok (.pointer (some ⟨w.heap.size, 0, none⟩)) (w.alloc (.cells #[(.int .i64 0), (.int .i64 0)] 107 (0, 0))) := by kernel_rfl
theorem al_bold_hand (w : World) : (Instr.alloc 110 true (.tuple #[])).run Try.prog w = .ok (.pointer (some ⟨w.heap.size, 0, none⟩)) (w.alloc (.cells #[(.slice none 0 0), (.int .i64 0), (.int .i64 0)] 110 (0, 0))) := by kernel_rfl
theorem al_bold_best_wayzgoose_bold_hand (w : World) : (Instr.alloc 114 true (.tuple #[])).run Try.prog w = .ok (.pointer (some ⟨w.heap.size, 0, none⟩)) (w.alloc (.cells #[(.slice none 0 0), (.int .i64 0), (.int .i64 0), (.bool false), .nilFunc] 114 (0, 0))) := by kernel_rfl
theorem al_api_Class (w : World) : (Instr.alloc 122 true (.tuple #[])).run Try.prog w = .ok (.pointer (some ⟨w.heap.size, 0, none⟩)) (w.alloc (.cells #[(.string ⟨#[]⟩), (.int .i64 0)] 122 (0, 0))) := by kernel_rfl
theorem al_L_L_bool (w : World) : (Instr.alloc 125 true (.tuple #[])).run Try.prog w = .ok (.pointer (some ⟨w.heap.size, 0, none⟩)) (w.alloc (.cells #[(.slice none 0 0)] 125 (0, 0))) := by kernel_rfl
theorem al_bold_account (w : World) : (Instr.alloc 135 true (.tuple #[])).run Try.prog w = .ok (.pointer (some ⟨w.heap.size, 0, none⟩)) (w.alloc (.cells #[(.int .i64 0), .nilFunc] 135 (0, 0))) := by kernel_rfl
theorem al_chan_bold_numbered (w : World) : (Instr.alloc 151 true (.tuple #[])).run Try.prog w = .ok (.pointer (some ⟨w.heap.size, 0, none⟩)) (w.alloc (.cells #[(.chan none)] 151 (0, 0))) := by kernel_rfl
theorem al_chan_bool (w : World) : (Instr.alloc 152 true (.tuple #[])).run Try.prog w = .ok (.pointer (some ⟨w.heap.size, 0, none⟩)) (w.alloc (.cells #[(.chan none)] 152 (0, 0))) := by kernel_rfl
theorem al_bold_numbered (w : World) : (Instr.alloc 156 true (.tuple #[])).run Try.prog w = .ok (.pointer (some ⟨w.heap.size, 0, none⟩)) (w.alloc (.cells #[(.int .i64 0), (.int .i64 0)] 156 (0, 0))) := by kernel_rfl
theorem bd_api_Charges_0_1_2_3_4_5 (x1 : Int) (x2 : Int) (x3 : Int) (x4 : Int) (x5 : Int) (x6 : Int) (w : World) : (Instr.build 33 #[(0, (.int .i64 x1)), (1, (.int .i64 x2)), (2, (.int .i64 x3)), (3, (.int .i64 x4)), (4, (.int .i64 x5)), (5, (.int .i64 x6))]).run Try.prog w = .ok (.agg #[(.int .i64 x1), (.int .i64 x2), (.int .i64 x3), (.int .i64 x4), (.int .i64 x5), (.int .i64 x6)]) w := by kernel_rfl
theorem bd_api_Sales_0_1_2 (x1 : Int) (x2 : Int) (x3 : Int) (x4 : Int) (x5 : Int) (x6 : Int) (x7 : Option Addr) (x8 : Nat) (x9 : Nat) (x10 : Option Addr) (x11 : Nat) (x12 : Nat) (w : World) : (Instr.build 36 #[(0, (.agg #[(.int .i64 x1), (.int .i64 x2), (.int .i64 x3), (.int .i64 x4), (.int .i64 x5), (.int .i64 x6)])), (1, (.slice x7 x8 x9)), (2, (.slice x10 x11 x12))]).run Try.prog w = .ok (.agg #[(.int .i64 x1), (.int .i64 x2), (.int .i64 x3), (.int .i64 x4), (.int .i64 x5), (.int .i64 x6), (.slice x7 x8 x9), (.slice x10 x11 x12)]) w := by kernel_rfl
theorem bd_api_Advert_0_1_2 (x1 : Int) (x2 : Int) (x3 : Int) (w : World) : (Instr.build 39 #[(0, (.int .i64 x1)), (1, (.int .i64 x2)), (2, (.int .i64 x3))]).run Try.prog w = .ok (.agg #[(.int .i64 x1), (.int .i64 x2), (.int .i64 x3)]) w := by kernel_rfl
theorem bd_api_Trades_0_1 (x1 : Option Addr) (x2 : Nat) (x3 : Nat) (x4 : Option Addr) (x5 : Nat) (x6 : Nat) (w : World) : (Instr.build 62 #[(0, (.slice x1 x2 x3)), (1, (.slice x4 x5 x6))]).run Try.prog w = .ok (.agg #[(.slice x1 x2 x3), (.slice x4 x5 x6)]) w := by kernel_rfl
theorem bd_api_Head_0_1_2 (x1 : ByteArray) (x2 : Int) (x3 : Int) (w : World) : (Instr.build 68 #[(0, (.string x1)), (1, (.int .i64 x2)), (2, (.int .i64 x3))]).run Try.prog w = .ok (.agg #[(.string x1), (.int .i64 x2), (.int .i64 x3), (.slice none 0 0)]) w := by kernel_rfl
theorem bd_api_Head_0_1_2_3 (x1 : ByteArray) (x2 : Int) (x3 : Int) (x4 : Option Addr) (x5 : Nat) (x6 : Nat) (w : World) : (Instr.build 68 #[(0, (.string x1)), (1, (.int .i64 x2)), (2, (.int .i64 x3)), (3, (.slice x4 x5 x6))]).run Try.prog w = .ok (.agg #[(.string x1), (.int .i64 x2), (.int .i64 x3), (.slice x4 x5 x6)]) w := by kernel_rfl
theorem bd_api_Head_0_2_3 (x1 : ByteArray) (x2 : Int) (x3 : Option Addr) (x4 : Nat) (x5 : Nat) (w : World) : (Instr.build 68 #[(0, (.string x1)), (2, (.int .i64 x2)), (3, (.slice x3 x4 x5))]).run Try.prog w = .ok (.agg #[(.string x1), (.int .i64 0), (.int .i64 x2), (.slice x3 x4 x5)]) w := by kernel_rfl
theorem bd_wayzgoosekit_Dice_0_2 (x1 : Option Addr) (x2 : Nat) (x3 : Nat) (x4 : Int) (w : World) : (Instr.build 94 #[(0, (.slice x1 x2 x3)), (2, (.int .u64 x4))]).run Try.prog w = .ok (.agg #[(.slice x1 x2 x3), (.int .i64 0), (.int .u64 x4)]) w := by kernel_rfl
theorem bd_api_Card_0_1 (x1 : Int) (x2 : Int) (w : World) : (Instr.build 107 #[(0, (.int .i64 x1)), (1, (.int .i64 x2))]).run Try.prog w = .ok (.agg #[(.int .i64 x1), (.int .i64 x2)]) w := by kernel_rfl
theorem bd_bold_hand_0 (x1 : Option Addr) (x2 : Nat) (x3 : Nat) (w : World) : (Instr.build 110 #[(0, (.slice x1 x2 x3))]).run Try.prog w = .ok (.agg #[(.slice x1 x2 x3), (.int .i64 0), (.int .i64 0)]) w := by kernel_rfl
theorem bd_bold_best_wayzgoose_bold_hand_2 (x1 : Fn) (x2 : Array Value) (x3 : Array Value) (w : World) : (Instr.build 114 #[(2, (.func x1 x2 x3))]).run Try.prog w = .ok (.agg #[(.slice none 0 0), (.int .i64 0), (.int .i64 0), (.bool false), (.func x1 x2 x3)]) w := by kernel_rfl
theorem bd_api_Class_0 (x1 : ByteArray) (w : World) : (Instr.build 122 #[(0, (.string x1))]).run Try.prog w = .ok (.agg #[(.string x1), (.int .i64 0)]) w := by kernel_rfl
theorem bd_api_Class_0_1 (x1 : ByteArray) (x2 : Int) (w : World) : (Instr.build 122 #[(0, (.string x1)), (1, (.int .i64 x2))]).run Try.prog w = .ok (.agg #[(.string x1), (.int .i64 x2)]) w := by kernel_rfl
theorem bd_bold_numbered_0_1 (x1 : Int) (x2 : Int) (w : World) : (Instr.build 156 #[(0, (.int .i64 x1)), (1, (.int .i64 x2))]).run Try.prog w = .ok (.agg #[(.int .i64 x1), (.int .i64 x2)]) w := by kernel_rfl
theorem bd_bold_tariff_0_1_2_3 (x1 : Int) (x2 : Int) (x3 : Int) (x4 : Int) (w : World) : (Instr.build 158 #[(0, (.int .i64 x1)), (1, (.int .i64 x2)), (2, (.int .i64 x3)), (3, (.int .i64 x4))]).run Try.prog w = .ok (.agg #[(.int .i64 x1), (.int .i64 x2), (.int .i64 x3), (.int .i64 x4)]) w := by kernel_rfl
theorem bd_bold_plain_0 (x1 : Option Addr) (w : World) : (Instr.build 160 #[(0, (.pointer x1))]).run Try.prog w = .ok (.agg #[(.pointer x1)]) w := by kernel_rfl
theorem bd_bold_bold_0_1 (x1 : Option Addr) (x2 : Int) (w : World) : (Instr.build 162 #[(0, (.pointer x1)), (1, (.int .i64 x2))]).run Try.prog w = .ok (.agg #[(.pointer x1), (.int .i64 x2)]) w := by kernel_rfl
theorem bd_bold_card_0_1 (x1 : Option Addr) (x2 : Int) (w : World) : (Instr.build 163 #[(0, (.pointer x1)), (1, (.int .i64 x2))]).run Try.prog w = .ok (.agg #[(.pointer x1), (.int .i64 x2)]) w := by kernel_rfl
theorem bd_trade_list_0 (x1 : Option Addr) (x2 : Nat) (x3 : Nat) (x4 : Option Addr) (x5 : Nat) (x6 : Nat) (w : World) : (Instr.build 173 #[(0, (.agg #[(.slice x1 x2 x3), (.slice x4 x5 x6)]))]).run Try.prog w = .ok (.agg #[(.slice x1 x2 x3), (.slice x4 x5 x6), (.slice none 0 0), (.slice none 0 0)]) w := by kernel_rfl
theorem bd_trade_pointer_0 (x1 : Int) (w : World) : (Instr.build 187 #[(0, (.int .i64 x1))]).run Try.prog w = .ok (.agg #[(.int .i64 x1)]) w := by kernel_rfl
theorem bd_trade_article_0_1 (x1 : Int) (x2 : Option Addr) (x3 : Nat) (x4 : Nat) (w : World) : (Instr.build 189 #[(0, (.int .i64 x1)), (1, (.slice x2 x3 x4))]).run Try.prog w = .ok (.agg #[(.int .i64 x1), (.slice x2 x3 x4)]) w := by kernel_rfl
theorem bd_trade_index_0 (x1 : Option Addr) (x2 : Nat) (x3 : Nat) (w : World) : (Instr.build 191 #[(0, (.slice x1 x2 x3))]).run Try.prog w = .ok (.agg #[(.slice x1 x2 x3)]) w := by kernel_rfl
theorem bs_ints_1 (x1 : Int) (w : World) : (Instr.buildSlice 22 1 #[(0, (.int .i64 x1))]).run Try.prog w = .ok (.slice (some ⟨w.heap.size, 0, none⟩) 1 1) (w.alloc (.cells #[(.int .i64 x1)] 3 (0, 0))) := by kernel_rfl
theorem bs_ints_2 (x1 : Int) (x2 : Int) (w : World) : (Instr.buildSlice 22 2 #[(0, (.int .i64 x1)), (1, (.int .i64 x2))]).run Try.prog w = .ok (.slice (some ⟨w.heap.size, 0, none⟩) 2 2) (w.alloc (.cells #[(.int .i64 x1), (.int .i64 x2)] 3 (0, 0))) := by kernel_rfl
theorem bs_ints_3 (x1 : Int) (x2 : Int) (x3 : Int) (w : World) : (Instr.buildSlice 22 3 #[(0, (.int .i64 x1)), (1, (.int .i64 x2)), (2, (.int .i64 x3))]).run Try.prog w = .ok (.slice (some ⟨w.heap.size, 0, none⟩) 3 3) (w.alloc (.cells #[(.int .i64 x1), (.int .i64 x2), (.int .i64 x3)] 3 (0, 0))) := by kernel_rfl
theorem bs_ints_4 (x1 : Int) (x2 : Int) (x3 : Int) (x4 : Int) (w : World) : (Instr.buildSlice 22 4 #[(0, (.int .i64 x1)), (1, (.int .i64 x2)), (2, (.int .i64 x3)), (3, (.int .i64 x4))]).run Try.prog w = .ok (.slice (some ⟨w.heap.size, 0, none⟩) 4 4) (w.alloc (.cells #[(.int .i64 x1), (.int .i64 x2), (.int .i64 x3), (.int .i64 x4)] 3 (0, 0))) := by kernel_rfl
theorem bs_ints_6 (x1 : Int) (x2 : Int) (x3 : Int) (x4 : Int) (x5 : Int) (x6 : Int) (w : World) : (Instr.buildSlice 22 6 #[(0, (.int .i64 x1)), (1, (.int .i64 x2)), (2, (.int .i64 x3)), (3, (.int .i64 x4)), (4, (.int .i64 x5)), (5, (.int .i64 x6))]).run Try.prog w = .ok (.slice (some ⟨w.heap.size, 0, none⟩) 6 6) (w.alloc (.cells #[(.int .i64 x1), (.int .i64 x2), (.int .i64 x3), (.int .i64 x4), (.int .i64 x5), (.int .i64 x6)] 3 (0, 0))) := by kernel_rfl
theorem bs_L_api_Advert_1 (x1 : Int) (x2 : Int) (x3 : Int) (w : World) : (Instr.buildSlice 34 1 #[(0, (.agg #[(.int .i64 x1), (.int .i64 x2), (.int .i64 x3)]))]).run Try.prog w = .ok (.slice (some ⟨w.heap.size, 0, none⟩) 1 1) (w.alloc (.cells #[(.int .i64 x1), (.int .i64 x2), (.int .i64 x3)] 39 (0, 0))) := by kernel_rfl
theorem bs_L_api_Advert_2 (x1 : Int) (x2 : Int) (x3 : Int) (x4 : Int) (x5 : Int) (x6 : Int) (w : World) : (Instr.buildSlice 34 2 #[(0, (.agg #[(.int .i64 x1), (.int .i64 x2), (.int .i64 x3)])), (1, (.agg #[(.int .i64 x4), (.int .i64 x5), (.int .i64 x6)]))]).run Try.prog w = .ok (.slice (some ⟨w.heap.size, 0, none⟩) 2 2) (w.alloc (.cells #[(.int .i64 x1), (.int .i64 x2), (.int .i64 x3), (.int .i64 x4), (.int .i64 x5), (.int .i64 x6)] 39 (0, 0))) := by kernel_rfl
theorem bs_L_api_Advert_3 (x1 : Int) (x2 : Int) (x3 : Int) (x4 : Int) (x5 : Int) (x6 : Int) (x7 : Int) (x8 : Int) (x9 : Int) (w : World) : (Instr.buildSlice 34 3 #[(0, (.agg #[(.int .i64 x1), (.int .i64 x2), (.int .i64 x3)])), (1, (.agg #[(.int .i64 x4), (.int .i64 x5), (.int .i64 x6)])), (2, (.agg #[(.int .i64 x7), (.int .i64 x8), (.int .i64 x9)]))]).run Try.prog w = .ok (.slice (some ⟨w.heap.size, 0, none⟩) 3 3) (w.alloc (.cells #[(.int .i64 x1), (.int .i64 x2), (.int .i64 x3), (.int .i64 x4), (.int .i64 x5), (.int .i64 x6), (.int .i64 x7), (.int .i64 x8), (.int .i64 x9)] 39 (0, 0))) := by kernel_rfl
theorem bs_L_api_Card_0  (w : World) : (Instr.buildSlice 49 0 #[]).run Try.prog w = .ok (.slice (some ⟨w.heap.size, 0, none⟩) 0 0) (w.alloc (.cells #[] 107 (0, 0))) := by kernel_rfl
theorem bs_L_api_Card_1 (x1 : Int) (x2 : Int) (w : World) : (Instr.buildSlice 49 1 #[(0, (.agg #[(.int .i64 x1), (.int .i64 x2)]))]).run Try.prog w = .ok (.slice (some ⟨w.heap.size, 0, none⟩) 1 1) (w.alloc (.cells #[(.int .i64 x1), (.int .i64 x2)] 107 (0, 0))) := by kernel_rfl
theorem bs_L_api_Card_3 (x1 : Int) (x2 : Int) (x3 : Int) (x4 : Int) (x5 : Int) (x6 : Int) (w : World) : (Instr.buildSlice 49 3 #[(0, (.agg #[(.int .i64 x1), (.int .i64 x2)])), (1, (.agg #[(.int .i64 x3), (.int .i64 x4)])), (2, (.agg #[(.int .i64 x5), (.int .i64 x6)]))]).run Try.prog w = .ok (.slice (some ⟨w.heap.size, 0, none⟩) 3 3) (w.alloc (.cells #[(.int .i64 x1), (.int .i64 x2), (.int .i64 x3), (.int .i64 x4), (.int .i64 x5), (.int .i64 x6)] 107 (0, 0))) := by kernel_rfl
theorem bs_intss_1 (x1 : Option Addr) (x2 : Nat) (x3 : Nat) (w : World) : (Instr.buildSlice 53 1 #[(0, (.slice x1 x2 x3))]).run Try.prog w = .ok (.slice (some ⟨w.heap.size, 0, none⟩) 1 1) (w.alloc (.cells #[(.slice x1 x2 x3)] 22 (0, 0))) := by kernel_rfl
theorem bs_L_api_Class_4 (x1 : ByteArray) (x2 : Int) (x3 : ByteArray) (x4 : Int) (x5 : ByteArray) (x6 : Int) (x7 : ByteArray) (x8 : Int) (w : World) : (Instr.buildSlice 59 4 #[(0, (.agg #[(.string x1), (.int .i64 x2)])), (1, (.agg #[(.string x3), (.int .i64 x4)])), (2, (.agg #[(.string x5), (.int .i64 x6)])), (3, (.agg #[(.string x7), (.int .i64 x8)]))]).run Try.prog w = .ok (.slice (some ⟨w.heap.size, 0, none⟩) 4 4) (w.alloc (.cells #[(.string x1), (.int .i64 x2), (.string x3), (.int .i64 x4), (.string x5), (.int .i64 x6), (.string x7), (.int .i64 x8)] 122 (0, 0))) := by kernel_rfl
theorem bs_L_api_Head_6 (x1 : ByteArray) (x2 : Int) (x3 : Int) (x4 : Option Addr) (x5 : Nat) (x6 : Nat) (x7 : ByteArray) (x8 : Int) (x9 : Int) (x10 : Option Addr) (x11 : Nat) (x12 : Nat) (x13 : ByteArray) (x14 : Int) (x15 : Int) (x16 : Option Addr) (x17 : Nat) (x18 : Nat) (x19 : ByteArray) (x20 : Int) (x21 : Int) (x22 : Option Addr) (x23 : Nat) (x24 : Nat) (x25 : ByteArray) (x26 : Int) (x27 : Int) (x28 : Option Addr) (x29 : Nat) (x30 : Nat) (x31 : ByteArray) (x32 : Int) (x33 : Int) (x34 : Option Addr) (x35 : Nat) (x36 : Nat) (w : World) : (Instr.buildSlice 60 6 #[(0, (.agg #[(.string x1), (.int .i64 x2), (.int .i64 x3), (.slice x4 x5 x6)])), (1, (.agg #[(.string x7), (.int .i64 x8), (.int .i64 x9), (.slice x10 x11 x12)])), (2, (.agg #[(.string x13), (.int .i64 x14), (.int .i64 x15), (.slice x16 x17 x18)])), (3, (.agg #[(.string x19), (.int .i64 x20), (.int .i64 x21), (.slice x22 x23 x24)])), (4, (.agg #[(.string x25), (.int .i64 x26), (.int .i64 x27), (.slice x28 x29 x30)])), (5, (.agg #[(.string x31), (.int .i64 x32), (.int .i64 x33), (.slice x34 x35 x36)]))]).run Try.prog w = .ok (.slice (some ⟨w.heap.size, 0, none⟩) 6 6) (w.alloc (.cells #[(.string x1), (.int .i64 x2), (.int .i64 x3), (.slice x4 x5 x6), (.string x7), (.int .i64 x8), (.int .i64 x9), (.slice x10 x11 x12), (.string x13), (.int .i64 x14), (.int .i64 x15), (.slice x16 x17 x18), (.string x19), (.int .i64 x20), (.int .i64 x21), (.slice x22 x23 x24), (.string x25), (.int .i64 x26), (.int .i64 x27), (.slice x28 x29 x30), (.string x31), (.int .i64 x32), (.int .i64 x33), (.slice x34 x35 x36)] 68 (0, 0))) := by kernel_rfl
theorem bs_L_L_api_Card_3 (x1 : Option Addr) (x2 : Nat) (x3 : Nat) (x4 : Option Addr) (x5 : Nat) (x6 : Nat) (x7 : Option Addr) (x8 : Nat) (x9 : Nat) (w : World) : (Instr.buildSlice 72 3 #[(0, (.slice x1 x2 x3)), (1, (.slice x4 x5 x6)), (2, (.slice x7 x8 x9))]).run Try.prog w = .ok (.slice (some ⟨w.heap.size, 0, none⟩) 3 3) (w.alloc (.cells #[(.slice x1 x2 x3), (.slice x4 x5 x6), (.slice x7 x8 x9)] 49 (0, 0))) := by kernel_rfl
theorem bs_L_bold_hand_1 (x1 : Option Addr) (x2 : Nat) (x3 : Nat) (x4 : Int) (x5 : Int) (w : World) : (Instr.buildSlice 115 1 #[(0, (.agg #[(.slice x1 x2 x3), (.int .i64 x4), (.int .i64 x5)]))]).run Try.prog w = .ok (.slice (some ⟨w.heap.size, 0, none⟩) 1 1) (w.alloc (.cells #[(.slice x1 x2 x3), (.int .i64 x4), (.int .i64 x5)] 110 (0, 0))) := by kernel_rfl
theorem bs_L_bool_1 (x1 : Bool) (w : World) : (Instr.buildSlice 129 1 #[(0, (.bool x1))]).run Try.prog w = .ok (.slice (some ⟨w.heap.size, 0, none⟩) 1 1) (w.alloc (.cells #[(.bool x1)] 4 (0, 0))) := by kernel_rfl
theorem bs_L_trade_classes_1 (x1 : Int) (w : World) : (Instr.buildSlice 170 1 #[(0, (.int .u8 x1))]).run Try.prog w = .ok (.slice (some ⟨w.heap.size, 0, none⟩) 1 1) (w.alloc (.cells #[(.int .u8 x1)] 184 (0, 0))) := by kernel_rfl
theorem bs_L_trade_kind_1 (x1 : Nat) (x2 : Value) (w : World) : (Instr.buildSlice 171 1 #[(0, (.iface x1 x2))]).run Try.prog w = .ok (.slice (some ⟨w.heap.size, 0, none⟩) 1 1) (w.alloc (.cells #[(.iface x1 x2)] 176 (0, 0))) := by kernel_rfl
theorem eqi_api_Card (a0 b0 : Int) (a1 b1 : Int) (w : World) : (Op.equalIn 10000 107 (.agg #[.int .i64 a0, .int .i64 a1]) (.agg #[.int .i64 b0, .int .i64 b1])).run Try.prog w = .ok (decide ((a0, a1) = (b0, b1))) w := by
  rw [run_equalIn_agg w 9999 107 _ _ (by simp only [Program.fieldsOf, Try.underlying107]) (by kernel_rfl)]; simp only [Program.fieldsOf, Try.underlying107]
  by_cases h0 : a0 = b0 <;> by_cases h1 : a1 = b1 <;>
    simp [Op.eqFields, part, isAgg, run_equalIn_int _ 9998 3 .i64 .i64 _ _ Try.underlying3, run_underlying Try.underlying3, h0, h1]
theorem neq_api_Card (a0 b0 : Int) (a1 b1 : Int) (w : World) : (binOp .neq 107 (.agg #[.int .i64 a0, .int .i64 a1]) (.agg #[.int .i64 b0, .int .i64 b1])).run Try.prog w = .ok (.bool (decide (¬ (a0, a1) = (b0, b1)))) w := by rw [run_neq_struct, eqi_api_Card, decide_not]; rfl
theorem eqg_api_Card (op : BinOp) (x y : Operand) (xs ys : Array Value) (w : World) : (eqGuard op 107 x y (.agg xs) (.agg ys)).run Try.prog w = .ok () w := run_eqGuard_agg w op 107 x y xs ys (by kernel_rfl)
end T
end Go.Proofs.Ytdlbbfcfahahdaa
end
section
namespace Go.W
universe u
open Go Go.RowKit
class El (α : Type) extends Inhabited α where
  cells : α → List Value
  sz : Nat
  len : ∀ a, (cells a).length = sz
  one : ∀ a, ∀ u ∈ cells a, u.oneCell' = true
def rows {α : Type} [El α] (l : List α) : List Value := l.flatMap El.cells
instance : El Str where
  default := []
  cells s := [str s]
  sz := 1
  len _ := rfl
  one a u h := by simp at h; subst h; rfl
instance : El Int where
  default := 0
  cells n := [int n]
  sz := 1
  len _ := rfl
  one a u h := by simp at h; subst h; rfl
instance : El UInt8 where
  default := 0
  cells n := [.int .u8 n.toNat]
  sz := 1
  len _ := rfl
  one a u h := by simp at h; subst h; rfl
abbrev Mk := Int × Int × Str
instance : El Mk where
  default := (0, 0, [])
  cells m := [int m.1, int m.2.1, str m.2.2]
  sz := 3
  len _ := rfl
  one a u h := by simp at h; rcases h with h | h | h <;> subst h <;> rfl
structure Sl (α : Type) where
  a : Option Addr
  c : Nat
  l : List α
instance {α : Type} : El (Sl α) where
  default := ⟨none, 0, []⟩
  cells p := [.slice p.a p.l.length p.c]
  sz := 1
  len _ := rfl
  one a u h := by simp at h; subst h; rfl
section
variable {α : Type} [El α]
theorem rows_nil : rows ([] : List α) = [] := rfl
theorem rows_cons (a : α) (l : List α) : rows (a :: l) = El.cells a ++ rows l := rfl
theorem rows_append (l l' : List α) : rows (l ++ l') = rows l ++ rows l' := by simp [rows]
theorem rows_len (l : List α) : (rows l).length = l.length * El.sz α := by
  induction l with
  | nil => simp [rows_nil]
  | cons a l ih => rw [rows_cons, List.length_append, El.len, ih, List.length_cons, Nat.add_mul, Nat.one_mul, Nat.add_comm]
theorem rows_one (l : List α) : ∀ u ∈ rows l, u.oneCell' = true := by
  intro u hu; obtain ⟨a, _, h⟩ := List.mem_flatMap.1 hu; exact El.one a u h
theorem rows_drop (l : List α) (k : Nat) : (rows l).drop (k * El.sz α) = rows (l.drop k) := by
  induction l generalizing k with
  | nil => simp [rows_nil]
  | cons a l ih =>
    cases k with
    | zero => simp
    | succ k =>
      rw [rows_cons, List.drop_succ_cons, ← ih, List.drop_append, El.len, List.drop_eq_nil_of_le (by rw [El.len, Nat.succ_mul]; omega), List.nil_append]
      congr 1
      rw [Nat.succ_mul]
      omega
theorem rows_get' (l : List α) (i j : Nat) (hi : i < l.length) (hj : j < El.sz α) : (rows l)[i * El.sz α + j]? = (El.cells (l.getD i default))[j]? := by
  have h := congrArg (·[j]?) (rows_drop l i); simp only [List.getElem?_drop] at h; rw [h, List.drop_eq_getElem_cons hi, rows_cons, List.getElem?_append_left (by rw [El.len]; exact hj)]
  simp [List.getD_eq_getElem?_getD, hi]
theorem rows_get {l : List α} {i j : Nat} {v : Value} (hi : i < l.length) (hv : (El.cells (l.getD i default))[j]? = some v) : (rows l)[i * El.sz α + j]? = some v := by
  have hj : j < El.sz α := by
    have := (List.getElem?_eq_some_iff.1 hv).1
    rwa [El.len] at this
  rw [rows_get' l i j hi hj, hv]
theorem rows_get0 {l : List α} {i : Nat} {v : Value} (hi : i < l.length) (hv : (El.cells (l.getD i default))[0]? = some v) : (rows l)[i * El.sz α]? = some v := rows_get (j := 0) hi hv
theorem rows_all {l : List α} {i : Nat} (hi : i < l.length) : ∀ j u, (El.cells (l.getD i default))[j]? = some u → (rows l)[i * El.sz α + j]? = some u := fun j u h => rows_get hi h
theorem rows_lt {l : List α} {i : Nat} (hi : i < l.length) (h0 : 0 < El.sz α) : i * El.sz α < (rows l).length := by
  rw [rows_len]; exact Nat.mul_lt_mul_of_pos_right hi h0
end
theorem r_conv {c : Cx} {Q : Exit → Act → World → Prop} {fr : Fr} {hp : Hp} {L : List Fact} {ops : Array Oper} {rest : List Oper} {d : Tmp} {ty : TypeId} {pos : String} {af : Array Edge}
    {s t : TypeId} {x : Operand} {ks k k' : IntKind} {a : Int} (z : Int) (hd : Nat.blt d c.n = true) (hs : c.P.underlying s = some (.int ks)) (ht : c.P.underlying t = some (.int k')) (hx : ev fr x = some (.int k a)) (hz : k'.wrap a = z)
    (kk : HL c ops Q rest ((d, .int k' z) :: fr) hp L) : HL c ops Q (⟨some d, .convert s t x, ty, pos, af, none⟩ :: rest) fr hp L :=
  hl_val _ rfl rfl hd (fun a' w ha _ => by
    simp only [execOp, ha.ev hx, Sem.run_bind, convert, run_underlying hs, run_underlying ht, Result.andThen_ok]; rw [← hz]
    cases ks <;> rfl) kk
theorem r_rem {c : Cx} {Q : Exit → Act → World → Prop} {fr : Fr} {hp : Hp} {L : List Fact} {ops : Array Oper} {rest : List Oper} {d : Tmp} {ty : TypeId} {pos : String} {af : Array Edge}
    {t yt : TypeId} {x y : Operand} {kd : IntKind} {a b : Int} (hd : Nat.blt d c.n = true) (hx : ev fr x = some (.int kd a)) (hy : ev fr y = some (.int kd b)) (hb : b ≠ 0)
    (kk : HL c ops Q rest ((d, .int kd (a.tmod b)) :: fr) hp L) : HL c ops Q (⟨some d, .binOp .rem t x y yt, ty, pos, af, none⟩ :: rest) fr hp L :=
  r_bin _ hd hx hy (fun _ => rfl) (fun w => by
    have : (binOp .rem t (.int kd a) (.int kd b)) = Op.intDiv .rem kd a b := by cases kd <;> rfl
    rw [this]
    simp [Op.intDiv, hb]) kk
theorem r_quo {c : Cx} {Q : Exit → Act → World → Prop} {fr : Fr} {hp : Hp} {L : List Fact} {ops : Array Oper} {rest : List Oper} {d : Tmp} {ty : TypeId} {pos : String} {af : Array Edge}
    {t yt : TypeId} {x y : Operand} {kd : IntKind} {a b : Int} (z : Int) (hd : Nat.blt d c.n = true) (hx : ev fr x = some (.int kd a)) (hy : ev fr y = some (.int kd b)) (hb : b ≠ 0) (hz : kd.wrap (a.tdiv b) = z)
    (kk : HL c ops Q rest ((d, .int kd z) :: fr) hp L) : HL c ops Q (⟨some d, .binOp .quo t x y yt, ty, pos, af, none⟩ :: rest) fr hp L :=
  r_bin _ hd hx hy (fun _ => rfl) (fun w => by
    have : (binOp .quo t (.int kd a) (.int kd b)) = Op.intDiv .quo kd a b := by cases kd <;> rfl
    rw [this]
    simp [Op.intDiv, hb, hz]) kk
theorem wrapU (n : Int) : 0 ≤ IntKind.u64.wrap n ∧ IntKind.u64.wrap n < 18446744073709551616 := by
  simp only [IntKind.wrap, IntKind.bits, IntKind.signed]
  simp
  omega
theorem r_elem {α : Type} [El α] {c : Cx} {Q : Exit → Act → World → Prop} {fr : Fr} {hp : Hp} {L : List Fact} {ops : Array Oper} {rest : List Oper} {d : Tmp} {ty : TypeId} {pos : String} {af : Array Edge}
    {t e : TypeId} {x i : Operand} {A : Option Addr} {n cp : Nat} {kd : IntKind} {z : Int} (l : List α) (j : Nat) (hd : Nat.blt d c.n = true) (ht : c.P.underlying t = some (.slice e)) (hz : Sz c.P e (El.sz α))
    (hx : ev fr x = some (.slice A n cp)) (hi : ev fr i = some (.int kd z)) (hjz : z = (j : Int)) (hr : Row A (rows l) ∈ L) (hn : n = l.length) (hj : j < l.length) (h0 : 0 < El.sz α)
    (k : HL c ops Q rest ((d, .pointer (some ((adr A).add (j * El.sz α)))) :: fr) hp L) : HL c ops Q (⟨some d, .indexAddr t x i, ty, pos, af, none⟩ :: rest) fr hp L :=
  r_indexAddr j hd ht hz hx hi hjz (by omega) hr (rows_lt hj h0) k
def Rows2 {α : Type} [El α] (A : Option Addr) (ps : List (Sl α)) : Fact where
  P w := (Row A (rows ps)).P w ∧ ∀ p ∈ ps, (Row p.a (rows p.l)).P w
  fp k := (Row A (rows ps)).fp k ∨ ∃ p ∈ ps, (Row p.a (rows p.l)).fp k
  st w w' h hP := ⟨(Row A (rows ps)).st w w' (fun k hk => h k (.inl hk)) hP.1, fun p hp => (Row p.a (rows p.l)).st w w' (fun k hk => h k (.inr ⟨p, hp, hk⟩)) (hP.2 p hp)⟩
  lt w hP k hk := by
    rcases hk with hk | ⟨p, hp, hk⟩
    · exact (Row A (rows ps)).lt w hP.1 k hk
    · exact (Row p.a (rows p.l)).lt w (hP.2 p hp) k hk
section
variable {c : Cx} {Q : Exit → Act → World → Prop} {fr : Fr} {hp : Hp} {L : List Fact} {ops : Array Oper} {rest : List Oper}
theorem wi_outer {α : Type} [El α] {b : Bx} {w : World} {A : Option Addr} {ps : List (Sl α)} (h : Rows2 A ps ∈ L) (hw : WI b w hp L) : WI b w hp (Row A (rows ps) :: L) :=
  wi_more hw (hw.fs _ h).1 (fun k hk => ⟨_, h, .inl hk⟩)
theorem wi_inner {α : Type} [El α] {b : Bx} {w : World} {A : Option Addr} {ps : List (Sl α)} {p : Sl α} (h : Rows2 A ps ∈ L) (hp' : p ∈ ps) (hw : WI b w hp L) : WI b w hp (Row p.a (rows p.l) :: L) :=
  wi_more hw ((hw.fs _ h).2 p hp') (fun k hk => ⟨_, h, .inr ⟨p, hp', hk⟩⟩)
theorem hl_outer {α : Type} [El α] {A : Option Addr} {ps : List (Sl α)} (h : Rows2 A ps ∈ L) (k : HL c ops Q rest fr hp (Row A (rows ps) :: L)) : HL c ops Q rest fr hp L := fun a w ha hw => k a w ha (wi_outer h hw)
theorem hl_inner {α : Type} [El α] {A : Option Addr} {ps : List (Sl α)} {p : Sl α} (h : Rows2 A ps ∈ L) (hp' : p ∈ ps) (k : HL c ops Q rest fr hp (Row p.a (rows p.l) :: L)) : HL c ops Q rest fr hp L := fun a w ha hw => k a w ha (wi_inner h hp' hw)
theorem hc_inner {α : Type} [El α] {A : Option Addr} {ps : List (Sl α)} {p : Sl α} {x : Code} (h : Rows2 A ps ∈ L) (hp' : p ∈ ps) (k : HC c x Q fr hp (Row p.a (rows p.l) :: L)) : HC c x Q fr hp L := fun a w ha hw => k a w ha (wi_inner h hp' hw)
variable {d : Tmp} {ty : TypeId} {pos : String} {af : Array Edge}
theorem p_t {x y z : Operand} {v : Value} {b : Bool} (hd : Nat.blt d c.n = true) (hx : ev fr x = some (.bool b)) (hb : b = true) (hy : ev fr y = some v) (k : HL c ops Q rest ((d, v) :: fr) hp L) : HL c ops Q (⟨some d, .pick x y z, ty, pos, af, none⟩ :: rest) fr hp L := by
  subst hb; exact r_pick_t hd hx hy k
theorem p_f {x y z : Operand} {v : Value} {b : Bool} (hd : Nat.blt d c.n = true) (hx : ev fr x = some (.bool b)) (hb : b = false) (hz : ev fr z = some v) (k : HL c ops Q rest ((d, v) :: fr) hp L) : HL c ops Q (⟨some d, .pick x y z, ty, pos, af, none⟩ :: rest) fr hp L := by
  subst hb; exact r_pick_f hd hx hz k
theorem c_t {x : Operand} {b : Bool} {thn els : Code} (hx : ev fr x = some (.bool b)) (hb : b = true) (ht : HC c thn Q fr hp L) : HC c (.cond x thn els) Q fr hp L := by subst hb; exact hc_cond_t hx ht
theorem c_f {x : Operand} {b : Bool} {thn els : Code} (hx : ev fr x = some (.bool b)) (hb : b = false) (hf : HC c els Q fr hp L) : HC c (.cond x thn els) Q fr hp L := by subst hb; exact hc_cond_f hx hf
theorem bt1 {b : Bool} (h : (b == true) = true) : b = true := by cases b <;> simp_all
theorem bt2 {b : Bool} (h : (b == false) = false) : b = true := by cases b <;> simp_all
theorem bf1 {b : Bool} (h : (b == false) = true) : b = false := by cases b <;> simp_all
theorem bf2 {b : Bool} (h : (b == true) = false) : b = false := by cases b <;> simp_all
theorem g_und {o : Oper} {j : Nat} {want : Bool} {t : Tmp} {v : Value} (ho : o.dst = some d) (hg : o.guard = some (j, want)) (hd : Nat.blt d c.n = true) (hj : (ops[j]?).bind (·.dst) = some t) (hv : lk fr t = some v) (hu : v = undef)
    (k : HL c ops Q rest ((d, undef) :: fr) hp L) : HL c ops Q (o :: rest) fr hp L := by
  subst hu; intro a w ha hw; refine wpL_skip ?_ ?_
  · rw [Region.wanted, hg]
    show (yielded ops a.tmps j == some want) = false; have h1 := ha.at_ t _ hv
    have : yielded ops a.tmps j = none := by
      unfold yielded; rw [hj]; simp only [Option.bind_some]
      cases h2 : a.tmps[t]? with
      | none => rfl
      | some u => simp [Array.getD_eq_getD_getElem?, h2, undef] at h1; rw [h1]
    rw [this]; rfl
  · rw [ho]; exact k _ _ (ha.put (by simpa using hd) _) hw
theorem g_split {dst : Option Tmp} {op : Op} {j : Nat} {want b : Bool} {t : Tmp} (hj : (ops[j]?).bind (·.dst) = some t) (hv : lk fr t = some (.bool b))
    (hy : (b == want) = true → HL c ops Q (⟨dst, op, ty, pos, af, some (j, want)⟩ :: rest) fr hp L) (hn : (b == want) = false → HL c ops Q (⟨dst, op, ty, pos, af, some (j, want)⟩ :: rest) fr hp L) :
    HL c ops Q (⟨dst, op, ty, pos, af, some (j, want)⟩ :: rest) fr hp L := by
  cases hb : (b == want)
  · exact hn hb
  · exact hy hb
theorem hb_split {O0 : Hp} {K : Env → Prop} {r : List Oper} {E : Env} {want b : Bool} {t : Tmp} (hv : lkE E t = some (.ex (.bool b))) (hy : (b == want) = true → HB c ops fr O0 hp L K r E) (hn : (b == want) = false → HB c ops fr O0 hp L K r E) : HB c ops fr O0 hp L K r E := by
  cases hb : (b == want)
  · exact hn hb
  · exact hy hb
theorem c_dec {x : Operand} {p : Prop} [Decidable p] {thn els : Code} (hx : ev fr x = some (.bool (decide p))) (ht : p → HC c thn Q fr hp L) (hf : ¬ p → HC c els Q fr hp L) : HC c (.cond x thn els) Q fr hp L :=
  hc_cond hx (fun h => ht (of_decide_eq_true h)) (fun h => hf (of_decide_eq_false h))
end
theorem m0 {α : Type u} {a  : α} {l : List α} : a ∈ a :: l := .head _
theorem m1 {α : Type u} {a x0 : α} {l : List α} : a ∈ x0 :: a :: l := .tail _ (.head _)
theorem m2 {α : Type u} {a x0 x1 : α} {l : List α} : a ∈ x0 :: x1 :: a :: l := .tail _ (.tail _ (.head _))
theorem perm3 {α : Type} (a b c : α) (l : List α) : (a :: b :: c :: l).Perm (c :: a :: b :: l) := by
  have h1 : (a :: b :: c :: l).Perm (a :: c :: b :: l) := (List.Perm.swap c b l).cons a; exact h1.trans (.swap c a _)
theorem perm2 {α : Type} (a b : α) (l : List α) : (a :: b :: l).Perm (b :: a :: l) := .swap b a l
theorem perm4 {α : Type} (a b c d : α) (l : List α) : (a :: b :: c :: d :: l).Perm (d :: a :: b :: c :: l) := ((perm3 b c d l).cons a).trans (.swap d a _)
end Go.W
end
section
namespace Go.W
open Go Go.RowKit
section
variable {c : Cx} {Q : Exit → Act → World → Prop} {fr : Fr} {hp : Hp} {L : List Fact} {ops : Array Oper} {rest : List Oper}
variable {d : Tmp} {ty : TypeId} {pos : String} {af : Array Edge}
theorem r_loadA {t e : TypeId} {x : Operand} {g : Nat} {cs : Array Value} {fz : Nat × Nat} {n : Nat} (hd : Nat.blt d c.n = true) (ht' : IsR c.P t) (hz' : Sz c.P t n) (hx : ev fr x = some (.pointer (some ⟨g, 0, none⟩))) (h : (g, Obj.cells cs e fz) ∈ hp) (hn : cs.size = n)
    (k : HL c ops Q rest ((d, .agg cs) :: fr) hp L) : HL c ops Q (⟨some d, .load t x, ty, pos, af, none⟩ :: rest) fr hp L :=
  r_loadS (cs := cs.toList) hd ht' hz' hx (by simpa using hn) (cells_own h (fun i u hu => by simpa using hu)) k
end
end Go.W
end
section
namespace Go.W
open Go Go.RowKit
abbrev Ment (κ : Type) := κ × Value × Nat
def entOf {κ : Type} (enc : κ → Value) (p : Ment κ) : MapEntry := ⟨enc p.1, p.2.1, p.2.2⟩
def mapO {κ : Type} (enc : κ → Value) (l : List (Ment κ)) (clk : Nat) : Obj := .map (l.map (entOf enc)).toArray clk
def findM {κ : Type} [DecidableEq κ] (k : κ) : List (Ment κ) → Nat → Option (Nat × Value)
  | [], _ => none
  | p :: l, i => if p.1 = k then some (i, p.2.1) else findM k l (i + 1)
def getM {κ : Type} [DecidableEq κ] (l : List (Ment κ)) (k : κ) : Option Value := (findM k l 0).map (·.2)
def putM {κ : Type} [DecidableEq κ] (l : List (Ment κ)) (k : κ) (v : Value) (clk : Nat) : List (Ment κ) :=
  match findM k l 0 with
  | some (i, _) => l.modify i fun p => (k, v, p.2.2)
  | none => l ++ [(k, v, clk)]
def clkM {κ : Type} [DecidableEq κ] (l : List (Ment κ)) (k : κ) (clk : Nat) : Nat := if (findM k l 0).isSome then clk else clk + 1
structure KeyC (P : Program) (kt : TypeId) {κ : Type} [DecidableEq κ] (enc : κ → Value) : Prop where
  chk : ∀ b k w, (Instr.checkKey b 10000 kt (enc k)).run P w = .ok () w
  find : ∀ k l w, (Instr.findKey kt (enc k) (l.map (entOf enc))).run P w = .ok (findM k l 0) w
  stays : ∀ k w, (Instr.keyThatStays (enc k) (enc k)).run P w = .ok (enc k) w
theorem findNow_int (k : Int) : ∀ (l : List (Ment Int)) (i : Nat), Instr.findNow (.int .i64) (int k) (l.map (entOf int)) i = some (findM k l i)
  | [], i => rfl
  | p :: l, i => by
    rw [List.map_cons, Instr.findNow]; simp only [Instr.sameNow, entOf, findM]
    by_cases h : p.1 = k
    · simp [h]
    · have h' : ¬ k = p.1 := fun e => h e.symm
      simp only [if_true, h, if_false, beq_eq_false_iff_ne.2 h']; exact findNow_int k l (i + 1)
theorem findNow_str (k : Str) : ∀ (l : List (Ment Str)) (i : Nat), Instr.findNow .string (str k) (l.map (entOf str)) i = some (findM k l i)
  | [], i => rfl
  | p :: l, i => by
    rw [List.map_cons, Instr.findNow]; simp only [str, Instr.sameNow, entOf, findM]
    have hb : ((ByteArray.mk k.toArray) == ByteArray.mk p.1.toArray) = decide (p.1 = k) := by
      rw [Bool.eq_iff_iff, MapKept.bytes_beq, decide_eq_true_iff]
      constructor
      · intro e
        injection e with e
        have := congrArg Array.toList e
        simpa using this.symm
      · intro e; rw [e]
    rw [hb]
    by_cases h : p.1 = k
    · simp [h]
    · simp only [h, decide_false, if_false]
      exact findNow_str k l (i + 1)
theorem KeyC.int {P : Program} {kt : TypeId} (h : P.underlying kt = some (.int .i64)) : KeyC P kt W.int where
  chk b k w := MapKept.run_checkKey h (by simp [MapKept.IsKey]) b 9999
  find k l w := MapKept.run_findKey h (findNow_int k l 0)
  stays k w := MapKept.run_keyThatStays (d := .int .i64) (by simp [MapKept.IsKey])
theorem KeyC.str {P : Program} {kt : TypeId} (h : P.underlying kt = some .string) : KeyC P kt W.str where
  chk b k w := MapKept.run_checkKey h (by simp [MapKept.IsKey, W.str]) b 9999
  find k l w := MapKept.run_findKey h (findNow_str k l 0)
  stays k w := MapKept.run_keyThatStays (d := .string) (by simp [MapKept.IsKey, W.str])
def pair (p : Int × Int) : Value := .agg #[W.int p.1, W.int p.2]
theorem part_int {P : Program} {e : TypeId} (he : P.underlying e = some (.int .i64)) (cs : Array Value) (i : Nat) (v : Value) (hv : cs[i]? = some v) (w : World) : (part e cs i).run P w = .ok v w := by
  have hagg : (isAgg e).run P w = .ok false w := by
    unfold isAgg; rw [Sem.run_bind, run_underlying he w]
    rfl
  simp [part, Sem.run_bind, hagg, hv]
theorem eq_int {P : Program} {e : TypeId} (he : P.underlying e = some (.int .i64)) (d : Nat) (a b : Int) (w : World) : (Op.equalIn (d + 1) e (W.int a) (W.int b)).run P w = .ok (a == b) w := by
  simp [Op.equalIn, run_underlying he]
theorem eq_pair {P : Program} {kt e : TypeId} (h : P.underlying kt = some (.array 2 e)) (he : P.underlying e = some (.int .i64)) (hz : Sz P e 1) (p q : Int × Int) (w : World) : (Op.equal kt (pair p) (pair q)).run P w = .ok (decide (p = q)) w := by
  have hs := size_of hz w
  have key : ∀ d, (Op.equalIn (d + 2) kt (pair p) (pair q)).run P w = .ok (decide (p = q)) w := by
    intro d; obtain ⟨a, b⟩ := p; obtain ⟨a', b'⟩ := q; have p0 := part_int he #[W.int a, W.int b] 0 (W.int a) rfl w; have p1 := part_int he #[W.int a, W.int b] 1 (W.int b) rfl w; have q0 := part_int he #[W.int a', W.int b'] 0 (W.int a') rfl w; have q1 := part_int he #[W.int a', W.int b'] 1 (W.int b') rfl w; unfold Op.equalIn; simp only [Sem.run_bind, run_underlying h, pair, hs, Result.andThen_ok, Std.Legacy.Range.forIn_eq_forIn_range', Std.Legacy.Range.size, Nat.sub_zero, Nat.reduceAdd, Nat.reduceSub, Nat.reduceDiv, List.range', List.forIn_cons, List.forIn_nil, Nat.zero_mul, Nat.mul_one, Nat.zero_add, p0, p1, q0, q1, eq_int he d]
    by_cases h1 : a = a'
    · subst h1
      by_cases h2 : b = b'
      · subst h2; simp [p1, eq_int he d]
      · simp [h2, p1, q1, eq_int he d]
    · simp [h1]
  exact key 9998
theorem findA_pair {P : Program} {kt e : TypeId} (h : P.underlying kt = some (.array 2 e)) (he : P.underlying e = some (.int .i64)) (hz : Sz P e 1) (k : Int × Int) (w : World) : ∀ (l : List (Ment (Int × Int))) (i : Nat), (Instr.findAsking kt (pair k) (l.map (entOf pair)) i).run P w = .ok (findM k l i) w
  | [], i => rfl
  | p :: l, i => by
    rw [List.map_cons, Instr.findAsking]; simp only [Sem.run_bind, entOf, eq_pair h he hz, Result.andThen_ok, findM]
    by_cases hk : p.1 = k
    · simp [hk]
    · have h' : ¬ k = p.1 := fun e => hk e.symm
      simp only [hk, h', decide_false, Bool.false_eq_true, if_false]; exact findA_pair h he hz k w l (i + 1)
theorem KeyC.pair {P : Program} {kt e : TypeId} (h : P.underlying kt = some (.array 2 e)) (he : P.underlying e = some (.int .i64)) (hz : Sz P e 1) : KeyC P kt W.pair where
  chk b k w := by
    have hs := size_of hz w; have p0 := part_int he #[W.int k.1, W.int k.2] 0 (W.int k.1) rfl w; have p1 := part_int he #[W.int k.1, W.int k.2] 1 (W.int k.2) rfl w; have c : ∀ (n : Int), (Instr.checkKey b 9999 e (W.int n)).run P w = .ok () w := fun n => MapKept.run_checkKey he (by simp [MapKept.IsKey]) b 9998; unfold Instr.checkKey
    simp [run_underlying h, W.pair, hs, Std.Legacy.Range.forIn_eq_forIn_range', List.range', p0, p1, c]
  find k l w := by
    unfold Instr.findKey; simp only [Sem.run_bind, run_underlying h, Result.andThen_ok]
    have : Instr.findNow (.array 2 e) (W.pair k) (l.map (entOf W.pair)) 0 = none ∨ (l = [] ∧ Instr.findNow (.array 2 e) (W.pair k) (l.map (entOf W.pair)) 0 = some none) := by
      cases l with
      | nil => exact .inr ⟨rfl, rfl⟩
      | cons p l => exact .inl rfl
    rcases this with h1 | ⟨rfl, h1⟩
    · rw [h1]
      exact findA_pair h he hz k w l 0
    · rw [h1]; rfl
  stays k w := by
    obtain ⟨a, b⟩ := k
    have : Instr.sameBits 10000 (W.pair (a, b)) (W.pair (a, b)) = true := by
      simp [Instr.sameBits, W.pair]
    unfold Instr.keyThatStays; rw [if_pos this]
    rfl
/-! ### Cuts as facts; perms -/
theorem perm_of {α : Type} {l l' : List α} (h : ∀ p : α → Bool, l.countP p = l'.countP p) : l.Perm l' := by
  classical
  refine List.perm_iff_count.2 fun a => ?_
  simpa [List.count] using h (· == a)
section
variable {c : Cx} {Q : Exit → Act → World → Prop} {fr : Fr} {hp : Hp} {L : List Fact} {ops : Array Oper} {rest : List Oper}
theorem hq_grown0 {e : TypeId} {sz n cap : Nat} {A : Option Addr} {xs : List Value} {og : Hp} {x : Exit} (hG : Grow e sz A n cap xs og) (k : HQ c Q x fr [] (Row A xs :: L)) : HQ c Q x fr og L := fun a w ha hw => k a w ha (wi_grown hG (by simpa using hw))
end
/-! ### The rules -/
def MapAt (b : Bx) (hp : Hp) (L : List Fact) (g : Nat) (o : Obj) : Prop := ∀ w, WI b w hp L → w.heap[g]? = some o
section
variable {κ : Type} [DecidableEq κ] {enc : κ → Value} {kt e : TypeId}
theorem map_own {b : Bx} {hp : Hp} {L : List Fact} {g : Nat} {o : Obj} (h : (g, o) ∈ hp) : MapAt b hp L g o := fun w hw => hw.own _ h
variable {c : Cx} {Q : Exit → Act → World → Prop} {fr : Fr} {hp : Hp} {L : List Fact} {ops : Array Oper} {rest : List Oper}
variable {d : Tmp} {ty : TypeId} {pos : String} {af : Array Edge}
theorem findM_at {k : κ} : ∀ (l : List (Ment κ)) (i j : Nat) (v : Value), findM k l i = some (j, v) → ∃ m p, j = i + m ∧ l[m]? = some p ∧ p.1 = k ∧ p.2.1 = v
  | [], i, j, v, h => by simp [findM] at h
  | p :: l, i, j, v, h => by
    rw [findM] at h
    split at h
    · rename_i e
      simp only [Option.some.injEq, Prod.mk.injEq] at h; exact ⟨0, p, by omega, rfl, e, h.2⟩
    · obtain ⟨m, q, h1, h2, h3⟩ := findM_at l (i + 1) j v h
      exact ⟨m + 1, q, by omega, by simpa using h2, h3⟩
omit [DecidableEq κ] in
theorem map_modify_ent {l : List (Ment κ)} {i : Nat} {k : κ} {v : Value} {p : Ment κ} (hp : l[i]? = some p) :
    ((l.map (entOf enc)).toArray.modify i fun x => { x with key := enc k, val := v }) = ((l.modify i fun p => (k, v, p.2.2)).map (entOf enc)).toArray := by
  apply Array.ext'
  simp only [Array.toList_modify]
  apply List.ext_getElem?
  intro n; simp only [List.getElem?_modify, List.getElem?_map]
  split
  · cases hl : l[n]? <;> simp [entOf]
  · simp
theorem r_insert {t : TypeId} {x y z : Operand} {g : Nat} {l : List (Ment κ)} {clk : Nat} {k : κ} {v : Value} {hp' : Hp} {o : Op} (K : KeyC c.P kt enc) (ho : o = .mapUpdate t x y z ∨ o = .insert t x y z) (ht : c.P.underlying t = some (.map kt e)) (hx : ev fr x = some (.map (some g))) (hy : ev fr y = some (enc k)) (hz : ev fr z = some v)
    (hpp : hp.Perm ((g, mapO enc l clk) :: hp')) (kk : HL c ops Q rest fr ((g, mapO enc (putM l k v clk) (clkM l k clk)) :: hp') L) : HL c ops Q (⟨none, o, ty, pos, af, none⟩ :: rest) fr hp L :=
  hl_unit (hok := by rcases ho with rfl | rfl <;> rfl) rfl rfl fun a w ha hw => by
    have hw' := hw.perm hpp; have hg := hw'.own (g, mapO enc l clk) (by simp); have hg' : w.heap[g]? = some (.map (l.map (entOf enc)).toArray clk) := hg; have hf := K.find k l w
    have hrun : (Instr.mapUpdate t (.map (some g)) (enc k) v).run c.P w = .ok () { w with heap := w.heap.setIfInBounds g (mapO enc (putM l k v clk) (clkM l k clk)) } := by
      unfold putM clkM
      cases hr : findM k l 0 with
      | none =>
        rw [hr] at hf; simp only [Instr.mapUpdate, Sem.run_bind, run_underlying ht, Result.andThen_ok, MapKept.run_getObj_map hg', K.chk, hf, MapKept.run_setObj_map _ hg']
        have : ((l.map (entOf enc)).toArray.push { key := enc k, val := v, born := clk }) = ((l ++ [(k, v, clk)]).map (entOf enc)).toArray := by
          apply Array.ext'; simp [entOf]
        rw [this]
        rfl
      | some p =>
        obtain ⟨i, u⟩ := p; rw [hr] at hf; obtain ⟨m, q, h1, h2, h3, h4⟩ := findM_at l 0 i u hr; have e1 : i = m := by omega
        subst e1
        have e2 : (((l.map (entOf enc)).toArray[i]?).map (·.key)).getD (enc k) = enc k := by
          simp [h2, entOf, h3]
        simp only [Instr.mapUpdate, Sem.run_bind, run_underlying ht, Result.andThen_ok, MapKept.run_getObj_map hg', K.chk, hf, e2, K.stays, MapKept.run_setObj_map _ hg', map_modify_ent h2]
        rfl
    refine ⟨{ w with heap := w.heap.setIfInBounds g (mapO enc (putM l k v clk) (clkM l k clk)) }, _, L, ?_, hw'.write (o' := mapO enc (putM l k v clk) (clkM l k clk)) ⟨rfl, rfl, rfl, by simp, fun j hj hn => by simp only [List.mem_singleton] at hn; simp [Array.getElem?_setIfInBounds_ne (Ne.symm hn)], Nat.le_refl _⟩ ?_, kk⟩
    · rcases ho with rfl | rfl <;> simp only [execOp, ha.ev hx, ha.ev hy, ha.ev hz, Sem.run_bind, hrun, Result.andThen_ok, Sem.run_pure]
    · have := lt_of_own hg
      simp only at this
      simp [this]
omit [DecidableEq κ] in
theorem r_makeMapM (enc : κ → Value) {t : TypeId} (hd : Nat.blt d c.n = true) (k : ∀ g, HL c ops Q rest ((d, .map (some g)) :: fr) ((g, mapO enc [] 0) :: hp) L) : HL c ops Q (⟨some d, .makeMap t none, ty, pos, af, none⟩ :: rest) fr hp L :=
  r_makeMap hd k
theorem findM_succ {k : κ} : ∀ (l : List (Ment κ)) (i : Nat), findM k l (i + 1) = (findM k l i).map fun p => (p.1 + 1, p.2)
  | [], i => rfl
  | p :: l, i => by
    simp only [findM]
    split
    · rfl
    · exact findM_succ l (i + 1)
theorem getM_cons (p : Ment κ) (l : List (Ment κ)) (k : κ) : getM (p :: l) k = if p.1 = k then some p.2.1 else getM l k := by
  unfold getM; simp only [findM]
  split
  · rfl
  · rw [findM_succ]; cases findM k l 0 <;> rfl
end
end Go.W
end
section
namespace Go.W
open Go Go.RowKit
section
variable {c : Cx} {fr : Fr} {hp : Hp} {L : List Fact}
theorem ret_row {β : Type} {k : Con β} {fn : Func} {w0 : World} (x : β) {t : Tmp} {ty e : TypeId} {g n : Nat} {cs : Array Value} {fz : Nat × Nat} (hres : fn.results = #[.cell t ty]) (hv : lk fr t = some (.pointer (some ⟨g, 0, none⟩))) (ht : IsR c.P ty) (hz : Sz c.P ty n) (hn : cs.size = n)
    (hm : (g, Obj.cells cs e fz) ∈ hp) (hk : k.val x = .agg cs) (hb : c.b = k.entry w0) (hi : k.inv x) (h2 : (k.hpO x).Sublist hp) (h3 : LSub L (k.LO x)) (hD : c.D = [] := by rfl) : HQ c (postB c.P fn (k.post w0)) .ret fr hp L :=
  ret_run x (fun a w ha hw => by
    obtain ⟨dd, ht, hr⟩ := ht; have h1 := hw.own _ hm; simp only at h1
    have hl : (loadVar ty ⟨g, 0, none⟩).run c.P w = .ok (.agg cs) w := by
      have hagg : (isAgg ty).run c.P w = .ok true w := by
        unfold isAgg; rw [Sem.run_bind, run_underlying ht w]
        cases dd <;> simp_all [TypeDesc.isRow]
      have hc := run_loadCells_list (P := c.P) w ⟨g, 0, none⟩ cs.toList (fun j u hu => by rw [add_mk, Nat.zero_add]; simp at hu; simp [World.cell?, h1, hu]); have hs := size_of hz w; simp only [loadVar, Sem.run_bind, hagg, Result.andThen_ok, if_true, hs, ← hn]; have e : cs.size = cs.toList.length := by simp
      rw [e, hc]
      simp
    have hv' := ha.at_ _ _ hv; rw [hk]; unfold results; rw [hres]; have hv2 : a.tmps[t]?.getD undef = .pointer (some ⟨g, 0, none⟩) := by simpa using hv'
    simp [hv2, asAddr, hl]) hb hi h2 h3 hD
end
section
variable {c : Cx} {Q : Exit → Act → World → Prop} {fr : Fr} {hp : Hp} {L : List Fact} {ops : Array Oper} {rest : List Oper}
variable {d : Tmp} {ty : TypeId} {pos : String} {af : Array Edge}
theorem r_loadB {t e : TypeId} {x : Operand} {g : Nat} {cs : Array Value} {fz : Nat × Nat} {n : Nat} (hd : Nat.blt d c.n = true) (ht' : IsR c.P t) (hz' : Sz c.P t n) (hx : ev fr x = some (.pointer (some ⟨g, 0, none⟩))) (h : Blk g (Obj.cells cs e fz) ∈ L) (hn : cs.size = n)
    (k : HL c ops Q rest ((d, .agg cs) :: fr) hp L) : HL c ops Q (⟨some d, .load t x, ty, pos, af, none⟩ :: rest) fr hp L :=
  r_loadS (cs := cs.toList) hd ht' hz' hx (by simpa using hn) (cells_blk h (fun i u hu => by simpa using hu)) k
theorem r_append_full {t e : TypeId} {x y : Operand} {sz bytes n m cp : Nat} {A B : Option Addr} {olds news : List Value} (n' : Nat) (xs' : List Value) (el : ElT c.P t e sz bytes) (hd : Nat.blt d c.n = true)
    (hx : ev fr x = some (.slice A n n)) (hy : ev fr y = some (.slice B m cp)) (hA : Row A olds ∈ L) (hlo : olds.length = n * sz) (hs : Src c.b hp L B m sz news) (hn' : n + m = n') (hxs : olds ++ news = xs') (hn : n' ≤ maxLen) (hby : n' * bytes ≤ 140737488355328)
    (k : ∀ A' cap', n' ≤ cap' → HL c ops Q rest ((d, .slice A' n' cap') :: fr) hp (Row A' xs' :: L)) :
    HL c ops Q (⟨some d, .call ⟨.builtin .append, #[x, y], #[t, t]⟩, ty, pos, af, none⟩ :: rest) fr hp L :=
  hl_gen rfl rfl hd fun a w ha hw => by
    subst hn'; subst hxs; obtain ⟨i, z, hi, hz, hsz, hb, hzs⟩ := el.i; have hrow := hw.fs _ hA
    have hgs : Go.Src c.P i.size t (.slice B m cp) m news w := by
      rcases hs.2.2 with ⟨rfl, rfl⟩ | h
      · have : news = [] := List.eq_nil_of_length_eq_zero (by simpa using hs.1)
        subst this; exact Go.Src.ofNil w el.u cp
      · obtain ⟨ad, rfl, hc⟩ := h w hw
        exact Go.Src.ofSlice w el.u ad m cp news (by rw [hsz]; exact hs.1) hc hs.2.1
    by_cases hm : m = 0
    · subst hm
      have : news = [] := List.eq_nil_of_length_eq_zero (by simpa using hs.1); subst this; refine ⟨.slice A n n, w, hp, Row A (olds ++ []) :: L, ?_, hw.weak (.refl _) ?_ |>.add (by simpa using hrow) (fun p hp => by simpa using hw.ap _ hA p hp) (fun k hk => hw.al _ hA k (by simpa using hk)), k A n (Nat.le_refl _)⟩
      · have := run_append_nothing w t t ty e i el.u hi A n n (Nat.le_refl _) (.slice B 0 cp) hgs
        simp only [execOp, resolve, invoke, builtin, Sem.run_bind, Sem.run_pure, Result.andThen_ok, List.map_toArray, List.map_cons, List.map_nil, ha.ev hx, ha.ev hy, this]
      · exact fun _ h => h
    · have hold : (Builtin.firstCells i.size n (.slice A n n)).run c.P w.drew = .ok olds.toArray w.drew := by
        cases A with
        | none =>
          have : olds = [] := by
            cases olds with
            | nil => rfl
            | cons u r => obtain ⟨ad, e, _⟩ := hrow 0 u rfl; cases e
          subst this
          have hn0 : n = 0 := by
            have := el.pos; simp only [List.length_nil] at hlo
            rcases Nat.eq_zero_or_pos n with h | h
            · exact h
            · have := Nat.mul_pos h this; omega
          subst hn0; exact run_firstCells_none _ _ _ _ _
        | some ad => exact run_firstCells_some _ _ _ _ _ _ olds (by rw [hsz]; exact hlo) (fun j u hu => by
            obtain ⟨ad', e, hc⟩ := hrow j u hu
            cases e
            simpa using hc)
      have hrun := run_append_grow_src w t t ty e i z el.u hi hz A n n olds hold (.slice B m cp) m news hgs (by omega) (by unfold maxLen at hn; omega) (growslice_fits (by omega) (by rw [hb]; exact hby)); have h2 := (hw.quiet (ext_drew w)).alloc (.cells ((olds ++ news).toArray ++ Builtin.zeroCells z.cells (grownCap w (n + m) n e - (n + m))) e (0, 0)); refine ⟨_, w.drew.alloc (.cells ((olds ++ news).toArray ++ Builtin.zeroCells z.cells (grownCap w (n + m) n e - (n + m))) e), hp, Row (some ⟨w.heap.size, 0, none⟩) (olds ++ news) :: L, ?_, wi_letgo h2 ?_, k (some ⟨w.heap.size, 0, none⟩) (grownCap w (n + m) n e) (grownCap_ge w (n + m) n e)⟩
      · simp only [execOp, resolve, invoke, builtin, Sem.run_bind, Sem.run_pure, Result.andThen_ok, List.map_toArray, List.map_cons, List.map_nil, ha.ev hx, ha.ev hy, hrun]
      · exact ⟨(Builtin.zeroCells z.cells (grownCap w (n + m) n e - (n + m))).toList, by simp⟩
end
section
variable {κ : Type} [DecidableEq κ] {enc : κ → Value} {kt e : TypeId}
variable {c : Cx} {Q : Exit → Act → World → Prop} {fr : Fr} {hp : Hp} {L : List Fact} {ops : Array Oper} {rest : List Oper}
variable {d : Tmp} {ty : TypeId} {pos : String} {af : Array Edge}
theorem getM_mem {l : List (Ment κ)} {k : κ} {v : Value} (h : getM l k = some v) : ∃ p ∈ l, p.1 = k ∧ p.2.1 = v := by
  unfold getM at h
  cases hf : findM k l 0 with
  | none => rw [hf] at h; cases h
  | some q =>
    obtain ⟨i, u⟩ := q; rw [hf] at h; simp only [Option.map_some, Option.some.injEq] at h; subst h; obtain ⟨m, p, _, h2, h3, h4⟩ := findM_at l 0 i u hf; exact ⟨p, List.mem_of_getElem? h2, h3, h4⟩
end
theorem sub_of_count {α : Type} {l' : List α} : ∀ {l : List α}, (∀ p : α → Bool, l'.countP p ≤ l.countP p) → ∃ r, l.Perm (l' ++ r) := by
  classical
  induction l' with
  | nil => intro l _; exact ⟨l, .refl _⟩
  | cons a t ih =>
    intro l h; have h1 := h (fun x => decide (x = a)); rw [List.countP_cons_of_pos (by simp)] at h1
    have ha : a ∈ l := by
      have : 0 < l.countP (fun x => decide (x = a)) := by omega
      obtain ⟨x, hx, e⟩ := List.countP_pos_iff.1 this
      simp at e
      exact e ▸ hx
    have hp := List.perm_cons_erase ha
    obtain ⟨r, hr⟩ := ih (l := l.erase a) (fun p => by
      have h2 := h p; have h3 := hp.countP_eq p; rw [List.countP_cons] at h2 h3
      omega)
    exact ⟨r, hp.trans (hr.cons a)⟩
theorem WI.count {b : Bx} {w : World} {hp hp' : Hp} {L L' : List Fact} (h : WI b w hp L) (hc : ∀ p : Nat × Obj → Bool, hp'.countP p ≤ hp.countP p) (h2 : ∀ F ∈ L', F ∈ L) : WI b w hp' L' := by
  obtain ⟨r, hr⟩ := sub_of_count hc; exact (h.perm hr).weak (List.sublist_append_left _ _) h2
section
variable {c : Cx} {Q : Exit → Act → World → Prop} {fr : Fr} {hp : Hp} {L : List Fact} {ops : Array Oper} {rest : List Oper}
end
section
variable {c : Cx} {Q : Exit → Act → World → Prop} {fr : Fr} {hp : Hp} {L : List Fact} {ops : Array Oper} {rest : List Oper}
theorem wi_letgoB {b : Bx} {w : World} {g : Nat} {o : Obj} (h : WI b w ((g, o) :: hp) L) : WI b w hp (Blk g o :: L) := h.letgo (h.own (g, o) (by simp)) (fun k hk => hk)
theorem hc_letgoB {g : Nat} {o : Obj} {x : Code} (k : HC c x Q fr hp (Blk g o :: L)) : HC c x Q fr ((g, o) :: hp) L := fun a w ha hw => k a w ha (wi_letgoB hw)
theorem hl_letgoB {g : Nat} {o : Obj} (k : HL c ops Q rest fr hp (Blk g o :: L)) : HL c ops Q rest fr ((g, o) :: hp) L := fun a w ha hw => k a w ha (wi_letgoB hw)
end
def Facts (Fs : List Fact) : Fact where
  P w := ∀ F ∈ Fs, F.P w
  fp k := ∃ F ∈ Fs, F.fp k
  st w w' h hP F hF := F.st w w' (fun k hk => h k ⟨F, hF, hk⟩) (hP F hF)
  lt w hP k hk := by obtain ⟨F, hF, hk⟩ := hk; exact F.lt w (hP F hF) k hk
section
variable {c : Cx} {Q : Exit → Act → World → Prop} {fr : Fr} {hp : Hp} {L : List Fact} {ops : Array Oper} {rest : List Oper}
theorem wi_pick {b : Bx} {w : World} {Fs : List Fact} {F : Fact} (h : Facts Fs ∈ L) (hF : F ∈ Fs) (hw : WI b w hp L) : WI b w hp (F :: L) := wi_more hw (hw.fs _ h F hF) (fun k hk => ⟨_, h, F, hF, hk⟩)
theorem hl_pick {Fs : List Fact} {F : Fact} (h : Facts Fs ∈ L) (hF : F ∈ Fs) (k : HL c ops Q rest fr hp (F :: L)) : HL c ops Q rest fr hp L := fun a w ha hw => k a w ha (wi_pick h hF hw)
theorem wi_facts {b : Bx} {w : World} {Fs : List Fact} (h : ∀ F ∈ Fs, F ∈ L ∨ ∃ Gs, Facts Gs ∈ L ∧ F ∈ Gs) (hw : WI b w hp L) : WI b w hp (Facts Fs :: L) :=
  wi_more hw (fun F hF => by
    rcases h F hF with h1 | ⟨Gs, h1, h2⟩
    · exact hw.fs _ h1
    · exact hw.fs _ h1 F h2) (fun k hk => by
    obtain ⟨F, hF, hk⟩ := hk
    rcases h F hF with h1 | ⟨Gs, h1, h2⟩
    · exact ⟨F, h1, hk⟩
    · exact ⟨_, h1, F, h2, hk⟩)
theorem hc_facts {Fs : List Fact} {x : Code} (h : ∀ F ∈ Fs, F ∈ L ∨ ∃ Gs, Facts Gs ∈ L ∧ F ∈ Gs) (k : HC c x Q fr hp (Facts Fs :: L)) : HC c x Q fr hp L := fun a w ha hw => k a w ha (wi_facts h hw)
theorem hq_facts {Fs : List Fact} {x : Exit} (h : ∀ F ∈ Fs, F ∈ L ∨ ∃ Gs, Facts Gs ∈ L ∧ F ∈ Gs) (k : HQ c Q x fr hp (Facts Fs :: L)) : HQ c Q x fr hp L := fun a w ha hw => k a w ha (wi_facts h hw)
end
section
variable {c : Cx} {Q : Exit → Act → World → Prop} {fr : Fr} {hp : Hp} {L : List Fact} {ops : Array Oper} {rest : List Oper}
theorem hq_nilrow {e : Exit} {α : Type} [El α] (k : HQ c Q e fr hp (Row none (rows ([] : List α)) :: L)) : HQ c Q e fr hp L := hq_more (F := Row none (rows ([] : List α))) (fun w _ => Row.nil _ w) (fun k hk => by obtain ⟨_, e, _⟩ := hk; cases e) k
theorem hl_nilrow {α : Type} [El α] (k : HL c ops Q rest fr hp (Row none (rows ([] : List α)) :: L)) : HL c ops Q rest fr hp L := hl_more (F := Row none (rows ([] : List α))) (fun w _ => Row.nil _ w) (fun k hk => by obtain ⟨_, e, _⟩ := hk; cases e) k
end
end Go.W
end
