/- Texts of this claim, one behind another. -/
import Derived.Test.YtdlbbfcfahahdaaGreatProg
import Derived.KernelRfl
import Derived.Laws.StructEq
import Derived.Laws.IdiomStrings
import Derived.MapKept
import Derived.Laws.Rows
import Derived.Deep.AppendSrc
import Derived.Deep.Upon
import Derived.Test.YtdlbbfcfahahdaaGreatAAd
set_option linter.unusedVariables false
set_option linter.unusedSimpArgs false
section
namespace Go.Proofs.YtdlbbfcfahahdaaGreat
open Go Go.W
theorem mixed : Tryz.prog.follows .mixedOrders = true := by kernel_rfl
namespace F
abbrev law09_BoldBills : Nat := 3
theorem law09_BoldBills_f : Tryz.prog.funcs[law09_BoldBills]? = some Tryz.f3 := Tryz.func3
abbrev law09_BoldFound : Nat := 4
abbrev law09_large : Nat := 5
theorem law09_large_f : Tryz.prog.funcs[law09_large]? = some Tryz.f5 := Tryz.func5
theorem law09_large_cb : Callable Tryz.prog law09_large := ⟨⟨_, Tryz.func5, by kernel_rfl, by kernel_rfl⟩⟩
abbrev law09_paying : Nat := 6
theorem law09_paying_f : Tryz.prog.funcs[law09_paying]? = some Tryz.f6 := Tryz.func6
theorem law09_paying_cb : Callable Tryz.prog law09_paying := ⟨⟨_, Tryz.func6, by kernel_rfl, by kernel_rfl⟩⟩
abbrev kit_NewDice : Nat := 7
theorem kit_NewDice_f : Tryz.prog.funcs[kit_NewDice]? = some Tryz.f7 := Tryz.func7
theorem kit_NewDice_cb : Callable Tryz.prog kit_NewDice := ⟨⟨_, Tryz.func7, by kernel_rfl, by kernel_rfl⟩⟩
abbrev kit_SalesOf : Nat := 8
theorem kit_SalesOf_f : Tryz.prog.funcs[kit_SalesOf]? = some Tryz.f8 := Tryz.func8
theorem kit_SalesOf_cb : Callable Tryz.prog kit_SalesOf := ⟨⟨_, Tryz.func8, by kernel_rfl, by kernel_rfl⟩⟩
abbrev kit_Dice_To : Nat := 9
theorem kit_Dice_To_f : Tryz.prog.funcs[kit_Dice_To]? = some Tryz.f9 := Tryz.func9
theorem kit_Dice_To_cb : Callable Tryz.prog kit_Dice_To := ⟨⟨_, Tryz.func9, by kernel_rfl, by kernel_rfl⟩⟩
abbrev kit_DupSales : Nat := 10
theorem kit_DupSales_f : Tryz.prog.funcs[kit_DupSales]? = some Tryz.f10 := Tryz.func10
theorem kit_DupSales_cb : Callable Tryz.prog kit_DupSales := ⟨⟨_, Tryz.func10, by kernel_rfl, by kernel_rfl⟩⟩
abbrev bold_Price : Nat := 11
theorem bold_Price_f : Tryz.prog.funcs[bold_Price]? = some Tryz.f11 := Tryz.func11
theorem bold_Price_cb : Callable Tryz.prog bold_Price := ⟨⟨_, Tryz.func11, by kernel_rfl, by kernel_rfl⟩⟩
abbrev ref09_Price : Nat := 12
theorem ref09_Price_f : Tryz.prog.funcs[ref09_Price]? = some Tryz.f12 := Tryz.func12
theorem ref09_Price_cb : Callable Tryz.prog ref09_Price := ⟨⟨_, Tryz.func12, by kernel_rfl, by kernel_rfl⟩⟩
abbrev bold_Bills : Nat := 13
theorem bold_Bills_f : Tryz.prog.funcs[bold_Bills]? = some Tryz.f13 := Tryz.func13
theorem bold_Bills_cb : Callable Tryz.prog bold_Bills := ⟨⟨_, Tryz.func13, by kernel_rfl, by kernel_rfl⟩⟩
abbrev ref09_Bills : Nat := 14
theorem ref09_Bills_f : Tryz.prog.funcs[ref09_Bills]? = some Tryz.f14 := Tryz.func14
theorem ref09_Bills_cb : Callable Tryz.prog ref09_Bills := ⟨⟨_, Tryz.func14, by kernel_rfl, by kernel_rfl⟩⟩
abbrev bold_Check : Nat := 15
theorem bold_Check_f : Tryz.prog.funcs[bold_Check]? = some Tryz.f15 := Tryz.func15
theorem bold_Check_cb : Callable Tryz.prog bold_Check := ⟨⟨_, Tryz.func15, by kernel_rfl, by kernel_rfl⟩⟩
abbrev ref09_Check : Nat := 16
theorem ref09_Check_f : Tryz.prog.funcs[ref09_Check]? = some Tryz.f16 := Tryz.func16
theorem ref09_Check_cb : Callable Tryz.prog ref09_Check := ⟨⟨_, Tryz.func16, by kernel_rfl, by kernel_rfl⟩⟩
abbrev kit_EqInts : Nat := 17
theorem kit_EqInts_f : Tryz.prog.funcs[kit_EqInts]? = some Tryz.f17 := Tryz.func17
theorem kit_EqInts_cb : Callable Tryz.prog kit_EqInts := ⟨⟨_, Tryz.func17, by kernel_rfl, by kernel_rfl⟩⟩
abbrev bold_Saved : Nat := 18
theorem bold_Saved_f : Tryz.prog.funcs[bold_Saved]? = some Tryz.f18 := Tryz.func18
theorem bold_Saved_cb : Callable Tryz.prog bold_Saved := ⟨⟨_, Tryz.func18, by kernel_rfl, by kernel_rfl⟩⟩
abbrev ref09_Saved : Nat := 19
theorem ref09_Saved_f : Tryz.prog.funcs[ref09_Saved]? = some Tryz.f19 := Tryz.func19
theorem ref09_Saved_cb : Callable Tryz.prog ref09_Saved := ⟨⟨_, Tryz.func19, by kernel_rfl, by kernel_rfl⟩⟩
abbrev bold_Streets : Nat := 20
theorem bold_Streets_f : Tryz.prog.funcs[bold_Streets]? = some Tryz.f20 := Tryz.func20
theorem bold_Streets_cb : Callable Tryz.prog bold_Streets := ⟨⟨_, Tryz.func20, by kernel_rfl, by kernel_rfl⟩⟩
abbrev ref09_Streets : Nat := 21
theorem ref09_Streets_f : Tryz.prog.funcs[ref09_Streets]? = some Tryz.f21 := Tryz.func21
theorem ref09_Streets_cb : Callable Tryz.prog ref09_Streets := ⟨⟨_, Tryz.func21, by kernel_rfl, by kernel_rfl⟩⟩
abbrev kit_EqSales : Nat := 22
theorem kit_EqSales_f : Tryz.prog.funcs[kit_EqSales]? = some Tryz.f22 := Tryz.func22
theorem kit_EqSales_cb : Callable Tryz.prog kit_EqSales := ⟨⟨_, Tryz.func22, by kernel_rfl, by kernel_rfl⟩⟩
abbrev law09_wide : Nat := 23
abbrev kit_TradesOf : Nat := 24
abbrev kit_PricesOf : Nat := 25
abbrev kit_HeadsOf : Nat := 26
abbrev kit_DupTrades : Nat := 27
abbrev kit_DupInts : Nat := 28
theorem kit_DupInts_f : Tryz.prog.funcs[kit_DupInts]? = some Tryz.f28 := Tryz.func28
theorem kit_DupInts_cb : Callable Tryz.prog kit_DupInts := ⟨⟨_, Tryz.func28, by kernel_rfl, by kernel_rfl⟩⟩
abbrev bold_Found : Nat := 29
theorem bold_Found_f : Tryz.prog.funcs[bold_Found]? = some Tryz.f29 := Tryz.func29
theorem bold_Found_cb : Callable Tryz.prog bold_Found := ⟨⟨_, Tryz.func29, by kernel_rfl, by kernel_rfl⟩⟩
abbrev ref09_Found : Nat := 30
abbrev bold_Missed : Nat := 31
abbrev ref09_Missed : Nat := 32
abbrev kit_EqTrades : Nat := 33
abbrev law09_counter : Nat := 34
theorem law09_counter_f : Tryz.prog.funcs[law09_counter]? = some Tryz.f34 := Tryz.func34
theorem law09_counter_cb : Callable Tryz.prog law09_counter := ⟨⟨_, Tryz.func34, by kernel_rfl, by kernel_rfl⟩⟩
abbrev bold_Worth : Nat := 35
theorem bold_Worth_f : Tryz.prog.funcs[bold_Worth]? = some Tryz.f35 := Tryz.func35
theorem bold_Worth_cb : Callable Tryz.prog bold_Worth := ⟨⟨_, Tryz.func35, by kernel_rfl, by kernel_rfl⟩⟩
abbrev law09_some : Nat := 36
theorem law09_some_f : Tryz.prog.funcs[law09_some]? = some Tryz.f36 := Tryz.func36
theorem law09_some_cb : Callable Tryz.prog law09_some := ⟨⟨_, Tryz.func36, by kernel_rfl, by kernel_rfl⟩⟩
abbrev bold_Fill : Nat := 37
theorem bold_Fill_f : Tryz.prog.funcs[bold_Fill]? = some Tryz.f37 := Tryz.func37
theorem bold_Fill_cb : Callable Tryz.prog bold_Fill := ⟨⟨_, Tryz.func37, by kernel_rfl, by kernel_rfl⟩⟩
abbrev law09_cards : Nat := 38
theorem law09_cards_f : Tryz.prog.funcs[law09_cards]? = some Tryz.f38 := Tryz.func38
theorem law09_cards_cb : Callable Tryz.prog law09_cards := ⟨⟨_, Tryz.func38, by kernel_rfl, by kernel_rfl⟩⟩
abbrev law09_shops : Nat := 39
theorem law09_shops_f : Tryz.prog.funcs[law09_shops]? = some Tryz.f39 := Tryz.func39
theorem law09_shops_cb : Callable Tryz.prog law09_shops := ⟨⟨_, Tryz.func39, by kernel_rfl, by kernel_rfl⟩⟩
abbrev law09_rates : Nat := 40
theorem law09_rates_f : Tryz.prog.funcs[law09_rates]? = some Tryz.f40 := Tryz.func40
theorem law09_rates_cb : Callable Tryz.prog law09_rates := ⟨⟨_, Tryz.func40, by kernel_rfl, by kernel_rfl⟩⟩
abbrev bold_Sheets : Nat := 41
theorem bold_Sheets_f : Tryz.prog.funcs[bold_Sheets]? = some Tryz.f41 := Tryz.func41
theorem bold_Sheets_cb : Callable Tryz.prog bold_Sheets := ⟨⟨_, Tryz.func41, by kernel_rfl, by kernel_rfl⟩⟩
abbrev kit_Dice_One : Nat := 42
theorem kit_Dice_One_f : Tryz.prog.funcs[kit_Dice_One]? = some Tryz.f42 := Tryz.func42
theorem kit_Dice_One_cb : Callable Tryz.prog kit_Dice_One := ⟨⟨_, Tryz.func42, by kernel_rfl, by kernel_rfl⟩⟩
abbrev kit_Dice_From : Nat := 43
theorem kit_Dice_From_f : Tryz.prog.funcs[kit_Dice_From]? = some Tryz.f43 := Tryz.func43
theorem kit_Dice_From_cb : Callable Tryz.prog kit_Dice_From := ⟨⟨_, Tryz.func43, by kernel_rfl, by kernel_rfl⟩⟩
abbrev kit_AdvertOf : Nat := 44
theorem kit_AdvertOf_f : Tryz.prog.funcs[kit_AdvertOf]? = some Tryz.f44 := Tryz.func44
theorem kit_AdvertOf_cb : Callable Tryz.prog kit_AdvertOf := ⟨⟨_, Tryz.func44, by kernel_rfl, by kernel_rfl⟩⟩
abbrev kit_Dice_raw : Nat := 45
theorem kit_Dice_raw_f : Tryz.prog.funcs[kit_Dice_raw]? = some Tryz.f45 := Tryz.func45
theorem kit_Dice_raw_cb : Callable Tryz.prog kit_Dice_raw := ⟨⟨_, Tryz.func45, by kernel_rfl, by kernel_rfl⟩⟩
abbrev bold_between : Nat := 46
theorem bold_between_f : Tryz.prog.funcs[bold_between]? = some Tryz.f46 := Tryz.func46
theorem bold_between_cb : Callable Tryz.prog bold_between := ⟨⟨_, Tryz.func46, by kernel_rfl, by kernel_rfl⟩⟩
abbrev bold_of : Nat := 47
theorem bold_of_f : Tryz.prog.funcs[bold_of]? = some Tryz.f47 := Tryz.func47
theorem bold_of_cb : Callable Tryz.prog bold_of := ⟨⟨_, Tryz.func47, by kernel_rfl, by kernel_rfl⟩⟩
abbrev bold_tariff_advert : Nat := 48
theorem bold_tariff_advert_f : Tryz.prog.funcs[bold_tariff_advert]? = some Tryz.f48 := Tryz.func48
theorem bold_tariff_advert_cb : Callable Tryz.prog bold_tariff_advert := ⟨⟨_, Tryz.func48, by kernel_rfl, by kernel_rfl⟩⟩
abbrev ref09_within : Nat := 49
theorem ref09_within_f : Tryz.prog.funcs[ref09_within]? = some Tryz.f49 := Tryz.func49
theorem ref09_within_cb : Callable Tryz.prog ref09_within := ⟨⟨_, Tryz.func49, by kernel_rfl, by kernel_rfl⟩⟩
abbrev ref09_price : Nat := 50
theorem ref09_price_f : Tryz.prog.funcs[ref09_price]? = some Tryz.f50 := Tryz.func50
theorem ref09_price_cb : Callable Tryz.prog ref09_price := ⟨⟨_, Tryz.func50, by kernel_rfl, by kernel_rfl⟩⟩
abbrev bold_bills : Nat := 51
theorem bold_bills_f : Tryz.prog.funcs[bold_bills]? = some Tryz.f51 := Tryz.func51
theorem bold_bills_cb : Callable Tryz.prog bold_bills := ⟨⟨_, Tryz.func51, by kernel_rfl, by kernel_rfl⟩⟩
abbrev ref09_Bill : Nat := 52
theorem ref09_Bill_f : Tryz.prog.funcs[ref09_Bill]? = some Tryz.f52 := Tryz.func52
theorem ref09_Bill_cb : Callable Tryz.prog ref09_Bill := ⟨⟨_, Tryz.func52, by kernel_rfl, by kernel_rfl⟩⟩
abbrev bold_advertError : Nat := 53
theorem bold_advertError_f : Tryz.prog.funcs[bold_advertError]? = some Tryz.f53 := Tryz.func53
theorem bold_advertError_cb : Callable Tryz.prog bold_advertError := ⟨⟨_, Tryz.func53, by kernel_rfl, by kernel_rfl⟩⟩
abbrev ref09_checkCharges : Nat := 54
theorem ref09_checkCharges_f : Tryz.prog.funcs[ref09_checkCharges]? = some Tryz.f54 := Tryz.func54
theorem ref09_checkCharges_cb : Callable Tryz.prog ref09_checkCharges := ⟨⟨_, Tryz.func54, by kernel_rfl, by kernel_rfl⟩⟩
abbrev ref09_CheckAdvert : Nat := 55
theorem ref09_CheckAdvert_f : Tryz.prog.funcs[ref09_CheckAdvert]? = some Tryz.f55 := Tryz.func55
theorem ref09_CheckAdvert_cb : Callable Tryz.prog ref09_CheckAdvert := ⟨⟨_, Tryz.func55, by kernel_rfl, by kernel_rfl⟩⟩
abbrev bold_reckon : Nat := 56
theorem bold_reckon_f : Tryz.prog.funcs[bold_reckon]? = some Tryz.f56 := Tryz.func56
theorem bold_reckon_cb : Callable Tryz.prog bold_reckon := ⟨⟨_, Tryz.func56, by kernel_rfl, by kernel_rfl⟩⟩
abbrev bold_Saved_1 : Nat := 57
theorem bold_Saved_1_f : Tryz.prog.funcs[bold_Saved_1]? = some Tryz.f57 := Tryz.func57
theorem bold_Saved_1_cb : Callable Tryz.prog bold_Saved_1 := ⟨⟨_, Tryz.func57, by kernel_rfl, by kernel_rfl⟩⟩
abbrev bold_account_total : Nat := 58
theorem bold_account_total_f : Tryz.prog.funcs[bold_account_total]? = some Tryz.f58 := Tryz.func58
theorem bold_account_total_cb : Callable Tryz.prog bold_account_total := ⟨⟨_, Tryz.func58, by kernel_rfl, by kernel_rfl⟩⟩
abbrev ref09_Sum : Nat := 59
theorem ref09_Sum_f : Tryz.prog.funcs[ref09_Sum]? = some Tryz.f59 := Tryz.func59
theorem ref09_Sum_cb : Callable Tryz.prog ref09_Sum := ⟨⟨_, Tryz.func59, by kernel_rfl, by kernel_rfl⟩⟩
abbrev bold_discounts : Nat := 60
theorem bold_discounts_f : Tryz.prog.funcs[bold_discounts]? = some Tryz.f60 := Tryz.func60
theorem bold_discounts_cb : Callable Tryz.prog bold_discounts := ⟨⟨_, Tryz.func60, by kernel_rfl, by kernel_rfl⟩⟩
abbrev ref09_Off : Nat := 61
theorem ref09_Off_f : Tryz.prog.funcs[ref09_Off]? = some Tryz.f61 := Tryz.func61
theorem ref09_Off_cb : Callable Tryz.prog ref09_Off := ⟨⟨_, Tryz.func61, by kernel_rfl, by kernel_rfl⟩⟩
abbrev kit_Dice_Order : Nat := 62
abbrev kit_sorts : Nat := 63
abbrev kit_partOf : Nat := 64
abbrev kit_callings : Nat := 65
abbrev kit_Dice_Once : Nat := 66
abbrev trade_Check : Nat := 67
theorem trade_Check_f : Tryz.prog.funcs[trade_Check]? = some Tryz.f67 := Tryz.func67
theorem trade_Check_cb : Callable Tryz.prog trade_Check := ⟨⟨_, Tryz.func67, by kernel_rfl, by kernel_rfl⟩⟩
abbrev bold_Found_1 : Nat := 68
theorem bold_Found_1_f : Tryz.prog.funcs[bold_Found_1]? = some Tryz.f68 := Tryz.func68
theorem bold_Found_1_cb : Callable Tryz.prog bold_Found_1 := ⟨⟨_, Tryz.func68, by kernel_rfl, by kernel_rfl⟩⟩
abbrev cmp_Or_int : Nat := 69
theorem cmp_Or_int_f : Tryz.prog.funcs[cmp_Or_int]? = some Tryz.f69 := Tryz.func69
theorem cmp_Or_int_cb : Callable Tryz.prog cmp_Or_int := ⟨⟨_, Tryz.func69, by kernel_rfl, by kernel_rfl⟩⟩
abbrev cmp_Compare_int : Nat := 70
theorem cmp_Compare_int_f : Tryz.prog.funcs[cmp_Compare_int]? = some Tryz.f70 := Tryz.func70
theorem cmp_Compare_int_cb : Callable Tryz.prog cmp_Compare_int := ⟨⟨_, Tryz.func70, by kernel_rfl, by kernel_rfl⟩⟩
abbrev slices_Compare_ints : Nat := 71
theorem slices_Compare_ints_f : Tryz.prog.funcs[slices_Compare_ints]? = some Tryz.f71 := Tryz.func71
theorem slices_Compare_ints_cb : Callable Tryz.prog slices_Compare_ints := ⟨⟨_, Tryz.func71, by kernel_rfl, by kernel_rfl⟩⟩
abbrev bold_reached : Nat := 72
theorem bold_reached_f : Tryz.prog.funcs[bold_reached]? = some Tryz.f72 := Tryz.func72
theorem bold_reached_cb : Callable Tryz.prog bold_reached := ⟨⟨_, Tryz.func72, by kernel_rfl, by kernel_rfl⟩⟩
abbrev bold_cards_list : Nat := 73
theorem bold_cards_list_f : Tryz.prog.funcs[bold_cards_list]? = some Tryz.f73 := Tryz.func73
theorem bold_cards_list_cb : Callable Tryz.prog bold_cards_list := ⟨⟨_, Tryz.func73, by kernel_rfl, by kernel_rfl⟩⟩
abbrev slices_ContainsFunc_ints : Nat := 74
theorem slices_ContainsFunc_ints_f : Tryz.prog.funcs[slices_ContainsFunc_ints]? = some Tryz.f74 := Tryz.func74
theorem slices_ContainsFunc_ints_cb : Callable Tryz.prog slices_ContainsFunc_ints := ⟨⟨_, Tryz.func74, by kernel_rfl, by kernel_rfl⟩⟩
abbrev bold_Found_2 : Nat := 75
theorem bold_Found_2_f : Tryz.prog.funcs[bold_Found_2]? = some Tryz.f75 := Tryz.func75
theorem bold_Found_2_cb : Callable Tryz.prog bold_Found_2 := ⟨⟨_, Tryz.func75, by kernel_rfl, by kernel_rfl⟩⟩
abbrev bold_best_bold_hand_offer : Nat := 76
theorem bold_best_bold_hand_offer_f : Tryz.prog.funcs[bold_best_bold_hand_offer]? = some Tryz.f76 := Tryz.func76
theorem bold_best_bold_hand_offer_cb : Callable Tryz.prog bold_best_bold_hand_offer := ⟨⟨_, Tryz.func76, by kernel_rfl, by kernel_rfl⟩⟩
abbrev ref04_Check : Nat := 77
abbrev ref09_Picks : Nat := 78
abbrev ref09_isTrade : Nat := 79
abbrev ref09_FoundFrom : Nat := 80
abbrev bold_Missed_1 : Nat := 81
abbrev bold_sum : Nat := 82
theorem bold_sum_f : Tryz.prog.funcs[bold_sum]? = some Tryz.f82 := Tryz.func82
theorem bold_sum_cb : Callable Tryz.prog bold_sum := ⟨⟨_, Tryz.func82, by kernel_rfl, by kernel_rfl⟩⟩
abbrev bold_with : Nat := 83
theorem bold_with_f : Tryz.prog.funcs[bold_with]? = some Tryz.f83 := Tryz.func83
theorem bold_with_cb : Callable Tryz.prog bold_with := ⟨⟨_, Tryz.func83, by kernel_rfl, by kernel_rfl⟩⟩
abbrev bold_cardsError : Nat := 84
theorem bold_cardsError_f : Tryz.prog.funcs[bold_cardsError]? = some Tryz.f84 := Tryz.func84
theorem bold_cardsError_cb : Callable Tryz.prog bold_cardsError := ⟨⟨_, Tryz.func84, by kernel_rfl, by kernel_rfl⟩⟩
abbrev bold_Fill_1 : Nat := 85
theorem bold_Fill_1_f : Tryz.prog.funcs[bold_Fill_1]? = some Tryz.f85 := Tryz.func85
theorem bold_Fill_1_cb : Callable Tryz.prog bold_Fill_1 := ⟨⟨_, Tryz.func85, by kernel_rfl, by kernel_rfl⟩⟩
abbrev bold_hands : Nat := 86
theorem bold_hands_f : Tryz.prog.funcs[bold_hands]? = some Tryz.f86 := Tryz.func86
theorem bold_hands_cb : Callable Tryz.prog bold_hands := ⟨⟨_, Tryz.func86, by kernel_rfl, by kernel_rfl⟩⟩
abbrev bold_accounts : Nat := 87
theorem bold_accounts_f : Tryz.prog.funcs[bold_accounts]? = some Tryz.f87 := Tryz.func87
theorem bold_accounts_cb : Callable Tryz.prog bold_accounts := ⟨⟨_, Tryz.func87, by kernel_rfl, by kernel_rfl⟩⟩
abbrev bold_reckon_1 : Nat := 88
theorem bold_reckon_1_f : Tryz.prog.funcs[bold_reckon_1]? = some Tryz.f88 := Tryz.func88
abbrev bold_reckon_2 : Nat := 89
theorem bold_reckon_2_f : Tryz.prog.funcs[bold_reckon_2]? = some Tryz.f89 := Tryz.func89
abbrev kit_Index : Nat := 90
abbrev trade_check : Nat := 91
theorem trade_check_f : Tryz.prog.funcs[trade_check]? = some Tryz.f91 := Tryz.func91
theorem trade_check_cb : Callable Tryz.prog trade_check := ⟨⟨_, Tryz.func91, by kernel_rfl, by kernel_rfl⟩⟩
abbrev cmp_isNaN_int : Nat := 92
theorem cmp_isNaN_int_f : Tryz.prog.funcs[cmp_isNaN_int]? = some Tryz.f92 := Tryz.func92
theorem cmp_isNaN_int_cb : Callable Tryz.prog cmp_isNaN_int := ⟨⟨_, Tryz.func92, by kernel_rfl, by kernel_rfl⟩⟩
abbrev trade_Steps : Nat := 93
theorem trade_Steps_f : Tryz.prog.funcs[trade_Steps]? = some Tryz.f93 := Tryz.func93
theorem trade_Steps_cb : Callable Tryz.prog trade_Steps := ⟨⟨_, Tryz.func93, by kernel_rfl, by kernel_rfl⟩⟩
abbrev slices_IndexFunc_ints : Nat := 94
theorem slices_IndexFunc_ints_f : Tryz.prog.funcs[slices_IndexFunc_ints]? = some Tryz.f94 := Tryz.func94
theorem slices_IndexFunc_ints_cb : Callable Tryz.prog slices_IndexFunc_ints := ⟨⟨_, Tryz.func94, by kernel_rfl, by kernel_rfl⟩⟩
abbrev ref04_checkClass : Nat := 95
abbrev ref04_checkHead : Nat := 96
abbrev ref04_Steps : Nat := 97
abbrev bold_accounts_1 : Nat := 98
theorem bold_accounts_1_f : Tryz.prog.funcs[bold_accounts_1]? = some Tryz.f98 := Tryz.func98
theorem bold_accounts_1_cb : Callable Tryz.prog bold_accounts_1 := ⟨⟨_, Tryz.func98, by kernel_rfl, by kernel_rfl⟩⟩
abbrev slices_Contains_ints : Nat := 99
theorem slices_Contains_ints_f : Tryz.prog.funcs[slices_Contains_ints]? = some Tryz.f99 := Tryz.func99
theorem slices_Contains_ints_cb : Callable Tryz.prog slices_Contains_ints := ⟨⟨_, Tryz.func99, by kernel_rfl, by kernel_rfl⟩⟩
abbrev bold_accounts_2 : Nat := 100
theorem bold_accounts_2_f : Tryz.prog.funcs[bold_accounts_2]? = some Tryz.f100 := Tryz.func100
theorem bold_accounts_2_cb : Callable Tryz.prog bold_accounts_2 := ⟨⟨_, Tryz.func100, by kernel_rfl, by kernel_rfl⟩⟩
abbrev trade_checkClass : Nat := 101
theorem trade_checkClass_f : Tryz.prog.funcs[trade_checkClass]? = some Tryz.f101 := Tryz.func101
theorem trade_checkClass_cb : Callable Tryz.prog trade_checkClass := ⟨⟨_, Tryz.func101, by kernel_rfl, by kernel_rfl⟩⟩
abbrev trade_checkHead : Nat := 102
theorem trade_checkHead_f : Tryz.prog.funcs[trade_checkHead]? = some Tryz.f102 := Tryz.func102
theorem trade_checkHead_cb : Callable Tryz.prog trade_checkHead := ⟨⟨_, Tryz.func102, by kernel_rfl, by kernel_rfl⟩⟩
abbrev trade_ask : Nat := 103
theorem trade_ask_f : Tryz.prog.funcs[trade_ask]? = some Tryz.f103 := Tryz.func103
theorem trade_ask_cb : Callable Tryz.prog trade_ask := ⟨⟨_, Tryz.func103, by kernel_rfl, by kernel_rfl⟩⟩
abbrev trade_list_steps : Nat := 104
theorem trade_list_steps_f : Tryz.prog.funcs[trade_list_steps]? = some Tryz.f104 := Tryz.func104
theorem trade_list_steps_cb : Callable Tryz.prog trade_list_steps := ⟨⟨_, Tryz.func104, by kernel_rfl, by kernel_rfl⟩⟩
abbrev ref04_Word : Nat := 105
abbrev ref04_asked : Nat := 106
abbrev ref04_steps : Nat := 107
abbrev slices_Index_ints : Nat := 108
theorem slices_Index_ints_f : Tryz.prog.funcs[slices_Index_ints]? = some Tryz.f108 := Tryz.func108
theorem slices_Index_ints_cb : Callable Tryz.prog slices_Index_ints := ⟨⟨_, Tryz.func108, by kernel_rfl, by kernel_rfl⟩⟩
abbrev trade_word : Nat := 109
theorem trade_word_f : Tryz.prog.funcs[trade_word]? = some Tryz.f109 := Tryz.func109
theorem trade_word_cb : Callable Tryz.prog trade_word := ⟨⟨_, Tryz.func109, by kernel_rfl, by kernel_rfl⟩⟩
abbrev slices_ContainsFunc : Nat := 110
theorem slices_ContainsFunc_f : Tryz.prog.funcs[slices_ContainsFunc]? = some Tryz.f110 := Tryz.func110
theorem slices_ContainsFunc_cb : Callable Tryz.prog slices_ContainsFunc := ⟨⟨_, Tryz.func110, by kernel_rfl, by kernel_rfl⟩⟩
abbrev trade_checkClass_1 : Nat := 111
theorem trade_checkClass_1_f : Tryz.prog.funcs[trade_checkClass_1]? = some Tryz.f111 := Tryz.func111
theorem trade_checkClass_1_cb : Callable Tryz.prog trade_checkClass_1 := ⟨⟨_, Tryz.func111, by kernel_rfl, by kernel_rfl⟩⟩
abbrev trade_between : Nat := 112
theorem trade_between_f : Tryz.prog.funcs[trade_between]? = some Tryz.f112 := Tryz.func112
theorem trade_between_cb : Callable Tryz.prog trade_between := ⟨⟨_, Tryz.func112, by kernel_rfl, by kernel_rfl⟩⟩
abbrev slices_ContainsFuncx : Nat := 113
theorem slices_ContainsFuncx_f : Tryz.prog.funcs[slices_ContainsFuncx]? = some Tryz.f113 := Tryz.func113
theorem slices_ContainsFuncx_cb : Callable Tryz.prog slices_ContainsFuncx := ⟨⟨_, Tryz.func113, by kernel_rfl, by kernel_rfl⟩⟩
abbrev trade_checkHead_1 : Nat := 114
theorem trade_checkHead_1_f : Tryz.prog.funcs[trade_checkHead_1]? = some Tryz.f114 := Tryz.func114
theorem trade_checkHead_1_cb : Callable Tryz.prog trade_checkHead_1 := ⟨⟨_, Tryz.func114, by kernel_rfl, by kernel_rfl⟩⟩
abbrev trade_begin : Nat := 115
theorem trade_begin_f : Tryz.prog.funcs[trade_begin]? = some Tryz.f115 := Tryz.func115
theorem trade_begin_cb : Callable Tryz.prog trade_begin := ⟨⟨_, Tryz.func115, by kernel_rfl, by kernel_rfl⟩⟩
abbrev slices_Repeat_ints : Nat := 116
theorem slices_Repeat_ints_f : Tryz.prog.funcs[slices_Repeat_ints]? = some Tryz.f116 := Tryz.func116
theorem slices_Repeat_ints_cb : Callable Tryz.prog slices_Repeat_ints := ⟨⟨_, Tryz.func116, by kernel_rfl, by kernel_rfl⟩⟩
abbrev ref04_refers : Nat := 117
abbrev slices_IndexFunc : Nat := 118
theorem slices_IndexFunc_f : Tryz.prog.funcs[slices_IndexFunc]? = some Tryz.f118 := Tryz.func118
theorem slices_IndexFunc_cb : Callable Tryz.prog slices_IndexFunc := ⟨⟨_, Tryz.func118, by kernel_rfl, by kernel_rfl⟩⟩
abbrev slices_IndexFuncx : Nat := 119
theorem slices_IndexFuncx_f : Tryz.prog.funcs[slices_IndexFuncx]? = some Tryz.f119 := Tryz.func119
theorem slices_IndexFuncx_cb : Callable Tryz.prog slices_IndexFuncx := ⟨⟨_, Tryz.func119, by kernel_rfl, by kernel_rfl⟩⟩
abbrev trade_classes_with : Nat := 120
theorem trade_classes_with_f : Tryz.prog.funcs[trade_classes_with]? = some Tryz.f120 := Tryz.func120
theorem trade_classes_with_cb : Callable Tryz.prog trade_classes_with := ⟨⟨_, Tryz.func120, by kernel_rfl, by kernel_rfl⟩⟩
abbrev math_bits_Mul : Nat := 121
theorem math_bits_Mul_f : Tryz.prog.funcs[math_bits_Mul]? = some Tryz.f121 := Tryz.func121
theorem math_bits_Mul_cb : Callable Tryz.prog math_bits_Mul := ⟨⟨_, Tryz.func121, by kernel_rfl, by kernel_rfl⟩⟩
abbrev ref04_has : Nat := 122
abbrev math_bits_Mul64 : Nat := 124
theorem math_bits_Mul64_f : Tryz.prog.funcs[math_bits_Mul64]? = some Tryz.f124 := Tryz.func124
theorem math_bits_Mul64_cb : Callable Tryz.prog math_bits_Mul64 := ⟨⟨_, Tryz.func124, by kernel_rfl, by kernel_rfl⟩⟩
abbrev bold_plain_price : Nat := 141
theorem bold_plain_price_f : Tryz.prog.funcs[bold_plain_price]? = some Tryz.f141 := Tryz.func141
theorem bold_plain_price_cb : Callable Tryz.prog bold_plain_price := ⟨⟨_, Tryz.func141, by kernel_rfl, by kernel_rfl⟩⟩
abbrev bold_bold_price : Nat := 142
theorem bold_bold_price_f : Tryz.prog.funcs[bold_bold_price]? = some Tryz.f142 := Tryz.func142
theorem bold_bold_price_cb : Callable Tryz.prog bold_bold_price := ⟨⟨_, Tryz.func142, by kernel_rfl, by kernel_rfl⟩⟩
abbrev bold_card_price : Nat := 143
theorem bold_card_price_f : Tryz.prog.funcs[bold_card_price]? = some Tryz.f143 := Tryz.func143
theorem bold_card_price_cb : Callable Tryz.prog bold_card_price := ⟨⟨_, Tryz.func143, by kernel_rfl, by kernel_rfl⟩⟩
abbrev trade_pointer_next : Nat := 146
theorem trade_pointer_next_f : Tryz.prog.funcs[trade_pointer_next]? = some Tryz.f146 := Tryz.func146
theorem trade_pointer_next_cb : Callable Tryz.prog trade_pointer_next := ⟨⟨_, Tryz.func146, by kernel_rfl, by kernel_rfl⟩⟩
abbrev trade_article_next : Nat := 147
theorem trade_article_next_f : Tryz.prog.funcs[trade_article_next]? = some Tryz.f147 := Tryz.func147
theorem trade_article_next_cb : Callable Tryz.prog trade_article_next := ⟨⟨_, Tryz.func147, by kernel_rfl, by kernel_rfl⟩⟩
abbrev trade_index_next : Nat := 148
theorem trade_index_next_f : Tryz.prog.funcs[trade_index_next]? = some Tryz.f148 := Tryz.func148
theorem trade_index_next_cb : Callable Tryz.prog trade_index_next := ⟨⟨_, Tryz.func148, by kernel_rfl, by kernel_rfl⟩⟩
end F
namespace T
abbrev int : Nat := 3
theorem u_int : Tryz.prog.underlying int = some (.int .i64) := Tryz.underlying3
theorem sz_int : Sz Tryz.prog int 1 := by unfold Sz; kernel_rfl
theorem cell_int : NoR Tryz.prog int := ⟨_, Tryz.underlying3, rfl⟩
abbrev bool : Nat := 4
theorem sz_bool : Sz Tryz.prog bool 1 := by unfold Sz; kernel_rfl
theorem cell_bool : NoR Tryz.prog bool := ⟨_, Tryz.underlying4, rfl⟩
abbrev u8 : Nat := 5
abbrev string : Nat := 9
theorem u_string : Tryz.prog.underlying string = some (.string) := Tryz.underlying9
theorem cell_string : NoR Tryz.prog string := ⟨_, Tryz.underlying9, rfl⟩
abbrev int32 : Nat := 21
abbrev api_Charges : Nat := 23
theorem sz_api_Charges : Sz Tryz.prog api_Charges 6 := by unfold Sz; kernel_rfl
theorem row_api_Charges : IsR Tryz.prog api_Charges := ⟨_, Tryz.underlying23, rfl⟩
abbrev ints : Nat := 24
theorem u_ints : Tryz.prog.underlying ints = some (.slice 3) := Tryz.underlying24
theorem sz_ints : Sz Tryz.prog ints 1 := by unfold Sz; kernel_rfl
theorem cell_ints : NoR Tryz.prog ints := ⟨_, Tryz.underlying24, rfl⟩
theorem el_ints : ElT Tryz.prog ints 3 1 8 := ElT.of (z := (.int .i64 0)) Tryz.underlying24 (by kernel_rfl) rfl (by decide)
abbrev L_api_Advert : Nat := 25
theorem u_L_api_Advert : Tryz.prog.underlying L_api_Advert = some (.slice 65) := Tryz.underlying25
theorem sz_L_api_Advert : Sz Tryz.prog L_api_Advert 1 := by unfold Sz; kernel_rfl
theorem cell_L_api_Advert : NoR Tryz.prog L_api_Advert := ⟨_, Tryz.underlying25, rfl⟩
theorem el_L_api_Advert : ElT Tryz.prog L_api_Advert 65 3 24 := ElT.of (z := (.agg #[(.int .i64 0), (.int .i64 0), (.int .i64 0)])) Tryz.underlying25 (by kernel_rfl) rfl (by decide)
abbrev api_Sales : Nat := 27
theorem sz_api_Sales : Sz Tryz.prog api_Sales 8 := by unfold Sz; kernel_rfl
theorem row_api_Sales : IsR Tryz.prog api_Sales := ⟨_, Tryz.underlying27, rfl⟩
abbrev P_wayzgoosekit_Dice : Nat := 30
abbrev L_api_Sales : Nat := 33
theorem u_L_api_Sales : Tryz.prog.underlying L_api_Sales = some (.slice 27) := Tryz.underlying33
abbrev func_int_int : Nat := 34
theorem sz_func_int_int : Sz Tryz.prog func_int_int 1 := by unfold Sz; kernel_rfl
theorem cell_func_int_int : NoR Tryz.prog func_int_int := ⟨_, Tryz.underlying34, rfl⟩
abbrev api_Errno : Nat := 36
abbrev L_api_Class : Nat := 45
theorem u_L_api_Class : Tryz.prog.underlying L_api_Class = some (.slice 101) := Tryz.underlying45
theorem cell_L_api_Class : NoR Tryz.prog L_api_Class := ⟨_, Tryz.underlying45, rfl⟩
abbrev L_api_Head : Nat := 46
theorem u_L_api_Head : Tryz.prog.underlying L_api_Head = some (.slice 99) := Tryz.underlying46
theorem cell_L_api_Head : NoR Tryz.prog L_api_Head := ⟨_, Tryz.underlying46, rfl⟩
abbrev api_Trades : Nat := 48
theorem sz_api_Trades : Sz Tryz.prog api_Trades 2 := by unfold Sz; kernel_rfl
theorem row_api_Trades : IsR Tryz.prog api_Trades := ⟨_, Tryz.underlying48, rfl⟩
abbrev L_api_Trades : Nat := 51
abbrev intss : Nat := 53
abbrev api_Advert : Nat := 65
theorem sz_api_Advert : Sz Tryz.prog api_Advert 3 := by unfold Sz; kernel_rfl
theorem row_api_Advert : IsR Tryz.prog api_Advert := ⟨_, Tryz.underlying65, rfl⟩
abbrev L_api_Card : Nat := 67
theorem u_L_api_Card : Tryz.prog.underlying L_api_Card = some (.slice 128) := Tryz.underlying67
abbrev u64 : Nat := 73
theorem u_u64 : Tryz.prog.underlying u64 = some (.int .u64) := Tryz.underlying73
theorem sz_u64 : Sz Tryz.prog u64 1 := by unfold Sz; kernel_rfl
theorem cell_u64 : NoR Tryz.prog u64 := ⟨_, Tryz.underlying73, rfl⟩
abbrev wayzgoosekit_Dice : Nat := 75
abbrev uint : Nat := 80
theorem u_uint : Tryz.prog.underlying uint = some (.int .u64) := Tryz.underlying80
abbrev P_bold_tariff : Nat := 84
theorem cell_P_bold_tariff : NoR Tryz.prog P_bold_tariff := ⟨_, Tryz.underlying84, rfl⟩
abbrev bold_account : Nat := 95
theorem sz_bold_account : Sz Tryz.prog bold_account 2 := by unfold Sz; kernel_rfl
theorem row_bold_account : IsR Tryz.prog bold_account := ⟨_, Tryz.underlying95, rfl⟩
abbrev func_bold_account_int : Nat := 96
theorem cell_func_bold_account_int : NoR Tryz.prog func_bold_account_int := ⟨_, Tryz.underlying96, rfl⟩
abbrev api_Head : Nat := 99
theorem sz_api_Head : Sz Tryz.prog api_Head 4 := by unfold Sz; kernel_rfl
theorem row_api_Head : IsR Tryz.prog api_Head := ⟨_, Tryz.underlying99, rfl⟩
abbrev api_Class : Nat := 101
theorem sz_api_Class : Sz Tryz.prog api_Class 2 := by unfold Sz; kernel_rfl
theorem row_api_Class : IsR Tryz.prog api_Class := ⟨_, Tryz.underlying101, rfl⟩
abbrev strs : Nat := 103
abbrev func_int_bool : Nat := 105
abbrev bold_hand : Nat := 108
theorem sz_bold_hand : Sz Tryz.prog bold_hand 3 := by unfold Sz; kernel_rfl
theorem row_bold_hand : IsR Tryz.prog bold_hand := ⟨_, Tryz.underlying108, rfl⟩
abbrev func_bold_hand_bold_hand_int : Nat := 110
theorem cell_func_bold_hand_bold_hand_int : NoR Tryz.prog func_bold_hand_bold_hand_int := ⟨_, Tryz.underlying110, rfl⟩
abbrev bold_best_wayzgoose_bold_hand : Nat := 112
theorem sz_bold_best_wayzgoose_bold_hand : Sz Tryz.prog bold_best_wayzgoose_bold_hand 5 := by unfold Sz; kernel_rfl
abbrev L_L_bool : Nat := 113
theorem u_L_L_bool : Tryz.prog.underlying L_L_bool = some (.slice 117) := Tryz.underlying113
theorem sz_L_L_bool : Sz Tryz.prog L_L_bool 1 := by unfold Sz; kernel_rfl
theorem cell_L_L_bool : NoR Tryz.prog L_L_bool := ⟨_, Tryz.underlying113, rfl⟩
abbrev bold_cards : Nat := 115
theorem u_bold_cards : Tryz.prog.underlying bold_cards = some (.int .u64) := Tryz.underlying115
abbrev L_bool : Nat := 117
theorem u_L_bool : Tryz.prog.underlying L_bool = some (.slice 4) := Tryz.underlying117
theorem sz_L_bool : Sz Tryz.prog L_bool 1 := by unfold Sz; kernel_rfl
theorem cell_L_bool : NoR Tryz.prog L_bool := ⟨_, Tryz.underlying117, rfl⟩
theorem el_L_bool : ElT Tryz.prog L_bool 4 1 1 := ElT.of (z := (.bool false)) Tryz.underlying117 (by kernel_rfl) rfl (by decide)
abbrev L_bold_hand : Nat := 125
theorem u_L_bold_hand : Tryz.prog.underlying L_bold_hand = some (.slice 108) := Tryz.underlying125
theorem el_L_bold_hand : ElT Tryz.prog L_bold_hand 108 3 40 := ElT.of (z := (.agg #[(.slice none 0 0), (.int .i64 0), (.int .i64 0)])) Tryz.underlying125 (by kernel_rfl) rfl (by decide)
abbrev api_Card : Nat := 128
theorem sz_api_Card : Sz Tryz.prog api_Card 2 := by unfold Sz; kernel_rfl
theorem row_api_Card : IsR Tryz.prog api_Card := ⟨_, Tryz.underlying128, rfl⟩
abbrev bold_tariff : Nat := 130
abbrev bold_plain : Nat := 132
abbrev bold_bold : Nat := 134
abbrev bold_card : Nat := 135
abbrev chan_bold_numbered : Nat := 136
theorem sz_chan_bold_numbered : Sz Tryz.prog chan_bold_numbered 1 := by unfold Sz; kernel_rfl
theorem cell_chan_bold_numbered : NoR Tryz.prog chan_bold_numbered := ⟨_, Tryz.underlying136, rfl⟩
abbrev chan_bool : Nat := 137
theorem sz_chan_bool : Sz Tryz.prog chan_bool 1 := by unfold Sz; kernel_rfl
theorem cell_chan_bool : NoR Tryz.prog chan_bool := ⟨_, Tryz.underlying137, rfl⟩
abbrev L_bold_account : Nat := 138
theorem u_L_bold_account : Tryz.prog.underlying L_bold_account = some (.slice 95) := Tryz.underlying138
abbrev bold_numbered : Nat := 141
theorem sz_bold_numbered : Sz Tryz.prog bold_numbered 2 := by unfold Sz; kernel_rfl
abbrev map_int_bool : Nat := 142
theorem u_map_int_bool : Tryz.prog.underlying map_int_bool = some (.map 3 4) := Tryz.underlying142
abbrev P_trade_list : Nat := 150
abbrev func_api_Class_bool : Nat := 157
abbrev func_api_Head_bool : Nat := 159
abbrev L_trade_classes : Nat := 162
theorem u_L_trade_classes : Tryz.prog.underlying L_trade_classes = some (.slice 172) := Tryz.underlying162
theorem sz_L_trade_classes : Sz Tryz.prog L_trade_classes 1 := by unfold Sz; kernel_rfl
theorem cell_L_trade_classes : NoR Tryz.prog L_trade_classes := ⟨_, Tryz.underlying162, rfl⟩
theorem el_L_trade_classes : ElT Tryz.prog L_trade_classes 172 1 1 := ElT.of (z := (.int .u8 0)) Tryz.underlying162 (by kernel_rfl) rfl (by decide)
abbrev L_trade_kind : Nat := 163
theorem u_L_trade_kind : Tryz.prog.underlying L_trade_kind = some (.slice 168) := Tryz.underlying163
theorem sz_L_trade_kind : Sz Tryz.prog L_trade_kind 1 := by unfold Sz; kernel_rfl
theorem cell_L_trade_kind : NoR Tryz.prog L_trade_kind := ⟨_, Tryz.underlying163, rfl⟩
theorem el_L_trade_kind : ElT Tryz.prog L_trade_kind 168 1 16 := ElT.of (z := .nilIface) Tryz.underlying163 (by kernel_rfl) rfl (by decide)
abbrev trade_list : Nat := 165
abbrev chan_int : Nat := 166
abbrev trade_kind : Nat := 168
theorem sz_trade_kind : Sz Tryz.prog trade_kind 1 := by unfold Sz; kernel_rfl
theorem cell_trade_kind : NoR Tryz.prog trade_kind := ⟨_, Tryz.underlying168, rfl⟩
abbrev trade_classes : Nat := 172
theorem sz_trade_classes : Sz Tryz.prog trade_classes 1 := by unfold Sz; kernel_rfl
theorem cell_trade_classes : NoR Tryz.prog trade_classes := ⟨_, Tryz.underlying172, rfl⟩
abbrev trade_pointer : Nat := 175
abbrev trade_article : Nat := 177
abbrev trade_index : Nat := 179
abbrev uint32 : Nat := 182
theorem fa_api_Charges_0 (p : Addr) (w : World) : (Instr.fieldAt 23 (.pointer (some p)) 0).run Tryz.prog w = .ok (.pointer (some (p.add 0))) w := by kernel_rfl
theorem fa_api_Charges_1 (p : Addr) (w : World) : (Instr.fieldAt 23 (.pointer (some p)) 1).run Tryz.prog w = .ok (.pointer (some (p.add 1))) w := by kernel_rfl
theorem fa_api_Charges_2 (p : Addr) (w : World) : (Instr.fieldAt 23 (.pointer (some p)) 2).run Tryz.prog w = .ok (.pointer (some (p.add 2))) w := by kernel_rfl
theorem fa_api_Charges_3 (p : Addr) (w : World) : (Instr.fieldAt 23 (.pointer (some p)) 3).run Tryz.prog w = .ok (.pointer (some (p.add 3))) w := by kernel_rfl
theorem fa_api_Charges_4 (p : Addr) (w : World) : (Instr.fieldAt 23 (.pointer (some p)) 4).run Tryz.prog w = .ok (.pointer (some (p.add 4))) w := by kernel_rfl
theorem fa_api_Charges_5 (p : Addr) (w : World) : (Instr.fieldAt 23 (.pointer (some p)) 5).run Tryz.prog w = .ok (.pointer (some (p.add 5))) w := by kernel_rfl
theorem fa_api_Sales_0 (p : Addr) (w : World) : (Instr.fieldAt 27 (.pointer (some p)) 0).run Tryz.prog w = .ok (.pointer (some (p.add 0))) w := by kernel_rfl
theorem fa_api_Sales_1 (p : Addr) (w : World) : (Instr.fieldAt 27 (.pointer (some p)) 1).run Tryz.prog w = .ok (.pointer (some (p.add 6))) w := by kernel_rfl
theorem fa_api_Sales_2 (p : Addr) (w : World) : (Instr.fieldAt 27 (.pointer (some p)) 2).run Tryz.prog w = .ok (.pointer (some (p.add 7))) w := by kernel_rfl
theorem fa_api_Trades_0 (p : Addr) (w : World) : (Instr.fieldAt 48 (.pointer (some p)) 0).run Tryz.prog w = .ok (.pointer (some (p.add 0))) w := by kernel_rfl
theorem fa_api_Trades_1 (p : Addr) (w : World) : (Instr.fieldAt 48 (.pointer (some p)) 1).run Tryz.prog w = .ok (.pointer (some (p.add 1))) w := by kernel_rfl
theorem fa_api_Advert_0 (p : Addr) (w : World) : (Instr.fieldAt 65 (.pointer (some p)) 0).run Tryz.prog w = .ok (.pointer (some (p.add 0))) w := by kernel_rfl
theorem fa_api_Advert_1 (p : Addr) (w : World) : (Instr.fieldAt 65 (.pointer (some p)) 1).run Tryz.prog w = .ok (.pointer (some (p.add 1))) w := by kernel_rfl
theorem fa_api_Advert_2 (p : Addr) (w : World) : (Instr.fieldAt 65 (.pointer (some p)) 2).run Tryz.prog w = .ok (.pointer (some (p.add 2))) w := by kernel_rfl
theorem fa_wayzgoosekit_Dice_0 (p : Addr) (w : World) : (Instr.fieldAt 75 (.pointer (some p)) 0).run Tryz.prog w = .ok (.pointer (some (p.add 0))) w := by kernel_rfl
theorem fa_wayzgoosekit_Dice_1 (p : Addr) (w : World) : (Instr.fieldAt 75 (.pointer (some p)) 1).run Tryz.prog w = .ok (.pointer (some (p.add 1))) w := by kernel_rfl
theorem fa_wayzgoosekit_Dice_2 (p : Addr) (w : World) : (Instr.fieldAt 75 (.pointer (some p)) 2).run Tryz.prog w = .ok (.pointer (some (p.add 2))) w := by kernel_rfl
theorem fa_bold_account_0 (p : Addr) (w : World) : (Instr.fieldAt 95 (.pointer (some p)) 0).run Tryz.prog w = .ok (.pointer (some (p.add 0))) w := by kernel_rfl
theorem fa_bold_account_1 (p : Addr) (w : World) : (Instr.fieldAt 95 (.pointer (some p)) 1).run Tryz.prog w = .ok (.pointer (some (p.add 1))) w := by kernel_rfl
theorem fa_api_Head_0 (p : Addr) (w : World) : (Instr.fieldAt 99 (.pointer (some p)) 0).run Tryz.prog w = .ok (.pointer (some (p.add 0))) w := by kernel_rfl
theorem fa_api_Head_1 (p : Addr) (w : World) : (Instr.fieldAt 99 (.pointer (some p)) 1).run Tryz.prog w = .ok (.pointer (some (p.add 1))) w := by kernel_rfl
theorem fa_api_Head_2 (p : Addr) (w : World) : (Instr.fieldAt 99 (.pointer (some p)) 2).run Tryz.prog w = .ok (.pointer (some (p.add 2))) w := by kernel_rfl
theorem fa_api_Head_3 (p : Addr) (w : World) : (Instr.fieldAt 99 (.pointer (some p)) 3).run Tryz.prog w = .ok (.pointer (some (p.add 3))) w := by kernel_rfl
theorem fa_api_Class_0 (p : Addr) (w : World) : (Instr.fieldAt 101 (.pointer (some p)) 0).run Tryz.prog w = .ok (.pointer (some (p.add 0))) w := by kernel_rfl
theorem fa_api_Class_1 (p : Addr) (w : World) : (Instr.fieldAt 101 (.pointer (some p)) 1).run Tryz.prog w = .ok (.pointer (some (p.add 1))) w := by kernel_rfl
theorem fa_bold_hand_0 (p : Addr) (w : World) : (Instr.fieldAt 108 (.pointer (some p)) 0).run Tryz.prog w = .ok (.pointer (some (p.add 0))) w := by kernel_rfl
theorem fa_bold_hand_1 (p : Addr) (w : World) : (Instr.fieldAt 108 (.pointer (some p)) 1).run Tryz.prog w = .ok (.pointer (some (p.add 1))) w := by kernel_rfl
theorem fa_bold_hand_2 (p : Addr) (w : World) : (Instr.fieldAt 108 (.pointer (some p)) 2).run Tryz.prog w = .ok (.pointer (some (p.add 2))) w := by kernel_rfl
theorem fa_bold_best_wayzgoose_bold_hand_0 (p : Addr) (w : World) : (Instr.fieldAt 112 (.pointer (some p)) 0).run Tryz.prog w = .ok (.pointer (some (p.add 0))) w := by kernel_rfl
theorem fa_bold_best_wayzgoose_bold_hand_1 (p : Addr) (w : World) : (Instr.fieldAt 112 (.pointer (some p)) 1).run Tryz.prog w = .ok (.pointer (some (p.add 3))) w := by kernel_rfl
theorem fa_bold_best_wayzgoose_bold_hand_2 (p : Addr) (w : World) : (Instr.fieldAt 112 (.pointer (some p)) 2).run Tryz.prog w = .ok (.pointer (some (p.add 4))) w := by kernel_rfl
theorem fa_api_Card_0 (p : Addr) (w : World) : (Instr.fieldAt 128 (.pointer (some p)) 0).run Tryz.prog w = .ok (.pointer (some (p.add 0))) w := by kernel_rfl
theorem fa_api_Card_1 (p : Addr) (w : World) : (Instr.fieldAt 128 (.pointer (some p)) 1).run Tryz.prog w = .ok (.pointer (some (p.add 1))) w := by kernel_rfl
theorem fa_bold_plain_0 (p : Addr) (w : World) : (Instr.fieldAt 132 (.pointer (some p)) 0).run Tryz.prog w = .ok (.pointer (some (p.add 0))) w := by kernel_rfl
theorem fa_bold_bold_0 (p : Addr) (w : World) : (Instr.fieldAt 134 (.pointer (some p)) 0).run Tryz.prog w = .ok (.pointer (some (p.add 0))) w := by kernel_rfl
theorem fa_bold_bold_1 (p : Addr) (w : World) : (Instr.fieldAt 134 (.pointer (some p)) 1).run Tryz.prog w = .ok (.pointer (some (p.add 1))) w := by kernel_rfl
theorem fa_bold_card_0 (p : Addr) (w : World) : (Instr.fieldAt 135 (.pointer (some p)) 0).run Tryz.prog w = .ok (.pointer (some (p.add 0))) w := by kernel_rfl
theorem fa_bold_card_1 (p : Addr) (w : World) : (Instr.fieldAt 135 (.pointer (some p)) 1).run Tryz.prog w = .ok (.pointer (some (p.add 1))) w := by kernel_rfl
theorem fa_bold_numbered_0 (p : Addr) (w : World) : (Instr.fieldAt 141 (.pointer (some p)) 0).run Tryz.prog w = .ok (.pointer (some (p.add 0))) w := by kernel_rfl
theorem fa_bold_numbered_1 (p : Addr) (w : World) : (Instr.fieldAt 141 (.pointer (some p)) 1).run Tryz.prog w = .ok (.pointer (some (p.add 1))) w := by kernel_rfl
theorem fa_trade_list_1 (p : Addr) (w : World) : (Instr.fieldAt 165 (.pointer (some p)) 1).run Tryz.prog w = .ok (.pointer (some (p.add 2))) w := by kernel_rfl
theorem fa_trade_list_2 (p : Addr) (w : World) : (Instr.fieldAt 165 (.pointer (some p)) 2).run Tryz.prog w = .ok (.pointer (some (p.add 3))) w := by kernel_rfl
theorem fa_trade_pointer_0 (p : Addr) (w : World) : (Instr.fieldAt 175 (.pointer (some p)) 0).run Tryz.prog w = .ok (.pointer (some (p.add 0))) w := by kernel_rfl
theorem fa_trade_article_1 (p : Addr) (w : World) : (Instr.fieldAt 177 (.pointer (some p)) 1).run Tryz.prog w = .ok (.pointer (some (p.add 1))) w := by kernel_rfl
theorem fa_trade_index_0 (p : Addr) (w : World) : (Instr.fieldAt 179 (.pointer (some p)) 0).run Tryz.prog w = .ok (.pointer (some (p.add 0))) w := by kernel_rfl
theorem al_int (w : World) : (Instr.alloc 3 true (.tuple #[])).run Tryz.prog w = .ok (.pointer (some ⟨w.heap.size, 0, none⟩)) (w.alloc (.cells #[(.int .i64 0)] 3 (0, 0))) := by kernel_rfl
theorem al_api_Charges (w : World) : (Instr.alloc 23 true (.tuple #[])).run Tryz.prog w = .ok (.pointer (some ⟨w.heap.size, 0, none⟩)) (w.alloc (.cells #[(.int .i64 0), (.int .i64 0), (.int .i64 0), (.int .i64 0), (.int .i64 0), (.int .i64 0)] 23 (0, 0))) := by kernel_rfl
theorem al_ints (w : World) : (Instr.alloc 24 true (.tuple #[])).run Tryz.prog w = .ok (.pointer (some ⟨w.heap.size, 0, none⟩)) (w.alloc (.cells #[(.slice none 0 0)] 24 (0, 0))) := by kernel_rfl
theorem al_api_Sales (w : World) : (Instr.alloc 27 true (.tuple #[])).run Tryz.prog w = .ok (.pointer (some ⟨w.heap.size, 0, none⟩)) (w.alloc (.cells #[(.int .i64 0), (.int .i64 0), (.int .i64 0), (.int .i64 0), (.int .i64 0), (.int .i64 0), (.slice none 0 0), (.slice none 0 0)] 27 (0, 0))) := by kernel_rfl
theorem al_api_Trades (w : World) : (Instr.alloc 48 true (.tuple #[])).run Tryz.prog w = .ok (.pointer (some ⟨w.heap.size, 0, none⟩)) (w.alloc (.cells #[(.slice none 0 0), (.slice none 0 0)] 48 (0, 0))) := by kernel_rfl
theorem al_api_Advert (w : World) : (Instr.alloc 65 true (.tuple #[])).run Tryz.prog w = .ok (.pointer (some ⟨w.heap.size, 0, none⟩)) (w.alloc (.cells #[(.int .i64 0), (.int .i64 0), (.int .i64 0)] 65 (0, 0))) := by kernel_rfl
theorem al_bold_account (w : World) : (Instr.alloc 95 true (.tuple #[])).run Tryz.prog w = .ok (.pointer (some ⟨w.heap.size, 0, none⟩)) (w.alloc (.cells #[(.int .i64 0), .nilFunc] 95 (0, 0))) := by kernel_rfl
theorem al_api_Head (w : World) : (Instr.alloc 99 true (.tuple #[])).run Tryz.prog w = .ok (.pointer (some ⟨w.heap.size, 0, none⟩)) (w.alloc (.cells #[(.string ⟨#[]⟩), (.int .i64 0), (.int .i64 0), (.slice none 0 0)] 99 (0, 0))) := by kernel_rfl
theorem al_api_Class (w : World) : (Instr.alloc 101 true (.tuple #[])).run Tryz.prog w = .ok (.pointer (some ⟨w.heap.size, 0, none⟩)) (w.alloc (.cells #[(.string ⟨#[]⟩), (.int .i64 0)] 101 (0, 0))) := by kernel_rfl
theorem al_bold_hand (w : World) : (Instr.alloc 108 true (.tuple #[])).run Tryz.prog w = .ok (.pointer (some ⟨w.heap.size, 0, none⟩)) (w.alloc (.cells #[(.slice none 0 0), (.int .i64 0), (.int .i64 0)] 108 (0, 0))) := by kernel_rfl
theorem al_bold_best_wayzgoose_bold_hand (w : World) : (Instr.alloc 112 true (.tuple #[])).run Tryz.prog w = .ok (.pointer (some ⟨w.heap.size, 0, none⟩)) (w.alloc (.cells #[(.slice none 0 0), (.int .i64 0), (.int .i64 0), (.bool false), .nilFunc] 112 (0, 0))) := by kernel_rfl
theorem al_L_L_bool (w : World) : (Instr.alloc 113 true (.tuple #[])).run Tryz.prog w = .ok (.pointer (some ⟨w.heap.size, 0, none⟩)) (w.alloc (.cells #[(.slice none 0 0)] 113 (0, 0))) := by kernel_rfl
theorem al_api_Card (w : World) : (Instr.alloc 128 true (.tuple #[])).run Tryz.prog w = .ok (.pointer (some ⟨w.heap.size, 0, none⟩)) (w.alloc (.cells #[(.int .i64 0), (.int .i64 0)] 128 (0, 0))) := by kernel_rfl
theorem al_chan_bold_numbered (w : World) : (Instr.alloc 136 true (.tuple #[])).run Tryz.prog w = .ok (.pointer (some ⟨w.heap.size, 0, none⟩)) (w.alloc (.cells #[(.chan none)] 136 (0, 0))) := by kernel_rfl
theorem al_chan_bool (w : World) : (Instr.alloc 137 true (.tuple #[])).run Tryz.prog w = .ok (.pointer (some ⟨w.heap.size, 0, none⟩)) (w.alloc (.cells #[(.chan none)] 137 (0, 0))) := by kernel_rfl
theorem al_bold_numbered (w : World) : (Instr.alloc 141 true (.tuple #[])).run Tryz.prog w = .ok (.pointer (some ⟨w.heap.size, 0, none⟩)) (w.alloc (.cells #[(.int .i64 0), (.int .i64 0)] 141 (0, 0))) := by kernel_rfl
theorem bd_api_Charges_0_1_2_3_4_5 (x1 : Int) (x2 : Int) (x3 : Int) (x4 : Int) (x5 : Int) (x6 : Int) (w : World) : (Instr.build 23 #[(0, (.int .i64 x1)), (1, (.int .i64 x2)), (2, (.int .i64 x3)), (3, (.int .i64 x4)), (4, (.int .i64 x5)), (5, (.int .i64 x6))]).run Tryz.prog w = .ok (.agg #[(.int .i64 x1), (.int .i64 x2), (.int .i64 x3), (.int .i64 x4), (.int .i64 x5), (.int .i64 x6)]) w := by kernel_rfl
theorem bd_api_Sales_0 (x1 : Int) (x2 : Int) (x3 : Int) (x4 : Int) (x5 : Int) (x6 : Int) (w : World) : (Instr.build 27 #[(0, (.agg #[(.int .i64 x1), (.int .i64 x2), (.int .i64 x3), (.int .i64 x4), (.int .i64 x5), (.int .i64 x6)]))]).run Tryz.prog w = .ok (.agg #[(.int .i64 x1), (.int .i64 x2), (.int .i64 x3), (.int .i64 x4), (.int .i64 x5), (.int .i64 x6), (.slice none 0 0), (.slice none 0 0)]) w := by kernel_rfl
theorem bd_api_Sales_0_1_2 (x1 : Int) (x2 : Int) (x3 : Int) (x4 : Int) (x5 : Int) (x6 : Int) (x7 : Option Addr) (x8 : Nat) (x9 : Nat) (x10 : Option Addr) (x11 : Nat) (x12 : Nat) (w : World) : (Instr.build 27 #[(0, (.agg #[(.int .i64 x1), (.int .i64 x2), (.int .i64 x3), (.int .i64 x4), (.int .i64 x5), (.int .i64 x6)])), (1, (.slice x7 x8 x9)), (2, (.slice x10 x11 x12))]).run Tryz.prog w = .ok (.agg #[(.int .i64 x1), (.int .i64 x2), (.int .i64 x3), (.int .i64 x4), (.int .i64 x5), (.int .i64 x6), (.slice x7 x8 x9), (.slice x10 x11 x12)]) w := by kernel_rfl
theorem bd_api_Trades_0_1 (x1 : Option Addr) (x2 : Nat) (x3 : Nat) (x4 : Option Addr) (x5 : Nat) (x6 : Nat) (w : World) : (Instr.build 48 #[(0, (.slice x1 x2 x3)), (1, (.slice x4 x5 x6))]).run Tryz.prog w = .ok (.agg #[(.slice x1 x2 x3), (.slice x4 x5 x6)]) w := by kernel_rfl
theorem bd_api_Advert_0_1_2 (x1 : Int) (x2 : Int) (x3 : Int) (w : World) : (Instr.build 65 #[(0, (.int .i64 x1)), (1, (.int .i64 x2)), (2, (.int .i64 x3))]).run Tryz.prog w = .ok (.agg #[(.int .i64 x1), (.int .i64 x2), (.int .i64 x3)]) w := by kernel_rfl
theorem bd_wayzgoosekit_Dice_0_2 (x1 : Option Addr) (x2 : Nat) (x3 : Nat) (x4 : Int) (w : World) : (Instr.build 75 #[(0, (.slice x1 x2 x3)), (2, (.int .u64 x4))]).run Tryz.prog w = .ok (.agg #[(.slice x1 x2 x3), (.int .i64 0), (.int .u64 x4)]) w := by kernel_rfl
theorem bd_api_Head_0_1_2 (x1 : ByteArray) (x2 : Int) (x3 : Int) (w : World) : (Instr.build 99 #[(0, (.string x1)), (1, (.int .i64 x2)), (2, (.int .i64 x3))]).run Tryz.prog w = .ok (.agg #[(.string x1), (.int .i64 x2), (.int .i64 x3), (.slice none 0 0)]) w := by kernel_rfl
theorem bd_api_Head_0_1_2_3 (x1 : ByteArray) (x2 : Int) (x3 : Int) (x4 : Option Addr) (x5 : Nat) (x6 : Nat) (w : World) : (Instr.build 99 #[(0, (.string x1)), (1, (.int .i64 x2)), (2, (.int .i64 x3)), (3, (.slice x4 x5 x6))]).run Tryz.prog w = .ok (.agg #[(.string x1), (.int .i64 x2), (.int .i64 x3), (.slice x4 x5 x6)]) w := by kernel_rfl
theorem bd_api_Head_0_2_3 (x1 : ByteArray) (x2 : Int) (x3 : Option Addr) (x4 : Nat) (x5 : Nat) (w : World) : (Instr.build 99 #[(0, (.string x1)), (2, (.int .i64 x2)), (3, (.slice x3 x4 x5))]).run Tryz.prog w = .ok (.agg #[(.string x1), (.int .i64 0), (.int .i64 x2), (.slice x3 x4 x5)]) w := by kernel_rfl
theorem bd_api_Class_0 (x1 : ByteArray) (w : World) : (Instr.build 101 #[(0, (.string x1))]).run Tryz.prog w = .ok (.agg #[(.string x1), (.int .i64 0)]) w := by kernel_rfl
theorem bd_api_Class_0_1 (x1 : ByteArray) (x2 : Int) (w : World) : (Instr.build 101 #[(0, (.string x1)), (1, (.int .i64 x2))]).run Tryz.prog w = .ok (.agg #[(.string x1), (.int .i64 x2)]) w := by kernel_rfl
theorem bd_bold_hand_0 (x1 : Option Addr) (x2 : Nat) (x3 : Nat) (w : World) : (Instr.build 108 #[(0, (.slice x1 x2 x3))]).run Tryz.prog w = .ok (.agg #[(.slice x1 x2 x3), (.int .i64 0), (.int .i64 0)]) w := by kernel_rfl
theorem bd_bold_best_wayzgoose_bold_hand_2 (x1 : Fn) (x2 : Array Value) (x3 : Array Value) (w : World) : (Instr.build 112 #[(2, (.func x1 x2 x3))]).run Tryz.prog w = .ok (.agg #[(.slice none 0 0), (.int .i64 0), (.int .i64 0), (.bool false), (.func x1 x2 x3)]) w := by kernel_rfl
theorem bd_api_Card_0_1 (x1 : Int) (x2 : Int) (w : World) : (Instr.build 128 #[(0, (.int .i64 x1)), (1, (.int .i64 x2))]).run Tryz.prog w = .ok (.agg #[(.int .i64 x1), (.int .i64 x2)]) w := by kernel_rfl
theorem bd_bold_tariff_0_1_2_3 (x1 : Int) (x2 : Int) (x3 : Int) (x4 : Int) (w : World) : (Instr.build 130 #[(0, (.int .i64 x1)), (1, (.int .i64 x2)), (2, (.int .i64 x3)), (3, (.int .i64 x4))]).run Tryz.prog w = .ok (.agg #[(.int .i64 x1), (.int .i64 x2), (.int .i64 x3), (.int .i64 x4)]) w := by kernel_rfl
theorem bd_bold_plain_0 (x1 : Option Addr) (w : World) : (Instr.build 132 #[(0, (.pointer x1))]).run Tryz.prog w = .ok (.agg #[(.pointer x1)]) w := by kernel_rfl
theorem bd_bold_bold_0_1 (x1 : Option Addr) (x2 : Int) (w : World) : (Instr.build 134 #[(0, (.pointer x1)), (1, (.int .i64 x2))]).run Tryz.prog w = .ok (.agg #[(.pointer x1), (.int .i64 x2)]) w := by kernel_rfl
theorem bd_bold_card_0_1 (x1 : Option Addr) (x2 : Int) (w : World) : (Instr.build 135 #[(0, (.pointer x1)), (1, (.int .i64 x2))]).run Tryz.prog w = .ok (.agg #[(.pointer x1), (.int .i64 x2)]) w := by kernel_rfl
theorem bd_bold_numbered_0_1 (x1 : Int) (x2 : Int) (w : World) : (Instr.build 141 #[(0, (.int .i64 x1)), (1, (.int .i64 x2))]).run Tryz.prog w = .ok (.agg #[(.int .i64 x1), (.int .i64 x2)]) w := by kernel_rfl
theorem bd_trade_list_0 (x1 : Option Addr) (x2 : Nat) (x3 : Nat) (x4 : Option Addr) (x5 : Nat) (x6 : Nat) (w : World) : (Instr.build 165 #[(0, (.agg #[(.slice x1 x2 x3), (.slice x4 x5 x6)]))]).run Tryz.prog w = .ok (.agg #[(.slice x1 x2 x3), (.slice x4 x5 x6), (.slice none 0 0), (.slice none 0 0)]) w := by kernel_rfl
theorem bd_trade_pointer_0 (x1 : Int) (w : World) : (Instr.build 175 #[(0, (.int .i64 x1))]).run Tryz.prog w = .ok (.agg #[(.int .i64 x1)]) w := by kernel_rfl
theorem bd_trade_article_0_1 (x1 : Int) (x2 : Option Addr) (x3 : Nat) (x4 : Nat) (w : World) : (Instr.build 177 #[(0, (.int .i64 x1)), (1, (.slice x2 x3 x4))]).run Tryz.prog w = .ok (.agg #[(.int .i64 x1), (.slice x2 x3 x4)]) w := by kernel_rfl
theorem bd_trade_index_0 (x1 : Option Addr) (x2 : Nat) (x3 : Nat) (w : World) : (Instr.build 179 #[(0, (.slice x1 x2 x3))]).run Tryz.prog w = .ok (.agg #[(.slice x1 x2 x3)]) w := by kernel_rfl
theorem bs_ints_0  (w : World) : (Instr.buildSlice 24 0 #[]).run Tryz.prog w = .ok (.slice (some ⟨w.heap.size, 0, none⟩) 0 0) (w.alloc (.cells #[] 3 (0, 0))) := by kernel_rfl
theorem bs_ints_1 (x1 : Int) (w : World) : (Instr.buildSlice 24 1 #[(0, (.int .i64 x1))]).run Tryz.prog w = .ok (.slice (some ⟨w.heap.size, 0, none⟩) 1 1) (w.alloc (.cells #[(.int .i64 x1)] 3 (0, 0))) := by kernel_rfl
theorem bs_ints_2 (x1 : Int) (x2 : Int) (w : World) : (Instr.buildSlice 24 2 #[(0, (.int .i64 x1)), (1, (.int .i64 x2))]).run Tryz.prog w = .ok (.slice (some ⟨w.heap.size, 0, none⟩) 2 2) (w.alloc (.cells #[(.int .i64 x1), (.int .i64 x2)] 3 (0, 0))) := by kernel_rfl
theorem bs_ints_3 (x1 : Int) (x2 : Int) (x3 : Int) (w : World) : (Instr.buildSlice 24 3 #[(0, (.int .i64 x1)), (1, (.int .i64 x2)), (2, (.int .i64 x3))]).run Tryz.prog w = .ok (.slice (some ⟨w.heap.size, 0, none⟩) 3 3) (w.alloc (.cells #[(.int .i64 x1), (.int .i64 x2), (.int .i64 x3)] 3 (0, 0))) := by kernel_rfl
theorem bs_ints_4 (x1 : Int) (x2 : Int) (x3 : Int) (x4 : Int) (w : World) : (Instr.buildSlice 24 4 #[(0, (.int .i64 x1)), (1, (.int .i64 x2)), (2, (.int .i64 x3)), (3, (.int .i64 x4))]).run Tryz.prog w = .ok (.slice (some ⟨w.heap.size, 0, none⟩) 4 4) (w.alloc (.cells #[(.int .i64 x1), (.int .i64 x2), (.int .i64 x3), (.int .i64 x4)] 3 (0, 0))) := by kernel_rfl
theorem bs_ints_6 (x1 : Int) (x2 : Int) (x3 : Int) (x4 : Int) (x5 : Int) (x6 : Int) (w : World) : (Instr.buildSlice 24 6 #[(0, (.int .i64 x1)), (1, (.int .i64 x2)), (2, (.int .i64 x3)), (3, (.int .i64 x4)), (4, (.int .i64 x5)), (5, (.int .i64 x6))]).run Tryz.prog w = .ok (.slice (some ⟨w.heap.size, 0, none⟩) 6 6) (w.alloc (.cells #[(.int .i64 x1), (.int .i64 x2), (.int .i64 x3), (.int .i64 x4), (.int .i64 x5), (.int .i64 x6)] 3 (0, 0))) := by kernel_rfl
theorem bs_L_api_Advert_0  (w : World) : (Instr.buildSlice 25 0 #[]).run Tryz.prog w = .ok (.slice (some ⟨w.heap.size, 0, none⟩) 0 0) (w.alloc (.cells #[] 65 (0, 0))) := by kernel_rfl
theorem bs_L_api_Advert_1 (x1 : Int) (x2 : Int) (x3 : Int) (w : World) : (Instr.buildSlice 25 1 #[(0, (.agg #[(.int .i64 x1), (.int .i64 x2), (.int .i64 x3)]))]).run Tryz.prog w = .ok (.slice (some ⟨w.heap.size, 0, none⟩) 1 1) (w.alloc (.cells #[(.int .i64 x1), (.int .i64 x2), (.int .i64 x3)] 65 (0, 0))) := by kernel_rfl
theorem bs_L_api_Advert_2 (x1 : Int) (x2 : Int) (x3 : Int) (x4 : Int) (x5 : Int) (x6 : Int) (w : World) : (Instr.buildSlice 25 2 #[(0, (.agg #[(.int .i64 x1), (.int .i64 x2), (.int .i64 x3)])), (1, (.agg #[(.int .i64 x4), (.int .i64 x5), (.int .i64 x6)]))]).run Tryz.prog w = .ok (.slice (some ⟨w.heap.size, 0, none⟩) 2 2) (w.alloc (.cells #[(.int .i64 x1), (.int .i64 x2), (.int .i64 x3), (.int .i64 x4), (.int .i64 x5), (.int .i64 x6)] 65 (0, 0))) := by kernel_rfl
theorem bs_L_api_Advert_3 (x1 : Int) (x2 : Int) (x3 : Int) (x4 : Int) (x5 : Int) (x6 : Int) (x7 : Int) (x8 : Int) (x9 : Int) (w : World) : (Instr.buildSlice 25 3 #[(0, (.agg #[(.int .i64 x1), (.int .i64 x2), (.int .i64 x3)])), (1, (.agg #[(.int .i64 x4), (.int .i64 x5), (.int .i64 x6)])), (2, (.agg #[(.int .i64 x7), (.int .i64 x8), (.int .i64 x9)]))]).run Tryz.prog w = .ok (.slice (some ⟨w.heap.size, 0, none⟩) 3 3) (w.alloc (.cells #[(.int .i64 x1), (.int .i64 x2), (.int .i64 x3), (.int .i64 x4), (.int .i64 x5), (.int .i64 x6), (.int .i64 x7), (.int .i64 x8), (.int .i64 x9)] 65 (0, 0))) := by kernel_rfl
theorem bs_L_api_Sales_3 (x1 : Int) (x2 : Int) (x3 : Int) (x4 : Int) (x5 : Int) (x6 : Int) (x7 : Option Addr) (x8 : Nat) (x9 : Nat) (x10 : Option Addr) (x11 : Nat) (x12 : Nat) (x13 : Int) (x14 : Int) (x15 : Int) (x16 : Int) (x17 : Int) (x18 : Int) (x19 : Option Addr) (x20 : Nat) (x21 : Nat) (x22 : Option Addr) (x23 : Nat) (x24 : Nat) (x25 : Int) (x26 : Int) (x27 : Int) (x28 : Int) (x29 : Int) (x30 : Int) (x31 : Option Addr) (x32 : Nat) (x33 : Nat) (x34 : Option Addr) (x35 : Nat) (x36 : Nat) (w : World) : (Instr.buildSlice 33 3 #[(0, (.agg #[(.int .i64 x1), (.int .i64 x2), (.int .i64 x3), (.int .i64 x4), (.int .i64 x5), (.int .i64 x6), (.slice x7 x8 x9), (.slice x10 x11 x12)])), (1, (.agg #[(.int .i64 x13), (.int .i64 x14), (.int .i64 x15), (.int .i64 x16), (.int .i64 x17), (.int .i64 x18), (.slice x19 x20 x21), (.slice x22 x23 x24)])), (2, (.agg #[(.int .i64 x25), (.int .i64 x26), (.int .i64 x27), (.int .i64 x28), (.int .i64 x29), (.int .i64 x30), (.slice x31 x32 x33), (.slice x34 x35 x36)]))]).run Tryz.prog w = .ok (.slice (some ⟨w.heap.size, 0, none⟩) 3 3) (w.alloc (.cells #[(.int .i64 x1), (.int .i64 x2), (.int .i64 x3), (.int .i64 x4), (.int .i64 x5), (.int .i64 x6), (.slice x7 x8 x9), (.slice x10 x11 x12), (.int .i64 x13), (.int .i64 x14), (.int .i64 x15), (.int .i64 x16), (.int .i64 x17), (.int .i64 x18), (.slice x19 x20 x21), (.slice x22 x23 x24), (.int .i64 x25), (.int .i64 x26), (.int .i64 x27), (.int .i64 x28), (.int .i64 x29), (.int .i64 x30), (.slice x31 x32 x33), (.slice x34 x35 x36)] 27 (0, 0))) := by kernel_rfl
theorem bs_L_api_Class_4 (x1 : ByteArray) (x2 : Int) (x3 : ByteArray) (x4 : Int) (x5 : ByteArray) (x6 : Int) (x7 : ByteArray) (x8 : Int) (w : World) : (Instr.buildSlice 45 4 #[(0, (.agg #[(.string x1), (.int .i64 x2)])), (1, (.agg #[(.string x3), (.int .i64 x4)])), (2, (.agg #[(.string x5), (.int .i64 x6)])), (3, (.agg #[(.string x7), (.int .i64 x8)]))]).run Tryz.prog w = .ok (.slice (some ⟨w.heap.size, 0, none⟩) 4 4) (w.alloc (.cells #[(.string x1), (.int .i64 x2), (.string x3), (.int .i64 x4), (.string x5), (.int .i64 x6), (.string x7), (.int .i64 x8)] 101 (0, 0))) := by kernel_rfl
theorem bs_L_api_Head_6 (x1 : ByteArray) (x2 : Int) (x3 : Int) (x4 : Option Addr) (x5 : Nat) (x6 : Nat) (x7 : ByteArray) (x8 : Int) (x9 : Int) (x10 : Option Addr) (x11 : Nat) (x12 : Nat) (x13 : ByteArray) (x14 : Int) (x15 : Int) (x16 : Option Addr) (x17 : Nat) (x18 : Nat) (x19 : ByteArray) (x20 : Int) (x21 : Int) (x22 : Option Addr) (x23 : Nat) (x24 : Nat) (x25 : ByteArray) (x26 : Int) (x27 : Int) (x28 : Option Addr) (x29 : Nat) (x30 : Nat) (x31 : ByteArray) (x32 : Int) (x33 : Int) (x34 : Option Addr) (x35 : Nat) (x36 : Nat) (w : World) : (Instr.buildSlice 46 6 #[(0, (.agg #[(.string x1), (.int .i64 x2), (.int .i64 x3), (.slice x4 x5 x6)])), (1, (.agg #[(.string x7), (.int .i64 x8), (.int .i64 x9), (.slice x10 x11 x12)])), (2, (.agg #[(.string x13), (.int .i64 x14), (.int .i64 x15), (.slice x16 x17 x18)])), (3, (.agg #[(.string x19), (.int .i64 x20), (.int .i64 x21), (.slice x22 x23 x24)])), (4, (.agg #[(.string x25), (.int .i64 x26), (.int .i64 x27), (.slice x28 x29 x30)])), (5, (.agg #[(.string x31), (.int .i64 x32), (.int .i64 x33), (.slice x34 x35 x36)]))]).run Tryz.prog w = .ok (.slice (some ⟨w.heap.size, 0, none⟩) 6 6) (w.alloc (.cells #[(.string x1), (.int .i64 x2), (.int .i64 x3), (.slice x4 x5 x6), (.string x7), (.int .i64 x8), (.int .i64 x9), (.slice x10 x11 x12), (.string x13), (.int .i64 x14), (.int .i64 x15), (.slice x16 x17 x18), (.string x19), (.int .i64 x20), (.int .i64 x21), (.slice x22 x23 x24), (.string x25), (.int .i64 x26), (.int .i64 x27), (.slice x28 x29 x30), (.string x31), (.int .i64 x32), (.int .i64 x33), (.slice x34 x35 x36)] 99 (0, 0))) := by kernel_rfl
theorem bs_L_api_Card_3 (x1 : Int) (x2 : Int) (x3 : Int) (x4 : Int) (x5 : Int) (x6 : Int) (w : World) : (Instr.buildSlice 67 3 #[(0, (.agg #[(.int .i64 x1), (.int .i64 x2)])), (1, (.agg #[(.int .i64 x3), (.int .i64 x4)])), (2, (.agg #[(.int .i64 x5), (.int .i64 x6)]))]).run Tryz.prog w = .ok (.slice (some ⟨w.heap.size, 0, none⟩) 3 3) (w.alloc (.cells #[(.int .i64 x1), (.int .i64 x2), (.int .i64 x3), (.int .i64 x4), (.int .i64 x5), (.int .i64 x6)] 128 (0, 0))) := by kernel_rfl
theorem bs_L_bool_1 (x1 : Bool) (w : World) : (Instr.buildSlice 117 1 #[(0, (.bool x1))]).run Tryz.prog w = .ok (.slice (some ⟨w.heap.size, 0, none⟩) 1 1) (w.alloc (.cells #[(.bool x1)] 4 (0, 0))) := by kernel_rfl
theorem bs_L_bold_hand_1 (x1 : Option Addr) (x2 : Nat) (x3 : Nat) (x4 : Int) (x5 : Int) (w : World) : (Instr.buildSlice 125 1 #[(0, (.agg #[(.slice x1 x2 x3), (.int .i64 x4), (.int .i64 x5)]))]).run Tryz.prog w = .ok (.slice (some ⟨w.heap.size, 0, none⟩) 1 1) (w.alloc (.cells #[(.slice x1 x2 x3), (.int .i64 x4), (.int .i64 x5)] 108 (0, 0))) := by kernel_rfl
theorem bs_L_trade_classes_1 (x1 : Int) (w : World) : (Instr.buildSlice 162 1 #[(0, (.int .u8 x1))]).run Tryz.prog w = .ok (.slice (some ⟨w.heap.size, 0, none⟩) 1 1) (w.alloc (.cells #[(.int .u8 x1)] 172 (0, 0))) := by kernel_rfl
theorem bs_L_trade_kind_1 (x1 : Nat) (x2 : Value) (w : World) : (Instr.buildSlice 163 1 #[(0, (.iface x1 x2))]).run Tryz.prog w = .ok (.slice (some ⟨w.heap.size, 0, none⟩) 1 1) (w.alloc (.cells #[(.iface x1 x2)] 168 (0, 0))) := by kernel_rfl
theorem eqi_api_Charges (a0 b0 : Int) (a1 b1 : Int) (a2 b2 : Int) (a3 b3 : Int) (a4 b4 : Int) (a5 b5 : Int) (w : World) : (Op.equalIn 10000 23 (.agg #[.int .i64 a0, .int .i64 a1, .int .i64 a2, .int .i64 a3, .int .i64 a4, .int .i64 a5]) (.agg #[.int .i64 b0, .int .i64 b1, .int .i64 b2, .int .i64 b3, .int .i64 b4, .int .i64 b5])).run Tryz.prog w = .ok (decide ((a0, a1, a2, a3, a4, a5) = (b0, b1, b2, b3, b4, b5))) w := by
  rw [run_equalIn_agg w 9999 23 _ _ (by simp only [Program.fieldsOf, Tryz.underlying23]) (by kernel_rfl)]; simp only [Program.fieldsOf, Tryz.underlying23]
  by_cases h0 : a0 = b0
  rotate_left
  · simp [Op.eqFields, part, isAgg, run_equalIn_int _ 9998 3 .i64 .i64 _ _ Tryz.underlying3, run_underlying Tryz.underlying3, h0]
  by_cases h1 : a1 = b1
  rotate_left
  · simp [Op.eqFields, part, isAgg, run_equalIn_int _ 9998 3 .i64 .i64 _ _ Tryz.underlying3, run_underlying Tryz.underlying3, h0, h1]
  by_cases h2 : a2 = b2
  rotate_left
  · simp [Op.eqFields, part, isAgg, run_equalIn_int _ 9998 3 .i64 .i64 _ _ Tryz.underlying3, run_underlying Tryz.underlying3, h0, h1, h2]
  by_cases h3 : a3 = b3
  rotate_left
  · simp [Op.eqFields, part, isAgg, run_equalIn_int _ 9998 3 .i64 .i64 _ _ Tryz.underlying3, run_underlying Tryz.underlying3, h0, h1, h2, h3]
  by_cases h4 : a4 = b4
  rotate_left
  · simp [Op.eqFields, part, isAgg, run_equalIn_int _ 9998 3 .i64 .i64 _ _ Tryz.underlying3, run_underlying Tryz.underlying3, h0, h1, h2, h3, h4]
  by_cases h5 : a5 = b5
  rotate_left
  · simp [Op.eqFields, part, isAgg, run_equalIn_int _ 9998 3 .i64 .i64 _ _ Tryz.underlying3, run_underlying Tryz.underlying3, h0, h1, h2, h3, h4, h5]
  simp [Op.eqFields, part, isAgg, run_equalIn_int _ 9998 3 .i64 .i64 _ _ Tryz.underlying3, run_underlying Tryz.underlying3, h0, h1, h2, h3, h4, h5]
theorem neq_api_Charges (a0 b0 : Int) (a1 b1 : Int) (a2 b2 : Int) (a3 b3 : Int) (a4 b4 : Int) (a5 b5 : Int) (w : World) : (binOp .neq 23 (.agg #[.int .i64 a0, .int .i64 a1, .int .i64 a2, .int .i64 a3, .int .i64 a4, .int .i64 a5]) (.agg #[.int .i64 b0, .int .i64 b1, .int .i64 b2, .int .i64 b3, .int .i64 b4, .int .i64 b5])).run Tryz.prog w = .ok (.bool (decide (¬ (a0, a1, a2, a3, a4, a5) = (b0, b1, b2, b3, b4, b5)))) w := by rw [run_neq_struct, eqi_api_Charges, decide_not]; rfl
theorem eqg_api_Charges (op : BinOp) (x y : Operand) (xs ys : Array Value) (w : World) : (eqGuard op 23 x y (.agg xs) (.agg ys)).run Tryz.prog w = .ok () w := run_eqGuard_agg w op 23 x y xs ys (by kernel_rfl)
theorem eqi_api_Advert (a0 b0 : Int) (a1 b1 : Int) (a2 b2 : Int) (w : World) : (Op.equalIn 10000 65 (.agg #[.int .i64 a0, .int .i64 a1, .int .i64 a2]) (.agg #[.int .i64 b0, .int .i64 b1, .int .i64 b2])).run Tryz.prog w = .ok (decide ((a0, a1, a2) = (b0, b1, b2))) w := by
  rw [run_equalIn_agg w 9999 65 _ _ (by simp only [Program.fieldsOf, Tryz.underlying65]) (by kernel_rfl)]; simp only [Program.fieldsOf, Tryz.underlying65]
  by_cases h0 : a0 = b0 <;> by_cases h1 : a1 = b1 <;> by_cases h2 : a2 = b2 <;>
    simp [Op.eqFields, part, isAgg, run_equalIn_int _ 9998 3 .i64 .i64 _ _ Tryz.underlying3, run_underlying Tryz.underlying3, h0, h1, h2]
theorem neq_api_Advert (a0 b0 : Int) (a1 b1 : Int) (a2 b2 : Int) (w : World) : (binOp .neq 65 (.agg #[.int .i64 a0, .int .i64 a1, .int .i64 a2]) (.agg #[.int .i64 b0, .int .i64 b1, .int .i64 b2])).run Tryz.prog w = .ok (.bool (decide (¬ (a0, a1, a2) = (b0, b1, b2)))) w := by rw [run_neq_struct, eqi_api_Advert, decide_not]; rfl
theorem eqg_api_Advert (op : BinOp) (x y : Operand) (xs ys : Array Value) (w : World) : (eqGuard op 65 x y (.agg xs) (.agg ys)).run Tryz.prog w = .ok () w := run_eqGuard_agg w op 65 x y xs ys (by kernel_rfl)
end T
end Go.Proofs.YtdlbbfcfahahdaaGreat
end
section
namespace Go.W
universe u
open Go Go.RowKit
class El (α : Type) extends Inhabited α where
  cells : α → List Value
  sz : Nat
  len : ∀ a, (cells a).length = sz
  one : ∀ a, ∀ u ∈ cells a, u.oneCell' = true
def rows {α : Type} [El α] (l : List α) : List Value := l.flatMap El.cells
instance : El Str where
  default := []
  cells s := [str s]
  sz := 1
  len _ := rfl
  one a u h := by simp at h; subst h; rfl
instance : El Int where
  default := 0
  cells n := [int n]
  sz := 1
  len _ := rfl
  one a u h := by simp at h; subst h; rfl
instance : El UInt8 where
  default := 0
  cells n := [.int .u8 n.toNat]
  sz := 1
  len _ := rfl
  one a u h := by simp at h; subst h; rfl
abbrev Mk := Int × Int × Str
instance : El Mk where
  default := (0, 0, [])
  cells m := [int m.1, int m.2.1, str m.2.2]
  sz := 3
  len _ := rfl
  one a u h := by simp at h; rcases h with h | h | h <;> subst h <;> rfl
structure Sl (α : Type) where
  a : Option Addr
  c : Nat
  l : List α
instance {α : Type} : El (Sl α) where
  default := ⟨none, 0, []⟩
  cells p := [.slice p.a p.l.length p.c]
  sz := 1
  len _ := rfl
  one a u h := by simp at h; subst h; rfl
section
variable {α : Type} [El α]
theorem rows_nil : rows ([] : List α) = [] := rfl
theorem rows_cons (a : α) (l : List α) : rows (a :: l) = El.cells a ++ rows l := rfl
theorem rows_append (l l' : List α) : rows (l ++ l') = rows l ++ rows l' := by simp [rows]
theorem rows_len (l : List α) : (rows l).length = l.length * El.sz α := by
  induction l with
  | nil => simp [rows_nil]
  | cons a l ih => rw [rows_cons, List.length_append, El.len, ih, List.length_cons, Nat.add_mul, Nat.one_mul, Nat.add_comm]
theorem rows_one (l : List α) : ∀ u ∈ rows l, u.oneCell' = true := by
  intro u hu; obtain ⟨a, _, h⟩ := List.mem_flatMap.1 hu; exact El.one a u h
theorem rows_drop (l : List α) (k : Nat) : (rows l).drop (k * El.sz α) = rows (l.drop k) := by
  induction l generalizing k with
  | nil => simp [rows_nil]
  | cons a l ih =>
    cases k with
    | zero => simp
    | succ k =>
      rw [rows_cons, List.drop_succ_cons, ← ih, List.drop_append, El.len, List.drop_eq_nil_of_le (by rw [El.len, Nat.succ_mul]; omega), List.nil_append]
      congr 1
      rw [Nat.succ_mul]
      omega
theorem rows_get' (l : List α) (i j : Nat) (hi : i < l.length) (hj : j < El.sz α) : (rows l)[i * El.sz α + j]? = (El.cells (l.getD i default))[j]? := by
  have h := congrArg (·[j]?) (rows_drop l i); simp only [List.getElem?_drop] at h; rw [h, List.drop_eq_getElem_cons hi, rows_cons, List.getElem?_append_left (by rw [El.len]; exact hj)]
  simp [List.getD_eq_getElem?_getD, hi]
theorem rows_get {l : List α} {i j : Nat} {v : Value} (hi : i < l.length) (hv : (El.cells (l.getD i default))[j]? = some v) : (rows l)[i * El.sz α + j]? = some v := by
  have hj : j < El.sz α := by
    have := (List.getElem?_eq_some_iff.1 hv).1
    rwa [El.len] at this
  rw [rows_get' l i j hi hj, hv]
theorem rows_get0 {l : List α} {i : Nat} {v : Value} (hi : i < l.length) (hv : (El.cells (l.getD i default))[0]? = some v) : (rows l)[i * El.sz α]? = some v := rows_get (j := 0) hi hv
theorem rows_all {l : List α} {i : Nat} (hi : i < l.length) : ∀ j u, (El.cells (l.getD i default))[j]? = some u → (rows l)[i * El.sz α + j]? = some u := fun j u h => rows_get hi h
theorem rows_lt {l : List α} {i : Nat} (hi : i < l.length) (h0 : 0 < El.sz α) : i * El.sz α < (rows l).length := by
  rw [rows_len]; exact Nat.mul_lt_mul_of_pos_right hi h0
end
theorem r_conv {c : Cx} {Q : Exit → Act → World → Prop} {fr : Fr} {hp : Hp} {L : List Fact} {ops : Array Oper} {rest : List Oper} {d : Tmp} {ty : TypeId} {pos : String} {af : Array Edge}
    {s t : TypeId} {x : Operand} {ks k k' : IntKind} {a : Int} (z : Int) (hd : Nat.blt d c.n = true) (hs : c.P.underlying s = some (.int ks)) (ht : c.P.underlying t = some (.int k')) (hx : ev fr x = some (.int k a)) (hz : k'.wrap a = z)
    (kk : HL c ops Q rest ((d, .int k' z) :: fr) hp L) : HL c ops Q (⟨some d, .convert s t x, ty, pos, af, none⟩ :: rest) fr hp L :=
  hl_val _ rfl rfl hd (fun a' w ha _ => by
    simp only [execOp, ha.ev hx, Sem.run_bind, convert, run_underlying hs, run_underlying ht, Result.andThen_ok]; rw [← hz]
    cases ks <;> rfl) kk
theorem r_rem {c : Cx} {Q : Exit → Act → World → Prop} {fr : Fr} {hp : Hp} {L : List Fact} {ops : Array Oper} {rest : List Oper} {d : Tmp} {ty : TypeId} {pos : String} {af : Array Edge}
    {t yt : TypeId} {x y : Operand} {kd : IntKind} {a b : Int} (hd : Nat.blt d c.n = true) (hx : ev fr x = some (.int kd a)) (hy : ev fr y = some (.int kd b)) (hb : b ≠ 0)
    (kk : HL c ops Q rest ((d, .int kd (a.tmod b)) :: fr) hp L) : HL c ops Q (⟨some d, .binOp .rem t x y yt, ty, pos, af, none⟩ :: rest) fr hp L :=
  r_bin _ hd hx hy (fun _ => rfl) (fun w => by
    have : (binOp .rem t (.int kd a) (.int kd b)) = Op.intDiv .rem kd a b := by cases kd <;> rfl
    rw [this]
    simp [Op.intDiv, hb]) kk
theorem r_quo {c : Cx} {Q : Exit → Act → World → Prop} {fr : Fr} {hp : Hp} {L : List Fact} {ops : Array Oper} {rest : List Oper} {d : Tmp} {ty : TypeId} {pos : String} {af : Array Edge}
    {t yt : TypeId} {x y : Operand} {kd : IntKind} {a b : Int} (z : Int) (hd : Nat.blt d c.n = true) (hx : ev fr x = some (.int kd a)) (hy : ev fr y = some (.int kd b)) (hb : b ≠ 0) (hz : kd.wrap (a.tdiv b) = z)
    (kk : HL c ops Q rest ((d, .int kd z) :: fr) hp L) : HL c ops Q (⟨some d, .binOp .quo t x y yt, ty, pos, af, none⟩ :: rest) fr hp L :=
  r_bin _ hd hx hy (fun _ => rfl) (fun w => by
    have : (binOp .quo t (.int kd a) (.int kd b)) = Op.intDiv .quo kd a b := by cases kd <;> rfl
    rw [this]
    simp [Op.intDiv, hb, hz]) kk
theorem wrapU (n : Int) : 0 ≤ IntKind.u64.wrap n ∧ IntKind.u64.wrap n < 18446744073709551616 := by
  simp only [IntKind.wrap, IntKind.bits, IntKind.signed]
  simp
  omega
theorem r_elem {α : Type} [El α] {c : Cx} {Q : Exit → Act → World → Prop} {fr : Fr} {hp : Hp} {L : List Fact} {ops : Array Oper} {rest : List Oper} {d : Tmp} {ty : TypeId} {pos : String} {af : Array Edge}
    {t e : TypeId} {x i : Operand} {A : Option Addr} {n cp : Nat} {kd : IntKind} {z : Int} (l : List α) (j : Nat) (hd : Nat.blt d c.n = true) (ht : c.P.underlying t = some (.slice e)) (hz : Sz c.P e (El.sz α))
    (hx : ev fr x = some (.slice A n cp)) (hi : ev fr i = some (.int kd z)) (hjz : z = (j : Int)) (hr : Row A (rows l) ∈ L) (hn : n = l.length) (hj : j < l.length) (h0 : 0 < El.sz α)
    (k : HL c ops Q rest ((d, .pointer (some ((adr A).add (j * El.sz α)))) :: fr) hp L) : HL c ops Q (⟨some d, .indexAddr t x i, ty, pos, af, none⟩ :: rest) fr hp L :=
  r_indexAddr j hd ht hz hx hi hjz (by omega) hr (rows_lt hj h0) k
def Rows2 {α : Type} [El α] (A : Option Addr) (ps : List (Sl α)) : Fact where
  P w := (Row A (rows ps)).P w ∧ ∀ p ∈ ps, (Row p.a (rows p.l)).P w
  fp k := (Row A (rows ps)).fp k ∨ ∃ p ∈ ps, (Row p.a (rows p.l)).fp k
  st w w' h hP := ⟨(Row A (rows ps)).st w w' (fun k hk => h k (.inl hk)) hP.1, fun p hp => (Row p.a (rows p.l)).st w w' (fun k hk => h k (.inr ⟨p, hp, hk⟩)) (hP.2 p hp)⟩
  lt w hP k hk := by
    rcases hk with hk | ⟨p, hp, hk⟩
    · exact (Row A (rows ps)).lt w hP.1 k hk
    · exact (Row p.a (rows p.l)).lt w (hP.2 p hp) k hk
section
variable {c : Cx} {Q : Exit → Act → World → Prop} {fr : Fr} {hp : Hp} {L : List Fact} {ops : Array Oper} {rest : List Oper}
variable {d : Tmp} {ty : TypeId} {pos : String} {af : Array Edge}
theorem p_t {x y z : Operand} {v : Value} {b : Bool} (hd : Nat.blt d c.n = true) (hx : ev fr x = some (.bool b)) (hb : b = true) (hy : ev fr y = some v) (k : HL c ops Q rest ((d, v) :: fr) hp L) : HL c ops Q (⟨some d, .pick x y z, ty, pos, af, none⟩ :: rest) fr hp L := by
  subst hb; exact r_pick_t hd hx hy k
theorem p_f {x y z : Operand} {v : Value} {b : Bool} (hd : Nat.blt d c.n = true) (hx : ev fr x = some (.bool b)) (hb : b = false) (hz : ev fr z = some v) (k : HL c ops Q rest ((d, v) :: fr) hp L) : HL c ops Q (⟨some d, .pick x y z, ty, pos, af, none⟩ :: rest) fr hp L := by
  subst hb; exact r_pick_f hd hx hz k
theorem c_t {x : Operand} {b : Bool} {thn els : Code} (hx : ev fr x = some (.bool b)) (hb : b = true) (ht : HC c thn Q fr hp L) : HC c (.cond x thn els) Q fr hp L := by subst hb; exact hc_cond_t hx ht
theorem c_f {x : Operand} {b : Bool} {thn els : Code} (hx : ev fr x = some (.bool b)) (hb : b = false) (hf : HC c els Q fr hp L) : HC c (.cond x thn els) Q fr hp L := by subst hb; exact hc_cond_f hx hf
theorem bt1 {b : Bool} (h : (b == true) = true) : b = true := by cases b <;> simp_all
theorem bt2 {b : Bool} (h : (b == false) = false) : b = true := by cases b <;> simp_all
theorem bf1 {b : Bool} (h : (b == false) = true) : b = false := by cases b <;> simp_all
theorem bf2 {b : Bool} (h : (b == true) = false) : b = false := by cases b <;> simp_all
theorem g_und {o : Oper} {j : Nat} {want : Bool} {t : Tmp} {v : Value} (ho : o.dst = some d) (hg : o.guard = some (j, want)) (hd : Nat.blt d c.n = true) (hj : (ops[j]?).bind (·.dst) = some t) (hv : lk fr t = some v) (hu : v = undef)
    (k : HL c ops Q rest ((d, undef) :: fr) hp L) : HL c ops Q (o :: rest) fr hp L := by
  subst hu; intro a w ha hw; refine wpL_skip ?_ ?_
  · rw [Region.wanted, hg]
    show (yielded ops a.tmps j == some want) = false; have h1 := ha.at_ t _ hv
    have : yielded ops a.tmps j = none := by
      unfold yielded; rw [hj]; simp only [Option.bind_some]
      cases h2 : a.tmps[t]? with
      | none => rfl
      | some u => simp [Array.getD_eq_getD_getElem?, h2, undef] at h1; rw [h1]
    rw [this]; rfl
  · rw [ho]; exact k _ _ (ha.put (by simpa using hd) _) hw
theorem g_split {dst : Option Tmp} {op : Op} {j : Nat} {want b : Bool} {t : Tmp} (hj : (ops[j]?).bind (·.dst) = some t) (hv : lk fr t = some (.bool b))
    (hy : (b == want) = true → HL c ops Q (⟨dst, op, ty, pos, af, some (j, want)⟩ :: rest) fr hp L) (hn : (b == want) = false → HL c ops Q (⟨dst, op, ty, pos, af, some (j, want)⟩ :: rest) fr hp L) :
    HL c ops Q (⟨dst, op, ty, pos, af, some (j, want)⟩ :: rest) fr hp L := by
  cases hb : (b == want)
  · exact hn hb
  · exact hy hb
theorem hb_split {O0 : Hp} {K : Env → Prop} {r : List Oper} {E : Env} {want b : Bool} {t : Tmp} (hv : lkE E t = some (.ex (.bool b))) (hy : (b == want) = true → HB c ops fr O0 hp L K r E) (hn : (b == want) = false → HB c ops fr O0 hp L K r E) : HB c ops fr O0 hp L K r E := by
  cases hb : (b == want)
  · exact hn hb
  · exact hy hb
theorem c_dec {x : Operand} {p : Prop} [Decidable p] {thn els : Code} (hx : ev fr x = some (.bool (decide p))) (ht : p → HC c thn Q fr hp L) (hf : ¬ p → HC c els Q fr hp L) : HC c (.cond x thn els) Q fr hp L :=
  hc_cond hx (fun h => ht (of_decide_eq_true h)) (fun h => hf (of_decide_eq_false h))
end
theorem m0 {α : Type u} {a  : α} {l : List α} : a ∈ a :: l := .head _
theorem m1 {α : Type u} {a x0 : α} {l : List α} : a ∈ x0 :: a :: l := .tail _ (.head _)
theorem m2 {α : Type u} {a x0 x1 : α} {l : List α} : a ∈ x0 :: x1 :: a :: l := .tail _ (.tail _ (.head _))
theorem perm3 {α : Type} (a b c : α) (l : List α) : (a :: b :: c :: l).Perm (c :: a :: b :: l) := by
  have h1 : (a :: b :: c :: l).Perm (a :: c :: b :: l) := (List.Perm.swap c b l).cons a; exact h1.trans (.swap c a _)
theorem perm2 {α : Type} (a b : α) (l : List α) : (a :: b :: l).Perm (b :: a :: l) := .swap b a l
theorem perm4 {α : Type} (a b c d : α) (l : List α) : (a :: b :: c :: d :: l).Perm (d :: a :: b :: c :: l) := ((perm3 b c d l).cons a).trans (.swap d a _)
end Go.W
end
section
namespace Go.W
open Go Go.RowKit
section
variable {c : Cx} {Q : Exit → Act → World → Prop} {fr : Fr} {hp : Hp} {L : List Fact} {ops : Array Oper} {rest : List Oper}
variable {d : Tmp} {ty : TypeId} {pos : String} {af : Array Edge}
theorem r_loadA {t e : TypeId} {x : Operand} {g : Nat} {cs : Array Value} {fz : Nat × Nat} {n : Nat} (hd : Nat.blt d c.n = true) (ht' : IsR c.P t) (hz' : Sz c.P t n) (hx : ev fr x = some (.pointer (some ⟨g, 0, none⟩))) (h : (g, Obj.cells cs e fz) ∈ hp) (hn : cs.size = n)
    (k : HL c ops Q rest ((d, .agg cs) :: fr) hp L) : HL c ops Q (⟨some d, .load t x, ty, pos, af, none⟩ :: rest) fr hp L :=
  r_loadS (cs := cs.toList) hd ht' hz' hx (by simpa using hn) (cells_own h (fun i u hu => by simpa using hu)) k
end
end Go.W
end
section
namespace Go.W
open Go Go.RowKit
abbrev Ment (κ : Type) := κ × Value × Nat
def entOf {κ : Type} (enc : κ → Value) (p : Ment κ) : MapEntry := ⟨enc p.1, p.2.1, p.2.2⟩
def mapO {κ : Type} (enc : κ → Value) (l : List (Ment κ)) (clk : Nat) : Obj := .map (l.map (entOf enc)).toArray clk
def findM {κ : Type} [DecidableEq κ] (k : κ) : List (Ment κ) → Nat → Option (Nat × Value)
  | [], _ => none
  | p :: l, i => if p.1 = k then some (i, p.2.1) else findM k l (i + 1)
def getM {κ : Type} [DecidableEq κ] (l : List (Ment κ)) (k : κ) : Option Value := (findM k l 0).map (·.2)
def putM {κ : Type} [DecidableEq κ] (l : List (Ment κ)) (k : κ) (v : Value) (clk : Nat) : List (Ment κ) :=
  match findM k l 0 with
  | some (i, _) => l.modify i fun p => (k, v, p.2.2)
  | none => l ++ [(k, v, clk)]
def clkM {κ : Type} [DecidableEq κ] (l : List (Ment κ)) (k : κ) (clk : Nat) : Nat := if (findM k l 0).isSome then clk else clk + 1
structure KeyC (P : Program) (kt : TypeId) {κ : Type} [DecidableEq κ] (enc : κ → Value) : Prop where
  chk : ∀ b k w, (Instr.checkKey b 10000 kt (enc k)).run P w = .ok () w
  find : ∀ k l w, (Instr.findKey kt (enc k) (l.map (entOf enc))).run P w = .ok (findM k l 0) w
  stays : ∀ k w, (Instr.keyThatStays (enc k) (enc k)).run P w = .ok (enc k) w
theorem findNow_int (k : Int) : ∀ (l : List (Ment Int)) (i : Nat), Instr.findNow (.int .i64) (int k) (l.map (entOf int)) i = some (findM k l i)
  | [], i => rfl
  | p :: l, i => by
    rw [List.map_cons, Instr.findNow]; simp only [Instr.sameNow, entOf, findM]
    by_cases h : p.1 = k
    · simp [h]
    · have h' : ¬ k = p.1 := fun e => h e.symm
      simp only [if_true, h, if_false, beq_eq_false_iff_ne.2 h']; exact findNow_int k l (i + 1)
theorem findNow_str (k : Str) : ∀ (l : List (Ment Str)) (i : Nat), Instr.findNow .string (str k) (l.map (entOf str)) i = some (findM k l i)
  | [], i => rfl
  | p :: l, i => by
    rw [List.map_cons, Instr.findNow]; simp only [str, Instr.sameNow, entOf, findM]
    have hb : ((ByteArray.mk k.toArray) == ByteArray.mk p.1.toArray) = decide (p.1 = k) := by
      rw [Bool.eq_iff_iff, MapKept.bytes_beq, decide_eq_true_iff]
      constructor
      · intro e
        injection e with e
        have := congrArg Array.toList e
        simpa using this.symm
      · intro e; rw [e]
    rw [hb]
    by_cases h : p.1 = k
    · simp [h]
    · simp only [h, decide_false, if_false]
      exact findNow_str k l (i + 1)
theorem KeyC.int {P : Program} {kt : TypeId} (h : P.underlying kt = some (.int .i64)) : KeyC P kt W.int where
  chk b k w := MapKept.run_checkKey h (by simp [MapKept.IsKey]) b 9999
  find k l w := MapKept.run_findKey h (findNow_int k l 0)
  stays k w := MapKept.run_keyThatStays (d := .int .i64) (by simp [MapKept.IsKey])
theorem KeyC.str {P : Program} {kt : TypeId} (h : P.underlying kt = some .string) : KeyC P kt W.str where
  chk b k w := MapKept.run_checkKey h (by simp [MapKept.IsKey, W.str]) b 9999
  find k l w := MapKept.run_findKey h (findNow_str k l 0)
  stays k w := MapKept.run_keyThatStays (d := .string) (by simp [MapKept.IsKey, W.str])
def pair (p : Int × Int) : Value := .agg #[W.int p.1, W.int p.2]
theorem part_int {P : Program} {e : TypeId} (he : P.underlying e = some (.int .i64)) (cs : Array Value) (i : Nat) (v : Value) (hv : cs[i]? = some v) (w : World) : (part e cs i).run P w = .ok v w := by
  have hagg : (isAgg e).run P w = .ok false w := by
    unfold isAgg; rw [Sem.run_bind, run_underlying he w]
    rfl
  simp [part, Sem.run_bind, hagg, hv]
theorem eq_int {P : Program} {e : TypeId} (he : P.underlying e = some (.int .i64)) (d : Nat) (a b : Int) (w : World) : (Op.equalIn (d + 1) e (W.int a) (W.int b)).run P w = .ok (a == b) w := by
  simp [Op.equalIn, run_underlying he]
theorem eq_pair {P : Program} {kt e : TypeId} (h : P.underlying kt = some (.array 2 e)) (he : P.underlying e = some (.int .i64)) (hz : Sz P e 1) (p q : Int × Int) (w : World) : (Op.equal kt (pair p) (pair q)).run P w = .ok (decide (p = q)) w := by
  have hs := size_of hz w
  have key : ∀ d, (Op.equalIn (d + 2) kt (pair p) (pair q)).run P w = .ok (decide (p = q)) w := by
    intro d; obtain ⟨a, b⟩ := p; obtain ⟨a', b'⟩ := q; have p0 := part_int he #[W.int a, W.int b] 0 (W.int a) rfl w; have p1 := part_int he #[W.int a, W.int b] 1 (W.int b) rfl w; have q0 := part_int he #[W.int a', W.int b'] 0 (W.int a') rfl w; have q1 := part_int he #[W.int a', W.int b'] 1 (W.int b') rfl w; unfold Op.equalIn; simp only [Sem.run_bind, run_underlying h, pair, hs, Result.andThen_ok, Std.Legacy.Range.forIn_eq_forIn_range', Std.Legacy.Range.size, Nat.sub_zero, Nat.reduceAdd, Nat.reduceSub, Nat.reduceDiv, List.range', List.forIn_cons, List.forIn_nil, Nat.zero_mul, Nat.mul_one, Nat.zero_add, p0, p1, q0, q1, eq_int he d]
    by_cases h1 : a = a'
    · subst h1
      by_cases h2 : b = b'
      · subst h2; simp [p1, eq_int he d]
      · simp [h2, p1, q1, eq_int he d]
    · simp [h1]
  exact key 9998
theorem findA_pair {P : Program} {kt e : TypeId} (h : P.underlying kt = some (.array 2 e)) (he : P.underlying e = some (.int .i64)) (hz : Sz P e 1) (k : Int × Int) (w : World) : ∀ (l : List (Ment (Int × Int))) (i : Nat), (Instr.findAsking kt (pair k) (l.map (entOf pair)) i).run P w = .ok (findM k l i) w
  | [], i => rfl
  | p :: l, i => by
    rw [List.map_cons, Instr.findAsking]; simp only [Sem.run_bind, entOf, eq_pair h he hz, Result.andThen_ok, findM]
    by_cases hk : p.1 = k
    · simp [hk]
    · have h' : ¬ k = p.1 := fun e => hk e.symm
      simp only [hk, h', decide_false, Bool.false_eq_true, if_false]; exact findA_pair h he hz k w l (i + 1)
theorem KeyC.pair {P : Program} {kt e : TypeId} (h : P.underlying kt = some (.array 2 e)) (he : P.underlying e = some (.int .i64)) (hz : Sz P e 1) : KeyC P kt W.pair where
  chk b k w := by
    have hs := size_of hz w; have p0 := part_int he #[W.int k.1, W.int k.2] 0 (W.int k.1) rfl w; have p1 := part_int he #[W.int k.1, W.int k.2] 1 (W.int k.2) rfl w; have c : ∀ (n : Int), (Instr.checkKey b 9999 e (W.int n)).run P w = .ok () w := fun n => MapKept.run_checkKey he (by simp [MapKept.IsKey]) b 9998; unfold Instr.checkKey
    simp [run_underlying h, W.pair, hs, Std.Legacy.Range.forIn_eq_forIn_range', List.range', p0, p1, c]
  find k l w := by
    unfold Instr.findKey; simp only [Sem.run_bind, run_underlying h, Result.andThen_ok]
    have : Instr.findNow (.array 2 e) (W.pair k) (l.map (entOf W.pair)) 0 = none ∨ (l = [] ∧ Instr.findNow (.array 2 e) (W.pair k) (l.map (entOf W.pair)) 0 = some none) := by
      cases l with
      | nil => exact .inr ⟨rfl, rfl⟩
      | cons p l => exact .inl rfl
    rcases this with h1 | ⟨rfl, h1⟩
    · rw [h1]
      exact findA_pair h he hz k w l 0
    · rw [h1]; rfl
  stays k w := by
    obtain ⟨a, b⟩ := k
    have : Instr.sameBits 10000 (W.pair (a, b)) (W.pair (a, b)) = true := by
      simp [Instr.sameBits, W.pair]
    unfold Instr.keyThatStays; rw [if_pos this]
    rfl
/-! ### Cuts as facts; perms -/
theorem perm_of {α : Type} {l l' : List α} (h : ∀ p : α → Bool, l.countP p = l'.countP p) : l.Perm l' := by
  classical
  refine List.perm_iff_count.2 fun a => ?_
  simpa [List.count] using h (· == a)
section
variable {c : Cx} {Q : Exit → Act → World → Prop} {fr : Fr} {hp : Hp} {L : List Fact} {ops : Array Oper} {rest : List Oper}
theorem hq_grown0 {e : TypeId} {sz n cap : Nat} {A : Option Addr} {xs : List Value} {og : Hp} {x : Exit} (hG : Grow e sz A n cap xs og) (k : HQ c Q x fr [] (Row A xs :: L)) : HQ c Q x fr og L := fun a w ha hw => k a w ha (wi_grown hG (by simpa using hw))
end
/-! ### The rules -/
def MapAt (b : Bx) (hp : Hp) (L : List Fact) (g : Nat) (o : Obj) : Prop := ∀ w, WI b w hp L → w.heap[g]? = some o
section
variable {κ : Type} [DecidableEq κ] {enc : κ → Value} {kt e : TypeId}
theorem map_own {b : Bx} {hp : Hp} {L : List Fact} {g : Nat} {o : Obj} (h : (g, o) ∈ hp) : MapAt b hp L g o := fun w hw => hw.own _ h
variable {c : Cx} {Q : Exit → Act → World → Prop} {fr : Fr} {hp : Hp} {L : List Fact} {ops : Array Oper} {rest : List Oper}
variable {d : Tmp} {ty : TypeId} {pos : String} {af : Array Edge}
theorem findM_at {k : κ} : ∀ (l : List (Ment κ)) (i j : Nat) (v : Value), findM k l i = some (j, v) → ∃ m p, j = i + m ∧ l[m]? = some p ∧ p.1 = k ∧ p.2.1 = v
  | [], i, j, v, h => by simp [findM] at h
  | p :: l, i, j, v, h => by
    rw [findM] at h
    split at h
    · rename_i e
      simp only [Option.some.injEq, Prod.mk.injEq] at h; exact ⟨0, p, by omega, rfl, e, h.2⟩
    · obtain ⟨m, q, h1, h2, h3⟩ := findM_at l (i + 1) j v h
      exact ⟨m + 1, q, by omega, by simpa using h2, h3⟩
omit [DecidableEq κ] in
theorem map_modify_ent {l : List (Ment κ)} {i : Nat} {k : κ} {v : Value} {p : Ment κ} (hp : l[i]? = some p) :
    ((l.map (entOf enc)).toArray.modify i fun x => { x with key := enc k, val := v }) = ((l.modify i fun p => (k, v, p.2.2)).map (entOf enc)).toArray := by
  apply Array.ext'
  simp only [Array.toList_modify]
  apply List.ext_getElem?
  intro n; simp only [List.getElem?_modify, List.getElem?_map]
  split
  · cases hl : l[n]? <;> simp [entOf]
  · simp
theorem r_insert {t : TypeId} {x y z : Operand} {g : Nat} {l : List (Ment κ)} {clk : Nat} {k : κ} {v : Value} {hp' : Hp} {o : Op} (K : KeyC c.P kt enc) (ho : o = .mapUpdate t x y z ∨ o = .insert t x y z) (ht : c.P.underlying t = some (.map kt e)) (hx : ev fr x = some (.map (some g))) (hy : ev fr y = some (enc k)) (hz : ev fr z = some v)
    (hpp : hp.Perm ((g, mapO enc l clk) :: hp')) (kk : HL c ops Q rest fr ((g, mapO enc (putM l k v clk) (clkM l k clk)) :: hp') L) : HL c ops Q (⟨none, o, ty, pos, af, none⟩ :: rest) fr hp L :=
  hl_unit (hok := by rcases ho with rfl | rfl <;> rfl) rfl rfl fun a w ha hw => by
    have hw' := hw.perm hpp; have hg := hw'.own (g, mapO enc l clk) (by simp); have hg' : w.heap[g]? = some (.map (l.map (entOf enc)).toArray clk) := hg; have hf := K.find k l w
    have hrun : (Instr.mapUpdate t (.map (some g)) (enc k) v).run c.P w = .ok () { w with heap := w.heap.setIfInBounds g (mapO enc (putM l k v clk) (clkM l k clk)) } := by
      unfold putM clkM
      cases hr : findM k l 0 with
      | none =>
        rw [hr] at hf; simp only [Instr.mapUpdate, Sem.run_bind, run_underlying ht, Result.andThen_ok, MapKept.run_getObj_map hg', K.chk, hf, MapKept.run_setObj_map _ hg']
        have : ((l.map (entOf enc)).toArray.push { key := enc k, val := v, born := clk }) = ((l ++ [(k, v, clk)]).map (entOf enc)).toArray := by
          apply Array.ext'; simp [entOf]
        rw [this]
        rfl
      | some p =>
        obtain ⟨i, u⟩ := p; rw [hr] at hf; obtain ⟨m, q, h1, h2, h3, h4⟩ := findM_at l 0 i u hr; have e1 : i = m := by omega
        subst e1
        have e2 : (((l.map (entOf enc)).toArray[i]?).map (·.key)).getD (enc k) = enc k := by
          simp [h2, entOf, h3]
        simp only [Instr.mapUpdate, Sem.run_bind, run_underlying ht, Result.andThen_ok, MapKept.run_getObj_map hg', K.chk, hf, e2, K.stays, MapKept.run_setObj_map _ hg', map_modify_ent h2]
        rfl
    refine ⟨{ w with heap := w.heap.setIfInBounds g (mapO enc (putM l k v clk) (clkM l k clk)) }, _, L, ?_, hw'.write (o' := mapO enc (putM l k v clk) (clkM l k clk)) ⟨rfl, rfl, rfl, by simp, fun j hj hn => by simp only [List.mem_singleton] at hn; simp [Array.getElem?_setIfInBounds_ne (Ne.symm hn)], Nat.le_refl _⟩ ?_, kk⟩
    · rcases ho with rfl | rfl <;> simp only [execOp, ha.ev hx, ha.ev hy, ha.ev hz, Sem.run_bind, hrun, Result.andThen_ok, Sem.run_pure]
    · have := lt_of_own hg
      simp only at this
      simp [this]
omit [DecidableEq κ] in
theorem r_makeMapM (enc : κ → Value) {t : TypeId} (hd : Nat.blt d c.n = true) (k : ∀ g, HL c ops Q rest ((d, .map (some g)) :: fr) ((g, mapO enc [] 0) :: hp) L) : HL c ops Q (⟨some d, .makeMap t none, ty, pos, af, none⟩ :: rest) fr hp L :=
  r_makeMap hd k
theorem findM_succ {k : κ} : ∀ (l : List (Ment κ)) (i : Nat), findM k l (i + 1) = (findM k l i).map fun p => (p.1 + 1, p.2)
  | [], i => rfl
  | p :: l, i => by
    simp only [findM]
    split
    · rfl
    · exact findM_succ l (i + 1)
theorem getM_cons (p : Ment κ) (l : List (Ment κ)) (k : κ) : getM (p :: l) k = if p.1 = k then some p.2.1 else getM l k := by
  unfold getM; simp only [findM]
  split
  · rfl
  · rw [findM_succ]; cases findM k l 0 <;> rfl
end
end Go.W
end
section
namespace Go.W
open Go Go.RowKit
section
variable {c : Cx} {fr : Fr} {hp : Hp} {L : List Fact}
theorem ret_row {β : Type} {k : Con β} {fn : Func} {w0 : World} (x : β) {t : Tmp} {ty e : TypeId} {g n : Nat} {cs : Array Value} {fz : Nat × Nat} (hres : fn.results = #[.cell t ty]) (hv : lk fr t = some (.pointer (some ⟨g, 0, none⟩))) (ht : IsR c.P ty) (hz : Sz c.P ty n) (hn : cs.size = n)
    (hm : (g, Obj.cells cs e fz) ∈ hp) (hk : k.val x = .agg cs) (hb : c.b = k.entry w0) (hi : k.inv x) (h2 : (k.hpO x).Sublist hp) (h3 : LSub L (k.LO x)) (hD : c.D = [] := by rfl) : HQ c (postB c.P fn (k.post w0)) .ret fr hp L :=
  ret_run x (fun a w ha hw => by
    obtain ⟨dd, ht, hr⟩ := ht; have h1 := hw.own _ hm; simp only at h1
    have hl : (loadVar ty ⟨g, 0, none⟩).run c.P w = .ok (.agg cs) w := by
      have hagg : (isAgg ty).run c.P w = .ok true w := by
        unfold isAgg; rw [Sem.run_bind, run_underlying ht w]
        cases dd <;> simp_all [TypeDesc.isRow]
      have hc := run_loadCells_list (P := c.P) w ⟨g, 0, none⟩ cs.toList (fun j u hu => by rw [add_mk, Nat.zero_add]; simp at hu; simp [World.cell?, h1, hu]); have hs := size_of hz w; simp only [loadVar, Sem.run_bind, hagg, Result.andThen_ok, if_true, hs, ← hn]; have e : cs.size = cs.toList.length := by simp
      rw [e, hc]
      simp
    have hv' := ha.at_ _ _ hv; rw [hk]; unfold results; rw [hres]; have hv2 : a.tmps[t]?.getD undef = .pointer (some ⟨g, 0, none⟩) := by simpa using hv'
    simp [hv2, asAddr, hl]) hb hi h2 h3 hD
end
section
variable {c : Cx} {Q : Exit → Act → World → Prop} {fr : Fr} {hp : Hp} {L : List Fact} {ops : Array Oper} {rest : List Oper}
variable {d : Tmp} {ty : TypeId} {pos : String} {af : Array Edge}
theorem r_loadB {t e : TypeId} {x : Operand} {g : Nat} {cs : Array Value} {fz : Nat × Nat} {n : Nat} (hd : Nat.blt d c.n = true) (ht' : IsR c.P t) (hz' : Sz c.P t n) (hx : ev fr x = some (.pointer (some ⟨g, 0, none⟩))) (h : Blk g (Obj.cells cs e fz) ∈ L) (hn : cs.size = n)
    (k : HL c ops Q rest ((d, .agg cs) :: fr) hp L) : HL c ops Q (⟨some d, .load t x, ty, pos, af, none⟩ :: rest) fr hp L :=
  r_loadS (cs := cs.toList) hd ht' hz' hx (by simpa using hn) (cells_blk h (fun i u hu => by simpa using hu)) k
theorem r_append_full {t e : TypeId} {x y : Operand} {sz bytes n m cp : Nat} {A B : Option Addr} {olds news : List Value} (n' : Nat) (xs' : List Value) (el : ElT c.P t e sz bytes) (hd : Nat.blt d c.n = true)
    (hx : ev fr x = some (.slice A n n)) (hy : ev fr y = some (.slice B m cp)) (hA : Row A olds ∈ L) (hlo : olds.length = n * sz) (hs : Src c.b hp L B m sz news) (hn' : n + m = n') (hxs : olds ++ news = xs') (hn : n' ≤ maxLen) (hby : n' * bytes ≤ 140737488355328)
    (k : ∀ A' cap', n' ≤ cap' → HL c ops Q rest ((d, .slice A' n' cap') :: fr) hp (Row A' xs' :: L)) :
    HL c ops Q (⟨some d, .call ⟨.builtin .append, #[x, y], #[t, t]⟩, ty, pos, af, none⟩ :: rest) fr hp L :=
  hl_gen rfl rfl hd fun a w ha hw => by
    subst hn'; subst hxs; obtain ⟨i, z, hi, hz, hsz, hb, hzs⟩ := el.i; have hrow := hw.fs _ hA
    have hgs : Go.Src c.P i.size t (.slice B m cp) m news w := by
      rcases hs.2.2 with ⟨rfl, rfl⟩ | h
      · have : news = [] := List.eq_nil_of_length_eq_zero (by simpa using hs.1)
        subst this; exact Go.Src.ofNil w el.u cp
      · obtain ⟨ad, rfl, hc⟩ := h w hw
        exact Go.Src.ofSlice w el.u ad m cp news (by rw [hsz]; exact hs.1) hc hs.2.1
    by_cases hm : m = 0
    · subst hm
      have : news = [] := List.eq_nil_of_length_eq_zero (by simpa using hs.1); subst this; refine ⟨.slice A n n, w, hp, Row A (olds ++ []) :: L, ?_, hw.weak (.refl _) ?_ |>.add (by simpa using hrow) (fun p hp => by simpa using hw.ap _ hA p hp) (fun k hk => hw.al _ hA k (by simpa using hk)), k A n (Nat.le_refl _)⟩
      · have := run_append_nothing w t t ty e i el.u hi A n n (Nat.le_refl _) (.slice B 0 cp) hgs
        simp only [execOp, resolve, invoke, builtin, Sem.run_bind, Sem.run_pure, Result.andThen_ok, List.map_toArray, List.map_cons, List.map_nil, ha.ev hx, ha.ev hy, this]
      · exact fun _ h => h
    · have hold : (Builtin.firstCells i.size n (.slice A n n)).run c.P w.drew = .ok olds.toArray w.drew := by
        cases A with
        | none =>
          have : olds = [] := by
            cases olds with
            | nil => rfl
            | cons u r => obtain ⟨ad, e, _⟩ := hrow 0 u rfl; cases e
          subst this
          have hn0 : n = 0 := by
            have := el.pos; simp only [List.length_nil] at hlo
            rcases Nat.eq_zero_or_pos n with h | h
            · exact h
            · have := Nat.mul_pos h this; omega
          subst hn0; exact run_firstCells_none _ _ _ _ _
        | some ad => exact run_firstCells_some _ _ _ _ _ _ olds (by rw [hsz]; exact hlo) (fun j u hu => by
            obtain ⟨ad', e, hc⟩ := hrow j u hu
            cases e
            simpa using hc)
      have hrun := run_append_grow_src w t t ty e i z el.u hi hz A n n olds hold (.slice B m cp) m news hgs (by omega) (by unfold maxLen at hn; omega) (growslice_fits (by omega) (by rw [hb]; exact hby)); have h2 := (hw.quiet (ext_drew w)).alloc (.cells ((olds ++ news).toArray ++ Builtin.zeroCells z.cells (grownCap w (n + m) n e - (n + m))) e (0, 0)); refine ⟨_, w.drew.alloc (.cells ((olds ++ news).toArray ++ Builtin.zeroCells z.cells (grownCap w (n + m) n e - (n + m))) e), hp, Row (some ⟨w.heap.size, 0, none⟩) (olds ++ news) :: L, ?_, wi_letgo h2 ?_, k (some ⟨w.heap.size, 0, none⟩) (grownCap w (n + m) n e) (grownCap_ge w (n + m) n e)⟩
      · simp only [execOp, resolve, invoke, builtin, Sem.run_bind, Sem.run_pure, Result.andThen_ok, List.map_toArray, List.map_cons, List.map_nil, ha.ev hx, ha.ev hy, hrun]
      · exact ⟨(Builtin.zeroCells z.cells (grownCap w (n + m) n e - (n + m))).toList, by simp⟩
end
section
variable {κ : Type} [DecidableEq κ] {enc : κ → Value} {kt e : TypeId}
variable {c : Cx} {Q : Exit → Act → World → Prop} {fr : Fr} {hp : Hp} {L : List Fact} {ops : Array Oper} {rest : List Oper}
variable {d : Tmp} {ty : TypeId} {pos : String} {af : Array Edge}
theorem getM_mem {l : List (Ment κ)} {k : κ} {v : Value} (h : getM l k = some v) : ∃ p ∈ l, p.1 = k ∧ p.2.1 = v := by
  unfold getM at h
  cases hf : findM k l 0 with
  | none => rw [hf] at h; cases h
  | some q =>
    obtain ⟨i, u⟩ := q; rw [hf] at h; simp only [Option.map_some, Option.some.injEq] at h; subst h; obtain ⟨m, p, _, h2, h3, h4⟩ := findM_at l 0 i u hf; exact ⟨p, List.mem_of_getElem? h2, h3, h4⟩
end
theorem sub_of_count {α : Type} {l' : List α} : ∀ {l : List α}, (∀ p : α → Bool, l'.countP p ≤ l.countP p) → ∃ r, l.Perm (l' ++ r) := by
  classical
  induction l' with
  | nil => intro l _; exact ⟨l, .refl _⟩
  | cons a t ih =>
    intro l h; have h1 := h (fun x => decide (x = a)); rw [List.countP_cons_of_pos (by simp)] at h1
    have ha : a ∈ l := by
      have : 0 < l.countP (fun x => decide (x = a)) := by omega
      obtain ⟨x, hx, e⟩ := List.countP_pos_iff.1 this
      simp at e
      exact e ▸ hx
    have hp := List.perm_cons_erase ha
    obtain ⟨r, hr⟩ := ih (l := l.erase a) (fun p => by
      have h2 := h p; have h3 := hp.countP_eq p; rw [List.countP_cons] at h2 h3
      omega)
    exact ⟨r, hp.trans (hr.cons a)⟩
theorem WI.count {b : Bx} {w : World} {hp hp' : Hp} {L L' : List Fact} (h : WI b w hp L) (hc : ∀ p : Nat × Obj → Bool, hp'.countP p ≤ hp.countP p) (h2 : ∀ F ∈ L', F ∈ L) : WI b w hp' L' := by
  obtain ⟨r, hr⟩ := sub_of_count hc; exact (h.perm hr).weak (List.sublist_append_left _ _) h2
section
variable {c : Cx} {Q : Exit → Act → World → Prop} {fr : Fr} {hp : Hp} {L : List Fact} {ops : Array Oper} {rest : List Oper}
theorem hc_count {x : Code} (hp' : Hp) (h : ∀ p : Nat × Obj → Bool, hp'.countP p ≤ hp.countP p) (k : HC c x Q fr hp' L) : HC c x Q fr hp L := fun a w ha hw => k a w ha (hw.count h fun _ h => h)
end
section
variable {c : Cx} {Q : Exit → Act → World → Prop} {fr : Fr} {hp : Hp} {L : List Fact} {ops : Array Oper} {rest : List Oper}
theorem wi_letgoB {b : Bx} {w : World} {g : Nat} {o : Obj} (h : WI b w ((g, o) :: hp) L) : WI b w hp (Blk g o :: L) := h.letgo (h.own (g, o) (by simp)) (fun k hk => hk)
theorem hc_letgoB {g : Nat} {o : Obj} {x : Code} (k : HC c x Q fr hp (Blk g o :: L)) : HC c x Q fr ((g, o) :: hp) L := fun a w ha hw => k a w ha (wi_letgoB hw)
theorem hl_letgoB {g : Nat} {o : Obj} (k : HL c ops Q rest fr hp (Blk g o :: L)) : HL c ops Q rest fr ((g, o) :: hp) L := fun a w ha hw => k a w ha (wi_letgoB hw)
end
def Facts (Fs : List Fact) : Fact where
  P w := ∀ F ∈ Fs, F.P w
  fp k := ∃ F ∈ Fs, F.fp k
  st w w' h hP F hF := F.st w w' (fun k hk => h k ⟨F, hF, hk⟩) (hP F hF)
  lt w hP k hk := by obtain ⟨F, hF, hk⟩ := hk; exact F.lt w (hP F hF) k hk
section
variable {c : Cx} {Q : Exit → Act → World → Prop} {fr : Fr} {hp : Hp} {L : List Fact} {ops : Array Oper} {rest : List Oper}
theorem wi_pick {b : Bx} {w : World} {Fs : List Fact} {F : Fact} (h : Facts Fs ∈ L) (hF : F ∈ Fs) (hw : WI b w hp L) : WI b w hp (F :: L) := wi_more hw (hw.fs _ h F hF) (fun k hk => ⟨_, h, F, hF, hk⟩)
theorem hl_pick {Fs : List Fact} {F : Fact} (h : Facts Fs ∈ L) (hF : F ∈ Fs) (k : HL c ops Q rest fr hp (F :: L)) : HL c ops Q rest fr hp L := fun a w ha hw => k a w ha (wi_pick h hF hw)
theorem hc_pick {Fs : List Fact} {F : Fact} {x : Code} (h : Facts Fs ∈ L) (hF : F ∈ Fs) (k : HC c x Q fr hp (F :: L)) : HC c x Q fr hp L := fun a w ha hw => k a w ha (wi_pick h hF hw)
theorem wi_facts {b : Bx} {w : World} {Fs : List Fact} (h : ∀ F ∈ Fs, F ∈ L ∨ ∃ Gs, Facts Gs ∈ L ∧ F ∈ Gs) (hw : WI b w hp L) : WI b w hp (Facts Fs :: L) :=
  wi_more hw (fun F hF => by
    rcases h F hF with h1 | ⟨Gs, h1, h2⟩
    · exact hw.fs _ h1
    · exact hw.fs _ h1 F h2) (fun k hk => by
    obtain ⟨F, hF, hk⟩ := hk
    rcases h F hF with h1 | ⟨Gs, h1, h2⟩
    · exact ⟨F, h1, hk⟩
    · exact ⟨_, h1, F, h2, hk⟩)
theorem hc_facts {Fs : List Fact} {x : Code} (h : ∀ F ∈ Fs, F ∈ L ∨ ∃ Gs, Facts Gs ∈ L ∧ F ∈ Gs) (k : HC c x Q fr hp (Facts Fs :: L)) : HC c x Q fr hp L := fun a w ha hw => k a w ha (wi_facts h hw)
theorem hq_facts {Fs : List Fact} {x : Exit} (h : ∀ F ∈ Fs, F ∈ L ∨ ∃ Gs, Facts Gs ∈ L ∧ F ∈ Gs) (k : HQ c Q x fr hp (Facts Fs :: L)) : HQ c Q x fr hp L := fun a w ha hw => k a w ha (wi_facts h hw)
end
section
variable {c : Cx} {Q : Exit → Act → World → Prop} {fr : Fr} {hp : Hp} {L : List Fact} {ops : Array Oper} {rest : List Oper}
theorem hq_nilrow {e : Exit} {α : Type} [El α] (k : HQ c Q e fr hp (Row none (rows ([] : List α)) :: L)) : HQ c Q e fr hp L := hq_more (F := Row none (rows ([] : List α))) (fun w _ => Row.nil _ w) (fun k hk => by obtain ⟨_, e, _⟩ := hk; cases e) k
theorem hl_nilrow {α : Type} [El α] (k : HL c ops Q rest fr hp (Row none (rows ([] : List α)) :: L)) : HL c ops Q rest fr hp L := hl_more (F := Row none (rows ([] : List α))) (fun w _ => Row.nil _ w) (fun k hk => by obtain ⟨_, e, _⟩ := hk; cases e) k
end
end Go.W
end
