/- Part 12 of what the row leans on: the evaluator, words, contracts of functions; pruned by a program of ours. -/
import Derived.Test.YtnoelgaficjjmaaFb11
import Derived.Test.YtnoelgaficjjmaaProg
import Derived.KernelRfl
namespace Go.Ev
open Go Go.Proofs
theorem mixed : Try.prog.follows .mixedOrders = true := by kernel_rfl
theorem elTy_22 : elTy Try.prog 22 = some (5, 1, 1) := by kernel_rfl
theorem par_5 : parTys Try.prog 5 = [22, 3] := by kernel_rfl
theorem cty_22 : cty Try.prog 22 = [some (5, 1)] := by kernel_rfl
theorem cty_3 : cty Try.prog 3 = [none] := by kernel_rfl
theorem zeroC_5 : zeroC Try.prog 5 = some [.v (.int .u8 0)] := by kernel_rfl
theorem cty_5 : cty Try.prog 5 = [none] := by kernel_rfl
theorem elTy_24 : elTy Try.prog 24 = some (22, 1, 24) := by kernel_rfl
theorem zeroC_22 : zeroC Try.prog 22 = some [.v (.slice none 0 0)] := by kernel_rfl
theorem bldTy_26 : bldTy Try.prog 26 = some (.st [(0, 1), (1, 1), (2, 1), (3, 1)]) := by kernel_rfl
theorem zeroC_26 : zeroC Try.prog 26 = some [.v (.int .i64 0), .v (.int .i64 0), .v (.int .i64 0), .v (.slice none 0 0)] := by kernel_rfl
theorem tySz_26 : tySz Try.prog 26 = some (4, true) := by kernel_rfl
theorem par_6 : parTys Try.prog 6 = [26] := by kernel_rfl
theorem cty_26 : cty Try.prog 26 = [none, none, none, some (22, 1)] := by kernel_rfl
theorem boolTy_4 : boolTy Try.prog 4 = some () := by kernel_rfl
theorem bldTy_30 : bldTy Try.prog 30 = some (.st [(0, 1), (1, 1), (2, 1), (3, 1)]) := by kernel_rfl
theorem zeroC_30 : zeroC Try.prog 30 = some [.v (.int .i64 0), .v (.int .i64 0), .v (.int .i64 0), .v (.slice none 0 0)] := by kernel_rfl
theorem tySz_30 : tySz Try.prog 30 = some (4, true) := by kernel_rfl
theorem par_7 : parTys Try.prog 7 = [30, 22] := by kernel_rfl
theorem cty_30 : cty Try.prog 30 = [none, none, none, some (73, 7)] := by kernel_rfl
theorem par_8 : parTys Try.prog 8 = [30, 30] := by kernel_rfl
theorem bldTy_35 : bldTy Try.prog 35 = some (.st [(0, 1), (1, 1), (2, 1), (3, 1), (4, 1), (5, 1)]) := by kernel_rfl
theorem zeroC_35 : zeroC Try.prog 35 = some [.v (.int .i64 0), .v (.int .i64 0), .v (.int .i64 0), .v (.int .i64 0), .v (.bool false), .v (.slice none 0 0)] := by kernel_rfl
theorem tySz_35 : tySz Try.prog 35 = some (6, true) := by kernel_rfl
theorem par_9 : parTys Try.prog 9 = [35] := by kernel_rfl
theorem cty_35 : cty Try.prog 35 = [none, none, none, none, none, some (5, 1)] := by kernel_rfl
theorem cvTy_3_5 : cvTy Try.prog 3 5 = some (.int .u8) := by kernel_rfl
theorem par_10 : parTys Try.prog 10 = [24] := by kernel_rfl
theorem cty_24 : cty Try.prog 24 = [some (22, 1)] := by kernel_rfl
theorem cvTy_22_22 : cvTy Try.prog 22 22 = some .same := by kernel_rfl
theorem bldTy_39 : bldTy Try.prog 39 = some (.st [(0, 1), (1, 1), (2, 1)]) := by kernel_rfl
theorem zeroC_39 : zeroC Try.prog 39 = some [.v (.slice none 0 0), .v (.int .i64 0), .v (.int .i64 0)] := by kernel_rfl
theorem elTy_40 : elTy Try.prog 40 = some (39, 3, 40) := by kernel_rfl
theorem cty_39 : cty Try.prog 39 = [some (5, 1), none, none] := by kernel_rfl
theorem elTy_42 : elTy Try.prog 42 = some (82, 3, 40) := by kernel_rfl
theorem zeroC_82 : zeroC Try.prog 82 = some [.v (.bool false), .v (.int .i64 0), .v (.slice none 0 0)] := by kernel_rfl
theorem cty_82 : cty Try.prog 82 = [none, none, some (5, 1)] := by kernel_rfl
theorem bldTy_44 : bldTy Try.prog 44 = some (.st [(0, 1), (1, 1)]) := by kernel_rfl
theorem zeroC_44 : zeroC Try.prog 44 = some [.v (.int .i64 0), .v (.slice none 0 0)] := by kernel_rfl
theorem par_11 : parTys Try.prog 11 = [40, 44] := by kernel_rfl
theorem cty_40 : cty Try.prog 40 = [some (39, 3)] := by kernel_rfl
theorem cty_44 : cty Try.prog 44 = [none, some (82, 3)] := by kernel_rfl
theorem cty_4 : cty Try.prog 4 = [none] := by kernel_rfl
theorem tySz_39 : tySz Try.prog 39 = some (3, true) := by kernel_rfl
theorem cty_42 : cty Try.prog 42 = [some (82, 3)] := by kernel_rfl
theorem ixTy_22 : ixTy Try.prog 22 = some (.sl (5, 1, 1)) := by kernel_rfl
theorem tySz_5 : tySz Try.prog 5 = some (1, false) := by kernel_rfl
theorem cvTy_5_3 : cvTy Try.prog 5 3 = some (.int .i64) := by kernel_rfl
theorem par_25 : parTys Try.prog 25 = [26] := by kernel_rfl
theorem fldTy_26_3 : fldTy Try.prog 26 3 = some (3, 1, false) := by kernel_rfl
theorem tySz_24 : tySz Try.prog 24 = some (1, false) := by kernel_rfl
theorem ixTy_24 : ixTy Try.prog 24 = some (.sl (22, 1, 24)) := by kernel_rfl
theorem tySz_22 : tySz Try.prog 22 = some (1, false) := by kernel_rfl
theorem par_26 : parTys Try.prog 26 = [3, 3] := by kernel_rfl
theorem fldTy_26_0 : fldTy Try.prog 26 0 = some (0, 1, false) := by kernel_rfl
theorem tySz_3 : tySz Try.prog 3 = some (1, false) := by kernel_rfl
theorem fldTy_26_1 : fldTy Try.prog 26 1 = some (1, 1, false) := by kernel_rfl
theorem fldTy_26_2 : fldTy Try.prog 26 2 = some (2, 1, false) := by kernel_rfl
theorem par_28 : parTys Try.prog 28 = [24] := by kernel_rfl
theorem par_27 : parTys Try.prog 27 = [24] := by kernel_rfl
theorem par_29 : parTys Try.prog 29 = [30] := by kernel_rfl
theorem par_30 : parTys Try.prog 30 = [30] := by kernel_rfl
theorem zeroC_3 : zeroC Try.prog 3 = some [.v (.int .i64 0)] := by kernel_rfl
theorem fldTy_30_3 : fldTy Try.prog 30 3 = some (3, 1, false) := by kernel_rfl
theorem tySz_28 : tySz Try.prog 28 = some (1, false) := by kernel_rfl
theorem elTy_28 : elTy Try.prog 28 = some (73, 7, 72) := by kernel_rfl
theorem fldTy_30_1 : fldTy Try.prog 30 1 = some (1, 1, false) := by kernel_rfl
theorem bldTy_67 : bldTy Try.prog 67 = some (.st [(0, 1)]) := by kernel_rfl
theorem zeroC_67 : zeroC Try.prog 67 = some [.v (.slice none 0 0)] := by kernel_rfl
theorem tySz_67 : tySz Try.prog 67 = some (1, true) := by kernel_rfl
theorem fldTy_67_0 : fldTy Try.prog 67 0 = some (0, 1, false) := by kernel_rfl
theorem fldTy_30_0 : fldTy Try.prog 30 0 = some (0, 1, false) := by kernel_rfl
theorem fldTy_30_2 : fldTy Try.prog 30 2 = some (2, 1, false) := by kernel_rfl
theorem ixTy_28 : ixTy Try.prog 28 = some (.sl (73, 7, 72)) := by kernel_rfl
theorem fldTy_73_1 : fldTy Try.prog 73 1 = some (6, 1, false) := by kernel_rfl
theorem fldTy_73_0 : fldTy Try.prog 73 0 = some (0, 6, true) := by kernel_rfl
theorem par_34 : parTys Try.prog 34 = [35, 35] := by kernel_rfl
theorem par_35 : parTys Try.prog 35 = [35] := by kernel_rfl
theorem fldTy_35_4 : fldTy Try.prog 35 4 = some (4, 1, false) := by kernel_rfl
theorem tySz_4 : tySz Try.prog 4 = some (1, false) := by kernel_rfl
theorem fldTy_35_0 : fldTy Try.prog 35 0 = some (0, 1, false) := by kernel_rfl
theorem fldTy_35_1 : fldTy Try.prog 35 1 = some (1, 1, false) := by kernel_rfl
theorem fldTy_35_2 : fldTy Try.prog 35 2 = some (2, 1, false) := by kernel_rfl
theorem fldTy_35_3 : fldTy Try.prog 35 3 = some (3, 1, false) := by kernel_rfl
theorem fldTy_35_5 : fldTy Try.prog 35 5 = some (5, 1, false) := by kernel_rfl
theorem mapTy_77 : mapTy Try.prog 77 = some (.string, 3) := by kernel_rfl
theorem cvTy_22_9 : cvTy Try.prog 22 9 = some .bytes := by kernel_rfl
theorem zeroV_3 : zeroV Try.prog 3 = some (.int .i64 0) := by kernel_rfl
theorem tySz_44 : tySz Try.prog 44 = some (2, true) := by kernel_rfl
theorem par_36 : parTys Try.prog 36 = [40] := by kernel_rfl
theorem fldTy_44_0 : fldTy Try.prog 44 0 = some (0, 1, false) := by kernel_rfl
theorem fldTy_44_1 : fldTy Try.prog 44 1 = some (1, 1, false) := by kernel_rfl
theorem tySz_42 : tySz Try.prog 42 = some (1, false) := by kernel_rfl
theorem ixTy_40 : ixTy Try.prog 40 = some (.sl (39, 3, 40)) := by kernel_rfl
theorem par_37 : parTys Try.prog 37 = [44, 3] := by kernel_rfl
theorem ixTy_42 : ixTy Try.prog 42 = some (.sl (82, 3, 40)) := by kernel_rfl
theorem tySz_82 : tySz Try.prog 82 = some (3, true) := by kernel_rfl
theorem par_38 : parTys Try.prog 38 = [39, 82] := by kernel_rfl
theorem fldTy_82_2 : fldTy Try.prog 82 2 = some (2, 1, false) := by kernel_rfl
theorem fldTy_82_0 : fldTy Try.prog 82 0 = some (0, 1, false) := by kernel_rfl
theorem fldTy_39_1 : fldTy Try.prog 39 1 = some (1, 1, false) := by kernel_rfl
theorem cvTy_3_61 : cvTy Try.prog 3 61 = some (.int .u64) := by kernel_rfl
theorem fldTy_82_1 : fldTy Try.prog 82 1 = some (1, 1, false) := by kernel_rfl
theorem fldTy_39_2 : fldTy Try.prog 39 2 = some (2, 1, false) := by kernel_rfl
theorem elTy_88 : elTy Try.prog 88 = some (3, 1, 8) := by kernel_rfl
theorem ixTy_88 : ixTy Try.prog 88 = some (.sl (3, 1, 8)) := by kernel_rfl
theorem par_47 : parTys Try.prog 47 = [22, 22] := by kernel_rfl
theorem fldTy_39_0 : fldTy Try.prog 39 0 = some (0, 1, false) := by kernel_rfl
theorem par_49 : parTys Try.prog 49 = [39] := by kernel_rfl
theorem par_59 : parTys Try.prog 59 = [24] := by kernel_rfl
theorem par_60 : parTys Try.prog 60 = [22] := by kernel_rfl
theorem cvTy_103_3 : cvTy Try.prog 103 3 = some (.int .i64) := by kernel_rfl
theorem tySz_73 : tySz Try.prog 73 = some (7, true) := by kernel_rfl
theorem zeroC_73 : zeroC Try.prog 73 = some [.v (.int .i64 0), .v (.int .i64 0), .v (.int .i64 0), .v (.int .i64 0), .v (.bool false), .v (.slice none 0 0), .v (.int .i64 0)] := by kernel_rfl
theorem par_61 : parTys Try.prog 61 = [35] := by kernel_rfl
theorem bldTy_73 : bldTy Try.prog 73 = some (.st [(0, 6), (6, 1)]) := by kernel_rfl
theorem par_32 : parTys Try.prog 32 = [106, 73] := by kernel_rfl
theorem cty_106 : cty Try.prog 106 = [none] := by kernel_rfl
theorem cty_73 : cty Try.prog 73 = [none, none, none, none, none, some (5, 1), none] := by kernel_rfl
theorem par_63 : parTys Try.prog 63 = [22, 22] := by kernel_rfl
theorem par_64 : parTys Try.prog 64 = [88, 3] := by kernel_rfl
theorem cty_88 : cty Try.prog 88 = [some (3, 1)] := by kernel_rfl
theorem par_65 : parTys Try.prog 65 = [22] := by kernel_rfl
theorem par_66 : parTys Try.prog 66 = [3] := by kernel_rfl
theorem par_67 : parTys Try.prog 67 = [24, 22] := by kernel_rfl
theorem par_74 : parTys Try.prog 74 = [22] := by kernel_rfl
theorem par_77 : parTys Try.prog 77 = [22, 3] := by kernel_rfl
theorem par_78 : parTys Try.prog 78 = [] := by kernel_rfl
theorem zeroC_127 : zeroC Try.prog 127 = some (List.replicate 256 (.v (.int .u32 0))) := by kernel_rfl
theorem tySz_127 : tySz Try.prog 127 = some (256, true) := by kernel_rfl
theorem cvTy_103_5 : cvTy Try.prog 103 5 = some (.int .u8) := by kernel_rfl
theorem ixTy_127 : ixTy Try.prog 127 = some (.ar 256 1) := by kernel_rfl
theorem tySz_103 : tySz Try.prog 103 = some (1, false) := by kernel_rfl
theorem cty_103 : cty Try.prog 103 = [none] := by kernel_rfl
theorem par_33 : parTys Try.prog 33 = [22] := by kernel_rfl
theorem par_79 : parTys Try.prog 79 = [88, 3] := by kernel_rfl
theorem par_80 : parTys Try.prog 80 = [88, 3] := by kernel_rfl
theorem par_81 : parTys Try.prog 81 = [88, 3] := by kernel_rfl
theorem par_82 : parTys Try.prog 82 = [88, 3] := by kernel_rfl
theorem par_84 : parTys Try.prog 84 = [3, 3] := by kernel_rfl
theorem intTy_3 : intTy Try.prog 3 = some () := by kernel_rfl
theorem bldTy_127 : bldTy Try.prog 127 = some (.ar 1) := by kernel_rfl
theorem cvTy_3_103 : cvTy Try.prog 3 103 = some (.int .u32) := by kernel_rfl
theorem cty_127 : cty Try.prog 127 = [none] := by kernel_rfl
theorem cvTy_3_129 : cvTy Try.prog 3 129 = some (.int .i8) := by kernel_rfl
theorem cvTy_129_3 : cvTy Try.prog 129 3 = some (.int .i64) := by kernel_rfl
theorem cvTy_3_130 : cvTy Try.prog 3 130 = some (.int .i16) := by kernel_rfl
theorem cvTy_130_3 : cvTy Try.prog 130 3 = some (.int .i64) := by kernel_rfl
theorem cvTy_3_21 : cvTy Try.prog 3 21 = some (.int .i32) := by kernel_rfl
theorem cvTy_21_3 : cvTy Try.prog 21 3 = some (.int .i64) := by kernel_rfl
theorem res_3 : Try.f3.results.toList = [.tmp 2] := rfl
theorem rty_3 : Try.f3.resultTypes.toList = [4] := rfl
theorem res_5 : Try.f5.results.toList = [.tmp 4] := rfl
theorem rty_5 : Try.f5.resultTypes.toList = [3] := rfl
theorem res_6 : Try.f6.results.toList = [.tmp 2] := rfl
theorem rty_6 : Try.f6.resultTypes.toList = [22] := rfl
theorem res_7 : Try.f7.results.toList = [.cell 4 30, .tmp 5] := rfl
theorem rty_7 : Try.f7.resultTypes.toList = [30, 3] := rfl
theorem res_8 : Try.f8.results.toList = [.tmp 4] := rfl
theorem rty_8 : Try.f8.resultTypes.toList = [4] := rfl
theorem res_9 : Try.f9.results.toList = [.tmp 2] := rfl
theorem rty_9 : Try.f9.resultTypes.toList = [22] := rfl
theorem res_10 : Try.f10.results.toList = [.tmp 2] := rfl
theorem rty_10 : Try.f10.resultTypes.toList = [4] := rfl
theorem res_11 : Try.f11.results.toList = [.tmp 4] := rfl
theorem rty_11 : Try.f11.resultTypes.toList = [4] := rfl
theorem res_25 : Try.f25.results.toList = [.tmp 2] := rfl
theorem rty_25 : Try.f25.resultTypes.toList = [4] := rfl
theorem res_26 : Try.f26.results.toList = [.tmp 4] := rfl
theorem rty_26 : Try.f26.resultTypes.toList = [22] := rfl
theorem res_27 : Try.f27.results.toList = [.tmp 2] := rfl
theorem rty_27 : Try.f27.resultTypes.toList = [22] := rfl
theorem res_28 : Try.f28.results.toList = [.tmp 2] := rfl
theorem rty_28 : Try.f28.resultTypes.toList = [22] := rfl
theorem res_29 : Try.f29.results.toList = [.tmp 2] := rfl
theorem rty_29 : Try.f29.resultTypes.toList = [4] := rfl
theorem res_30 : Try.f30.results.toList = [.cell 2 30] := rfl
theorem rty_30 : Try.f30.resultTypes.toList = [30] := rfl
theorem res_32 : Try.f32.results.toList = [] := rfl
theorem rty_32 : Try.f32.resultTypes.toList = [] := rfl
theorem res_33 : Try.f33.results.toList = [.tmp 2] := rfl
theorem rty_33 : Try.f33.resultTypes.toList = [22] := rfl
theorem res_34 : Try.f34.results.toList = [.tmp 4] := rfl
theorem rty_34 : Try.f34.resultTypes.toList = [4] := rfl
theorem res_35 : Try.f35.results.toList = [.tmp 2] := rfl
theorem rty_35 : Try.f35.resultTypes.toList = [4] := rfl
theorem res_36 : Try.f36.results.toList = [.tmp 2] := rfl
theorem rty_36 : Try.f36.resultTypes.toList = [4] := rfl
theorem res_37 : Try.f37.results.toList = [.tmp 4] := rfl
theorem rty_37 : Try.f37.resultTypes.toList = [42] := rfl
theorem res_38 : Try.f38.results.toList = [.tmp 4] := rfl
theorem rty_38 : Try.f38.resultTypes.toList = [4] := rfl
theorem res_40 : Try.f40.results.toList = [.tmp 2] := rfl
theorem rty_40 : Try.f40.resultTypes.toList = [4] := rfl
theorem res_41 : Try.f41.results.toList = [.tmp 2] := rfl
theorem rty_41 : Try.f41.resultTypes.toList = [4] := rfl
theorem res_47 : Try.f47.results.toList = [.tmp 4] := rfl
theorem rty_47 : Try.f47.resultTypes.toList = [4] := rfl
theorem res_49 : Try.f49.results.toList = [.tmp 2] := rfl
theorem rty_49 : Try.f49.resultTypes.toList = [4] := rfl
theorem res_59 : Try.f59.results.toList = [.tmp 2] := rfl
theorem rty_59 : Try.f59.resultTypes.toList = [22] := rfl
theorem res_60 : Try.f60.results.toList = [.tmp 2] := rfl
theorem rty_60 : Try.f60.resultTypes.toList = [103] := rfl
theorem res_61 : Try.f61.results.toList = [.cell 2 35] := rfl
theorem rty_61 : Try.f61.resultTypes.toList = [35] := rfl
theorem res_63 : Try.f63.results.toList = [.tmp 4] := rfl
theorem rty_63 : Try.f63.resultTypes.toList = [4] := rfl
theorem res_64 : Try.f64.results.toList = [.tmp 4, .tmp 5] := rfl
theorem rty_64 : Try.f64.resultTypes.toList = [22, 3] := rfl
theorem res_65 : Try.f65.results.toList = [.tmp 2] := rfl
theorem rty_65 : Try.f65.resultTypes.toList = [4] := rfl
theorem res_66 : Try.f66.results.toList = [.tmp 2] := rfl
theorem rty_66 : Try.f66.resultTypes.toList = [4] := rfl
theorem res_67 : Try.f67.results.toList = [.tmp 4] := rfl
theorem rty_67 : Try.f67.resultTypes.toList = [3] := rfl
theorem res_74 : Try.f74.results.toList = [.tmp 2] := rfl
theorem rty_74 : Try.f74.resultTypes.toList = [4] := rfl
theorem res_77 : Try.f77.results.toList = [.tmp 4] := rfl
theorem rty_77 : Try.f77.resultTypes.toList = [22] := rfl
theorem res_78 : Try.f78.results.toList = [.cell 0 127] := rfl
theorem rty_78 : Try.f78.resultTypes.toList = [127] := rfl
theorem res_79 : Try.f79.results.toList = [.tmp 4, .tmp 5] := rfl
theorem rty_79 : Try.f79.resultTypes.toList = [22, 3] := rfl
theorem res_80 : Try.f80.results.toList = [.tmp 4, .tmp 5] := rfl
theorem rty_80 : Try.f80.resultTypes.toList = [22, 3] := rfl
theorem res_81 : Try.f81.results.toList = [.tmp 4, .tmp 5] := rfl
theorem rty_81 : Try.f81.resultTypes.toList = [22, 3] := rfl
theorem res_82 : Try.f82.results.toList = [.tmp 4, .tmp 5] := rfl
theorem rty_82 : Try.f82.resultTypes.toList = [22, 3] := rfl
theorem res_83 : Try.f83.results.toList = [.tmp 4] := rfl
theorem rty_83 : Try.f83.resultTypes.toList = [4] := rfl
theorem res_84 : Try.f84.results.toList = [.tmp 4] := rfl
theorem rty_84 : Try.f84.resultTypes.toList = [4] := rfl
attribute [go_sem] elTy_22 par_5 cty_22 cty_3 zeroC_5 cty_5 elTy_24 zeroC_22 bldTy_26 zeroC_26 tySz_26 par_6 cty_26 boolTy_4 bldTy_30 zeroC_30 tySz_30 par_7 cty_30 par_8 bldTy_35 zeroC_35 tySz_35 par_9 cty_35 cvTy_3_5 par_10 cty_24 cvTy_22_22 bldTy_39 zeroC_39 elTy_40 cty_39 elTy_42 zeroC_82 cty_82 bldTy_44 zeroC_44 par_11 cty_40 cty_44 cty_4 tySz_39 cty_42 ixTy_22 tySz_5 cvTy_5_3 par_25 fldTy_26_3 tySz_24 ixTy_24 tySz_22 par_26 fldTy_26_0 tySz_3 fldTy_26_1 fldTy_26_2 par_28 par_27 par_29 par_30 zeroC_3 fldTy_30_3 tySz_28 elTy_28 fldTy_30_1 bldTy_67 zeroC_67 tySz_67 fldTy_67_0 fldTy_30_0 fldTy_30_2 ixTy_28 fldTy_73_1 fldTy_73_0 par_34 par_35 fldTy_35_4 tySz_4 fldTy_35_0 fldTy_35_1 fldTy_35_2 fldTy_35_3 fldTy_35_5 mapTy_77 cvTy_22_9 zeroV_3 tySz_44 par_36 fldTy_44_0 fldTy_44_1 tySz_42 ixTy_40 par_37 ixTy_42 tySz_82 par_38 fldTy_82_2 fldTy_82_0 fldTy_39_1 cvTy_3_61 fldTy_82_1 fldTy_39_2 elTy_88 ixTy_88 par_47 fldTy_39_0 par_49 par_59 par_60 cvTy_103_3 tySz_73 zeroC_73 par_61 bldTy_73 par_32 cty_106 cty_73 par_63 par_64 cty_88 par_65 par_66 par_67 par_74 par_77 par_78 zeroC_127 tySz_127 cvTy_103_5 ixTy_127 tySz_103 cty_103 par_33 par_79 par_80 par_81 par_82 par_84 intTy_3 bldTy_127 cvTy_3_103 cty_127 cvTy_3_129 cvTy_129_3 cvTy_3_130 cvTy_130_3 cvTy_3_21 cvTy_21_3
end Go.Ev
set_option linter.unusedSimpArgs false
set_option linter.unusedVariables false
namespace Go.Ev
open Go Go.RowKit Go.Proofs
def wBB (xs : List (List UInt8)) : Nat := szL List.length xs
theorem mem_wBB {xs : List (List UInt8)} {b : List UInt8} (h : b ∈ xs) : b.length ≤ wBB xs := by
  obtain ⟨i, hi, rfl⟩ := List.mem_iff_getElem.1 h
  have := szL_at_le List.length hi
  unfold wBB; omega
end Go.Ev
set_option linter.unusedSimpArgs false
set_option linter.unusedVariables false
namespace Go.Ev
open Go Go.RowKit Go.Proofs
theorem bleR (n : Nat) : Nat.ble n n = true := by simp
structure Pk where
  a : Int
  b : Int
  c : Int
  d : Int
  e : Bool
  f : List UInt8
def pkC (p : Pk) : List AV := [.v (.int .i64 p.a), .v (.int .i64 p.b), .v (.int .i64 p.c), .v (.int .i64 p.d), .v (.bool p.e), .row 5 1 (bytesA p.f)]
def okPk (p : Pk) : Prop := 1 ≤ p.a ∧ p.a ≤ 4 ∧ 1 ≤ p.b ∧ p.b ≤ 1000000000 ∧ 0 ≤ p.c ∧ p.c ≤ 1000000000000 ∧ 0 ≤ p.d ∧ p.d ≤ 1000000000 ∧
  (¬ p.a = 1 ∨ p.d = 0 ∧ p.c < 1000000000000 ∧ 1 ≤ p.f.length ∧ p.f.length ≤ 100) ∧ (p.a = 1 ∨ p.e.toNat = 0 ∧ p.f.length = 0) ∧ (¬ p.a = 3 ∨ p.c = 0) ∧ (¬ p.a = 4 ∨ p.c = 0 ∧ p.d = 0)
instance (p : Pk) : Decidable (okPk p) := by unfold okPk; infer_instance
def okB (p : Pk) : Bool := decide (okPk p)
theorem leaf_f {p : Pk} (h : ¬ okPk p) : false = okB p := by rw [okB, decide_eq_false h]
theorem leaf_t {p : Pk} (h : okPk p) : true = okB p := by rw [okB, decide_eq_true h]
theorem leaf_d {p : Pk} {q : Prop} [Decidable q] (h : q ↔ okPk p) : decide q = okB p := by rw [okB, decide_eq_decide.2 h]
set_option maxHeartbeats 2000000 in
theorem c_packetOk (p : Pk) (hb : p.f.length ≤ 1048576) : Meets Try.prog 35 [.agg (pkC p)] (fun r => r = .v (.bool (okB p))) := by
  refine Meets.intro mixed (hint []) Try.func35 rfl (by decide) res_35 rty_35 (by kernel_rfl) ?_; 
  simp -dsimp -implicitDefEqProofs only [go_sem, Nat.reduceBEq, Nat.reduceAdd, Nat.reduceLeDiff, Nat.reduceSub, Int.reduceEq, pkC]
  cases he : p.e <;> (repeat' (first | with_reducible refine ifB'.of (fun h => ?_) (fun h => ?_) | with_reducible refine ask.of (by omega) ?_ | (with_reducible refine leaf_f ?_; unfold okPk; simp only [he, Bool.toNat_false, Bool.toNat_true, true_and, false_and, or_false, or_true, and_true]; omega) | (with_reducible refine leaf_t ?_; unfold okPk; simp only [he, Bool.toNat_false, Bool.toNat_true, true_and, false_and, or_false, or_true, and_true]; omega) | (with_reducible refine leaf_d ?_; unfold okPk; simp only [he, Bool.toNat_false, Bool.toNat_true, true_and, false_and, or_false, or_true, and_true]; omega) | simp -dsimp -implicitDefEqProofs only [go_sem, Nat.reduceBEq, Nat.reduceAdd, Nat.reduceLeDiff, Nat.reduceSub, Int.reduceEq, he, decide_true]))
end Go.Ev
set_option linter.unusedSimpArgs false
set_option linter.unusedVariables false
namespace Go.Ev
open Go Go.RowKit Go.Proofs
structure Sn where
  p : Pk
  q : Int
def snC (s : Sn) : List AV := [.v (.int .i64 s.p.a), .v (.int .i64 s.p.b), .v (.int .i64 s.p.c), .v (.int .i64 s.p.d), .v (.bool s.p.e), .row 5 1 (bytesA s.p.f), .v (.int .i64 s.q)]
def rowPk (T : Nat) (ps : List Pk) : AV := .row T 6 (ra pkC ps)
def rowSn (T : Nat) (ps : List Sn) : AV := .row T 7 (ra snC ps)
theorem pure_rowPk (T : Nat) (ps : List Pk) : (rowPk T ps).pure := pureEls_ra (enc := pkC) (fun x => ⟨trivial, trivial, trivial, trivial, trivial, pureEls_bytes _, trivial⟩) ps
theorem pure_rowSn (T : Nat) (ps : List Sn) : (rowSn T ps).pure := pureEls_ra (enc := snC) (fun x => ⟨trivial, trivial, trivial, trivial, trivial, pureEls_bytes _, trivial, trivial⟩) ps
theorem Sn_at {xs : List Sn} {i : Nat} (h : i < xs.length) : (ra snC xs)[i]? = some (snC xs[i]) := ra_at h
end Go.Ev
set_option linter.unusedSimpArgs false
set_option linter.unusedVariables false
namespace Go.Ev
open Go Go.RowKit Go.Proofs
structure LO where
  a : Int
  b : Int
  c : Int
  h : List Sn
def loC (T : Nat) (x : LO) : List AV := [.v (.int .i64 x.a), .v (.int .i64 x.b), .v (.int .i64 x.c), .row T 7 (ra snC x.h)]
def loAt (x : LO) (i : Nat) (h : i < x.h.length) : Prop := okPk x.h[i].p ∧ x.h[i].p.a = 1 ∧ x.h[i].p.b = x.a ∧ x.h[i].p.c = x.b - x.h.length + i ∧ -1 ≤ x.h[i].q ∧ x.h[i].q ≤ x.c
def okLO (x : LO) : Prop := (1 ≤ x.a ∧ x.a ≤ 1000000000 ∧ 0 ≤ x.b ∧ x.b ≤ 1000000000000 ∧ 0 ≤ x.c ∧ x.c ≤ 1000000000 ∧ x.h.length ≤ 300) ∧ ∀ i (h : i < x.h.length), loAt x i h
noncomputable def loB (x : LO) : Bool := @decide (okLO x) (Classical.propDecidable _)
theorem lo_f {x : LO} (h : ¬ okLO x) : false = loB x := (@decide_eq_false _ (Classical.propDecidable _) h).symm
theorem lo_t {x : LO} (h : okLO x) : true = loB x := (@decide_eq_true _ (Classical.propDecidable _) h).symm
set_option maxRecDepth 4000 in
theorem c_implValidOut (x : LO) (hx : x.h.length ≤ 1048576) (hb : ∀ b ∈ x.h, b.p.f.length ≤ 1048576) : Meets Try.prog 29 [.agg (loC 73 x)] (fun r => r = .v (.bool (loB x))) := by
  refine Meets.intro mixed (hint []) Try.func29 rfl (by decide) res_29 rty_29 (by kernel_rfl) ?_; 
  simp -dsimp -implicitDefEqProofs only [go_sem, Nat.reduceBEq, Nat.reduceAdd, Nat.reduceLeDiff, Nat.reduceSub, Int.reduceEq, loC, decide_true]
  repeat' (first | with_reducible refine ifB'.of (fun h => ?_) (fun h => ?_) | with_reducible refine ask.of (by omega) ?_ | ((with_reducible refine lo_f ?_); exact fun (hh : okLO x) => by { have := hh.1; omega }) | simp -dsimp -implicitDefEqProofs only [go_sem, Nat.reduceBEq, Nat.reduceAdd, Nat.reduceLeDiff, Nat.reduceSub, Int.reduceEq, decide_true, bleR])
  refine LoopE.cnt x.h.length (fun i s => s.env 1 = .ptr [1] 0 0 0 ∧ s.env 3 = .v (.int .i64 x.h.length) ∧ s.env 43 = .rd .ent 73 7 (ra snC x.h) ∧ s.env 44 = .v (.int .i64 x.h.length) ∧ s.env 45 = .v (.int .i64 i) ∧ s.σ [1] = some (.box 30 [.v (.int .i64 x.a), .v (.int .i64 x.b), .v (.int .i64 x.c), .rd .ent 73 7 (ra snC x.h)]) ∧ ∀ j (hj : j < x.h.length), j < i → loAt x j hj) ⟨by simp -dsimp -implicitDefEqProofs only [go_sem, Nat.reduceBEq, Nat.reduceAdd, Nat.reduceLeDiff, Nat.reduceSub, Int.reduceEq], by simp -dsimp -implicitDefEqProofs only [go_sem, Nat.reduceBEq, Nat.reduceAdd, Nat.reduceLeDiff, Nat.reduceSub, Int.reduceEq], by simp -dsimp -implicitDefEqProofs only [go_sem, Nat.reduceBEq, Nat.reduceAdd, Nat.reduceLeDiff, Nat.reduceSub, Int.reduceEq], by simp -dsimp -implicitDefEqProofs only [go_sem, Nat.reduceBEq, Nat.reduceAdd, Nat.reduceLeDiff, Nat.reduceSub, Int.reduceEq], by simp -dsimp -implicitDefEqProofs only [go_sem, Nat.reduceBEq, Nat.reduceAdd, Nat.reduceLeDiff, Nat.reduceSub, Int.reduceEq] <;> simp, by simp -dsimp -implicitDefEqProofs only [go_sem, Nat.reduceBEq, Nat.reduceAdd, Nat.reduceLeDiff, Nat.reduceSub, Int.reduceEq], fun j hj h => absurd h (by omega)⟩ ?_
  rintro i ⟨e, σ⟩ hi ⟨h1, h3, h43, h44, h45, hs, hz⟩ K hK
  simp only at h1 h3 h43 h44 h45 hs
  simp -dsimp -implicitDefEqProofs only [go_sem, Nat.reduceBEq, Nat.reduceAdd, Nat.reduceLeDiff, Nat.reduceSub, Int.reduceEq, h1, h3, h43, h44, h45, hs]
  refine ifB'.of (fun hlt => ?_) (fun hlt => ?_)
  · have hlt : i < x.h.length := by omega
    repeat (first | with_reducible refine ask.of (by omega) ?_ | simp -dsimp -implicitDefEqProofs only [go_sem, Nat.reduceBEq, Nat.reduceAdd, Nat.reduceLeDiff, Nat.reduceSub, Int.reduceEq, h1, h3, h43, h44, h45, hs, bleR, Sn_at hlt, snC, show Nat.ble 6 7 = true from rfl])
    refine CallE.of (c_packetOk x.h[i].p (hb _ (List.getElem_mem _))) (by rintro r rfl; (repeat' first | exact trivial | exact pure_rowB _ | exact pure_rowO _ | exact pure_rowI _ | exact pure_rowBB _ | exact pure_rowPk _ _ | exact pure_rowSn _ _ | exact pure_rowFd _ _ | exact pure_rowBBB _ | exact pure_rowCl _ _ | exact pure_rowTb _ _ _ | refine And.intro ?_ ?_)) (by simp -dsimp -implicitDefEqProofs only [go_sem, Nat.reduceBEq, Nat.reduceAdd, Nat.reduceLeDiff, Nat.reduceSub, Int.reduceEq, h1, h3, h43, h44, h45, hs, pkC]) ?_
    rintro r rfl
    simp -dsimp -implicitDefEqProofs only [go_sem, Nat.reduceBEq, Nat.reduceAdd, Nat.reduceLeDiff, Nat.reduceSub, Int.reduceEq, h1, h3, h43, h44, h45, hs, pkC]
    have e9 : IntKind.i64.wrap (x.b - (x.h.length : Int)) = x.b - (x.h.length : Int) := wrap_i64_of (by omega) (by omega)
    have e8 : IntKind.i64.wrap (x.b - (x.h.length : Int) + (i : Int)) = x.b - (x.h.length : Int) + (i : Int) := wrap_i64_of (by omega) (by omega)
    cases h5 : okB x.h[i].p
    · repeat (first | with_reducible refine ask.of (by omega) ?_ | simp -dsimp -implicitDefEqProofs only [go_sem, Nat.reduceBEq, Nat.reduceAdd, Nat.reduceLeDiff, Nat.reduceSub, Int.reduceEq, h1, h3, h43, h44, h45, hs, h5, Bool.not_false])
      exact lo_f fun (hh : okLO x) => by
        rw [okB, decide_eq_true (hh.2 i hlt).1] at h5
        cases h5
    · have h6 : okPk x.h[i].p := by simpa [okB] using h5
      repeat' (first | with_reducible refine ifB'.of (fun h => ?_) (fun h => ?_) | with_reducible refine ask.of (by omega) ?_ | ((with_reducible refine lo_f ?_); exact fun (hh : okLO x) => by { have h7 := (hh.2 i hlt).2; omega }) | simp -dsimp -implicitDefEqProofs only [go_sem, Nat.reduceBEq, Nat.reduceAdd, Nat.reduceLeDiff, Nat.reduceSub, Int.reduceEq, h1, h3, h43, h44, h45, hs, h5, Bool.not_true, e9, e8])
      refine hK _ hlt ?_
      simp -dsimp -implicitDefEqProofs only [go_sem, Nat.reduceBEq, Nat.reduceAdd, Nat.reduceLeDiff, Nat.reduceSub, Int.reduceEq, h1, h3, h43, h44, h45, hs, wrap_succ (show i < 4611686018427387904 by omega)]
      exact fun j hj hjt => by
        by_cases hji : j = i
        · subst hji; exact ⟨h6, by omega, by omega, by omega, by omega, by omega⟩
        · exact hz j hj (by omega)
  · have hi : i = x.h.length := by omega
    simp -dsimp -implicitDefEqProofs only [go_sem, Nat.reduceBEq, Nat.reduceAdd, Nat.reduceLeDiff, Nat.reduceSub, Int.reduceEq, h1, h3, h43, h44, h45, hs]
    exact lo_t ⟨by omega, fun j hj => hz j hj (by omega)⟩
end Go.Ev
set_option linter.unusedSimpArgs false
set_option linter.unusedVariables false
namespace Go.Ev
open Go Go.RowKit Go.Proofs
def w32 (c : UInt32) : AV := .v (.int .u32 c.toNat)
theorem wrap_u32_lt {n : Nat} (h : n < 4294967296) : IntKind.u32.wrap (n : Int) = (n : Int) := by rw [wrap_u32, Nat.mod_eq_of_lt h]
theorem bv32 (a : UInt32) : BitVec.ofInt 32 (a.toNat : Int) = a.toBitVec := by
  apply BitVec.eq_of_toNat_eq
  simp
theorem u32_xor (a b : UInt32) : IntKind.u32.wrap ((BitVec.ofInt IntKind.u32.bits (a.toNat : Int) ^^^ BitVec.ofInt IntKind.u32.bits (b.toNat : Int)).toNat : Int) = ((a ^^^ b).toNat : Int) := by
  show IntKind.u32.wrap ((BitVec.ofInt 32 (a.toNat : Int) ^^^ BitVec.ofInt 32 (b.toNat : Int)).toNat : Int) = _
  rw [bv32, bv32, wrap_u32_lt (BitVec.isLt _)]
  rfl
theorem u32_xor_poly (a : UInt32) : IntKind.u32.wrap ((BitVec.ofInt IntKind.u32.bits (a.toNat : Int) ^^^ BitVec.ofInt IntKind.u32.bits 3988292384).toNat : Int) = ((a ^^^ 3988292384).toNat : Int) := u32_xor a 3988292384
theorem u32_and_one (a : UInt32) : IntKind.u32.wrap ((BitVec.ofInt IntKind.u32.bits (a.toNat : Int) &&& BitVec.ofInt IntKind.u32.bits 1).toNat : Int) = ((a &&& 1).toNat : Int) := by
  show IntKind.u32.wrap ((BitVec.ofInt 32 (a.toNat : Int) &&& BitVec.ofInt 32 (((1 : UInt32).toNat : Nat) : Int)).toNat : Int) = _
  rw [bv32, bv32, wrap_u32_lt (BitVec.isLt _)]
  rfl
theorem u32_shr8 (a : UInt32) : (a.toNat : Int).fdiv (2 ^ (min (Int.toNat 8) 32)) = ((a >>> 8).toNat : Int) := by
  show (a.toNat : Int).fdiv 256 = _
  rw [Int.fdiv_eq_ediv_of_nonneg _ (by decide), UInt32.toNat_shiftRight, Nat.shiftRight_eq_div_pow]
  rfl
theorem u32_shr1 (a : UInt32) : (a.toNat : Int).fdiv (2 ^ (min (Int.toNat 1) 32)) = ((a / 2).toNat : Int) := by
  show (a.toNat : Int).fdiv 2 = _
  rw [Int.fdiv_eq_ediv_of_nonneg _ (by decide)]
  simp
theorem u8_of_u32 (c : UInt32) : IntKind.u8.wrap (c.toNat : Int) = (c.toUInt8.toNat : Int) := by
  rw [wrap_u8]; simp
theorem u8_xor (a b : UInt8) : IntKind.u8.wrap ((BitVec.ofInt IntKind.u8.bits (a.toNat : Int) ^^^ BitVec.ofInt IntKind.u8.bits (b.toNat : Int)).toNat : Int) = ((a ^^^ b).toNat : Int) := by
  have bv8 : ∀ a : UInt8, BitVec.ofInt 8 (a.toNat : Int) = a.toBitVec := fun a => by apply BitVec.eq_of_toNat_eq; simp
  show IntKind.u8.wrap ((BitVec.ofInt 8 (a.toNat : Int) ^^^ BitVec.ofInt 8 (b.toNat : Int)).toNat : Int) = _
  rw [bv8, bv8, wrap_u8, Nat.mod_eq_of_lt (BitVec.isLt _)]
  rfl
def crcStep (c : UInt32) : UInt32 := if c % 2 = 1 then (c / 2) ^^^ 3988292384 else c / 2
def crcN : Nat → UInt32 → UInt32
  | 0, c => c
  | n + 1, c => crcStep (crcN n c)
def crcU (c : UInt32) : List UInt8 → UInt32
  | [] => c
  | b :: bs => crcU (crcN 8 (c ^^^ b.toUInt32)) bs
theorem crcU_snoc (c : UInt32) (l : List UInt8) (b : UInt8) : crcU c (l ++ [b]) = crcN 8 (crcU c l ^^^ b.toUInt32) := by
  induction l generalizing c with
  | nil => rfl
  | cons x l ih => exact ih _
def crcB (bs : List UInt8) : UInt32 := crcU 4294967295 bs ^^^ 4294967295
def w32s (l : List UInt32) : List AV := l.map w32
theorem w32s_length (l : List UInt32) : (w32s l).length = l.length := by simp [w32s]
theorem w32s_kill (I J : List Id) : ∀ l : List UInt32, killL I J (w32s l) = w32s l
  | [] => rfl
  | c :: l => congrArg (w32 c :: ·) (w32s_kill I J l)
theorem w32s_ok : ∀ l : List UInt32, (w32s l).all okBox = true
  | [] => rfl
  | c :: l => w32s_ok l
theorem w32s_zeros (n : Nat) : List.replicate n (AV.v (.int .u32 0)) = w32s (List.replicate n 0) := by simp [w32s, w32]
theorem w32s_set (l : List UInt32) (i : Nat) (c : UInt32) : (w32s l).set i (.v (.int .u32 c.toNat)) = w32s (l.set i c) := by simp [w32s, w32, List.map_set]
theorem w32s_at {l : List UInt32} {i : Nat} (h : i < l.length) : (w32s l)[i]? = some (.v (.int .u32 l[i].toNat)) := by simp [w32s, w32, h]
theorem setAt_full : ∀ (k : Nat) (pre vs cs : List AV), pre.length = k → vs.length = cs.length → setAt vs k (pre ++ cs) = pre ++ vs
  | k, pre, [], cs, _, h => by simp [setAt, List.eq_nil_of_length_eq_zero h.symm]
  | k, pre, v :: vs, [], _, h => by simp at h
  | k, pre, v :: vs, c :: cs, hp, h => by
    subst hp
    rw [setAt]
    have e : (pre ++ c :: cs).set pre.length v = (pre ++ [v]) ++ cs := by simp
    rw [e, setAt_full (pre.length + 1) (pre ++ [v]) vs cs (by simp) (by simpa using h)]
    simp
theorem w32s_clL (s : St) : ∀ l : List UInt32, s.clL (w32s l) = some (w32s l, [])
  | [] => rfl
  | c :: l => by
    show bindO (some (w32 c, [])) (fun x => bindO (s.clL (w32s l)) fun y => some (x.1 :: y.1, x.2 ++ y.2)) = _
    rw [w32s_clL s l]
    rfl
theorem nilL_one (l : List AV) : nilL [none] l = l := by cases l <;> simp [nilL, nilC]
theorem w32s_setAt (l l' : List UInt32) (h : l.length = l'.length) : setAt (w32s l) 0 (w32s l') = w32s l := by
  simpa using setAt_full 0 [] (w32s l) (w32s l') rfl (by simp [w32s_length, h])
def crcTab (n : Nat) : List UInt32 := (List.range n).map fun j => crcN 8 (UInt32.ofNat j)
theorem crcTab_length (n : Nat) : (crcTab n).length = n := by simp [crcTab]
attribute [go_sem] nilL_one w32s_clL w32s_length w32s_kill w32s_ok w32s_zeros w32s_set w32s_setAt crcTab_length
theorem u32_of_nat {i : Nat} (h : i < 4294967296) : IntKind.u32.wrap (i : Int) = ((UInt32.ofNat i).toNat : Int) := by
  rw [wrap_u32_lt h, UInt32.toNat_ofNat_of_lt' h]
theorem u32_bit (a : UInt32) : (a &&& 1).toNat = (a % 2).toNat := by
  rw [UInt32.toNat_and]
  simp [Nat.and_one_is_mod]
set_option maxRecDepth 4000 in
theorem c_crcTable : Meets Try.prog 78 [] (fun r => r = .agg (w32s (crcTab 256))) := by
  refine Meets.intro mixed (hint []) Try.func78 rfl (by decide) res_78 rty_78 (by kernel_rfl) ?_; 
  simp -dsimp -implicitDefEqProofs only [go_sem, Nat.reduceBEq, Nat.reduceAdd, Nat.reduceLeDiff, Nat.reduceSub, Int.reduceEq]
  refine LoopE.cnt 256 (fun i s => s.env 0 = .ptr [0] 0 0 0 ∧ s.env 1 = .ptr [1] 0 0 0 ∧ s.env 6 = .v (.int .i64 i) ∧
    s.σ [0] = some (.box 127 (w32s (List.replicate 256 0))) ∧ s.σ [1] = some (.box 127 (w32s (crcTab i ++ List.replicate (256 - i) 0)))) ⟨by simp -dsimp -implicitDefEqProofs only [go_sem, Nat.reduceBEq, Nat.reduceAdd, Nat.reduceLeDiff, Nat.reduceSub, Int.reduceEq], by simp -dsimp -implicitDefEqProofs only [go_sem, Nat.reduceBEq, Nat.reduceAdd, Nat.reduceLeDiff, Nat.reduceSub, Int.reduceEq], by simp -dsimp -implicitDefEqProofs only [go_sem, Nat.reduceBEq, Nat.reduceAdd, Nat.reduceLeDiff, Nat.reduceSub, Int.reduceEq], by simp -dsimp -implicitDefEqProofs only [go_sem, Nat.reduceBEq, Nat.reduceAdd, Nat.reduceLeDiff, Nat.reduceSub, Int.reduceEq], by simp -dsimp -implicitDefEqProofs only [go_sem, Nat.reduceBEq, Nat.reduceAdd, Nat.reduceLeDiff, Nat.reduceSub, Int.reduceEq] <;> rfl⟩ ?_
  rintro i ⟨e, σ⟩ hi ⟨h0, h1, h6, g0, g1⟩ K hK
  simp only at h0 h1 h6 g0 g1
  simp -dsimp -implicitDefEqProofs only [go_sem, Nat.reduceBEq, Nat.reduceAdd, Nat.reduceLeDiff, Nat.reduceSub, Int.reduceEq, h0, h1, h6, g0, g1]
  refine ifB'.of (fun hlt => ?_) (fun hlt => ?_)
  · have hlt : i < 256 := by omega
    simp -dsimp -implicitDefEqProofs only [go_sem, Nat.reduceBEq, Nat.reduceAdd, Nat.reduceLeDiff, Nat.reduceSub, Int.reduceEq, h0, h1, h6, g0, g1, u32_of_nat (show i < 4294967296 by omega)]
    refine LoopE.cnt 8 (fun j s => s.env 0 = .ptr [0] 0 0 0 ∧ s.env 1 = .ptr [1] 0 0 0 ∧ s.env 6 = .v (.int .i64 i) ∧ s.env 2 = .v (.int .i64 i) ∧ s.env 11 = .v (.int .i64 j) ∧ s.env 3 = .v (.int .u32 (crcN j (UInt32.ofNat i)).toNat) ∧
      s.σ [0] = some (.box 127 (w32s (List.replicate 256 0))) ∧ s.σ [1] = some (.box 127 (w32s (crcTab i ++ List.replicate (256 - i) 0)))) ⟨by simp -dsimp -implicitDefEqProofs only [go_sem, Nat.reduceBEq, Nat.reduceAdd, Nat.reduceLeDiff, Nat.reduceSub, Int.reduceEq, h0, h1, h6, g0, g1], by simp -dsimp -implicitDefEqProofs only [go_sem, Nat.reduceBEq, Nat.reduceAdd, Nat.reduceLeDiff, Nat.reduceSub, Int.reduceEq, h0, h1, h6, g0, g1], by simp -dsimp -implicitDefEqProofs only [go_sem, Nat.reduceBEq, Nat.reduceAdd, Nat.reduceLeDiff, Nat.reduceSub, Int.reduceEq, h0, h1, h6, g0, g1], by simp -dsimp -implicitDefEqProofs only [go_sem, Nat.reduceBEq, Nat.reduceAdd, Nat.reduceLeDiff, Nat.reduceSub, Int.reduceEq, h0, h1, h6, g0, g1], by simp -dsimp -implicitDefEqProofs only [go_sem, Nat.reduceBEq, Nat.reduceAdd, Nat.reduceLeDiff, Nat.reduceSub, Int.reduceEq, h0, h1, h6, g0, g1], by simp -dsimp -implicitDefEqProofs only [go_sem, Nat.reduceBEq, Nat.reduceAdd, Nat.reduceLeDiff, Nat.reduceSub, Int.reduceEq, h0, h1, h6, g0, g1, crcN], by simp -dsimp -implicitDefEqProofs only [go_sem, Nat.reduceBEq, Nat.reduceAdd, Nat.reduceLeDiff, Nat.reduceSub, Int.reduceEq, h0, h1, h6, g0, g1], by simp -dsimp -implicitDefEqProofs only [go_sem, Nat.reduceBEq, Nat.reduceAdd, Nat.reduceLeDiff, Nat.reduceSub, Int.reduceEq, h0, h1, h6, g0, g1]⟩ ?_
    rintro j ⟨e, σ⟩ hj ⟨h0, h1, h6, h2, h11, h3, g0, g1⟩ K' hK'
    simp only at h0 h1 h6 h2 h11 h3 g0 g1
    generalize hc : crcN j (UInt32.ofNat i) = c at h3
    simp -dsimp -implicitDefEqProofs only [go_sem, Nat.reduceBEq, Nat.reduceAdd, Nat.reduceLeDiff, Nat.reduceSub, Int.reduceEq, h0, h1, h6, h2, h11, h3, g0, g1]
    refine ifB'.of (fun hlt2 => ?_) (fun hlt2 => ?_)
    · simp -dsimp -implicitDefEqProofs only [go_sem, Nat.reduceBEq, Nat.reduceAdd, Nat.reduceLeDiff, Nat.reduceSub, Int.reduceEq, h0, h1, h6, h2, h11, h3, g0, g1, u32_and_one, u32_shr1, u32_bit]
      refine ask.of (by decide) ?_
      refine ifB'.of (fun hod => ?_) (fun hod => ?_)
      · simp -dsimp -implicitDefEqProofs only [go_sem, Nat.reduceBEq, Nat.reduceAdd, Nat.reduceLeDiff, Nat.reduceSub, Int.reduceEq, h0, h1, h6, h2, h11, h3, g0, g1, u32_xor_poly]
        refine hK' _ (by omega) ?_
        simp -dsimp -implicitDefEqProofs only [go_sem, Nat.reduceBEq, Nat.reduceAdd, Nat.reduceLeDiff, Nat.reduceSub, Int.reduceEq, h0, h1, h6, h2, h11, h3, g0, g1, wrap_succ (show j < 4611686018427387904 by omega)]
        rw [crcN, hc, crcStep, if_pos (UInt32.toNat_inj.1 (Int.ofNat_inj.1 hod))]
      · simp -dsimp -implicitDefEqProofs only [go_sem, Nat.reduceBEq, Nat.reduceAdd, Nat.reduceLeDiff, Nat.reduceSub, Int.reduceEq, h0, h1, h6, h2, h11, h3, g0, g1]
        refine hK' _ (by omega) ?_
        simp -dsimp -implicitDefEqProofs only [go_sem, Nat.reduceBEq, Nat.reduceAdd, Nat.reduceLeDiff, Nat.reduceSub, Int.reduceEq, h0, h1, h6, h2, h11, h3, g0, g1, wrap_succ (show j < 4611686018427387904 by omega)]
        rw [crcN, hc, crcStep, if_neg (fun e => hod (by rw [e]; rfl))]
    · have : j = 8 := by omega
      subst this
      simp -dsimp -implicitDefEqProofs only [go_sem, Nat.reduceBEq, Nat.reduceAdd, Nat.reduceLeDiff, Nat.reduceSub, Int.reduceEq, h0, h1, h6, h2, h11, h3, g0, g1]
      have hl : (crcTab i ++ List.replicate (256 - i) 0).length = 256 := by simp only [List.length_append, crcTab_length, List.length_replicate]; omega
      refine ask.of (by omega) (ask.of (by omega) (hK _ hlt ?_))
      simp -dsimp -implicitDefEqProofs only [go_sem, Nat.reduceBEq, Nat.reduceAdd, Nat.reduceLeDiff, Nat.reduceSub, Int.reduceEq, h0, h1, h6, h2, h11, h3, g0, g1, wrap_succ (show i < 4611686018427387904 by omega)]
      have e : 256 - i = (256 - (i + 1)) + 1 := by omega
      rw [Nat.mul_one, e, List.replicate_succ, List.set_append_right _ _ (by rw [crcTab_length]; exact Nat.le_refl _), crcTab_length, Nat.sub_self, List.set_cons_zero]
      have e2 : crcTab (i + 1) = crcTab i ++ [c] := by rw [crcTab, List.range_succ, List.map_append, ← hc]; rfl
      rw [e2, List.append_assoc]
      rfl
  · have : i = 256 := by omega
    subst this
    have e0 : crcTab 256 ++ List.replicate (256 - 256) 0 = crcTab 256 := List.append_nil _
    rw [e0] at g1
    have e1 : List.take 256 (w32s (crcTab 256)) = w32s (crcTab 256) := by
      exact List.take_of_length_le (by rw [w32s_length, crcTab_length]; exact Nat.le_refl _)
    have e2 : Nat.ble 256 256 = true := rfl
    simp -dsimp -implicitDefEqProofs only [go_sem, Nat.reduceBEq, Nat.reduceAdd, Nat.reduceLeDiff, Nat.reduceSub, Int.reduceEq, h0, h1, h6, g0, g1, e1, e2, w32s_setAt (crcTab 256) (List.replicate 256 0) (by rw [crcTab_length, List.length_replicate]), List.map_id', List.length_replicate]
def stB (x : BitVec 32) : BitVec 32 := (x >>> 1) ^^^ (if x.getLsbD 0 then 3988292384 else 0)
def stN : Nat → BitVec 32 → BitVec 32
  | 0, x => x
  | n + 1, x => stB (stN n x)
theorem crcStep_bv (c : UInt32) : (crcStep c).toBitVec = stB c.toBitVec := by
  have h1 : (c / 2).toBitVec = c.toBitVec >>> 1 := by
    apply BitVec.eq_of_toNat_eq
    simp [BitVec.toNat_ushiftRight, Nat.shiftRight_eq_div_pow]
  have h2 : c.toBitVec.getLsbD 0 = decide (c % 2 = 1) := by
    rw [BitVec.getLsbD, Nat.testBit_zero]
    congr 1
    rw [← UInt32.toNat_inj]
    simp
  unfold crcStep stB
  rw [h2]
  by_cases h : c % 2 = 1
  · simp only [h, if_true, decide_true]
    rw [UInt32.toBitVec_xor, h1]; rfl
  · simp only [h, if_false, decide_false]
    rw [h1]; simp
theorem crcN_bv (n : Nat) (c : UInt32) : (crcN n c).toBitVec = stN n c.toBitVec := by
  induction n with
  | zero => rfl
  | succ n ih => rw [crcN, crcStep_bv, ih]; rfl
theorem stB_xor (a b : BitVec 32) : stB (a ^^^ b) = stB a ^^^ stB b := by
  unfold stB
  rw [BitVec.ushiftRight_xor_distrib, BitVec.getLsbD_xor]
  cases a.getLsbD 0 <;> cases b.getLsbD 0 <;> simp
  · rw [BitVec.xor_assoc]
  · rw [BitVec.xor_assoc, BitVec.xor_assoc, BitVec.xor_comm (b >>> 1)]
  · rw [BitVec.xor_assoc, ← BitVec.xor_assoc (3988292384#32) (b >>> 1), BitVec.xor_comm (3988292384#32) (b >>> 1), BitVec.xor_assoc, BitVec.xor_self, BitVec.xor_zero]
theorem stN_xor (n : Nat) (a b : BitVec 32) : stN n (a ^^^ b) = stN n a ^^^ stN n b := by
  induction n with
  | zero => rfl
  | succ n ih => rw [stN, ih, stB_xor]; rfl
theorem stN_low (x : BitVec 32) (h : ∀ i, i < 8 → x.getLsbD i = false) : ∀ n, n ≤ 8 → stN n x = x >>> n
  | 0, _ => by simp [stN]
  | n + 1, hn => by
    rw [stN, stN_low x h n (by omega), stB]
    have : (x >>> n).getLsbD 0 = false := by rw [BitVec.getLsbD_ushiftRight]; simpa using h n (by omega)
    rw [this, ← BitVec.shiftRight_add]
    simp
theorem st8 (x : BitVec 32) : stN 8 x = (x >>> 8) ^^^ stN 8 (x &&& 255) := by
  have hx : x = (x &&& ~~~255#32) ^^^ (x &&& 255#32) := by
    apply BitVec.eq_of_getLsbD_eq
    intro i hi
    simp only [BitVec.getLsbD_xor, BitVec.getLsbD_and, BitVec.getLsbD_not, hi, decide_true, Bool.true_and]
    cases x.getLsbD i <;> cases (255#32).getLsbD i <;> rfl
  have h255 : ∀ i, (255#32).getLsbD i = decide (i < 8) := fun i => by
    have : (255#32).getLsbD i = (2 ^ 8 - 1).testBit i := rfl
    rw [this, Nat.testBit_two_pow_sub_one]
  have hlow : stN 8 (x &&& ~~~255#32) = (x &&& ~~~255#32) >>> 8 := stN_low _ (fun i hi => by
    rw [BitVec.getLsbD_and, BitVec.getLsbD_not, h255]; simp [hi]) 8 (Nat.le_refl _)
  have hs : (x &&& ~~~255#32) >>> 8 = x >>> 8 := by
    apply BitVec.eq_of_getLsbD_eq
    intro i hi
    rw [BitVec.getLsbD_ushiftRight, BitVec.getLsbD_ushiftRight, BitVec.getLsbD_and, BitVec.getLsbD_not, h255]
    by_cases h : 8 + i < 32
    · simp [h]
    · simp [BitVec.getLsbD_of_ge x (8 + i) (by omega)]
  conv => lhs; rw [hx]
  rw [stN_xor, hlow, hs]
  rfl
theorem crc_byte (c : UInt32) (b : UInt8) : crcN 8 (c ^^^ b.toUInt32) = (c >>> 8) ^^^ crcN 8 (UInt32.ofNat (c.toUInt8 ^^^ b).toNat) := by
  apply UInt32.toBitVec_inj.1
  rw [crcN_bv, UInt32.toBitVec_xor, st8, UInt32.toBitVec_xor, crcN_bv]
  have hb : b.toUInt32.toBitVec = b.toBitVec.setWidth 32 := rfl
  have h1 : (c.toBitVec ^^^ b.toUInt32.toBitVec) >>> 8 = (c >>> 8).toBitVec := by
    apply BitVec.eq_of_toNat_eq
    have hbl := b.toNat_lt
    rw [BitVec.ushiftRight_xor_distrib]
    have : b.toUInt32.toBitVec >>> 8 = 0#32 := by
      apply BitVec.eq_of_toNat_eq
      rw [BitVec.toNat_ushiftRight, Nat.shiftRight_eq_div_pow]
      have : b.toUInt32.toBitVec.toNat = b.toNat := by simp
      rw [this]; simp; omega
    rw [this, BitVec.xor_zero]
    rfl
  have h2 : (c.toBitVec ^^^ b.toUInt32.toBitVec) &&& 255 = (UInt32.ofNat (c.toUInt8 ^^^ b).toNat).toBitVec := by
    apply BitVec.eq_of_toNat_eq
    have h3 : (UInt32.ofNat (c.toUInt8 ^^^ b).toNat).toBitVec.toNat = (c.toUInt8 ^^^ b).toNat := by
      have := (c.toUInt8 ^^^ b).toNat_lt
      show (UInt32.ofNat (c.toUInt8 ^^^ b).toNat).toNat = _
      rw [UInt32.toNat_ofNat_of_lt' (by show _ < 4294967296; omega)]
    rw [h3, BitVec.toNat_and, BitVec.toNat_xor, UInt8.toNat_xor]
    have h4 : b.toUInt32.toBitVec.toNat = b.toNat := by simp
    have h5 : (255 : BitVec 32).toNat = 2 ^ 8 - 1 := rfl
    rw [h4, h5, Nat.and_two_pow_sub_one_eq_mod, Nat.xor_mod_two_pow]
    have h6 : c.toUInt8.toNat = c.toBitVec.toNat % 2 ^ 8 := by simp
    have hbl := b.toNat_lt
    rw [h6, Nat.mod_eq_of_lt (show b.toNat < 2 ^ 8 from hbl)]
  rw [h1, h2]
theorem u32_not (a : UInt32) : IntKind.u32.wrap ((BitVec.ofInt IntKind.u32.bits (if IntKind.u32.signed = true then -1 else IntKind.u32.max) ^^^ BitVec.ofInt IntKind.u32.bits (a.toNat : Int)).toNat : Int) = ((a ^^^ 4294967295).toNat : Int) := by
  have := u32_xor 4294967295 a
  rw [UInt32.xor_comm] at this
  exact this
theorem pureCs_w32s : ∀ l : List UInt32, pureCs (w32s l)
  | [] => trivial
  | c :: l => ⟨trivial, pureCs_w32s l⟩
theorem pure_w32s (l : List UInt32) : (AV.agg (w32s l)).pure := pureCs_w32s l
theorem w32s_opn (id : Id) : ∀ (l : List UInt32) (q : Nat), opnCs id q (w32s l) = (w32s l, [])
  | [], _ => rfl
  | c :: l, q => by
    have := w32s_opn id l (q + 1)
    show ((opnC id q (w32 c)).1 :: (opnCs id (q + 1) (w32s l)).1, (opnC id q (w32 c)).2 ++ (opnCs id (q + 1) (w32s l)).2) = _
    rw [this]; rfl
attribute [go_sem] w32s_opn
theorem crcTab_at {k : Nat} (h : k < 256) : (crcTab 256)[k]'(by rw [crcTab_length]; exact h) = crcN 8 (UInt32.ofNat k) := by simp [crcTab]
theorem c_implCrc32 (bs : List UInt8) (hb : bs.length ≤ 1048576) : Meets Try.prog 60 [rowB bs] (fun r => r = .v (.int .u32 (crcB bs).toNat)) := by
  refine Meets.intro mixed (hint []) Try.func60 rfl (by decide) res_60 rty_60 (by kernel_rfl) ?_; 
  simp -dsimp -implicitDefEqProofs only [go_sem, Nat.reduceBEq, Nat.reduceAdd, Nat.reduceLeDiff, Nat.reduceSub, Int.reduceEq]
  refine CallE.of c_crcTable (by rintro r rfl; exact pure_w32s _) (by simp -dsimp -implicitDefEqProofs only [go_sem, Nat.reduceBEq, Nat.reduceAdd, Nat.reduceLeDiff, Nat.reduceSub, Int.reduceEq]) ?_
  rintro r rfl
  simp -dsimp -implicitDefEqProofs only [go_sem, Nat.reduceBEq, Nat.reduceAdd, Nat.reduceLeDiff, Nat.reduceSub, Int.reduceEq, List.length_replicate]
  refine LoopE.cnt bs.length (fun i s => s.env 8 = .rd .ent 5 1 (bytesA bs) ∧ s.env 9 = .v (.int .i64 bs.length) ∧ s.env 10 = .v (.int .i64 i) ∧ s.env 3 = .ptr [3] 0 0 0 ∧
    s.env 4 = .v (.int .u32 (crcU 4294967295 (bs.take i)).toNat) ∧ s.σ [3] = some (.box 127 (w32s (crcTab 256)))) ⟨by simp -dsimp -implicitDefEqProofs only [go_sem, Nat.reduceBEq, Nat.reduceAdd, Nat.reduceLeDiff, Nat.reduceSub, Int.reduceEq, initE], by simp -dsimp -implicitDefEqProofs only [go_sem, Nat.reduceBEq, Nat.reduceAdd, Nat.reduceLeDiff, Nat.reduceSub, Int.reduceEq, initE], by simp -dsimp -implicitDefEqProofs only [go_sem, Nat.reduceBEq, Nat.reduceAdd, Nat.reduceLeDiff, Nat.reduceSub, Int.reduceEq], by simp -dsimp -implicitDefEqProofs only [go_sem, Nat.reduceBEq, Nat.reduceAdd, Nat.reduceLeDiff, Nat.reduceSub, Int.reduceEq], by simp -dsimp -implicitDefEqProofs only [go_sem, Nat.reduceBEq, Nat.reduceAdd, Nat.reduceLeDiff, Nat.reduceSub, Int.reduceEq, List.take_zero] <;> rfl, by simp -dsimp -implicitDefEqProofs only [go_sem, Nat.reduceBEq, Nat.reduceAdd, Nat.reduceLeDiff, Nat.reduceSub, Int.reduceEq]⟩ ?_
  rintro i ⟨e, σ⟩ hi ⟨h8, h9, h10, h3, h4, g3⟩ K hK
  simp only at h8 h9 h10 h3 h4 g3
  generalize hc : crcU 4294967295 (bs.take i) = c at h4
  simp -dsimp -implicitDefEqProofs only [go_sem, Nat.reduceBEq, Nat.reduceAdd, Nat.reduceLeDiff, Nat.reduceSub, Int.reduceEq, h8, h9, h10, h3, h4, g3]
  refine ifB'.of (fun hlt => ?_) (fun hlt => ?_)
  · have hlt : i < bs.length := by omega
    have e1 := bytesA_at hlt
    have hk : (c.toUInt8 ^^^ bs[i]).toNat < 256 := (c.toUInt8 ^^^ bs[i]).toNat_lt
    have e2 := w32s_at (l := crcTab 256) (i := (c.toUInt8 ^^^ bs[i]).toNat) (by rw [crcTab_length]; exact hk)
    have e3 : (w32s (crcTab 256))[(c.toUInt8 ^^^ bs[i]).toNat * 1]? = some (.v (.int .u32 (crcN 8 (UInt32.ofNat (c.toUInt8 ^^^ bs[i]).toNat)).toNat)) := by
      rw [Nat.mul_one, e2, crcTab_at hk]
    simp -dsimp -implicitDefEqProofs only [go_sem, Nat.reduceBEq, Nat.reduceAdd, Nat.reduceLeDiff, Nat.reduceSub, Int.reduceEq, h8, h9, h10, h3, h4, g3, e1, e3, u32_shr8, u8_of_u32, u8_xor, u32_xor]
    refine ask.of (by omega) ⟨by decide, ask.of (by omega) (hK _ hlt ?_)⟩
    simp -dsimp -implicitDefEqProofs only [go_sem, Nat.reduceBEq, Nat.reduceAdd, Nat.reduceLeDiff, Nat.reduceSub, Int.reduceEq, h8, h9, h10, h3, h4, g3, wrap_succ (show i < 4611686018427387904 by omega)]
    rw [List.take_succ_eq_append_getElem hlt, crcU_snoc, hc, crc_byte]
  · have : i = bs.length := by omega
    subst this
    rw [List.take_length] at hc
    simp -dsimp -implicitDefEqProofs only [go_sem, Nat.reduceBEq, Nat.reduceAdd, Nat.reduceLeDiff, Nat.reduceSub, Int.reduceEq, h8, h9, h10, h3, h4, g3, u32_not, ← hc]
    rfl
end Go.Ev
set_option linter.unusedSimpArgs false
set_option linter.unusedVariables false
namespace Go.Ev
open Go Go.RowKit
def Look (a b : AV) : Prop := ∀ (C : Cx) (x : Value), Rep C true (.read .ent) a x → Rep C true (.read .ent) b x
theorem Look.refl (a : AV) : Look a a := fun _ _ h => h
def Looks : List AV → List AV → Prop
  | [], [] => True
  | a :: us, b :: bs => Look a b ∧ Looks us bs
  | _, _ => False
def LookEls : List (List AV) → List (List AV) → Prop
  | [], [] => True
  | a :: us, b :: bs => Looks a b ∧ LookEls us bs
  | _, _ => False
theorem Looks.len : ∀ {us bs : List AV}, Looks us bs → us.length = bs.length
  | [], [], _ => rfl
  | a :: us, b :: bs, h => by simp [Looks.len h.2]
  | [], _ :: _, h => h.elim
  | _ :: _, [], h => h.elim
theorem LookEls.len : ∀ {us bs : List (List AV)}, LookEls us bs → us.length = bs.length
  | [], [], _ => rfl
  | a :: us, b :: bs, h => by simp [LookEls.len h.2]
  | [], _ :: _, h => h.elim
  | _ :: _, [], h => h.elim
theorem RepVs.look {C : Cx} : ∀ {us bs : List AV} {vs : List Value} {q : Nat}, Looks us bs → RepVs C true (.read .ent) q us vs → RepVs C true (.read .ent) q bs vs
  | [], [], vs, q, _, h => h
  | a :: us, b :: bs, vs, q, hl, h => by
    obtain ⟨y, ys, rfl, h1, h2⟩ := h
    exact ⟨y, ys, rfl, hl.1 _ _ h1, RepVs.look hl.2 h2⟩
  | [], _ :: _, _, _, h, _ => h.elim
  | _ :: _, [], _, _, h, _ => h.elim
theorem RepCs.look {C : Cx} {b : Nat} : ∀ {us bs : List AV} {off q : Nat}, Looks us bs → RepCs C true (.read .ent) b off q us → RepCs C true (.read .ent) b off q bs
  | [], [], _, _, _, h => h
  | a :: us, c :: bs, off, q, hl, h => by
    obtain ⟨⟨y, h0, h1, h2⟩, h3⟩ := h
    exact ⟨⟨y, h0, h1, hl.1 _ _ h2⟩, RepCs.look hl.2 h3⟩
  | [], _ :: _, _, _, h, _ => h.elim
  | _ :: _, [], _, _, h, _ => h.elim
theorem RepEls.look {C : Cx} {b sz : Nat} : ∀ {us bs : List (List AV)} {off q : Nat}, LookEls us bs → RepEls C (.read .ent) b off q sz us → RepEls C (.read .ent) b off q sz bs
  | [], [], _, _, _, h => h
  | a :: us, c :: bs, off, q, hl, h => by
    obtain ⟨h1, h2, h3⟩ := h
    exact ⟨by rw [← Looks.len hl.1]; exact h1, RepCs.look hl.1 h2, RepEls.look hl.2 h3⟩
  | [], _ :: _, _, _, h, _ => h.elim
  | _ :: _, [], _, _, h, _ => h.elim
theorem Look.row {e sz : Nat} {us bs : List (List AV)} (h : LookEls us bs) : Look (.row e sz us) (.row e sz bs) := fun C x hr => by
  obtain ⟨ha, A, c, rfl, h1, h2, h3⟩ := hr
  have hl := h.len
  refine ⟨ha, A, c, by rw [hl], by omega, by omega, ?_⟩
  rcases h3 with h3 | ⟨b, off, h4, h5, h6⟩
  · left
    rw [h3] at hl
    exact List.eq_nil_of_length_eq_zero (by simpa using hl.symm)
  · exact .inr ⟨b, off, h4, h5, RepEls.look h h6⟩
theorem Look.rd (e sz : Nat) (els : List (List AV)) : Look (.rd .ent e sz els) (.row e sz els) := fun C x hr => by
  obtain ⟨_, _, A, c, rfl, h1, h2, h3⟩ := hr
  exact ⟨trivial, A, c, rfl, h1, h2, h3⟩
theorem Meets.look {P : Program} {f : FuncId} {us bs : List AV} {post : AV → Prop} (hl : Looks us bs) (h : Meets P f bs post) : Meets P f us post :=
  ⟨h.enters, fun w S F base vals hS hr => h.runs w S F base vals hS (hr.look hl)⟩
def byE (bs : List UInt8) : List AV := [.rd .ent 5 1 (bytesA bs)]
theorem look_byE : ∀ xs : List (List UInt8), LookEls (ra byE xs) (ra byC xs)
  | [] => trivial
  | x :: xs => ⟨⟨Look.rd _ _ _, trivial⟩, look_byE xs⟩
theorem byE_asrw (xs : List (List UInt8)) : (ra byC xs).map (List.map (AV.asrw .ent)) = ra byE xs := by simp [ra, byC, byE, AV.asrw, Org.base]
end Go.Ev
set_option linter.unusedSimpArgs false
set_option linter.unusedVariables false
namespace Go.Ev
open Go Go.RowKit Go.Proofs
def h8 (x0 x1 x2 x3 x4 x5 x6 x7 : Bool) : Nat := (((((((0 * 2 + x7.toNat) * 2 + x6.toNat) * 2 + x5.toNat) * 2 + x4.toNat) * 2 + x3.toNat) * 2 + x2.toNat) * 2 + x1.toNat) * 2 + x0.toNat
end Go.Ev
set_option linter.unusedSimpArgs false
set_option linter.unusedVariables false
namespace Go.Ev
open Go Go.RowKit Go.Proofs
def isW (n : Int) : Bool := decide (n = 1 ∨ n = 2 ∨ n = 4 ∨ n = 8)
theorem isW_of {w : Nat} (h : w = 1 ∨ w = 2 ∨ w = 4 ∨ w = 8) : isW w = true := by
  have : (w : Int) = 1 ∨ (w : Int) = 2 ∨ (w : Int) = 4 ∨ (w : Int) = 8 := by omega
  simpa [isW] using this
theorem c_l1width (n : Int) : Meets Try.prog 66 [.v (.int .i64 n)] (fun r => r = .v (.bool (isW n))) := by
  refine Meets.intro mixed (hint []) Try.func66 rfl (by decide) res_66 rty_66 (by kernel_rfl) ?_; 
  by_cases h1 : n = 1
  · simp -dsimp -implicitDefEqProofs only [go_sem, Nat.reduceBEq, Nat.reduceAdd, Nat.reduceLeDiff, Nat.reduceSub, Int.reduceEq, initE, h1, decide_true, decide_false, show isW 1 = true from rfl]
  by_cases h2 : n = 2
  · simp -dsimp -implicitDefEqProofs only [go_sem, Nat.reduceBEq, Nat.reduceAdd, Nat.reduceLeDiff, Nat.reduceSub, Int.reduceEq, initE, h1, h2, decide_true, decide_false, show isW 2 = true from rfl, show ¬ (2 : Int) = 1 by decide]
  by_cases h4 : n = 4
  · simp -dsimp -implicitDefEqProofs only [go_sem, Nat.reduceBEq, Nat.reduceAdd, Nat.reduceLeDiff, Nat.reduceSub, Int.reduceEq, initE, h1, h2, h4, decide_true, decide_false, show isW 4 = true from rfl, show ¬ (4 : Int) = 1 by decide, show ¬ (4 : Int) = 2 by decide]
  by_cases h8 : n = 8
  · simp -dsimp -implicitDefEqProofs only [go_sem, Nat.reduceBEq, Nat.reduceAdd, Nat.reduceLeDiff, Nat.reduceSub, Int.reduceEq, initE, h1, h2, h4, h8, decide_true, decide_false, show isW 8 = true from rfl, show ¬ (8 : Int) = 1 by decide, show ¬ (8 : Int) = 2 by decide, show ¬ (8 : Int) = 4 by decide]
  have e : isW n = false := by simp [isW, h1, h2, h4, h8]
  simp -dsimp -implicitDefEqProofs only [go_sem, Nat.reduceBEq, Nat.reduceAdd, Nat.reduceLeDiff, Nat.reduceSub, Int.reduceEq, initE, h1, h2, h4, h8, e, decide_true, decide_false]
def chunk (b : List UInt8) (w i : Nat) : List UInt8 := (b.drop (w * i)).take w
end Go.Ev
set_option linter.unusedSimpArgs false
set_option linter.unusedVariables false
namespace Go.Ev
open Go Go.RowKit Go.Proofs
def fitsB (w : Nat) (x : Int) : Bool := decide (w = 8 ∨ (-(2 ^ (8 * w - 1) : Int) ≤ x ∧ x < 2 ^ (8 * w - 1)))
def uN (x : Int) : Nat := (x % 18446744073709551616).toNat
def leB (w : Nat) (x : Int) : List UInt8 := (List.range w).map fun j => UInt8.ofNat (uN x / 256 ^ j % 256)
theorem leB_length (w : Nat) (x : Int) : (leB w x).length = w := by simp [leB]
theorem leB_succ (w : Nat) (x : Int) : leB w x ++ [UInt8.ofNat (uN x / 256 ^ w % 256)] = leB (w + 1) x := by simp [leB, List.range_succ]
def packI (xs : List Int) (w : Nat) : List UInt8 := xs.flatMap (leB w)
theorem packI_length (xs : List Int) (w : Nat) : (packI xs w).length = w * xs.length := by
  induction xs with
  | nil => rfl
  | cons x xs ih => rw [packI, List.flatMap_cons, List.length_append, leB_length, List.length_cons, Nat.mul_add, ← ih]; simp [packI]; omega
theorem packI_succ {xs : List Int} (w : Nat) {i : Nat} (h : i < xs.length) : packI (xs.take i) w ++ leB w xs[i] = packI (xs.take (i + 1)) w := by
  rw [List.take_add_one, List.getElem?_eq_getElem h, packI, packI, List.flatMap_append]
  simp
theorem all_succ {xs : List Int} (w : Nat) {i : Nat} (h : i < xs.length) (h1 : (xs.take i).all (fitsB w) = true) (h2 : fitsB w xs[i] = true) : (xs.take (i + 1)).all (fitsB w) = true := by
  rw [List.take_add_one, List.getElem?_eq_getElem h, List.all_append, h1]
  simpa using h2
theorem all_not {xs : List Int} (w : Nat) {i : Nat} (h : i < xs.length) (h2 : fitsB w xs[i] = false) : xs.all (fitsB w) = false := by
  rw [List.all_eq_false]
  exact ⟨xs[i], List.getElem_mem h, by rw [h2]; decide⟩
def packIC (xs : List Int) (n : Int) : List UInt8 × Nat :=
  if isW n = true then (if xs.all (fitsB n.toNat) = true then (packI xs n.toNat, 0) else ([], 1)) else ([], 1)
theorem sh_f {w : Nat} (h : w = 1 ∨ w = 2 ∨ w = 4) : IntKind.i64.wrap (1 * 2 ^ min (IntKind.u64.wrap (IntKind.i64.wrap (IntKind.i64.wrap (8 * (w : Int)) - 1))).toNat 64) = 2 ^ (8 * w - 1) := by
  rcases h with rfl | rfl | rfl <;> decide
theorem ng_f {w : Nat} (h : w = 1 ∨ w = 2 ∨ w = 4) : IntKind.i64.wrap (0 - (2 ^ (8 * w - 1) : Int)) = -(2 ^ (8 * w - 1) : Int) := by
  rcases h with rfl | rfl | rfl <;> decide
theorem c_l1fits (x : Int) (w : Nat) (hw : w = 1 ∨ w = 2 ∨ w = 4 ∨ w = 8) : Meets Try.prog 84 [.v (.int .i64 x), .v (.int .i64 w)] (fun r => r = .v (.bool (fitsB w x))) := by
  refine Meets.intro mixed (hint []) Try.func84 rfl (by decide) res_84 rty_84 (by kernel_rfl) ?_; 
  simp -dsimp -implicitDefEqProofs only [go_sem, Nat.reduceBEq, Nat.reduceAdd, Nat.reduceLeDiff, Nat.reduceSub, Int.reduceEq]
  refine ifB'.of (fun h8 => ?_) (fun h8 => ?_)
  · obtain rfl : w = 8 := by omega
    simp -dsimp -implicitDefEqProofs only [go_sem, Nat.reduceBEq, Nat.reduceAdd, Nat.reduceLeDiff, Nat.reduceSub, Int.reduceEq, show fitsB 8 x = true from rfl]
  have hw : w = 1 ∨ w = 2 ∨ w = 4 := by omega
  have e : fitsB w x = (decide (-(2 ^ (8 * w - 1) : Int) ≤ x) && decide (x < 2 ^ (8 * w - 1))) := by
    unfold fitsB
    rw [← Bool.decide_and]
    exact decide_eq_decide.2 ⟨fun h => h.resolve_left (by omega), .inr⟩
  simp -dsimp -implicitDefEqProofs only [go_sem, Nat.reduceBEq, Nat.reduceAdd, Nat.reduceLeDiff, Nat.reduceSub, Int.reduceEq, sh_f hw, ng_f hw, e]
  refine ifB'.of (fun h1 => ?_) (fun h1 => ?_)
  · simp -dsimp -implicitDefEqProofs only [go_sem, Nat.reduceBEq, Nat.reduceAdd, Nat.reduceLeDiff, Nat.reduceSub, Int.reduceEq, sh_f hw, decide_eq_true h1, Bool.true_and]
  · simp -dsimp -implicitDefEqProofs only [go_sem, Nat.reduceBEq, Nat.reduceAdd, Nat.reduceLeDiff, Nat.reduceSub, Int.reduceEq, decide_eq_false h1, Bool.false_and]
end Go.Ev
set_option linter.unusedSimpArgs false
set_option linter.unusedVariables false
namespace Go.Ev
open Go Go.RowKit Go.Proofs
theorem shr_byte (x : Int) (j : Nat) : (x / 256 ^ j).fdiv (2 ^ min (Int.toNat 8) 64) = x / 256 ^ (j + 1) := by
  have e : (2 : Int) ^ min (Int.toNat 8) 64 = 256 := rfl
  rw [e, Int.fdiv_eq_ediv_of_nonneg _ (by decide), Int.pow_succ, Int.ediv_ediv_of_nonneg (Int.le_of_lt (Int.pow_pos (by decide)))]
theorem u8_byte (x : Int) {j : Nat} (hj : j < 8) : IntKind.u8.wrap (x / 256 ^ j) = ((UInt8.ofNat (uN x / 256 ^ j % 256)).toNat : Int) := by
  have e : IntKind.u8.wrap (x / 256 ^ j) = x / 256 ^ j % 256 := by
    simp [IntKind.wrap, IntKind.bits, IntKind.signed]
  have e2 : ((UInt8.ofNat (uN x / 256 ^ j % 256)).toNat : Int) = ((uN x / 256 ^ j % 256 : Nat) : Int) := by simp
  rw [e, e2, uN]
  match j, hj with
  | 0, _ => simp only [Nat.pow_zero, Int.pow_zero, Nat.div_one, Int.ediv_one]; omega
  | 1, _ => simp only [Nat.reducePow, Int.reducePow]; omega
  | 2, _ => simp only [Nat.reducePow, Int.reducePow]; omega
  | 3, _ => simp only [Nat.reducePow, Int.reducePow]; omega
  | 4, _ => simp only [Nat.reducePow, Int.reducePow]; omega
  | 5, _ => simp only [Nat.reducePow, Int.reducePow]; omega
  | 6, _ => simp only [Nat.reducePow, Int.reducePow]; omega
  | 7, _ => simp only [Nat.reducePow, Int.reducePow]; omega
theorem back_i8 {x : Int} (hx : -9223372036854775808 ≤ x ∧ x ≤ 9223372036854775807) : decide (IntKind.i64.wrap (IntKind.i8.wrap x) = x) = fitsB 1 x := by
  have e0 : -128 ≤ IntKind.i8.wrap x ∧ IntKind.i8.wrap x ≤ 127 ∧ (IntKind.i8.wrap x = x ↔ -128 ≤ x ∧ x ≤ 127) := by
    simp [IntKind.wrap, IntKind.bits, IntKind.signed]
    split <;> omega
  rw [wrap_i64_of (by omega) (by omega)]
  unfold fitsB
  refine decide_eq_decide.2 ?_
  rw [e0.2.2]
  simp
  omega
theorem back_i16 {x : Int} (hx : -9223372036854775808 ≤ x ∧ x ≤ 9223372036854775807) : decide (IntKind.i64.wrap (IntKind.i16.wrap x) = x) = fitsB 2 x := by
  have e0 : -32768 ≤ IntKind.i16.wrap x ∧ IntKind.i16.wrap x ≤ 32767 ∧ (IntKind.i16.wrap x = x ↔ -32768 ≤ x ∧ x ≤ 32767) := by
    simp [IntKind.wrap, IntKind.bits, IntKind.signed]
    split <;> omega
  rw [wrap_i64_of (by omega) (by omega)]
  unfold fitsB
  refine decide_eq_decide.2 ?_
  rw [e0.2.2]
  simp
  omega
theorem back_i32 {x : Int} (hx : -9223372036854775808 ≤ x ∧ x ≤ 9223372036854775807) : decide (IntKind.i64.wrap (IntKind.i32.wrap x) = x) = fitsB 4 x := by
  have e0 : -2147483648 ≤ IntKind.i32.wrap x ∧ IntKind.i32.wrap x ≤ 2147483647 ∧ (IntKind.i32.wrap x = x ↔ -2147483648 ≤ x ∧ x ≤ 2147483647) := by
    simp [IntKind.wrap, IntKind.bits, IntKind.signed]
    split <;> omega
  rw [wrap_i64_of (by omega) (by omega)]
  unfold fitsB
  refine decide_eq_decide.2 ?_
  rw [e0.2.2]
  simp
  omega
theorem c_packed_i8 (xs : List Int) (hx : xs.length ≤ 1048576) (hr : ∀ x ∈ xs, -9223372036854775808 ≤ x ∧ x ≤ 9223372036854775807) : Meets Try.prog 79 [rowI xs, .v (.int .i64 1)] (fun r => r = .tup [rowB (packIC xs 1).1, .v (.int .i64 (packIC xs 1).2)]) := by
  have hw : isW 1 = true := rfl
  have fin := packIC.eq_1 xs 1
  rw [if_pos hw, show (1 : Int).toNat = 1 from rfl] at fin
  have em : IntKind.i64.wrap ((xs.length : Int) * 1) = ((1 * xs.length : Nat) : Int) := by rw [wrap_i64_of (by omega) (by omega)]; omega
  refine Meets.intro mixed (hint []) Try.func79 rfl (by decide) res_79 rty_79 (by kernel_rfl) ?_; 
  simp -dsimp -implicitDefEqProofs only [go_sem, Nat.reduceBEq, Nat.reduceAdd, Nat.reduceLeDiff, Nat.reduceSub, Int.reduceEq, em]
  repeat with_reducible refine ask.of (by omega) ?_
  refine LoopE.cnt xs.length (fun i s => s.env 15 = .rd .ent 3 1 (ra intC xs) ∧ s.env 1 = .v (.int .i64 1) ∧ s.env 16 = .v (.int .i64 xs.length) ∧ s.env 17 = .v (.int .i64 i) ∧ s.env 6 = .ref [14] ∧ s.σ [14] = some (.row 5 1 (bytesA (packI (xs.take i) 1))) ∧ (xs.take i).all (fitsB 1) = true) ⟨by simp -dsimp -implicitDefEqProofs only [go_sem, Nat.reduceBEq, Nat.reduceAdd, Nat.reduceLeDiff, Nat.reduceSub, Int.reduceEq, initE], by simp -dsimp -implicitDefEqProofs only [go_sem, Nat.reduceBEq, Nat.reduceAdd, Nat.reduceLeDiff, Nat.reduceSub, Int.reduceEq, initE], by simp -dsimp -implicitDefEqProofs only [go_sem, Nat.reduceBEq, Nat.reduceAdd, Nat.reduceLeDiff, Nat.reduceSub, Int.reduceEq], by simp -dsimp -implicitDefEqProofs only [go_sem, Nat.reduceBEq, Nat.reduceAdd, Nat.reduceLeDiff, Nat.reduceSub, Int.reduceEq] <;> simp, by simp -dsimp -implicitDefEqProofs only [go_sem, Nat.reduceBEq, Nat.reduceAdd, Nat.reduceLeDiff, Nat.reduceSub, Int.reduceEq], by simp -dsimp -implicitDefEqProofs only [go_sem, Nat.reduceBEq, Nat.reduceAdd, Nat.reduceLeDiff, Nat.reduceSub, Int.reduceEq]; rfl, by simp⟩ ?_
  rintro i ⟨e, σ⟩ hi ⟨h15, h1, h16, h17, h6, hs, hz⟩ K hK
  simp only at h15 h1 h16 h17 h6 hs
  simp -dsimp -implicitDefEqProofs only [go_sem, Nat.reduceBEq, Nat.reduceAdd, Nat.reduceLeDiff, Nat.reduceSub, Int.reduceEq, h15, h1, h16, h17, h6, hs]
  refine ifB'.of (fun hlt => ?_) (fun hlt => ?_)
  · have hlt : i < xs.length := by omega
    have hv := hr xs[i] (List.getElem_mem hlt)
    have hd : decide (IntKind.i64.wrap (IntKind.i8.wrap xs[i]) = xs[i]) = fitsB 1 xs[i] := back_i8 hv
    simp -dsimp -implicitDefEqProofs only [go_sem, Nat.reduceBEq, Nat.reduceAdd, Nat.reduceLeDiff, Nat.reduceSub, Int.reduceEq, h15, h1, h16, h17, h6, hs, intA_at hlt, hd]
    repeat with_reducible refine ask.of (by omega) ?_
    cases hf : fitsB 1 xs[i]
    · simp -dsimp -implicitDefEqProofs only [go_sem, Nat.reduceBEq, Nat.reduceAdd, Nat.reduceLeDiff, Nat.reduceSub, Int.reduceEq, h15, h1, h16, h17, h6, hs, hf]
      rw [fin, all_not 1 hlt hf]; rfl
    simp -dsimp -implicitDefEqProofs only [go_sem, Nat.reduceBEq, Nat.reduceAdd, Nat.reduceLeDiff, Nat.reduceSub, Int.reduceEq, h15, h1, h16, h17, h6, hs, hf]
    refine LoopE.cnt 1 (fun j s => s.env 15 = .rd .ent 3 1 (ra intC xs) ∧ s.env 1 = .v (.int .i64 1) ∧ s.env 16 = .v (.int .i64 xs.length) ∧ s.env 17 = .v (.int .i64 i) ∧ s.env 27 = .v (.int .i64 1) ∧ s.env 28 = .v (.int .i64 j) ∧ s.env 8 = .v (.int .i64 (xs[i] / 256 ^ j)) ∧ s.env 6 = .ref [14] ∧ s.σ [14] = some (.row 5 1 (bytesA (packI (xs.take i) 1 ++ leB j xs[i])))) ⟨by simp -dsimp -implicitDefEqProofs only [go_sem, Nat.reduceBEq, Nat.reduceAdd, Nat.reduceLeDiff, Nat.reduceSub, Int.reduceEq, h15, h1, h16, h17, h6, hs], by simp -dsimp -implicitDefEqProofs only [go_sem, Nat.reduceBEq, Nat.reduceAdd, Nat.reduceLeDiff, Nat.reduceSub, Int.reduceEq, h15, h1, h16, h17, h6, hs], by simp -dsimp -implicitDefEqProofs only [go_sem, Nat.reduceBEq, Nat.reduceAdd, Nat.reduceLeDiff, Nat.reduceSub, Int.reduceEq, h15, h1, h16, h17, h6, hs], by simp -dsimp -implicitDefEqProofs only [go_sem, Nat.reduceBEq, Nat.reduceAdd, Nat.reduceLeDiff, Nat.reduceSub, Int.reduceEq, h15, h1, h16, h17, h6, hs], by simp -dsimp -implicitDefEqProofs only [go_sem, Nat.reduceBEq, Nat.reduceAdd, Nat.reduceLeDiff, Nat.reduceSub, Int.reduceEq, h15, h1, h16, h17, h6, hs], by simp -dsimp -implicitDefEqProofs only [go_sem, Nat.reduceBEq, Nat.reduceAdd, Nat.reduceLeDiff, Nat.reduceSub, Int.reduceEq, h15, h1, h16, h17, h6, hs] <;> simp, by simp -dsimp -implicitDefEqProofs only [go_sem, Nat.reduceBEq, Nat.reduceAdd, Nat.reduceLeDiff, Nat.reduceSub, Int.reduceEq, h15, h1, h16, h17, h6, hs] <;> simp, by simp -dsimp -implicitDefEqProofs only [go_sem, Nat.reduceBEq, Nat.reduceAdd, Nat.reduceLeDiff, Nat.reduceSub, Int.reduceEq, h15, h1, h16, h17, h6, hs], by simp -dsimp -implicitDefEqProofs only [go_sem, Nat.reduceBEq, Nat.reduceAdd, Nat.reduceLeDiff, Nat.reduceSub, Int.reduceEq, h15, h1, h16, h17, h6, hs] <;> simp [leB]⟩ ?_
    rintro j ⟨e, σ⟩ hj ⟨h15, h1, h16, h17, ha, hb, h8, h6, hs⟩ K' hK'
    simp only at h15 h1 h16 h17 ha hb h8 h6 hs
    simp -dsimp -implicitDefEqProofs only [go_sem, Nat.reduceBEq, Nat.reduceAdd, Nat.reduceLeDiff, Nat.reduceSub, Int.reduceEq, h15, h1, h16, h17, ha, hb, h8, h6, hs]
    refine ifB'.of (fun hjt => ?_) (fun hjt => ?_)
    · have hjt : j < 1 := by omega
      simp -dsimp -implicitDefEqProofs only [go_sem, Nat.reduceBEq, Nat.reduceAdd, Nat.reduceLeDiff, Nat.reduceSub, Int.reduceEq, h15, h1, h16, h17, ha, hb, h8, h6, hs, u8_byte xs[i] (show j < 8 by omega), List.length_append, packI_length, leB_length, List.length_take, Nat.min_eq_left hi]
      repeat with_reducible refine ask.of (by omega) ?_
      refine hK' _ hjt ?_
      simp -dsimp -implicitDefEqProofs only [go_sem, Nat.reduceBEq, Nat.reduceAdd, Nat.reduceLeDiff, Nat.reduceSub, Int.reduceEq, h15, h1, h16, h17, ha, hb, h8, h6, hs, wrap_succ (show j < 4611686018427387904 by omega), shr_byte, List.append_assoc, leB_succ]
    · obtain rfl : j = 1 := by omega
      simp -dsimp -implicitDefEqProofs only [go_sem, Nat.reduceBEq, Nat.reduceAdd, Nat.reduceLeDiff, Nat.reduceSub, Int.reduceEq, h15, h1, h16, h17, ha, hb, h8, h6, hs]
      refine hK _ hlt ?_
      simp -dsimp -implicitDefEqProofs only [go_sem, Nat.reduceBEq, Nat.reduceAdd, Nat.reduceLeDiff, Nat.reduceSub, Int.reduceEq, h15, h1, h16, h17, ha, hb, h8, h6, hs, wrap_succ (show i < 4611686018427387904 by omega), packI_succ 1 hlt, all_succ 1 hlt hz hf]
  · obtain rfl : i = xs.length := by omega
    rw [List.take_length] at hz hs
    rw [if_pos hz] at fin
    simp -dsimp -implicitDefEqProofs only [go_sem, Nat.reduceBEq, Nat.reduceAdd, Nat.reduceLeDiff, Nat.reduceSub, Int.reduceEq, h15, h1, h16, h17, h6, hs, fin]
theorem c_packed_i16 (xs : List Int) (hx : xs.length ≤ 1048576) (hr : ∀ x ∈ xs, -9223372036854775808 ≤ x ∧ x ≤ 9223372036854775807) : Meets Try.prog 80 [rowI xs, .v (.int .i64 2)] (fun r => r = .tup [rowB (packIC xs 2).1, .v (.int .i64 (packIC xs 2).2)]) := by
  have hw : isW 2 = true := rfl
  have fin := packIC.eq_1 xs 2
  rw [if_pos hw, show (2 : Int).toNat = 2 from rfl] at fin
  have em : IntKind.i64.wrap ((xs.length : Int) * 2) = ((2 * xs.length : Nat) : Int) := by rw [wrap_i64_of (by omega) (by omega)]; omega
  refine Meets.intro mixed (hint []) Try.func80 rfl (by decide) res_80 rty_80 (by kernel_rfl) ?_; 
  simp -dsimp -implicitDefEqProofs only [go_sem, Nat.reduceBEq, Nat.reduceAdd, Nat.reduceLeDiff, Nat.reduceSub, Int.reduceEq, em]
  repeat with_reducible refine ask.of (by omega) ?_
  refine LoopE.cnt xs.length (fun i s => s.env 15 = .rd .ent 3 1 (ra intC xs) ∧ s.env 1 = .v (.int .i64 2) ∧ s.env 16 = .v (.int .i64 xs.length) ∧ s.env 17 = .v (.int .i64 i) ∧ s.env 6 = .ref [14] ∧ s.σ [14] = some (.row 5 1 (bytesA (packI (xs.take i) 2))) ∧ (xs.take i).all (fitsB 2) = true) ⟨by simp -dsimp -implicitDefEqProofs only [go_sem, Nat.reduceBEq, Nat.reduceAdd, Nat.reduceLeDiff, Nat.reduceSub, Int.reduceEq, initE], by simp -dsimp -implicitDefEqProofs only [go_sem, Nat.reduceBEq, Nat.reduceAdd, Nat.reduceLeDiff, Nat.reduceSub, Int.reduceEq, initE], by simp -dsimp -implicitDefEqProofs only [go_sem, Nat.reduceBEq, Nat.reduceAdd, Nat.reduceLeDiff, Nat.reduceSub, Int.reduceEq], by simp -dsimp -implicitDefEqProofs only [go_sem, Nat.reduceBEq, Nat.reduceAdd, Nat.reduceLeDiff, Nat.reduceSub, Int.reduceEq] <;> simp, by simp -dsimp -implicitDefEqProofs only [go_sem, Nat.reduceBEq, Nat.reduceAdd, Nat.reduceLeDiff, Nat.reduceSub, Int.reduceEq], by simp -dsimp -implicitDefEqProofs only [go_sem, Nat.reduceBEq, Nat.reduceAdd, Nat.reduceLeDiff, Nat.reduceSub, Int.reduceEq]; rfl, by simp⟩ ?_
  rintro i ⟨e, σ⟩ hi ⟨h15, h1, h16, h17, h6, hs, hz⟩ K hK
  simp only at h15 h1 h16 h17 h6 hs
  simp -dsimp -implicitDefEqProofs only [go_sem, Nat.reduceBEq, Nat.reduceAdd, Nat.reduceLeDiff, Nat.reduceSub, Int.reduceEq, h15, h1, h16, h17, h6, hs]
  refine ifB'.of (fun hlt => ?_) (fun hlt => ?_)
  · have hlt : i < xs.length := by omega
    have hv := hr xs[i] (List.getElem_mem hlt)
    have hd : decide (IntKind.i64.wrap (IntKind.i16.wrap xs[i]) = xs[i]) = fitsB 2 xs[i] := back_i16 hv
    simp -dsimp -implicitDefEqProofs only [go_sem, Nat.reduceBEq, Nat.reduceAdd, Nat.reduceLeDiff, Nat.reduceSub, Int.reduceEq, h15, h1, h16, h17, h6, hs, intA_at hlt, hd]
    repeat with_reducible refine ask.of (by omega) ?_
    cases hf : fitsB 2 xs[i]
    · simp -dsimp -implicitDefEqProofs only [go_sem, Nat.reduceBEq, Nat.reduceAdd, Nat.reduceLeDiff, Nat.reduceSub, Int.reduceEq, h15, h1, h16, h17, h6, hs, hf]
      rw [fin, all_not 2 hlt hf]; rfl
    simp -dsimp -implicitDefEqProofs only [go_sem, Nat.reduceBEq, Nat.reduceAdd, Nat.reduceLeDiff, Nat.reduceSub, Int.reduceEq, h15, h1, h16, h17, h6, hs, hf]
    refine LoopE.cnt 2 (fun j s => s.env 15 = .rd .ent 3 1 (ra intC xs) ∧ s.env 1 = .v (.int .i64 2) ∧ s.env 16 = .v (.int .i64 xs.length) ∧ s.env 17 = .v (.int .i64 i) ∧ s.env 27 = .v (.int .i64 2) ∧ s.env 28 = .v (.int .i64 j) ∧ s.env 8 = .v (.int .i64 (xs[i] / 256 ^ j)) ∧ s.env 6 = .ref [14] ∧ s.σ [14] = some (.row 5 1 (bytesA (packI (xs.take i) 2 ++ leB j xs[i])))) ⟨by simp -dsimp -implicitDefEqProofs only [go_sem, Nat.reduceBEq, Nat.reduceAdd, Nat.reduceLeDiff, Nat.reduceSub, Int.reduceEq, h15, h1, h16, h17, h6, hs], by simp -dsimp -implicitDefEqProofs only [go_sem, Nat.reduceBEq, Nat.reduceAdd, Nat.reduceLeDiff, Nat.reduceSub, Int.reduceEq, h15, h1, h16, h17, h6, hs], by simp -dsimp -implicitDefEqProofs only [go_sem, Nat.reduceBEq, Nat.reduceAdd, Nat.reduceLeDiff, Nat.reduceSub, Int.reduceEq, h15, h1, h16, h17, h6, hs], by simp -dsimp -implicitDefEqProofs only [go_sem, Nat.reduceBEq, Nat.reduceAdd, Nat.reduceLeDiff, Nat.reduceSub, Int.reduceEq, h15, h1, h16, h17, h6, hs], by simp -dsimp -implicitDefEqProofs only [go_sem, Nat.reduceBEq, Nat.reduceAdd, Nat.reduceLeDiff, Nat.reduceSub, Int.reduceEq, h15, h1, h16, h17, h6, hs], by simp -dsimp -implicitDefEqProofs only [go_sem, Nat.reduceBEq, Nat.reduceAdd, Nat.reduceLeDiff, Nat.reduceSub, Int.reduceEq, h15, h1, h16, h17, h6, hs] <;> simp, by simp -dsimp -implicitDefEqProofs only [go_sem, Nat.reduceBEq, Nat.reduceAdd, Nat.reduceLeDiff, Nat.reduceSub, Int.reduceEq, h15, h1, h16, h17, h6, hs] <;> simp, by simp -dsimp -implicitDefEqProofs only [go_sem, Nat.reduceBEq, Nat.reduceAdd, Nat.reduceLeDiff, Nat.reduceSub, Int.reduceEq, h15, h1, h16, h17, h6, hs], by simp -dsimp -implicitDefEqProofs only [go_sem, Nat.reduceBEq, Nat.reduceAdd, Nat.reduceLeDiff, Nat.reduceSub, Int.reduceEq, h15, h1, h16, h17, h6, hs] <;> simp [leB]⟩ ?_
    rintro j ⟨e, σ⟩ hj ⟨h15, h1, h16, h17, ha, hb, h8, h6, hs⟩ K' hK'
    simp only at h15 h1 h16 h17 ha hb h8 h6 hs
    simp -dsimp -implicitDefEqProofs only [go_sem, Nat.reduceBEq, Nat.reduceAdd, Nat.reduceLeDiff, Nat.reduceSub, Int.reduceEq, h15, h1, h16, h17, ha, hb, h8, h6, hs]
    refine ifB'.of (fun hjt => ?_) (fun hjt => ?_)
    · have hjt : j < 2 := by omega
      simp -dsimp -implicitDefEqProofs only [go_sem, Nat.reduceBEq, Nat.reduceAdd, Nat.reduceLeDiff, Nat.reduceSub, Int.reduceEq, h15, h1, h16, h17, ha, hb, h8, h6, hs, u8_byte xs[i] (show j < 8 by omega), List.length_append, packI_length, leB_length, List.length_take, Nat.min_eq_left hi]
      repeat with_reducible refine ask.of (by omega) ?_
      refine hK' _ hjt ?_
      simp -dsimp -implicitDefEqProofs only [go_sem, Nat.reduceBEq, Nat.reduceAdd, Nat.reduceLeDiff, Nat.reduceSub, Int.reduceEq, h15, h1, h16, h17, ha, hb, h8, h6, hs, wrap_succ (show j < 4611686018427387904 by omega), shr_byte, List.append_assoc, leB_succ]
    · obtain rfl : j = 2 := by omega
      simp -dsimp -implicitDefEqProofs only [go_sem, Nat.reduceBEq, Nat.reduceAdd, Nat.reduceLeDiff, Nat.reduceSub, Int.reduceEq, h15, h1, h16, h17, ha, hb, h8, h6, hs]
      refine hK _ hlt ?_
      simp -dsimp -implicitDefEqProofs only [go_sem, Nat.reduceBEq, Nat.reduceAdd, Nat.reduceLeDiff, Nat.reduceSub, Int.reduceEq, h15, h1, h16, h17, ha, hb, h8, h6, hs, wrap_succ (show i < 4611686018427387904 by omega), packI_succ 2 hlt, all_succ 2 hlt hz hf]
  · obtain rfl : i = xs.length := by omega
    rw [List.take_length] at hz hs
    rw [if_pos hz] at fin
    simp -dsimp -implicitDefEqProofs only [go_sem, Nat.reduceBEq, Nat.reduceAdd, Nat.reduceLeDiff, Nat.reduceSub, Int.reduceEq, h15, h1, h16, h17, h6, hs, fin]
theorem c_packed_i32 (xs : List Int) (hx : xs.length ≤ 1048576) (hr : ∀ x ∈ xs, -9223372036854775808 ≤ x ∧ x ≤ 9223372036854775807) : Meets Try.prog 81 [rowI xs, .v (.int .i64 4)] (fun r => r = .tup [rowB (packIC xs 4).1, .v (.int .i64 (packIC xs 4).2)]) := by
  have hw : isW 4 = true := rfl
  have fin := packIC.eq_1 xs 4
  rw [if_pos hw, show (4 : Int).toNat = 4 from rfl] at fin
  have em : IntKind.i64.wrap ((xs.length : Int) * 4) = ((4 * xs.length : Nat) : Int) := by rw [wrap_i64_of (by omega) (by omega)]; omega
  refine Meets.intro mixed (hint []) Try.func81 rfl (by decide) res_81 rty_81 (by kernel_rfl) ?_; 
  simp -dsimp -implicitDefEqProofs only [go_sem, Nat.reduceBEq, Nat.reduceAdd, Nat.reduceLeDiff, Nat.reduceSub, Int.reduceEq, em]
  repeat with_reducible refine ask.of (by omega) ?_
  refine LoopE.cnt xs.length (fun i s => s.env 15 = .rd .ent 3 1 (ra intC xs) ∧ s.env 1 = .v (.int .i64 4) ∧ s.env 16 = .v (.int .i64 xs.length) ∧ s.env 17 = .v (.int .i64 i) ∧ s.env 6 = .ref [14] ∧ s.σ [14] = some (.row 5 1 (bytesA (packI (xs.take i) 4))) ∧ (xs.take i).all (fitsB 4) = true) ⟨by simp -dsimp -implicitDefEqProofs only [go_sem, Nat.reduceBEq, Nat.reduceAdd, Nat.reduceLeDiff, Nat.reduceSub, Int.reduceEq, initE], by simp -dsimp -implicitDefEqProofs only [go_sem, Nat.reduceBEq, Nat.reduceAdd, Nat.reduceLeDiff, Nat.reduceSub, Int.reduceEq, initE], by simp -dsimp -implicitDefEqProofs only [go_sem, Nat.reduceBEq, Nat.reduceAdd, Nat.reduceLeDiff, Nat.reduceSub, Int.reduceEq], by simp -dsimp -implicitDefEqProofs only [go_sem, Nat.reduceBEq, Nat.reduceAdd, Nat.reduceLeDiff, Nat.reduceSub, Int.reduceEq] <;> simp, by simp -dsimp -implicitDefEqProofs only [go_sem, Nat.reduceBEq, Nat.reduceAdd, Nat.reduceLeDiff, Nat.reduceSub, Int.reduceEq], by simp -dsimp -implicitDefEqProofs only [go_sem, Nat.reduceBEq, Nat.reduceAdd, Nat.reduceLeDiff, Nat.reduceSub, Int.reduceEq]; rfl, by simp⟩ ?_
  rintro i ⟨e, σ⟩ hi ⟨h15, h1, h16, h17, h6, hs, hz⟩ K hK
  simp only at h15 h1 h16 h17 h6 hs
  simp -dsimp -implicitDefEqProofs only [go_sem, Nat.reduceBEq, Nat.reduceAdd, Nat.reduceLeDiff, Nat.reduceSub, Int.reduceEq, h15, h1, h16, h17, h6, hs]
  refine ifB'.of (fun hlt => ?_) (fun hlt => ?_)
  · have hlt : i < xs.length := by omega
    have hv := hr xs[i] (List.getElem_mem hlt)
    have hd : decide (IntKind.i64.wrap (IntKind.i32.wrap xs[i]) = xs[i]) = fitsB 4 xs[i] := back_i32 hv
    simp -dsimp -implicitDefEqProofs only [go_sem, Nat.reduceBEq, Nat.reduceAdd, Nat.reduceLeDiff, Nat.reduceSub, Int.reduceEq, h15, h1, h16, h17, h6, hs, intA_at hlt, hd]
    repeat with_reducible refine ask.of (by omega) ?_
    cases hf : fitsB 4 xs[i]
    · simp -dsimp -implicitDefEqProofs only [go_sem, Nat.reduceBEq, Nat.reduceAdd, Nat.reduceLeDiff, Nat.reduceSub, Int.reduceEq, h15, h1, h16, h17, h6, hs, hf]
      rw [fin, all_not 4 hlt hf]; rfl
    simp -dsimp -implicitDefEqProofs only [go_sem, Nat.reduceBEq, Nat.reduceAdd, Nat.reduceLeDiff, Nat.reduceSub, Int.reduceEq, h15, h1, h16, h17, h6, hs, hf]
    refine LoopE.cnt 4 (fun j s => s.env 15 = .rd .ent 3 1 (ra intC xs) ∧ s.env 1 = .v (.int .i64 4) ∧ s.env 16 = .v (.int .i64 xs.length) ∧ s.env 17 = .v (.int .i64 i) ∧ s.env 27 = .v (.int .i64 4) ∧ s.env 28 = .v (.int .i64 j) ∧ s.env 8 = .v (.int .i64 (xs[i] / 256 ^ j)) ∧ s.env 6 = .ref [14] ∧ s.σ [14] = some (.row 5 1 (bytesA (packI (xs.take i) 4 ++ leB j xs[i])))) ⟨by simp -dsimp -implicitDefEqProofs only [go_sem, Nat.reduceBEq, Nat.reduceAdd, Nat.reduceLeDiff, Nat.reduceSub, Int.reduceEq, h15, h1, h16, h17, h6, hs], by simp -dsimp -implicitDefEqProofs only [go_sem, Nat.reduceBEq, Nat.reduceAdd, Nat.reduceLeDiff, Nat.reduceSub, Int.reduceEq, h15, h1, h16, h17, h6, hs], by simp -dsimp -implicitDefEqProofs only [go_sem, Nat.reduceBEq, Nat.reduceAdd, Nat.reduceLeDiff, Nat.reduceSub, Int.reduceEq, h15, h1, h16, h17, h6, hs], by simp -dsimp -implicitDefEqProofs only [go_sem, Nat.reduceBEq, Nat.reduceAdd, Nat.reduceLeDiff, Nat.reduceSub, Int.reduceEq, h15, h1, h16, h17, h6, hs], by simp -dsimp -implicitDefEqProofs only [go_sem, Nat.reduceBEq, Nat.reduceAdd, Nat.reduceLeDiff, Nat.reduceSub, Int.reduceEq, h15, h1, h16, h17, h6, hs], by simp -dsimp -implicitDefEqProofs only [go_sem, Nat.reduceBEq, Nat.reduceAdd, Nat.reduceLeDiff, Nat.reduceSub, Int.reduceEq, h15, h1, h16, h17, h6, hs] <;> simp, by simp -dsimp -implicitDefEqProofs only [go_sem, Nat.reduceBEq, Nat.reduceAdd, Nat.reduceLeDiff, Nat.reduceSub, Int.reduceEq, h15, h1, h16, h17, h6, hs] <;> simp, by simp -dsimp -implicitDefEqProofs only [go_sem, Nat.reduceBEq, Nat.reduceAdd, Nat.reduceLeDiff, Nat.reduceSub, Int.reduceEq, h15, h1, h16, h17, h6, hs], by simp -dsimp -implicitDefEqProofs only [go_sem, Nat.reduceBEq, Nat.reduceAdd, Nat.reduceLeDiff, Nat.reduceSub, Int.reduceEq, h15, h1, h16, h17, h6, hs] <;> simp [leB]⟩ ?_
    rintro j ⟨e, σ⟩ hj ⟨h15, h1, h16, h17, ha, hb, h8, h6, hs⟩ K' hK'
    simp only at h15 h1 h16 h17 ha hb h8 h6 hs
    simp -dsimp -implicitDefEqProofs only [go_sem, Nat.reduceBEq, Nat.reduceAdd, Nat.reduceLeDiff, Nat.reduceSub, Int.reduceEq, h15, h1, h16, h17, ha, hb, h8, h6, hs]
    refine ifB'.of (fun hjt => ?_) (fun hjt => ?_)
    · have hjt : j < 4 := by omega
      simp -dsimp -implicitDefEqProofs only [go_sem, Nat.reduceBEq, Nat.reduceAdd, Nat.reduceLeDiff, Nat.reduceSub, Int.reduceEq, h15, h1, h16, h17, ha, hb, h8, h6, hs, u8_byte xs[i] (show j < 8 by omega), List.length_append, packI_length, leB_length, List.length_take, Nat.min_eq_left hi]
      repeat with_reducible refine ask.of (by omega) ?_
      refine hK' _ hjt ?_
      simp -dsimp -implicitDefEqProofs only [go_sem, Nat.reduceBEq, Nat.reduceAdd, Nat.reduceLeDiff, Nat.reduceSub, Int.reduceEq, h15, h1, h16, h17, ha, hb, h8, h6, hs, wrap_succ (show j < 4611686018427387904 by omega), shr_byte, List.append_assoc, leB_succ]
    · obtain rfl : j = 4 := by omega
      simp -dsimp -implicitDefEqProofs only [go_sem, Nat.reduceBEq, Nat.reduceAdd, Nat.reduceLeDiff, Nat.reduceSub, Int.reduceEq, h15, h1, h16, h17, ha, hb, h8, h6, hs]
      refine hK _ hlt ?_
      simp -dsimp -implicitDefEqProofs only [go_sem, Nat.reduceBEq, Nat.reduceAdd, Nat.reduceLeDiff, Nat.reduceSub, Int.reduceEq, h15, h1, h16, h17, ha, hb, h8, h6, hs, wrap_succ (show i < 4611686018427387904 by omega), packI_succ 4 hlt, all_succ 4 hlt hz hf]
  · obtain rfl : i = xs.length := by omega
    rw [List.take_length] at hz hs
    rw [if_pos hz] at fin
    simp -dsimp -implicitDefEqProofs only [go_sem, Nat.reduceBEq, Nat.reduceAdd, Nat.reduceLeDiff, Nat.reduceSub, Int.reduceEq, h15, h1, h16, h17, h6, hs, fin]
theorem c_packed_i64 (xs : List Int) (hx : xs.length ≤ 1048576) (hr : ∀ x ∈ xs, -9223372036854775808 ≤ x ∧ x ≤ 9223372036854775807) : Meets Try.prog 82 [rowI xs, .v (.int .i64 8)] (fun r => r = .tup [rowB (packIC xs 8).1, .v (.int .i64 (packIC xs 8).2)]) := by
  have hw : isW 8 = true := rfl
  have fin := packIC.eq_1 xs 8
  rw [if_pos hw, show (8 : Int).toNat = 8 from rfl] at fin
  have em : IntKind.i64.wrap ((xs.length : Int) * 8) = ((8 * xs.length : Nat) : Int) := by rw [wrap_i64_of (by omega) (by omega)]; omega
  refine Meets.intro mixed (hint []) Try.func82 rfl (by decide) res_82 rty_82 (by kernel_rfl) ?_; 
  simp -dsimp -implicitDefEqProofs only [go_sem, Nat.reduceBEq, Nat.reduceAdd, Nat.reduceLeDiff, Nat.reduceSub, Int.reduceEq, em]
  repeat with_reducible refine ask.of (by omega) ?_
  refine LoopE.cnt xs.length (fun i s => s.env 15 = .rd .ent 3 1 (ra intC xs) ∧ s.env 1 = .v (.int .i64 8) ∧ s.env 16 = .v (.int .i64 xs.length) ∧ s.env 17 = .v (.int .i64 i) ∧ s.env 6 = .ref [14] ∧ s.σ [14] = some (.row 5 1 (bytesA (packI (xs.take i) 8))) ∧ (xs.take i).all (fitsB 8) = true) ⟨by simp -dsimp -implicitDefEqProofs only [go_sem, Nat.reduceBEq, Nat.reduceAdd, Nat.reduceLeDiff, Nat.reduceSub, Int.reduceEq, initE], by simp -dsimp -implicitDefEqProofs only [go_sem, Nat.reduceBEq, Nat.reduceAdd, Nat.reduceLeDiff, Nat.reduceSub, Int.reduceEq, initE], by simp -dsimp -implicitDefEqProofs only [go_sem, Nat.reduceBEq, Nat.reduceAdd, Nat.reduceLeDiff, Nat.reduceSub, Int.reduceEq], by simp -dsimp -implicitDefEqProofs only [go_sem, Nat.reduceBEq, Nat.reduceAdd, Nat.reduceLeDiff, Nat.reduceSub, Int.reduceEq] <;> simp, by simp -dsimp -implicitDefEqProofs only [go_sem, Nat.reduceBEq, Nat.reduceAdd, Nat.reduceLeDiff, Nat.reduceSub, Int.reduceEq], by simp -dsimp -implicitDefEqProofs only [go_sem, Nat.reduceBEq, Nat.reduceAdd, Nat.reduceLeDiff, Nat.reduceSub, Int.reduceEq]; rfl, by simp⟩ ?_
  rintro i ⟨e, σ⟩ hi ⟨h15, h1, h16, h17, h6, hs, hz⟩ K hK
  simp only at h15 h1 h16 h17 h6 hs
  simp -dsimp -implicitDefEqProofs only [go_sem, Nat.reduceBEq, Nat.reduceAdd, Nat.reduceLeDiff, Nat.reduceSub, Int.reduceEq, h15, h1, h16, h17, h6, hs]
  refine ifB'.of (fun hlt => ?_) (fun hlt => ?_)
  · have hlt : i < xs.length := by omega
    have hv := hr xs[i] (List.getElem_mem hlt)
    have hd : decide (True) = fitsB 8 xs[i] := show decide True = fitsB 8 xs[i] from rfl
    simp -dsimp -implicitDefEqProofs only [go_sem, Nat.reduceBEq, Nat.reduceAdd, Nat.reduceLeDiff, Nat.reduceSub, Int.reduceEq, h15, h1, h16, h17, h6, hs, intA_at hlt, hd]
    repeat with_reducible refine ask.of (by omega) ?_
    cases hf : fitsB 8 xs[i]
    · simp -dsimp -implicitDefEqProofs only [go_sem, Nat.reduceBEq, Nat.reduceAdd, Nat.reduceLeDiff, Nat.reduceSub, Int.reduceEq, h15, h1, h16, h17, h6, hs, hf]
      rw [fin, all_not 8 hlt hf]; rfl
    simp -dsimp -implicitDefEqProofs only [go_sem, Nat.reduceBEq, Nat.reduceAdd, Nat.reduceLeDiff, Nat.reduceSub, Int.reduceEq, h15, h1, h16, h17, h6, hs, hf]
    refine LoopE.cnt 8 (fun j s => s.env 15 = .rd .ent 3 1 (ra intC xs) ∧ s.env 1 = .v (.int .i64 8) ∧ s.env 16 = .v (.int .i64 xs.length) ∧ s.env 17 = .v (.int .i64 i) ∧ s.env 25 = .v (.int .i64 8) ∧ s.env 26 = .v (.int .i64 j) ∧ s.env 8 = .v (.int .i64 (xs[i] / 256 ^ j)) ∧ s.env 6 = .ref [14] ∧ s.σ [14] = some (.row 5 1 (bytesA (packI (xs.take i) 8 ++ leB j xs[i])))) ⟨by simp -dsimp -implicitDefEqProofs only [go_sem, Nat.reduceBEq, Nat.reduceAdd, Nat.reduceLeDiff, Nat.reduceSub, Int.reduceEq, h15, h1, h16, h17, h6, hs], by simp -dsimp -implicitDefEqProofs only [go_sem, Nat.reduceBEq, Nat.reduceAdd, Nat.reduceLeDiff, Nat.reduceSub, Int.reduceEq, h15, h1, h16, h17, h6, hs], by simp -dsimp -implicitDefEqProofs only [go_sem, Nat.reduceBEq, Nat.reduceAdd, Nat.reduceLeDiff, Nat.reduceSub, Int.reduceEq, h15, h1, h16, h17, h6, hs], by simp -dsimp -implicitDefEqProofs only [go_sem, Nat.reduceBEq, Nat.reduceAdd, Nat.reduceLeDiff, Nat.reduceSub, Int.reduceEq, h15, h1, h16, h17, h6, hs], by simp -dsimp -implicitDefEqProofs only [go_sem, Nat.reduceBEq, Nat.reduceAdd, Nat.reduceLeDiff, Nat.reduceSub, Int.reduceEq, h15, h1, h16, h17, h6, hs], by simp -dsimp -implicitDefEqProofs only [go_sem, Nat.reduceBEq, Nat.reduceAdd, Nat.reduceLeDiff, Nat.reduceSub, Int.reduceEq, h15, h1, h16, h17, h6, hs] <;> simp, by simp -dsimp -implicitDefEqProofs only [go_sem, Nat.reduceBEq, Nat.reduceAdd, Nat.reduceLeDiff, Nat.reduceSub, Int.reduceEq, h15, h1, h16, h17, h6, hs] <;> simp, by simp -dsimp -implicitDefEqProofs only [go_sem, Nat.reduceBEq, Nat.reduceAdd, Nat.reduceLeDiff, Nat.reduceSub, Int.reduceEq, h15, h1, h16, h17, h6, hs], by simp -dsimp -implicitDefEqProofs only [go_sem, Nat.reduceBEq, Nat.reduceAdd, Nat.reduceLeDiff, Nat.reduceSub, Int.reduceEq, h15, h1, h16, h17, h6, hs] <;> simp [leB]⟩ ?_
    rintro j ⟨e, σ⟩ hj ⟨h15, h1, h16, h17, ha, hb, h8, h6, hs⟩ K' hK'
    simp only at h15 h1 h16 h17 ha hb h8 h6 hs
    simp -dsimp -implicitDefEqProofs only [go_sem, Nat.reduceBEq, Nat.reduceAdd, Nat.reduceLeDiff, Nat.reduceSub, Int.reduceEq, h15, h1, h16, h17, ha, hb, h8, h6, hs]
    refine ifB'.of (fun hjt => ?_) (fun hjt => ?_)
    · have hjt : j < 8 := by omega
      simp -dsimp -implicitDefEqProofs only [go_sem, Nat.reduceBEq, Nat.reduceAdd, Nat.reduceLeDiff, Nat.reduceSub, Int.reduceEq, h15, h1, h16, h17, ha, hb, h8, h6, hs, u8_byte xs[i] (show j < 8 by omega), List.length_append, packI_length, leB_length, List.length_take, Nat.min_eq_left hi]
      repeat with_reducible refine ask.of (by omega) ?_
      refine hK' _ hjt ?_
      simp -dsimp -implicitDefEqProofs only [go_sem, Nat.reduceBEq, Nat.reduceAdd, Nat.reduceLeDiff, Nat.reduceSub, Int.reduceEq, h15, h1, h16, h17, ha, hb, h8, h6, hs, wrap_succ (show j < 4611686018427387904 by omega), shr_byte, List.append_assoc, leB_succ]
    · obtain rfl : j = 8 := by omega
      simp -dsimp -implicitDefEqProofs only [go_sem, Nat.reduceBEq, Nat.reduceAdd, Nat.reduceLeDiff, Nat.reduceSub, Int.reduceEq, h15, h1, h16, h17, ha, hb, h8, h6, hs]
      refine hK _ hlt ?_
      simp -dsimp -implicitDefEqProofs only [go_sem, Nat.reduceBEq, Nat.reduceAdd, Nat.reduceLeDiff, Nat.reduceSub, Int.reduceEq, h15, h1, h16, h17, ha, hb, h8, h6, hs, wrap_succ (show i < 4611686018427387904 by omega), packI_succ 8 hlt, all_succ 8 hlt hz hf]
  · obtain rfl : i = xs.length := by omega
    rw [List.take_length] at hz hs
    rw [if_pos hz] at fin
    simp -dsimp -implicitDefEqProofs only [go_sem, Nat.reduceBEq, Nat.reduceAdd, Nat.reduceLeDiff, Nat.reduceSub, Int.reduceEq, h15, h1, h16, h17, h6, hs, fin]
theorem c_implPackInts (xs : List Int) (n : Int) (hx : xs.length ≤ 1048576) (hr : ∀ x ∈ xs, -9223372036854775808 ≤ x ∧ x ≤ 9223372036854775807) : Meets Try.prog 64 [rowI xs, .v (.int .i64 n)] (fun r => r = .tup [rowB (packIC xs n).1, .v (.int .i64 (packIC xs n).2)]) := by
  refine Meets.intro mixed (hint []) Try.func64 rfl (by decide) res_64 rty_64 (by kernel_rfl) ?_; 
  simp -dsimp -implicitDefEqProofs only [go_sem, Nat.reduceBEq, Nat.reduceAdd, Nat.reduceLeDiff, Nat.reduceSub, Int.reduceEq]
  refine ifB'.of (fun h1 => ?_) (fun h1 => ?_)
  · subst h1
    simp -dsimp -implicitDefEqProofs only [go_sem, Nat.reduceBEq, Nat.reduceAdd, Nat.reduceLeDiff, Nat.reduceSub, Int.reduceEq]
    refine CallE.of (c_packed_i8 xs hx hr) (by rintro r rfl; (repeat' first | exact trivial | exact pure_rowB _ | exact pure_rowO _ | exact pure_rowI _ | exact pure_rowBB _ | exact pure_rowPk _ _ | exact pure_rowSn _ _ | exact pure_rowFd _ _ | exact pure_rowBBB _ | exact pure_rowCl _ _ | exact pure_rowTb _ _ _ | refine And.intro ?_ ?_)) (by simp -dsimp -implicitDefEqProofs only [go_sem, Nat.reduceBEq, Nat.reduceAdd, Nat.reduceLeDiff, Nat.reduceSub, Int.reduceEq]) ?_
    rintro r rfl
    simp -dsimp -implicitDefEqProofs only [go_sem, Nat.reduceBEq, Nat.reduceAdd, Nat.reduceLeDiff, Nat.reduceSub, Int.reduceEq]
  simp -dsimp -implicitDefEqProofs only [go_sem, Nat.reduceBEq, Nat.reduceAdd, Nat.reduceLeDiff, Nat.reduceSub, Int.reduceEq]
  refine ifB'.of (fun h2 => ?_) (fun h2 => ?_)
  · subst h2
    simp -dsimp -implicitDefEqProofs only [go_sem, Nat.reduceBEq, Nat.reduceAdd, Nat.reduceLeDiff, Nat.reduceSub, Int.reduceEq]
    refine CallE.of (c_packed_i16 xs hx hr) (by rintro r rfl; (repeat' first | exact trivial | exact pure_rowB _ | exact pure_rowO _ | exact pure_rowI _ | exact pure_rowBB _ | exact pure_rowPk _ _ | exact pure_rowSn _ _ | exact pure_rowFd _ _ | exact pure_rowBBB _ | exact pure_rowCl _ _ | exact pure_rowTb _ _ _ | refine And.intro ?_ ?_)) (by simp -dsimp -implicitDefEqProofs only [go_sem, Nat.reduceBEq, Nat.reduceAdd, Nat.reduceLeDiff, Nat.reduceSub, Int.reduceEq]) ?_
    rintro r rfl
    simp -dsimp -implicitDefEqProofs only [go_sem, Nat.reduceBEq, Nat.reduceAdd, Nat.reduceLeDiff, Nat.reduceSub, Int.reduceEq]
  simp -dsimp -implicitDefEqProofs only [go_sem, Nat.reduceBEq, Nat.reduceAdd, Nat.reduceLeDiff, Nat.reduceSub, Int.reduceEq]
  refine ifB'.of (fun h4 => ?_) (fun h4 => ?_)
  · subst h4
    simp -dsimp -implicitDefEqProofs only [go_sem, Nat.reduceBEq, Nat.reduceAdd, Nat.reduceLeDiff, Nat.reduceSub, Int.reduceEq]
    refine CallE.of (c_packed_i32 xs hx hr) (by rintro r rfl; (repeat' first | exact trivial | exact pure_rowB _ | exact pure_rowO _ | exact pure_rowI _ | exact pure_rowBB _ | exact pure_rowPk _ _ | exact pure_rowSn _ _ | exact pure_rowFd _ _ | exact pure_rowBBB _ | exact pure_rowCl _ _ | exact pure_rowTb _ _ _ | refine And.intro ?_ ?_)) (by simp -dsimp -implicitDefEqProofs only [go_sem, Nat.reduceBEq, Nat.reduceAdd, Nat.reduceLeDiff, Nat.reduceSub, Int.reduceEq]) ?_
    rintro r rfl
    simp -dsimp -implicitDefEqProofs only [go_sem, Nat.reduceBEq, Nat.reduceAdd, Nat.reduceLeDiff, Nat.reduceSub, Int.reduceEq]
  simp -dsimp -implicitDefEqProofs only [go_sem, Nat.reduceBEq, Nat.reduceAdd, Nat.reduceLeDiff, Nat.reduceSub, Int.reduceEq]
  refine ifB'.of (fun h8 => ?_) (fun h8 => ?_)
  · subst h8
    simp -dsimp -implicitDefEqProofs only [go_sem, Nat.reduceBEq, Nat.reduceAdd, Nat.reduceLeDiff, Nat.reduceSub, Int.reduceEq]
    refine CallE.of (c_packed_i64 xs hx hr) (by rintro r rfl; (repeat' first | exact trivial | exact pure_rowB _ | exact pure_rowO _ | exact pure_rowI _ | exact pure_rowBB _ | exact pure_rowPk _ _ | exact pure_rowSn _ _ | exact pure_rowFd _ _ | exact pure_rowBBB _ | exact pure_rowCl _ _ | exact pure_rowTb _ _ _ | refine And.intro ?_ ?_)) (by simp -dsimp -implicitDefEqProofs only [go_sem, Nat.reduceBEq, Nat.reduceAdd, Nat.reduceLeDiff, Nat.reduceSub, Int.reduceEq]) ?_
    rintro r rfl
    simp -dsimp -implicitDefEqProofs only [go_sem, Nat.reduceBEq, Nat.reduceAdd, Nat.reduceLeDiff, Nat.reduceSub, Int.reduceEq]
  simp -dsimp -implicitDefEqProofs only [go_sem, Nat.reduceBEq, Nat.reduceAdd, Nat.reduceLeDiff, Nat.reduceSub, Int.reduceEq]
  rw [packIC, if_neg (by simp [isW, h1, h2, h4, h8])]
  rfl
end Go.Ev
set_option linter.unusedSimpArgs false
set_option linter.unusedVariables false
namespace Go.Ev
open Go Go.RowKit Go.Proofs
theorem wrap_8i {i : Nat} (h : i ≤ 8) : IntKind.i64.wrap (8 * (i : Int)) = ((8 * i : Nat) : Int) := by rw [wrap_i64_of (by omega) (by omega)]; omega
theorem shr_8i (x : Int) {i : Nat} (h : i < 8) : x.fdiv (2 ^ min (8 * i) 64) = x / 256 ^ i := by
  rw [Nat.min_eq_left (by omega), show (2 : Int) ^ (8 * i) = 256 ^ i by rw [Int.pow_mul]; rfl, Int.fdiv_eq_ediv_of_nonneg _ (Int.le_of_lt (Int.pow_pos (by decide)))]
theorem c_number (x : Int) (w : Nat) (hw : w ≤ 8) : Meets Try.prog 26 [.v (.int .i64 x), .v (.int .i64 w)] (fun r => r = rowB (leB w x)) := by
  refine Meets.intro mixed (hint []) Try.func26 rfl (by decide) res_26 rty_26 (by kernel_rfl) ?_; 
  simp -dsimp -implicitDefEqProofs only [go_sem, Nat.reduceBEq, Nat.reduceAdd, Nat.reduceLeDiff, Nat.reduceSub, Int.reduceEq]
  refine ask.of (by omega) ?_
  refine LoopE.cnt w (fun i s => s.env 0 = .v (.int .i64 x) ∧ s.env 5 = .ref [8] ∧ s.env 10 = .v (.int .i64 w) ∧ s.env 11 = .v (.int .i64 i) ∧ s.σ [8] = some (.row 5 1 (bytesA (leB i x ++ List.replicate (w - i) 0)))) ⟨by simp -dsimp -implicitDefEqProofs only [go_sem, Nat.reduceBEq, Nat.reduceAdd, Nat.reduceLeDiff, Nat.reduceSub, Int.reduceEq, initE], by simp -dsimp -implicitDefEqProofs only [go_sem, Nat.reduceBEq, Nat.reduceAdd, Nat.reduceLeDiff, Nat.reduceSub, Int.reduceEq], by simp -dsimp -implicitDefEqProofs only [go_sem, Nat.reduceBEq, Nat.reduceAdd, Nat.reduceLeDiff, Nat.reduceSub, Int.reduceEq] <;> simp, by simp -dsimp -implicitDefEqProofs only [go_sem, Nat.reduceBEq, Nat.reduceAdd, Nat.reduceLeDiff, Nat.reduceSub, Int.reduceEq] <;> simp, by simp -dsimp -implicitDefEqProofs only [go_sem, Nat.reduceBEq, Nat.reduceAdd, Nat.reduceLeDiff, Nat.reduceSub, Int.reduceEq] <;> simp [leB]⟩ ?_
  rintro i ⟨e, σ⟩ hi ⟨h0, h5, h10, h11, hs⟩ K hK
  simp only at h0 h5 h10 h11 hs
  simp -dsimp -implicitDefEqProofs only [go_sem, Nat.reduceBEq, Nat.reduceAdd, Nat.reduceLeDiff, Nat.reduceSub, Int.reduceEq, h0, h5, h10, h11, hs]
  refine ifB'.of (fun hlt => ?_) (fun hlt => ?_)
  · have hlt : i < w := by omega
    have hl : (leB i x ++ List.replicate (w - i) 0).length = w := by simp [leB_length]; omega
    simp -dsimp -implicitDefEqProofs only [go_sem, Nat.reduceBEq, Nat.reduceAdd, Nat.reduceLeDiff, Nat.reduceSub, Int.reduceEq, h0, h5, h10, h11, hs, wrap_8i (show i ≤ 8 by omega), shr_8i x (show i < 8 by omega), u8_byte x (show i < 8 by omega), hl]
    repeat (first | with_reducible refine ask.of (by omega) ?_ | simp -dsimp -implicitDefEqProofs only [go_sem, Nat.reduceBEq, Nat.reduceAdd, Nat.reduceLeDiff, Nat.reduceSub, Int.reduceEq, h0, h5, h10, h11, hs, wrap_8i (show i ≤ 8 by omega), shr_8i x (show i < 8 by omega), u8_byte x (show i < 8 by omega), hl, bytesA_at (show i < (leB i x ++ List.replicate (w - i) (0 : UInt8)).length by omega)])
    refine hK _ hlt ?_
    simp -dsimp -implicitDefEqProofs only [go_sem, Nat.reduceBEq, Nat.reduceAdd, Nat.reduceLeDiff, Nat.reduceSub, Int.reduceEq, h0, h5, h10, h11, hs, wrap_succ (show i < 4611686018427387904 by omega)]
    refine congrArg (fun l => some (OB.row 5 1 (bytesA l))) ?_
    have e : w - i = (w - (i + 1)) + 1 := by omega
    rw [e, List.replicate_succ, List.set_append_right _ _ (by rw [leB_length]; exact Nat.le_refl _), leB_length, Nat.sub_self, List.set_cons_zero, ← leB_succ, List.append_assoc]
    rfl
  · have : i = w := by omega
    subst this
    simp -dsimp -implicitDefEqProofs only [go_sem, Nat.reduceBEq, Nat.reduceAdd, Nat.reduceLeDiff, Nat.reduceSub, Int.reduceEq, h0, h5, h10, h11, hs]
    simp
theorem c_growB (n : Nat) (hn : n ≤ 1099511627776) : Meets Try.prog 77 [.v (.slice none 0 0), .v (.int .i64 n)] (fun r => r = rowB []) := by
  refine Meets.intro mixed (hint [(25, 1)]) Try.func77 rfl (by decide) res_77 rty_77 (by kernel_rfl) ?_; 
  simp -dsimp -implicitDefEqProofs only [go_sem, Nat.reduceBEq, Nat.reduceAdd, Nat.reduceLeDiff, Nat.reduceSub, Int.reduceEq, initE]
  with_reducible refine ifB'.no (by omega) ?_
  have e : IntKind.i64.wrap ((n : Int) - IntKind.i64.wrap 0) = n := by rw [show IntKind.i64.wrap 0 = 0 from rfl, wrap_i64_of (by omega) (by omega)]; omega
  simp -dsimp -implicitDefEqProofs only [go_sem, Nat.reduceBEq, Nat.reduceAdd, Nat.reduceLeDiff, Nat.reduceSub, Int.reduceEq, e, show IntKind.i64.wrap (0 - 0) = 0 from rfl, Int.sub_zero, wrap_nat (show n ≤ 9223372036854775807 by omega)]
  refine ifB'.of (fun h => ?_) (fun h => ?_)
  · simp -dsimp -implicitDefEqProofs only [go_sem, Nat.reduceBEq, Nat.reduceAdd, Nat.reduceLeDiff, Nat.reduceSub, Int.reduceEq, e]
    repeat (first | with_reducible refine ask.of (by omega) ?_ | simp -dsimp -implicitDefEqProofs only [go_sem, Nat.reduceBEq, Nat.reduceAdd, Nat.reduceLeDiff, Nat.reduceSub, Int.reduceEq, e, Int.toNat_zero, List.take_zero, List.drop_nil])
  · simp -dsimp -implicitDefEqProofs only [go_sem, Nat.reduceBEq, Nat.reduceAdd, Nat.reduceLeDiff, Nat.reduceSub, Int.reduceEq, e]
    rfl
theorem flat_take {xs : List (List UInt8)} {i : Nat} (h : i < xs.length) : (xs.take i).flatten ++ xs[i] = (xs.take (i + 1)).flatten := by
  rw [List.take_succ_eq_append_getElem h, List.flatten_append, List.flatten_singleton]
theorem flat_len (xs : List (List UInt8)) : xs.flatten.length = wBB xs := by
  induction xs with
  | nil => rfl
  | cons x xs ih => rw [List.flatten_cons, List.length_append, ih]; simp [wBB, szL]
theorem c_concatB (xs : List (List UInt8)) (hx : xs.length + wBB xs ≤ 1099511627776) : Meets Try.prog 59 [rowBB xs] (fun r => r = rowB xs.flatten) := by
  refine Meets.intro mixed (hint []) Try.func59 rfl (by decide) res_59 rty_59 (by kernel_rfl) ?_; 
  simp -dsimp -implicitDefEqProofs only [go_sem, Nat.reduceBEq, Nat.reduceAdd, Nat.reduceLeDiff, Nat.reduceSub, Int.reduceEq]
  refine LoopE.cnt xs.length (fun i s => s.env 0 = .rd .ent 22 1 (ra byC xs) ∧ s.env 3 = .v (.int .i64 (wBB (xs.take i) : Nat)) ∧ s.env 9 = .rd .ent 22 1 (ra byC xs) ∧ s.env 10 = .v (.int .i64 xs.length) ∧ s.env 11 = .v (.int .i64 i)) ⟨by simp -dsimp -implicitDefEqProofs only [go_sem, Nat.reduceBEq, Nat.reduceAdd, Nat.reduceLeDiff, Nat.reduceSub, Int.reduceEq, initE], by simp -dsimp -implicitDefEqProofs only [go_sem, Nat.reduceBEq, Nat.reduceAdd, Nat.reduceLeDiff, Nat.reduceSub, Int.reduceEq] <;> rfl, by simp -dsimp -implicitDefEqProofs only [go_sem, Nat.reduceBEq, Nat.reduceAdd, Nat.reduceLeDiff, Nat.reduceSub, Int.reduceEq, initE], by simp -dsimp -implicitDefEqProofs only [go_sem, Nat.reduceBEq, Nat.reduceAdd, Nat.reduceLeDiff, Nat.reduceSub, Int.reduceEq, initE], by simp -dsimp -implicitDefEqProofs only [go_sem, Nat.reduceBEq, Nat.reduceAdd, Nat.reduceLeDiff, Nat.reduceSub, Int.reduceEq]⟩ ?_
  rintro i ⟨e, σ⟩ hi ⟨h0, h3, h9, h10, h11⟩ K hK
  simp only at h0 h3 h9 h10 h11
  simp -dsimp -implicitDefEqProofs only [go_sem, Nat.reduceBEq, Nat.reduceAdd, Nat.reduceLeDiff, Nat.reduceSub, Int.reduceEq, h0, h3, h9, h10, h11]
  refine ifB'.of (fun hlt => ?_) (fun hlt => ?_)
  · have hlt : i < xs.length := by omega
    have hs : wBB (xs.take (i + 1)) = wBB (xs.take i) + xs[i].length := szL_take_succ List.length hlt
    have hsl : wBB (xs.take (i + 1)) ≤ wBB xs := szL_take_le List.length xs (i + 1)
    have e1 : IntKind.i64.wrap ((wBB (xs.take i) : Int) + xs[i].length) = (wBB (xs.take (i + 1)) : Nat) := by rw [wrap_i64_of (by omega) (by omega), hs]; omega
    simp -dsimp -implicitDefEqProofs only [go_sem, Nat.reduceBEq, Nat.reduceAdd, Nat.reduceLeDiff, Nat.reduceSub, Int.reduceEq, h0, h3, h9, h10, h11, byA_at hlt, e1]
    repeat (first | with_reducible refine ask.of (by omega) ?_ | simp -dsimp -implicitDefEqProofs only [go_sem, Nat.reduceBEq, Nat.reduceAdd, Nat.reduceLeDiff, Nat.reduceSub, Int.reduceEq, h0, h3, h9, h10, h11, byA_at hlt, e1])
    with_reducible refine ifB'.no (by omega) ?_
    simp -dsimp -implicitDefEqProofs only [go_sem, Nat.reduceBEq, Nat.reduceAdd, Nat.reduceLeDiff, Nat.reduceSub, Int.reduceEq, h0, h3, h9, h10, h11]
    refine hK _ hlt ?_
    simp -dsimp -implicitDefEqProofs only [go_sem, Nat.reduceBEq, Nat.reduceAdd, Nat.reduceLeDiff, Nat.reduceSub, Int.reduceEq, h0, h3, h9, h10, h11, wrap_succ (show i < 4611686018427387904 by omega)]
  · have : i = xs.length := by omega
    subst this
    have hw : wBB xs ≤ 1099511627776 := by omega
    rw [List.take_length] at h3
    simp -dsimp -implicitDefEqProofs only [go_sem, Nat.reduceBEq, Nat.reduceAdd, Nat.reduceLeDiff, Nat.reduceSub, Int.reduceEq, h0, h3, h9, h10, h11]
    refine CallE.lend (c_growB (wBB xs) hw) (by simp -dsimp -implicitDefEqProofs only [go_sem, Nat.reduceBEq, Nat.reduceAdd, Nat.reduceLeDiff, Nat.reduceSub, Int.reduceEq, h0, h3, h9, h10, h11]) ?_
    rintro r rfl
    simp -dsimp -implicitDefEqProofs only [go_sem, Nat.reduceBEq, Nat.reduceAdd, Nat.reduceLeDiff, Nat.reduceSub, Int.reduceEq, h0, h3, h9, h10, h11]
    refine LoopE.cnt xs.length (fun i s => s.env 6 = .ref [24] ∧ s.env 25 = .rd .ent 22 1 (ra byC xs) ∧ s.env 26 = .v (.int .i64 xs.length) ∧ s.env 27 = .v (.int .i64 i) ∧ s.σ [24] = some (.row 5 1 (bytesA (xs.take i).flatten))) ⟨by simp -dsimp -implicitDefEqProofs only [go_sem, Nat.reduceBEq, Nat.reduceAdd, Nat.reduceLeDiff, Nat.reduceSub, Int.reduceEq, h0, h3, h9, h10, h11], by simp -dsimp -implicitDefEqProofs only [go_sem, Nat.reduceBEq, Nat.reduceAdd, Nat.reduceLeDiff, Nat.reduceSub, Int.reduceEq, h0, h3, h9, h10, h11], by simp -dsimp -implicitDefEqProofs only [go_sem, Nat.reduceBEq, Nat.reduceAdd, Nat.reduceLeDiff, Nat.reduceSub, Int.reduceEq, h0, h3, h9, h10, h11], by simp -dsimp -implicitDefEqProofs only [go_sem, Nat.reduceBEq, Nat.reduceAdd, Nat.reduceLeDiff, Nat.reduceSub, Int.reduceEq, h0, h3, h9, h10, h11], by simp -dsimp -implicitDefEqProofs only [go_sem, Nat.reduceBEq, Nat.reduceAdd, Nat.reduceLeDiff, Nat.reduceSub, Int.reduceEq, h0, h3, h9, h10, h11] <;> rfl⟩ ?_
    rintro i ⟨e, σ⟩ hi ⟨h6, h25, h26, h27, hs⟩ K' hK'
    simp only at h6 h25 h26 h27 hs
    simp -dsimp -implicitDefEqProofs only [go_sem, Nat.reduceBEq, Nat.reduceAdd, Nat.reduceLeDiff, Nat.reduceSub, Int.reduceEq, h6, h25, h26, h27, hs]
    refine ifB'.of (fun hlt => ?_) (fun hlt => ?_)
    · have hlt : i < xs.length := by omega
      have hsl : wBB (xs.take (i + 1)) ≤ wBB xs := szL_take_le List.length xs (i + 1)
      have hfl : (xs.take i).flatten.length + xs[i].length = wBB (xs.take (i + 1)) := by rw [← flat_len, ← flat_take hlt, List.length_append]
      simp -dsimp -implicitDefEqProofs only [go_sem, Nat.reduceBEq, Nat.reduceAdd, Nat.reduceLeDiff, Nat.reduceSub, Int.reduceEq, h6, h25, h26, h27, hs, byA_at hlt]
      repeat (first | with_reducible refine ask.of (by omega) ?_ | simp -dsimp -implicitDefEqProofs only [go_sem, Nat.reduceBEq, Nat.reduceAdd, Nat.reduceLeDiff, Nat.reduceSub, Int.reduceEq, h6, h25, h26, h27, hs, byA_at hlt])
      refine hK' _ hlt ?_
      simp -dsimp -implicitDefEqProofs only [go_sem, Nat.reduceBEq, Nat.reduceAdd, Nat.reduceLeDiff, Nat.reduceSub, Int.reduceEq, h6, h25, h26, h27, hs, wrap_succ (show i < 4611686018427387904 by omega), flat_take hlt]
    · have : i = xs.length := by omega
      subst this
      simp -dsimp -implicitDefEqProofs only [go_sem, Nat.reduceBEq, Nat.reduceAdd, Nat.reduceLeDiff, Nat.reduceSub, Int.reduceEq, h6, h25, h26, h27, hs, List.take_length]
def sumB (xs : List (List UInt8)) : List UInt8 := xs.flatten ++ leB 4 (crcB xs.flatten).toNat
theorem wrap_u32i (c : UInt32) : IntKind.i64.wrap (c.toNat : Int) = (c.toNat : Int) := by have := c.toNat_lt; rw [wrap_i64_of (by omega) (by omega)]
theorem c_summed (xs : List (List UInt8)) (hx : xs.length + wBB xs ≤ 1048576) : Meets Try.prog 27 [rowBB xs] (fun r => r = rowB (sumB xs)) := by
  refine Meets.intro mixed (hint []) Try.func27 rfl (by decide) res_27 rty_27 (by kernel_rfl) ?_; 
  simp -dsimp -implicitDefEqProofs only [go_sem, Nat.reduceBEq, Nat.reduceAdd, Nat.reduceLeDiff, Nat.reduceSub, Int.reduceEq]
  refine CallE.of (c_concatB xs (by omega)) (by rintro r rfl; (repeat' first | exact trivial | exact pure_rowB _ | exact pure_rowO _ | exact pure_rowI _ | exact pure_rowBB _ | exact pure_rowPk _ _ | exact pure_rowSn _ _ | exact pure_rowFd _ _ | exact pure_rowBBB _ | exact pure_rowCl _ _ | exact pure_rowTb _ _ _ | refine And.intro ?_ ?_)) (by simp -dsimp -implicitDefEqProofs only [go_sem, Nat.reduceBEq, Nat.reduceAdd, Nat.reduceLeDiff, Nat.reduceSub, Int.reduceEq]) ?_
  rintro r rfl
  simp -dsimp -implicitDefEqProofs only [go_sem, Nat.reduceBEq, Nat.reduceAdd, Nat.reduceLeDiff, Nat.reduceSub, Int.reduceEq]
  have hl : xs.flatten.length ≤ 1048576 := by rw [flat_len]; omega
  refine CallE.of (c_implCrc32 xs.flatten hl) (by rintro r rfl; (repeat' first | exact trivial | exact pure_rowB _ | exact pure_rowO _ | exact pure_rowI _ | exact pure_rowBB _ | exact pure_rowPk _ _ | exact pure_rowSn _ _ | exact pure_rowFd _ _ | exact pure_rowBBB _ | exact pure_rowCl _ _ | exact pure_rowTb _ _ _ | refine And.intro ?_ ?_)) (by simp -dsimp -implicitDefEqProofs only [go_sem, Nat.reduceBEq, Nat.reduceAdd, Nat.reduceLeDiff, Nat.reduceSub, Int.reduceEq, wrap_u32i]) ?_
  rintro r rfl
  simp -dsimp -implicitDefEqProofs only [go_sem, Nat.reduceBEq, Nat.reduceAdd, Nat.reduceLeDiff, Nat.reduceSub, Int.reduceEq, wrap_u32i]
  refine CallE.of (c_number ((crcB xs.flatten).toNat) 4 (by omega)) (by rintro r rfl; (repeat' first | exact trivial | exact pure_rowB _ | exact pure_rowO _ | exact pure_rowI _ | exact pure_rowBB _ | exact pure_rowPk _ _ | exact pure_rowSn _ _ | exact pure_rowFd _ _ | exact pure_rowBBB _ | exact pure_rowCl _ _ | exact pure_rowTb _ _ _ | refine And.intro ?_ ?_)) (by simp -dsimp -implicitDefEqProofs only [go_sem, Nat.reduceBEq, Nat.reduceAdd, Nat.reduceLeDiff, Nat.reduceSub, Int.reduceEq, show ((4 : Nat) : Int) = 4 from rfl, wrap_u32i]) ?_
  rintro r rfl
  simp -dsimp -implicitDefEqProofs only [go_sem, Nat.reduceBEq, Nat.reduceAdd, Nat.reduceLeDiff, Nat.reduceSub, Int.reduceEq, show ((4 : Nat) : Int) = 4 from rfl, wrap_u32i]
  repeat (first | with_reducible refine ask.of (by simp only [leB_length]; omega) ?_ | simp -dsimp -implicitDefEqProofs only [go_sem, Nat.reduceBEq, Nat.reduceAdd, Nat.reduceLeDiff, Nat.reduceSub, Int.reduceEq, leB_length])
  rfl
end Go.Ev
set_option linter.unusedSimpArgs false
set_option linter.unusedVariables false
namespace Go.Ev
open Go Go.RowKit Go.Proofs
def lastB : Bool → UInt8
  | true => 1
  | false => 0
theorem lastB_t : lastB true = 1 := rfl
theorem lastB_f : lastB false = 0 := rfl
theorem bytesA_lit0 : [[AV.v (.int .u8 0)]] = bytesA [0] := rfl
theorem bytesA_lit1 : [[AV.v (.int .u8 1)]] = bytesA [1] := rfl
def pkParts (p : Pk) : List (List UInt8) := [[67, UInt8.ofNat p.a.toNat], leB 4 p.b, leB 8 p.c, leB 4 p.d, [lastB p.e], leB 2 p.f.length, p.f]
def encP (p : Pk) : List UInt8 := if okB p = true then sumB (pkParts p) else []
theorem pkParts_w (p : Pk) : wBB (pkParts p) = 21 + p.f.length := by simp [pkParts, wBB, szL, leB_length]; omega
theorem sumB_length (xs : List (List UInt8)) : (sumB xs).length = wBB xs + 4 := by rw [sumB, List.length_append, flat_len, leB_length]
theorem kindB {p : Pk} (h : okB p = true) : IntKind.u8.wrap p.a = ((UInt8.ofNat p.a.toNat).toNat : Int) := by
  have h : okPk p := of_decide_eq_true h
  have h1 := h.1
  have h2 := h.2.1
  obtain ⟨n, hn⟩ := Int.eq_ofNat_of_zero_le (show 0 ≤ p.a by omega)
  rw [hn]; exact u8_of_nat n
theorem bytes67 (b : UInt8) : [[AV.v (.int .u8 67)], [AV.v (.int .u8 (b.toNat : Int))]] = bytesA [67, b] := rfl
theorem c_summed7 (p : Pk) (hf : p.f.length ≤ 100) : Meets Try.prog 27 [.row 22 1 [[.row 5 1 (bytesA [67, UInt8.ofNat p.a.toNat])], [.row 5 1 (bytesA (leB 4 p.b))], [.row 5 1 (bytesA (leB 8 p.c))], [.row 5 1 (bytesA (leB 4 p.d))], [.row 5 1 (bytesA [lastB p.e])], [.row 5 1 (bytesA (leB 2 p.f.length))], [.rd .ent 5 1 (bytesA p.f)]]] (fun r => r = rowB (sumB (pkParts p))) :=
  Meets.look (bs := [rowBB (pkParts p)]) ⟨Look.row ⟨⟨Look.refl _, trivial⟩, ⟨Look.refl _, trivial⟩, ⟨Look.refl _, trivial⟩, ⟨Look.refl _, trivial⟩, ⟨Look.refl _, trivial⟩, ⟨Look.refl _, trivial⟩, ⟨Look.rd _ _ _, trivial⟩, trivial⟩, trivial⟩ (c_summed (pkParts p) (by rw [pkParts_w]; simp [pkParts]; omega))
theorem c_implEncodePacket (p : Pk) (hb : p.f.length ≤ 1048576) : Meets Try.prog 9 [.agg (pkC p)] (fun r => r = rowB (encP p)) := by
  refine Meets.introO mixed (hint []) (fun k => (sel (k == 6) [999,0,1,2,4,5,7,8,10,11,13,15,16,17,19,20,1003,1014,6,9,12,18,3,14,21,22,23] [])) Try.func9 rfl (by decide) res_9 rty_9 (by kernel_rfl) ?_; 
  simp -dsimp -implicitDefEqProofs only [go_sem, Nat.reduceBEq, Nat.reduceAdd, Nat.reduceLeDiff, Nat.reduceSub, Int.reduceEq, pkC]
  repeat (first | with_reducible refine ask.of (by omega) ?_ | simp -dsimp -implicitDefEqProofs only [go_sem, Nat.reduceBEq, Nat.reduceAdd, Nat.reduceLeDiff, Nat.reduceSub, Int.reduceEq, bleR])
  refine CallE.of (c_packetOk p hb) (by rintro r rfl; (repeat' first | exact trivial | exact pure_rowB _ | exact pure_rowO _ | exact pure_rowI _ | exact pure_rowBB _ | exact pure_rowPk _ _ | exact pure_rowSn _ _ | exact pure_rowFd _ _ | exact pure_rowBBB _ | exact pure_rowCl _ _ | exact pure_rowTb _ _ _ | refine And.intro ?_ ?_)) (by simp -dsimp -implicitDefEqProofs only [go_sem, Nat.reduceBEq, Nat.reduceAdd, Nat.reduceLeDiff, Nat.reduceSub, Int.reduceEq, pkC]) ?_
  rintro r rfl
  simp -dsimp -implicitDefEqProofs only [go_sem, Nat.reduceBEq, Nat.reduceAdd, Nat.reduceLeDiff, Nat.reduceSub, Int.reduceEq, pkC]
  cases h : okB p
  · simp -dsimp -implicitDefEqProofs only [go_sem, Nat.reduceBEq, Nat.reduceAdd, Nat.reduceLeDiff, Nat.reduceSub, Int.reduceEq, h, Bool.not_false]
    rw [encP, h]; rfl
  have hk := kindB h
  have hf : p.f.length ≤ 100 := by
    have h : okPk p := of_decide_eq_true h
    unfold okPk at h
    omega
  have e : encP p = sumB (pkParts p) := by rw [encP, h]; rfl
  rw [e]
  simp -dsimp -implicitDefEqProofs only [go_sem, Nat.reduceBEq, Nat.reduceAdd, Nat.reduceLeDiff, Nat.reduceSub, Int.reduceEq, h, Bool.not_true]
  cases he : p.e
  all_goals
    simp -dsimp -implicitDefEqProofs only [go_sem, Nat.reduceBEq, Nat.reduceAdd, Nat.reduceLeDiff, Nat.reduceSub, Int.reduceEq, he, hk]
    repeat (first | with_reducible refine ask.of (by first | omega | decide) ?_ | simp -dsimp -implicitDefEqProofs only [go_sem, Nat.reduceBEq, Nat.reduceAdd, Nat.reduceLeDiff, Nat.reduceSub, Int.reduceEq, bleR, he, hk, bytes67, bytesA_lit1])
    refine CallE.of (c_number p.b 4 (by omega)) (by rintro r rfl; (repeat' first | exact trivial | exact pure_rowB _ | exact pure_rowO _ | exact pure_rowI _ | exact pure_rowBB _ | exact pure_rowPk _ _ | exact pure_rowSn _ _ | exact pure_rowFd _ _ | exact pure_rowBBB _ | exact pure_rowCl _ _ | exact pure_rowTb _ _ _ | refine And.intro ?_ ?_)) (by simp -dsimp -implicitDefEqProofs only [go_sem, Nat.reduceBEq, Nat.reduceAdd, Nat.reduceLeDiff, Nat.reduceSub, Int.reduceEq, show ((4 : Nat) : Int) = 4 from rfl]) ?_
    rintro r rfl
    simp -dsimp -implicitDefEqProofs only [go_sem, Nat.reduceBEq, Nat.reduceAdd, Nat.reduceLeDiff, Nat.reduceSub, Int.reduceEq, show ((4 : Nat) : Int) = 4 from rfl]
    repeat (first | with_reducible refine ask.of (by first | omega | decide) ?_ | simp -dsimp -implicitDefEqProofs only [go_sem, Nat.reduceBEq, Nat.reduceAdd, Nat.reduceLeDiff, Nat.reduceSub, Int.reduceEq, bleR, he, hk, bytes67, bytesA_lit1])
    refine CallE.of (c_number p.c 8 (by omega)) (by rintro r rfl; (repeat' first | exact trivial | exact pure_rowB _ | exact pure_rowO _ | exact pure_rowI _ | exact pure_rowBB _ | exact pure_rowPk _ _ | exact pure_rowSn _ _ | exact pure_rowFd _ _ | exact pure_rowBBB _ | exact pure_rowCl _ _ | exact pure_rowTb _ _ _ | refine And.intro ?_ ?_)) (by simp -dsimp -implicitDefEqProofs only [go_sem, Nat.reduceBEq, Nat.reduceAdd, Nat.reduceLeDiff, Nat.reduceSub, Int.reduceEq, show ((8 : Nat) : Int) = 8 from rfl]) ?_
    rintro r rfl
    simp -dsimp -implicitDefEqProofs only [go_sem, Nat.reduceBEq, Nat.reduceAdd, Nat.reduceLeDiff, Nat.reduceSub, Int.reduceEq, show ((8 : Nat) : Int) = 8 from rfl]
    repeat (first | with_reducible refine ask.of (by first | omega | decide) ?_ | simp -dsimp -implicitDefEqProofs only [go_sem, Nat.reduceBEq, Nat.reduceAdd, Nat.reduceLeDiff, Nat.reduceSub, Int.reduceEq, bleR, he, hk, bytes67, bytesA_lit1])
    refine CallE.of (c_number p.d 4 (by omega)) (by rintro r rfl; (repeat' first | exact trivial | exact pure_rowB _ | exact pure_rowO _ | exact pure_rowI _ | exact pure_rowBB _ | exact pure_rowPk _ _ | exact pure_rowSn _ _ | exact pure_rowFd _ _ | exact pure_rowBBB _ | exact pure_rowCl _ _ | exact pure_rowTb _ _ _ | refine And.intro ?_ ?_)) (by simp -dsimp -implicitDefEqProofs only [go_sem, Nat.reduceBEq, Nat.reduceAdd, Nat.reduceLeDiff, Nat.reduceSub, Int.reduceEq, show ((4 : Nat) : Int) = 4 from rfl]) ?_
    rintro r rfl
    simp -dsimp -implicitDefEqProofs only [go_sem, Nat.reduceBEq, Nat.reduceAdd, Nat.reduceLeDiff, Nat.reduceSub, Int.reduceEq, show ((4 : Nat) : Int) = 4 from rfl]
    repeat (first | with_reducible refine ask.of (by first | omega | decide) ?_ | simp -dsimp -implicitDefEqProofs only [go_sem, Nat.reduceBEq, Nat.reduceAdd, Nat.reduceLeDiff, Nat.reduceSub, Int.reduceEq, bleR, he, hk, bytes67, bytesA_lit1])
    refine CallE.of (c_number p.f.length 2 (by omega)) (by rintro r rfl; (repeat' first | exact trivial | exact pure_rowB _ | exact pure_rowO _ | exact pure_rowI _ | exact pure_rowBB _ | exact pure_rowPk _ _ | exact pure_rowSn _ _ | exact pure_rowFd _ _ | exact pure_rowBBB _ | exact pure_rowCl _ _ | exact pure_rowTb _ _ _ | refine And.intro ?_ ?_)) (by simp -dsimp -implicitDefEqProofs only [go_sem, Nat.reduceBEq, Nat.reduceAdd, Nat.reduceLeDiff, Nat.reduceSub, Int.reduceEq, show ((2 : Nat) : Int) = 2 from rfl]) ?_
    rintro r rfl
    simp -dsimp -implicitDefEqProofs only [go_sem, Nat.reduceBEq, Nat.reduceAdd, Nat.reduceLeDiff, Nat.reduceSub, Int.reduceEq, show ((2 : Nat) : Int) = 2 from rfl]
    repeat (first | with_reducible refine ask.of (by first | omega | decide) ?_ | simp -dsimp -implicitDefEqProofs only [go_sem, Nat.reduceBEq, Nat.reduceAdd, Nat.reduceLeDiff, Nat.reduceSub, Int.reduceEq, bleR, he, hk, bytes67, bytesA_lit1])
    refine CallE.of (c_summed7 p hf) (by rintro r rfl; (repeat' first | exact trivial | exact pure_rowB _ | exact pure_rowO _ | exact pure_rowI _ | exact pure_rowBB _ | exact pure_rowPk _ _ | exact pure_rowSn _ _ | exact pure_rowFd _ _ | exact pure_rowBBB _ | exact pure_rowCl _ _ | exact pure_rowTb _ _ _ | refine And.intro ?_ ?_)) (by simp -dsimp -implicitDefEqProofs only [go_sem, Nat.reduceBEq, Nat.reduceAdd, Nat.reduceLeDiff, Nat.reduceSub, Int.reduceEq, he, lastB_t, lastB_f, bytesA_lit1, bytesA_lit0]) ?_
    rintro r rfl
    simp -dsimp -implicitDefEqProofs only [go_sem, Nat.reduceBEq, Nat.reduceAdd, Nat.reduceLeDiff, Nat.reduceSub, Int.reduceEq, he, lastB_t, lastB_f, bytesA_lit1, bytesA_lit0]
end Go.Ev
set_option linter.unusedSimpArgs false
set_option linter.unusedVariables false
namespace Go.Ev
open Go Go.RowKit Go.Proofs
def mpS (l : List (List UInt8 × Value)) : List (Value × Value) := l.map fun p => (.string ⟨p.1.toArray⟩, p.2)
theorem kEq_str (a b : List UInt8) : kEq (.string ⟨a.toArray⟩) (.string ⟨b.toArray⟩) = decide (a = b) := by
  show ((⟨a.toArray⟩ : ByteArray) == ⟨b.toArray⟩) = _
  by_cases h : a = b
  · rw [decide_eq_true h, h]; exact (MapKept.bytes_beq _ _).2 rfl
  · rw [decide_eq_false h]
    cases h2 : ((⟨a.toArray⟩ : ByteArray) == ⟨b.toArray⟩) with
    | false => rfl
    | true => exact absurd (by simpa using (MapKept.bytes_beq _ _).1 h2) h
theorem mgetS_some (t : List UInt8) : ∀ l : List (List UInt8 × Value), (mget (mpS l) (.string ⟨t.toArray⟩)).isSome = decide (t ∈ l.map (·.1))
  | [] => rfl
  | p :: l => by
    show (sel (kEq (.string ⟨p.1.toArray⟩) (.string ⟨t.toArray⟩)) (some p.2) (mget (mpS l) _)).isSome = _
    rw [kEq_str]
    by_cases h : p.1 = t
    · rw [decide_eq_true h]; simp [sel, h]
    · rw [decide_eq_false h]
      show (mget (mpS l) _).isSome = _
      rw [mgetS_some t l]
      simp [Ne.symm h]
theorem mputS_new (t : List UInt8) (v : Value) : ∀ l : List (List UInt8 × Value), t ∉ l.map (·.1) → mput (mpS l) (.string ⟨t.toArray⟩) v = mpS (l ++ [(t, v)])
  | [], _ => rfl
  | p :: l, h => by
    show sel (kEq (.string ⟨p.1.toArray⟩) (.string ⟨t.toArray⟩)) _ ((.string ⟨p.1.toArray⟩, p.2) :: mput (mpS l) _ v) = _
    have h1 : p.1 ≠ t := fun e => h (by simp [e])
    rw [kEq_str, decide_eq_false h1, mputS_new t v l (fun h2 => h (by simp at h2 ⊢; exact .inr h2))]
    rfl
def ixP (xs : List (List UInt8)) : List (List UInt8 × Value) := xs.zipIdx.map fun p => (p.1, .int .i64 p.2)
theorem ixP_keys (xs : List (List UInt8)) : (ixP xs).map (·.1) = xs := by
  rw [ixP, List.map_map]
  exact List.zipIdx_map_fst 0 xs
theorem ixP_snoc (xs : List (List UInt8)) (t : List UInt8) : ixP xs ++ [(t, .int .i64 (xs.length : Int))] = ixP (xs ++ [t]) := by
  simp [ixP, List.zipIdx_append]
theorem ixP_has (xs : List (List UInt8)) (t : List UInt8) : (mget (mpS (ixP xs)) (.string ⟨t.toArray⟩)).isSome = decide (t ∈ xs) := by rw [mgetS_some, ixP_keys]
theorem ixP_put {xs : List (List UInt8)} {t : List UInt8} (h : t ∉ xs) : mput (mpS (ixP xs)) (.string ⟨t.toArray⟩) (.int .i64 (xs.length : Int)) = mpS (ixP (xs ++ [t])) := by
  rw [mputS_new _ _ _ (by rw [ixP_keys]; exact h), ixP_snoc]
theorem c_l1same (a b : List UInt8) (ha : a.length ≤ 140737488355328) (hb : b.length ≤ 140737488355328) : Meets Try.prog 47 [rowB a, rowB b] (fun r => r = .v (.bool (decide (a = b)))) := by
  refine Meets.intro mixed (hint []) Try.func47 rfl (by decide) res_47 rty_47 (by kernel_rfl) ?_; 
  simp -dsimp -implicitDefEqProofs only [go_sem, Nat.reduceBEq, Nat.reduceAdd, Nat.reduceLeDiff, Nat.reduceSub, Int.reduceEq, initE]
  exact decide_eq_decide.2 ⟨fun h => by simpa using h, fun h => by rw [h]⟩
def plI (xs : List (List UInt8)) (t : List UInt8) : Int := if t ∈ xs then ((xs.idxOf t : Nat) : Int) else -1
theorem plI_at {xs : List (List UInt8)} {t : List UInt8} {i : Nat} (h : i < xs.length) (he : xs[i] = t) (hn : t ∉ xs.take i) : plI xs t = (i : Int) := by
  have hm : t ∈ xs := by rw [← he]; exact List.getElem_mem _
  rw [plI, if_pos hm]
  congr 1
  have e : xs = xs.take i ++ t :: xs.drop (i + 1) := by rw [← he, ← List.drop_eq_getElem_cons h, List.take_append_drop]
  rw [e, List.idxOf_append, if_neg hn]
  simp
  omega
theorem plI_no {xs : List (List UInt8)} {t : List UInt8} (h : t ∉ xs) : plI xs t = -1 := if_neg h
theorem plI_nonneg (xs : List (List UInt8)) (t : List UInt8) : 0 ≤ plI xs t ↔ t ∈ xs := by
  unfold plI
  split
  · rename_i h; exact ⟨fun _ => h, fun _ => by omega⟩
  · rename_i h; exact ⟨fun h' => by omega, fun h' => absurd h' h⟩
theorem not_mem_take_succ {α : Type} {xs : List α} {t : α} {i : Nat} (h : i < xs.length) (hn : t ∉ xs.take i) (he : xs[i] ≠ t) : t ∉ xs.take (i + 1) := by
  rw [List.take_succ_eq_append_getElem h]
  simp only [List.mem_append, List.mem_singleton, not_or]
  exact ⟨hn, fun e => he e.symm⟩
theorem c_l2place (xs : List (List UInt8)) (t : List UInt8) (hx : xs.length ≤ 1048576) (hb : ∀ b ∈ xs, b.length ≤ 140737488355328) (ht : t.length ≤ 140737488355328) : Meets Try.prog 67 [rowBB xs, rowB t] (fun r => r = .v (.int .i64 (plI xs t))) := by
  refine Meets.intro mixed (hint []) Try.func67 rfl (by decide) res_67 rty_67 (by kernel_rfl) ?_; 
  simp -dsimp -implicitDefEqProofs only [go_sem, Nat.reduceBEq, Nat.reduceAdd, Nat.reduceLeDiff, Nat.reduceSub, Int.reduceEq]
  refine LoopE.cnt xs.length (fun i s => s.env 0 = .rd .ent 22 1 (ra byC xs) ∧ s.env 1 = .rd .ent 5 1 (bytesA t) ∧ s.env 5 = .v (.int .i64 i) ∧ t ∉ xs.take i) ⟨by simp -dsimp -implicitDefEqProofs only [go_sem, Nat.reduceBEq, Nat.reduceAdd, Nat.reduceLeDiff, Nat.reduceSub, Int.reduceEq, initE], by simp -dsimp -implicitDefEqProofs only [go_sem, Nat.reduceBEq, Nat.reduceAdd, Nat.reduceLeDiff, Nat.reduceSub, Int.reduceEq, initE], by simp -dsimp -implicitDefEqProofs only [go_sem, Nat.reduceBEq, Nat.reduceAdd, Nat.reduceLeDiff, Nat.reduceSub, Int.reduceEq], by simp⟩ ?_
  rintro i ⟨e, σ⟩ hi ⟨h0, h1, h5, hn⟩ K hK
  simp only at h0 h1 h5
  simp -dsimp -implicitDefEqProofs only [go_sem, Nat.reduceBEq, Nat.reduceAdd, Nat.reduceLeDiff, Nat.reduceSub, Int.reduceEq, h0, h1, h5]
  refine ifB'.of (fun hlt => ?_) (fun hlt => ?_)
  · have hlt : i < xs.length := by omega
    simp -dsimp -implicitDefEqProofs only [go_sem, Nat.reduceBEq, Nat.reduceAdd, Nat.reduceLeDiff, Nat.reduceSub, Int.reduceEq, h0, h1, h5, byA_at hlt]
    repeat with_reducible refine ask.of (by omega) ?_
    refine CallE.of (c_l1same xs[i] t (hb _ (List.getElem_mem _)) ht) (by rintro r rfl; (repeat' first | exact trivial | exact pure_rowB _ | exact pure_rowO _ | exact pure_rowI _ | exact pure_rowBB _ | exact pure_rowPk _ _ | exact pure_rowSn _ _ | exact pure_rowFd _ _ | exact pure_rowBBB _ | exact pure_rowCl _ _ | exact pure_rowTb _ _ _ | refine And.intro ?_ ?_)) (by simp -dsimp -implicitDefEqProofs only [go_sem, Nat.reduceBEq, Nat.reduceAdd, Nat.reduceLeDiff, Nat.reduceSub, Int.reduceEq, h0, h1, h5]) ?_
    rintro r rfl
    simp -dsimp -implicitDefEqProofs only [go_sem, Nat.reduceBEq, Nat.reduceAdd, Nat.reduceLeDiff, Nat.reduceSub, Int.reduceEq, h0, h1, h5]
    refine ifB'.of (fun hq => ?_) (fun hq => ?_)
    · simp -dsimp -implicitDefEqProofs only [go_sem, Nat.reduceBEq, Nat.reduceAdd, Nat.reduceLeDiff, Nat.reduceSub, Int.reduceEq, h0, h1, h5]
      rw [plI_at hlt hq hn]
    · simp -dsimp -implicitDefEqProofs only [go_sem, Nat.reduceBEq, Nat.reduceAdd, Nat.reduceLeDiff, Nat.reduceSub, Int.reduceEq, h0, h1, h5]
      refine hK _ hlt ?_
      simp -dsimp -implicitDefEqProofs only [go_sem, Nat.reduceBEq, Nat.reduceAdd, Nat.reduceLeDiff, Nat.reduceSub, Int.reduceEq, h0, h1, h5, wrap_succ (show i < 4611686018427387904 by omega)]
      exact not_mem_take_succ hlt hn hq
  · have : i = xs.length := by omega
    subst this
    simp -dsimp -implicitDefEqProofs only [go_sem, Nat.reduceBEq, Nat.reduceAdd, Nat.reduceLeDiff, Nat.reduceSub, Int.reduceEq, h0, h1, h5]
    rw [plI_no (by rwa [List.take_length] at hn)]
def okD (xs : List (List UInt8)) : Prop := xs.length ≤ 40 ∧ wBB xs ≤ 4000 ∧ xs.Nodup
instance (xs : List (List UInt8)) : Decidable (okD xs) := by unfold okD; infer_instance
theorem okD_f {xs : List (List UInt8)} (h : ¬ okD xs) : false = decide (okD xs) := (decide_eq_false h).symm
theorem okD_t {xs : List (List UInt8)} (h : okD xs) : true = decide (okD xs) := (decide_eq_true h).symm
theorem nodup_take {α : Type} {xs : List α} (h : xs.Nodup) (i : Nat) : (xs.take i).Nodup := List.Nodup.sublist (List.take_sublist _ _) h
theorem nodup_take_succ {α : Type} {xs : List α} {i : Nat} (h : i < xs.length) : (xs.take (i + 1)).Nodup ↔ (xs.take i).Nodup ∧ xs[i] ∉ xs.take i := by
  rw [List.take_succ_eq_append_getElem h, List.nodup_append]
  simp
  intro _
  constructor
  · intro h1 h2; exact h1 _ h2 rfl
  · intro h1 a h2 h3; exact h1 (h3 ▸ h2)
theorem c_sValidDict (xs : List (List UInt8)) (hx : xs.length + wBB xs ≤ 1048576) : Meets Try.prog 41 [rowBB xs] (fun r => r = .v (.bool (decide (okD xs)))) := by
  refine Meets.introO mixed (hint []) (fun k => (sel (k == 8) [0,1,2,3,4,5,6,7,8,9,10,11,12] [])) Try.func41 rfl (by decide) res_41 rty_41 (by kernel_rfl) ?_; 
  have hb : ∀ b ∈ xs, b.length ≤ 140737488355328 := fun b hb => by have : b.length ≤ wBB xs := mem_wBB hb; omega
  simp -dsimp -implicitDefEqProofs only [go_sem, Nat.reduceBEq, Nat.reduceAdd, Nat.reduceLeDiff, Nat.reduceSub, Int.reduceEq]
  refine ifB'.of (fun h => ?_) (fun h => ?_)
  · simp -dsimp -implicitDefEqProofs only [go_sem, Nat.reduceBEq, Nat.reduceAdd, Nat.reduceLeDiff, Nat.reduceSub, Int.reduceEq]
    exact okD_f (fun h' => by have := h'.1; omega)
  simp -dsimp -implicitDefEqProofs only [go_sem, Nat.reduceBEq, Nat.reduceAdd, Nat.reduceLeDiff, Nat.reduceSub, Int.reduceEq]
  refine LoopE.cnt xs.length (fun i s => s.env 0 = .rd .ent 22 1 (ra byC xs) ∧ s.env 4 = .v (.int .i64 i) ∧ s.env 3 = .v (.int .i64 (wBB (xs.take i) : Nat)) ∧ wBB (xs.take i) ≤ 4000 ∧ (xs.take i).Nodup) ⟨by simp -dsimp -implicitDefEqProofs only [go_sem, Nat.reduceBEq, Nat.reduceAdd, Nat.reduceLeDiff, Nat.reduceSub, Int.reduceEq, initE], by simp -dsimp -implicitDefEqProofs only [go_sem, Nat.reduceBEq, Nat.reduceAdd, Nat.reduceLeDiff, Nat.reduceSub, Int.reduceEq], by simp -dsimp -implicitDefEqProofs only [go_sem, Nat.reduceBEq, Nat.reduceAdd, Nat.reduceLeDiff, Nat.reduceSub, Int.reduceEq] <;> rfl, by simp [wBB, szL], by simp⟩ ?_
  rintro i ⟨e, σ⟩ hi ⟨h0, h4, h3, hw, hnd⟩ K hK
  simp only at h0 h4 h3
  simp -dsimp -implicitDefEqProofs only [go_sem, Nat.reduceBEq, Nat.reduceAdd, Nat.reduceLeDiff, Nat.reduceSub, Int.reduceEq, h0, h4, h3]
  refine ifB'.of (fun hlt => ?_) (fun hlt => ?_)
  · have hlt : i < xs.length := by omega
    have hs : wBB (xs.take (i + 1)) = wBB (xs.take i) + xs[i].length := szL_take_succ List.length hlt
    have hsl : wBB (xs.take (i + 1)) ≤ wBB xs := szL_take_le List.length xs (i + 1)
    have e1 : IntKind.i64.wrap ((wBB (xs.take i) : Int) + xs[i].length) = (wBB (xs.take (i + 1)) : Nat) := by rw [wrap_i64_of (by omega) (by omega), hs]; omega
    simp -dsimp -implicitDefEqProofs only [go_sem, Nat.reduceBEq, Nat.reduceAdd, Nat.reduceLeDiff, Nat.reduceSub, Int.reduceEq, h0, h4, h3, byA_at hlt]
    repeat with_reducible refine ask.of (by omega) ?_
    simp -dsimp -implicitDefEqProofs only [go_sem, Nat.reduceBEq, Nat.reduceAdd, Nat.reduceLeDiff, Nat.reduceSub, Int.reduceEq, h0, h4, h3, byA_at hlt, e1]
    refine ifB'.of (fun hg => ?_) (fun hg => ?_)
    · simp -dsimp -implicitDefEqProofs only [go_sem, Nat.reduceBEq, Nat.reduceAdd, Nat.reduceLeDiff, Nat.reduceSub, Int.reduceEq, h0, h4, h3]
      exact okD_f (fun h' => by have := h'.2.1; omega)
    · simp -dsimp -implicitDefEqProofs only [go_sem, Nat.reduceBEq, Nat.reduceAdd, Nat.reduceLeDiff, Nat.reduceSub, Int.reduceEq, h0, h4, h3, byA_at hlt, Int.toNat_natCast]
      repeat with_reducible refine ask.of (by omega) ?_
      refine CallE.of (c_l2place (xs.take i) xs[i] (by simp; omega) (fun b h => hb b (List.mem_of_mem_take h)) (hb _ (List.getElem_mem _))) (by rintro r rfl; (repeat' first | exact trivial | exact pure_rowB _ | exact pure_rowO _ | exact pure_rowI _ | exact pure_rowBB _ | exact pure_rowPk _ _ | exact pure_rowSn _ _ | exact pure_rowFd _ _ | exact pure_rowBBB _ | exact pure_rowCl _ _ | exact pure_rowTb _ _ _ | refine And.intro ?_ ?_)) (by simp -dsimp -implicitDefEqProofs only [go_sem, Nat.reduceBEq, Nat.reduceAdd, Nat.reduceLeDiff, Nat.reduceSub, Int.reduceEq, h0, h4, h3, Int.toNat_zero]) ?_
      rintro r rfl
      simp -dsimp -implicitDefEqProofs only [go_sem, Nat.reduceBEq, Nat.reduceAdd, Nat.reduceLeDiff, Nat.reduceSub, Int.reduceEq, h0, h4, h3, Int.toNat_zero]
      refine ifB'.of (fun hq => ?_) (fun hq => ?_)
      · simp -dsimp -implicitDefEqProofs only [go_sem, Nat.reduceBEq, Nat.reduceAdd, Nat.reduceLeDiff, Nat.reduceSub, Int.reduceEq, h0, h4, h3]
        have hq := (plI_nonneg _ _).1 hq
        exact okD_f (fun h' => ((nodup_take_succ hlt).1 (nodup_take h'.2.2 (i + 1))).2 hq)
      · simp -dsimp -implicitDefEqProofs only [go_sem, Nat.reduceBEq, Nat.reduceAdd, Nat.reduceLeDiff, Nat.reduceSub, Int.reduceEq, h0, h4, h3]
        refine hK _ hlt ?_
        simp -dsimp -implicitDefEqProofs only [go_sem, Nat.reduceBEq, Nat.reduceAdd, Nat.reduceLeDiff, Nat.reduceSub, Int.reduceEq, h0, h4, h3, wrap_succ (show i < 4611686018427387904 by omega)]
        exact ⟨by omega, by omega, (nodup_take_succ hlt).2 ⟨hnd, fun h' => hq ((plI_nonneg _ _).2 h')⟩⟩
  · have : i = xs.length := by omega
    subst this
    simp -dsimp -implicitDefEqProofs only [go_sem, Nat.reduceBEq, Nat.reduceAdd, Nat.reduceLeDiff, Nat.reduceSub, Int.reduceEq, h0, h4, h3]
    rw [List.take_length] at hw hnd
    exact okD_t ⟨by omega, hw, hnd⟩
theorem c_iValidDict (xs : List (List UInt8)) (hx : xs.length + wBB xs ≤ 1048576) : Meets Try.prog 10 [rowBB xs] (fun r => r = .v (.bool (decide (okD xs)))) := by
  refine Meets.intro mixed (hint []) Try.func10 rfl (by decide) res_10 rty_10 (by kernel_rfl) ?_; 
  simp -dsimp -implicitDefEqProofs only [go_sem, Nat.reduceBEq, Nat.reduceAdd, Nat.reduceLeDiff, Nat.reduceSub, Int.reduceEq]
  refine ifB'.of (fun h => ?_) (fun h => ?_)
  · simp -dsimp -implicitDefEqProofs only [go_sem, Nat.reduceBEq, Nat.reduceAdd, Nat.reduceLeDiff, Nat.reduceSub, Int.reduceEq]
    exact okD_f (fun h' => by have := h'.1; omega)
  simp -dsimp -implicitDefEqProofs only [go_sem, Nat.reduceBEq, Nat.reduceAdd, Nat.reduceLeDiff, Nat.reduceSub, Int.reduceEq]
  refine LoopE.cnt xs.length (fun i s => s.env 13 = .rd .ent 22 1 (ra byC xs) ∧ s.env 14 = .v (.int .i64 xs.length) ∧ s.env 15 = .v (.int .i64 i) ∧ s.env 3 = .ref [12] ∧ s.env 4 = .v (.int .i64 (wBB (xs.take i) : Nat)) ∧ s.σ [12] = some (.mp .string 3 (mpS (ixP (xs.take i)))) ∧ (xs.take i).Nodup) ⟨by simp -dsimp -implicitDefEqProofs only [go_sem, Nat.reduceBEq, Nat.reduceAdd, Nat.reduceLeDiff, Nat.reduceSub, Int.reduceEq, initE], by simp -dsimp -implicitDefEqProofs only [go_sem, Nat.reduceBEq, Nat.reduceAdd, Nat.reduceLeDiff, Nat.reduceSub, Int.reduceEq, initE], by simp -dsimp -implicitDefEqProofs only [go_sem, Nat.reduceBEq, Nat.reduceAdd, Nat.reduceLeDiff, Nat.reduceSub, Int.reduceEq], by simp -dsimp -implicitDefEqProofs only [go_sem, Nat.reduceBEq, Nat.reduceAdd, Nat.reduceLeDiff, Nat.reduceSub, Int.reduceEq], by simp -dsimp -implicitDefEqProofs only [go_sem, Nat.reduceBEq, Nat.reduceAdd, Nat.reduceLeDiff, Nat.reduceSub, Int.reduceEq] <;> rfl, by simp -dsimp -implicitDefEqProofs only [go_sem, Nat.reduceBEq, Nat.reduceAdd, Nat.reduceLeDiff, Nat.reduceSub, Int.reduceEq] <;> rfl, by simp⟩ ?_
  rintro i ⟨e, σ⟩ hi ⟨h13, h14, h15, h3, h4, hs, hnd⟩ K hK
  simp only at h13 h14 h15 h3 h4 hs
  simp -dsimp -implicitDefEqProofs only [go_sem, Nat.reduceBEq, Nat.reduceAdd, Nat.reduceLeDiff, Nat.reduceSub, Int.reduceEq, h13, h14, h15, h3, h4, hs]
  refine ifB'.of (fun hlt => ?_) (fun hlt => ?_)
  · have hlt : i < xs.length := by omega
    have hw : wBB (xs.take (i + 1)) = wBB (xs.take i) + xs[i].length := szL_take_succ List.length hlt
    have hsl : wBB (xs.take (i + 1)) ≤ wBB xs := szL_take_le List.length xs (i + 1)
    have e1 : IntKind.i64.wrap ((wBB (xs.take i) : Int) + xs[i].length) = (wBB (xs.take (i + 1)) : Nat) := by rw [wrap_i64_of (by omega) (by omega), hw]; omega
    simp -dsimp -implicitDefEqProofs only [go_sem, Nat.reduceBEq, Nat.reduceAdd, Nat.reduceLeDiff, Nat.reduceSub, Int.reduceEq, h13, h14, h15, h3, h4, hs, byA_at hlt]
    repeat with_reducible refine ask.of (by omega) ?_
    simp -dsimp -implicitDefEqProofs only [go_sem, Nat.reduceBEq, Nat.reduceAdd, Nat.reduceLeDiff, Nat.reduceSub, Int.reduceEq, h13, h14, h15, h3, h4, hs, byA_at hlt, ixP_has]
    refine ifB'.of (fun hq => ?_) (fun hq => ?_)
    · simp -dsimp -implicitDefEqProofs only [go_sem, Nat.reduceBEq, Nat.reduceAdd, Nat.reduceLeDiff, Nat.reduceSub, Int.reduceEq, h13, h14, h15, h3, h4, hs]
      exact okD_f (fun h' => ((nodup_take_succ hlt).1 (nodup_take h'.2.2 (i + 1))).2 hq)
    · have hp := ixP_put hq
      rw [show (xs.take i).length = i by simp; omega, ← take_succ hlt] at hp
      simp -dsimp -implicitDefEqProofs only [go_sem, Nat.reduceBEq, Nat.reduceAdd, Nat.reduceLeDiff, Nat.reduceSub, Int.reduceEq, h13, h14, h15, h3, h4, hs, e1, hp]
      refine hK _ hlt ?_
      simp -dsimp -implicitDefEqProofs only [go_sem, Nat.reduceBEq, Nat.reduceAdd, Nat.reduceLeDiff, Nat.reduceSub, Int.reduceEq, h13, h14, h15, h3, h4, hs, wrap_succ (show i < 4611686018427387904 by omega)]
      exact (nodup_take_succ hlt).2 ⟨hnd, hq⟩
  · have : i = xs.length := by omega
    subst this
    simp -dsimp -implicitDefEqProofs only [go_sem, Nat.reduceBEq, Nat.reduceAdd, Nat.reduceLeDiff, Nat.reduceSub, Int.reduceEq, h13, h14, h15, h3, h4, hs]
    rw [List.take_length] at hnd ⊢
    exact decide_eq_decide.2 ⟨fun h' => ⟨by omega, by omega, hnd⟩, fun h' => by have := h'.2.1; omega⟩
end Go.Ev
set_option linter.unusedSimpArgs false
set_option linter.unusedVariables false
namespace Go.Ev
open Go Go.RowKit Go.Proofs
theorem c_bytesClone (b : List UInt8) (hb : b.length ≤ 8388608) : Meets Try.prog 33 [rowB b] (fun r => r = rowB b) := by
  refine Meets.intro mixed (hint []) Try.func33 rfl (by decide) res_33 rty_33 (by kernel_rfl) ?_; 
  simp -dsimp -implicitDefEqProofs only [go_sem, Nat.reduceBEq, Nat.reduceAdd, Nat.reduceLeDiff, Nat.reduceSub, Int.reduceEq, initE]
  refine nilE'.of (fun h => ?_) ?_
  · have h : b = [] := by simpa [bytesA] using h
    subst h
    simp -dsimp -implicitDefEqProofs only [go_sem, Nat.reduceBEq, Nat.reduceAdd, Nat.reduceLeDiff, Nat.reduceSub, Int.reduceEq]
    rfl
  · simp -dsimp -implicitDefEqProofs only [go_sem, Nat.reduceBEq, Nat.reduceAdd, Nat.reduceLeDiff, Nat.reduceSub, Int.reduceEq]
    repeat (first | with_reducible refine ask.of (by first | omega | decide | (simp; omega)) ?_ | simp -dsimp -implicitDefEqProofs only [go_sem, Nat.reduceBEq, Nat.reduceAdd, Nat.reduceLeDiff, Nat.reduceSub, Int.reduceEq, List.nil_append])
end Go.Ev
set_option linter.unusedSimpArgs false
set_option linter.unusedVariables false
namespace Go.Ev
open Go Go.RowKit Go.Proofs
theorem c_packetCopy (p : Pk) (hb : p.f.length ≤ 1048576) : Meets Try.prog 61 [.agg (pkC p)] (fun r => r = .agg (pkC p)) := by
  refine Meets.intro mixed (hint []) Try.func61 rfl (by decide) res_61 rty_61 (by kernel_rfl) ?_; 
  simp -dsimp -implicitDefEqProofs only [go_sem, Nat.reduceBEq, Nat.reduceAdd, Nat.reduceLeDiff, Nat.reduceSub, Int.reduceEq, pkC]
  repeat (first | with_reducible refine ask.of (by omega) ?_ | simp -dsimp -implicitDefEqProofs only [go_sem, Nat.reduceBEq, Nat.reduceAdd, Nat.reduceLeDiff, Nat.reduceSub, Int.reduceEq, bleR])
  refine CallE.of (c_bytesClone p.f (by omega)) (by rintro r rfl; (repeat' first | exact trivial | exact pure_rowB _ | exact pure_rowO _ | exact pure_rowI _ | exact pure_rowBB _ | exact pure_rowPk _ _ | exact pure_rowSn _ _ | exact pure_rowFd _ _ | exact pure_rowBBB _ | exact pure_rowCl _ _ | exact pure_rowTb _ _ _ | refine And.intro ?_ ?_)) (by simp -dsimp -implicitDefEqProofs only [go_sem, Nat.reduceBEq, Nat.reduceAdd, Nat.reduceLeDiff, Nat.reduceSub, Int.reduceEq]) ?_
  rintro r rfl
  simp -dsimp -implicitDefEqProofs only [go_sem, Nat.reduceBEq, Nat.reduceAdd, Nat.reduceLeDiff, Nat.reduceSub, Int.reduceEq]
  repeat (first | with_reducible refine ask.of (by omega) ?_ | simp -dsimp -implicitDefEqProofs only [go_sem, Nat.reduceBEq, Nat.reduceAdd, Nat.reduceLeDiff, Nat.reduceSub, Int.reduceEq, bleR])
theorem bl4 : Nat.ble 1 4 = true ∧ Nat.ble 2 4 = true ∧ Nat.ble 3 4 = true ∧ Nat.ble 1 1 = true ∧ Nat.ble 1 7 = true := ⟨rfl, rfl, rfl, rfl, rfl⟩
theorem cty_q : cty Try.prog 67 = [some (73, 7)] := by kernel_rfl
theorem ble67 : Nat.ble 6 7 = true := rfl
theorem sn_snoc {xs : List Sn} {s : Sn} : ra snC xs ++ [[.v (.int .i64 s.p.a), .v (.int .i64 s.p.b), .v (.int .i64 s.p.c), .v (.int .i64 s.p.d), .v (.bool s.p.e), .row 5 1 (bytesA s.p.f), .v (.int .i64 s.q)]] = ra snC (xs ++ [s]) := by simp [ra, snC]
theorem sn_take {xs : List Sn} {i : Nat} (h : i < xs.length) : xs.take i ++ [xs[i]] = xs.take (i + 1) := by simp
theorem c_put (xs : List Sn) (s : Sn) (hx : xs.length ≤ 1048576) (hb : s.p.f.length ≤ 1048576) : MeetsM Try.prog 32 [.mu (.bx 67 [.row 73 7 (ra snC xs)]), .mu (.agg (snC s))] (fun r rs => r = .tup [] ∧ rs = [.bx 67 [.row 73 7 (ra snC (xs ++ [s]))], .agg [.v (.int .i64 s.p.a), .v (.int .i64 s.p.b), .v (.int .i64 s.p.c), .v (.int .i64 s.p.d), .v (.bool s.p.e), .any, .v (.int .i64 s.q)]]) := by
  refine MeetsM.introO mixed (hint []) (fun k => (sel (k == 1) [0,1,2,3,4,5,6,7,8,9,10] [])) Try.func32 rfl (by decide) res_32 rty_32 (pts := parTys Try.prog 32) (by rw [par_32]; rfl) (by kernel_rfl) ?_; rw [par_32]; intro vals; 
  simp -dsimp -implicitDefEqProofs only [go_sem, Nat.reduceBEq, Nat.reduceAdd, Nat.reduceLeDiff, Nat.reduceSub, Int.reduceEq, snC]
  repeat (first | with_reducible refine ask.of (by first | omega | decide | (simp only [ra_length, List.length_cons, List.length_nil]; omega)) ?_ | simp -dsimp -implicitDefEqProofs only [go_sem, Nat.reduceBEq, Nat.reduceAdd, Nat.reduceLeDiff, Nat.reduceSub, Int.reduceEq, bleR, snC, ble67, sn_snoc, cty_q])
set_option maxRecDepth 8000 in
set_option maxHeartbeats 1000000 in
theorem c_outCopy (x : LO) (hx : x.h.length ≤ 1048576) (hb : ∀ b ∈ x.h, b.p.f.length ≤ 1048576) : Meets Try.prog 30 [.agg (loC 73 x)] (fun r => r = .agg (loC 73 x)) := by
  refine Meets.introO mixed (hint []) (fun k => (sel (k == 5) [998,0,1,3,4,2,5,2006] [])) Try.func30 rfl (by decide) res_30 rty_30 (by kernel_rfl) ?_; 
  simp -dsimp -implicitDefEqProofs only [go_sem, Nat.reduceBEq, Nat.reduceAdd, Nat.reduceLeDiff, Nat.reduceSub, Int.reduceEq, loC]
  repeat (first | with_reducible refine ask.of (by omega) ?_ | simp -dsimp -implicitDefEqProofs only [go_sem, Nat.reduceBEq, Nat.reduceAdd, Nat.reduceLeDiff, Nat.reduceSub, Int.reduceEq, bleR, bl4])
  refine LoopE.cntW x.h.length (fun i s => s.env 1 = .ptr [1] 0 0 0 ∧ s.env 2 = .ptr [2] 0 0 0 ∧ s.env 3 = .ptr [3] 0 0 0 ∧ s.env 8 = .rd .ent 73 7 (ra snC x.h) ∧ s.env 9 = .v (.int .i64 (x.h.length : Nat)) ∧ s.env 10 = .v (.int .i64 i) ∧ s.σ [1] = some (.box 30 [.v (.int .i64 x.a), .v (.int .i64 x.b), .v (.int .i64 x.c), .rd .ent 73 7 (ra snC x.h)])
    ∧ s.σ [2] = some (.box 30 [.v (.int .i64 0), .v (.int .i64 0), .v (.int .i64 0), .v (.slice none 0 0)]) ∧ s.σ [3] = some (.box 67 [.ref [1000002, 3, 0]]) ∧ s.σ [1000002, 3, 0] = some (.row 73 7 (ra snC (x.h.take i))))
    (Wk.box [3] 0 [1000002, 3, 0] 73 7 67 [.v (.slice none 0 0)] ?_ rfl rfl (Wk.refl _)) ?_ ?_
  · simp -dsimp -implicitDefEqProofs only [go_sem, Nat.reduceBEq, Nat.reduceAdd, Nat.reduceLeDiff, Nat.reduceSub, Int.reduceEq]
  · refine ⟨by simp -dsimp -implicitDefEqProofs only [go_sem, Nat.reduceBEq, Nat.reduceAdd, Nat.reduceLeDiff, Nat.reduceSub, Int.reduceEq], by simp -dsimp -implicitDefEqProofs only [go_sem, Nat.reduceBEq, Nat.reduceAdd, Nat.reduceLeDiff, Nat.reduceSub, Int.reduceEq], by simp -dsimp -implicitDefEqProofs only [go_sem, Nat.reduceBEq, Nat.reduceAdd, Nat.reduceLeDiff, Nat.reduceSub, Int.reduceEq], by simp -dsimp -implicitDefEqProofs only [go_sem, Nat.reduceBEq, Nat.reduceAdd, Nat.reduceLeDiff, Nat.reduceSub, Int.reduceEq], by simp -dsimp -implicitDefEqProofs only [go_sem, Nat.reduceBEq, Nat.reduceAdd, Nat.reduceLeDiff, Nat.reduceSub, Int.reduceEq], by simp -dsimp -implicitDefEqProofs only [go_sem, Nat.reduceBEq, Nat.reduceAdd, Nat.reduceLeDiff, Nat.reduceSub, Int.reduceEq] <;> rfl, by simp -dsimp -implicitDefEqProofs only [go_sem, Nat.reduceBEq, Nat.reduceAdd, Nat.reduceLeDiff, Nat.reduceSub, Int.reduceEq], by simp -dsimp -implicitDefEqProofs only [go_sem, Nat.reduceBEq, Nat.reduceAdd, Nat.reduceLeDiff, Nat.reduceSub, Int.reduceEq], by simp -dsimp -implicitDefEqProofs only [go_sem, Nat.reduceBEq, Nat.reduceAdd, Nat.reduceLeDiff, Nat.reduceSub, Int.reduceEq] <;> rfl, by simp -dsimp -implicitDefEqProofs only [go_sem, Nat.reduceBEq, Nat.reduceAdd, Nat.reduceLeDiff, Nat.reduceSub, Int.reduceEq] <;> rfl⟩
  rintro i ⟨e, σ⟩ hi ⟨h1, h2, h3, h8, h9, h10, hs1, hs2, hs3, hs50⟩ K hK
  simp only at h1 h2 h3 h8 h9 h10 hs1 hs2 hs3 hs50
  simp -dsimp -implicitDefEqProofs only [go_sem, Nat.reduceBEq, Nat.reduceAdd, Nat.reduceLeDiff, Nat.reduceSub, Int.reduceEq, h1, h2, h3, h8, h9, h10, hs1, hs2, hs3, hs50]
  refine ifB'.of (fun hlt => ?_) (fun hlt => ?_)
  · have hlt : i < x.h.length := by omega
    have hp := hb _ (List.getElem_mem hlt)
    have htl : (x.h.take i).length = i := by simp; omega
    repeat (first | with_reducible refine ask.of (by omega) ?_ | simp -dsimp -implicitDefEqProofs only [go_sem, Nat.reduceBEq, Nat.reduceAdd, Nat.reduceLeDiff, Nat.reduceSub, Int.reduceEq, h1, h2, h3, h8, h9, h10, hs1, hs2, hs3, hs50, bleR, Sn_at hlt, snC, ble67, bl4])
    refine CallE.of (c_packetCopy x.h[i].p hp) (by rintro r rfl; (repeat' first | exact trivial | exact pure_rowB _ | exact pure_rowO _ | exact pure_rowI _ | exact pure_rowBB _ | exact pure_rowPk _ _ | exact pure_rowSn _ _ | exact pure_rowFd _ _ | exact pure_rowBBB _ | exact pure_rowCl _ _ | exact pure_rowTb _ _ _ | refine And.intro ?_ ?_)) (by simp -dsimp -implicitDefEqProofs only [go_sem, Nat.reduceBEq, Nat.reduceAdd, Nat.reduceLeDiff, Nat.reduceSub, Int.reduceEq, h1, h2, h3, h8, h9, h10, hs1, hs2, hs3, hs50, pkC]) ?_
    rintro r rfl
    simp -dsimp -implicitDefEqProofs only [go_sem, Nat.reduceBEq, Nat.reduceAdd, Nat.reduceLeDiff, Nat.reduceSub, Int.reduceEq, h1, h2, h3, h8, h9, h10, hs1, hs2, hs3, hs50, pkC]
    repeat (first | with_reducible refine ask.of (by first | omega | decide) ?_ | simp -dsimp -implicitDefEqProofs only [go_sem, Nat.reduceBEq, Nat.reduceAdd, Nat.reduceLeDiff, Nat.reduceSub, Int.reduceEq, h1, h2, h3, h8, h9, h10, hs1, hs2, hs3, hs50, bleR, snC, ble67, bl4])
    refine CallE.mutLend (c_put (x.h.take i) x.h[i] (by omega) hp) (by simp -dsimp -implicitDefEqProofs only [go_sem, Nat.reduceBEq, Nat.reduceAdd, Nat.reduceLeDiff, Nat.reduceSub, Int.reduceEq, h1, h2, h3, h8, h9, h10, hs1, hs2, hs3, hs50]) (by simp -dsimp -implicitDefEqProofs only [go_sem, Nat.reduceBEq, Nat.reduceAdd, Nat.reduceLeDiff, Nat.reduceSub, Int.reduceEq, h1, h2, h3, h8, h9, h10, hs1, hs2, hs3, hs50, snC]) (by simp -dsimp -implicitDefEqProofs only [go_sem, Nat.reduceBEq, Nat.reduceAdd, Nat.reduceLeDiff, Nat.reduceSub, Int.reduceEq, h1, h2, h3, h8, h9, h10, hs1, hs2, hs3, hs50, snC]) ?_
    rintro r rs ⟨rfl, rfl⟩
    simp -dsimp -implicitDefEqProofs only [go_sem, Nat.reduceBEq, Nat.reduceAdd, Nat.reduceLeDiff, Nat.reduceSub, Int.reduceEq, h1, h2, h3, h8, h9, h10, hs1, hs2, hs3, hs50, snC]
    repeat (first | with_reducible refine ask.of (by first | omega | decide) ?_ | simp -dsimp -implicitDefEqProofs only [go_sem, Nat.reduceBEq, Nat.reduceAdd, Nat.reduceLeDiff, Nat.reduceSub, Int.reduceEq, h1, h2, h3, h8, h9, h10, hs1, hs2, hs3, hs50, bleR, snC, ble67, bl4])
    refine hK _ _ hlt (Wk.refl _) ?_
    simp -dsimp -implicitDefEqProofs only [go_sem, Nat.reduceBEq, Nat.reduceAdd, Nat.reduceLeDiff, Nat.reduceSub, Int.reduceEq, h1, h2, h3, h8, h9, h10, hs1, hs2, hs3, hs50, wrap_succ (show i < 4611686018427387904 by omega), sn_take hlt]
  · have : i = x.h.length := by omega
    subst this
    rw [List.take_length] at hs50
    simp -dsimp -implicitDefEqProofs only [go_sem, Nat.reduceBEq, Nat.reduceAdd, Nat.reduceLeDiff, Nat.reduceSub, Int.reduceEq, h1, h2, h3, h8, h9, h10, hs1, hs2, hs3, hs50]
    repeat (first | with_reducible refine ask.of (by omega) ?_ | simp -dsimp -implicitDefEqProofs only [go_sem, Nat.reduceBEq, Nat.reduceAdd, Nat.reduceLeDiff, Nat.reduceSub, Int.reduceEq, h1, h2, h3, h8, h9, h10, hs1, hs2, hs3, hs50, bleR, bl4])
end Go.Ev
set_option linter.unusedSimpArgs false
set_option linter.unusedVariables false
namespace Go.Ev
open Go Go.RowKit Go.Proofs
def lo0 : LO := ⟨0, 0, 0, []⟩
noncomputable def resL (xc : LO × Int) : AV := .tup [.agg (loC 73 xc.1), .v (.int .i64 xc.2)]
theorem loB_t {x : LO} (h : loB x = true) : okLO x := of_decide_eq_true (inst := Classical.propDecidable _) h
theorem loB_f {x : LO} (h : loB x = false) : ¬ okLO x := of_decide_eq_false (inst := Classical.propDecidable _) h
end Go.Ev
