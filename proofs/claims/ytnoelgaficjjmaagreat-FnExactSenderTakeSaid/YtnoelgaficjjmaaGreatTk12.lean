/- Part 12 of what the row leans on: the evaluator, words, contracts of functions; pruned by a program of ours. -/
import Derived.Test.YtnoelgaficjjmaaGreatTk11
import Derived.Test.YtnoelgaficjjmaaGreatProg
import Derived.KernelRfl
namespace Go.Ev
open Go Go.Proofs
theorem mixed : Tryz.prog.follows .mixedOrders = true := by kernel_rfl
theorem tySz_31 : tySz Tryz.prog 31 = some (13, true) := by kernel_rfl
theorem par_5 : parTys Tryz.prog 5 = [31, 3] := by kernel_rfl
theorem cty_31 : cty Tryz.prog 31 = [some (84, 3), none, none, some (88, 2), none, none, none, none, some (130, 7), none, some (84, 3), none, some (132, 1)] := by kernel_rfl
theorem cty_3 : cty Tryz.prog 3 = [none] := by kernel_rfl
theorem par_7 : parTys Tryz.prog 7 = [31] := by kernel_rfl
theorem cty_41 : cty Tryz.prog 41 = [some (101, 3), none, none, some (105, 2), none, none, none, none, some (122, 7), none, some (101, 3), none, some (132, 1)] := by kernel_rfl
theorem zeroC_41 : zeroC Tryz.prog 41 = some [.v (.slice none 0 0), .v (.int .i64 0), .v (.int .i64 0), .v (.slice none 0 0), .v (.int .i64 0), .v (.int .i64 0), .v (.int .i64 0), .v (.int .i64 0), .v (.slice none 0 0), .v (.bool false), .v (.slice none 0 0), .v (.int .i64 0), .v (.slice none 0 0)] := by kernel_rfl
theorem tySz_41 : tySz Tryz.prog 41 = some (13, true) := by kernel_rfl
theorem par_9 : parTys Tryz.prog 9 = [41, 41] := by kernel_rfl
theorem par_10 : parTys Tryz.prog 10 = [41, 3] := by kernel_rfl
theorem par_11 : parTys Tryz.prog 11 = [41, 3] := by kernel_rfl
theorem cty_4 : cty Tryz.prog 4 = [none] := by kernel_rfl
theorem elTy_48 : elTy Tryz.prog 48 = some (5, 1, 1) := by kernel_rfl
theorem par_13 : parTys Tryz.prog 13 = [48] := by kernel_rfl
theorem cty_48 : cty Tryz.prog 48 = [some (5, 1)] := by kernel_rfl
theorem par_12 : parTys Tryz.prog 12 = [41, 48] := by kernel_rfl
theorem par_14 : parTys Tryz.prog 14 = [41, 48] := by kernel_rfl
theorem par_15 : parTys Tryz.prog 15 = [48, 48] := by kernel_rfl
theorem par_16 : parTys Tryz.prog 16 = [48, 3] := by kernel_rfl
theorem fldTy_31_0 : fldTy Tryz.prog 31 0 = some (0, 1, false) := by kernel_rfl
theorem tySz_22 : tySz Tryz.prog 22 = some (1, false) := by kernel_rfl
theorem par_17 : parTys Tryz.prog 17 = [22, 3] := by kernel_rfl
theorem cty_22 : cty Tryz.prog 22 = [some (84, 3)] := by kernel_rfl
theorem fldTy_31_3 : fldTy Tryz.prog 31 3 = some (3, 1, false) := by kernel_rfl
theorem tySz_23 : tySz Tryz.prog 23 = some (1, false) := by kernel_rfl
theorem par_18 : parTys Tryz.prog 18 = [23, 3] := by kernel_rfl
theorem cty_23 : cty Tryz.prog 23 = [some (88, 2)] := by kernel_rfl
theorem fldTy_31_5 : fldTy Tryz.prog 31 5 = some (5, 4, true) := by kernel_rfl
theorem tySz_26 : tySz Tryz.prog 26 = some (4, true) := by kernel_rfl
theorem par_19 : parTys Tryz.prog 19 = [26, 3] := by kernel_rfl
theorem cty_26 : cty Tryz.prog 26 = [none, none, none, some (130, 7)] := by kernel_rfl
theorem fldTy_31_6 : fldTy Tryz.prog 31 6 = some (9, 4, true) := by kernel_rfl
theorem tySz_29 : tySz Tryz.prog 29 = some (4, true) := by kernel_rfl
theorem par_20 : parTys Tryz.prog 20 = [29, 3] := by kernel_rfl
theorem cty_29 : cty Tryz.prog 29 = [none, some (84, 3), none, some (132, 1)] := by kernel_rfl
theorem par_21 : parTys Tryz.prog 21 = [41] := by kernel_rfl
theorem bldTy_41 : bldTy Tryz.prog 41 = some (.st [(0, 1), (1, 1), (2, 1), (3, 1), (4, 1), (5, 4), (9, 4)]) := by kernel_rfl
theorem fldTy_41_1 : fldTy Tryz.prog 41 1 = some (1, 1, false) := by kernel_rfl
theorem tySz_3 : tySz Tryz.prog 3 = some (1, false) := by kernel_rfl
theorem par_22 : parTys Tryz.prog 22 = [41] := by kernel_rfl
theorem fldTy_41_0 : fldTy Tryz.prog 41 0 = some (0, 1, false) := by kernel_rfl
theorem tySz_33 : tySz Tryz.prog 33 = some (1, false) := by kernel_rfl
theorem fldTy_41_2 : fldTy Tryz.prog 41 2 = some (2, 1, false) := by kernel_rfl
theorem fldTy_41_3 : fldTy Tryz.prog 41 3 = some (3, 1, false) := by kernel_rfl
theorem tySz_34 : tySz Tryz.prog 34 = some (1, false) := by kernel_rfl
theorem par_23 : parTys Tryz.prog 23 = [33, 3, 3, 34] := by kernel_rfl
theorem cty_33 : cty Tryz.prog 33 = [some (101, 3)] := by kernel_rfl
theorem cty_34 : cty Tryz.prog 34 = [some (105, 2)] := by kernel_rfl
theorem par_24 : parTys Tryz.prog 24 = [22] := by kernel_rfl
theorem fldTy_31_1 : fldTy Tryz.prog 31 1 = some (1, 1, false) := by kernel_rfl
theorem fldTy_31_2 : fldTy Tryz.prog 31 2 = some (2, 1, false) := by kernel_rfl
theorem par_25 : parTys Tryz.prog 25 = [23] := by kernel_rfl
theorem fldTy_31_4 : fldTy Tryz.prog 31 4 = some (4, 1, false) := by kernel_rfl
theorem fldTy_41_4 : fldTy Tryz.prog 41 4 = some (4, 1, false) := by kernel_rfl
theorem par_26 : parTys Tryz.prog 26 = [26] := by kernel_rfl
theorem fldTy_41_5 : fldTy Tryz.prog 41 5 = some (5, 4, true) := by kernel_rfl
theorem tySz_37 : tySz Tryz.prog 37 = some (4, true) := by kernel_rfl
theorem par_27 : parTys Tryz.prog 27 = [29] := by kernel_rfl
theorem fldTy_41_6 : fldTy Tryz.prog 41 6 = some (9, 4, true) := by kernel_rfl
theorem tySz_39 : tySz Tryz.prog 39 = some (4, true) := by kernel_rfl
theorem par_28 : parTys Tryz.prog 28 = [41] := by kernel_rfl
theorem par_29 : parTys Tryz.prog 29 = [41] := by kernel_rfl
theorem par_30 : parTys Tryz.prog 30 = [112] := by kernel_rfl
theorem cty_112 : cty Tryz.prog 112 = [none] := by kernel_rfl
theorem par_31 : parTys Tryz.prog 31 = [33, 33] := by kernel_rfl
theorem par_32 : parTys Tryz.prog 32 = [34, 34] := by kernel_rfl
theorem par_33 : parTys Tryz.prog 33 = [37, 37] := by kernel_rfl
theorem cty_37 : cty Tryz.prog 37 = [none, none, none, some (122, 7)] := by kernel_rfl
theorem par_34 : parTys Tryz.prog 34 = [39, 39] := by kernel_rfl
theorem cty_39 : cty Tryz.prog 39 = [none, some (101, 3), none, some (132, 1)] := by kernel_rfl
theorem par_35 : parTys Tryz.prog 35 = [33, 3] := by kernel_rfl
theorem par_36 : parTys Tryz.prog 36 = [34, 3] := by kernel_rfl
theorem par_37 : parTys Tryz.prog 37 = [37, 3] := by kernel_rfl
theorem par_38 : parTys Tryz.prog 38 = [39, 3] := by kernel_rfl
theorem par_39 : parTys Tryz.prog 39 = [33, 3] := by kernel_rfl
theorem par_40 : parTys Tryz.prog 40 = [34, 3] := by kernel_rfl
theorem par_41 : parTys Tryz.prog 41 = [37, 3] := by kernel_rfl
theorem par_42 : parTys Tryz.prog 42 = [39, 3] := by kernel_rfl
theorem par_43 : parTys Tryz.prog 43 = [48] := by kernel_rfl
theorem zeroC_75 : zeroC Tryz.prog 75 = some [.v (.int .i64 0), .v (.int .i64 0), .v (.int .i64 0), .v (.int .i64 0), .v (.bool false), .v (.slice none 0 0)] := by kernel_rfl
theorem tySz_75 : tySz Tryz.prog 75 = some (6, true) := by kernel_rfl
theorem fldTy_75_0 : fldTy Tryz.prog 75 0 = some (0, 1, false) := by kernel_rfl
theorem fldTy_75_1 : fldTy Tryz.prog 75 1 = some (1, 1, false) := by kernel_rfl
theorem fldTy_75_3 : fldTy Tryz.prog 75 3 = some (3, 1, false) := by kernel_rfl
theorem elTy_34 : elTy Tryz.prog 34 = some (105, 2, 32) := by kernel_rfl
theorem fldTy_75_2 : fldTy Tryz.prog 75 2 = some (2, 1, false) := by kernel_rfl
theorem fldTy_37_1 : fldTy Tryz.prog 37 1 = some (1, 1, false) := by kernel_rfl
theorem par_44 : parTys Tryz.prog 44 = [37, 3] := by kernel_rfl
theorem zeroC_37 : zeroC Tryz.prog 37 = some [.v (.int .i64 0), .v (.int .i64 0), .v (.int .i64 0), .v (.slice none 0 0)] := by kernel_rfl
theorem par_45 : parTys Tryz.prog 45 = [34] := by kernel_rfl
theorem zeroC_5 : zeroC Tryz.prog 5 = some [.v (.int .u8 0)] := by kernel_rfl
theorem cty_5 : cty Tryz.prog 5 = [none] := by kernel_rfl
theorem ixTy_48 : ixTy Tryz.prog 48 = some (.sl (5, 1, 1)) := by kernel_rfl
theorem tySz_5 : tySz Tryz.prog 5 = some (1, false) := by kernel_rfl
theorem par_46 : parTys Tryz.prog 46 = [48] := by kernel_rfl
theorem par_47 : parTys Tryz.prog 47 = [112, 75] := by kernel_rfl
theorem cty_75 : cty Tryz.prog 75 = [none, none, none, none, none, some (5, 1)] := by kernel_rfl
theorem cvTy_3_5 : cvTy Tryz.prog 3 5 = some (.int .u8) := by kernel_rfl
theorem elTy_22 : elTy Tryz.prog 22 = some (84, 3, 40) := by kernel_rfl
theorem ixTy_22 : ixTy Tryz.prog 22 = some (.sl (84, 3, 40)) := by kernel_rfl
theorem tySz_84 : tySz Tryz.prog 84 = some (3, true) := by kernel_rfl
theorem par_48 : parTys Tryz.prog 48 = [84, 3] := by kernel_rfl
theorem cty_84 : cty Tryz.prog 84 = [some (5, 1), none, none] := by kernel_rfl
theorem elTy_23 : elTy Tryz.prog 23 = some (88, 2, 32) := by kernel_rfl
theorem ixTy_23 : ixTy Tryz.prog 23 = some (.sl (88, 2, 32)) := by kernel_rfl
theorem tySz_88 : tySz Tryz.prog 88 = some (2, true) := by kernel_rfl
theorem par_49 : parTys Tryz.prog 49 = [88, 3] := by kernel_rfl
theorem cty_88 : cty Tryz.prog 88 = [none, some (165, 3)] := by kernel_rfl
theorem fldTy_26_3 : fldTy Tryz.prog 26 3 = some (3, 1, false) := by kernel_rfl
theorem tySz_24 : tySz Tryz.prog 24 = some (1, false) := by kernel_rfl
theorem par_50 : parTys Tryz.prog 50 = [24, 3] := by kernel_rfl
theorem cty_24 : cty Tryz.prog 24 = [some (130, 7)] := by kernel_rfl
theorem fldTy_29_1 : fldTy Tryz.prog 29 1 = some (1, 1, false) := by kernel_rfl
theorem fldTy_29_3 : fldTy Tryz.prog 29 3 = some (3, 1, false) := by kernel_rfl
theorem tySz_27 : tySz Tryz.prog 27 = some (1, false) := by kernel_rfl
theorem par_51 : parTys Tryz.prog 51 = [27, 3] := by kernel_rfl
theorem cty_27 : cty Tryz.prog 27 = [some (132, 1)] := by kernel_rfl
theorem par_52 : parTys Tryz.prog 52 = [33] := by kernel_rfl
theorem fldTy_37_0 : fldTy Tryz.prog 37 0 = some (0, 1, false) := by kernel_rfl
theorem par_53 : parTys Tryz.prog 53 = [37] := by kernel_rfl
theorem par_54 : parTys Tryz.prog 54 = [33, 34] := by kernel_rfl
theorem par_55 : parTys Tryz.prog 55 = [39] := by kernel_rfl
theorem fldTy_39_0 : fldTy Tryz.prog 39 0 = some (0, 1, false) := by kernel_rfl
theorem tySz_4 : tySz Tryz.prog 4 = some (1, false) := by kernel_rfl
theorem fldTy_39_1 : fldTy Tryz.prog 39 1 = some (1, 1, false) := by kernel_rfl
theorem par_56 : parTys Tryz.prog 56 = [33, 33] := by kernel_rfl
theorem fldTy_39_2 : fldTy Tryz.prog 39 2 = some (2, 1, false) := by kernel_rfl
theorem par_57 : parTys Tryz.prog 57 = [33] := by kernel_rfl
theorem par_58 : parTys Tryz.prog 58 = [37] := by kernel_rfl
theorem par_59 : parTys Tryz.prog 59 = [39] := by kernel_rfl
theorem par_60 : parTys Tryz.prog 60 = [33, 3] := by kernel_rfl
theorem zeroC_39 : zeroC Tryz.prog 39 = some [.v (.bool false), .v (.slice none 0 0), .v (.int .i64 0), .v (.slice none 0 0)] := by kernel_rfl
theorem bldTy_37 : bldTy Tryz.prog 37 = some (.st [(0, 1), (1, 1), (2, 1), (3, 1)]) := by kernel_rfl
theorem par_61 : parTys Tryz.prog 61 = [37, 48] := by kernel_rfl
theorem elTy_33 : elTy Tryz.prog 33 = some (101, 3, 40) := by kernel_rfl
theorem zeroC_101 : zeroC Tryz.prog 101 = some [.v (.slice none 0 0), .v (.int .i64 0), .v (.int .i64 0)] := by kernel_rfl
theorem cty_101 : cty Tryz.prog 101 = [some (5, 1), none, none] := by kernel_rfl
theorem par_62 : parTys Tryz.prog 62 = [84] := by kernel_rfl
theorem ixTy_33 : ixTy Tryz.prog 33 = some (.sl (101, 3, 40)) := by kernel_rfl
theorem tySz_101 : tySz Tryz.prog 101 = some (3, true) := by kernel_rfl
theorem zeroC_105 : zeroC Tryz.prog 105 = some [.v (.int .i64 0), .v (.slice none 0 0)] := by kernel_rfl
theorem cty_105 : cty Tryz.prog 105 = [none, some (149, 3)] := by kernel_rfl
theorem par_63 : parTys Tryz.prog 63 = [88] := by kernel_rfl
theorem ixTy_34 : ixTy Tryz.prog 34 = some (.sl (105, 2, 32)) := by kernel_rfl
theorem tySz_105 : tySz Tryz.prog 105 = some (2, true) := by kernel_rfl
theorem fldTy_26_0 : fldTy Tryz.prog 26 0 = some (0, 1, false) := by kernel_rfl
theorem fldTy_26_1 : fldTy Tryz.prog 26 1 = some (1, 1, false) := by kernel_rfl
theorem fldTy_26_2 : fldTy Tryz.prog 26 2 = some (2, 1, false) := by kernel_rfl
theorem fldTy_37_2 : fldTy Tryz.prog 37 2 = some (2, 1, false) := by kernel_rfl
theorem par_64 : parTys Tryz.prog 64 = [24] := by kernel_rfl
theorem fldTy_37_3 : fldTy Tryz.prog 37 3 = some (3, 1, false) := by kernel_rfl
theorem tySz_35 : tySz Tryz.prog 35 = some (1, false) := by kernel_rfl
theorem fldTy_29_0 : fldTy Tryz.prog 29 0 = some (0, 1, false) := by kernel_rfl
theorem fldTy_29_2 : fldTy Tryz.prog 29 2 = some (2, 1, false) := by kernel_rfl
theorem par_65 : parTys Tryz.prog 65 = [27] := by kernel_rfl
theorem fldTy_39_3 : fldTy Tryz.prog 39 3 = some (3, 1, false) := by kernel_rfl
theorem par_66 : parTys Tryz.prog 66 = [33] := by kernel_rfl
theorem par_67 : parTys Tryz.prog 67 = [37] := by kernel_rfl
theorem par_68 : parTys Tryz.prog 68 = [34, 111] := by kernel_rfl
theorem cty_111 : cty Tryz.prog 111 = [none] := by kernel_rfl
theorem par_71 : parTys Tryz.prog 71 = [39] := by kernel_rfl
theorem par_72 : parTys Tryz.prog 72 = [33, 33] := by kernel_rfl
theorem par_73 : parTys Tryz.prog 73 = [33] := by kernel_rfl
theorem par_74 : parTys Tryz.prog 74 = [34] := by kernel_rfl
theorem par_75 : parTys Tryz.prog 75 = [37] := by kernel_rfl
theorem par_76 : parTys Tryz.prog 76 = [39] := by kernel_rfl
theorem par_77 : parTys Tryz.prog 77 = [112] := by kernel_rfl
theorem par_78 : parTys Tryz.prog 78 = [101, 101] := by kernel_rfl
theorem par_79 : parTys Tryz.prog 79 = [105, 105] := by kernel_rfl
theorem par_80 : parTys Tryz.prog 80 = [35, 35] := by kernel_rfl
theorem cty_35 : cty Tryz.prog 35 = [some (122, 7)] := by kernel_rfl
theorem boolTy_4 : boolTy Tryz.prog 4 = some () := by kernel_rfl
theorem par_81 : parTys Tryz.prog 81 = [27, 27] := by kernel_rfl
theorem fldTy_101_0 : fldTy Tryz.prog 101 0 = some (0, 1, false) := by kernel_rfl
theorem tySz_48 : tySz Tryz.prog 48 = some (1, false) := by kernel_rfl
theorem fldTy_101_1 : fldTy Tryz.prog 101 1 = some (1, 1, false) := by kernel_rfl
theorem fldTy_101_2 : fldTy Tryz.prog 101 2 = some (2, 1, false) := by kernel_rfl
theorem fldTy_105_0 : fldTy Tryz.prog 105 0 = some (0, 1, false) := by kernel_rfl
theorem fldTy_105_1 : fldTy Tryz.prog 105 1 = some (1, 1, false) := by kernel_rfl
theorem tySz_103 : tySz Tryz.prog 103 = some (1, false) := by kernel_rfl
theorem par_82 : parTys Tryz.prog 82 = [103, 3] := by kernel_rfl
theorem cty_103 : cty Tryz.prog 103 = [some (149, 3)] := by kernel_rfl
theorem par_83 : parTys Tryz.prog 83 = [35, 3] := by kernel_rfl
theorem par_84 : parTys Tryz.prog 84 = [27, 3] := by kernel_rfl
theorem par_85 : parTys Tryz.prog 85 = [48, 3] := by kernel_rfl
theorem par_86 : parTys Tryz.prog 86 = [103, 3] := by kernel_rfl
theorem par_87 : parTys Tryz.prog 87 = [35, 3] := by kernel_rfl
theorem par_88 : parTys Tryz.prog 88 = [27, 3] := by kernel_rfl
theorem bldTy_75 : bldTy Tryz.prog 75 = some (.st [(0, 1), (1, 1), (2, 1), (3, 1), (4, 1), (5, 1)]) := by kernel_rfl
theorem cvTy_5_3 : cvTy Tryz.prog 5 3 = some (.int .i64) := by kernel_rfl
theorem par_89 : parTys Tryz.prog 89 = [48] := by kernel_rfl
theorem par_90 : parTys Tryz.prog 90 = [48] := by kernel_rfl
theorem par_92 : parTys Tryz.prog 92 = [75] := by kernel_rfl
theorem par_91 : parTys Tryz.prog 91 = [48, 48] := by kernel_rfl
theorem elTy_35 : elTy Tryz.prog 35 = some (122, 7, 72) := by kernel_rfl
theorem ixTy_35 : ixTy Tryz.prog 35 = some (.sl (122, 7, 72)) := by kernel_rfl
theorem fldTy_122_0 : fldTy Tryz.prog 122 0 = some (0, 6, true) := by kernel_rfl
theorem par_93 : parTys Tryz.prog 93 = [75] := by kernel_rfl
theorem fldTy_122_1 : fldTy Tryz.prog 122 1 = some (6, 1, false) := by kernel_rfl
theorem bldTy_122 : bldTy Tryz.prog 122 = some (.st [(0, 6), (6, 1)]) := by kernel_rfl
theorem zeroC_122 : zeroC Tryz.prog 122 = some [.v (.int .i64 0), .v (.int .i64 0), .v (.int .i64 0), .v (.int .i64 0), .v (.bool false), .v (.slice none 0 0), .v (.int .i64 0)] := by kernel_rfl
theorem cty_122 : cty Tryz.prog 122 = [none, none, none, none, none, some (5, 1), none] := by kernel_rfl
theorem par_94 : parTys Tryz.prog 94 = [105] := by kernel_rfl
theorem par_95 : parTys Tryz.prog 95 = [48] := by kernel_rfl
theorem par_96 : parTys Tryz.prog 96 = [48] := by kernel_rfl
theorem par_97 : parTys Tryz.prog 97 = [75] := by kernel_rfl
theorem par_98 : parTys Tryz.prog 98 = [48, 48] := by kernel_rfl
theorem par_99 : parTys Tryz.prog 99 = [37, 3] := by kernel_rfl
theorem fldTy_84_0 : fldTy Tryz.prog 84 0 = some (0, 1, false) := by kernel_rfl
theorem par_100 : parTys Tryz.prog 100 = [48, 3] := by kernel_rfl
theorem fldTy_88_1 : fldTy Tryz.prog 88 1 = some (1, 1, false) := by kernel_rfl
theorem tySz_86 : tySz Tryz.prog 86 = some (1, false) := by kernel_rfl
theorem par_101 : parTys Tryz.prog 101 = [86, 3] := by kernel_rfl
theorem cty_86 : cty Tryz.prog 86 = [some (165, 3)] := by kernel_rfl
theorem elTy_24 : elTy Tryz.prog 24 = some (130, 7, 72) := by kernel_rfl
theorem ixTy_24 : ixTy Tryz.prog 24 = some (.sl (130, 7, 72)) := by kernel_rfl
theorem tySz_130 : tySz Tryz.prog 130 = some (7, true) := by kernel_rfl
theorem par_102 : parTys Tryz.prog 102 = [130, 3] := by kernel_rfl
theorem cty_130 : cty Tryz.prog 130 = [none, none, none, none, none, some (5, 1), none] := by kernel_rfl
theorem elTy_27 : elTy Tryz.prog 27 = some (132, 1, 24) := by kernel_rfl
theorem ixTy_27 : ixTy Tryz.prog 27 = some (.sl (132, 1, 24)) := by kernel_rfl
theorem tySz_132 : tySz Tryz.prog 132 = some (1, false) := by kernel_rfl
theorem par_103 : parTys Tryz.prog 103 = [132, 3] := by kernel_rfl
theorem cty_132 : cty Tryz.prog 132 = [some (48, 1)] := by kernel_rfl
theorem par_104 : parTys Tryz.prog 104 = [101] := by kernel_rfl
theorem tySz_122 : tySz Tryz.prog 122 = some (7, true) := by kernel_rfl
theorem par_105 : parTys Tryz.prog 105 = [75] := by kernel_rfl
theorem par_106 : parTys Tryz.prog 106 = [33, 105] := by kernel_rfl
theorem par_107 : parTys Tryz.prog 107 = [132] := by kernel_rfl
theorem elTy_132 : elTy Tryz.prog 132 = some (48, 1, 24) := by kernel_rfl
theorem bldTy_101 : bldTy Tryz.prog 101 = some (.st [(0, 1), (1, 1), (2, 1)]) := by kernel_rfl
theorem bldTy_39 : bldTy Tryz.prog 39 = some (.st [(0, 1), (1, 1), (2, 1), (3, 1)]) := by kernel_rfl
theorem par_108 : parTys Tryz.prog 108 = [132] := by kernel_rfl
theorem zeroC_132 : zeroC Tryz.prog 132 = some [.v (.slice none 0 0)] := by kernel_rfl
theorem par_109 : parTys Tryz.prog 109 = [3, 3] := by kernel_rfl
theorem zeroC_48 : zeroC Tryz.prog 48 = some [.v (.slice none 0 0)] := by kernel_rfl
theorem bldTy_139 : bldTy Tryz.prog 139 = some (.st [(0, 1), (1, 1), (2, 1), (3, 1)]) := by kernel_rfl
theorem zeroC_139 : zeroC Tryz.prog 139 = some [.v (.int .i64 0), .v (.int .i64 0), .v (.int .i64 0), .v (.slice none 0 0)] := by kernel_rfl
theorem tySz_139 : tySz Tryz.prog 139 = some (4, true) := by kernel_rfl
theorem fldTy_139_3 : fldTy Tryz.prog 139 3 = some (3, 1, false) := by kernel_rfl
theorem par_110 : parTys Tryz.prog 110 = [33, 3] := by kernel_rfl
theorem par_111 : parTys Tryz.prog 111 = [139] := by kernel_rfl
theorem cty_139 : cty Tryz.prog 139 = [none, none, none, some (48, 1)] := by kernel_rfl
theorem fldTy_84_1 : fldTy Tryz.prog 84 1 = some (1, 1, false) := by kernel_rfl
theorem fldTy_84_2 : fldTy Tryz.prog 84 2 = some (2, 1, false) := by kernel_rfl
theorem fldTy_88_0 : fldTy Tryz.prog 88 0 = some (0, 1, false) := by kernel_rfl
theorem par_112 : parTys Tryz.prog 112 = [86] := by kernel_rfl
theorem par_113 : parTys Tryz.prog 113 = [130] := by kernel_rfl
theorem par_114 : parTys Tryz.prog 114 = [132] := by kernel_rfl
theorem mapTy_144 : mapTy Tryz.prog 144 = some (.string, 3) := by kernel_rfl
theorem cvTy_48_9 : cvTy Tryz.prog 48 9 = some .bytes := by kernel_rfl
theorem zeroV_3 : zeroV Tryz.prog 3 = some (.int .i64 0) := by kernel_rfl
theorem par_115 : parTys Tryz.prog 115 = [101] := by kernel_rfl
theorem par_116 : parTys Tryz.prog 116 = [75] := by kernel_rfl
theorem par_117 : parTys Tryz.prog 117 = [34, 111] := by kernel_rfl
theorem par_70 : parTys Tryz.prog 70 = [33, 105] := by kernel_rfl
theorem elTy_103 : elTy Tryz.prog 103 = some (149, 3, 40) := by kernel_rfl
theorem par_118 : parTys Tryz.prog 118 = [105, 3] := by kernel_rfl
theorem ixTy_103 : ixTy Tryz.prog 103 = some (.sl (149, 3, 40)) := by kernel_rfl
theorem tySz_149 : tySz Tryz.prog 149 = some (3, true) := by kernel_rfl
theorem zeroC_149 : zeroC Tryz.prog 149 = some [.v (.bool false), .v (.int .i64 0), .v (.slice none 0 0)] := by kernel_rfl
theorem par_119 : parTys Tryz.prog 119 = [101, 149] := by kernel_rfl
theorem cty_149 : cty Tryz.prog 149 = [none, none, some (5, 1)] := by kernel_rfl
theorem fldTy_149_2 : fldTy Tryz.prog 149 2 = some (2, 1, false) := by kernel_rfl
theorem fldTy_149_0 : fldTy Tryz.prog 149 0 = some (0, 1, false) := by kernel_rfl
theorem par_120 : parTys Tryz.prog 120 = [132] := by kernel_rfl
theorem par_121 : parTys Tryz.prog 121 = [33, 33, 113] := by kernel_rfl
theorem cty_113 : cty Tryz.prog 113 = [none] := by kernel_rfl
theorem par_123 : parTys Tryz.prog 123 = [105] := by kernel_rfl
theorem bldTy_153 : bldTy Tryz.prog 153 = some (.st [(0, 1)]) := by kernel_rfl
theorem zeroC_153 : zeroC Tryz.prog 153 = some [.v (.slice none 0 0)] := by kernel_rfl
theorem tySz_153 : tySz Tryz.prog 153 = some (1, true) := by kernel_rfl
theorem par_125 : parTys Tryz.prog 125 = [75] := by kernel_rfl
theorem par_124 : parTys Tryz.prog 124 = [178, 122] := by kernel_rfl
theorem cty_178 : cty Tryz.prog 178 = [none] := by kernel_rfl
theorem fldTy_153_0 : fldTy Tryz.prog 153 0 = some (0, 1, false) := by kernel_rfl
theorem par_126 : parTys Tryz.prog 126 = [132] := by kernel_rfl
theorem par_127 : parTys Tryz.prog 127 = [33, 3] := by kernel_rfl
theorem par_128 : parTys Tryz.prog 128 = [37, 48] := by kernel_rfl
theorem par_129 : parTys Tryz.prog 129 = [103, 103] := by kernel_rfl
theorem par_130 : parTys Tryz.prog 130 = [122, 122] := by kernel_rfl
theorem par_131 : parTys Tryz.prog 131 = [132, 132] := by kernel_rfl
theorem fldTy_149_1 : fldTy Tryz.prog 149 1 = some (1, 1, false) := by kernel_rfl
theorem fldTy_75_4 : fldTy Tryz.prog 75 4 = some (4, 1, false) := by kernel_rfl
theorem fldTy_75_5 : fldTy Tryz.prog 75 5 = some (5, 1, false) := by kernel_rfl
theorem par_132 : parTys Tryz.prog 132 = [132, 3] := by kernel_rfl
theorem par_133 : parTys Tryz.prog 133 = [132, 3] := by kernel_rfl
theorem par_134 : parTys Tryz.prog 134 = [48] := by kernel_rfl
theorem cvTy_158_3 : cvTy Tryz.prog 158 3 = some (.int .i64) := by kernel_rfl
theorem bldTy_105 : bldTy Tryz.prog 105 = some (.st [(0, 1), (1, 1)]) := by kernel_rfl
theorem bldTy_149 : bldTy Tryz.prog 149 = some (.st [(0, 1), (1, 1), (2, 1)]) := by kernel_rfl
theorem cvTy_5_2 : cvTy Tryz.prog 5 2 = some (.int .i64) := by kernel_rfl
theorem cty_2 : cty Tryz.prog 2 = [none] := by kernel_rfl
theorem par_136 : parTys Tryz.prog 136 = [3, 3] := by kernel_rfl
theorem par_135 : parTys Tryz.prog 135 = [132] := by kernel_rfl
theorem par_137 : parTys Tryz.prog 137 = [178, 163] := by kernel_rfl
theorem cty_163 : cty Tryz.prog 163 = [none] := by kernel_rfl
theorem elTy_86 : elTy Tryz.prog 86 = some (165, 3, 40) := by kernel_rfl
theorem ixTy_86 : ixTy Tryz.prog 86 = some (.sl (165, 3, 40)) := by kernel_rfl
theorem tySz_165 : tySz Tryz.prog 165 = some (3, true) := by kernel_rfl
theorem par_139 : parTys Tryz.prog 139 = [165, 3] := by kernel_rfl
theorem cty_165 : cty Tryz.prog 165 = [none, none, some (5, 1)] := by kernel_rfl
theorem fldTy_130_0 : fldTy Tryz.prog 130 0 = some (0, 6, true) := by kernel_rfl
theorem tySz_128 : tySz Tryz.prog 128 = some (6, true) := by kernel_rfl
theorem par_140 : parTys Tryz.prog 140 = [128, 3] := by kernel_rfl
theorem cty_128 : cty Tryz.prog 128 = [none, none, none, none, none, some (5, 1)] := by kernel_rfl
theorem ixTy_132 : ixTy Tryz.prog 132 = some (.sl (48, 1, 24)) := by kernel_rfl
theorem par_141 : parTys Tryz.prog 141 = [48] := by kernel_rfl
theorem par_142 : parTys Tryz.prog 142 = [3] := by kernel_rfl
theorem par_143 : parTys Tryz.prog 143 = [105, 3] := by kernel_rfl
theorem par_144 : parTys Tryz.prog 144 = [101, 149] := by kernel_rfl
theorem par_145 : parTys Tryz.prog 145 = [103, 3] := by kernel_rfl
theorem par_146 : parTys Tryz.prog 146 = [132, 48] := by kernel_rfl
theorem cvTy_3_171 : cvTy Tryz.prog 3 171 = some (.int .u64) := by kernel_rfl
theorem cvTy_171_5 : cvTy Tryz.prog 171 5 = some (.int .u8) := by kernel_rfl
theorem fldTy_139_0 : fldTy Tryz.prog 139 0 = some (0, 1, false) := by kernel_rfl
theorem fldTy_139_1 : fldTy Tryz.prog 139 1 = some (1, 1, false) := by kernel_rfl
theorem fldTy_139_2 : fldTy Tryz.prog 139 2 = some (2, 1, false) := by kernel_rfl
theorem par_147 : parTys Tryz.prog 147 = [132] := by kernel_rfl
theorem par_148 : parTys Tryz.prog 148 = [165] := by kernel_rfl
theorem par_149 : parTys Tryz.prog 149 = [128] := by kernel_rfl
theorem fldTy_130_1 : fldTy Tryz.prog 130 1 = some (6, 1, false) := by kernel_rfl
theorem par_150 : parTys Tryz.prog 150 = [48] := by kernel_rfl
theorem elTy_177 : elTy Tryz.prog 177 = some (3, 1, 8) := by kernel_rfl
theorem zeroC_3 : zeroC Tryz.prog 3 = some [.v (.int .i64 0)] := by kernel_rfl
theorem par_151 : parTys Tryz.prog 151 = [177, 3] := by kernel_rfl
theorem cty_177 : cty Tryz.prog 177 = [some (3, 1)] := by kernel_rfl
theorem par_152 : parTys Tryz.prog 152 = [139] := by kernel_rfl
theorem par_154 : parTys Tryz.prog 154 = [149, 149] := by kernel_rfl
theorem par_155 : parTys Tryz.prog 155 = [75, 75] := by kernel_rfl
theorem cvTy_5_158 : cvTy Tryz.prog 5 158 = some (.int .u32) := by kernel_rfl
theorem cty_158 : cty Tryz.prog 158 = [none] := by kernel_rfl
theorem par_156 : parTys Tryz.prog 156 = [132] := by kernel_rfl
theorem par_157 : parTys Tryz.prog 157 = [48] := by kernel_rfl
theorem fldTy_165_2 : fldTy Tryz.prog 165 2 = some (2, 1, false) := by kernel_rfl
theorem fldTy_128_5 : fldTy Tryz.prog 128 5 = some (5, 1, false) := by kernel_rfl
theorem par_158 : parTys Tryz.prog 158 = [3, 3] := by kernel_rfl
theorem fldTy_165_0 : fldTy Tryz.prog 165 0 = some (0, 1, false) := by kernel_rfl
theorem fldTy_165_1 : fldTy Tryz.prog 165 1 = some (1, 1, false) := by kernel_rfl
theorem fldTy_128_0 : fldTy Tryz.prog 128 0 = some (0, 1, false) := by kernel_rfl
theorem fldTy_128_1 : fldTy Tryz.prog 128 1 = some (1, 1, false) := by kernel_rfl
theorem fldTy_128_2 : fldTy Tryz.prog 128 2 = some (2, 1, false) := by kernel_rfl
theorem fldTy_128_3 : fldTy Tryz.prog 128 3 = some (3, 1, false) := by kernel_rfl
theorem fldTy_128_4 : fldTy Tryz.prog 128 4 = some (4, 1, false) := by kernel_rfl
theorem par_159 : parTys Tryz.prog 159 = [177, 3] := by kernel_rfl
theorem par_160 : parTys Tryz.prog 160 = [177, 3] := by kernel_rfl
theorem par_161 : parTys Tryz.prog 161 = [177, 3] := by kernel_rfl
theorem par_162 : parTys Tryz.prog 162 = [177, 3] := by kernel_rfl
theorem par_163 : parTys Tryz.prog 163 = [139] := by kernel_rfl
theorem par_164 : parTys Tryz.prog 164 = [132] := by kernel_rfl
theorem par_166 : parTys Tryz.prog 166 = [48, 3] := by kernel_rfl
theorem par_167 : parTys Tryz.prog 167 = [] := by kernel_rfl
theorem zeroC_189 : zeroC Tryz.prog 189 = some (List.replicate 256 (.v (.int .u32 0))) := by kernel_rfl
theorem tySz_189 : tySz Tryz.prog 189 = some (256, true) := by kernel_rfl
theorem cvTy_158_5 : cvTy Tryz.prog 158 5 = some (.int .u8) := by kernel_rfl
theorem ixTy_189 : ixTy Tryz.prog 189 = some (.ar 256 1) := by kernel_rfl
theorem tySz_158 : tySz Tryz.prog 158 = some (1, false) := by kernel_rfl
theorem cvTy_3_160 : cvTy Tryz.prog 3 160 = some (.int .u64) := by kernel_rfl
theorem ixTy_177 : ixTy Tryz.prog 177 = some (.sl (3, 1, 8)) := by kernel_rfl
theorem cvTy_3_185 : cvTy Tryz.prog 3 185 = some (.int .i8) := by kernel_rfl
theorem cvTy_185_3 : cvTy Tryz.prog 185 3 = some (.int .i64) := by kernel_rfl
theorem cvTy_3_186 : cvTy Tryz.prog 3 186 = some (.int .i16) := by kernel_rfl
theorem cvTy_186_3 : cvTy Tryz.prog 186 3 = some (.int .i64) := by kernel_rfl
theorem cvTy_3_21 : cvTy Tryz.prog 3 21 = some (.int .i32) := by kernel_rfl
theorem cvTy_21_3 : cvTy Tryz.prog 21 3 = some (.int .i64) := by kernel_rfl
theorem intTy_3 : intTy Tryz.prog 3 = some () := by kernel_rfl
theorem bldTy_189 : bldTy Tryz.prog 189 = some (.ar 1) := by kernel_rfl
theorem cvTy_3_158 : cvTy Tryz.prog 3 158 = some (.int .u32) := by kernel_rfl
theorem cty_189 : cty Tryz.prog 189 = [none] := by kernel_rfl
theorem res_4 : Tryz.f4.results.toList = [.tmp 4] := rfl
theorem rty_4 : Tryz.f4.resultTypes.toList = [4] := rfl
theorem res_5 : Tryz.f5.results.toList = [.tmp 4] := rfl
theorem rty_5 : Tryz.f5.resultTypes.toList = [3] := rfl
theorem res_7 : Tryz.f7.results.toList = [.cell 2 41] := rfl
theorem rty_7 : Tryz.f7.resultTypes.toList = [41] := rfl
theorem res_9 : Tryz.f9.results.toList = [.tmp 4] := rfl
theorem rty_9 : Tryz.f9.resultTypes.toList = [4] := rfl
theorem res_10 : Tryz.f10.results.toList = [.tmp 4] := rfl
theorem rty_10 : Tryz.f10.resultTypes.toList = [3] := rfl
theorem res_11 : Tryz.f11.results.toList = [.tmp 4] := rfl
theorem rty_11 : Tryz.f11.resultTypes.toList = [3] := rfl
theorem res_12 : Tryz.f12.results.toList = [.cell 4 41, .tmp 5] := rfl
theorem rty_12 : Tryz.f12.resultTypes.toList = [41, 3] := rfl
theorem res_13 : Tryz.f13.results.toList = [.tmp 2] := rfl
theorem rty_13 : Tryz.f13.resultTypes.toList = [48] := rfl
theorem res_14 : Tryz.f14.results.toList = [.cell 4 41, .tmp 5] := rfl
theorem rty_14 : Tryz.f14.resultTypes.toList = [41, 3] := rfl
theorem res_15 : Tryz.f15.results.toList = [.tmp 4] := rfl
theorem rty_15 : Tryz.f15.resultTypes.toList = [4] := rfl
theorem res_16 : Tryz.f16.results.toList = [.tmp 4] := rfl
theorem rty_16 : Tryz.f16.resultTypes.toList = [3] := rfl
theorem res_17 : Tryz.f17.results.toList = [.tmp 4] := rfl
theorem rty_17 : Tryz.f17.resultTypes.toList = [3] := rfl
theorem res_18 : Tryz.f18.results.toList = [.tmp 4] := rfl
theorem rty_18 : Tryz.f18.resultTypes.toList = [3] := rfl
theorem res_19 : Tryz.f19.results.toList = [.tmp 4] := rfl
theorem rty_19 : Tryz.f19.resultTypes.toList = [3] := rfl
theorem res_20 : Tryz.f20.results.toList = [.tmp 4] := rfl
theorem rty_20 : Tryz.f20.resultTypes.toList = [3] := rfl
theorem res_21 : Tryz.f21.results.toList = [.tmp 2] := rfl
theorem rty_21 : Tryz.f21.resultTypes.toList = [4] := rfl
theorem res_22 : Tryz.f22.results.toList = [.cell 2 41] := rfl
theorem rty_22 : Tryz.f22.resultTypes.toList = [41] := rfl
theorem res_23 : Tryz.f23.results.toList = [.cell 8 41] := rfl
theorem rty_23 : Tryz.f23.resultTypes.toList = [41] := rfl
theorem res_24 : Tryz.f24.results.toList = [.tmp 2] := rfl
theorem rty_24 : Tryz.f24.resultTypes.toList = [33] := rfl
theorem res_25 : Tryz.f25.results.toList = [.tmp 2] := rfl
theorem rty_25 : Tryz.f25.resultTypes.toList = [34] := rfl
theorem res_26 : Tryz.f26.results.toList = [.cell 2 37] := rfl
theorem rty_26 : Tryz.f26.resultTypes.toList = [37] := rfl
theorem res_27 : Tryz.f27.results.toList = [.cell 2 39] := rfl
theorem rty_27 : Tryz.f27.resultTypes.toList = [39] := rfl
theorem res_28 : Tryz.f28.results.toList = [.tmp 2] := rfl
theorem rty_28 : Tryz.f28.resultTypes.toList = [4] := rfl
theorem res_29 : Tryz.f29.results.toList = [.cell 2 41] := rfl
theorem rty_29 : Tryz.f29.resultTypes.toList = [41] := rfl
theorem res_30 : Tryz.f30.results.toList = [.tmp 2] := rfl
theorem rty_30 : Tryz.f30.resultTypes.toList = [3] := rfl
theorem res_31 : Tryz.f31.results.toList = [.tmp 4] := rfl
theorem rty_31 : Tryz.f31.resultTypes.toList = [4] := rfl
theorem res_32 : Tryz.f32.results.toList = [.tmp 4] := rfl
theorem rty_32 : Tryz.f32.resultTypes.toList = [4] := rfl
theorem res_33 : Tryz.f33.results.toList = [.tmp 4] := rfl
theorem rty_33 : Tryz.f33.resultTypes.toList = [4] := rfl
theorem res_34 : Tryz.f34.results.toList = [.tmp 4] := rfl
theorem rty_34 : Tryz.f34.resultTypes.toList = [4] := rfl
theorem res_35 : Tryz.f35.results.toList = [.tmp 4] := rfl
theorem rty_35 : Tryz.f35.resultTypes.toList = [3] := rfl
theorem res_36 : Tryz.f36.results.toList = [.tmp 4] := rfl
theorem rty_36 : Tryz.f36.resultTypes.toList = [3] := rfl
theorem res_37 : Tryz.f37.results.toList = [.tmp 4] := rfl
theorem rty_37 : Tryz.f37.resultTypes.toList = [3] := rfl
theorem res_38 : Tryz.f38.results.toList = [.tmp 4] := rfl
theorem rty_38 : Tryz.f38.resultTypes.toList = [3] := rfl
theorem res_39 : Tryz.f39.results.toList = [.tmp 4] := rfl
theorem rty_39 : Tryz.f39.resultTypes.toList = [3] := rfl
theorem res_40 : Tryz.f40.results.toList = [.tmp 4] := rfl
theorem rty_40 : Tryz.f40.resultTypes.toList = [3] := rfl
theorem res_41 : Tryz.f41.results.toList = [.tmp 4] := rfl
theorem rty_41 : Tryz.f41.resultTypes.toList = [3] := rfl
theorem res_42 : Tryz.f42.results.toList = [.tmp 4] := rfl
theorem rty_42 : Tryz.f42.resultTypes.toList = [3] := rfl
theorem res_43 : Tryz.f43.results.toList = [.cell 2 75, .tmp 3] := rfl
theorem rty_43 : Tryz.f43.resultTypes.toList = [75, 3] := rfl
theorem res_44 : Tryz.f44.results.toList = [.cell 4 37, .tmp 5] := rfl
theorem rty_44 : Tryz.f44.resultTypes.toList = [37, 3] := rfl
theorem res_45 : Tryz.f45.results.toList = [.tmp 2] := rfl
theorem rty_45 : Tryz.f45.resultTypes.toList = [34] := rfl
theorem res_46 : Tryz.f46.results.toList = [.cell 2 75, .tmp 3] := rfl
theorem rty_46 : Tryz.f46.resultTypes.toList = [75, 3] := rfl
theorem res_47 : Tryz.f47.results.toList = [.tmp 4] := rfl
theorem rty_47 : Tryz.f47.resultTypes.toList = [3] := rfl
theorem res_48 : Tryz.f48.results.toList = [.tmp 4] := rfl
theorem rty_48 : Tryz.f48.resultTypes.toList = [3] := rfl
theorem res_49 : Tryz.f49.results.toList = [.tmp 4] := rfl
theorem rty_49 : Tryz.f49.resultTypes.toList = [3] := rfl
theorem res_50 : Tryz.f50.results.toList = [.tmp 4] := rfl
theorem rty_50 : Tryz.f50.resultTypes.toList = [3] := rfl
theorem res_51 : Tryz.f51.results.toList = [.tmp 4] := rfl
theorem rty_51 : Tryz.f51.resultTypes.toList = [3] := rfl
theorem res_52 : Tryz.f52.results.toList = [.tmp 2] := rfl
theorem rty_52 : Tryz.f52.resultTypes.toList = [4] := rfl
theorem res_53 : Tryz.f53.results.toList = [.tmp 2] := rfl
theorem rty_53 : Tryz.f53.resultTypes.toList = [4] := rfl
theorem res_54 : Tryz.f54.results.toList = [.tmp 4] := rfl
theorem rty_54 : Tryz.f54.resultTypes.toList = [4] := rfl
theorem res_55 : Tryz.f55.results.toList = [.tmp 2] := rfl
theorem rty_55 : Tryz.f55.resultTypes.toList = [4] := rfl
theorem res_56 : Tryz.f56.results.toList = [.tmp 4] := rfl
theorem rty_56 : Tryz.f56.resultTypes.toList = [4] := rfl
theorem res_57 : Tryz.f57.results.toList = [.tmp 2] := rfl
theorem rty_57 : Tryz.f57.resultTypes.toList = [33] := rfl
theorem res_58 : Tryz.f58.results.toList = [.cell 2 37] := rfl
theorem rty_58 : Tryz.f58.resultTypes.toList = [37] := rfl
theorem res_59 : Tryz.f59.results.toList = [.cell 2 39] := rfl
theorem rty_59 : Tryz.f59.resultTypes.toList = [39] := rfl
theorem res_60 : Tryz.f60.results.toList = [.cell 4 39, .tmp 5, .tmp 6] := rfl
theorem rty_60 : Tryz.f60.resultTypes.toList = [39, 48, 3] := rfl
theorem res_61 : Tryz.f61.results.toList = [.cell 4 37, .tmp 5] := rfl
theorem rty_61 : Tryz.f61.resultTypes.toList = [37, 3] := rfl
theorem res_62 : Tryz.f62.results.toList = [.cell 2 101] := rfl
theorem rty_62 : Tryz.f62.resultTypes.toList = [101] := rfl
theorem res_63 : Tryz.f63.results.toList = [.cell 2 105] := rfl
theorem rty_63 : Tryz.f63.resultTypes.toList = [105] := rfl
theorem res_64 : Tryz.f64.results.toList = [.tmp 2] := rfl
theorem rty_64 : Tryz.f64.resultTypes.toList = [35] := rfl
theorem res_65 : Tryz.f65.results.toList = [.tmp 2] := rfl
theorem rty_65 : Tryz.f65.resultTypes.toList = [27] := rfl
theorem res_66 : Tryz.f66.results.toList = [.tmp 2] := rfl
theorem rty_66 : Tryz.f66.resultTypes.toList = [4] := rfl
theorem res_67 : Tryz.f67.results.toList = [.tmp 2] := rfl
theorem rty_67 : Tryz.f67.resultTypes.toList = [4] := rfl
theorem res_68 : Tryz.f68.results.toList = [.tmp 4] := rfl
theorem rty_68 : Tryz.f68.resultTypes.toList = [4] := rfl
theorem res_69 : Tryz.f69.results.toList = [.tmp 3] := rfl
theorem rty_69 : Tryz.f69.resultTypes.toList = [4] := rfl
theorem res_70 : Tryz.f70.results.toList = [.tmp 4] := rfl
theorem rty_70 : Tryz.f70.resultTypes.toList = [4] := rfl
theorem res_71 : Tryz.f71.results.toList = [.tmp 2] := rfl
theorem rty_71 : Tryz.f71.resultTypes.toList = [4] := rfl
theorem res_72 : Tryz.f72.results.toList = [.tmp 4] := rfl
theorem rty_72 : Tryz.f72.resultTypes.toList = [4] := rfl
theorem res_73 : Tryz.f73.results.toList = [.tmp 2] := rfl
theorem rty_73 : Tryz.f73.resultTypes.toList = [33] := rfl
theorem res_74 : Tryz.f74.results.toList = [.tmp 2] := rfl
theorem rty_74 : Tryz.f74.resultTypes.toList = [34] := rfl
theorem res_75 : Tryz.f75.results.toList = [.cell 2 37] := rfl
theorem rty_75 : Tryz.f75.resultTypes.toList = [37] := rfl
theorem res_76 : Tryz.f76.results.toList = [.cell 2 39] := rfl
theorem rty_76 : Tryz.f76.resultTypes.toList = [39] := rfl
theorem res_77 : Tryz.f77.results.toList = [] := rfl
theorem rty_77 : Tryz.f77.resultTypes.toList = [] := rfl
theorem res_78 : Tryz.f78.results.toList = [.tmp 4] := rfl
theorem rty_78 : Tryz.f78.resultTypes.toList = [4] := rfl
theorem res_79 : Tryz.f79.results.toList = [.tmp 4] := rfl
theorem rty_79 : Tryz.f79.resultTypes.toList = [4] := rfl
theorem res_80 : Tryz.f80.results.toList = [.tmp 4] := rfl
theorem rty_80 : Tryz.f80.resultTypes.toList = [4] := rfl
theorem res_81 : Tryz.f81.results.toList = [.tmp 4] := rfl
theorem rty_81 : Tryz.f81.resultTypes.toList = [4] := rfl
theorem res_82 : Tryz.f82.results.toList = [.tmp 4] := rfl
theorem rty_82 : Tryz.f82.resultTypes.toList = [3] := rfl
theorem res_83 : Tryz.f83.results.toList = [.tmp 4] := rfl
theorem rty_83 : Tryz.f83.resultTypes.toList = [3] := rfl
theorem res_84 : Tryz.f84.results.toList = [.tmp 4] := rfl
theorem rty_84 : Tryz.f84.resultTypes.toList = [3] := rfl
theorem res_85 : Tryz.f85.results.toList = [.tmp 4] := rfl
theorem rty_85 : Tryz.f85.resultTypes.toList = [3] := rfl
theorem res_86 : Tryz.f86.results.toList = [.tmp 4] := rfl
theorem rty_86 : Tryz.f86.resultTypes.toList = [3] := rfl
theorem res_87 : Tryz.f87.results.toList = [.tmp 4] := rfl
theorem rty_87 : Tryz.f87.resultTypes.toList = [3] := rfl
theorem res_88 : Tryz.f88.results.toList = [.tmp 4] := rfl
theorem rty_88 : Tryz.f88.resultTypes.toList = [3] := rfl
theorem res_89 : Tryz.f89.results.toList = [.tmp 2] := rfl
theorem rty_89 : Tryz.f89.resultTypes.toList = [3] := rfl
theorem res_90 : Tryz.f90.results.toList = [.tmp 2] := rfl
theorem rty_90 : Tryz.f90.resultTypes.toList = [48] := rfl
theorem res_91 : Tryz.f91.results.toList = [.tmp 4] := rfl
theorem rty_91 : Tryz.f91.resultTypes.toList = [4] := rfl
theorem res_92 : Tryz.f92.results.toList = [.tmp 2] := rfl
theorem rty_92 : Tryz.f92.resultTypes.toList = [48] := rfl
theorem res_93 : Tryz.f93.results.toList = [.cell 2 75] := rfl
theorem rty_93 : Tryz.f93.resultTypes.toList = [75] := rfl
theorem res_94 : Tryz.f94.results.toList = [.cell 2 105] := rfl
theorem rty_94 : Tryz.f94.resultTypes.toList = [105] := rfl
theorem res_95 : Tryz.f95.results.toList = [.tmp 2] := rfl
theorem rty_95 : Tryz.f95.resultTypes.toList = [2] := rfl
theorem res_96 : Tryz.f96.results.toList = [.tmp 2] := rfl
theorem rty_96 : Tryz.f96.resultTypes.toList = [48] := rfl
theorem res_97 : Tryz.f97.results.toList = [.tmp 2] := rfl
theorem rty_97 : Tryz.f97.resultTypes.toList = [48] := rfl
theorem res_98 : Tryz.f98.results.toList = [.tmp 4] := rfl
theorem rty_98 : Tryz.f98.resultTypes.toList = [4] := rfl
theorem res_99 : Tryz.f99.results.toList = [.cell 4 37, .tmp 5] := rfl
theorem rty_99 : Tryz.f99.resultTypes.toList = [37, 3] := rfl
theorem res_100 : Tryz.f100.results.toList = [.tmp 4] := rfl
theorem rty_100 : Tryz.f100.resultTypes.toList = [3] := rfl
theorem res_101 : Tryz.f101.results.toList = [.tmp 4] := rfl
theorem rty_101 : Tryz.f101.resultTypes.toList = [3] := rfl
theorem res_102 : Tryz.f102.results.toList = [.tmp 4] := rfl
theorem rty_102 : Tryz.f102.resultTypes.toList = [3] := rfl
theorem res_103 : Tryz.f103.results.toList = [.tmp 4] := rfl
theorem rty_103 : Tryz.f103.resultTypes.toList = [3] := rfl
theorem res_104 : Tryz.f104.results.toList = [.tmp 2] := rfl
theorem rty_104 : Tryz.f104.resultTypes.toList = [4] := rfl
theorem res_105 : Tryz.f105.results.toList = [.tmp 2] := rfl
theorem rty_105 : Tryz.f105.resultTypes.toList = [4] := rfl
theorem res_106 : Tryz.f106.results.toList = [.tmp 4] := rfl
theorem rty_106 : Tryz.f106.resultTypes.toList = [4] := rfl
theorem res_107 : Tryz.f107.results.toList = [.tmp 2] := rfl
theorem rty_107 : Tryz.f107.resultTypes.toList = [4] := rfl
theorem res_108 : Tryz.f108.results.toList = [.tmp 2] := rfl
theorem rty_108 : Tryz.f108.resultTypes.toList = [132] := rfl
theorem res_109 : Tryz.f109.results.toList = [.tmp 4] := rfl
theorem rty_109 : Tryz.f109.resultTypes.toList = [48] := rfl
theorem res_110 : Tryz.f110.results.toList = [.cell 4 39] := rfl
theorem rty_110 : Tryz.f110.resultTypes.toList = [39] := rfl
theorem res_111 : Tryz.f111.results.toList = [.tmp 2] := rfl
theorem rty_111 : Tryz.f111.resultTypes.toList = [48] := rfl
theorem res_112 : Tryz.f112.results.toList = [.tmp 2] := rfl
theorem rty_112 : Tryz.f112.resultTypes.toList = [103] := rfl
theorem res_113 : Tryz.f113.results.toList = [.cell 2 122] := rfl
theorem rty_113 : Tryz.f113.resultTypes.toList = [122] := rfl
theorem res_114 : Tryz.f114.results.toList = [.tmp 2] := rfl
theorem rty_114 : Tryz.f114.resultTypes.toList = [132] := rfl
theorem res_115 : Tryz.f115.results.toList = [.tmp 2] := rfl
theorem rty_115 : Tryz.f115.resultTypes.toList = [4] := rfl
theorem res_116 : Tryz.f116.results.toList = [.tmp 2] := rfl
theorem rty_116 : Tryz.f116.resultTypes.toList = [4] := rfl
theorem res_117 : Tryz.f117.results.toList = [.tmp 4] := rfl
theorem rty_117 : Tryz.f117.resultTypes.toList = [3] := rfl
theorem res_118 : Tryz.f118.results.toList = [.tmp 4] := rfl
theorem rty_118 : Tryz.f118.resultTypes.toList = [103] := rfl
theorem res_119 : Tryz.f119.results.toList = [.tmp 4] := rfl
theorem rty_119 : Tryz.f119.resultTypes.toList = [4] := rfl
theorem res_120 : Tryz.f120.results.toList = [.tmp 2] := rfl
theorem rty_120 : Tryz.f120.resultTypes.toList = [4] := rfl
theorem res_121 : Tryz.f121.results.toList = [.tmp 6] := rfl
theorem rty_121 : Tryz.f121.resultTypes.toList = [4] := rfl
theorem res_122 : Tryz.f122.results.toList = [.tmp 4] := rfl
theorem rty_122 : Tryz.f122.resultTypes.toList = [4] := rfl
theorem res_123 : Tryz.f123.results.toList = [.cell 2 105] := rfl
theorem rty_123 : Tryz.f123.resultTypes.toList = [105] := rfl
theorem res_124 : Tryz.f124.results.toList = [] := rfl
theorem rty_124 : Tryz.f124.resultTypes.toList = [] := rfl
theorem res_125 : Tryz.f125.results.toList = [.cell 2 75] := rfl
theorem rty_125 : Tryz.f125.resultTypes.toList = [75] := rfl
theorem res_126 : Tryz.f126.results.toList = [.tmp 2] := rfl
theorem rty_126 : Tryz.f126.resultTypes.toList = [132] := rfl
theorem res_127 : Tryz.f127.results.toList = [.cell 4 39, .tmp 5, .tmp 6] := rfl
theorem rty_127 : Tryz.f127.resultTypes.toList = [39, 48, 3] := rfl
theorem res_128 : Tryz.f128.results.toList = [.cell 4 37, .tmp 5] := rfl
theorem rty_128 : Tryz.f128.resultTypes.toList = [37, 3] := rfl
theorem res_129 : Tryz.f129.results.toList = [.tmp 4] := rfl
theorem rty_129 : Tryz.f129.resultTypes.toList = [4] := rfl
theorem res_130 : Tryz.f130.results.toList = [.tmp 4] := rfl
theorem rty_130 : Tryz.f130.resultTypes.toList = [4] := rfl
theorem res_131 : Tryz.f131.results.toList = [.tmp 4] := rfl
theorem rty_131 : Tryz.f131.resultTypes.toList = [4] := rfl
theorem res_132 : Tryz.f132.results.toList = [.tmp 4] := rfl
theorem rty_132 : Tryz.f132.resultTypes.toList = [3] := rfl
theorem res_133 : Tryz.f133.results.toList = [.tmp 4] := rfl
theorem rty_133 : Tryz.f133.resultTypes.toList = [3] := rfl
theorem res_134 : Tryz.f134.results.toList = [.tmp 2] := rfl
theorem rty_134 : Tryz.f134.resultTypes.toList = [158] := rfl
theorem res_135 : Tryz.f135.results.toList = [.tmp 2] := rfl
theorem rty_135 : Tryz.f135.resultTypes.toList = [48] := rfl
theorem res_136 : Tryz.f136.results.toList = [.tmp 4] := rfl
theorem rty_136 : Tryz.f136.resultTypes.toList = [48] := rfl
theorem res_137 : Tryz.f137.results.toList = [] := rfl
theorem rty_137 : Tryz.f137.resultTypes.toList = [] := rfl
theorem res_138 : Tryz.f138.results.toList = [.tmp 3] := rfl
theorem rty_138 : Tryz.f138.resultTypes.toList = [4] := rfl
theorem res_139 : Tryz.f139.results.toList = [.tmp 4] := rfl
theorem rty_139 : Tryz.f139.resultTypes.toList = [3] := rfl
theorem res_140 : Tryz.f140.results.toList = [.tmp 4] := rfl
theorem rty_140 : Tryz.f140.resultTypes.toList = [3] := rfl
theorem res_141 : Tryz.f141.results.toList = [.tmp 2] := rfl
theorem rty_141 : Tryz.f141.resultTypes.toList = [4] := rfl
theorem res_142 : Tryz.f142.results.toList = [.tmp 2] := rfl
theorem rty_142 : Tryz.f142.resultTypes.toList = [4] := rfl
theorem res_143 : Tryz.f143.results.toList = [.tmp 4] := rfl
theorem rty_143 : Tryz.f143.resultTypes.toList = [103] := rfl
theorem res_144 : Tryz.f144.results.toList = [.tmp 4] := rfl
theorem rty_144 : Tryz.f144.resultTypes.toList = [4] := rfl
theorem res_145 : Tryz.f145.results.toList = [.tmp 4] := rfl
theorem rty_145 : Tryz.f145.resultTypes.toList = [132] := rfl
theorem res_146 : Tryz.f146.results.toList = [.tmp 4] := rfl
theorem rty_146 : Tryz.f146.resultTypes.toList = [3] := rfl
theorem res_147 : Tryz.f147.results.toList = [.tmp 2] := rfl
theorem rty_147 : Tryz.f147.resultTypes.toList = [48] := rfl
theorem res_148 : Tryz.f148.results.toList = [.cell 2 149] := rfl
theorem rty_148 : Tryz.f148.resultTypes.toList = [149] := rfl
theorem res_149 : Tryz.f149.results.toList = [.cell 2 75] := rfl
theorem rty_149 : Tryz.f149.resultTypes.toList = [75] := rfl
theorem res_150 : Tryz.f150.results.toList = [.tmp 2] := rfl
theorem rty_150 : Tryz.f150.resultTypes.toList = [4] := rfl
theorem res_151 : Tryz.f151.results.toList = [.tmp 4, .tmp 5] := rfl
theorem rty_151 : Tryz.f151.resultTypes.toList = [48, 3] := rfl
theorem res_152 : Tryz.f152.results.toList = [.tmp 2] := rfl
theorem rty_152 : Tryz.f152.resultTypes.toList = [48] := rfl
theorem res_154 : Tryz.f154.results.toList = [.tmp 4] := rfl
theorem rty_154 : Tryz.f154.resultTypes.toList = [4] := rfl
theorem res_155 : Tryz.f155.results.toList = [.tmp 4] := rfl
theorem rty_155 : Tryz.f155.resultTypes.toList = [4] := rfl
theorem res_156 : Tryz.f156.results.toList = [.tmp 2] := rfl
theorem rty_156 : Tryz.f156.resultTypes.toList = [48] := rfl
theorem res_157 : Tryz.f157.results.toList = [.tmp 2] := rfl
theorem rty_157 : Tryz.f157.resultTypes.toList = [158] := rfl
theorem res_158 : Tryz.f158.results.toList = [.tmp 4] := rfl
theorem rty_158 : Tryz.f158.resultTypes.toList = [4] := rfl
theorem res_159 : Tryz.f159.results.toList = [.tmp 4, .tmp 5] := rfl
theorem rty_159 : Tryz.f159.resultTypes.toList = [48, 3] := rfl
theorem res_160 : Tryz.f160.results.toList = [.tmp 4, .tmp 5] := rfl
theorem rty_160 : Tryz.f160.resultTypes.toList = [48, 3] := rfl
theorem res_161 : Tryz.f161.results.toList = [.tmp 4, .tmp 5] := rfl
theorem rty_161 : Tryz.f161.resultTypes.toList = [48, 3] := rfl
theorem res_162 : Tryz.f162.results.toList = [.tmp 4, .tmp 5] := rfl
theorem rty_162 : Tryz.f162.resultTypes.toList = [48, 3] := rfl
theorem res_163 : Tryz.f163.results.toList = [.tmp 2] := rfl
theorem rty_163 : Tryz.f163.resultTypes.toList = [4] := rfl
theorem res_164 : Tryz.f164.results.toList = [.tmp 2] := rfl
theorem rty_164 : Tryz.f164.resultTypes.toList = [48] := rfl
theorem res_166 : Tryz.f166.results.toList = [.tmp 4] := rfl
theorem rty_166 : Tryz.f166.resultTypes.toList = [48] := rfl
theorem res_167 : Tryz.f167.results.toList = [.cell 0 189] := rfl
theorem rty_167 : Tryz.f167.resultTypes.toList = [189] := rfl
attribute [go_sem] tySz_31 par_5 cty_31 cty_3 par_7 cty_41 zeroC_41 tySz_41 par_9 par_10 par_11 cty_4 elTy_48 par_13 cty_48 par_12 par_14 par_15 par_16 fldTy_31_0 tySz_22 par_17 cty_22 fldTy_31_3 tySz_23 par_18 cty_23 fldTy_31_5 tySz_26 par_19 cty_26 fldTy_31_6 tySz_29 par_20 cty_29 par_21 bldTy_41 fldTy_41_1 tySz_3 par_22 fldTy_41_0 tySz_33 fldTy_41_2 fldTy_41_3 tySz_34 par_23 cty_33 cty_34 par_24 fldTy_31_1 fldTy_31_2 par_25 fldTy_31_4 fldTy_41_4 par_26 fldTy_41_5 tySz_37 par_27 fldTy_41_6 tySz_39 par_28 par_29 par_30 cty_112 par_31 par_32 par_33 cty_37 par_34 cty_39 par_35 par_36 par_37 par_38 par_39 par_40 par_41 par_42 par_43 zeroC_75 tySz_75 fldTy_75_0 fldTy_75_1 fldTy_75_3 elTy_34 fldTy_75_2 fldTy_37_1 par_44 zeroC_37 par_45 zeroC_5 cty_5 ixTy_48 tySz_5 par_46 par_47 cty_75 cvTy_3_5 elTy_22 ixTy_22 tySz_84 par_48 cty_84 elTy_23 ixTy_23 tySz_88 par_49 cty_88 fldTy_26_3 tySz_24 par_50 cty_24 fldTy_29_1 fldTy_29_3 tySz_27 par_51 cty_27 par_52 fldTy_37_0 par_53 par_54 par_55 fldTy_39_0 tySz_4 fldTy_39_1 par_56 fldTy_39_2 par_57 par_58 par_59 par_60 zeroC_39 bldTy_37 par_61 elTy_33 zeroC_101 cty_101 par_62 ixTy_33 tySz_101 zeroC_105 cty_105 par_63 ixTy_34 tySz_105 fldTy_26_0 fldTy_26_1 fldTy_26_2 fldTy_37_2 par_64 fldTy_37_3 tySz_35 fldTy_29_0 fldTy_29_2 par_65 fldTy_39_3 par_66 par_67 par_68 cty_111 par_71 par_72 par_73 par_74 par_75 par_76 par_77 par_78 par_79 par_80 cty_35 boolTy_4 par_81 fldTy_101_0 tySz_48 fldTy_101_1 fldTy_101_2 fldTy_105_0 fldTy_105_1 tySz_103 par_82 cty_103 par_83 par_84 par_85 par_86 par_87 par_88 bldTy_75 cvTy_5_3 par_89 par_90 par_92 par_91 elTy_35 ixTy_35 fldTy_122_0 par_93 fldTy_122_1 bldTy_122 zeroC_122 cty_122 par_94 par_95 par_96 par_97 par_98 par_99 fldTy_84_0 par_100 fldTy_88_1 tySz_86 par_101 cty_86 elTy_24 ixTy_24 tySz_130 par_102 cty_130 elTy_27 ixTy_27 tySz_132 par_103 cty_132 par_104 tySz_122 par_105 par_106 par_107 elTy_132 bldTy_101 bldTy_39 par_108 zeroC_132 par_109 zeroC_48 bldTy_139 zeroC_139 tySz_139 fldTy_139_3 par_110 par_111 cty_139 fldTy_84_1 fldTy_84_2 fldTy_88_0 par_112 par_113 par_114 mapTy_144 cvTy_48_9 zeroV_3 par_115 par_116 par_117 par_70 elTy_103 par_118 ixTy_103 tySz_149 zeroC_149 par_119 cty_149 fldTy_149_2 fldTy_149_0 par_120 par_121 cty_113 par_123 bldTy_153 zeroC_153 tySz_153 par_125 par_124 cty_178 fldTy_153_0 par_126 par_127 par_128 par_129 par_130 par_131 fldTy_149_1 fldTy_75_4 fldTy_75_5 par_132 par_133 par_134 cvTy_158_3 bldTy_105 bldTy_149 cvTy_5_2 cty_2 par_136 par_135 par_137 cty_163 elTy_86 ixTy_86 tySz_165 par_139 cty_165 fldTy_130_0 tySz_128 par_140 cty_128 ixTy_132 par_141 par_142 par_143 par_144 par_145 par_146 cvTy_3_171 cvTy_171_5 fldTy_139_0 fldTy_139_1 fldTy_139_2 par_147 par_148 par_149 fldTy_130_1 par_150 elTy_177 zeroC_3 par_151 cty_177 par_152 par_154 par_155 cvTy_5_158 cty_158 par_156 par_157 fldTy_165_2 fldTy_128_5 par_158 fldTy_165_0 fldTy_165_1 fldTy_128_0 fldTy_128_1 fldTy_128_2 fldTy_128_3 fldTy_128_4 par_159 par_160 par_161 par_162 par_163 par_164 par_166 par_167 zeroC_189 tySz_189 cvTy_158_5 ixTy_189 tySz_158 cvTy_3_160 ixTy_177 cvTy_3_185 cvTy_185_3 cvTy_3_186 cvTy_186_3 cvTy_3_21 cvTy_21_3 intTy_3 bldTy_189 cvTy_3_158 cty_189
end Go.Ev
set_option linter.unusedSimpArgs false
set_option linter.unusedVariables false
namespace Go.Ev
open Go Go.RowKit Go.Proofs
def mkB (k n : Nat) : List UInt8 := (List.range n).map fun j => UInt8.ofNat (k + j)
theorem mkB_length (k n : Nat) : (mkB k n).length = n := by simp [mkB]
theorem mkB_at (k n : Nat) {i : Nat} (h : i < n) : (mkB k n)[i]? = some ((fun j => UInt8.ofNat (k + j)) i) := by simp [mkB, h]
theorem c_toByteS (bs : List UInt8) (hb : bs.length ≤ 1048576) : Meets Tryz.prog 13 [rowB bs] (fun r => r = rowB bs) := by
  refine Meets.intro mixed (hint []) Tryz.func13 rfl (by decide) res_13 rty_13 (by kernel_rfl) ?_; 
  simp -dsimp -implicitDefEqProofs only [go_sem]
  refine ask.of (by omega) ?_
  refine LoopE.cnt bs.length (fun i s => s.env 0 = .rd .ent 5 1 (bytesA bs) ∧ s.env 3 = .ref [7] ∧ s.env 4 = .v (.int .i64 i) ∧ s.σ [7] = some (.row 5 1 (bytesA (bs.take i ++ List.replicate (bs.length - i) 0)))) ⟨by simp -dsimp -implicitDefEqProofs only [go_sem, initE], by simp -dsimp -implicitDefEqProofs only [go_sem], by simp -dsimp -implicitDefEqProofs only [go_sem] <;> simp, by simp -dsimp -implicitDefEqProofs only [go_sem] <;> simp⟩ ?_
  rintro i ⟨e, σ⟩ hi ⟨h0, h3, h4, hs⟩ K hK
  simp only at h0 h3 h4 hs
  simp -dsimp -implicitDefEqProofs only [go_sem, h0, h3, h4, hs]
  refine ifB'.of (fun hlt => ?_) (fun hlt => ?_)
  · have hlt : i < bs.length := by omega
    simp -dsimp -implicitDefEqProofs only [go_sem, h0, h3, h4, hs, bytesA_at hlt]
    repeat with_reducible refine ask.of (by omega) ?_
    have hl : (List.take i bs ++ List.replicate (bs.length - i) 0).length = bs.length := by simp; omega
    simp -dsimp -implicitDefEqProofs only [go_sem, h0, h3, h4, hs, hl]
    repeat with_reducible refine ask.of (by omega) ?_
    simp -dsimp -implicitDefEqProofs only [go_sem, h0, h3, h4, hs, bytesA_at (show i < (List.take i bs ++ List.replicate (bs.length - i) 0).length by omega)]
    refine hK _ hlt ?_
    simp -dsimp -implicitDefEqProofs only [go_sem, h0, h3, h4, hs, wrap_succ (show i < 4611686018427387904 by omega), fill_set bs 0 hlt]
  · have : i = bs.length := by omega
    subst this
    simp -dsimp -implicitDefEqProofs only [go_sem, h0, h3, h4, hs]
    simp
theorem c_eqByteS (bs : List UInt8) (hb : bs.length ≤ 8388608) : Meets Tryz.prog 15 [rowB bs, rowB bs] (fun r => r = .v (.bool true)) := by
  refine Meets.intro mixed (hint []) Tryz.func15 rfl (by decide) res_15 rty_15 (by kernel_rfl) ?_; 
  simp -dsimp -implicitDefEqProofs only [go_sem, decide_true, Bool.not_true]
  refine LoopE.cnt bs.length (fun i s => s.env 0 = .rd .ent 5 1 (bytesA bs) ∧ s.env 1 = .rd .ent 5 1 (bytesA bs) ∧ s.env 5 = .v (.int .i64 i)) ⟨by simp -dsimp -implicitDefEqProofs only [go_sem, initE], by simp -dsimp -implicitDefEqProofs only [go_sem, initE], by simp -dsimp -implicitDefEqProofs only [go_sem] <;> simp⟩ ?_
  rintro i ⟨e, σ⟩ hi ⟨h0, h1, h5⟩ K hK
  simp only at h0 h1 h5
  simp -dsimp -implicitDefEqProofs only [go_sem, h0, h1, h5]
  refine ifB'.of (fun hlt => ?_) (fun hlt => ?_)
  · have hlt : i < bs.length := by omega
    simp -dsimp -implicitDefEqProofs only [go_sem, h0, h1, h5, bytesA_at hlt]
    repeat with_reducible refine ask.of (by omega) ?_
    simp -dsimp -implicitDefEqProofs only [go_sem, h0, h1, h5, decide_true, Bool.not_true]
    refine hK _ hlt ?_
    simp -dsimp -implicitDefEqProofs only [go_sem, h0, h1, h5, wrap_succ (show i < 4611686018427387904 by omega)]
  · simp -dsimp -implicitDefEqProofs only [go_sem, h0, h1, h5]
theorem c_markByteS (bs : List UInt8) (k : Nat) (hk : k + bs.length ≤ 4611686018427387904) (hb : bs.length ≤ 8388608) : MeetsM Tryz.prog 16 [.mu (rowB bs), .rd (.v (.int .i64 k))] (fun r rs => r = .v (.int .i64 ((k + bs.length : Nat) : Int)) ∧ rs = [rowB (mkB k bs.length), .any]) := by
  refine MeetsM.intro mixed (hint []) Tryz.func16 rfl (by decide) res_16 rty_16 (pts := parTys Tryz.prog 16) (by rw [par_16]; rfl) (by kernel_rfl) ?_; rw [par_16]; intro vals; 
  simp -dsimp -implicitDefEqProofs only [go_sem]
  refine LoopE.cnt bs.length (fun i s => s.env 0 = .ref [1000000, 0] ∧ s.env 1 = .v (.int .i64 ((k + i : Nat) : Int)) ∧ s.env 5 = .v (.int .i64 i) ∧ s.σ [1000000, 0] = some (.row 5 1 (bytesA (mkPre (fun j => UInt8.ofNat (k + j)) bs i))) ∧ s.σ [1000001, 0] = some (.pin (.ref [1000000, 0]) (vals 0))) ⟨by simp -dsimp -implicitDefEqProofs only [go_sem], by simp -dsimp -implicitDefEqProofs only [go_sem] <;> simp, by simp -dsimp -implicitDefEqProofs only [go_sem] <;> simp, by simp -dsimp -implicitDefEqProofs only [go_sem, mkPre_zero], by simp -dsimp -implicitDefEqProofs only [go_sem]⟩ ?_
  rintro i ⟨e, σ⟩ hi ⟨h0, h1, h5, hs, hp⟩ K hK
  simp only at h0 h1 h5 hs hp
  have hl := mkPre_length (fun j => UInt8.ofNat (k + j)) hi
  simp -dsimp -implicitDefEqProofs only [go_sem, h0, h1, h5, hs, hp, hl]
  refine ifB'.of (fun hlt => ?_) (fun hlt => ?_)
  · have hlt : i < bs.length := by omega
    have hk' : k + i ≤ 4611686018427387904 := by omega
    simp -dsimp -implicitDefEqProofs only [go_sem, h0, h1, h5, hs, hp, hl]
    repeat with_reducible refine ask.of (by omega) ?_
    simp -dsimp -implicitDefEqProofs only [go_sem, h0, h1, h5, hs, hp, hl, bytesA_at (show i < (mkPre (fun j => UInt8.ofNat (k + j)) bs i).length by omega)]
    repeat with_reducible refine ask.of (by omega) ?_
    try simp -dsimp -implicitDefEqProofs only [go_sem, h0, h1, h5, hs, hp, u8_of_nat]
    refine hK _ hlt ?_
    simp -dsimp -implicitDefEqProofs only [go_sem, h0, h1, h5, hs, hp, wrap_succ (show i < 4611686018427387904 by omega), wrap_succ (show k + i < 4611686018427387904 by omega), mkPre_set (fun j => UInt8.ofNat (k + j)) bs hlt rfl]
    rfl
  · have : i = bs.length := by omega
    subst this
    simp -dsimp -implicitDefEqProofs only [go_sem, h0, h1, h5, hs, hp, mkPre_full]
    rfl
theorem c_heldByteS (k n : Nat) (hk : k + n ≤ 4611686018427387904) (hn : n ≤ 8388608) : Meets Tryz.prog 85 [rowB (mkB k n), .v (.int .i64 k)] (fun r => r = .v (.int .i64 ((k + n : Nat) : Int))) := by
  refine Meets.intro mixed (hint []) Tryz.func85 rfl (by decide) res_85 rty_85 (by kernel_rfl) ?_; 
  simp -dsimp -implicitDefEqProofs only [go_sem]
  refine LoopE.cnt n (fun i s => s.env 0 = .rd .ent 5 1 (bytesA (mkB k n)) ∧ s.env 1 = .v (.int .i64 ((k + i : Nat) : Int)) ∧ s.env 5 = .v (.int .i64 i)) ⟨by simp -dsimp -implicitDefEqProofs only [go_sem, initE], by simp -dsimp -implicitDefEqProofs only [go_sem, initE] <;> simp, by simp -dsimp -implicitDefEqProofs only [go_sem] <;> simp⟩ ?_
  rintro i ⟨e, σ⟩ hi ⟨h0, h1, h5⟩ K hK
  simp only at h0 h1 h5
  simp -dsimp -implicitDefEqProofs only [go_sem, h0, h1, h5, mkB_length]
  refine ifB'.of (fun hlt => ?_) (fun hlt => ?_)
  · have hlt : i < n := by omega
    have hk' : k + i ≤ 4611686018427387904 := by omega
    simp -dsimp -implicitDefEqProofs only [go_sem, h0, h1, h5, mkB_length, bytesA_at' (mkB_at k n hlt), u8_of_nat]
    repeat with_reducible refine ask.of (by omega) ?_
    simp -dsimp -implicitDefEqProofs only [go_sem, h0, h1, h5, decide_true, Bool.not_true]
    refine hK _ hlt ?_
    simp -dsimp -implicitDefEqProofs only [go_sem, h0, h1, h5, wrap_succ (show i < 4611686018427387904 by omega), wrap_succ (show k + i < 4611686018427387904 by omega)]
    rfl
  · have : i = n := by omega
    subst this
    simp -dsimp -implicitDefEqProofs only [go_sem, h0, h1, h5]
end Go.Ev
set_option linter.unusedSimpArgs false
set_option linter.unusedVariables false
namespace Go.Ev
open Go Go.RowKit Go.Proofs
theorem c_szByteS (bs : List UInt8) (left : Nat) (hb : bs.length ≤ 140737488355328) (hl : left ≤ 1048576) : Meets Tryz.prog 100 [rowB bs, .v (.int .i64 left)] (fun r => r = .v (.int .i64 (szR left bs.length))) := by
  refine Meets.intro mixed (hint []) Tryz.func100 rfl (by decide) res_100 rty_100 (by kernel_rfl) ?_; 
  have e : IntKind.i64.wrap ((left : Int) - bs.length) = (left : Int) - bs.length := wrap_i64_of (by omega) (by omega)
  simp -dsimp -implicitDefEqProofs only [go_sem, e]
  refine ifB'.of (fun h => ?_) (fun h => ?_)
  · simp -dsimp -implicitDefEqProofs only [go_sem]
    rw [szR_no (by omega)]
  · simp -dsimp -implicitDefEqProofs only [go_sem]
    rw [szR_ok (by omega)]; omega
def wBB (xs : List (List UInt8)) : Nat := szL List.length xs
theorem mem_wBB {xs : List (List UInt8)} {b : List UInt8} (h : b ∈ xs) : b.length ≤ wBB xs := by
  obtain ⟨i, hi, rfl⟩ := List.mem_iff_getElem.1 h
  have := szL_at_le List.length hi
  unfold wBB; omega
theorem c_szByteSS (xs : List (List UInt8)) (left : Nat) (hl : left ≤ 1048576) (hx : xs.length ≤ 140737488355328) (hb : ∀ b ∈ xs, b.length ≤ 140737488355328) : Meets Tryz.prog 103 [rowBB xs, .v (.int .i64 left)] (fun r => r = .v (.int .i64 (szR left (xs.length + wBB xs)))) := by
  refine Meets.intro mixed (hint []) Tryz.func103 rfl (by decide) res_103 rty_103 (by kernel_rfl) ?_; 
  have e : IntKind.i64.wrap ((left : Int) - xs.length) = (left : Int) - xs.length := wrap_i64_of (by omega) (by omega)
  simp -dsimp -implicitDefEqProofs only [go_sem, e]
  refine ifB'.of (fun h => ?_) (fun h => ?_)
  · simp -dsimp -implicitDefEqProofs only [go_sem]
    rw [szR_no (by omega)]
  simp -dsimp -implicitDefEqProofs only [go_sem, e]
  refine LoopE.cnt xs.length (fun i s => s.env 0 = .rd .ent 48 1 (ra byC xs) ∧ s.env 5 = .v (.int .i64 i) ∧ xs.length + szL List.length (xs.take i) ≤ left ∧ s.env 1 = .v (.int .i64 ((left - (xs.length + szL List.length (xs.take i)) : Nat) : Int))) ⟨by simp -dsimp -implicitDefEqProofs only [go_sem, initE], by simp -dsimp -implicitDefEqProofs only [go_sem] <;> simp, by simp [szL]; omega, by simp -dsimp -implicitDefEqProofs only [go_sem] <;> (simp [szL]; omega)⟩ ?_
  rintro i ⟨e, σ⟩ hi ⟨h0, h5, hle, h1⟩ K hK
  simp only at h0 h5 h1
  simp -dsimp -implicitDefEqProofs only [go_sem, h0, h5, h1]
  refine ifB'.of (fun hlt => ?_) (fun hlt => ?_)
  · have hlt : i < xs.length := by omega
    have hs := szL_take_succ List.length hlt
    have hw := szL_take_le List.length xs (i + 1)
    simp -dsimp -implicitDefEqProofs only [go_sem, h0, h5, h1, byA_at hlt]
    repeat with_reducible refine ask.of (by omega) ?_
    refine CallE.of (c_szByteS xs[i] (left - (xs.length + szL List.length (xs.take i))) (hb _ (List.getElem_mem _)) (by omega)) (by rintro r rfl; (repeat' first | exact trivial | exact pure_rowB _ | exact pure_rowO _ | exact pure_rowI _ | exact pure_rowBB _ | exact pure_rowPk _ _ | exact pure_rowSn _ _ | exact pure_rowFd _ _ | exact pure_rowBBB _ | exact pure_rowCl _ _ | exact pure_rowTb _ _ _ | refine And.intro ?_ ?_)) (by simp -dsimp -implicitDefEqProofs only [go_sem, h0, h5, h1]) ?_
    rintro r rfl
    simp -dsimp -implicitDefEqProofs only [go_sem, h0, h5, h1]
    refine ifB'.of (fun hn => ?_) (fun hn => ?_)
    · have : ¬ xs[i].length ≤ left - (xs.length + szL List.length (xs.take i)) := fun h => by rw [szR_ok h] at hn; omega
      simp -dsimp -implicitDefEqProofs only [go_sem, h0, h5, h1]
      rw [szR_no (by unfold wBB; omega)]
    · have h : xs[i].length ≤ left - (xs.length + szL List.length (xs.take i)) := Classical.byContradiction fun h => by rw [szR_no h] at hn; omega
      simp -dsimp -implicitDefEqProofs only [go_sem, h0, h5, h1]
      refine hK _ hlt ?_
      simp -dsimp -implicitDefEqProofs only [go_sem, h0, h5, h1, wrap_succ (show i < 4611686018427387904 by omega), szR_ok h, hs]
      exact ⟨by omega, by omega⟩
  · have : i = xs.length := by omega
    subst this
    simp -dsimp -implicitDefEqProofs only [go_sem, h0, h5, h1]
    rw [List.take_length] at hle ⊢
    rw [szR_ok (by unfold wBB; omega)]
    rfl
theorem c_toByteSS (xs : List (List UInt8)) (hx : xs.length ≤ 1048576) (hb : ∀ b ∈ xs, b.length ≤ 1048576) : Meets Tryz.prog 114 [rowBB xs] (fun r => r = rowBB xs) := by
  refine Meets.intro mixed (hint []) Tryz.func114 rfl (by decide) res_114 rty_114 (by kernel_rfl) ?_; 
  simp -dsimp -implicitDefEqProofs only [go_sem]
  refine ask.of (by omega) ?_
  refine LoopE.cnt xs.length (fun i s => s.env 0 = .rd .ent 48 1 (ra byC xs) ∧ s.env 3 = .ref [7] ∧ s.env 4 = .v (.int .i64 i) ∧ s.σ [7] = some (.row 48 1 (ra byC (xs.take i ++ List.replicate (xs.length - i) [])))) ⟨by simp -dsimp -implicitDefEqProofs only [go_sem, initE], by simp -dsimp -implicitDefEqProofs only [go_sem], by simp -dsimp -implicitDefEqProofs only [go_sem] <;> simp, by simp -dsimp -implicitDefEqProofs only [go_sem] <;> simp⟩ ?_
  rintro i ⟨e, σ⟩ hi ⟨h0, h3, h4, hs⟩ K hK
  simp only at h0 h3 h4 hs
  simp -dsimp -implicitDefEqProofs only [go_sem, h0, h3, h4, hs]
  refine ifB'.of (fun hlt => ?_) (fun hlt => ?_)
  · have hlt : i < xs.length := by omega
    simp -dsimp -implicitDefEqProofs only [go_sem, h0, h3, h4, hs, byA_at hlt]
    repeat with_reducible refine ask.of (by omega) ?_
    refine CallE.of (c_toByteS xs[i] (hb _ (List.getElem_mem _))) (by rintro r rfl; (repeat' first | exact trivial | exact pure_rowB _ | exact pure_rowO _ | exact pure_rowI _ | exact pure_rowBB _ | exact pure_rowPk _ _ | exact pure_rowSn _ _ | exact pure_rowFd _ _ | exact pure_rowBBB _ | exact pure_rowCl _ _ | exact pure_rowTb _ _ _ | refine And.intro ?_ ?_)) (by simp -dsimp -implicitDefEqProofs only [go_sem, h0, h3, h4, hs]) ?_
    rintro r rfl
    simp -dsimp -implicitDefEqProofs only [go_sem, h0, h3, h4, hs]
    have hl : (List.take i xs ++ List.replicate (xs.length - i) []).length = xs.length := by simp; omega
    simp -dsimp -implicitDefEqProofs only [go_sem, h0, h3, h4, hs, hl]
    repeat with_reducible refine ask.of (by omega) ?_
    simp -dsimp -implicitDefEqProofs only [go_sem, h0, h3, h4, hs, byA_at (show i < (List.take i xs ++ List.replicate (xs.length - i) []).length by omega)]
    refine hK _ hlt ?_
    simp -dsimp -implicitDefEqProofs only [go_sem, h0, h3, h4, hs, wrap_succ (show i < 4611686018427387904 by omega), fill_set xs [] hlt]
  · have : i = xs.length := by omega
    subst this
    simp -dsimp -implicitDefEqProofs only [go_sem, h0, h3, h4, hs]
    simp
theorem c_eqByteSS (xs : List (List UInt8)) (hx : xs.length ≤ 8388608) (hb : ∀ b ∈ xs, b.length ≤ 8388608) : Meets Tryz.prog 131 [rowBB xs, rowBB xs] (fun r => r = .v (.bool true)) := by
  refine Meets.intro mixed (hint []) Tryz.func131 rfl (by decide) res_131 rty_131 (by kernel_rfl) ?_; 
  simp -dsimp -implicitDefEqProofs only [go_sem, decide_true, Bool.not_true]
  refine LoopE.cnt xs.length (fun i s => s.env 0 = .rd .ent 48 1 (ra byC xs) ∧ s.env 1 = .rd .ent 48 1 (ra byC xs) ∧ s.env 5 = .v (.int .i64 i)) ⟨by simp -dsimp -implicitDefEqProofs only [go_sem, initE], by simp -dsimp -implicitDefEqProofs only [go_sem, initE], by simp -dsimp -implicitDefEqProofs only [go_sem] <;> simp⟩ ?_
  rintro i ⟨e, σ⟩ hi ⟨h0, h1, h5⟩ K hK
  simp only at h0 h1 h5
  simp -dsimp -implicitDefEqProofs only [go_sem, h0, h1, h5]
  refine ifB'.of (fun hlt => ?_) (fun hlt => ?_)
  · have hlt : i < xs.length := by omega
    simp -dsimp -implicitDefEqProofs only [go_sem, h0, h1, h5, byA_at hlt]
    repeat with_reducible refine ask.of (by omega) ?_
    refine CallE.of (c_eqByteS xs[i] (hb _ (List.getElem_mem _))) (by rintro r rfl; (repeat' first | exact trivial | exact pure_rowB _ | exact pure_rowO _ | exact pure_rowI _ | exact pure_rowBB _ | exact pure_rowPk _ _ | exact pure_rowSn _ _ | exact pure_rowFd _ _ | exact pure_rowBBB _ | exact pure_rowCl _ _ | exact pure_rowTb _ _ _ | refine And.intro ?_ ?_)) (by simp -dsimp -implicitDefEqProofs only [go_sem, h0, h1, h5, Bool.not_true]) ?_
    rintro r rfl
    simp -dsimp -implicitDefEqProofs only [go_sem, h0, h1, h5, Bool.not_true]
    refine hK _ hlt ?_
    simp -dsimp -implicitDefEqProofs only [go_sem, h0, h1, h5, wrap_succ (show i < 4611686018427387904 by omega)]
  · simp -dsimp -implicitDefEqProofs only [go_sem, h0, h1, h5]
def mkBB (k : Nat) (xs : List (List UInt8)) : List (List UInt8) := mkL (fun k x => mkB k x.length) List.length k xs
theorem c_markByteSS (xs : List (List UInt8)) (k : Nat) (hk : k + wBB xs ≤ 4611686018427387904) (hx : xs.length ≤ 8388608) (hb : ∀ b ∈ xs, b.length ≤ 8388608) : MeetsM Tryz.prog 132 [.mu (rowBB xs), .rd (.v (.int .i64 k))] (fun r rs => r = .v (.int .i64 ((k + wBB xs : Nat) : Int)) ∧ rs = [rowBB (mkBB k xs), .any]) := by
  refine MeetsM.intro mixed (hint []) Tryz.func132 rfl (by decide) res_132 rty_132 (pts := parTys Tryz.prog 132) (by rw [par_132]; rfl) (by kernel_rfl) ?_; rw [par_132]; intro vals; 
  simp -dsimp -implicitDefEqProofs only [go_sem]
  refine LoopE.cnt xs.length (fun i s => s.env 0 = .ref [1000000, 0] ∧ s.env 1 = .v (.int .i64 ((k + szL List.length (xs.take i) : Nat) : Int)) ∧ s.env 5 = .v (.int .i64 i) ∧ s.σ [1000000, 0] = some (.row 48 1 (ra byC (mkLP (fun k x => mkB k x.length) List.length k xs i))) ∧ s.σ [1000001, 0] = some (.pin (.ref [1000000, 0]) (vals 0))) ⟨by simp -dsimp -implicitDefEqProofs only [go_sem], by simp -dsimp -implicitDefEqProofs only [go_sem] <;> simp [szL], by simp -dsimp -implicitDefEqProofs only [go_sem] <;> simp, by simp -dsimp -implicitDefEqProofs only [go_sem, mkLP_zero], by simp -dsimp -implicitDefEqProofs only [go_sem]⟩ ?_
  rintro i ⟨e, σ⟩ hi ⟨h0, h1, h5, hs, hp⟩ K hK
  simp only at h0 h1 h5 hs hp
  have hl := mkLP_length (fun k x => mkB k x.length) List.length k hi
  simp -dsimp -implicitDefEqProofs only [go_sem, h0, h1, h5, hs, hp, hl]
  refine ifB'.of (fun hlt => ?_) (fun hlt => ?_)
  · have hlt : i < xs.length := by omega
    have hw := szL_at_le List.length hlt
    simp -dsimp -implicitDefEqProofs only [go_sem, h0, h1, h5, hs, hp, hl]
    repeat with_reducible refine ask.of (by omega) ?_
    simp -dsimp -implicitDefEqProofs only [go_sem, h0, h1, h5, hs, hp, byA_at' (mkLP_at (fun k x => mkB k x.length) List.length k hlt)]
    refine CallE.mut (c_markByteS xs[i] (k + szL List.length (xs.take i)) (by unfold wBB at hk; omega) (hb _ (List.getElem_mem _))) (by simp -dsimp -implicitDefEqProofs only [go_sem, h0, h1, h5, hs, hp]) (by rintro r rs ⟨rfl, rfl⟩; exact ⟨by (repeat' first | exact trivial | exact pure_rowB _ | exact pure_rowO _ | exact pure_rowI _ | exact pure_rowBB _ | exact pure_rowPk _ _ | exact pure_rowSn _ _ | exact pure_rowFd _ _ | exact pure_rowBBB _ | exact pure_rowCl _ _ | exact pure_rowTb _ _ _ | refine And.intro ?_ ?_), by first | exact ⟨by (repeat' first | exact trivial | exact pure_rowB _ | exact pure_rowO _ | exact pure_rowI _ | exact pure_rowBB _ | exact pure_rowPk _ _ | exact pure_rowSn _ _ | exact pure_rowFd _ _ | exact pure_rowBBB _ | exact pure_rowCl _ _ | exact pure_rowTb _ _ _ | refine And.intro ?_ ?_), trivial⟩ | exact ⟨by (repeat' first | exact trivial | exact pure_rowB _ | exact pure_rowO _ | exact pure_rowI _ | exact pure_rowBB _ | exact pure_rowPk _ _ | exact pure_rowSn _ _ | exact pure_rowFd _ _ | exact pure_rowBBB _ | exact pure_rowCl _ _ | exact pure_rowTb _ _ _ | refine And.intro ?_ ?_), trivial, trivial⟩⟩) (by simp -dsimp -implicitDefEqProofs only [go_sem, h0, h1, h5, hs, hp, byA_at' (mkLP_at (fun k x => mkB k x.length) List.length k hlt)]) (by simp -dsimp -implicitDefEqProofs only [go_sem, h0, h1, h5, hs, hp, byA_at' (mkLP_at (fun k x => mkB k x.length) List.length k hlt)]) ?_
    rintro r rs ⟨rfl, rfl⟩
    simp -dsimp -implicitDefEqProofs only [go_sem, h0, h1, h5, hs, hp, byA_at' (mkLP_at (fun k x => mkB k x.length) List.length k hlt)]
    refine hK _ hlt ?_
    simp -dsimp -implicitDefEqProofs only [go_sem, h0, h1, h5, hs, hp, byA_at' (mkLP_at (fun k x => mkB k x.length) List.length k hlt), wrap_succ (show i < 4611686018427387904 by omega), mkLP_set (fun k x => mkB k x.length) List.length k hlt rfl, szL_take_succ List.length hlt, Nat.add_assoc]
  · have : i = xs.length := by omega
    subst this
    simp -dsimp -implicitDefEqProofs only [go_sem, h0, h1, h5, hs, hp, mkLP_full, List.take_length]
    exact ⟨rfl, rfl⟩
theorem c_heldByteSS (xs : List (List UInt8)) (k : Nat) (hk : k + wBB xs ≤ 4611686018427387904) (hx : xs.length ≤ 8388608) (hb : ∀ b ∈ xs, b.length ≤ 8388608) : Meets Tryz.prog 133 [rowBB (mkBB k xs), .v (.int .i64 k)] (fun r => r = .v (.int .i64 ((k + wBB xs : Nat) : Int))) := by
  refine Meets.intro mixed (hint []) Tryz.func133 rfl (by decide) res_133 rty_133 (by kernel_rfl) ?_; 
  simp -dsimp -implicitDefEqProofs only [go_sem]
  refine LoopE.cnt xs.length (fun i s => s.env 0 = .rd .ent 48 1 (ra byC (mkBB k xs)) ∧ s.env 1 = .v (.int .i64 ((k + szL List.length (xs.take i) : Nat) : Int)) ∧ s.env 5 = .v (.int .i64 i)) ⟨by simp -dsimp -implicitDefEqProofs only [go_sem, initE], by simp -dsimp -implicitDefEqProofs only [go_sem, initE] <;> simp [szL], by simp -dsimp -implicitDefEqProofs only [go_sem] <;> simp⟩ ?_
  rintro i ⟨e, σ⟩ hi ⟨h0, h1, h5⟩ K hK
  simp only at h0 h1 h5
  simp -dsimp -implicitDefEqProofs only [go_sem, h0, h1, h5, mkBB, mkL_length]
  refine ifB'.of (fun hlt => ?_) (fun hlt => ?_)
  · have hlt : i < xs.length := by omega
    have hw := szL_at_le List.length hlt
    simp -dsimp -implicitDefEqProofs only [go_sem, h0, h1, h5, mkBB, mkL_length, byA_at' (mkL_at (fun k x => mkB k x.length) List.length k hlt)]
    repeat with_reducible refine ask.of (by omega) ?_
    refine CallE.of (c_heldByteS (k + szL List.length (xs.take i)) xs[i].length (by unfold wBB at hk; omega) (hb _ (List.getElem_mem _))) (by rintro r rfl; (repeat' first | exact trivial | exact pure_rowB _ | exact pure_rowO _ | exact pure_rowI _ | exact pure_rowBB _ | exact pure_rowPk _ _ | exact pure_rowSn _ _ | exact pure_rowFd _ _ | exact pure_rowBBB _ | exact pure_rowCl _ _ | exact pure_rowTb _ _ _ | refine And.intro ?_ ?_)) (by simp -dsimp -implicitDefEqProofs only [go_sem, h0, h1, h5]) ?_
    rintro r rfl
    simp -dsimp -implicitDefEqProofs only [go_sem, h0, h1, h5]
    refine ifB'.of (fun hn => by omega) (fun hn => ?_)
    simp -dsimp -implicitDefEqProofs only [go_sem, h0, h1, h5]
    refine hK _ hlt ?_
    simp -dsimp -implicitDefEqProofs only [go_sem, h0, h1, h5, wrap_succ (show i < 4611686018427387904 by omega), szL_take_succ List.length hlt, Nat.add_assoc, mkBB]
  · have : i = xs.length := by omega
    subst this
    simp -dsimp -implicitDefEqProofs only [go_sem, h0, h1, h5, List.take_length]
    rfl
end Go.Ev
set_option linter.unusedSimpArgs false
set_option linter.unusedVariables false
namespace Go.Ev
open Go Go.RowKit Go.Proofs
structure Fd where
  f : List UInt8
  k : Int
  w : Int
structure Cl where
  z : Bool
  i : Int
  f : List UInt8
def fdC (x : Fd) : List AV := [.row 5 1 (bytesA x.f), .v (.int .i64 x.k), .v (.int .i64 x.w)]
def clC (x : Cl) : List AV := [.v (.bool x.z), .v (.int .i64 x.i), .row 5 1 (bytesA x.f)]
def fdW (x : Fd) : Nat := x.f.length
def clW (x : Cl) : Nat := x.f.length
def fd0 : Fd := ⟨[], 0, 0⟩
def cl0 : Cl := ⟨false, 0, []⟩
def rowFd (T : Nat) (ps : List Fd) : AV := .row T 3 (ra fdC ps)
def rowCl (T : Nat) (ps : List Cl) : AV := .row T 3 (ra clC ps)
theorem bleF (n : Nat) : Nat.ble n n = true := by simp
theorem pure_rowFd (T : Nat) (ps : List Fd) : (rowFd T ps).pure := pureEls_ra (enc := fdC) (fun x => ⟨pureEls_bytes _, trivial, trivial, trivial⟩) ps
theorem pure_rowCl (T : Nat) (ps : List Cl) : (rowCl T ps).pure := pureEls_ra (enc := clC) (fun x => ⟨trivial, trivial, pureEls_bytes _, trivial⟩) ps
theorem c_szField (p : Fd) (left : Nat) (hb : p.f.length ≤ 140737488355328) (hl : left ≤ 1048576) : Meets Tryz.prog 48 [.agg (fdC p), .v (.int .i64 left)] (fun r => r = .v (.int .i64 (szR left p.f.length))) := by
  refine Meets.intro mixed (hint []) Tryz.func48 rfl (by decide) res_48 rty_48 (by kernel_rfl) ?_; 
  simp -dsimp -implicitDefEqProofs only [go_sem, fdC]
  repeat with_reducible refine ask.of (by omega) ?_
  refine CallE.of (c_szByteS p.f left hb hl) (by rintro r rfl; (repeat' first | exact trivial | exact pure_rowB _ | exact pure_rowO _ | exact pure_rowI _ | exact pure_rowBB _ | exact pure_rowPk _ _ | exact pure_rowSn _ _ | exact pure_rowFd _ _ | exact pure_rowBBB _ | exact pure_rowCl _ _ | exact pure_rowTb _ _ _ | refine And.intro ?_ ?_)) (by simp -dsimp -implicitDefEqProofs only [go_sem]) ?_
  rintro r rfl
  simp -dsimp -implicitDefEqProofs only [go_sem]
  refine ifB'.of (fun h => ?_) (fun h => ?_)
  · simp -dsimp -implicitDefEqProofs only [go_sem]
    by_cases h2 : p.f.length ≤ left
    · rw [szR_ok h2] at h; omega
    · rw [szR_no h2]
  · simp -dsimp -implicitDefEqProofs only [go_sem]
theorem c_toField (p : Fd) (hb : p.f.length ≤ 1048576) : Meets Tryz.prog 62 [.agg (fdC p)] (fun r => r = .agg (fdC p)) := by
  refine Meets.intro mixed (hint []) Tryz.func62 rfl (by decide) res_62 rty_62 (by kernel_rfl) ?_; 
  simp -dsimp -implicitDefEqProofs only [go_sem, fdC]
  repeat (first | with_reducible refine ask.of (by omega) ?_ | simp -dsimp -implicitDefEqProofs only [go_sem, bleF])
  refine CallE.of (c_toByteS p.f hb) (by rintro r rfl; (repeat' first | exact trivial | exact pure_rowB _ | exact pure_rowO _ | exact pure_rowI _ | exact pure_rowBB _ | exact pure_rowPk _ _ | exact pure_rowSn _ _ | exact pure_rowFd _ _ | exact pure_rowBBB _ | exact pure_rowCl _ _ | exact pure_rowTb _ _ _ | refine And.intro ?_ ?_)) (by simp -dsimp -implicitDefEqProofs only [go_sem]) ?_
  rintro r rfl
  simp -dsimp -implicitDefEqProofs only [go_sem]
  repeat (first | with_reducible refine ask.of (by omega) ?_ | simp -dsimp -implicitDefEqProofs only [go_sem, bleF])
theorem c_eqField (p : Fd) (hb : p.f.length ≤ 1048576) : Meets Tryz.prog 78 [.agg (fdC p), .agg (fdC p)] (fun r => r = .v (.bool true)) := by
  refine Meets.intro mixed (hint []) Tryz.func78 rfl (by decide) res_78 rty_78 (by kernel_rfl) ?_; 
  simp -dsimp -implicitDefEqProofs only [go_sem, fdC, decide_true]
  repeat (first | with_reducible refine ask.of (by omega) ?_ | simp -dsimp -implicitDefEqProofs only [go_sem, bleF, decide_true])
  refine CallE.of (c_eqByteS p.f (by omega)) (by rintro r rfl; (repeat' first | exact trivial | exact pure_rowB _ | exact pure_rowO _ | exact pure_rowI _ | exact pure_rowBB _ | exact pure_rowPk _ _ | exact pure_rowSn _ _ | exact pure_rowFd _ _ | exact pure_rowBBB _ | exact pure_rowCl _ _ | exact pure_rowTb _ _ _ | refine And.intro ?_ ?_)) (by simp -dsimp -implicitDefEqProofs only [go_sem, Bool.not_true, decide_true]) ?_
  rintro r rfl
  simp -dsimp -implicitDefEqProofs only [go_sem, Bool.not_true, decide_true]
  repeat (first | with_reducible refine ask.of (by omega) ?_ | trivial)
theorem Fd_at {xs : List Fd} {i : Nat} (h : i < xs.length) : (ra fdC xs)[i]? = some (fdC xs[i]) := ra_at h
theorem mem_fdW {xs : List Fd} {b : Fd} (h : b ∈ xs) : b.f.length ≤ szL fdW xs := by
  obtain ⟨i, hi, rfl⟩ := List.mem_iff_getElem.1 h
  have := szL_at_le fdW hi
  have : fdW xs[i] = xs[i].f.length := rfl
  omega
theorem c_szFieldS (xs : List Fd) (left : Nat) (hl : left ≤ 1048576) (hx : xs.length ≤ 140737488355328) (hb : ∀ b ∈ xs, b.f.length ≤ 140737488355328) : Meets Tryz.prog 17 [rowFd 84 xs, .v (.int .i64 left)] (fun r => r = .v (.int .i64 (szR left (xs.length + szL fdW xs)))) := by
  refine Meets.intro mixed (hint []) Tryz.func17 rfl (by decide) res_17 rty_17 (by kernel_rfl) ?_; 
  have e : IntKind.i64.wrap ((left : Int) - xs.length) = (left : Int) - xs.length := wrap_i64_of (by omega) (by omega)
  simp -dsimp -implicitDefEqProofs only [go_sem, e, rowFd]
  refine ifB'.of (fun h => ?_) (fun h => ?_)
  · simp -dsimp -implicitDefEqProofs only [go_sem]
    rw [szR_no (by omega)]
  simp -dsimp -implicitDefEqProofs only [go_sem, e]
  refine LoopE.cnt xs.length (fun i s => s.env 0 = .rd .ent 84 3 (ra fdC xs) ∧ s.env 5 = .v (.int .i64 i) ∧ xs.length + szL fdW (xs.take i) ≤ left ∧ s.env 1 = .v (.int .i64 ((left - (xs.length + szL fdW (xs.take i)) : Nat) : Int))) ⟨by simp -dsimp -implicitDefEqProofs only [go_sem, initE, rowFd], by simp -dsimp -implicitDefEqProofs only [go_sem] <;> simp, by simp [szL]; omega, by simp -dsimp -implicitDefEqProofs only [go_sem] <;> (simp [szL]; omega)⟩ ?_
  rintro i ⟨e, σ⟩ hi ⟨h0, h5, hle, h1⟩ K hK
  simp only at h0 h5 h1
  simp -dsimp -implicitDefEqProofs only [go_sem, h0, h5, h1]
  refine ifB'.of (fun hlt => ?_) (fun hlt => ?_)
  · have hlt : i < xs.length := by omega
    have hs := szL_take_succ fdW hlt
    have hw := szL_take_le fdW xs (i + 1)
    have hww : fdW xs[i] = xs[i].f.length := rfl
    simp -dsimp -implicitDefEqProofs only [go_sem, h0, h5, h1, Fd_at hlt, fdC]
    repeat with_reducible refine ask.of (by omega) ?_
    simp -dsimp -implicitDefEqProofs only [go_sem, h0, h5, h1, Fd_at hlt, fdC, bleF]
    refine CallE.of (c_szField xs[i] (left - (xs.length + szL fdW (xs.take i))) (hb _ (List.getElem_mem _)) (by omega)) (by rintro r rfl; (repeat' first | exact trivial | exact pure_rowB _ | exact pure_rowO _ | exact pure_rowI _ | exact pure_rowBB _ | exact pure_rowPk _ _ | exact pure_rowSn _ _ | exact pure_rowFd _ _ | exact pure_rowBBB _ | exact pure_rowCl _ _ | exact pure_rowTb _ _ _ | refine And.intro ?_ ?_)) (by simp -dsimp -implicitDefEqProofs only [go_sem, h0, h5, h1, fdC]) ?_
    rintro r rfl
    simp -dsimp -implicitDefEqProofs only [go_sem, h0, h5, h1, fdC]
    refine ifB'.of (fun hn => ?_) (fun hn => ?_)
    · have : ¬ xs[i].f.length ≤ left - (xs.length + szL fdW (xs.take i)) := fun h => by rw [szR_ok h] at hn; omega
      simp -dsimp -implicitDefEqProofs only [go_sem, h0, h5, h1]
      rw [szR_no (by omega)]
    · have h : xs[i].f.length ≤ left - (xs.length + szL fdW (xs.take i)) := Classical.byContradiction fun h => by rw [szR_no h] at hn; omega
      simp -dsimp -implicitDefEqProofs only [go_sem, h0, h5, h1]
      refine hK _ hlt ?_
      simp -dsimp -implicitDefEqProofs only [go_sem, h0, h5, h1, wrap_succ (show i < 4611686018427387904 by omega), szR_ok h, hs]
      exact ⟨by omega, by omega⟩
  · have : i = xs.length := by omega
    subst this
    simp -dsimp -implicitDefEqProofs only [go_sem, h0, h5, h1]
    rw [List.take_length] at hle ⊢
    rw [szR_ok (by omega)]
theorem Fd_set (xs : List Fd) (i : Nat) (x : Fd) : (ra fdC xs).set i (fdC x) = ra fdC (xs.set i x) := ra_set xs i x
theorem c_toFieldS (xs : List Fd) (hx : xs.length ≤ 1048576) (hb : ∀ b ∈ xs, b.f.length ≤ 1048576) : Meets Tryz.prog 24 [rowFd 84 xs] (fun r => r = rowFd 101 xs) := by
  refine Meets.intro mixed (hint []) Tryz.func24 rfl (by decide) res_24 rty_24 (by kernel_rfl) ?_; 
  simp -dsimp -implicitDefEqProofs only [go_sem, rowFd]
  refine ask.of (by omega) ?_
  refine LoopE.cnt xs.length (fun i s => s.env 0 = .rd .ent 84 3 (ra fdC xs) ∧ s.env 3 = .ref [7] ∧ s.env 4 = .v (.int .i64 i) ∧ s.σ [7] = some (.row 101 3 (ra fdC (xs.take i ++ List.replicate (xs.length - i) fd0)))) ⟨by simp -dsimp -implicitDefEqProofs only [go_sem, initE, rowFd], by simp -dsimp -implicitDefEqProofs only [go_sem], by simp -dsimp -implicitDefEqProofs only [go_sem] <;> simp, by simp -dsimp -implicitDefEqProofs only [go_sem] <;> simp [ra, fdC, fd0, bytesA]⟩ ?_
  rintro i ⟨e, σ⟩ hi ⟨h0, h3, h4, hs⟩ K hK
  simp only at h0 h3 h4 hs
  simp -dsimp -implicitDefEqProofs only [go_sem, h0, h3, h4, hs]
  refine ifB'.of (fun hlt => ?_) (fun hlt => ?_)
  · have hlt : i < xs.length := by omega
    have hl : (List.take i xs ++ List.replicate (xs.length - i) fd0).length = xs.length := by simp; omega
    simp -dsimp -implicitDefEqProofs only [go_sem, h0, h3, h4, hs, Fd_at hlt, fdC]
    repeat with_reducible refine ask.of (by omega) ?_
    simp -dsimp -implicitDefEqProofs only [go_sem, h0, h3, h4, hs, Fd_at hlt, fdC, bleF]
    refine CallE.of (c_toField xs[i] (hb _ (List.getElem_mem _))) (by rintro r rfl; (repeat' first | exact trivial | exact pure_rowB _ | exact pure_rowO _ | exact pure_rowI _ | exact pure_rowBB _ | exact pure_rowPk _ _ | exact pure_rowSn _ _ | exact pure_rowFd _ _ | exact pure_rowBBB _ | exact pure_rowCl _ _ | exact pure_rowTb _ _ _ | refine And.intro ?_ ?_)) (by simp -dsimp -implicitDefEqProofs only [go_sem, h0, h3, h4, hs, fdC]) ?_
    rintro r rfl
    simp -dsimp -implicitDefEqProofs only [go_sem, h0, h3, h4, hs, fdC]
    simp -dsimp -implicitDefEqProofs only [go_sem, h0, h3, h4, hs, hl]
    repeat with_reducible refine ask.of (by omega) ?_
    simp -dsimp -implicitDefEqProofs only [go_sem, h0, h3, h4, hs, Fd_at (show i < (List.take i xs ++ List.replicate (xs.length - i) fd0).length by omega), fdC, bleF]
    refine hK _ hlt ?_
    simp -dsimp -implicitDefEqProofs only [go_sem, h0, h3, h4, hs, wrap_succ (show i < 4611686018427387904 by omega)]
    exact congrArg (fun l => some (OB.row _ 3 l)) ((Fd_set _ i xs[i]).trans (congrArg (ra fdC) (fill_set xs fd0 hlt)))
  · have : i = xs.length := by omega
    subst this
    simp -dsimp -implicitDefEqProofs only [go_sem, h0, h3, h4, hs, rowFd]
    simp
theorem c_eqFieldS (xs : List Fd) (hx : xs.length ≤ 1048576) (hb : ∀ b ∈ xs, b.f.length ≤ 1048576) : Meets Tryz.prog 31 [rowFd 101 xs, rowFd 101 xs] (fun r => r = .v (.bool true)) := by
  refine Meets.intro mixed (hint []) Tryz.func31 rfl (by decide) res_31 rty_31 (by kernel_rfl) ?_; 
  simp -dsimp -implicitDefEqProofs only [go_sem, decide_true, Bool.not_true, rowFd]
  refine LoopE.cnt xs.length (fun i s => s.env 0 = .rd .ent 101 3 (ra fdC xs) ∧ s.env 1 = .rd .ent 101 3 (ra fdC xs) ∧ s.env 5 = .v (.int .i64 i)) ⟨by simp -dsimp -implicitDefEqProofs only [go_sem, initE, rowFd], by simp -dsimp -implicitDefEqProofs only [go_sem, initE, rowFd], by simp -dsimp -implicitDefEqProofs only [go_sem] <;> simp⟩ ?_
  rintro i ⟨e, σ⟩ hi ⟨h0, h1, h5⟩ K hK
  simp only at h0 h1 h5
  simp -dsimp -implicitDefEqProofs only [go_sem, h0, h1, h5]
  refine ifB'.of (fun hlt => ?_) (fun hlt => ?_)
  · have hlt : i < xs.length := by omega
    simp -dsimp -implicitDefEqProofs only [go_sem, h0, h1, h5, Fd_at hlt, fdC]
    repeat (first | with_reducible refine ask.of (by omega) ?_ | simp -dsimp -implicitDefEqProofs only [go_sem, h0, h1, h5, Fd_at hlt, fdC, bleF])
    refine CallE.of (c_eqField xs[i] (hb _ (List.getElem_mem _))) (by rintro r rfl; (repeat' first | exact trivial | exact pure_rowB _ | exact pure_rowO _ | exact pure_rowI _ | exact pure_rowBB _ | exact pure_rowPk _ _ | exact pure_rowSn _ _ | exact pure_rowFd _ _ | exact pure_rowBBB _ | exact pure_rowCl _ _ | exact pure_rowTb _ _ _ | refine And.intro ?_ ?_)) (by simp -dsimp -implicitDefEqProofs only [go_sem, h0, h1, h5, Bool.not_true, fdC]) ?_
    rintro r rfl
    simp -dsimp -implicitDefEqProofs only [go_sem, h0, h1, h5, Bool.not_true, fdC]
    refine hK _ hlt ?_
    simp -dsimp -implicitDefEqProofs only [go_sem, h0, h1, h5, wrap_succ (show i < 4611686018427387904 by omega)]
  · simp -dsimp -implicitDefEqProofs only [go_sem, h0, h1, h5]
theorem c_szCell (p : Cl) (left : Nat) (hb : p.f.length ≤ 140737488355328) (hl : left ≤ 1048576) : Meets Tryz.prog 139 [.agg (clC p), .v (.int .i64 left)] (fun r => r = .v (.int .i64 (szR left p.f.length))) := by
  refine Meets.intro mixed (hint []) Tryz.func139 rfl (by decide) res_139 rty_139 (by kernel_rfl) ?_; 
  simp -dsimp -implicitDefEqProofs only [go_sem, clC]
  repeat with_reducible refine ask.of (by omega) ?_
  refine CallE.of (c_szByteS p.f left hb hl) (by rintro r rfl; (repeat' first | exact trivial | exact pure_rowB _ | exact pure_rowO _ | exact pure_rowI _ | exact pure_rowBB _ | exact pure_rowPk _ _ | exact pure_rowSn _ _ | exact pure_rowFd _ _ | exact pure_rowBBB _ | exact pure_rowCl _ _ | exact pure_rowTb _ _ _ | refine And.intro ?_ ?_)) (by simp -dsimp -implicitDefEqProofs only [go_sem]) ?_
  rintro r rfl
  simp -dsimp -implicitDefEqProofs only [go_sem]
  refine ifB'.of (fun h => ?_) (fun h => ?_)
  · simp -dsimp -implicitDefEqProofs only [go_sem]
    by_cases h2 : p.f.length ≤ left
    · rw [szR_ok h2] at h; omega
    · rw [szR_no h2]
  · simp -dsimp -implicitDefEqProofs only [go_sem]
theorem c_toCell (p : Cl) (hb : p.f.length ≤ 1048576) : Meets Tryz.prog 148 [.agg (clC p)] (fun r => r = .agg (clC p)) := by
  refine Meets.intro mixed (hint []) Tryz.func148 rfl (by decide) res_148 rty_148 (by kernel_rfl) ?_; 
  simp -dsimp -implicitDefEqProofs only [go_sem, clC]
  repeat (first | with_reducible refine ask.of (by omega) ?_ | simp -dsimp -implicitDefEqProofs only [go_sem, bleF])
  refine CallE.of (c_toByteS p.f hb) (by rintro r rfl; (repeat' first | exact trivial | exact pure_rowB _ | exact pure_rowO _ | exact pure_rowI _ | exact pure_rowBB _ | exact pure_rowPk _ _ | exact pure_rowSn _ _ | exact pure_rowFd _ _ | exact pure_rowBBB _ | exact pure_rowCl _ _ | exact pure_rowTb _ _ _ | refine And.intro ?_ ?_)) (by simp -dsimp -implicitDefEqProofs only [go_sem]) ?_
  rintro r rfl
  simp -dsimp -implicitDefEqProofs only [go_sem]
  repeat (first | with_reducible refine ask.of (by omega) ?_ | simp -dsimp -implicitDefEqProofs only [go_sem, bleF])
theorem c_eqCell (p : Cl) (hb : p.f.length ≤ 1048576) : Meets Tryz.prog 154 [.agg (clC p), .agg (clC p)] (fun r => r = .v (.bool true)) := by
  refine Meets.intro mixed (hint []) Tryz.func154 rfl (by decide) res_154 rty_154 (by kernel_rfl) ?_; 
  simp -dsimp -implicitDefEqProofs only [go_sem, clC, decide_true]
  repeat (first | with_reducible refine ask.of (by omega) ?_ | simp -dsimp -implicitDefEqProofs only [go_sem, bleF, decide_true])
  refine CallE.of (c_eqByteS p.f (by omega)) (by rintro r rfl; (repeat' first | exact trivial | exact pure_rowB _ | exact pure_rowO _ | exact pure_rowI _ | exact pure_rowBB _ | exact pure_rowPk _ _ | exact pure_rowSn _ _ | exact pure_rowFd _ _ | exact pure_rowBBB _ | exact pure_rowCl _ _ | exact pure_rowTb _ _ _ | refine And.intro ?_ ?_)) (by simp -dsimp -implicitDefEqProofs only [go_sem, Bool.not_true, decide_true]) ?_
  rintro r rfl
  simp -dsimp -implicitDefEqProofs only [go_sem, Bool.not_true, decide_true]
  repeat (first | with_reducible refine ask.of (by omega) ?_ | trivial)
theorem Cl_at {xs : List Cl} {i : Nat} (h : i < xs.length) : (ra clC xs)[i]? = some (clC xs[i]) := ra_at h
theorem mem_clW {xs : List Cl} {b : Cl} (h : b ∈ xs) : b.f.length ≤ szL clW xs := by
  obtain ⟨i, hi, rfl⟩ := List.mem_iff_getElem.1 h
  have := szL_at_le clW hi
  have : clW xs[i] = xs[i].f.length := rfl
  omega
theorem c_szCellS (xs : List Cl) (left : Nat) (hl : left ≤ 1048576) (hx : xs.length ≤ 140737488355328) (hb : ∀ b ∈ xs, b.f.length ≤ 140737488355328) : Meets Tryz.prog 101 [rowCl 165 xs, .v (.int .i64 left)] (fun r => r = .v (.int .i64 (szR left (xs.length + szL clW xs)))) := by
  refine Meets.intro mixed (hint []) Tryz.func101 rfl (by decide) res_101 rty_101 (by kernel_rfl) ?_; 
  have e : IntKind.i64.wrap ((left : Int) - xs.length) = (left : Int) - xs.length := wrap_i64_of (by omega) (by omega)
  simp -dsimp -implicitDefEqProofs only [go_sem, e, rowCl]
  refine ifB'.of (fun h => ?_) (fun h => ?_)
  · simp -dsimp -implicitDefEqProofs only [go_sem]
    rw [szR_no (by omega)]
  simp -dsimp -implicitDefEqProofs only [go_sem, e]
  refine LoopE.cnt xs.length (fun i s => s.env 0 = .rd .ent 165 3 (ra clC xs) ∧ s.env 5 = .v (.int .i64 i) ∧ xs.length + szL clW (xs.take i) ≤ left ∧ s.env 1 = .v (.int .i64 ((left - (xs.length + szL clW (xs.take i)) : Nat) : Int))) ⟨by simp -dsimp -implicitDefEqProofs only [go_sem, initE, rowCl], by simp -dsimp -implicitDefEqProofs only [go_sem] <;> simp, by simp [szL]; omega, by simp -dsimp -implicitDefEqProofs only [go_sem] <;> (simp [szL]; omega)⟩ ?_
  rintro i ⟨e, σ⟩ hi ⟨h0, h5, hle, h1⟩ K hK
  simp only at h0 h5 h1
  simp -dsimp -implicitDefEqProofs only [go_sem, h0, h5, h1]
  refine ifB'.of (fun hlt => ?_) (fun hlt => ?_)
  · have hlt : i < xs.length := by omega
    have hs := szL_take_succ clW hlt
    have hw := szL_take_le clW xs (i + 1)
    have hww : clW xs[i] = xs[i].f.length := rfl
    simp -dsimp -implicitDefEqProofs only [go_sem, h0, h5, h1, Cl_at hlt, clC]
    repeat with_reducible refine ask.of (by omega) ?_
    simp -dsimp -implicitDefEqProofs only [go_sem, h0, h5, h1, Cl_at hlt, clC, bleF]
    refine CallE.of (c_szCell xs[i] (left - (xs.length + szL clW (xs.take i))) (hb _ (List.getElem_mem _)) (by omega)) (by rintro r rfl; (repeat' first | exact trivial | exact pure_rowB _ | exact pure_rowO _ | exact pure_rowI _ | exact pure_rowBB _ | exact pure_rowPk _ _ | exact pure_rowSn _ _ | exact pure_rowFd _ _ | exact pure_rowBBB _ | exact pure_rowCl _ _ | exact pure_rowTb _ _ _ | refine And.intro ?_ ?_)) (by simp -dsimp -implicitDefEqProofs only [go_sem, h0, h5, h1, clC]) ?_
    rintro r rfl
    simp -dsimp -implicitDefEqProofs only [go_sem, h0, h5, h1, clC]
    refine ifB'.of (fun hn => ?_) (fun hn => ?_)
    · have : ¬ xs[i].f.length ≤ left - (xs.length + szL clW (xs.take i)) := fun h => by rw [szR_ok h] at hn; omega
      simp -dsimp -implicitDefEqProofs only [go_sem, h0, h5, h1]
      rw [szR_no (by omega)]
    · have h : xs[i].f.length ≤ left - (xs.length + szL clW (xs.take i)) := Classical.byContradiction fun h => by rw [szR_no h] at hn; omega
      simp -dsimp -implicitDefEqProofs only [go_sem, h0, h5, h1]
      refine hK _ hlt ?_
      simp -dsimp -implicitDefEqProofs only [go_sem, h0, h5, h1, wrap_succ (show i < 4611686018427387904 by omega), szR_ok h, hs]
      exact ⟨by omega, by omega⟩
  · have : i = xs.length := by omega
    subst this
    simp -dsimp -implicitDefEqProofs only [go_sem, h0, h5, h1]
    rw [List.take_length] at hle ⊢
    rw [szR_ok (by omega)]
theorem Cl_set (xs : List Cl) (i : Nat) (x : Cl) : (ra clC xs).set i (clC x) = ra clC (xs.set i x) := ra_set xs i x
theorem c_toCellS (xs : List Cl) (hx : xs.length ≤ 1048576) (hb : ∀ b ∈ xs, b.f.length ≤ 1048576) : Meets Tryz.prog 112 [rowCl 165 xs] (fun r => r = rowCl 149 xs) := by
  refine Meets.intro mixed (hint []) Tryz.func112 rfl (by decide) res_112 rty_112 (by kernel_rfl) ?_; 
  simp -dsimp -implicitDefEqProofs only [go_sem, rowCl]
  refine ask.of (by omega) ?_
  refine LoopE.cnt xs.length (fun i s => s.env 0 = .rd .ent 165 3 (ra clC xs) ∧ s.env 3 = .ref [7] ∧ s.env 4 = .v (.int .i64 i) ∧ s.σ [7] = some (.row 149 3 (ra clC (xs.take i ++ List.replicate (xs.length - i) cl0)))) ⟨by simp -dsimp -implicitDefEqProofs only [go_sem, initE, rowCl], by simp -dsimp -implicitDefEqProofs only [go_sem], by simp -dsimp -implicitDefEqProofs only [go_sem] <;> simp, by simp -dsimp -implicitDefEqProofs only [go_sem] <;> simp [ra, clC, cl0, bytesA]⟩ ?_
  rintro i ⟨e, σ⟩ hi ⟨h0, h3, h4, hs⟩ K hK
  simp only at h0 h3 h4 hs
  simp -dsimp -implicitDefEqProofs only [go_sem, h0, h3, h4, hs]
  refine ifB'.of (fun hlt => ?_) (fun hlt => ?_)
  · have hlt : i < xs.length := by omega
    have hl : (List.take i xs ++ List.replicate (xs.length - i) cl0).length = xs.length := by simp; omega
    simp -dsimp -implicitDefEqProofs only [go_sem, h0, h3, h4, hs, Cl_at hlt, clC]
    repeat with_reducible refine ask.of (by omega) ?_
    simp -dsimp -implicitDefEqProofs only [go_sem, h0, h3, h4, hs, Cl_at hlt, clC, bleF]
    refine CallE.of (c_toCell xs[i] (hb _ (List.getElem_mem _))) (by rintro r rfl; (repeat' first | exact trivial | exact pure_rowB _ | exact pure_rowO _ | exact pure_rowI _ | exact pure_rowBB _ | exact pure_rowPk _ _ | exact pure_rowSn _ _ | exact pure_rowFd _ _ | exact pure_rowBBB _ | exact pure_rowCl _ _ | exact pure_rowTb _ _ _ | refine And.intro ?_ ?_)) (by simp -dsimp -implicitDefEqProofs only [go_sem, h0, h3, h4, hs, clC]) ?_
    rintro r rfl
    simp -dsimp -implicitDefEqProofs only [go_sem, h0, h3, h4, hs, clC]
    simp -dsimp -implicitDefEqProofs only [go_sem, h0, h3, h4, hs, hl]
    repeat with_reducible refine ask.of (by omega) ?_
    simp -dsimp -implicitDefEqProofs only [go_sem, h0, h3, h4, hs, Cl_at (show i < (List.take i xs ++ List.replicate (xs.length - i) cl0).length by omega), clC, bleF]
    refine hK _ hlt ?_
    simp -dsimp -implicitDefEqProofs only [go_sem, h0, h3, h4, hs, wrap_succ (show i < 4611686018427387904 by omega)]
    exact congrArg (fun l => some (OB.row _ 3 l)) ((Cl_set _ i xs[i]).trans (congrArg (ra clC) (fill_set xs cl0 hlt)))
  · have : i = xs.length := by omega
    subst this
    simp -dsimp -implicitDefEqProofs only [go_sem, h0, h3, h4, hs, rowCl]
    simp
theorem c_eqCellS (xs : List Cl) (hx : xs.length ≤ 1048576) (hb : ∀ b ∈ xs, b.f.length ≤ 1048576) : Meets Tryz.prog 129 [rowCl 149 xs, rowCl 149 xs] (fun r => r = .v (.bool true)) := by
  refine Meets.intro mixed (hint []) Tryz.func129 rfl (by decide) res_129 rty_129 (by kernel_rfl) ?_; 
  simp -dsimp -implicitDefEqProofs only [go_sem, decide_true, Bool.not_true, rowCl]
  refine LoopE.cnt xs.length (fun i s => s.env 0 = .rd .ent 149 3 (ra clC xs) ∧ s.env 1 = .rd .ent 149 3 (ra clC xs) ∧ s.env 5 = .v (.int .i64 i)) ⟨by simp -dsimp -implicitDefEqProofs only [go_sem, initE, rowCl], by simp -dsimp -implicitDefEqProofs only [go_sem, initE, rowCl], by simp -dsimp -implicitDefEqProofs only [go_sem] <;> simp⟩ ?_
  rintro i ⟨e, σ⟩ hi ⟨h0, h1, h5⟩ K hK
  simp only at h0 h1 h5
  simp -dsimp -implicitDefEqProofs only [go_sem, h0, h1, h5]
  refine ifB'.of (fun hlt => ?_) (fun hlt => ?_)
  · have hlt : i < xs.length := by omega
    simp -dsimp -implicitDefEqProofs only [go_sem, h0, h1, h5, Cl_at hlt, clC]
    repeat (first | with_reducible refine ask.of (by omega) ?_ | simp -dsimp -implicitDefEqProofs only [go_sem, h0, h1, h5, Cl_at hlt, clC, bleF])
    refine CallE.of (c_eqCell xs[i] (hb _ (List.getElem_mem _))) (by rintro r rfl; (repeat' first | exact trivial | exact pure_rowB _ | exact pure_rowO _ | exact pure_rowI _ | exact pure_rowBB _ | exact pure_rowPk _ _ | exact pure_rowSn _ _ | exact pure_rowFd _ _ | exact pure_rowBBB _ | exact pure_rowCl _ _ | exact pure_rowTb _ _ _ | refine And.intro ?_ ?_)) (by simp -dsimp -implicitDefEqProofs only [go_sem, h0, h1, h5, Bool.not_true, clC]) ?_
    rintro r rfl
    simp -dsimp -implicitDefEqProofs only [go_sem, h0, h1, h5, Bool.not_true, clC]
    refine hK _ hlt ?_
    simp -dsimp -implicitDefEqProofs only [go_sem, h0, h1, h5, wrap_succ (show i < 4611686018427387904 by omega)]
  · simp -dsimp -implicitDefEqProofs only [go_sem, h0, h1, h5]
end Go.Ev
set_option linter.unusedSimpArgs false
set_option linter.unusedVariables false
namespace Go.Ev
open Go Go.RowKit Go.Proofs
def mpS (l : List (List UInt8 × Value)) : List (Value × Value) := l.map fun p => (.string ⟨p.1.toArray⟩, p.2)
theorem kEq_str (a b : List UInt8) : kEq (.string ⟨a.toArray⟩) (.string ⟨b.toArray⟩) = decide (a = b) := by
  show ((⟨a.toArray⟩ : ByteArray) == ⟨b.toArray⟩) = _
  by_cases h : a = b
  · rw [decide_eq_true h, h]; exact (MapKept.bytes_beq _ _).2 rfl
  · rw [decide_eq_false h]
    cases h2 : ((⟨a.toArray⟩ : ByteArray) == ⟨b.toArray⟩) with
    | false => rfl
    | true => exact absurd (by simpa using (MapKept.bytes_beq _ _).1 h2) h
theorem mgetS_some (t : List UInt8) : ∀ l : List (List UInt8 × Value), (mget (mpS l) (.string ⟨t.toArray⟩)).isSome = decide (t ∈ l.map (·.1))
  | [] => rfl
  | p :: l => by
    show (sel (kEq (.string ⟨p.1.toArray⟩) (.string ⟨t.toArray⟩)) (some p.2) (mget (mpS l) _)).isSome = _
    rw [kEq_str]
    by_cases h : p.1 = t
    · rw [decide_eq_true h]; simp [sel, h]
    · rw [decide_eq_false h]
      show (mget (mpS l) _).isSome = _
      rw [mgetS_some t l]
      simp [Ne.symm h]
theorem mputS_new (t : List UInt8) (v : Value) : ∀ l : List (List UInt8 × Value), t ∉ l.map (·.1) → mput (mpS l) (.string ⟨t.toArray⟩) v = mpS (l ++ [(t, v)])
  | [], _ => rfl
  | p :: l, h => by
    show sel (kEq (.string ⟨p.1.toArray⟩) (.string ⟨t.toArray⟩)) _ ((.string ⟨p.1.toArray⟩, p.2) :: mput (mpS l) _ v) = _
    have h1 : p.1 ≠ t := fun e => h (by simp [e])
    rw [kEq_str, decide_eq_false h1, mputS_new t v l (fun h2 => h (by simp at h2 ⊢; exact .inr h2))]
    rfl
def ixP (xs : List (List UInt8)) : List (List UInt8 × Value) := xs.zipIdx.map fun p => (p.1, .int .i64 p.2)
theorem ixP_keys (xs : List (List UInt8)) : (ixP xs).map (·.1) = xs := by
  rw [ixP, List.map_map]
  exact List.zipIdx_map_fst 0 xs
theorem ixP_snoc (xs : List (List UInt8)) (t : List UInt8) : ixP xs ++ [(t, .int .i64 (xs.length : Int))] = ixP (xs ++ [t]) := by
  simp [ixP, List.zipIdx_append]
theorem ixP_has (xs : List (List UInt8)) (t : List UInt8) : (mget (mpS (ixP xs)) (.string ⟨t.toArray⟩)).isSome = decide (t ∈ xs) := by rw [mgetS_some, ixP_keys]
theorem ixP_put {xs : List (List UInt8)} {t : List UInt8} (h : t ∉ xs) : mput (mpS (ixP xs)) (.string ⟨t.toArray⟩) (.int .i64 (xs.length : Int)) = mpS (ixP (xs ++ [t])) := by
  rw [mputS_new _ _ _ (by rw [ixP_keys]; exact h), ixP_snoc]
theorem c_l1same (a b : List UInt8) (ha : a.length ≤ 140737488355328) (hb : b.length ≤ 140737488355328) : Meets Tryz.prog 91 [rowB a, rowB b] (fun r => r = .v (.bool (decide (a = b)))) := by
  refine Meets.intro mixed (hint []) Tryz.func91 rfl (by decide) res_91 rty_91 (by kernel_rfl) ?_; 
  simp -dsimp -implicitDefEqProofs only [go_sem, initE]
  exact decide_eq_decide.2 ⟨fun h => by simpa using h, fun h => by rw [h]⟩
def plI (xs : List (List UInt8)) (t : List UInt8) : Int := if t ∈ xs then ((xs.idxOf t : Nat) : Int) else -1
theorem plI_at {xs : List (List UInt8)} {t : List UInt8} {i : Nat} (h : i < xs.length) (he : xs[i] = t) (hn : t ∉ xs.take i) : plI xs t = (i : Int) := by
  have hm : t ∈ xs := by rw [← he]; exact List.getElem_mem _
  rw [plI, if_pos hm]
  congr 1
  have e : xs = xs.take i ++ t :: xs.drop (i + 1) := by rw [← he, ← List.drop_eq_getElem_cons h, List.take_append_drop]
  rw [e, List.idxOf_append, if_neg hn]
  simp
  omega
theorem plI_no {xs : List (List UInt8)} {t : List UInt8} (h : t ∉ xs) : plI xs t = -1 := if_neg h
theorem plI_nonneg (xs : List (List UInt8)) (t : List UInt8) : 0 ≤ plI xs t ↔ t ∈ xs := by
  unfold plI
  split
  · rename_i h; exact ⟨fun _ => h, fun _ => by omega⟩
  · rename_i h; exact ⟨fun h' => by omega, fun h' => absurd h' h⟩
theorem not_mem_take_succ {α : Type} {xs : List α} {t : α} {i : Nat} (h : i < xs.length) (hn : t ∉ xs.take i) (he : xs[i] ≠ t) : t ∉ xs.take (i + 1) := by
  rw [List.take_succ_eq_append_getElem h]
  simp only [List.mem_append, List.mem_singleton, not_or]
  exact ⟨hn, fun e => he e.symm⟩
theorem c_l2place (xs : List (List UInt8)) (t : List UInt8) (hx : xs.length ≤ 1048576) (hb : ∀ b ∈ xs, b.length ≤ 140737488355328) (ht : t.length ≤ 140737488355328) : Meets Tryz.prog 146 [rowBB xs, rowB t] (fun r => r = .v (.int .i64 (plI xs t))) := by
  refine Meets.intro mixed (hint []) Tryz.func146 rfl (by decide) res_146 rty_146 (by kernel_rfl) ?_; 
  simp -dsimp -implicitDefEqProofs only [go_sem]
  refine LoopE.cnt xs.length (fun i s => s.env 0 = .rd .ent 48 1 (ra byC xs) ∧ s.env 1 = .rd .ent 5 1 (bytesA t) ∧ s.env 5 = .v (.int .i64 i) ∧ t ∉ xs.take i) ⟨by simp -dsimp -implicitDefEqProofs only [go_sem, initE], by simp -dsimp -implicitDefEqProofs only [go_sem, initE], by simp -dsimp -implicitDefEqProofs only [go_sem], by simp⟩ ?_
  rintro i ⟨e, σ⟩ hi ⟨h0, h1, h5, hn⟩ K hK
  simp only at h0 h1 h5
  simp -dsimp -implicitDefEqProofs only [go_sem, h0, h1, h5]
  refine ifB'.of (fun hlt => ?_) (fun hlt => ?_)
  · have hlt : i < xs.length := by omega
    simp -dsimp -implicitDefEqProofs only [go_sem, h0, h1, h5, byA_at hlt]
    repeat with_reducible refine ask.of (by omega) ?_
    refine CallE.of (c_l1same xs[i] t (hb _ (List.getElem_mem _)) ht) (by rintro r rfl; (repeat' first | exact trivial | exact pure_rowB _ | exact pure_rowO _ | exact pure_rowI _ | exact pure_rowBB _ | exact pure_rowPk _ _ | exact pure_rowSn _ _ | exact pure_rowFd _ _ | exact pure_rowBBB _ | exact pure_rowCl _ _ | exact pure_rowTb _ _ _ | refine And.intro ?_ ?_)) (by simp -dsimp -implicitDefEqProofs only [go_sem, h0, h1, h5]) ?_
    rintro r rfl
    simp -dsimp -implicitDefEqProofs only [go_sem, h0, h1, h5]
    refine ifB'.of (fun hq => ?_) (fun hq => ?_)
    · simp -dsimp -implicitDefEqProofs only [go_sem, h0, h1, h5]
      rw [plI_at hlt hq hn]
    · simp -dsimp -implicitDefEqProofs only [go_sem, h0, h1, h5]
      refine hK _ hlt ?_
      simp -dsimp -implicitDefEqProofs only [go_sem, h0, h1, h5, wrap_succ (show i < 4611686018427387904 by omega)]
      exact not_mem_take_succ hlt hn hq
  · have : i = xs.length := by omega
    subst this
    simp -dsimp -implicitDefEqProofs only [go_sem, h0, h1, h5]
    rw [plI_no (by rwa [List.take_length] at hn)]
def okD (xs : List (List UInt8)) : Prop := xs.length ≤ 40 ∧ wBB xs ≤ 4000 ∧ xs.Nodup
instance (xs : List (List UInt8)) : Decidable (okD xs) := by unfold okD; infer_instance
theorem okD_f {xs : List (List UInt8)} (h : ¬ okD xs) : false = decide (okD xs) := (decide_eq_false h).symm
theorem okD_t {xs : List (List UInt8)} (h : okD xs) : true = decide (okD xs) := (decide_eq_true h).symm
theorem nodup_take {α : Type} {xs : List α} (h : xs.Nodup) (i : Nat) : (xs.take i).Nodup := List.Nodup.sublist (List.take_sublist _ _) h
theorem nodup_take_succ {α : Type} {xs : List α} {i : Nat} (h : i < xs.length) : (xs.take (i + 1)).Nodup ↔ (xs.take i).Nodup ∧ xs[i] ∉ xs.take i := by
  rw [List.take_succ_eq_append_getElem h, List.nodup_append]
  simp
  intro _
  constructor
  · intro h1 h2; exact h1 _ h2 rfl
  · intro h1 a h2 h3; exact h1 (h3 ▸ h2)
theorem c_sValidDict (xs : List (List UInt8)) (hx : xs.length + wBB xs ≤ 1048576) : Meets Tryz.prog 107 [rowBB xs] (fun r => r = .v (.bool (decide (okD xs)))) := by
  refine Meets.introO mixed (hint []) (fun k => (sel (k == 8) [0,1,2,3,4,5,6,7,8,9,10,11,12] [])) Tryz.func107 rfl (by decide) res_107 rty_107 (by kernel_rfl) ?_; 
  have hb : ∀ b ∈ xs, b.length ≤ 140737488355328 := fun b hb => by have : b.length ≤ wBB xs := mem_wBB hb; omega
  simp -dsimp -implicitDefEqProofs only [go_sem]
  refine ifB'.of (fun h => ?_) (fun h => ?_)
  · simp -dsimp -implicitDefEqProofs only [go_sem]
    exact okD_f (fun h' => by have := h'.1; omega)
  simp -dsimp -implicitDefEqProofs only [go_sem]
  refine LoopE.cnt xs.length (fun i s => s.env 0 = .rd .ent 48 1 (ra byC xs) ∧ s.env 4 = .v (.int .i64 i) ∧ s.env 3 = .v (.int .i64 (wBB (xs.take i) : Nat)) ∧ wBB (xs.take i) ≤ 4000 ∧ (xs.take i).Nodup) ⟨by simp -dsimp -implicitDefEqProofs only [go_sem, initE], by simp -dsimp -implicitDefEqProofs only [go_sem], by simp -dsimp -implicitDefEqProofs only [go_sem] <;> rfl, by simp [wBB, szL], by simp⟩ ?_
  rintro i ⟨e, σ⟩ hi ⟨h0, h4, h3, hw, hnd⟩ K hK
  simp only at h0 h4 h3
  simp -dsimp -implicitDefEqProofs only [go_sem, h0, h4, h3]
  refine ifB'.of (fun hlt => ?_) (fun hlt => ?_)
  · have hlt : i < xs.length := by omega
    have hs : wBB (xs.take (i + 1)) = wBB (xs.take i) + xs[i].length := szL_take_succ List.length hlt
    have hsl : wBB (xs.take (i + 1)) ≤ wBB xs := szL_take_le List.length xs (i + 1)
    have e1 : IntKind.i64.wrap ((wBB (xs.take i) : Int) + xs[i].length) = (wBB (xs.take (i + 1)) : Nat) := by rw [wrap_i64_of (by omega) (by omega), hs]; omega
    simp -dsimp -implicitDefEqProofs only [go_sem, h0, h4, h3, byA_at hlt]
    repeat with_reducible refine ask.of (by omega) ?_
    simp -dsimp -implicitDefEqProofs only [go_sem, h0, h4, h3, byA_at hlt, e1]
    refine ifB'.of (fun hg => ?_) (fun hg => ?_)
    · simp -dsimp -implicitDefEqProofs only [go_sem, h0, h4, h3]
      exact okD_f (fun h' => by have := h'.2.1; omega)
    · simp -dsimp -implicitDefEqProofs only [go_sem, h0, h4, h3, byA_at hlt, Int.toNat_natCast]
      repeat with_reducible refine ask.of (by omega) ?_
      refine CallE.of (c_l2place (xs.take i) xs[i] (by simp; omega) (fun b h => hb b (List.mem_of_mem_take h)) (hb _ (List.getElem_mem _))) (by rintro r rfl; (repeat' first | exact trivial | exact pure_rowB _ | exact pure_rowO _ | exact pure_rowI _ | exact pure_rowBB _ | exact pure_rowPk _ _ | exact pure_rowSn _ _ | exact pure_rowFd _ _ | exact pure_rowBBB _ | exact pure_rowCl _ _ | exact pure_rowTb _ _ _ | refine And.intro ?_ ?_)) (by simp -dsimp -implicitDefEqProofs only [go_sem, h0, h4, h3, Int.toNat_zero]) ?_
      rintro r rfl
      simp -dsimp -implicitDefEqProofs only [go_sem, h0, h4, h3, Int.toNat_zero]
      refine ifB'.of (fun hq => ?_) (fun hq => ?_)
      · simp -dsimp -implicitDefEqProofs only [go_sem, h0, h4, h3]
        have hq := (plI_nonneg _ _).1 hq
        exact okD_f (fun h' => ((nodup_take_succ hlt).1 (nodup_take h'.2.2 (i + 1))).2 hq)
      · simp -dsimp -implicitDefEqProofs only [go_sem, h0, h4, h3]
        refine hK _ hlt ?_
        simp -dsimp -implicitDefEqProofs only [go_sem, h0, h4, h3, wrap_succ (show i < 4611686018427387904 by omega)]
        exact ⟨by omega, by omega, (nodup_take_succ hlt).2 ⟨hnd, fun h' => hq ((plI_nonneg _ _).2 h')⟩⟩
  · have : i = xs.length := by omega
    subst this
    simp -dsimp -implicitDefEqProofs only [go_sem, h0, h4, h3]
    rw [List.take_length] at hw hnd
    exact okD_t ⟨by omega, hw, hnd⟩
theorem c_iValidDict (xs : List (List UInt8)) (hx : xs.length + wBB xs ≤ 1048576) : Meets Tryz.prog 120 [rowBB xs] (fun r => r = .v (.bool (decide (okD xs)))) := by
  refine Meets.intro mixed (hint []) Tryz.func120 rfl (by decide) res_120 rty_120 (by kernel_rfl) ?_; 
  simp -dsimp -implicitDefEqProofs only [go_sem]
  refine ifB'.of (fun h => ?_) (fun h => ?_)
  · simp -dsimp -implicitDefEqProofs only [go_sem]
    exact okD_f (fun h' => by have := h'.1; omega)
  simp -dsimp -implicitDefEqProofs only [go_sem]
  refine LoopE.cnt xs.length (fun i s => s.env 13 = .rd .ent 48 1 (ra byC xs) ∧ s.env 14 = .v (.int .i64 xs.length) ∧ s.env 15 = .v (.int .i64 i) ∧ s.env 3 = .ref [12] ∧ s.env 4 = .v (.int .i64 (wBB (xs.take i) : Nat)) ∧ s.σ [12] = some (.mp .string 3 (mpS (ixP (xs.take i)))) ∧ (xs.take i).Nodup) ⟨by simp -dsimp -implicitDefEqProofs only [go_sem, initE], by simp -dsimp -implicitDefEqProofs only [go_sem, initE], by simp -dsimp -implicitDefEqProofs only [go_sem], by simp -dsimp -implicitDefEqProofs only [go_sem], by simp -dsimp -implicitDefEqProofs only [go_sem] <;> rfl, by simp -dsimp -implicitDefEqProofs only [go_sem] <;> rfl, by simp⟩ ?_
  rintro i ⟨e, σ⟩ hi ⟨h13, h14, h15, h3, h4, hs, hnd⟩ K hK
  simp only at h13 h14 h15 h3 h4 hs
  simp -dsimp -implicitDefEqProofs only [go_sem, h13, h14, h15, h3, h4, hs]
  refine ifB'.of (fun hlt => ?_) (fun hlt => ?_)
  · have hlt : i < xs.length := by omega
    have hw : wBB (xs.take (i + 1)) = wBB (xs.take i) + xs[i].length := szL_take_succ List.length hlt
    have hsl : wBB (xs.take (i + 1)) ≤ wBB xs := szL_take_le List.length xs (i + 1)
    have e1 : IntKind.i64.wrap ((wBB (xs.take i) : Int) + xs[i].length) = (wBB (xs.take (i + 1)) : Nat) := by rw [wrap_i64_of (by omega) (by omega), hw]; omega
    simp -dsimp -implicitDefEqProofs only [go_sem, h13, h14, h15, h3, h4, hs, byA_at hlt]
    repeat with_reducible refine ask.of (by omega) ?_
    simp -dsimp -implicitDefEqProofs only [go_sem, h13, h14, h15, h3, h4, hs, byA_at hlt, ixP_has]
    refine ifB'.of (fun hq => ?_) (fun hq => ?_)
    · simp -dsimp -implicitDefEqProofs only [go_sem, h13, h14, h15, h3, h4, hs]
      exact okD_f (fun h' => ((nodup_take_succ hlt).1 (nodup_take h'.2.2 (i + 1))).2 hq)
    · have hp := ixP_put hq
      rw [show (xs.take i).length = i by simp; omega, ← take_succ hlt] at hp
      simp -dsimp -implicitDefEqProofs only [go_sem, h13, h14, h15, h3, h4, hs, e1, hp]
      refine hK _ hlt ?_
      simp -dsimp -implicitDefEqProofs only [go_sem, h13, h14, h15, h3, h4, hs, wrap_succ (show i < 4611686018427387904 by omega)]
      exact (nodup_take_succ hlt).2 ⟨hnd, hq⟩
  · have : i = xs.length := by omega
    subst this
    simp -dsimp -implicitDefEqProofs only [go_sem, h13, h14, h15, h3, h4, hs]
    rw [List.take_length] at hnd ⊢
    exact decide_eq_decide.2 ⟨fun h' => ⟨by omega, by omega, hnd⟩, fun h' => by have := h'.2.1; omega⟩
end Go.Ev
set_option linter.unusedSimpArgs false
set_option linter.unusedVariables false
namespace Go.Ev
open Go Go.RowKit Go.Proofs
def h8 (x0 x1 x2 x3 x4 x5 x6 x7 : Bool) : Nat := (((((((0 * 2 + x7.toNat) * 2 + x6.toNat) * 2 + x5.toNat) * 2 + x4.toNat) * 2 + x3.toNat) * 2 + x2.toNat) * 2 + x1.toNat) * 2 + x0.toNat
end Go.Ev
set_option linter.unusedSimpArgs false
set_option linter.unusedVariables false
namespace Go.Ev
open Go Go.RowKit Go.Proofs
theorem wrap_u64 {n : Nat} (h : n < 18446744073709551616) : IntKind.u64.wrap (n : Int) = (n : Int) := by
  simp [IntKind.wrap, IntKind.bits, IntKind.signed]; omega
end Go.Ev
set_option linter.unusedSimpArgs false
set_option linter.unusedVariables false
namespace Go.Ev
open Go Go.RowKit Go.Proofs
theorem c_bytesEqual (a b : List UInt8) (ha : a.length ≤ 140737488355328) (hb : b.length ≤ 140737488355328) : Meets Tryz.prog 98 [rowB a, rowB b] (fun r => r = .v (.bool (decide (a = b)))) := by
  refine Meets.intro mixed (hint []) Tryz.func98 rfl (by decide) res_98 rty_98 (by kernel_rfl) ?_; 
  simp -dsimp -implicitDefEqProofs only [go_sem, initE]
  exact decide_eq_decide.2 ⟨fun h => by simpa using h, fun h => by rw [h]⟩
end Go.Ev
set_option linter.unusedSimpArgs false
set_option linter.unusedVariables false
namespace Go.Ev
open Go Go.RowKit Go.Proofs
def leN : List UInt8 → Nat
  | [] => 0
  | c :: cs => c.toNat + 256 * leN cs
theorem leN_drop {b : List UInt8} {i : Nat} (h : i < b.length) : leN (b.drop i) = b[i].toNat + 256 * leN (b.drop (i + 1)) := by
  rw [List.drop_eq_getElem_cons h, leN]
theorem wrap_ex (x : Int) : ∃ k : Int, IntKind.i64.wrap x = x + 18446744073709551616 * k := by
  rw [IntKind.wrap_i64]
  exact ⟨-((x + 9223372036854775808) / 18446744073709551616), by omega⟩
theorem wrap_more (x k : Int) : IntKind.i64.wrap (x + 18446744073709551616 * k) = IntKind.i64.wrap x := by
  rw [IntKind.wrap_i64, IntKind.wrap_i64]; omega
theorem wrap_step (n c : Int) : IntKind.i64.wrap (IntKind.i64.wrap (IntKind.i64.wrap n * 256) + c) = IntKind.i64.wrap (c + 256 * n) := by
  obtain ⟨k, hk⟩ := wrap_ex n
  obtain ⟨k2, hk2⟩ := wrap_ex (IntKind.i64.wrap n * 256)
  rw [hk2, hk, show (n + 18446744073709551616 * k) * 256 + 18446744073709551616 * k2 + c = c + 256 * n + 18446744073709551616 * (256 * k + k2) by omega, wrap_more]
theorem or_byte (n : Nat) (c : UInt8) : IntKind.i64.wrap (((BitVec.ofInt IntKind.i64.bits (IntKind.i64.wrap (IntKind.i64.wrap (n : Int) * 2 ^ min (Int.toNat 8) 64)) ||| BitVec.ofInt IntKind.i64.bits (c.toNat : Int)).toNat : Nat) : Int) = IntKind.i64.wrap ((c.toNat + 256 * n : Nat) : Int) := by
  show IntKind.i64.wrap (((BitVec.ofInt 64 (IntKind.i64.wrap (IntKind.i64.wrap (n : Int) * 256)) ||| BitVec.ofInt 64 (c.toNat : Int)).toNat : Nat) : Int) = _
  have hc := c.toNat_lt
  have e : (BitVec.ofInt 64 (IntKind.i64.wrap (IntKind.i64.wrap (n : Int) * 256)) ||| BitVec.ofInt 64 (c.toNat : Int)).toNat = (c.toNat + 256 * n) % 18446744073709551616 := by
    have e1 : (BitVec.ofInt 64 (IntKind.i64.wrap (IntKind.i64.wrap (n : Int) * 256))).toNat = (n % 72057594037927936) <<< 8 := by
      simp only [BitVec.toNat_ofInt, Nat.shiftLeft_eq, IntKind.wrap_i64]
      omega
    have e2 : (BitVec.ofInt 64 (c.toNat : Int)).toNat = c.toNat := by
      simp only [BitVec.toNat_ofInt]
      omega
    rw [BitVec.toNat_or, e1, e2, ← Nat.shiftLeft_add_eq_or_of_lt (by omega), Nat.shiftLeft_eq]
    omega
  rw [e, IntKind.wrap_i64, IntKind.wrap_i64]
  omega
theorem c_l1number (b : List UInt8) (hb : b.length ≤ 1048576) : Meets Tryz.prog 89 [rowB b] (fun r => r = .v (.int .i64 (IntKind.i64.wrap (leN b)))) := by
  have e1 : IntKind.i64.wrap ((b.length : Int) - 1) = (b.length : Int) - 1 := wrap_i64_of (by omega) (by omega)
  refine Meets.intro mixed (hint []) Tryz.func89 rfl (by decide) res_89 rty_89 (by kernel_rfl) ?_; 
  simp -dsimp -implicitDefEqProofs only [go_sem, e1]
  refine LoopE.cnt b.length (fun i s => s.env 0 = .rd .ent 5 1 (bytesA b) ∧ s.env 4 = .v (.int .i64 ((b.length : Int) - 1 - i)) ∧ s.env 3 = .v (.int .i64 (IntKind.i64.wrap (leN (b.drop (b.length - i)))))) ⟨by simp -dsimp -implicitDefEqProofs only [go_sem, initE], by simp -dsimp -implicitDefEqProofs only [go_sem] <;> simp, by simp -dsimp -implicitDefEqProofs only [go_sem] <;> simp [leN] <;> rfl⟩ ?_
  rintro i ⟨e, σ⟩ hi ⟨h0, h4, h3⟩ K hK
  simp only at h0 h4 h3
  simp -dsimp -implicitDefEqProofs only [go_sem, h0, h4, h3]
  refine ifB'.of (fun hlt => ?_) (fun hlt => ?_)
  · have hlt : i < b.length := by omega
    obtain ⟨j, hj⟩ : ∃ j : Nat, b.length - 1 - i = j := ⟨_, rfl⟩
    have hj1 : (b.length : Int) - 1 - i = (j : Nat) := by omega
    have hj2 : b.length - i = j + 1 := by omega
    have hj3 : j < b.length := by omega
    have e2 : IntKind.i64.wrap (IntKind.i64.wrap (IntKind.i64.wrap (leN (b.drop (j + 1)) : Int) * 256) + (b[j].toNat : Int)) = IntKind.i64.wrap (leN (b.drop j) : Int) := by
      rw [leN_drop hj3, wrap_step]
      congr 1
    have e3 : IntKind.i64.wrap ((j : Int) - 1) = (b.length : Int) - 1 - ((i + 1 : Nat) : Int) := by rw [wrap_i64_of (by omega) (by omega)]; omega
    have e5 : IntKind.i64.wrap (b[j].toNat : Int) = b[j].toNat := wrap_nat (by have := b[j].toNat_lt; omega)
    simp -dsimp -implicitDefEqProofs only [go_sem, h0, h4, h3, hj1, hj2, bytesA_at hj3, e5]
    repeat with_reducible refine ask.of (by omega) ?_
    refine hK _ hlt ?_
    simp -dsimp -implicitDefEqProofs only [go_sem, h0, h4, h3, e2, e3, show b.length - (i + 1) = j by omega]
  · obtain rfl : i = b.length := by omega
    simp -dsimp -implicitDefEqProofs only [go_sem, h0, h4, h3, show b.length - b.length = 0 by omega, List.drop_zero]
theorem c_low (b : List UInt8) (hb : b.length ≤ 1048576) : Meets Tryz.prog 95 [rowB b] (fun r => r = .v (.int .i64 (IntKind.i64.wrap (leN b)))) := by
  have e1 : IntKind.i64.wrap ((b.length : Int) - 1) = (b.length : Int) - 1 := wrap_i64_of (by omega) (by omega)
  refine Meets.intro mixed (hint []) Tryz.func95 rfl (by decide) res_95 rty_95 (by kernel_rfl) ?_; 
  simp -dsimp -implicitDefEqProofs only [go_sem, e1]
  refine LoopE.cnt b.length (fun i s => s.env 0 = .rd .ent 5 1 (bytesA b) ∧ s.env 4 = .v (.int .i64 ((b.length : Int) - 1 - i)) ∧ s.env 3 = .v (.int .i64 (IntKind.i64.wrap (leN (b.drop (b.length - i)))))) ⟨by simp -dsimp -implicitDefEqProofs only [go_sem, initE], by simp -dsimp -implicitDefEqProofs only [go_sem] <;> simp, by simp -dsimp -implicitDefEqProofs only [go_sem] <;> simp [leN] <;> rfl⟩ ?_
  rintro i ⟨e, σ⟩ hi ⟨h0, h4, h3⟩ K hK
  simp only at h0 h4 h3
  simp -dsimp -implicitDefEqProofs only [go_sem, h0, h4, h3]
  refine ifB'.of (fun hlt => ?_) (fun hlt => ?_)
  · have hlt : i < b.length := by omega
    obtain ⟨j, hj⟩ : ∃ j : Nat, b.length - 1 - i = j := ⟨_, rfl⟩
    have hj1 : (b.length : Int) - 1 - i = (j : Nat) := by omega
    have hj2 : b.length - i = j + 1 := by omega
    have hj3 : j < b.length := by omega
    have e3 : IntKind.i64.wrap ((j : Int) - 1) = (b.length : Int) - 1 - ((i + 1 : Nat) : Int) := by rw [wrap_i64_of (by omega) (by omega)]; omega
    have e5 : IntKind.i64.wrap (b[j].toNat : Int) = b[j].toNat := wrap_nat (by have := b[j].toNat_lt; omega)
    simp -dsimp -implicitDefEqProofs only [go_sem, h0, h4, h3, hj1, hj2, bytesA_at hj3, e5]
    repeat with_reducible refine ask.of (by omega) ?_
    refine hK _ hlt ?_
    simp -dsimp -implicitDefEqProofs only [go_sem, h0, h4, h3, or_byte, e3, show b.length - (i + 1) = j by omega, leN_drop hj3]
  · obtain rfl : i = b.length := by omega
    simp -dsimp -implicitDefEqProofs only [go_sem, h0, h4, h3, show b.length - b.length = 0 by omega, List.drop_zero]
end Go.Ev
set_option linter.unusedSimpArgs false
set_option linter.unusedVariables false
namespace Go.Ev
open Go Go.RowKit Go.Proofs
def isW (n : Int) : Bool := decide (n = 1 ∨ n = 2 ∨ n = 4 ∨ n = 8)
theorem isW_of {w : Nat} (h : w = 1 ∨ w = 2 ∨ w = 4 ∨ w = 8) : isW w = true := by
  have : (w : Int) = 1 ∨ (w : Int) = 2 ∨ (w : Int) = 4 ∨ (w : Int) = 8 := by omega
  simpa [isW] using this
theorem c_l1width (n : Int) : Meets Tryz.prog 142 [.v (.int .i64 n)] (fun r => r = .v (.bool (isW n))) := by
  refine Meets.intro mixed (hint []) Tryz.func142 rfl (by decide) res_142 rty_142 (by kernel_rfl) ?_; 
  by_cases h1 : n = 1
  · simp -dsimp -implicitDefEqProofs only [go_sem, initE, h1, decide_true, decide_false, show isW 1 = true from rfl]
  by_cases h2 : n = 2
  · simp -dsimp -implicitDefEqProofs only [go_sem, initE, h1, h2, decide_true, decide_false, show isW 2 = true from rfl, show ¬ (2 : Int) = 1 by decide]
  by_cases h4 : n = 4
  · simp -dsimp -implicitDefEqProofs only [go_sem, initE, h1, h2, h4, decide_true, decide_false, show isW 4 = true from rfl, show ¬ (4 : Int) = 1 by decide, show ¬ (4 : Int) = 2 by decide]
  by_cases h8 : n = 8
  · simp -dsimp -implicitDefEqProofs only [go_sem, initE, h1, h2, h4, h8, decide_true, decide_false, show isW 8 = true from rfl, show ¬ (8 : Int) = 1 by decide, show ¬ (8 : Int) = 2 by decide, show ¬ (8 : Int) = 4 by decide]
  have e : isW n = false := by simp [isW, h1, h2, h4, h8]
  simp -dsimp -implicitDefEqProofs only [go_sem, initE, h1, h2, h4, h8, e, decide_true, decide_false]
def chunk (b : List UInt8) (w i : Nat) : List UInt8 := (b.drop (w * i)).take w
end Go.Ev
