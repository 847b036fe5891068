/- Part 12 of what the row leans on: the evaluator, words, contracts of functions; pruned by a program of ours. -/
import Derived.Test.YtijmbcnhkdhkeaaOp11
import Derived.Test.YtijmbcnhkdhkeaaProg
import Derived.KernelRfl
namespace Go.Ev
open Go Go.Proofs
theorem mixed : Try.prog.follows .mixedOrders = true := by kernel_rfl
theorem tySz_24 : tySz Try.prog 24 = some (4, true) := by kernel_rfl
theorem elTy_25 : elTy Try.prog 25 = some (5, 1, 1) := by kernel_rfl
theorem par_12 : parTys Try.prog 12 = [24, 3] := by kernel_rfl
theorem cty_24 : cty Try.prog 24 = [none, none, none, some (213, 7)] := by kernel_rfl
theorem cty_3 : cty Try.prog 3 = [none] := by kernel_rfl
theorem par_14 : parTys Try.prog 14 = [24] := by kernel_rfl
theorem par_15 : parTys Try.prog 15 = [25] := by kernel_rfl
theorem cty_25 : cty Try.prog 25 = [some (5, 1)] := by kernel_rfl
theorem par_13 : parTys Try.prog 13 = [29, 25] := by kernel_rfl
theorem cty_29 : cty Try.prog 29 = [none, none, none, some (133, 7)] := by kernel_rfl
theorem zeroC_29 : zeroC Try.prog 29 = some [.v (.int .i64 0), .v (.int .i64 0), .v (.int .i64 0), .v (.slice none 0 0)] := by kernel_rfl
theorem tySz_29 : tySz Try.prog 29 = some (4, true) := by kernel_rfl
theorem par_16 : parTys Try.prog 16 = [29, 25] := by kernel_rfl
theorem par_17 : parTys Try.prog 17 = [29, 29] := by kernel_rfl
theorem par_18 : parTys Try.prog 18 = [25, 25] := by kernel_rfl
theorem par_19 : parTys Try.prog 19 = [29, 3] := by kernel_rfl
theorem par_20 : parTys Try.prog 20 = [25, 3] := by kernel_rfl
theorem par_21 : parTys Try.prog 21 = [29, 3] := by kernel_rfl
theorem cty_4 : cty Try.prog 4 = [none] := by kernel_rfl
theorem par_22 : parTys Try.prog 22 = [39, 3] := by kernel_rfl
theorem cty_39 : cty Try.prog 39 = [some (25, 1)] := by kernel_rfl
theorem par_23 : parTys Try.prog 23 = [40, 3] := by kernel_rfl
theorem cty_40 : cty Try.prog 40 = [some (145, 3)] := by kernel_rfl
theorem par_25 : parTys Try.prog 25 = [39] := by kernel_rfl
theorem par_26 : parTys Try.prog 26 = [40] := by kernel_rfl
theorem cty_48 : cty Try.prog 48 = [some (151, 3)] := by kernel_rfl
theorem par_29 : parTys Try.prog 29 = [39, 39] := by kernel_rfl
theorem par_30 : parTys Try.prog 30 = [48, 48] := by kernel_rfl
theorem par_31 : parTys Try.prog 31 = [39, 3] := by kernel_rfl
theorem par_32 : parTys Try.prog 32 = [48, 3] := by kernel_rfl
theorem par_35 : parTys Try.prog 35 = [56, 3] := by kernel_rfl
theorem cty_56 : cty Try.prog 56 = [some (74, 3)] := by kernel_rfl
theorem par_37 : parTys Try.prog 37 = [56] := by kernel_rfl
theorem par_36 : parTys Try.prog 36 = [58, 3] := by kernel_rfl
theorem cty_58 : cty Try.prog 58 = [some (78, 3)] := by kernel_rfl
theorem zeroC_61 : zeroC Try.prog 61 = some [.v (.bool false), .v (.slice none 0 0), .v (.int .i64 0), .v (.slice none 0 0)] := by kernel_rfl
theorem tySz_61 : tySz Try.prog 61 = some (4, true) := by kernel_rfl
theorem par_38 : parTys Try.prog 38 = [58, 3] := by kernel_rfl
theorem par_39 : parTys Try.prog 39 = [61, 61] := by kernel_rfl
theorem cty_61 : cty Try.prog 61 = [none, some (78, 3), none, some (39, 1)] := by kernel_rfl
theorem par_40 : parTys Try.prog 40 = [58, 58] := by kernel_rfl
theorem par_41 : parTys Try.prog 41 = [58, 3] := by kernel_rfl
theorem par_42 : parTys Try.prog 42 = [61, 3] := by kernel_rfl
theorem par_43 : parTys Try.prog 43 = [61, 3] := by kernel_rfl
theorem par_44 : parTys Try.prog 44 = [25, 3] := by kernel_rfl
theorem par_47 : parTys Try.prog 47 = [39, 3] := by kernel_rfl
theorem tySz_74 : tySz Try.prog 74 = some (3, true) := by kernel_rfl
theorem par_48 : parTys Try.prog 48 = [74, 3] := by kernel_rfl
theorem cty_74 : cty Try.prog 74 = [some (5, 1), none, none] := by kernel_rfl
theorem par_50 : parTys Try.prog 50 = [74] := by kernel_rfl
theorem cty_78 : cty Try.prog 78 = [some (5, 1), none, none] := by kernel_rfl
theorem zeroC_78 : zeroC Try.prog 78 = some [.v (.slice none 0 0), .v (.int .i64 0), .v (.int .i64 0)] := by kernel_rfl
theorem tySz_78 : tySz Try.prog 78 = some (3, true) := by kernel_rfl
theorem par_52 : parTys Try.prog 52 = [78, 78] := by kernel_rfl
theorem tySz_87 : tySz Try.prog 87 = some (6, true) := by kernel_rfl
theorem par_55 : parTys Try.prog 55 = [87, 3] := by kernel_rfl
theorem cty_87 : cty Try.prog 87 = [none, none, none, none, none, some (5, 1)] := by kernel_rfl
theorem par_58 : parTys Try.prog 58 = [87] := by kernel_rfl
theorem cty_96 : cty Try.prog 96 = [none, none, none, none, none, some (5, 1)] := by kernel_rfl
theorem zeroC_96 : zeroC Try.prog 96 = some [.v (.int .i64 0), .v (.int .i64 0), .v (.int .i64 0), .v (.int .i64 0), .v (.bool false), .v (.slice none 0 0)] := by kernel_rfl
theorem tySz_96 : tySz Try.prog 96 = some (6, true) := by kernel_rfl
theorem par_61 : parTys Try.prog 61 = [96, 96] := by kernel_rfl
theorem boolTy_4 : boolTy Try.prog 4 = some () := by kernel_rfl
theorem tySz_117 : tySz Try.prog 117 = some (13, true) := by kernel_rfl
theorem cty_121 : cty Try.prog 121 = [some (78, 3), none, none, some (204, 2), none, none, none, none, some (133, 7), none, some (78, 3), none, some (39, 1)] := by kernel_rfl
theorem zeroC_121 : zeroC Try.prog 121 = some [.v (.slice none 0 0), .v (.int .i64 0), .v (.int .i64 0), .v (.slice none 0 0), .v (.int .i64 0), .v (.int .i64 0), .v (.int .i64 0), .v (.int .i64 0), .v (.slice none 0 0), .v (.bool false), .v (.slice none 0 0), .v (.int .i64 0), .v (.slice none 0 0)] := by kernel_rfl
theorem tySz_121 : tySz Try.prog 121 = some (13, true) := by kernel_rfl
theorem par_74 : parTys Try.prog 74 = [121, 121] := by kernel_rfl
theorem par_75 : parTys Try.prog 75 = [58] := by kernel_rfl
theorem par_76 : parTys Try.prog 76 = [58] := by kernel_rfl
theorem par_77 : parTys Try.prog 77 = [121, 3] := by kernel_rfl
theorem par_78 : parTys Try.prog 78 = [121, 3] := by kernel_rfl
theorem fldTy_24_3 : fldTy Try.prog 24 3 = some (3, 1, false) := by kernel_rfl
theorem tySz_22 : tySz Try.prog 22 = some (1, false) := by kernel_rfl
theorem par_79 : parTys Try.prog 79 = [22, 3] := by kernel_rfl
theorem cty_22 : cty Try.prog 22 = [some (213, 7)] := by kernel_rfl
theorem par_80 : parTys Try.prog 80 = [29] := by kernel_rfl
theorem bldTy_29 : bldTy Try.prog 29 = some (.st [(0, 1), (1, 1), (2, 1), (3, 1)]) := by kernel_rfl
theorem par_81 : parTys Try.prog 81 = [29] := by kernel_rfl
theorem fldTy_29_3 : fldTy Try.prog 29 3 = some (3, 1, false) := by kernel_rfl
theorem tySz_27 : tySz Try.prog 27 = some (1, false) := by kernel_rfl
theorem elTy_27 : elTy Try.prog 27 = some (133, 7, 72) := by kernel_rfl
theorem fldTy_29_1 : fldTy Try.prog 29 1 = some (1, 1, false) := by kernel_rfl
theorem tySz_3 : tySz Try.prog 3 = some (1, false) := by kernel_rfl
theorem fldTy_29_0 : fldTy Try.prog 29 0 = some (0, 1, false) := by kernel_rfl
theorem par_82 : parTys Try.prog 82 = [25] := by kernel_rfl
theorem bldTy_96 : bldTy Try.prog 96 = some (.st [(0, 1), (1, 1), (2, 1), (3, 1), (4, 1), (5, 1)]) := by kernel_rfl
theorem bldTy_133 : bldTy Try.prog 133 = some (.st [(0, 6), (6, 1)]) := by kernel_rfl
theorem zeroC_133 : zeroC Try.prog 133 = some [.v (.int .i64 0), .v (.int .i64 0), .v (.int .i64 0), .v (.int .i64 0), .v (.bool false), .v (.slice none 0 0), .v (.int .i64 0)] := by kernel_rfl
theorem cty_133 : cty Try.prog 133 = [none, none, none, none, none, some (5, 1), none] := by kernel_rfl
theorem fldTy_24_0 : fldTy Try.prog 24 0 = some (0, 1, false) := by kernel_rfl
theorem fldTy_24_1 : fldTy Try.prog 24 1 = some (1, 1, false) := by kernel_rfl
theorem fldTy_24_2 : fldTy Try.prog 24 2 = some (2, 1, false) := by kernel_rfl
theorem fldTy_29_2 : fldTy Try.prog 29 2 = some (2, 1, false) := by kernel_rfl
theorem par_83 : parTys Try.prog 83 = [22] := by kernel_rfl
theorem zeroC_5 : zeroC Try.prog 5 = some [.v (.int .u8 0)] := by kernel_rfl
theorem cty_5 : cty Try.prog 5 = [none] := by kernel_rfl
theorem ixTy_25 : ixTy Try.prog 25 = some (.sl (5, 1, 1)) := by kernel_rfl
theorem tySz_5 : tySz Try.prog 5 = some (1, false) := by kernel_rfl
theorem par_84 : parTys Try.prog 84 = [29] := by kernel_rfl
theorem par_85 : parTys Try.prog 85 = [29] := by kernel_rfl
theorem zeroC_3 : zeroC Try.prog 3 = some [.v (.int .i64 0)] := by kernel_rfl
theorem bldTy_136 : bldTy Try.prog 136 = some (.st [(0, 1)]) := by kernel_rfl
theorem zeroC_136 : zeroC Try.prog 136 = some [.v (.slice none 0 0)] := by kernel_rfl
theorem tySz_136 : tySz Try.prog 136 = some (1, true) := by kernel_rfl
theorem fldTy_136_0 : fldTy Try.prog 136 0 = some (0, 1, false) := by kernel_rfl
theorem par_89 : parTys Try.prog 89 = [27, 27] := by kernel_rfl
theorem cty_27 : cty Try.prog 27 = [some (133, 7)] := by kernel_rfl
theorem par_90 : parTys Try.prog 90 = [27, 3] := by kernel_rfl
theorem cvTy_3_5 : cvTy Try.prog 3 5 = some (.int .u8) := by kernel_rfl
theorem par_91 : parTys Try.prog 91 = [27, 3] := by kernel_rfl
theorem elTy_39 : elTy Try.prog 39 = some (25, 1, 24) := by kernel_rfl
theorem ixTy_39 : ixTy Try.prog 39 = some (.sl (25, 1, 24)) := by kernel_rfl
theorem tySz_25 : tySz Try.prog 25 = some (1, false) := by kernel_rfl
theorem par_92 : parTys Try.prog 92 = [25, 3] := by kernel_rfl
theorem elTy_40 : elTy Try.prog 40 = some (145, 3, 40) := by kernel_rfl
theorem ixTy_40 : ixTy Try.prog 40 = some (.sl (145, 3, 40)) := by kernel_rfl
theorem tySz_145 : tySz Try.prog 145 = some (3, true) := by kernel_rfl
theorem par_93 : parTys Try.prog 93 = [145, 3] := by kernel_rfl
theorem cty_145 : cty Try.prog 145 = [none, none, some (5, 1)] := by kernel_rfl
theorem bldTy_78 : bldTy Try.prog 78 = some (.st [(0, 1), (1, 1), (2, 1)]) := by kernel_rfl
theorem zeroC_25 : zeroC Try.prog 25 = some [.v (.slice none 0 0)] := by kernel_rfl
theorem elTy_48 : elTy Try.prog 48 = some (151, 3, 40) := by kernel_rfl
theorem zeroC_151 : zeroC Try.prog 151 = some [.v (.bool false), .v (.int .i64 0), .v (.slice none 0 0)] := by kernel_rfl
theorem cty_151 : cty Try.prog 151 = [none, none, some (5, 1)] := by kernel_rfl
theorem par_100 : parTys Try.prog 100 = [145] := by kernel_rfl
theorem ixTy_48 : ixTy Try.prog 48 = some (.sl (151, 3, 40)) := by kernel_rfl
theorem tySz_151 : tySz Try.prog 151 = some (3, true) := by kernel_rfl
theorem mapTy_156 : mapTy Try.prog 156 = some (.string, 3) := by kernel_rfl
theorem cvTy_25_9 : cvTy Try.prog 25 9 = some .bytes := by kernel_rfl
theorem fldTy_151_0 : fldTy Try.prog 151 0 = some (0, 1, false) := by kernel_rfl
theorem tySz_4 : tySz Try.prog 4 = some (1, false) := by kernel_rfl
theorem fldTy_151_2 : fldTy Try.prog 151 2 = some (2, 1, false) := by kernel_rfl
theorem zeroV_3 : zeroV Try.prog 3 = some (.int .i64 0) := by kernel_rfl
theorem elTy_59 : elTy Try.prog 59 = some (39, 1, 24) := by kernel_rfl
theorem zeroC_39 : zeroC Try.prog 39 = some [.v (.slice none 0 0)] := by kernel_rfl
theorem cty_59 : cty Try.prog 59 = [some (39, 1)] := by kernel_rfl
theorem tySz_39 : tySz Try.prog 39 = some (1, false) := by kernel_rfl
theorem par_109 : parTys Try.prog 109 = [151, 151] := by kernel_rfl
theorem fldTy_151_1 : fldTy Try.prog 151 1 = some (1, 1, false) := by kernel_rfl
theorem elTy_56 : elTy Try.prog 56 = some (74, 3, 40) := by kernel_rfl
theorem ixTy_56 : ixTy Try.prog 56 = some (.sl (74, 3, 40)) := by kernel_rfl
theorem par_110 : parTys Try.prog 110 = [58] := by kernel_rfl
theorem bldTy_61 : bldTy Try.prog 61 = some (.st [(0, 1), (1, 1), (2, 1), (3, 1)]) := by kernel_rfl
theorem elTy_58 : elTy Try.prog 58 = some (78, 3, 40) := by kernel_rfl
theorem par_111 : parTys Try.prog 111 = [3, 3] := by kernel_rfl
theorem bldTy_163 : bldTy Try.prog 163 = some (.st [(0, 1), (1, 1), (2, 1), (3, 1)]) := by kernel_rfl
theorem zeroC_163 : zeroC Try.prog 163 = some [.v (.int .i64 0), .v (.int .i64 0), .v (.int .i64 0), .v (.slice none 0 0)] := by kernel_rfl
theorem tySz_163 : tySz Try.prog 163 = some (4, true) := by kernel_rfl
theorem ixTy_58 : ixTy Try.prog 58 = some (.sl (78, 3, 40)) := by kernel_rfl
theorem fldTy_163_3 : fldTy Try.prog 163 3 = some (3, 1, false) := by kernel_rfl
theorem fldTy_78_1 : fldTy Try.prog 78 1 = some (1, 1, false) := by kernel_rfl
theorem fldTy_78_2 : fldTy Try.prog 78 2 = some (2, 1, false) := by kernel_rfl
theorem fldTy_78_0 : fldTy Try.prog 78 0 = some (0, 1, false) := by kernel_rfl
theorem par_112 : parTys Try.prog 112 = [58, 3] := by kernel_rfl
theorem par_113 : parTys Try.prog 113 = [163] := by kernel_rfl
theorem cty_163 : cty Try.prog 163 = [none, none, none, some (25, 1)] := by kernel_rfl
theorem par_114 : parTys Try.prog 114 = [58] := by kernel_rfl
theorem par_115 : parTys Try.prog 115 = [3, 3] := by kernel_rfl
theorem par_116 : parTys Try.prog 116 = [58] := by kernel_rfl
theorem par_117 : parTys Try.prog 117 = [163] := by kernel_rfl
theorem fldTy_61_0 : fldTy Try.prog 61 0 = some (0, 1, false) := by kernel_rfl
theorem fldTy_61_1 : fldTy Try.prog 61 1 = some (1, 1, false) := by kernel_rfl
theorem tySz_58 : tySz Try.prog 58 = some (1, false) := by kernel_rfl
theorem fldTy_61_2 : fldTy Try.prog 61 2 = some (2, 1, false) := by kernel_rfl
theorem fldTy_61_3 : fldTy Try.prog 61 3 = some (3, 1, false) := by kernel_rfl
theorem tySz_59 : tySz Try.prog 59 = some (1, false) := by kernel_rfl
theorem par_118 : parTys Try.prog 118 = [59, 59] := by kernel_rfl
theorem par_119 : parTys Try.prog 119 = [59, 3] := by kernel_rfl
theorem par_120 : parTys Try.prog 120 = [58, 3] := by kernel_rfl
theorem par_121 : parTys Try.prog 121 = [59, 3] := by kernel_rfl
theorem ixTy_27 : ixTy Try.prog 27 = some (.sl (133, 7, 72)) := by kernel_rfl
theorem fldTy_133_1 : fldTy Try.prog 133 1 = some (6, 1, false) := by kernel_rfl
theorem fldTy_133_0 : fldTy Try.prog 133 0 = some (0, 6, true) := by kernel_rfl
theorem fldTy_74_0 : fldTy Try.prog 74 0 = some (0, 1, false) := by kernel_rfl
theorem fldTy_74_1 : fldTy Try.prog 74 1 = some (1, 1, false) := by kernel_rfl
theorem fldTy_74_2 : fldTy Try.prog 74 2 = some (2, 1, false) := by kernel_rfl
theorem par_128 : parTys Try.prog 128 = [78] := by kernel_rfl
theorem fldTy_87_5 : fldTy Try.prog 87 5 = some (5, 1, false) := by kernel_rfl
theorem fldTy_96_2 : fldTy Try.prog 96 2 = some (2, 1, false) := by kernel_rfl
theorem par_136 : parTys Try.prog 136 = [96] := by kernel_rfl
theorem fldTy_96_5 : fldTy Try.prog 96 5 = some (5, 1, false) := by kernel_rfl
theorem fldTy_96_4 : fldTy Try.prog 96 4 = some (4, 1, false) := by kernel_rfl
theorem fldTy_87_0 : fldTy Try.prog 87 0 = some (0, 1, false) := by kernel_rfl
theorem fldTy_96_0 : fldTy Try.prog 96 0 = some (0, 1, false) := by kernel_rfl
theorem fldTy_87_1 : fldTy Try.prog 87 1 = some (1, 1, false) := by kernel_rfl
theorem fldTy_96_1 : fldTy Try.prog 96 1 = some (1, 1, false) := by kernel_rfl
theorem fldTy_87_2 : fldTy Try.prog 87 2 = some (2, 1, false) := by kernel_rfl
theorem fldTy_87_3 : fldTy Try.prog 87 3 = some (3, 1, false) := by kernel_rfl
theorem fldTy_96_3 : fldTy Try.prog 96 3 = some (3, 1, false) := by kernel_rfl
theorem fldTy_87_4 : fldTy Try.prog 87 4 = some (4, 1, false) := by kernel_rfl
theorem par_139 : parTys Try.prog 139 = [96] := by kernel_rfl
theorem par_141 : parTys Try.prog 141 = [96] := by kernel_rfl
theorem tySz_104 : tySz Try.prog 104 = some (4, true) := by kernel_rfl
theorem par_148 : parTys Try.prog 148 = [104, 3] := by kernel_rfl
theorem cty_104 : cty Try.prog 104 = [none, some (74, 3), none, some (39, 1)] := by kernel_rfl
theorem tySz_105 : tySz Try.prog 105 = some (1, false) := by kernel_rfl
theorem par_149 : parTys Try.prog 149 = [105, 3] := by kernel_rfl
theorem cty_105 : cty Try.prog 105 = [some (243, 2)] := by kernel_rfl
theorem tySz_110 : tySz Try.prog 110 = some (1, false) := by kernel_rfl
theorem elTy_110 : elTy Try.prog 110 = some (204, 2, 32) := by kernel_rfl
theorem par_152 : parTys Try.prog 152 = [104] := by kernel_rfl
theorem par_153 : parTys Try.prog 153 = [105] := by kernel_rfl
theorem cty_110 : cty Try.prog 110 = [some (204, 2)] := by kernel_rfl
theorem par_158 : parTys Try.prog 158 = [110, 110] := by kernel_rfl
theorem fldTy_117_0 : fldTy Try.prog 117 0 = some (0, 1, false) := by kernel_rfl
theorem tySz_56 : tySz Try.prog 56 = some (1, false) := by kernel_rfl
theorem fldTy_117_3 : fldTy Try.prog 117 3 = some (3, 1, false) := by kernel_rfl
theorem fldTy_117_5 : fldTy Try.prog 117 5 = some (5, 4, true) := by kernel_rfl
theorem fldTy_117_6 : fldTy Try.prog 117 6 = some (9, 4, true) := by kernel_rfl
theorem fldTy_121_0 : fldTy Try.prog 121 0 = some (0, 1, false) := by kernel_rfl
theorem fldTy_121_1 : fldTy Try.prog 121 1 = some (1, 1, false) := by kernel_rfl
theorem fldTy_121_5 : fldTy Try.prog 121 5 = some (5, 4, true) := by kernel_rfl
theorem fldTy_121_2 : fldTy Try.prog 121 2 = some (2, 1, false) := by kernel_rfl
theorem fldTy_121_3 : fldTy Try.prog 121 3 = some (3, 1, false) := by kernel_rfl
theorem fldTy_121_4 : fldTy Try.prog 121 4 = some (4, 1, false) := by kernel_rfl
theorem fldTy_121_6 : fldTy Try.prog 121 6 = some (9, 4, true) := by kernel_rfl
theorem fldTy_117_1 : fldTy Try.prog 117 1 = some (1, 1, false) := by kernel_rfl
theorem fldTy_117_2 : fldTy Try.prog 117 2 = some (2, 1, false) := by kernel_rfl
theorem fldTy_117_4 : fldTy Try.prog 117 4 = some (4, 1, false) := by kernel_rfl
theorem bldTy_121 : bldTy Try.prog 121 = some (.st [(0, 1), (1, 1), (2, 1), (3, 1), (4, 1), (5, 4), (9, 4)]) := by kernel_rfl
theorem par_163 : parTys Try.prog 163 = [58, 3, 3, 110] := by kernel_rfl
theorem par_164 : parTys Try.prog 164 = [251] := by kernel_rfl
theorem cty_251 : cty Try.prog 251 = [none] := by kernel_rfl
theorem par_165 : parTys Try.prog 165 = [110, 3] := by kernel_rfl
theorem par_166 : parTys Try.prog 166 = [110, 3] := by kernel_rfl
theorem elTy_22 : elTy Try.prog 22 = some (213, 7, 72) := by kernel_rfl
theorem ixTy_22 : ixTy Try.prog 22 = some (.sl (213, 7, 72)) := by kernel_rfl
theorem tySz_213 : tySz Try.prog 213 = some (7, true) := by kernel_rfl
theorem par_167 : parTys Try.prog 167 = [213, 3] := by kernel_rfl
theorem cty_213 : cty Try.prog 213 = [none, none, none, none, none, some (5, 1), none] := by kernel_rfl
theorem tySz_133 : tySz Try.prog 133 = some (7, true) := by kernel_rfl
theorem par_168 : parTys Try.prog 168 = [96] := by kernel_rfl
theorem par_169 : parTys Try.prog 169 = [213] := by kernel_rfl
theorem par_87 : parTys Try.prog 87 = [216, 133] := by kernel_rfl
theorem cty_216 : cty Try.prog 216 = [none] := by kernel_rfl
theorem par_171 : parTys Try.prog 171 = [133, 133] := by kernel_rfl
theorem fldTy_145_2 : fldTy Try.prog 145 2 = some (2, 1, false) := by kernel_rfl
theorem par_172 : parTys Try.prog 172 = [78] := by kernel_rfl
theorem par_174 : parTys Try.prog 174 = [25, 25] := by kernel_rfl
theorem fldTy_145_0 : fldTy Try.prog 145 0 = some (0, 1, false) := by kernel_rfl
theorem fldTy_145_1 : fldTy Try.prog 145 1 = some (1, 1, false) := by kernel_rfl
theorem ixTy_59 : ixTy Try.prog 59 = some (.sl (39, 1, 24)) := by kernel_rfl
theorem cvTy_3_220 : cvTy Try.prog 3 220 = some (.int .u64) := by kernel_rfl
theorem cvTy_220_5 : cvTy Try.prog 220 5 = some (.int .u8) := by kernel_rfl
theorem par_178 : parTys Try.prog 178 = [58] := by kernel_rfl
theorem fldTy_163_0 : fldTy Try.prog 163 0 = some (0, 1, false) := by kernel_rfl
theorem fldTy_163_1 : fldTy Try.prog 163 1 = some (1, 1, false) := by kernel_rfl
theorem fldTy_163_2 : fldTy Try.prog 163 2 = some (2, 1, false) := by kernel_rfl
theorem par_179 : parTys Try.prog 179 = [39] := by kernel_rfl
theorem par_180 : parTys Try.prog 180 = [25] := by kernel_rfl
theorem cvTy_222_3 : cvTy Try.prog 222 3 = some (.int .i64) := by kernel_rfl
theorem par_88 : parTys Try.prog 88 = [25] := by kernel_rfl
theorem par_181 : parTys Try.prog 181 = [163] := by kernel_rfl
theorem par_183 : parTys Try.prog 183 = [39] := by kernel_rfl
theorem par_182 : parTys Try.prog 182 = [39] := by kernel_rfl
theorem par_184 : parTys Try.prog 184 = [3] := by kernel_rfl
theorem par_186 : parTys Try.prog 186 = [25] := by kernel_rfl
theorem fldTy_104_1 : fldTy Try.prog 104 1 = some (1, 1, false) := by kernel_rfl
theorem fldTy_104_3 : fldTy Try.prog 104 3 = some (3, 1, false) := by kernel_rfl
theorem par_191 : parTys Try.prog 191 = [59, 3] := by kernel_rfl
theorem elTy_105 : elTy Try.prog 105 = some (243, 2, 32) := by kernel_rfl
theorem ixTy_105 : ixTy Try.prog 105 = some (.sl (243, 2, 32)) := by kernel_rfl
theorem tySz_243 : tySz Try.prog 243 = some (2, true) := by kernel_rfl
theorem par_192 : parTys Try.prog 192 = [243, 3] := by kernel_rfl
theorem cty_243 : cty Try.prog 243 = [none, some (145, 3)] := by kernel_rfl
theorem fldTy_104_0 : fldTy Try.prog 104 0 = some (0, 1, false) := by kernel_rfl
theorem fldTy_104_2 : fldTy Try.prog 104 2 = some (2, 1, false) := by kernel_rfl
theorem par_193 : parTys Try.prog 193 = [59] := by kernel_rfl
theorem zeroC_204 : zeroC Try.prog 204 = some [.v (.int .i64 0), .v (.slice none 0 0)] := by kernel_rfl
theorem cty_204 : cty Try.prog 204 = [none, some (151, 3)] := by kernel_rfl
theorem par_194 : parTys Try.prog 194 = [243] := by kernel_rfl
theorem ixTy_110 : ixTy Try.prog 110 = some (.sl (204, 2, 32)) := by kernel_rfl
theorem tySz_204 : tySz Try.prog 204 = some (2, true) := by kernel_rfl
theorem fldTy_204_0 : fldTy Try.prog 204 0 = some (0, 1, false) := by kernel_rfl
theorem fldTy_204_1 : fldTy Try.prog 204 1 = some (1, 1, false) := by kernel_rfl
theorem tySz_48 : tySz Try.prog 48 = some (1, false) := by kernel_rfl
theorem par_197 : parTys Try.prog 197 = [204, 204] := by kernel_rfl
theorem par_201 : parTys Try.prog 201 = [110] := by kernel_rfl
theorem par_202 : parTys Try.prog 202 = [48, 3] := by kernel_rfl
theorem fldTy_213_0 : fldTy Try.prog 213 0 = some (0, 6, true) := by kernel_rfl
theorem fldTy_213_1 : fldTy Try.prog 213 1 = some (6, 1, false) := by kernel_rfl
theorem par_203 : parTys Try.prog 203 = [25] := by kernel_rfl
theorem intTy_3 : intTy Try.prog 3 = some () := by kernel_rfl
theorem cvTy_5_222 : cvTy Try.prog 5 222 = some (.int .u32) := by kernel_rfl
theorem cty_222 : cty Try.prog 222 = [none] := by kernel_rfl
theorem par_208 : parTys Try.prog 208 = [39] := by kernel_rfl
theorem par_209 : parTys Try.prog 209 = [25] := by kernel_rfl
theorem fldTy_243_1 : fldTy Try.prog 243 1 = some (1, 1, false) := by kernel_rfl
theorem tySz_40 : tySz Try.prog 40 = some (1, false) := by kernel_rfl
theorem fldTy_243_0 : fldTy Try.prog 243 0 = some (0, 1, false) := by kernel_rfl
theorem par_221 : parTys Try.prog 221 = [204] := by kernel_rfl
theorem par_222 : parTys Try.prog 222 = [25, 3] := by kernel_rfl
theorem par_223 : parTys Try.prog 223 = [] := by kernel_rfl
theorem zeroC_265 : zeroC Try.prog 265 = some (List.replicate 256 (.v (.int .u32 0))) := by kernel_rfl
theorem tySz_265 : tySz Try.prog 265 = some (256, true) := by kernel_rfl
theorem cvTy_222_5 : cvTy Try.prog 222 5 = some (.int .u8) := by kernel_rfl
theorem ixTy_265 : ixTy Try.prog 265 = some (.ar 256 1) := by kernel_rfl
theorem tySz_222 : tySz Try.prog 222 = some (1, false) := by kernel_rfl
theorem bldTy_204 : bldTy Try.prog 204 = some (.st [(0, 1), (1, 1)]) := by kernel_rfl
theorem bldTy_151 : bldTy Try.prog 151 = some (.st [(0, 1), (1, 1), (2, 1)]) := by kernel_rfl
theorem bldTy_265 : bldTy Try.prog 265 = some (.ar 1) := by kernel_rfl
theorem cvTy_3_222 : cvTy Try.prog 3 222 = some (.int .u32) := by kernel_rfl
theorem cty_265 : cty Try.prog 265 = [none] := by kernel_rfl
theorem res_11 : Try.f11.results.toList = [.tmp 2] := rfl
theorem rty_11 : Try.f11.resultTypes.toList = [4] := rfl
theorem res_12 : Try.f12.results.toList = [.tmp 4] := rfl
theorem rty_12 : Try.f12.resultTypes.toList = [3] := rfl
theorem res_13 : Try.f13.results.toList = [.cell 4 29, .tmp 5] := rfl
theorem rty_13 : Try.f13.resultTypes.toList = [29, 3] := rfl
theorem res_14 : Try.f14.results.toList = [.cell 2 29] := rfl
theorem rty_14 : Try.f14.resultTypes.toList = [29] := rfl
theorem res_15 : Try.f15.results.toList = [.tmp 2] := rfl
theorem rty_15 : Try.f15.resultTypes.toList = [25] := rfl
theorem res_16 : Try.f16.results.toList = [.cell 4 29, .tmp 5] := rfl
theorem rty_16 : Try.f16.resultTypes.toList = [29, 3] := rfl
theorem res_17 : Try.f17.results.toList = [.tmp 4] := rfl
theorem rty_17 : Try.f17.resultTypes.toList = [4] := rfl
theorem res_18 : Try.f18.results.toList = [.tmp 4] := rfl
theorem rty_18 : Try.f18.resultTypes.toList = [4] := rfl
theorem res_19 : Try.f19.results.toList = [.tmp 4] := rfl
theorem rty_19 : Try.f19.resultTypes.toList = [3] := rfl
theorem res_20 : Try.f20.results.toList = [.tmp 4] := rfl
theorem rty_20 : Try.f20.resultTypes.toList = [3] := rfl
theorem res_21 : Try.f21.results.toList = [.tmp 4] := rfl
theorem rty_21 : Try.f21.resultTypes.toList = [3] := rfl
theorem res_22 : Try.f22.results.toList = [.tmp 4] := rfl
theorem rty_22 : Try.f22.resultTypes.toList = [3] := rfl
theorem res_23 : Try.f23.results.toList = [.tmp 4] := rfl
theorem rty_23 : Try.f23.resultTypes.toList = [3] := rfl
theorem res_25 : Try.f25.results.toList = [.tmp 2] := rfl
theorem rty_25 : Try.f25.resultTypes.toList = [39] := rfl
theorem res_26 : Try.f26.results.toList = [.tmp 2] := rfl
theorem rty_26 : Try.f26.resultTypes.toList = [48] := rfl
theorem res_29 : Try.f29.results.toList = [.tmp 4] := rfl
theorem rty_29 : Try.f29.resultTypes.toList = [4] := rfl
theorem res_30 : Try.f30.results.toList = [.tmp 4] := rfl
theorem rty_30 : Try.f30.resultTypes.toList = [4] := rfl
theorem res_31 : Try.f31.results.toList = [.tmp 4] := rfl
theorem rty_31 : Try.f31.resultTypes.toList = [3] := rfl
theorem res_32 : Try.f32.results.toList = [.tmp 4] := rfl
theorem rty_32 : Try.f32.resultTypes.toList = [3] := rfl
theorem res_35 : Try.f35.results.toList = [.tmp 4] := rfl
theorem rty_35 : Try.f35.resultTypes.toList = [3] := rfl
theorem res_36 : Try.f36.results.toList = [.cell 4 61, .tmp 5, .tmp 6] := rfl
theorem rty_36 : Try.f36.resultTypes.toList = [61, 25, 3] := rfl
theorem res_37 : Try.f37.results.toList = [.tmp 2] := rfl
theorem rty_37 : Try.f37.resultTypes.toList = [58] := rfl
theorem res_38 : Try.f38.results.toList = [.cell 4 61, .tmp 5, .tmp 6] := rfl
theorem rty_38 : Try.f38.resultTypes.toList = [61, 25, 3] := rfl
theorem res_39 : Try.f39.results.toList = [.tmp 4] := rfl
theorem rty_39 : Try.f39.resultTypes.toList = [4] := rfl
theorem res_40 : Try.f40.results.toList = [.tmp 4] := rfl
theorem rty_40 : Try.f40.resultTypes.toList = [4] := rfl
theorem res_41 : Try.f41.results.toList = [.tmp 4] := rfl
theorem rty_41 : Try.f41.resultTypes.toList = [3] := rfl
theorem res_42 : Try.f42.results.toList = [.tmp 4] := rfl
theorem rty_42 : Try.f42.resultTypes.toList = [3] := rfl
theorem res_43 : Try.f43.results.toList = [.tmp 4] := rfl
theorem rty_43 : Try.f43.resultTypes.toList = [3] := rfl
theorem res_44 : Try.f44.results.toList = [.tmp 4] := rfl
theorem rty_44 : Try.f44.resultTypes.toList = [3] := rfl
theorem res_47 : Try.f47.results.toList = [.tmp 4] := rfl
theorem rty_47 : Try.f47.resultTypes.toList = [3] := rfl
theorem res_48 : Try.f48.results.toList = [.tmp 4] := rfl
theorem rty_48 : Try.f48.resultTypes.toList = [3] := rfl
theorem res_50 : Try.f50.results.toList = [.cell 2 78] := rfl
theorem rty_50 : Try.f50.resultTypes.toList = [78] := rfl
theorem res_52 : Try.f52.results.toList = [.tmp 4] := rfl
theorem rty_52 : Try.f52.resultTypes.toList = [4] := rfl
theorem res_55 : Try.f55.results.toList = [.tmp 4] := rfl
theorem rty_55 : Try.f55.resultTypes.toList = [3] := rfl
theorem res_58 : Try.f58.results.toList = [.cell 2 96] := rfl
theorem rty_58 : Try.f58.resultTypes.toList = [96] := rfl
theorem res_61 : Try.f61.results.toList = [.tmp 4] := rfl
theorem rty_61 : Try.f61.resultTypes.toList = [4] := rfl
theorem res_70 : Try.f70.results.toList = [.tmp 4] := rfl
theorem rty_70 : Try.f70.resultTypes.toList = [3] := rfl
theorem res_72 : Try.f72.results.toList = [.cell 2 121] := rfl
theorem rty_72 : Try.f72.resultTypes.toList = [121] := rfl
theorem res_74 : Try.f74.results.toList = [.tmp 4] := rfl
theorem rty_74 : Try.f74.resultTypes.toList = [4] := rfl
theorem res_75 : Try.f75.results.toList = [.cell 2 121, .tmp 3] := rfl
theorem rty_75 : Try.f75.resultTypes.toList = [121, 3] := rfl
theorem res_76 : Try.f76.results.toList = [.cell 2 121, .tmp 3] := rfl
theorem rty_76 : Try.f76.resultTypes.toList = [121, 3] := rfl
theorem res_77 : Try.f77.results.toList = [.tmp 4] := rfl
theorem rty_77 : Try.f77.resultTypes.toList = [3] := rfl
theorem res_78 : Try.f78.results.toList = [.tmp 4] := rfl
theorem rty_78 : Try.f78.resultTypes.toList = [3] := rfl
theorem res_79 : Try.f79.results.toList = [.tmp 4] := rfl
theorem rty_79 : Try.f79.resultTypes.toList = [3] := rfl
theorem res_80 : Try.f80.results.toList = [.tmp 2] := rfl
theorem rty_80 : Try.f80.resultTypes.toList = [4] := rfl
theorem res_81 : Try.f81.results.toList = [.cell 2 29] := rfl
theorem rty_81 : Try.f81.resultTypes.toList = [29] := rfl
theorem res_82 : Try.f82.results.toList = [.tmp 2] := rfl
theorem rty_82 : Try.f82.resultTypes.toList = [25] := rfl
theorem res_83 : Try.f83.results.toList = [.tmp 2] := rfl
theorem rty_83 : Try.f83.resultTypes.toList = [27] := rfl
theorem res_84 : Try.f84.results.toList = [.tmp 2] := rfl
theorem rty_84 : Try.f84.resultTypes.toList = [4] := rfl
theorem res_85 : Try.f85.results.toList = [.cell 2 29] := rfl
theorem rty_85 : Try.f85.resultTypes.toList = [29] := rfl
theorem res_87 : Try.f87.results.toList = [] := rfl
theorem rty_87 : Try.f87.resultTypes.toList = [] := rfl
theorem res_88 : Try.f88.results.toList = [.tmp 2] := rfl
theorem rty_88 : Try.f88.resultTypes.toList = [25] := rfl
theorem res_89 : Try.f89.results.toList = [.tmp 4] := rfl
theorem rty_89 : Try.f89.resultTypes.toList = [4] := rfl
theorem res_90 : Try.f90.results.toList = [.tmp 4] := rfl
theorem rty_90 : Try.f90.resultTypes.toList = [3] := rfl
theorem res_91 : Try.f91.results.toList = [.tmp 4] := rfl
theorem rty_91 : Try.f91.resultTypes.toList = [3] := rfl
theorem res_92 : Try.f92.results.toList = [.tmp 4] := rfl
theorem rty_92 : Try.f92.resultTypes.toList = [3] := rfl
theorem res_93 : Try.f93.results.toList = [.tmp 4] := rfl
theorem rty_93 : Try.f93.resultTypes.toList = [3] := rfl
theorem res_100 : Try.f100.results.toList = [.cell 2 151] := rfl
theorem rty_100 : Try.f100.resultTypes.toList = [151] := rfl
theorem res_109 : Try.f109.results.toList = [.tmp 4] := rfl
theorem rty_109 : Try.f109.resultTypes.toList = [4] := rfl
theorem res_110 : Try.f110.results.toList = [.tmp 2] := rfl
theorem rty_110 : Try.f110.resultTypes.toList = [4] := rfl
theorem res_111 : Try.f111.results.toList = [.tmp 4] := rfl
theorem rty_111 : Try.f111.resultTypes.toList = [25] := rfl
theorem res_112 : Try.f112.results.toList = [.cell 4 61] := rfl
theorem rty_112 : Try.f112.resultTypes.toList = [61] := rfl
theorem res_113 : Try.f113.results.toList = [.tmp 2] := rfl
theorem rty_113 : Try.f113.resultTypes.toList = [25] := rfl
theorem res_114 : Try.f114.results.toList = [.tmp 2] := rfl
theorem rty_114 : Try.f114.resultTypes.toList = [4] := rfl
theorem res_115 : Try.f115.results.toList = [.tmp 4] := rfl
theorem rty_115 : Try.f115.resultTypes.toList = [25] := rfl
theorem res_116 : Try.f116.results.toList = [.tmp 2] := rfl
theorem rty_116 : Try.f116.resultTypes.toList = [58] := rfl
theorem res_117 : Try.f117.results.toList = [.tmp 2] := rfl
theorem rty_117 : Try.f117.resultTypes.toList = [25] := rfl
theorem res_118 : Try.f118.results.toList = [.tmp 4] := rfl
theorem rty_118 : Try.f118.resultTypes.toList = [4] := rfl
theorem res_119 : Try.f119.results.toList = [.tmp 4] := rfl
theorem rty_119 : Try.f119.resultTypes.toList = [3] := rfl
theorem res_120 : Try.f120.results.toList = [.tmp 4] := rfl
theorem rty_120 : Try.f120.resultTypes.toList = [3] := rfl
theorem res_121 : Try.f121.results.toList = [.tmp 4] := rfl
theorem rty_121 : Try.f121.resultTypes.toList = [3] := rfl
theorem res_128 : Try.f128.results.toList = [.tmp 2] := rfl
theorem rty_128 : Try.f128.resultTypes.toList = [4] := rfl
theorem res_136 : Try.f136.results.toList = [.cell 2 96] := rfl
theorem rty_136 : Try.f136.resultTypes.toList = [96] := rfl
theorem res_139 : Try.f139.results.toList = [.tmp 2] := rfl
theorem rty_139 : Try.f139.resultTypes.toList = [4] := rfl
theorem res_141 : Try.f141.results.toList = [.cell 2 96] := rfl
theorem rty_141 : Try.f141.resultTypes.toList = [96] := rfl
theorem res_148 : Try.f148.results.toList = [.tmp 4] := rfl
theorem rty_148 : Try.f148.resultTypes.toList = [3] := rfl
theorem res_149 : Try.f149.results.toList = [.tmp 4] := rfl
theorem rty_149 : Try.f149.resultTypes.toList = [3] := rfl
theorem res_152 : Try.f152.results.toList = [.cell 2 61] := rfl
theorem rty_152 : Try.f152.resultTypes.toList = [61] := rfl
theorem res_153 : Try.f153.results.toList = [.tmp 2] := rfl
theorem rty_153 : Try.f153.resultTypes.toList = [110] := rfl
theorem res_158 : Try.f158.results.toList = [.tmp 4] := rfl
theorem rty_158 : Try.f158.resultTypes.toList = [4] := rfl
theorem res_163 : Try.f163.results.toList = [.cell 8 121] := rfl
theorem rty_163 : Try.f163.resultTypes.toList = [121] := rfl
theorem res_164 : Try.f164.results.toList = [] := rfl
theorem rty_164 : Try.f164.resultTypes.toList = [] := rfl
theorem res_165 : Try.f165.results.toList = [.tmp 4] := rfl
theorem rty_165 : Try.f165.resultTypes.toList = [3] := rfl
theorem res_166 : Try.f166.results.toList = [.tmp 4] := rfl
theorem rty_166 : Try.f166.resultTypes.toList = [3] := rfl
theorem res_167 : Try.f167.results.toList = [.tmp 4] := rfl
theorem rty_167 : Try.f167.resultTypes.toList = [3] := rfl
theorem res_168 : Try.f168.results.toList = [.tmp 2] := rfl
theorem rty_168 : Try.f168.resultTypes.toList = [4] := rfl
theorem res_169 : Try.f169.results.toList = [.cell 2 133] := rfl
theorem rty_169 : Try.f169.resultTypes.toList = [133] := rfl
theorem res_171 : Try.f171.results.toList = [.tmp 4] := rfl
theorem rty_171 : Try.f171.resultTypes.toList = [4] := rfl
theorem res_172 : Try.f172.results.toList = [.tmp 2] := rfl
theorem rty_172 : Try.f172.resultTypes.toList = [4] := rfl
theorem res_174 : Try.f174.results.toList = [.tmp 4] := rfl
theorem rty_174 : Try.f174.resultTypes.toList = [4] := rfl
theorem res_178 : Try.f178.results.toList = [.tmp 2] := rfl
theorem rty_178 : Try.f178.resultTypes.toList = [58] := rfl
theorem res_179 : Try.f179.results.toList = [.tmp 2] := rfl
theorem rty_179 : Try.f179.resultTypes.toList = [25] := rfl
theorem res_180 : Try.f180.results.toList = [.tmp 2] := rfl
theorem rty_180 : Try.f180.resultTypes.toList = [222] := rfl
theorem res_181 : Try.f181.results.toList = [.tmp 2] := rfl
theorem rty_181 : Try.f181.resultTypes.toList = [4] := rfl
theorem res_182 : Try.f182.results.toList = [.tmp 2] := rfl
theorem rty_182 : Try.f182.resultTypes.toList = [25] := rfl
theorem res_183 : Try.f183.results.toList = [.tmp 2] := rfl
theorem rty_183 : Try.f183.resultTypes.toList = [25] := rfl
theorem res_184 : Try.f184.results.toList = [.tmp 2] := rfl
theorem rty_184 : Try.f184.resultTypes.toList = [4] := rfl
theorem res_186 : Try.f186.results.toList = [.tmp 2] := rfl
theorem rty_186 : Try.f186.resultTypes.toList = [4] := rfl
theorem res_191 : Try.f191.results.toList = [.tmp 4] := rfl
theorem rty_191 : Try.f191.resultTypes.toList = [3] := rfl
theorem res_192 : Try.f192.results.toList = [.tmp 4] := rfl
theorem rty_192 : Try.f192.resultTypes.toList = [3] := rfl
theorem res_193 : Try.f193.results.toList = [.tmp 2] := rfl
theorem rty_193 : Try.f193.resultTypes.toList = [59] := rfl
theorem res_194 : Try.f194.results.toList = [.cell 2 204] := rfl
theorem rty_194 : Try.f194.resultTypes.toList = [204] := rfl
theorem res_197 : Try.f197.results.toList = [.tmp 4] := rfl
theorem rty_197 : Try.f197.resultTypes.toList = [4] := rfl
theorem res_201 : Try.f201.results.toList = [.tmp 2] := rfl
theorem rty_201 : Try.f201.resultTypes.toList = [110] := rfl
theorem res_202 : Try.f202.results.toList = [.tmp 4] := rfl
theorem rty_202 : Try.f202.resultTypes.toList = [3] := rfl
theorem res_203 : Try.f203.results.toList = [.tmp 2] := rfl
theorem rty_203 : Try.f203.resultTypes.toList = [4] := rfl
theorem res_208 : Try.f208.results.toList = [.tmp 2] := rfl
theorem rty_208 : Try.f208.resultTypes.toList = [25] := rfl
theorem res_209 : Try.f209.results.toList = [.tmp 2] := rfl
theorem rty_209 : Try.f209.resultTypes.toList = [222] := rfl
theorem res_221 : Try.f221.results.toList = [.cell 2 204] := rfl
theorem rty_221 : Try.f221.resultTypes.toList = [204] := rfl
theorem res_222 : Try.f222.results.toList = [.tmp 4] := rfl
theorem rty_222 : Try.f222.resultTypes.toList = [25] := rfl
theorem res_223 : Try.f223.results.toList = [.cell 0 265] := rfl
theorem rty_223 : Try.f223.resultTypes.toList = [265] := rfl
attribute [go_sem] tySz_24 elTy_25 par_12 cty_24 cty_3 par_14 par_15 cty_25 par_13 cty_29 zeroC_29 tySz_29 par_16 par_17 par_18 par_19 par_20 par_21 cty_4 par_22 cty_39 par_23 cty_40 par_25 par_26 cty_48 par_29 par_30 par_31 par_32 par_35 cty_56 par_37 par_36 cty_58 zeroC_61 tySz_61 par_38 par_39 cty_61 par_40 par_41 par_42 par_43 par_44 par_47 tySz_74 par_48 cty_74 par_50 cty_78 zeroC_78 tySz_78 par_52 tySz_87 par_55 cty_87 par_58 cty_96 zeroC_96 tySz_96 par_61 boolTy_4 tySz_117 cty_121 zeroC_121 tySz_121 par_74 par_75 par_76 par_77 par_78 fldTy_24_3 tySz_22 par_79 cty_22 par_80 bldTy_29 par_81 fldTy_29_3 tySz_27 elTy_27 fldTy_29_1 tySz_3 fldTy_29_0 par_82 bldTy_96 bldTy_133 zeroC_133 cty_133 fldTy_24_0 fldTy_24_1 fldTy_24_2 fldTy_29_2 par_83 zeroC_5 cty_5 ixTy_25 tySz_5 par_84 par_85 zeroC_3 bldTy_136 zeroC_136 tySz_136 fldTy_136_0 par_89 cty_27 par_90 cvTy_3_5 par_91 elTy_39 ixTy_39 tySz_25 par_92 elTy_40 ixTy_40 tySz_145 par_93 cty_145 bldTy_78 zeroC_25 elTy_48 zeroC_151 cty_151 par_100 ixTy_48 tySz_151 mapTy_156 cvTy_25_9 fldTy_151_0 tySz_4 fldTy_151_2 zeroV_3 elTy_59 zeroC_39 cty_59 tySz_39 par_109 fldTy_151_1 elTy_56 ixTy_56 par_110 bldTy_61 elTy_58 par_111 bldTy_163 zeroC_163 tySz_163 ixTy_58 fldTy_163_3 fldTy_78_1 fldTy_78_2 fldTy_78_0 par_112 par_113 cty_163 par_114 par_115 par_116 par_117 fldTy_61_0 fldTy_61_1 tySz_58 fldTy_61_2 fldTy_61_3 tySz_59 par_118 par_119 par_120 par_121 ixTy_27 fldTy_133_1 fldTy_133_0 fldTy_74_0 fldTy_74_1 fldTy_74_2 par_128 fldTy_87_5 fldTy_96_2 par_136 fldTy_96_5 fldTy_96_4 fldTy_87_0 fldTy_96_0 fldTy_87_1 fldTy_96_1 fldTy_87_2 fldTy_87_3 fldTy_96_3 fldTy_87_4 par_139 par_141 tySz_104 par_148 cty_104 tySz_105 par_149 cty_105 tySz_110 elTy_110 par_152 par_153 cty_110 par_158 fldTy_117_0 tySz_56 fldTy_117_3 fldTy_117_5 fldTy_117_6 fldTy_121_0 fldTy_121_1 fldTy_121_5 fldTy_121_2 fldTy_121_3 fldTy_121_4 fldTy_121_6 fldTy_117_1 fldTy_117_2 fldTy_117_4 bldTy_121 par_163 par_164 cty_251 par_165 par_166 elTy_22 ixTy_22 tySz_213 par_167 cty_213 tySz_133 par_168 par_169 par_87 cty_216 par_171 fldTy_145_2 par_172 par_174 fldTy_145_0 fldTy_145_1 ixTy_59 cvTy_3_220 cvTy_220_5 par_178 fldTy_163_0 fldTy_163_1 fldTy_163_2 par_179 par_180 cvTy_222_3 par_88 par_181 par_183 par_182 par_184 par_186 fldTy_104_1 fldTy_104_3 par_191 elTy_105 ixTy_105 tySz_243 par_192 cty_243 fldTy_104_0 fldTy_104_2 par_193 zeroC_204 cty_204 par_194 ixTy_110 tySz_204 fldTy_204_0 fldTy_204_1 tySz_48 par_197 par_201 par_202 fldTy_213_0 fldTy_213_1 par_203 intTy_3 cvTy_5_222 cty_222 par_208 par_209 fldTy_243_1 tySz_40 fldTy_243_0 par_221 par_222 par_223 zeroC_265 tySz_265 cvTy_222_5 ixTy_265 tySz_222 bldTy_204 bldTy_151 bldTy_265 cvTy_3_222 cty_265
end Go.Ev
set_option linter.unusedSimpArgs false
set_option linter.unusedVariables false
namespace Go.Ev
open Go Go.RowKit Go.Proofs
def mkB (k n : Nat) : List UInt8 := (List.range n).map fun j => UInt8.ofNat (k + j)
theorem mkB_length (k n : Nat) : (mkB k n).length = n := by simp [mkB]
theorem mkB_at (k n : Nat) {i : Nat} (h : i < n) : (mkB k n)[i]? = some ((fun j => UInt8.ofNat (k + j)) i) := by simp [mkB, h]
theorem c_toByteS (bs : List UInt8) (hb : bs.length ≤ 1048576) : Meets Try.prog 15 [rowB bs] (fun r => r = rowB bs) := by
  refine Meets.intro mixed (hint []) Try.func15 rfl (by decide) res_15 rty_15 (by kernel_rfl) ?_; 
  simp -dsimp -implicitDefEqProofs only [go_sem, Nat.reduceBEq, Nat.reduceAdd, Nat.reduceLeDiff, Nat.reduceSub, Int.reduceEq]
  refine ask.of (by omega) ?_
  refine LoopE.cnt bs.length (fun i s => s.env 0 = .rd .ent 5 1 (bytesA bs) ∧ s.env 3 = .ref [7] ∧ s.env 4 = .v (.int .i64 i) ∧ s.σ [7] = some (.row 5 1 (bytesA (bs.take i ++ List.replicate (bs.length - i) 0)))) ⟨by simp -dsimp -implicitDefEqProofs only [go_sem, Nat.reduceBEq, Nat.reduceAdd, Nat.reduceLeDiff, Nat.reduceSub, Int.reduceEq, initE], by simp -dsimp -implicitDefEqProofs only [go_sem, Nat.reduceBEq, Nat.reduceAdd, Nat.reduceLeDiff, Nat.reduceSub, Int.reduceEq], by simp -dsimp -implicitDefEqProofs only [go_sem, Nat.reduceBEq, Nat.reduceAdd, Nat.reduceLeDiff, Nat.reduceSub, Int.reduceEq] <;> simp, by simp -dsimp -implicitDefEqProofs only [go_sem, Nat.reduceBEq, Nat.reduceAdd, Nat.reduceLeDiff, Nat.reduceSub, Int.reduceEq] <;> simp⟩ ?_
  rintro i ⟨e, σ⟩ hi ⟨h0, h3, h4, hs⟩ K hK
  simp only at h0 h3 h4 hs
  simp -dsimp -implicitDefEqProofs only [go_sem, Nat.reduceBEq, Nat.reduceAdd, Nat.reduceLeDiff, Nat.reduceSub, Int.reduceEq, h0, h3, h4, hs]
  refine ifB'.of (fun hlt => ?_) (fun hlt => ?_)
  · have hlt : i < bs.length := by omega
    simp -dsimp -implicitDefEqProofs only [go_sem, Nat.reduceBEq, Nat.reduceAdd, Nat.reduceLeDiff, Nat.reduceSub, Int.reduceEq, h0, h3, h4, hs, bytesA_at hlt]
    repeat with_reducible refine ask.of (by omega) ?_
    have hl : (List.take i bs ++ List.replicate (bs.length - i) 0).length = bs.length := by simp; omega
    simp -dsimp -implicitDefEqProofs only [go_sem, Nat.reduceBEq, Nat.reduceAdd, Nat.reduceLeDiff, Nat.reduceSub, Int.reduceEq, h0, h3, h4, hs, hl]
    repeat with_reducible refine ask.of (by omega) ?_
    simp -dsimp -implicitDefEqProofs only [go_sem, Nat.reduceBEq, Nat.reduceAdd, Nat.reduceLeDiff, Nat.reduceSub, Int.reduceEq, h0, h3, h4, hs, bytesA_at (show i < (List.take i bs ++ List.replicate (bs.length - i) 0).length by omega)]
    refine hK _ hlt ?_
    simp -dsimp -implicitDefEqProofs only [go_sem, Nat.reduceBEq, Nat.reduceAdd, Nat.reduceLeDiff, Nat.reduceSub, Int.reduceEq, h0, h3, h4, hs, wrap_succ (show i < 4611686018427387904 by omega), fill_set bs 0 hlt]
  · have : i = bs.length := by omega
    subst this
    simp -dsimp -implicitDefEqProofs only [go_sem, Nat.reduceBEq, Nat.reduceAdd, Nat.reduceLeDiff, Nat.reduceSub, Int.reduceEq, h0, h3, h4, hs]
    simp
theorem c_eqByteS (bs : List UInt8) (hb : bs.length ≤ 8388608) : Meets Try.prog 18 [rowB bs, rowB bs] (fun r => r = .v (.bool true)) := by
  refine Meets.intro mixed (hint []) Try.func18 rfl (by decide) res_18 rty_18 (by kernel_rfl) ?_; 
  simp -dsimp -implicitDefEqProofs only [go_sem, Nat.reduceBEq, Nat.reduceAdd, Nat.reduceLeDiff, Nat.reduceSub, Int.reduceEq, decide_true, Bool.not_true]
  refine LoopE.cnt bs.length (fun i s => s.env 0 = .rd .ent 5 1 (bytesA bs) ∧ s.env 1 = .rd .ent 5 1 (bytesA bs) ∧ s.env 5 = .v (.int .i64 i)) ⟨by simp -dsimp -implicitDefEqProofs only [go_sem, Nat.reduceBEq, Nat.reduceAdd, Nat.reduceLeDiff, Nat.reduceSub, Int.reduceEq, initE], by simp -dsimp -implicitDefEqProofs only [go_sem, Nat.reduceBEq, Nat.reduceAdd, Nat.reduceLeDiff, Nat.reduceSub, Int.reduceEq, initE], by simp -dsimp -implicitDefEqProofs only [go_sem, Nat.reduceBEq, Nat.reduceAdd, Nat.reduceLeDiff, Nat.reduceSub, Int.reduceEq] <;> simp⟩ ?_
  rintro i ⟨e, σ⟩ hi ⟨h0, h1, h5⟩ K hK
  simp only at h0 h1 h5
  simp -dsimp -implicitDefEqProofs only [go_sem, Nat.reduceBEq, Nat.reduceAdd, Nat.reduceLeDiff, Nat.reduceSub, Int.reduceEq, h0, h1, h5]
  refine ifB'.of (fun hlt => ?_) (fun hlt => ?_)
  · have hlt : i < bs.length := by omega
    simp -dsimp -implicitDefEqProofs only [go_sem, Nat.reduceBEq, Nat.reduceAdd, Nat.reduceLeDiff, Nat.reduceSub, Int.reduceEq, h0, h1, h5, bytesA_at hlt]
    repeat with_reducible refine ask.of (by omega) ?_
    simp -dsimp -implicitDefEqProofs only [go_sem, Nat.reduceBEq, Nat.reduceAdd, Nat.reduceLeDiff, Nat.reduceSub, Int.reduceEq, h0, h1, h5, decide_true, Bool.not_true]
    refine hK _ hlt ?_
    simp -dsimp -implicitDefEqProofs only [go_sem, Nat.reduceBEq, Nat.reduceAdd, Nat.reduceLeDiff, Nat.reduceSub, Int.reduceEq, h0, h1, h5, wrap_succ (show i < 4611686018427387904 by omega)]
  · simp -dsimp -implicitDefEqProofs only [go_sem, Nat.reduceBEq, Nat.reduceAdd, Nat.reduceLeDiff, Nat.reduceSub, Int.reduceEq, h0, h1, h5]
theorem c_markByteS (bs : List UInt8) (k : Nat) (hk : k + bs.length ≤ 4611686018427387904) (hb : bs.length ≤ 8388608) : MeetsM Try.prog 20 [.mu (rowB bs), .rd (.v (.int .i64 k))] (fun r rs => r = .v (.int .i64 ((k + bs.length : Nat) : Int)) ∧ rs = [rowB (mkB k bs.length), .any]) := by
  refine MeetsM.intro mixed (hint []) Try.func20 rfl (by decide) res_20 rty_20 (pts := parTys Try.prog 20) (by rw [par_20]; rfl) (by kernel_rfl) ?_; rw [par_20]; intro vals; 
  simp -dsimp -implicitDefEqProofs only [go_sem, Nat.reduceBEq, Nat.reduceAdd, Nat.reduceLeDiff, Nat.reduceSub, Int.reduceEq]
  refine LoopE.cnt bs.length (fun i s => s.env 0 = .ref [1000000, 0] ∧ s.env 1 = .v (.int .i64 ((k + i : Nat) : Int)) ∧ s.env 5 = .v (.int .i64 i) ∧ s.σ [1000000, 0] = some (.row 5 1 (bytesA (mkPre (fun j => UInt8.ofNat (k + j)) bs i))) ∧ s.σ [1000001, 0] = some (.pin (.ref [1000000, 0]) (vals 0))) ⟨by simp -dsimp -implicitDefEqProofs only [go_sem, Nat.reduceBEq, Nat.reduceAdd, Nat.reduceLeDiff, Nat.reduceSub, Int.reduceEq], by simp -dsimp -implicitDefEqProofs only [go_sem, Nat.reduceBEq, Nat.reduceAdd, Nat.reduceLeDiff, Nat.reduceSub, Int.reduceEq] <;> simp, by simp -dsimp -implicitDefEqProofs only [go_sem, Nat.reduceBEq, Nat.reduceAdd, Nat.reduceLeDiff, Nat.reduceSub, Int.reduceEq] <;> simp, by simp -dsimp -implicitDefEqProofs only [go_sem, Nat.reduceBEq, Nat.reduceAdd, Nat.reduceLeDiff, Nat.reduceSub, Int.reduceEq, mkPre_zero], by simp -dsimp -implicitDefEqProofs only [go_sem, Nat.reduceBEq, Nat.reduceAdd, Nat.reduceLeDiff, Nat.reduceSub, Int.reduceEq]⟩ ?_
  rintro i ⟨e, σ⟩ hi ⟨h0, h1, h5, hs, hp⟩ K hK
  simp only at h0 h1 h5 hs hp
  have hl := mkPre_length (fun j => UInt8.ofNat (k + j)) hi
  simp -dsimp -implicitDefEqProofs only [go_sem, Nat.reduceBEq, Nat.reduceAdd, Nat.reduceLeDiff, Nat.reduceSub, Int.reduceEq, h0, h1, h5, hs, hp, hl]
  refine ifB'.of (fun hlt => ?_) (fun hlt => ?_)
  · have hlt : i < bs.length := by omega
    have hk' : k + i ≤ 4611686018427387904 := by omega
    simp -dsimp -implicitDefEqProofs only [go_sem, Nat.reduceBEq, Nat.reduceAdd, Nat.reduceLeDiff, Nat.reduceSub, Int.reduceEq, h0, h1, h5, hs, hp, hl]
    repeat with_reducible refine ask.of (by omega) ?_
    simp -dsimp -implicitDefEqProofs only [go_sem, Nat.reduceBEq, Nat.reduceAdd, Nat.reduceLeDiff, Nat.reduceSub, Int.reduceEq, h0, h1, h5, hs, hp, hl, bytesA_at (show i < (mkPre (fun j => UInt8.ofNat (k + j)) bs i).length by omega)]
    repeat with_reducible refine ask.of (by omega) ?_
    try simp -dsimp -implicitDefEqProofs only [go_sem, Nat.reduceBEq, Nat.reduceAdd, Nat.reduceLeDiff, Nat.reduceSub, Int.reduceEq, h0, h1, h5, hs, hp, u8_of_nat]
    refine hK _ hlt ?_
    simp -dsimp -implicitDefEqProofs only [go_sem, Nat.reduceBEq, Nat.reduceAdd, Nat.reduceLeDiff, Nat.reduceSub, Int.reduceEq, h0, h1, h5, hs, hp, wrap_succ (show i < 4611686018427387904 by omega), wrap_succ (show k + i < 4611686018427387904 by omega), mkPre_set (fun j => UInt8.ofNat (k + j)) bs hlt rfl]
    rfl
  · have : i = bs.length := by omega
    subst this
    simp -dsimp -implicitDefEqProofs only [go_sem, Nat.reduceBEq, Nat.reduceAdd, Nat.reduceLeDiff, Nat.reduceSub, Int.reduceEq, h0, h1, h5, hs, hp, mkPre_full]
    rfl
theorem c_heldByteS (k n : Nat) (hk : k + n ≤ 4611686018427387904) (hn : n ≤ 8388608) : Meets Try.prog 44 [rowB (mkB k n), .v (.int .i64 k)] (fun r => r = .v (.int .i64 ((k + n : Nat) : Int))) := by
  refine Meets.intro mixed (hint []) Try.func44 rfl (by decide) res_44 rty_44 (by kernel_rfl) ?_; 
  simp -dsimp -implicitDefEqProofs only [go_sem, Nat.reduceBEq, Nat.reduceAdd, Nat.reduceLeDiff, Nat.reduceSub, Int.reduceEq]
  refine LoopE.cnt n (fun i s => s.env 0 = .rd .ent 5 1 (bytesA (mkB k n)) ∧ s.env 1 = .v (.int .i64 ((k + i : Nat) : Int)) ∧ s.env 5 = .v (.int .i64 i)) ⟨by simp -dsimp -implicitDefEqProofs only [go_sem, Nat.reduceBEq, Nat.reduceAdd, Nat.reduceLeDiff, Nat.reduceSub, Int.reduceEq, initE], by simp -dsimp -implicitDefEqProofs only [go_sem, Nat.reduceBEq, Nat.reduceAdd, Nat.reduceLeDiff, Nat.reduceSub, Int.reduceEq, initE] <;> simp, by simp -dsimp -implicitDefEqProofs only [go_sem, Nat.reduceBEq, Nat.reduceAdd, Nat.reduceLeDiff, Nat.reduceSub, Int.reduceEq] <;> simp⟩ ?_
  rintro i ⟨e, σ⟩ hi ⟨h0, h1, h5⟩ K hK
  simp only at h0 h1 h5
  simp -dsimp -implicitDefEqProofs only [go_sem, Nat.reduceBEq, Nat.reduceAdd, Nat.reduceLeDiff, Nat.reduceSub, Int.reduceEq, h0, h1, h5, mkB_length]
  refine ifB'.of (fun hlt => ?_) (fun hlt => ?_)
  · have hlt : i < n := by omega
    have hk' : k + i ≤ 4611686018427387904 := by omega
    simp -dsimp -implicitDefEqProofs only [go_sem, Nat.reduceBEq, Nat.reduceAdd, Nat.reduceLeDiff, Nat.reduceSub, Int.reduceEq, h0, h1, h5, mkB_length, bytesA_at' (mkB_at k n hlt), u8_of_nat]
    repeat with_reducible refine ask.of (by omega) ?_
    simp -dsimp -implicitDefEqProofs only [go_sem, Nat.reduceBEq, Nat.reduceAdd, Nat.reduceLeDiff, Nat.reduceSub, Int.reduceEq, h0, h1, h5, decide_true, Bool.not_true]
    refine hK _ hlt ?_
    simp -dsimp -implicitDefEqProofs only [go_sem, Nat.reduceBEq, Nat.reduceAdd, Nat.reduceLeDiff, Nat.reduceSub, Int.reduceEq, h0, h1, h5, wrap_succ (show i < 4611686018427387904 by omega), wrap_succ (show k + i < 4611686018427387904 by omega)]
    rfl
  · have : i = n := by omega
    subst this
    simp -dsimp -implicitDefEqProofs only [go_sem, Nat.reduceBEq, Nat.reduceAdd, Nat.reduceLeDiff, Nat.reduceSub, Int.reduceEq, h0, h1, h5]
end Go.Ev
set_option linter.unusedSimpArgs false
set_option linter.unusedVariables false
namespace Go.Ev
open Go Go.RowKit Go.Proofs
theorem c_szByteS (bs : List UInt8) (left : Nat) (hb : bs.length ≤ 140737488355328) (hl : left ≤ 1048576) : Meets Try.prog 92 [rowB bs, .v (.int .i64 left)] (fun r => r = .v (.int .i64 (szR left bs.length))) := by
  refine Meets.intro mixed (hint []) Try.func92 rfl (by decide) res_92 rty_92 (by kernel_rfl) ?_; 
  have e : IntKind.i64.wrap ((left : Int) - bs.length) = (left : Int) - bs.length := wrap_i64_of (by omega) (by omega)
  simp -dsimp -implicitDefEqProofs only [go_sem, Nat.reduceBEq, Nat.reduceAdd, Nat.reduceLeDiff, Nat.reduceSub, Int.reduceEq, e]
  refine ifB'.of (fun h => ?_) (fun h => ?_)
  · simp -dsimp -implicitDefEqProofs only [go_sem, Nat.reduceBEq, Nat.reduceAdd, Nat.reduceLeDiff, Nat.reduceSub, Int.reduceEq]
    rw [szR_no (by omega)]
  · simp -dsimp -implicitDefEqProofs only [go_sem, Nat.reduceBEq, Nat.reduceAdd, Nat.reduceLeDiff, Nat.reduceSub, Int.reduceEq]
    rw [szR_ok (by omega)]; omega
def wBB (xs : List (List UInt8)) : Nat := szL List.length xs
theorem c_szByteSS (xs : List (List UInt8)) (left : Nat) (hl : left ≤ 1048576) (hx : xs.length ≤ 140737488355328) (hb : ∀ b ∈ xs, b.length ≤ 140737488355328) : Meets Try.prog 22 [rowBB xs, .v (.int .i64 left)] (fun r => r = .v (.int .i64 (szR left (xs.length + wBB xs)))) := by
  refine Meets.intro mixed (hint []) Try.func22 rfl (by decide) res_22 rty_22 (by kernel_rfl) ?_; 
  have e : IntKind.i64.wrap ((left : Int) - xs.length) = (left : Int) - xs.length := wrap_i64_of (by omega) (by omega)
  simp -dsimp -implicitDefEqProofs only [go_sem, Nat.reduceBEq, Nat.reduceAdd, Nat.reduceLeDiff, Nat.reduceSub, Int.reduceEq, e]
  refine ifB'.of (fun h => ?_) (fun h => ?_)
  · simp -dsimp -implicitDefEqProofs only [go_sem, Nat.reduceBEq, Nat.reduceAdd, Nat.reduceLeDiff, Nat.reduceSub, Int.reduceEq]
    rw [szR_no (by omega)]
  simp -dsimp -implicitDefEqProofs only [go_sem, Nat.reduceBEq, Nat.reduceAdd, Nat.reduceLeDiff, Nat.reduceSub, Int.reduceEq, e]
  refine LoopE.cnt xs.length (fun i s => s.env 0 = .rd .ent 25 1 (ra byC xs) ∧ s.env 5 = .v (.int .i64 i) ∧ xs.length + szL List.length (xs.take i) ≤ left ∧ s.env 1 = .v (.int .i64 ((left - (xs.length + szL List.length (xs.take i)) : Nat) : Int))) ⟨by simp -dsimp -implicitDefEqProofs only [go_sem, Nat.reduceBEq, Nat.reduceAdd, Nat.reduceLeDiff, Nat.reduceSub, Int.reduceEq, initE], by simp -dsimp -implicitDefEqProofs only [go_sem, Nat.reduceBEq, Nat.reduceAdd, Nat.reduceLeDiff, Nat.reduceSub, Int.reduceEq] <;> simp, by simp [szL]; omega, by simp -dsimp -implicitDefEqProofs only [go_sem, Nat.reduceBEq, Nat.reduceAdd, Nat.reduceLeDiff, Nat.reduceSub, Int.reduceEq] <;> (simp [szL]; omega)⟩ ?_
  rintro i ⟨e, σ⟩ hi ⟨h0, h5, hle, h1⟩ K hK
  simp only at h0 h5 h1
  simp -dsimp -implicitDefEqProofs only [go_sem, Nat.reduceBEq, Nat.reduceAdd, Nat.reduceLeDiff, Nat.reduceSub, Int.reduceEq, h0, h5, h1]
  refine ifB'.of (fun hlt => ?_) (fun hlt => ?_)
  · have hlt : i < xs.length := by omega
    have hs := szL_take_succ List.length hlt
    have hw := szL_take_le List.length xs (i + 1)
    simp -dsimp -implicitDefEqProofs only [go_sem, Nat.reduceBEq, Nat.reduceAdd, Nat.reduceLeDiff, Nat.reduceSub, Int.reduceEq, h0, h5, h1, byA_at hlt]
    repeat with_reducible refine ask.of (by omega) ?_
    refine CallE.of (c_szByteS xs[i] (left - (xs.length + szL List.length (xs.take i))) (hb _ (List.getElem_mem _)) (by omega)) (by rintro r rfl; (repeat' first | exact trivial | exact pure_rowB _ | exact pure_rowO _ | exact pure_rowI _ | exact pure_rowBB _ | exact pure_rowPk _ _ | exact pure_rowSn _ _ | exact pure_rowFd _ _ | exact pure_rowBBB _ | exact pure_rowCl _ _ | exact pure_rowTb _ _ _ | refine And.intro ?_ ?_)) (by simp -dsimp -implicitDefEqProofs only [go_sem, Nat.reduceBEq, Nat.reduceAdd, Nat.reduceLeDiff, Nat.reduceSub, Int.reduceEq, h0, h5, h1]) ?_
    rintro r rfl
    simp -dsimp -implicitDefEqProofs only [go_sem, Nat.reduceBEq, Nat.reduceAdd, Nat.reduceLeDiff, Nat.reduceSub, Int.reduceEq, h0, h5, h1]
    refine ifB'.of (fun hn => ?_) (fun hn => ?_)
    · have : ¬ xs[i].length ≤ left - (xs.length + szL List.length (xs.take i)) := fun h => by rw [szR_ok h] at hn; omega
      simp -dsimp -implicitDefEqProofs only [go_sem, Nat.reduceBEq, Nat.reduceAdd, Nat.reduceLeDiff, Nat.reduceSub, Int.reduceEq, h0, h5, h1]
      rw [szR_no (by unfold wBB; omega)]
    · have h : xs[i].length ≤ left - (xs.length + szL List.length (xs.take i)) := Classical.byContradiction fun h => by rw [szR_no h] at hn; omega
      simp -dsimp -implicitDefEqProofs only [go_sem, Nat.reduceBEq, Nat.reduceAdd, Nat.reduceLeDiff, Nat.reduceSub, Int.reduceEq, h0, h5, h1]
      refine hK _ hlt ?_
      simp -dsimp -implicitDefEqProofs only [go_sem, Nat.reduceBEq, Nat.reduceAdd, Nat.reduceLeDiff, Nat.reduceSub, Int.reduceEq, h0, h5, h1, wrap_succ (show i < 4611686018427387904 by omega), szR_ok h, hs]
      exact ⟨by omega, by omega⟩
  · have : i = xs.length := by omega
    subst this
    simp -dsimp -implicitDefEqProofs only [go_sem, Nat.reduceBEq, Nat.reduceAdd, Nat.reduceLeDiff, Nat.reduceSub, Int.reduceEq, h0, h5, h1]
    rw [List.take_length] at hle ⊢
    rw [szR_ok (by unfold wBB; omega)]
    rfl
theorem c_toByteSS (xs : List (List UInt8)) (hx : xs.length ≤ 1048576) (hb : ∀ b ∈ xs, b.length ≤ 1048576) : Meets Try.prog 25 [rowBB xs] (fun r => r = rowBB xs) := by
  refine Meets.intro mixed (hint []) Try.func25 rfl (by decide) res_25 rty_25 (by kernel_rfl) ?_; 
  simp -dsimp -implicitDefEqProofs only [go_sem, Nat.reduceBEq, Nat.reduceAdd, Nat.reduceLeDiff, Nat.reduceSub, Int.reduceEq]
  refine ask.of (by omega) ?_
  refine LoopE.cnt xs.length (fun i s => s.env 0 = .rd .ent 25 1 (ra byC xs) ∧ s.env 3 = .ref [7] ∧ s.env 4 = .v (.int .i64 i) ∧ s.σ [7] = some (.row 25 1 (ra byC (xs.take i ++ List.replicate (xs.length - i) [])))) ⟨by simp -dsimp -implicitDefEqProofs only [go_sem, Nat.reduceBEq, Nat.reduceAdd, Nat.reduceLeDiff, Nat.reduceSub, Int.reduceEq, initE], by simp -dsimp -implicitDefEqProofs only [go_sem, Nat.reduceBEq, Nat.reduceAdd, Nat.reduceLeDiff, Nat.reduceSub, Int.reduceEq], by simp -dsimp -implicitDefEqProofs only [go_sem, Nat.reduceBEq, Nat.reduceAdd, Nat.reduceLeDiff, Nat.reduceSub, Int.reduceEq] <;> simp, by simp -dsimp -implicitDefEqProofs only [go_sem, Nat.reduceBEq, Nat.reduceAdd, Nat.reduceLeDiff, Nat.reduceSub, Int.reduceEq] <;> simp⟩ ?_
  rintro i ⟨e, σ⟩ hi ⟨h0, h3, h4, hs⟩ K hK
  simp only at h0 h3 h4 hs
  simp -dsimp -implicitDefEqProofs only [go_sem, Nat.reduceBEq, Nat.reduceAdd, Nat.reduceLeDiff, Nat.reduceSub, Int.reduceEq, h0, h3, h4, hs]
  refine ifB'.of (fun hlt => ?_) (fun hlt => ?_)
  · have hlt : i < xs.length := by omega
    simp -dsimp -implicitDefEqProofs only [go_sem, Nat.reduceBEq, Nat.reduceAdd, Nat.reduceLeDiff, Nat.reduceSub, Int.reduceEq, h0, h3, h4, hs, byA_at hlt]
    repeat with_reducible refine ask.of (by omega) ?_
    refine CallE.of (c_toByteS xs[i] (hb _ (List.getElem_mem _))) (by rintro r rfl; (repeat' first | exact trivial | exact pure_rowB _ | exact pure_rowO _ | exact pure_rowI _ | exact pure_rowBB _ | exact pure_rowPk _ _ | exact pure_rowSn _ _ | exact pure_rowFd _ _ | exact pure_rowBBB _ | exact pure_rowCl _ _ | exact pure_rowTb _ _ _ | refine And.intro ?_ ?_)) (by simp -dsimp -implicitDefEqProofs only [go_sem, Nat.reduceBEq, Nat.reduceAdd, Nat.reduceLeDiff, Nat.reduceSub, Int.reduceEq, h0, h3, h4, hs]) ?_
    rintro r rfl
    simp -dsimp -implicitDefEqProofs only [go_sem, Nat.reduceBEq, Nat.reduceAdd, Nat.reduceLeDiff, Nat.reduceSub, Int.reduceEq, h0, h3, h4, hs]
    have hl : (List.take i xs ++ List.replicate (xs.length - i) []).length = xs.length := by simp; omega
    simp -dsimp -implicitDefEqProofs only [go_sem, Nat.reduceBEq, Nat.reduceAdd, Nat.reduceLeDiff, Nat.reduceSub, Int.reduceEq, h0, h3, h4, hs, hl]
    repeat with_reducible refine ask.of (by omega) ?_
    simp -dsimp -implicitDefEqProofs only [go_sem, Nat.reduceBEq, Nat.reduceAdd, Nat.reduceLeDiff, Nat.reduceSub, Int.reduceEq, h0, h3, h4, hs, byA_at (show i < (List.take i xs ++ List.replicate (xs.length - i) []).length by omega)]
    refine hK _ hlt ?_
    simp -dsimp -implicitDefEqProofs only [go_sem, Nat.reduceBEq, Nat.reduceAdd, Nat.reduceLeDiff, Nat.reduceSub, Int.reduceEq, h0, h3, h4, hs, wrap_succ (show i < 4611686018427387904 by omega), fill_set xs [] hlt]
  · have : i = xs.length := by omega
    subst this
    simp -dsimp -implicitDefEqProofs only [go_sem, Nat.reduceBEq, Nat.reduceAdd, Nat.reduceLeDiff, Nat.reduceSub, Int.reduceEq, h0, h3, h4, hs]
    simp
theorem c_eqByteSS (xs : List (List UInt8)) (hx : xs.length ≤ 8388608) (hb : ∀ b ∈ xs, b.length ≤ 8388608) : Meets Try.prog 29 [rowBB xs, rowBB xs] (fun r => r = .v (.bool true)) := by
  refine Meets.intro mixed (hint []) Try.func29 rfl (by decide) res_29 rty_29 (by kernel_rfl) ?_; 
  simp -dsimp -implicitDefEqProofs only [go_sem, Nat.reduceBEq, Nat.reduceAdd, Nat.reduceLeDiff, Nat.reduceSub, Int.reduceEq, decide_true, Bool.not_true]
  refine LoopE.cnt xs.length (fun i s => s.env 0 = .rd .ent 25 1 (ra byC xs) ∧ s.env 1 = .rd .ent 25 1 (ra byC xs) ∧ s.env 5 = .v (.int .i64 i)) ⟨by simp -dsimp -implicitDefEqProofs only [go_sem, Nat.reduceBEq, Nat.reduceAdd, Nat.reduceLeDiff, Nat.reduceSub, Int.reduceEq, initE], by simp -dsimp -implicitDefEqProofs only [go_sem, Nat.reduceBEq, Nat.reduceAdd, Nat.reduceLeDiff, Nat.reduceSub, Int.reduceEq, initE], by simp -dsimp -implicitDefEqProofs only [go_sem, Nat.reduceBEq, Nat.reduceAdd, Nat.reduceLeDiff, Nat.reduceSub, Int.reduceEq] <;> simp⟩ ?_
  rintro i ⟨e, σ⟩ hi ⟨h0, h1, h5⟩ K hK
  simp only at h0 h1 h5
  simp -dsimp -implicitDefEqProofs only [go_sem, Nat.reduceBEq, Nat.reduceAdd, Nat.reduceLeDiff, Nat.reduceSub, Int.reduceEq, h0, h1, h5]
  refine ifB'.of (fun hlt => ?_) (fun hlt => ?_)
  · have hlt : i < xs.length := by omega
    simp -dsimp -implicitDefEqProofs only [go_sem, Nat.reduceBEq, Nat.reduceAdd, Nat.reduceLeDiff, Nat.reduceSub, Int.reduceEq, h0, h1, h5, byA_at hlt]
    repeat with_reducible refine ask.of (by omega) ?_
    refine CallE.of (c_eqByteS xs[i] (hb _ (List.getElem_mem _))) (by rintro r rfl; (repeat' first | exact trivial | exact pure_rowB _ | exact pure_rowO _ | exact pure_rowI _ | exact pure_rowBB _ | exact pure_rowPk _ _ | exact pure_rowSn _ _ | exact pure_rowFd _ _ | exact pure_rowBBB _ | exact pure_rowCl _ _ | exact pure_rowTb _ _ _ | refine And.intro ?_ ?_)) (by simp -dsimp -implicitDefEqProofs only [go_sem, Nat.reduceBEq, Nat.reduceAdd, Nat.reduceLeDiff, Nat.reduceSub, Int.reduceEq, h0, h1, h5, Bool.not_true]) ?_
    rintro r rfl
    simp -dsimp -implicitDefEqProofs only [go_sem, Nat.reduceBEq, Nat.reduceAdd, Nat.reduceLeDiff, Nat.reduceSub, Int.reduceEq, h0, h1, h5, Bool.not_true]
    refine hK _ hlt ?_
    simp -dsimp -implicitDefEqProofs only [go_sem, Nat.reduceBEq, Nat.reduceAdd, Nat.reduceLeDiff, Nat.reduceSub, Int.reduceEq, h0, h1, h5, wrap_succ (show i < 4611686018427387904 by omega)]
  · simp -dsimp -implicitDefEqProofs only [go_sem, Nat.reduceBEq, Nat.reduceAdd, Nat.reduceLeDiff, Nat.reduceSub, Int.reduceEq, h0, h1, h5]
def mkBB (k : Nat) (xs : List (List UInt8)) : List (List UInt8) := mkL (fun k x => mkB k x.length) List.length k xs
theorem c_markByteSS (xs : List (List UInt8)) (k : Nat) (hk : k + wBB xs ≤ 4611686018427387904) (hx : xs.length ≤ 8388608) (hb : ∀ b ∈ xs, b.length ≤ 8388608) : MeetsM Try.prog 31 [.mu (rowBB xs), .rd (.v (.int .i64 k))] (fun r rs => r = .v (.int .i64 ((k + wBB xs : Nat) : Int)) ∧ rs = [rowBB (mkBB k xs), .any]) := by
  refine MeetsM.intro mixed (hint []) Try.func31 rfl (by decide) res_31 rty_31 (pts := parTys Try.prog 31) (by rw [par_31]; rfl) (by kernel_rfl) ?_; rw [par_31]; intro vals; 
  simp -dsimp -implicitDefEqProofs only [go_sem, Nat.reduceBEq, Nat.reduceAdd, Nat.reduceLeDiff, Nat.reduceSub, Int.reduceEq]
  refine LoopE.cnt xs.length (fun i s => s.env 0 = .ref [1000000, 0] ∧ s.env 1 = .v (.int .i64 ((k + szL List.length (xs.take i) : Nat) : Int)) ∧ s.env 5 = .v (.int .i64 i) ∧ s.σ [1000000, 0] = some (.row 25 1 (ra byC (mkLP (fun k x => mkB k x.length) List.length k xs i))) ∧ s.σ [1000001, 0] = some (.pin (.ref [1000000, 0]) (vals 0))) ⟨by simp -dsimp -implicitDefEqProofs only [go_sem, Nat.reduceBEq, Nat.reduceAdd, Nat.reduceLeDiff, Nat.reduceSub, Int.reduceEq], by simp -dsimp -implicitDefEqProofs only [go_sem, Nat.reduceBEq, Nat.reduceAdd, Nat.reduceLeDiff, Nat.reduceSub, Int.reduceEq] <;> simp [szL], by simp -dsimp -implicitDefEqProofs only [go_sem, Nat.reduceBEq, Nat.reduceAdd, Nat.reduceLeDiff, Nat.reduceSub, Int.reduceEq] <;> simp, by simp -dsimp -implicitDefEqProofs only [go_sem, Nat.reduceBEq, Nat.reduceAdd, Nat.reduceLeDiff, Nat.reduceSub, Int.reduceEq, mkLP_zero], by simp -dsimp -implicitDefEqProofs only [go_sem, Nat.reduceBEq, Nat.reduceAdd, Nat.reduceLeDiff, Nat.reduceSub, Int.reduceEq]⟩ ?_
  rintro i ⟨e, σ⟩ hi ⟨h0, h1, h5, hs, hp⟩ K hK
  simp only at h0 h1 h5 hs hp
  have hl := mkLP_length (fun k x => mkB k x.length) List.length k hi
  simp -dsimp -implicitDefEqProofs only [go_sem, Nat.reduceBEq, Nat.reduceAdd, Nat.reduceLeDiff, Nat.reduceSub, Int.reduceEq, h0, h1, h5, hs, hp, hl]
  refine ifB'.of (fun hlt => ?_) (fun hlt => ?_)
  · have hlt : i < xs.length := by omega
    have hw := szL_at_le List.length hlt
    simp -dsimp -implicitDefEqProofs only [go_sem, Nat.reduceBEq, Nat.reduceAdd, Nat.reduceLeDiff, Nat.reduceSub, Int.reduceEq, h0, h1, h5, hs, hp, hl]
    repeat with_reducible refine ask.of (by omega) ?_
    simp -dsimp -implicitDefEqProofs only [go_sem, Nat.reduceBEq, Nat.reduceAdd, Nat.reduceLeDiff, Nat.reduceSub, Int.reduceEq, h0, h1, h5, hs, hp, byA_at' (mkLP_at (fun k x => mkB k x.length) List.length k hlt)]
    refine CallE.mut (c_markByteS xs[i] (k + szL List.length (xs.take i)) (by unfold wBB at hk; omega) (hb _ (List.getElem_mem _))) (by simp -dsimp -implicitDefEqProofs only [go_sem, Nat.reduceBEq, Nat.reduceAdd, Nat.reduceLeDiff, Nat.reduceSub, Int.reduceEq, h0, h1, h5, hs, hp]) (by rintro r rs ⟨rfl, rfl⟩; exact ⟨by (repeat' first | exact trivial | exact pure_rowB _ | exact pure_rowO _ | exact pure_rowI _ | exact pure_rowBB _ | exact pure_rowPk _ _ | exact pure_rowSn _ _ | exact pure_rowFd _ _ | exact pure_rowBBB _ | exact pure_rowCl _ _ | exact pure_rowTb _ _ _ | refine And.intro ?_ ?_), by first | exact ⟨by (repeat' first | exact trivial | exact pure_rowB _ | exact pure_rowO _ | exact pure_rowI _ | exact pure_rowBB _ | exact pure_rowPk _ _ | exact pure_rowSn _ _ | exact pure_rowFd _ _ | exact pure_rowBBB _ | exact pure_rowCl _ _ | exact pure_rowTb _ _ _ | refine And.intro ?_ ?_), trivial⟩ | exact ⟨by (repeat' first | exact trivial | exact pure_rowB _ | exact pure_rowO _ | exact pure_rowI _ | exact pure_rowBB _ | exact pure_rowPk _ _ | exact pure_rowSn _ _ | exact pure_rowFd _ _ | exact pure_rowBBB _ | exact pure_rowCl _ _ | exact pure_rowTb _ _ _ | refine And.intro ?_ ?_), trivial, trivial⟩⟩) (by simp -dsimp -implicitDefEqProofs only [go_sem, Nat.reduceBEq, Nat.reduceAdd, Nat.reduceLeDiff, Nat.reduceSub, Int.reduceEq, h0, h1, h5, hs, hp, byA_at' (mkLP_at (fun k x => mkB k x.length) List.length k hlt)]) (by simp -dsimp -implicitDefEqProofs only [go_sem, Nat.reduceBEq, Nat.reduceAdd, Nat.reduceLeDiff, Nat.reduceSub, Int.reduceEq, h0, h1, h5, hs, hp, byA_at' (mkLP_at (fun k x => mkB k x.length) List.length k hlt)]) ?_
    rintro r rs ⟨rfl, rfl⟩
    simp -dsimp -implicitDefEqProofs only [go_sem, Nat.reduceBEq, Nat.reduceAdd, Nat.reduceLeDiff, Nat.reduceSub, Int.reduceEq, h0, h1, h5, hs, hp, byA_at' (mkLP_at (fun k x => mkB k x.length) List.length k hlt)]
    refine hK _ hlt ?_
    simp -dsimp -implicitDefEqProofs only [go_sem, Nat.reduceBEq, Nat.reduceAdd, Nat.reduceLeDiff, Nat.reduceSub, Int.reduceEq, h0, h1, h5, hs, hp, byA_at' (mkLP_at (fun k x => mkB k x.length) List.length k hlt), wrap_succ (show i < 4611686018427387904 by omega), mkLP_set (fun k x => mkB k x.length) List.length k hlt rfl, szL_take_succ List.length hlt, Nat.add_assoc]
  · have : i = xs.length := by omega
    subst this
    simp -dsimp -implicitDefEqProofs only [go_sem, Nat.reduceBEq, Nat.reduceAdd, Nat.reduceLeDiff, Nat.reduceSub, Int.reduceEq, h0, h1, h5, hs, hp, mkLP_full, List.take_length]
    exact ⟨rfl, rfl⟩
theorem c_heldByteSS (xs : List (List UInt8)) (k : Nat) (hk : k + wBB xs ≤ 4611686018427387904) (hx : xs.length ≤ 8388608) (hb : ∀ b ∈ xs, b.length ≤ 8388608) : Meets Try.prog 47 [rowBB (mkBB k xs), .v (.int .i64 k)] (fun r => r = .v (.int .i64 ((k + wBB xs : Nat) : Int))) := by
  refine Meets.intro mixed (hint []) Try.func47 rfl (by decide) res_47 rty_47 (by kernel_rfl) ?_; 
  simp -dsimp -implicitDefEqProofs only [go_sem, Nat.reduceBEq, Nat.reduceAdd, Nat.reduceLeDiff, Nat.reduceSub, Int.reduceEq]
  refine LoopE.cnt xs.length (fun i s => s.env 0 = .rd .ent 25 1 (ra byC (mkBB k xs)) ∧ s.env 1 = .v (.int .i64 ((k + szL List.length (xs.take i) : Nat) : Int)) ∧ s.env 5 = .v (.int .i64 i)) ⟨by simp -dsimp -implicitDefEqProofs only [go_sem, Nat.reduceBEq, Nat.reduceAdd, Nat.reduceLeDiff, Nat.reduceSub, Int.reduceEq, initE], by simp -dsimp -implicitDefEqProofs only [go_sem, Nat.reduceBEq, Nat.reduceAdd, Nat.reduceLeDiff, Nat.reduceSub, Int.reduceEq, initE] <;> simp [szL], by simp -dsimp -implicitDefEqProofs only [go_sem, Nat.reduceBEq, Nat.reduceAdd, Nat.reduceLeDiff, Nat.reduceSub, Int.reduceEq] <;> simp⟩ ?_
  rintro i ⟨e, σ⟩ hi ⟨h0, h1, h5⟩ K hK
  simp only at h0 h1 h5
  simp -dsimp -implicitDefEqProofs only [go_sem, Nat.reduceBEq, Nat.reduceAdd, Nat.reduceLeDiff, Nat.reduceSub, Int.reduceEq, h0, h1, h5, mkBB, mkL_length]
  refine ifB'.of (fun hlt => ?_) (fun hlt => ?_)
  · have hlt : i < xs.length := by omega
    have hw := szL_at_le List.length hlt
    simp -dsimp -implicitDefEqProofs only [go_sem, Nat.reduceBEq, Nat.reduceAdd, Nat.reduceLeDiff, Nat.reduceSub, Int.reduceEq, h0, h1, h5, mkBB, mkL_length, byA_at' (mkL_at (fun k x => mkB k x.length) List.length k hlt)]
    repeat with_reducible refine ask.of (by omega) ?_
    refine CallE.of (c_heldByteS (k + szL List.length (xs.take i)) xs[i].length (by unfold wBB at hk; omega) (hb _ (List.getElem_mem _))) (by rintro r rfl; (repeat' first | exact trivial | exact pure_rowB _ | exact pure_rowO _ | exact pure_rowI _ | exact pure_rowBB _ | exact pure_rowPk _ _ | exact pure_rowSn _ _ | exact pure_rowFd _ _ | exact pure_rowBBB _ | exact pure_rowCl _ _ | exact pure_rowTb _ _ _ | refine And.intro ?_ ?_)) (by simp -dsimp -implicitDefEqProofs only [go_sem, Nat.reduceBEq, Nat.reduceAdd, Nat.reduceLeDiff, Nat.reduceSub, Int.reduceEq, h0, h1, h5]) ?_
    rintro r rfl
    simp -dsimp -implicitDefEqProofs only [go_sem, Nat.reduceBEq, Nat.reduceAdd, Nat.reduceLeDiff, Nat.reduceSub, Int.reduceEq, h0, h1, h5]
    refine ifB'.of (fun hn => by omega) (fun hn => ?_)
    simp -dsimp -implicitDefEqProofs only [go_sem, Nat.reduceBEq, Nat.reduceAdd, Nat.reduceLeDiff, Nat.reduceSub, Int.reduceEq, h0, h1, h5]
    refine hK _ hlt ?_
    simp -dsimp -implicitDefEqProofs only [go_sem, Nat.reduceBEq, Nat.reduceAdd, Nat.reduceLeDiff, Nat.reduceSub, Int.reduceEq, h0, h1, h5, wrap_succ (show i < 4611686018427387904 by omega), szL_take_succ List.length hlt, Nat.add_assoc, mkBB]
  · have : i = xs.length := by omega
    subst this
    simp -dsimp -implicitDefEqProofs only [go_sem, Nat.reduceBEq, Nat.reduceAdd, Nat.reduceLeDiff, Nat.reduceSub, Int.reduceEq, h0, h1, h5, List.take_length]
    rfl
end Go.Ev
set_option linter.unusedSimpArgs false
set_option linter.unusedVariables false
namespace Go.Ev
open Go Go.RowKit Go.Proofs
structure Fd where
  f : List UInt8
  k : Int
  w : Int
structure Cl where
  z : Bool
  i : Int
  f : List UInt8
def fdC (x : Fd) : List AV := [.row 5 1 (bytesA x.f), .v (.int .i64 x.k), .v (.int .i64 x.w)]
def clC (x : Cl) : List AV := [.v (.bool x.z), .v (.int .i64 x.i), .row 5 1 (bytesA x.f)]
def fdW (x : Fd) : Nat := x.f.length
def clW (x : Cl) : Nat := x.f.length
def fd0 : Fd := ⟨[], 0, 0⟩
def cl0 : Cl := ⟨false, 0, []⟩
def rowFd (T : Nat) (ps : List Fd) : AV := .row T 3 (ra fdC ps)
def rowCl (T : Nat) (ps : List Cl) : AV := .row T 3 (ra clC ps)
theorem bleF (n : Nat) : Nat.ble n n = true := by simp
theorem pure_rowFd (T : Nat) (ps : List Fd) : (rowFd T ps).pure := pureEls_ra (enc := fdC) (fun x => ⟨pureEls_bytes _, trivial, trivial, trivial⟩) ps
theorem pure_rowCl (T : Nat) (ps : List Cl) : (rowCl T ps).pure := pureEls_ra (enc := clC) (fun x => ⟨trivial, trivial, pureEls_bytes _, trivial⟩) ps
theorem c_szField (p : Fd) (left : Nat) (hb : p.f.length ≤ 140737488355328) (hl : left ≤ 1048576) : Meets Try.prog 48 [.agg (fdC p), .v (.int .i64 left)] (fun r => r = .v (.int .i64 (szR left p.f.length))) := by
  refine Meets.intro mixed (hint []) Try.func48 rfl (by decide) res_48 rty_48 (by kernel_rfl) ?_; 
  simp -dsimp -implicitDefEqProofs only [go_sem, Nat.reduceBEq, Nat.reduceAdd, Nat.reduceLeDiff, Nat.reduceSub, Int.reduceEq, fdC]
  repeat with_reducible refine ask.of (by omega) ?_
  refine CallE.of (c_szByteS p.f left hb hl) (by rintro r rfl; (repeat' first | exact trivial | exact pure_rowB _ | exact pure_rowO _ | exact pure_rowI _ | exact pure_rowBB _ | exact pure_rowPk _ _ | exact pure_rowSn _ _ | exact pure_rowFd _ _ | exact pure_rowBBB _ | exact pure_rowCl _ _ | exact pure_rowTb _ _ _ | refine And.intro ?_ ?_)) (by simp -dsimp -implicitDefEqProofs only [go_sem, Nat.reduceBEq, Nat.reduceAdd, Nat.reduceLeDiff, Nat.reduceSub, Int.reduceEq]) ?_
  rintro r rfl
  simp -dsimp -implicitDefEqProofs only [go_sem, Nat.reduceBEq, Nat.reduceAdd, Nat.reduceLeDiff, Nat.reduceSub, Int.reduceEq]
  refine ifB'.of (fun h => ?_) (fun h => ?_)
  · simp -dsimp -implicitDefEqProofs only [go_sem, Nat.reduceBEq, Nat.reduceAdd, Nat.reduceLeDiff, Nat.reduceSub, Int.reduceEq]
    by_cases h2 : p.f.length ≤ left
    · rw [szR_ok h2] at h; omega
    · rw [szR_no h2]
  · simp -dsimp -implicitDefEqProofs only [go_sem, Nat.reduceBEq, Nat.reduceAdd, Nat.reduceLeDiff, Nat.reduceSub, Int.reduceEq]
theorem c_toField (p : Fd) (hb : p.f.length ≤ 1048576) : Meets Try.prog 50 [.agg (fdC p)] (fun r => r = .agg (fdC p)) := by
  refine Meets.intro mixed (hint []) Try.func50 rfl (by decide) res_50 rty_50 (by kernel_rfl) ?_; 
  simp -dsimp -implicitDefEqProofs only [go_sem, Nat.reduceBEq, Nat.reduceAdd, Nat.reduceLeDiff, Nat.reduceSub, Int.reduceEq, fdC]
  repeat (first | with_reducible refine ask.of (by omega) ?_ | simp -dsimp -implicitDefEqProofs only [go_sem, Nat.reduceBEq, Nat.reduceAdd, Nat.reduceLeDiff, Nat.reduceSub, Int.reduceEq, bleF])
  refine CallE.of (c_toByteS p.f hb) (by rintro r rfl; (repeat' first | exact trivial | exact pure_rowB _ | exact pure_rowO _ | exact pure_rowI _ | exact pure_rowBB _ | exact pure_rowPk _ _ | exact pure_rowSn _ _ | exact pure_rowFd _ _ | exact pure_rowBBB _ | exact pure_rowCl _ _ | exact pure_rowTb _ _ _ | refine And.intro ?_ ?_)) (by simp -dsimp -implicitDefEqProofs only [go_sem, Nat.reduceBEq, Nat.reduceAdd, Nat.reduceLeDiff, Nat.reduceSub, Int.reduceEq]) ?_
  rintro r rfl
  simp -dsimp -implicitDefEqProofs only [go_sem, Nat.reduceBEq, Nat.reduceAdd, Nat.reduceLeDiff, Nat.reduceSub, Int.reduceEq]
  repeat (first | with_reducible refine ask.of (by omega) ?_ | simp -dsimp -implicitDefEqProofs only [go_sem, Nat.reduceBEq, Nat.reduceAdd, Nat.reduceLeDiff, Nat.reduceSub, Int.reduceEq, bleF])
theorem c_eqField (p : Fd) (hb : p.f.length ≤ 1048576) : Meets Try.prog 52 [.agg (fdC p), .agg (fdC p)] (fun r => r = .v (.bool true)) := by
  refine Meets.intro mixed (hint []) Try.func52 rfl (by decide) res_52 rty_52 (by kernel_rfl) ?_; 
  simp -dsimp -implicitDefEqProofs only [go_sem, Nat.reduceBEq, Nat.reduceAdd, Nat.reduceLeDiff, Nat.reduceSub, Int.reduceEq, fdC, decide_true]
  repeat (first | with_reducible refine ask.of (by omega) ?_ | simp -dsimp -implicitDefEqProofs only [go_sem, Nat.reduceBEq, Nat.reduceAdd, Nat.reduceLeDiff, Nat.reduceSub, Int.reduceEq, bleF, decide_true])
  refine CallE.of (c_eqByteS p.f (by omega)) (by rintro r rfl; (repeat' first | exact trivial | exact pure_rowB _ | exact pure_rowO _ | exact pure_rowI _ | exact pure_rowBB _ | exact pure_rowPk _ _ | exact pure_rowSn _ _ | exact pure_rowFd _ _ | exact pure_rowBBB _ | exact pure_rowCl _ _ | exact pure_rowTb _ _ _ | refine And.intro ?_ ?_)) (by simp -dsimp -implicitDefEqProofs only [go_sem, Nat.reduceBEq, Nat.reduceAdd, Nat.reduceLeDiff, Nat.reduceSub, Int.reduceEq, Bool.not_true, decide_true]) ?_
  rintro r rfl
  simp -dsimp -implicitDefEqProofs only [go_sem, Nat.reduceBEq, Nat.reduceAdd, Nat.reduceLeDiff, Nat.reduceSub, Int.reduceEq, Bool.not_true, decide_true]
  repeat (first | with_reducible refine ask.of (by omega) ?_ | trivial)
theorem Fd_at {xs : List Fd} {i : Nat} (h : i < xs.length) : (ra fdC xs)[i]? = some (fdC xs[i]) := ra_at h
theorem mem_fdW {xs : List Fd} {b : Fd} (h : b ∈ xs) : b.f.length ≤ szL fdW xs := by
  obtain ⟨i, hi, rfl⟩ := List.mem_iff_getElem.1 h
  have := szL_at_le fdW hi
  have : fdW xs[i] = xs[i].f.length := rfl
  omega
theorem c_szFieldS (xs : List Fd) (left : Nat) (hl : left ≤ 1048576) (hx : xs.length ≤ 140737488355328) (hb : ∀ b ∈ xs, b.f.length ≤ 140737488355328) : Meets Try.prog 35 [rowFd 74 xs, .v (.int .i64 left)] (fun r => r = .v (.int .i64 (szR left (xs.length + szL fdW xs)))) := by
  refine Meets.intro mixed (hint []) Try.func35 rfl (by decide) res_35 rty_35 (by kernel_rfl) ?_; 
  have e : IntKind.i64.wrap ((left : Int) - xs.length) = (left : Int) - xs.length := wrap_i64_of (by omega) (by omega)
  simp -dsimp -implicitDefEqProofs only [go_sem, Nat.reduceBEq, Nat.reduceAdd, Nat.reduceLeDiff, Nat.reduceSub, Int.reduceEq, e, rowFd]
  refine ifB'.of (fun h => ?_) (fun h => ?_)
  · simp -dsimp -implicitDefEqProofs only [go_sem, Nat.reduceBEq, Nat.reduceAdd, Nat.reduceLeDiff, Nat.reduceSub, Int.reduceEq]
    rw [szR_no (by omega)]
  simp -dsimp -implicitDefEqProofs only [go_sem, Nat.reduceBEq, Nat.reduceAdd, Nat.reduceLeDiff, Nat.reduceSub, Int.reduceEq, e]
  refine LoopE.cnt xs.length (fun i s => s.env 0 = .rd .ent 74 3 (ra fdC xs) ∧ s.env 5 = .v (.int .i64 i) ∧ xs.length + szL fdW (xs.take i) ≤ left ∧ s.env 1 = .v (.int .i64 ((left - (xs.length + szL fdW (xs.take i)) : Nat) : Int))) ⟨by simp -dsimp -implicitDefEqProofs only [go_sem, Nat.reduceBEq, Nat.reduceAdd, Nat.reduceLeDiff, Nat.reduceSub, Int.reduceEq, initE, rowFd], by simp -dsimp -implicitDefEqProofs only [go_sem, Nat.reduceBEq, Nat.reduceAdd, Nat.reduceLeDiff, Nat.reduceSub, Int.reduceEq] <;> simp, by simp [szL]; omega, by simp -dsimp -implicitDefEqProofs only [go_sem, Nat.reduceBEq, Nat.reduceAdd, Nat.reduceLeDiff, Nat.reduceSub, Int.reduceEq] <;> (simp [szL]; omega)⟩ ?_
  rintro i ⟨e, σ⟩ hi ⟨h0, h5, hle, h1⟩ K hK
  simp only at h0 h5 h1
  simp -dsimp -implicitDefEqProofs only [go_sem, Nat.reduceBEq, Nat.reduceAdd, Nat.reduceLeDiff, Nat.reduceSub, Int.reduceEq, h0, h5, h1]
  refine ifB'.of (fun hlt => ?_) (fun hlt => ?_)
  · have hlt : i < xs.length := by omega
    have hs := szL_take_succ fdW hlt
    have hw := szL_take_le fdW xs (i + 1)
    have hww : fdW xs[i] = xs[i].f.length := rfl
    simp -dsimp -implicitDefEqProofs only [go_sem, Nat.reduceBEq, Nat.reduceAdd, Nat.reduceLeDiff, Nat.reduceSub, Int.reduceEq, h0, h5, h1, Fd_at hlt, fdC]
    repeat with_reducible refine ask.of (by omega) ?_
    simp -dsimp -implicitDefEqProofs only [go_sem, Nat.reduceBEq, Nat.reduceAdd, Nat.reduceLeDiff, Nat.reduceSub, Int.reduceEq, h0, h5, h1, Fd_at hlt, fdC, bleF]
    refine CallE.of (c_szField xs[i] (left - (xs.length + szL fdW (xs.take i))) (hb _ (List.getElem_mem _)) (by omega)) (by rintro r rfl; (repeat' first | exact trivial | exact pure_rowB _ | exact pure_rowO _ | exact pure_rowI _ | exact pure_rowBB _ | exact pure_rowPk _ _ | exact pure_rowSn _ _ | exact pure_rowFd _ _ | exact pure_rowBBB _ | exact pure_rowCl _ _ | exact pure_rowTb _ _ _ | refine And.intro ?_ ?_)) (by simp -dsimp -implicitDefEqProofs only [go_sem, Nat.reduceBEq, Nat.reduceAdd, Nat.reduceLeDiff, Nat.reduceSub, Int.reduceEq, h0, h5, h1, fdC]) ?_
    rintro r rfl
    simp -dsimp -implicitDefEqProofs only [go_sem, Nat.reduceBEq, Nat.reduceAdd, Nat.reduceLeDiff, Nat.reduceSub, Int.reduceEq, h0, h5, h1, fdC]
    refine ifB'.of (fun hn => ?_) (fun hn => ?_)
    · have : ¬ xs[i].f.length ≤ left - (xs.length + szL fdW (xs.take i)) := fun h => by rw [szR_ok h] at hn; omega
      simp -dsimp -implicitDefEqProofs only [go_sem, Nat.reduceBEq, Nat.reduceAdd, Nat.reduceLeDiff, Nat.reduceSub, Int.reduceEq, h0, h5, h1]
      rw [szR_no (by omega)]
    · have h : xs[i].f.length ≤ left - (xs.length + szL fdW (xs.take i)) := Classical.byContradiction fun h => by rw [szR_no h] at hn; omega
      simp -dsimp -implicitDefEqProofs only [go_sem, Nat.reduceBEq, Nat.reduceAdd, Nat.reduceLeDiff, Nat.reduceSub, Int.reduceEq, h0, h5, h1]
      refine hK _ hlt ?_
      simp -dsimp -implicitDefEqProofs only [go_sem, Nat.reduceBEq, Nat.reduceAdd, Nat.reduceLeDiff, Nat.reduceSub, Int.reduceEq, h0, h5, h1, wrap_succ (show i < 4611686018427387904 by omega), szR_ok h, hs]
      exact ⟨by omega, by omega⟩
  · have : i = xs.length := by omega
    subst this
    simp -dsimp -implicitDefEqProofs only [go_sem, Nat.reduceBEq, Nat.reduceAdd, Nat.reduceLeDiff, Nat.reduceSub, Int.reduceEq, h0, h5, h1]
    rw [List.take_length] at hle ⊢
    rw [szR_ok (by omega)]
theorem Fd_set (xs : List Fd) (i : Nat) (x : Fd) : (ra fdC xs).set i (fdC x) = ra fdC (xs.set i x) := ra_set xs i x
theorem c_toFieldS (xs : List Fd) (hx : xs.length ≤ 1048576) (hb : ∀ b ∈ xs, b.f.length ≤ 1048576) : Meets Try.prog 37 [rowFd 74 xs] (fun r => r = rowFd 78 xs) := by
  refine Meets.intro mixed (hint []) Try.func37 rfl (by decide) res_37 rty_37 (by kernel_rfl) ?_; 
  simp -dsimp -implicitDefEqProofs only [go_sem, Nat.reduceBEq, Nat.reduceAdd, Nat.reduceLeDiff, Nat.reduceSub, Int.reduceEq, rowFd]
  refine ask.of (by omega) ?_
  refine LoopE.cnt xs.length (fun i s => s.env 0 = .rd .ent 74 3 (ra fdC xs) ∧ s.env 3 = .ref [7] ∧ s.env 4 = .v (.int .i64 i) ∧ s.σ [7] = some (.row 78 3 (ra fdC (xs.take i ++ List.replicate (xs.length - i) fd0)))) ⟨by simp -dsimp -implicitDefEqProofs only [go_sem, Nat.reduceBEq, Nat.reduceAdd, Nat.reduceLeDiff, Nat.reduceSub, Int.reduceEq, initE, rowFd], by simp -dsimp -implicitDefEqProofs only [go_sem, Nat.reduceBEq, Nat.reduceAdd, Nat.reduceLeDiff, Nat.reduceSub, Int.reduceEq], by simp -dsimp -implicitDefEqProofs only [go_sem, Nat.reduceBEq, Nat.reduceAdd, Nat.reduceLeDiff, Nat.reduceSub, Int.reduceEq] <;> simp, by simp -dsimp -implicitDefEqProofs only [go_sem, Nat.reduceBEq, Nat.reduceAdd, Nat.reduceLeDiff, Nat.reduceSub, Int.reduceEq] <;> simp [ra, fdC, fd0, bytesA]⟩ ?_
  rintro i ⟨e, σ⟩ hi ⟨h0, h3, h4, hs⟩ K hK
  simp only at h0 h3 h4 hs
  simp -dsimp -implicitDefEqProofs only [go_sem, Nat.reduceBEq, Nat.reduceAdd, Nat.reduceLeDiff, Nat.reduceSub, Int.reduceEq, h0, h3, h4, hs]
  refine ifB'.of (fun hlt => ?_) (fun hlt => ?_)
  · have hlt : i < xs.length := by omega
    have hl : (List.take i xs ++ List.replicate (xs.length - i) fd0).length = xs.length := by simp; omega
    simp -dsimp -implicitDefEqProofs only [go_sem, Nat.reduceBEq, Nat.reduceAdd, Nat.reduceLeDiff, Nat.reduceSub, Int.reduceEq, h0, h3, h4, hs, Fd_at hlt, fdC]
    repeat with_reducible refine ask.of (by omega) ?_
    simp -dsimp -implicitDefEqProofs only [go_sem, Nat.reduceBEq, Nat.reduceAdd, Nat.reduceLeDiff, Nat.reduceSub, Int.reduceEq, h0, h3, h4, hs, Fd_at hlt, fdC, bleF]
    refine CallE.of (c_toField xs[i] (hb _ (List.getElem_mem _))) (by rintro r rfl; (repeat' first | exact trivial | exact pure_rowB _ | exact pure_rowO _ | exact pure_rowI _ | exact pure_rowBB _ | exact pure_rowPk _ _ | exact pure_rowSn _ _ | exact pure_rowFd _ _ | exact pure_rowBBB _ | exact pure_rowCl _ _ | exact pure_rowTb _ _ _ | refine And.intro ?_ ?_)) (by simp -dsimp -implicitDefEqProofs only [go_sem, Nat.reduceBEq, Nat.reduceAdd, Nat.reduceLeDiff, Nat.reduceSub, Int.reduceEq, h0, h3, h4, hs, fdC]) ?_
    rintro r rfl
    simp -dsimp -implicitDefEqProofs only [go_sem, Nat.reduceBEq, Nat.reduceAdd, Nat.reduceLeDiff, Nat.reduceSub, Int.reduceEq, h0, h3, h4, hs, fdC]
    simp -dsimp -implicitDefEqProofs only [go_sem, Nat.reduceBEq, Nat.reduceAdd, Nat.reduceLeDiff, Nat.reduceSub, Int.reduceEq, h0, h3, h4, hs, hl]
    repeat with_reducible refine ask.of (by omega) ?_
    simp -dsimp -implicitDefEqProofs only [go_sem, Nat.reduceBEq, Nat.reduceAdd, Nat.reduceLeDiff, Nat.reduceSub, Int.reduceEq, h0, h3, h4, hs, Fd_at (show i < (List.take i xs ++ List.replicate (xs.length - i) fd0).length by omega), fdC, bleF]
    refine hK _ hlt ?_
    simp -dsimp -implicitDefEqProofs only [go_sem, Nat.reduceBEq, Nat.reduceAdd, Nat.reduceLeDiff, Nat.reduceSub, Int.reduceEq, h0, h3, h4, hs, wrap_succ (show i < 4611686018427387904 by omega)]
    exact congrArg (fun l => some (OB.row _ 3 l)) ((Fd_set _ i xs[i]).trans (congrArg (ra fdC) (fill_set xs fd0 hlt)))
  · have : i = xs.length := by omega
    subst this
    simp -dsimp -implicitDefEqProofs only [go_sem, Nat.reduceBEq, Nat.reduceAdd, Nat.reduceLeDiff, Nat.reduceSub, Int.reduceEq, h0, h3, h4, hs, rowFd]
    simp
theorem c_eqFieldS (xs : List Fd) (hx : xs.length ≤ 1048576) (hb : ∀ b ∈ xs, b.f.length ≤ 1048576) : Meets Try.prog 40 [rowFd 78 xs, rowFd 78 xs] (fun r => r = .v (.bool true)) := by
  refine Meets.intro mixed (hint []) Try.func40 rfl (by decide) res_40 rty_40 (by kernel_rfl) ?_; 
  simp -dsimp -implicitDefEqProofs only [go_sem, Nat.reduceBEq, Nat.reduceAdd, Nat.reduceLeDiff, Nat.reduceSub, Int.reduceEq, decide_true, Bool.not_true, rowFd]
  refine LoopE.cnt xs.length (fun i s => s.env 0 = .rd .ent 78 3 (ra fdC xs) ∧ s.env 1 = .rd .ent 78 3 (ra fdC xs) ∧ s.env 5 = .v (.int .i64 i)) ⟨by simp -dsimp -implicitDefEqProofs only [go_sem, Nat.reduceBEq, Nat.reduceAdd, Nat.reduceLeDiff, Nat.reduceSub, Int.reduceEq, initE, rowFd], by simp -dsimp -implicitDefEqProofs only [go_sem, Nat.reduceBEq, Nat.reduceAdd, Nat.reduceLeDiff, Nat.reduceSub, Int.reduceEq, initE, rowFd], by simp -dsimp -implicitDefEqProofs only [go_sem, Nat.reduceBEq, Nat.reduceAdd, Nat.reduceLeDiff, Nat.reduceSub, Int.reduceEq] <;> simp⟩ ?_
  rintro i ⟨e, σ⟩ hi ⟨h0, h1, h5⟩ K hK
  simp only at h0 h1 h5
  simp -dsimp -implicitDefEqProofs only [go_sem, Nat.reduceBEq, Nat.reduceAdd, Nat.reduceLeDiff, Nat.reduceSub, Int.reduceEq, h0, h1, h5]
  refine ifB'.of (fun hlt => ?_) (fun hlt => ?_)
  · have hlt : i < xs.length := by omega
    simp -dsimp -implicitDefEqProofs only [go_sem, Nat.reduceBEq, Nat.reduceAdd, Nat.reduceLeDiff, Nat.reduceSub, Int.reduceEq, h0, h1, h5, Fd_at hlt, fdC]
    repeat (first | with_reducible refine ask.of (by omega) ?_ | simp -dsimp -implicitDefEqProofs only [go_sem, Nat.reduceBEq, Nat.reduceAdd, Nat.reduceLeDiff, Nat.reduceSub, Int.reduceEq, h0, h1, h5, Fd_at hlt, fdC, bleF])
    refine CallE.of (c_eqField xs[i] (hb _ (List.getElem_mem _))) (by rintro r rfl; (repeat' first | exact trivial | exact pure_rowB _ | exact pure_rowO _ | exact pure_rowI _ | exact pure_rowBB _ | exact pure_rowPk _ _ | exact pure_rowSn _ _ | exact pure_rowFd _ _ | exact pure_rowBBB _ | exact pure_rowCl _ _ | exact pure_rowTb _ _ _ | refine And.intro ?_ ?_)) (by simp -dsimp -implicitDefEqProofs only [go_sem, Nat.reduceBEq, Nat.reduceAdd, Nat.reduceLeDiff, Nat.reduceSub, Int.reduceEq, h0, h1, h5, Bool.not_true, fdC]) ?_
    rintro r rfl
    simp -dsimp -implicitDefEqProofs only [go_sem, Nat.reduceBEq, Nat.reduceAdd, Nat.reduceLeDiff, Nat.reduceSub, Int.reduceEq, h0, h1, h5, Bool.not_true, fdC]
    refine hK _ hlt ?_
    simp -dsimp -implicitDefEqProofs only [go_sem, Nat.reduceBEq, Nat.reduceAdd, Nat.reduceLeDiff, Nat.reduceSub, Int.reduceEq, h0, h1, h5, wrap_succ (show i < 4611686018427387904 by omega)]
  · simp -dsimp -implicitDefEqProofs only [go_sem, Nat.reduceBEq, Nat.reduceAdd, Nat.reduceLeDiff, Nat.reduceSub, Int.reduceEq, h0, h1, h5]
theorem c_szCell (p : Cl) (left : Nat) (hb : p.f.length ≤ 140737488355328) (hl : left ≤ 1048576) : Meets Try.prog 93 [.agg (clC p), .v (.int .i64 left)] (fun r => r = .v (.int .i64 (szR left p.f.length))) := by
  refine Meets.intro mixed (hint []) Try.func93 rfl (by decide) res_93 rty_93 (by kernel_rfl) ?_; 
  simp -dsimp -implicitDefEqProofs only [go_sem, Nat.reduceBEq, Nat.reduceAdd, Nat.reduceLeDiff, Nat.reduceSub, Int.reduceEq, clC]
  repeat with_reducible refine ask.of (by omega) ?_
  refine CallE.of (c_szByteS p.f left hb hl) (by rintro r rfl; (repeat' first | exact trivial | exact pure_rowB _ | exact pure_rowO _ | exact pure_rowI _ | exact pure_rowBB _ | exact pure_rowPk _ _ | exact pure_rowSn _ _ | exact pure_rowFd _ _ | exact pure_rowBBB _ | exact pure_rowCl _ _ | exact pure_rowTb _ _ _ | refine And.intro ?_ ?_)) (by simp -dsimp -implicitDefEqProofs only [go_sem, Nat.reduceBEq, Nat.reduceAdd, Nat.reduceLeDiff, Nat.reduceSub, Int.reduceEq]) ?_
  rintro r rfl
  simp -dsimp -implicitDefEqProofs only [go_sem, Nat.reduceBEq, Nat.reduceAdd, Nat.reduceLeDiff, Nat.reduceSub, Int.reduceEq]
  refine ifB'.of (fun h => ?_) (fun h => ?_)
  · simp -dsimp -implicitDefEqProofs only [go_sem, Nat.reduceBEq, Nat.reduceAdd, Nat.reduceLeDiff, Nat.reduceSub, Int.reduceEq]
    by_cases h2 : p.f.length ≤ left
    · rw [szR_ok h2] at h; omega
    · rw [szR_no h2]
  · simp -dsimp -implicitDefEqProofs only [go_sem, Nat.reduceBEq, Nat.reduceAdd, Nat.reduceLeDiff, Nat.reduceSub, Int.reduceEq]
theorem c_toCell (p : Cl) (hb : p.f.length ≤ 1048576) : Meets Try.prog 100 [.agg (clC p)] (fun r => r = .agg (clC p)) := by
  refine Meets.intro mixed (hint []) Try.func100 rfl (by decide) res_100 rty_100 (by kernel_rfl) ?_; 
  simp -dsimp -implicitDefEqProofs only [go_sem, Nat.reduceBEq, Nat.reduceAdd, Nat.reduceLeDiff, Nat.reduceSub, Int.reduceEq, clC]
  repeat (first | with_reducible refine ask.of (by omega) ?_ | simp -dsimp -implicitDefEqProofs only [go_sem, Nat.reduceBEq, Nat.reduceAdd, Nat.reduceLeDiff, Nat.reduceSub, Int.reduceEq, bleF])
  refine CallE.of (c_toByteS p.f hb) (by rintro r rfl; (repeat' first | exact trivial | exact pure_rowB _ | exact pure_rowO _ | exact pure_rowI _ | exact pure_rowBB _ | exact pure_rowPk _ _ | exact pure_rowSn _ _ | exact pure_rowFd _ _ | exact pure_rowBBB _ | exact pure_rowCl _ _ | exact pure_rowTb _ _ _ | refine And.intro ?_ ?_)) (by simp -dsimp -implicitDefEqProofs only [go_sem, Nat.reduceBEq, Nat.reduceAdd, Nat.reduceLeDiff, Nat.reduceSub, Int.reduceEq]) ?_
  rintro r rfl
  simp -dsimp -implicitDefEqProofs only [go_sem, Nat.reduceBEq, Nat.reduceAdd, Nat.reduceLeDiff, Nat.reduceSub, Int.reduceEq]
  repeat (first | with_reducible refine ask.of (by omega) ?_ | simp -dsimp -implicitDefEqProofs only [go_sem, Nat.reduceBEq, Nat.reduceAdd, Nat.reduceLeDiff, Nat.reduceSub, Int.reduceEq, bleF])
theorem c_eqCell (p : Cl) (hb : p.f.length ≤ 1048576) : Meets Try.prog 109 [.agg (clC p), .agg (clC p)] (fun r => r = .v (.bool true)) := by
  refine Meets.intro mixed (hint []) Try.func109 rfl (by decide) res_109 rty_109 (by kernel_rfl) ?_; 
  simp -dsimp -implicitDefEqProofs only [go_sem, Nat.reduceBEq, Nat.reduceAdd, Nat.reduceLeDiff, Nat.reduceSub, Int.reduceEq, clC, decide_true]
  repeat (first | with_reducible refine ask.of (by omega) ?_ | simp -dsimp -implicitDefEqProofs only [go_sem, Nat.reduceBEq, Nat.reduceAdd, Nat.reduceLeDiff, Nat.reduceSub, Int.reduceEq, bleF, decide_true])
  refine CallE.of (c_eqByteS p.f (by omega)) (by rintro r rfl; (repeat' first | exact trivial | exact pure_rowB _ | exact pure_rowO _ | exact pure_rowI _ | exact pure_rowBB _ | exact pure_rowPk _ _ | exact pure_rowSn _ _ | exact pure_rowFd _ _ | exact pure_rowBBB _ | exact pure_rowCl _ _ | exact pure_rowTb _ _ _ | refine And.intro ?_ ?_)) (by simp -dsimp -implicitDefEqProofs only [go_sem, Nat.reduceBEq, Nat.reduceAdd, Nat.reduceLeDiff, Nat.reduceSub, Int.reduceEq, Bool.not_true, decide_true]) ?_
  rintro r rfl
  simp -dsimp -implicitDefEqProofs only [go_sem, Nat.reduceBEq, Nat.reduceAdd, Nat.reduceLeDiff, Nat.reduceSub, Int.reduceEq, Bool.not_true, decide_true]
  repeat (first | with_reducible refine ask.of (by omega) ?_ | trivial)
theorem Cl_at {xs : List Cl} {i : Nat} (h : i < xs.length) : (ra clC xs)[i]? = some (clC xs[i]) := ra_at h
theorem c_szCellS (xs : List Cl) (left : Nat) (hl : left ≤ 1048576) (hx : xs.length ≤ 140737488355328) (hb : ∀ b ∈ xs, b.f.length ≤ 140737488355328) : Meets Try.prog 23 [rowCl 145 xs, .v (.int .i64 left)] (fun r => r = .v (.int .i64 (szR left (xs.length + szL clW xs)))) := by
  refine Meets.intro mixed (hint []) Try.func23 rfl (by decide) res_23 rty_23 (by kernel_rfl) ?_; 
  have e : IntKind.i64.wrap ((left : Int) - xs.length) = (left : Int) - xs.length := wrap_i64_of (by omega) (by omega)
  simp -dsimp -implicitDefEqProofs only [go_sem, Nat.reduceBEq, Nat.reduceAdd, Nat.reduceLeDiff, Nat.reduceSub, Int.reduceEq, e, rowCl]
  refine ifB'.of (fun h => ?_) (fun h => ?_)
  · simp -dsimp -implicitDefEqProofs only [go_sem, Nat.reduceBEq, Nat.reduceAdd, Nat.reduceLeDiff, Nat.reduceSub, Int.reduceEq]
    rw [szR_no (by omega)]
  simp -dsimp -implicitDefEqProofs only [go_sem, Nat.reduceBEq, Nat.reduceAdd, Nat.reduceLeDiff, Nat.reduceSub, Int.reduceEq, e]
  refine LoopE.cnt xs.length (fun i s => s.env 0 = .rd .ent 145 3 (ra clC xs) ∧ s.env 5 = .v (.int .i64 i) ∧ xs.length + szL clW (xs.take i) ≤ left ∧ s.env 1 = .v (.int .i64 ((left - (xs.length + szL clW (xs.take i)) : Nat) : Int))) ⟨by simp -dsimp -implicitDefEqProofs only [go_sem, Nat.reduceBEq, Nat.reduceAdd, Nat.reduceLeDiff, Nat.reduceSub, Int.reduceEq, initE, rowCl], by simp -dsimp -implicitDefEqProofs only [go_sem, Nat.reduceBEq, Nat.reduceAdd, Nat.reduceLeDiff, Nat.reduceSub, Int.reduceEq] <;> simp, by simp [szL]; omega, by simp -dsimp -implicitDefEqProofs only [go_sem, Nat.reduceBEq, Nat.reduceAdd, Nat.reduceLeDiff, Nat.reduceSub, Int.reduceEq] <;> (simp [szL]; omega)⟩ ?_
  rintro i ⟨e, σ⟩ hi ⟨h0, h5, hle, h1⟩ K hK
  simp only at h0 h5 h1
  simp -dsimp -implicitDefEqProofs only [go_sem, Nat.reduceBEq, Nat.reduceAdd, Nat.reduceLeDiff, Nat.reduceSub, Int.reduceEq, h0, h5, h1]
  refine ifB'.of (fun hlt => ?_) (fun hlt => ?_)
  · have hlt : i < xs.length := by omega
    have hs := szL_take_succ clW hlt
    have hw := szL_take_le clW xs (i + 1)
    have hww : clW xs[i] = xs[i].f.length := rfl
    simp -dsimp -implicitDefEqProofs only [go_sem, Nat.reduceBEq, Nat.reduceAdd, Nat.reduceLeDiff, Nat.reduceSub, Int.reduceEq, h0, h5, h1, Cl_at hlt, clC]
    repeat with_reducible refine ask.of (by omega) ?_
    simp -dsimp -implicitDefEqProofs only [go_sem, Nat.reduceBEq, Nat.reduceAdd, Nat.reduceLeDiff, Nat.reduceSub, Int.reduceEq, h0, h5, h1, Cl_at hlt, clC, bleF]
    refine CallE.of (c_szCell xs[i] (left - (xs.length + szL clW (xs.take i))) (hb _ (List.getElem_mem _)) (by omega)) (by rintro r rfl; (repeat' first | exact trivial | exact pure_rowB _ | exact pure_rowO _ | exact pure_rowI _ | exact pure_rowBB _ | exact pure_rowPk _ _ | exact pure_rowSn _ _ | exact pure_rowFd _ _ | exact pure_rowBBB _ | exact pure_rowCl _ _ | exact pure_rowTb _ _ _ | refine And.intro ?_ ?_)) (by simp -dsimp -implicitDefEqProofs only [go_sem, Nat.reduceBEq, Nat.reduceAdd, Nat.reduceLeDiff, Nat.reduceSub, Int.reduceEq, h0, h5, h1, clC]) ?_
    rintro r rfl
    simp -dsimp -implicitDefEqProofs only [go_sem, Nat.reduceBEq, Nat.reduceAdd, Nat.reduceLeDiff, Nat.reduceSub, Int.reduceEq, h0, h5, h1, clC]
    refine ifB'.of (fun hn => ?_) (fun hn => ?_)
    · have : ¬ xs[i].f.length ≤ left - (xs.length + szL clW (xs.take i)) := fun h => by rw [szR_ok h] at hn; omega
      simp -dsimp -implicitDefEqProofs only [go_sem, Nat.reduceBEq, Nat.reduceAdd, Nat.reduceLeDiff, Nat.reduceSub, Int.reduceEq, h0, h5, h1]
      rw [szR_no (by omega)]
    · have h : xs[i].f.length ≤ left - (xs.length + szL clW (xs.take i)) := Classical.byContradiction fun h => by rw [szR_no h] at hn; omega
      simp -dsimp -implicitDefEqProofs only [go_sem, Nat.reduceBEq, Nat.reduceAdd, Nat.reduceLeDiff, Nat.reduceSub, Int.reduceEq, h0, h5, h1]
      refine hK _ hlt ?_
      simp -dsimp -implicitDefEqProofs only [go_sem, Nat.reduceBEq, Nat.reduceAdd, Nat.reduceLeDiff, Nat.reduceSub, Int.reduceEq, h0, h5, h1, wrap_succ (show i < 4611686018427387904 by omega), szR_ok h, hs]
      exact ⟨by omega, by omega⟩
  · have : i = xs.length := by omega
    subst this
    simp -dsimp -implicitDefEqProofs only [go_sem, Nat.reduceBEq, Nat.reduceAdd, Nat.reduceLeDiff, Nat.reduceSub, Int.reduceEq, h0, h5, h1]
    rw [List.take_length] at hle ⊢
    rw [szR_ok (by omega)]
theorem Cl_set (xs : List Cl) (i : Nat) (x : Cl) : (ra clC xs).set i (clC x) = ra clC (xs.set i x) := ra_set xs i x
theorem c_toCellS (xs : List Cl) (hx : xs.length ≤ 1048576) (hb : ∀ b ∈ xs, b.f.length ≤ 1048576) : Meets Try.prog 26 [rowCl 145 xs] (fun r => r = rowCl 151 xs) := by
  refine Meets.intro mixed (hint []) Try.func26 rfl (by decide) res_26 rty_26 (by kernel_rfl) ?_; 
  simp -dsimp -implicitDefEqProofs only [go_sem, Nat.reduceBEq, Nat.reduceAdd, Nat.reduceLeDiff, Nat.reduceSub, Int.reduceEq, rowCl]
  refine ask.of (by omega) ?_
  refine LoopE.cnt xs.length (fun i s => s.env 0 = .rd .ent 145 3 (ra clC xs) ∧ s.env 3 = .ref [7] ∧ s.env 4 = .v (.int .i64 i) ∧ s.σ [7] = some (.row 151 3 (ra clC (xs.take i ++ List.replicate (xs.length - i) cl0)))) ⟨by simp -dsimp -implicitDefEqProofs only [go_sem, Nat.reduceBEq, Nat.reduceAdd, Nat.reduceLeDiff, Nat.reduceSub, Int.reduceEq, initE, rowCl], by simp -dsimp -implicitDefEqProofs only [go_sem, Nat.reduceBEq, Nat.reduceAdd, Nat.reduceLeDiff, Nat.reduceSub, Int.reduceEq], by simp -dsimp -implicitDefEqProofs only [go_sem, Nat.reduceBEq, Nat.reduceAdd, Nat.reduceLeDiff, Nat.reduceSub, Int.reduceEq] <;> simp, by simp -dsimp -implicitDefEqProofs only [go_sem, Nat.reduceBEq, Nat.reduceAdd, Nat.reduceLeDiff, Nat.reduceSub, Int.reduceEq] <;> simp [ra, clC, cl0, bytesA]⟩ ?_
  rintro i ⟨e, σ⟩ hi ⟨h0, h3, h4, hs⟩ K hK
  simp only at h0 h3 h4 hs
  simp -dsimp -implicitDefEqProofs only [go_sem, Nat.reduceBEq, Nat.reduceAdd, Nat.reduceLeDiff, Nat.reduceSub, Int.reduceEq, h0, h3, h4, hs]
  refine ifB'.of (fun hlt => ?_) (fun hlt => ?_)
  · have hlt : i < xs.length := by omega
    have hl : (List.take i xs ++ List.replicate (xs.length - i) cl0).length = xs.length := by simp; omega
    simp -dsimp -implicitDefEqProofs only [go_sem, Nat.reduceBEq, Nat.reduceAdd, Nat.reduceLeDiff, Nat.reduceSub, Int.reduceEq, h0, h3, h4, hs, Cl_at hlt, clC]
    repeat with_reducible refine ask.of (by omega) ?_
    simp -dsimp -implicitDefEqProofs only [go_sem, Nat.reduceBEq, Nat.reduceAdd, Nat.reduceLeDiff, Nat.reduceSub, Int.reduceEq, h0, h3, h4, hs, Cl_at hlt, clC, bleF]
    refine CallE.of (c_toCell xs[i] (hb _ (List.getElem_mem _))) (by rintro r rfl; (repeat' first | exact trivial | exact pure_rowB _ | exact pure_rowO _ | exact pure_rowI _ | exact pure_rowBB _ | exact pure_rowPk _ _ | exact pure_rowSn _ _ | exact pure_rowFd _ _ | exact pure_rowBBB _ | exact pure_rowCl _ _ | exact pure_rowTb _ _ _ | refine And.intro ?_ ?_)) (by simp -dsimp -implicitDefEqProofs only [go_sem, Nat.reduceBEq, Nat.reduceAdd, Nat.reduceLeDiff, Nat.reduceSub, Int.reduceEq, h0, h3, h4, hs, clC]) ?_
    rintro r rfl
    simp -dsimp -implicitDefEqProofs only [go_sem, Nat.reduceBEq, Nat.reduceAdd, Nat.reduceLeDiff, Nat.reduceSub, Int.reduceEq, h0, h3, h4, hs, clC]
    simp -dsimp -implicitDefEqProofs only [go_sem, Nat.reduceBEq, Nat.reduceAdd, Nat.reduceLeDiff, Nat.reduceSub, Int.reduceEq, h0, h3, h4, hs, hl]
    repeat with_reducible refine ask.of (by omega) ?_
    simp -dsimp -implicitDefEqProofs only [go_sem, Nat.reduceBEq, Nat.reduceAdd, Nat.reduceLeDiff, Nat.reduceSub, Int.reduceEq, h0, h3, h4, hs, Cl_at (show i < (List.take i xs ++ List.replicate (xs.length - i) cl0).length by omega), clC, bleF]
    refine hK _ hlt ?_
    simp -dsimp -implicitDefEqProofs only [go_sem, Nat.reduceBEq, Nat.reduceAdd, Nat.reduceLeDiff, Nat.reduceSub, Int.reduceEq, h0, h3, h4, hs, wrap_succ (show i < 4611686018427387904 by omega)]
    exact congrArg (fun l => some (OB.row _ 3 l)) ((Cl_set _ i xs[i]).trans (congrArg (ra clC) (fill_set xs cl0 hlt)))
  · have : i = xs.length := by omega
    subst this
    simp -dsimp -implicitDefEqProofs only [go_sem, Nat.reduceBEq, Nat.reduceAdd, Nat.reduceLeDiff, Nat.reduceSub, Int.reduceEq, h0, h3, h4, hs, rowCl]
    simp
theorem c_eqCellS (xs : List Cl) (hx : xs.length ≤ 1048576) (hb : ∀ b ∈ xs, b.f.length ≤ 1048576) : Meets Try.prog 30 [rowCl 151 xs, rowCl 151 xs] (fun r => r = .v (.bool true)) := by
  refine Meets.intro mixed (hint []) Try.func30 rfl (by decide) res_30 rty_30 (by kernel_rfl) ?_; 
  simp -dsimp -implicitDefEqProofs only [go_sem, Nat.reduceBEq, Nat.reduceAdd, Nat.reduceLeDiff, Nat.reduceSub, Int.reduceEq, decide_true, Bool.not_true, rowCl]
  refine LoopE.cnt xs.length (fun i s => s.env 0 = .rd .ent 151 3 (ra clC xs) ∧ s.env 1 = .rd .ent 151 3 (ra clC xs) ∧ s.env 5 = .v (.int .i64 i)) ⟨by simp -dsimp -implicitDefEqProofs only [go_sem, Nat.reduceBEq, Nat.reduceAdd, Nat.reduceLeDiff, Nat.reduceSub, Int.reduceEq, initE, rowCl], by simp -dsimp -implicitDefEqProofs only [go_sem, Nat.reduceBEq, Nat.reduceAdd, Nat.reduceLeDiff, Nat.reduceSub, Int.reduceEq, initE, rowCl], by simp -dsimp -implicitDefEqProofs only [go_sem, Nat.reduceBEq, Nat.reduceAdd, Nat.reduceLeDiff, Nat.reduceSub, Int.reduceEq] <;> simp⟩ ?_
  rintro i ⟨e, σ⟩ hi ⟨h0, h1, h5⟩ K hK
  simp only at h0 h1 h5
  simp -dsimp -implicitDefEqProofs only [go_sem, Nat.reduceBEq, Nat.reduceAdd, Nat.reduceLeDiff, Nat.reduceSub, Int.reduceEq, h0, h1, h5]
  refine ifB'.of (fun hlt => ?_) (fun hlt => ?_)
  · have hlt : i < xs.length := by omega
    simp -dsimp -implicitDefEqProofs only [go_sem, Nat.reduceBEq, Nat.reduceAdd, Nat.reduceLeDiff, Nat.reduceSub, Int.reduceEq, h0, h1, h5, Cl_at hlt, clC]
    repeat (first | with_reducible refine ask.of (by omega) ?_ | simp -dsimp -implicitDefEqProofs only [go_sem, Nat.reduceBEq, Nat.reduceAdd, Nat.reduceLeDiff, Nat.reduceSub, Int.reduceEq, h0, h1, h5, Cl_at hlt, clC, bleF])
    refine CallE.of (c_eqCell xs[i] (hb _ (List.getElem_mem _))) (by rintro r rfl; (repeat' first | exact trivial | exact pure_rowB _ | exact pure_rowO _ | exact pure_rowI _ | exact pure_rowBB _ | exact pure_rowPk _ _ | exact pure_rowSn _ _ | exact pure_rowFd _ _ | exact pure_rowBBB _ | exact pure_rowCl _ _ | exact pure_rowTb _ _ _ | refine And.intro ?_ ?_)) (by simp -dsimp -implicitDefEqProofs only [go_sem, Nat.reduceBEq, Nat.reduceAdd, Nat.reduceLeDiff, Nat.reduceSub, Int.reduceEq, h0, h1, h5, Bool.not_true, clC]) ?_
    rintro r rfl
    simp -dsimp -implicitDefEqProofs only [go_sem, Nat.reduceBEq, Nat.reduceAdd, Nat.reduceLeDiff, Nat.reduceSub, Int.reduceEq, h0, h1, h5, Bool.not_true, clC]
    refine hK _ hlt ?_
    simp -dsimp -implicitDefEqProofs only [go_sem, Nat.reduceBEq, Nat.reduceAdd, Nat.reduceLeDiff, Nat.reduceSub, Int.reduceEq, h0, h1, h5, wrap_succ (show i < 4611686018427387904 by omega)]
  · simp -dsimp -implicitDefEqProofs only [go_sem, Nat.reduceBEq, Nat.reduceAdd, Nat.reduceLeDiff, Nat.reduceSub, Int.reduceEq, h0, h1, h5]
end Go.Ev
set_option linter.unusedSimpArgs false
set_option linter.unusedVariables false
namespace Go.Ev
open Go Go.RowKit Go.Proofs
def mpS (l : List (List UInt8 × Value)) : List (Value × Value) := l.map fun p => (.string ⟨p.1.toArray⟩, p.2)
theorem kEq_str (a b : List UInt8) : kEq (.string ⟨a.toArray⟩) (.string ⟨b.toArray⟩) = decide (a = b) := by
  show ((⟨a.toArray⟩ : ByteArray) == ⟨b.toArray⟩) = _
  by_cases h : a = b
  · rw [decide_eq_true h, h]; exact (MapKept.bytes_beq _ _).2 rfl
  · rw [decide_eq_false h]
    cases h2 : ((⟨a.toArray⟩ : ByteArray) == ⟨b.toArray⟩) with
    | false => rfl
    | true => exact absurd (by simpa using (MapKept.bytes_beq _ _).1 h2) h
theorem mgetS_some (t : List UInt8) : ∀ l : List (List UInt8 × Value), (mget (mpS l) (.string ⟨t.toArray⟩)).isSome = decide (t ∈ l.map (·.1))
  | [] => rfl
  | p :: l => by
    show (sel (kEq (.string ⟨p.1.toArray⟩) (.string ⟨t.toArray⟩)) (some p.2) (mget (mpS l) _)).isSome = _
    rw [kEq_str]
    by_cases h : p.1 = t
    · rw [decide_eq_true h]; simp [sel, h]
    · rw [decide_eq_false h]
      show (mget (mpS l) _).isSome = _
      rw [mgetS_some t l]
      simp [Ne.symm h]
theorem mputS_new (t : List UInt8) (v : Value) : ∀ l : List (List UInt8 × Value), t ∉ l.map (·.1) → mput (mpS l) (.string ⟨t.toArray⟩) v = mpS (l ++ [(t, v)])
  | [], _ => rfl
  | p :: l, h => by
    show sel (kEq (.string ⟨p.1.toArray⟩) (.string ⟨t.toArray⟩)) _ ((.string ⟨p.1.toArray⟩, p.2) :: mput (mpS l) _ v) = _
    have h1 : p.1 ≠ t := fun e => h (by simp [e])
    rw [kEq_str, decide_eq_false h1, mputS_new t v l (fun h2 => h (by simp at h2 ⊢; exact .inr h2))]
    rfl
def ixP (xs : List (List UInt8)) : List (List UInt8 × Value) := xs.zipIdx.map fun p => (p.1, .int .i64 p.2)
theorem ixP_keys (xs : List (List UInt8)) : (ixP xs).map (·.1) = xs := by
  rw [ixP, List.map_map]
  exact List.zipIdx_map_fst 0 xs
theorem ixP_snoc (xs : List (List UInt8)) (t : List UInt8) : ixP xs ++ [(t, .int .i64 (xs.length : Int))] = ixP (xs ++ [t]) := by
  simp [ixP, List.zipIdx_append]
theorem ixP_has (xs : List (List UInt8)) (t : List UInt8) : (mget (mpS (ixP xs)) (.string ⟨t.toArray⟩)).isSome = decide (t ∈ xs) := by rw [mgetS_some, ixP_keys]
theorem ixP_put {xs : List (List UInt8)} {t : List UInt8} (h : t ∉ xs) : mput (mpS (ixP xs)) (.string ⟨t.toArray⟩) (.int .i64 (xs.length : Int)) = mpS (ixP (xs ++ [t])) := by
  rw [mputS_new _ _ _ (by rw [ixP_keys]; exact h), ixP_snoc]
theorem c_l1same (a b : List UInt8) (ha : a.length ≤ 140737488355328) (hb : b.length ≤ 140737488355328) : Meets Try.prog 174 [rowB a, rowB b] (fun r => r = .v (.bool (decide (a = b)))) := by
  refine Meets.intro mixed (hint []) Try.func174 rfl (by decide) res_174 rty_174 (by kernel_rfl) ?_; 
  simp -dsimp -implicitDefEqProofs only [go_sem, Nat.reduceBEq, Nat.reduceAdd, Nat.reduceLeDiff, Nat.reduceSub, Int.reduceEq, initE]
  exact decide_eq_decide.2 ⟨fun h => by simpa using h, fun h => by rw [h]⟩
def okD (xs : List (List UInt8)) : Prop := xs.length ≤ 40 ∧ wBB xs ≤ 4000 ∧ xs.Nodup
instance (xs : List (List UInt8)) : Decidable (okD xs) := by unfold okD; infer_instance
theorem nodup_take {α : Type} {xs : List α} (h : xs.Nodup) (i : Nat) : (xs.take i).Nodup := List.Nodup.sublist (List.take_sublist _ _) h
theorem nodup_take_succ {α : Type} {xs : List α} {i : Nat} (h : i < xs.length) : (xs.take (i + 1)).Nodup ↔ (xs.take i).Nodup ∧ xs[i] ∉ xs.take i := by
  rw [List.take_succ_eq_append_getElem h, List.nodup_append]
  simp
  intro _
  constructor
  · intro h1 h2; exact h1 _ h2 rfl
  · intro h1 a h2 h3; exact h1 (h3 ▸ h2)
end Go.Ev
set_option linter.unusedSimpArgs false
set_option linter.unusedVariables false
namespace Go.Ev
open Go Go.RowKit Go.Proofs
def h8 (x0 x1 x2 x3 x4 x5 x6 x7 : Bool) : Nat := (((((((0 * 2 + x7.toNat) * 2 + x6.toNat) * 2 + x5.toNat) * 2 + x4.toNat) * 2 + x3.toNat) * 2 + x2.toNat) * 2 + x1.toNat) * 2 + x0.toNat
end Go.Ev
set_option linter.unusedSimpArgs false
set_option linter.unusedVariables false
namespace Go.Ev
open Go Go.RowKit Go.Proofs
theorem wrap_u64 {n : Nat} (h : n < 18446744073709551616) : IntKind.u64.wrap (n : Int) = (n : Int) := by
  simp [IntKind.wrap, IntKind.bits, IntKind.signed]; omega
end Go.Ev
set_option linter.unusedSimpArgs false
set_option linter.unusedVariables false
namespace Go.Ev
open Go Go.RowKit Go.Proofs
def isW (n : Int) : Bool := decide (n = 1 ∨ n = 2 ∨ n = 4 ∨ n = 8)
theorem c_l1width (n : Int) : Meets Try.prog 184 [.v (.int .i64 n)] (fun r => r = .v (.bool (isW n))) := by
  refine Meets.intro mixed (hint []) Try.func184 rfl (by decide) res_184 rty_184 (by kernel_rfl) ?_; 
  by_cases h1 : n = 1
  · simp -dsimp -implicitDefEqProofs only [go_sem, Nat.reduceBEq, Nat.reduceAdd, Nat.reduceLeDiff, Nat.reduceSub, Int.reduceEq, initE, h1, decide_true, decide_false, show isW 1 = true from rfl]
  by_cases h2 : n = 2
  · simp -dsimp -implicitDefEqProofs only [go_sem, Nat.reduceBEq, Nat.reduceAdd, Nat.reduceLeDiff, Nat.reduceSub, Int.reduceEq, initE, h1, h2, decide_true, decide_false, show isW 2 = true from rfl, show ¬ (2 : Int) = 1 by decide]
  by_cases h4 : n = 4
  · simp -dsimp -implicitDefEqProofs only [go_sem, Nat.reduceBEq, Nat.reduceAdd, Nat.reduceLeDiff, Nat.reduceSub, Int.reduceEq, initE, h1, h2, h4, decide_true, decide_false, show isW 4 = true from rfl, show ¬ (4 : Int) = 1 by decide, show ¬ (4 : Int) = 2 by decide]
  by_cases h8 : n = 8
  · simp -dsimp -implicitDefEqProofs only [go_sem, Nat.reduceBEq, Nat.reduceAdd, Nat.reduceLeDiff, Nat.reduceSub, Int.reduceEq, initE, h1, h2, h4, h8, decide_true, decide_false, show isW 8 = true from rfl, show ¬ (8 : Int) = 1 by decide, show ¬ (8 : Int) = 2 by decide, show ¬ (8 : Int) = 4 by decide]
  have e : isW n = false := by simp [isW, h1, h2, h4, h8]
  simp -dsimp -implicitDefEqProofs only [go_sem, Nat.reduceBEq, Nat.reduceAdd, Nat.reduceLeDiff, Nat.reduceSub, Int.reduceEq, initE, h1, h2, h4, h8, e, decide_true, decide_false]
def chunk (b : List UInt8) (w i : Nat) : List UInt8 := (b.drop (w * i)).take w
end Go.Ev
set_option linter.unusedSimpArgs false
set_option linter.unusedVariables false
namespace Go.Ev
open Go Go.RowKit Go.Proofs
def chOk (c : UInt8) : Prop := (97 ≤ c.toNat ∧ c.toNat ≤ 122) ∨ (65 ≤ c.toNat ∧ c.toNat ≤ 90) ∨ (48 ≤ c.toNat ∧ c.toNat ≤ 57) ∨ c.toNat = 95
instance (c : UInt8) : Decidable (chOk c) := by unfold chOk; infer_instance
def nmOk (b : List UInt8) : Prop := 1 ≤ b.length ∧ b.length ≤ 20 ∧ ∀ c ∈ b, chOk c
instance (b : List UInt8) : Decidable (nmOk b) := by unfold nmOk; infer_instance
theorem nm_len {b : List UInt8} (h : ¬ (1 ≤ b.length ∧ b.length ≤ 20)) : false = decide (nmOk b) := (decide_eq_false (fun h' => h ⟨h'.1, h'.2.1⟩)).symm
theorem nm_ch {b : List UInt8} {i : Nat} (hi : i < b.length) (h : ¬ chOk b[i]) : false = decide (nmOk b) := (decide_eq_false (fun h' => h (h'.2.2 _ (List.getElem_mem _)))).symm
theorem all_take_succ {α : Type} {q : α → Prop} {xs : List α} {i : Nat} (h : i < xs.length) (ha : ∀ c ∈ xs.take i, q c) (hc : q xs[i]) : ∀ c ∈ xs.take (i + 1), q c := by
  rw [List.take_succ_eq_append_getElem h]
  intro c hm
  rcases List.mem_append.1 hm with hm | hm
  · exact ha c hm
  · rw [List.mem_singleton.1 hm]; exact hc
set_option maxRecDepth 4000 in
theorem c_l2nameOK (b : List UInt8) (hb : b.length ≤ 140737488355328) : Meets Try.prog 203 [rowB b] (fun r => r = .v (.bool (decide (nmOk b)))) := by
  refine Meets.intro mixed (hint []) Try.func203 rfl (by decide) res_203 rty_203 (by kernel_rfl) ?_; 
  simp -dsimp -implicitDefEqProofs only [go_sem, Nat.reduceBEq, Nat.reduceAdd, Nat.reduceLeDiff, Nat.reduceSub, Int.reduceEq]
  refine ifB'.of (fun h => ?_) (fun h => ?_)
  · simp -dsimp -implicitDefEqProofs only [go_sem, Nat.reduceBEq, Nat.reduceAdd, Nat.reduceLeDiff, Nat.reduceSub, Int.reduceEq]
    exact nm_len (by omega)
  simp -dsimp -implicitDefEqProofs only [go_sem, Nat.reduceBEq, Nat.reduceAdd, Nat.reduceLeDiff, Nat.reduceSub, Int.reduceEq]
  refine ifB'.of (fun h2 => ?_) (fun h2 => ?_)
  · simp -dsimp -implicitDefEqProofs only [go_sem, Nat.reduceBEq, Nat.reduceAdd, Nat.reduceLeDiff, Nat.reduceSub, Int.reduceEq]
    exact nm_len (by omega)
  simp -dsimp -implicitDefEqProofs only [go_sem, Nat.reduceBEq, Nat.reduceAdd, Nat.reduceLeDiff, Nat.reduceSub, Int.reduceEq]
  refine LoopE.cnt b.length (fun i s => s.env 0 = .rd .ent 5 1 (bytesA b) ∧ s.env 3 = .v (.int .i64 i) ∧ ∀ c ∈ b.take i, chOk c) ⟨by simp -dsimp -implicitDefEqProofs only [go_sem, Nat.reduceBEq, Nat.reduceAdd, Nat.reduceLeDiff, Nat.reduceSub, Int.reduceEq, initE], by simp -dsimp -implicitDefEqProofs only [go_sem, Nat.reduceBEq, Nat.reduceAdd, Nat.reduceLeDiff, Nat.reduceSub, Int.reduceEq], by simp⟩ ?_
  rintro i ⟨e, σ⟩ hi ⟨h0, h3, ha⟩ K hK
  simp only at h0 h3
  simp -dsimp -implicitDefEqProofs only [go_sem, Nat.reduceBEq, Nat.reduceAdd, Nat.reduceLeDiff, Nat.reduceSub, Int.reduceEq, h0, h3]
  refine ifB'.of (fun hlt => ?_) (fun hlt => ?_)
  · have hlt : i < b.length := by omega
    simp -dsimp -implicitDefEqProofs only [go_sem, Nat.reduceBEq, Nat.reduceAdd, Nat.reduceLeDiff, Nat.reduceSub, Int.reduceEq, h0, h3, bytesA_at hlt]
    repeat' (first | with_reducible refine ifB'.of (fun h => ?_) (fun h => ?_) | with_reducible refine ask.of (by omega) ?_ | ((with_reducible refine nm_ch hlt ?_); unfold chOk; omega) | simp -dsimp -implicitDefEqProofs only [go_sem, Nat.reduceBEq, Nat.reduceAdd, Nat.reduceLeDiff, Nat.reduceSub, Int.reduceEq, h0, h3, Bool.not_true, Bool.not_false])
    all_goals (refine hK _ hlt ?_; simp -dsimp -implicitDefEqProofs only [go_sem, Nat.reduceBEq, Nat.reduceAdd, Nat.reduceLeDiff, Nat.reduceSub, Int.reduceEq, h0, h3, wrap_succ (show i < 4611686018427387904 by omega)]; exact all_take_succ hlt ha (by unfold chOk; omega))
  · have : i = b.length := by omega
    subst this
    simp -dsimp -implicitDefEqProofs only [go_sem, Nat.reduceBEq, Nat.reduceAdd, Nat.reduceLeDiff, Nat.reduceSub, Int.reduceEq, h0, h3]
    rw [List.take_length] at ha
    exact (decide_eq_true (show nmOk b from ⟨by omega, by omega, ha⟩)).symm
set_option maxRecDepth 4000 in
theorem c_nameOk (b : List UInt8) (hb : b.length ≤ 140737488355328) : Meets Try.prog 186 [rowB b] (fun r => r = .v (.bool (decide (nmOk b)))) := by
  refine Meets.intro mixed (hint []) Try.func186 rfl (by decide) res_186 rty_186 (by kernel_rfl) ?_; 
  simp -dsimp -implicitDefEqProofs only [go_sem, Nat.reduceBEq, Nat.reduceAdd, Nat.reduceLeDiff, Nat.reduceSub, Int.reduceEq]
  refine ifB'.of (fun h => ?_) (fun h => ?_)
  · simp -dsimp -implicitDefEqProofs only [go_sem, Nat.reduceBEq, Nat.reduceAdd, Nat.reduceLeDiff, Nat.reduceSub, Int.reduceEq]
    exact nm_len (by omega)
  simp -dsimp -implicitDefEqProofs only [go_sem, Nat.reduceBEq, Nat.reduceAdd, Nat.reduceLeDiff, Nat.reduceSub, Int.reduceEq]
  refine ifB'.of (fun h2 => ?_) (fun h2 => ?_)
  · simp -dsimp -implicitDefEqProofs only [go_sem, Nat.reduceBEq, Nat.reduceAdd, Nat.reduceLeDiff, Nat.reduceSub, Int.reduceEq]
    exact nm_len (by omega)
  simp -dsimp -implicitDefEqProofs only [go_sem, Nat.reduceBEq, Nat.reduceAdd, Nat.reduceLeDiff, Nat.reduceSub, Int.reduceEq]
  refine LoopE.cnt b.length (fun i s => s.env 13 = .rd .ent 5 1 (bytesA b) ∧ s.env 14 = .v (.int .i64 b.length) ∧ s.env 15 = .v (.int .i64 i) ∧ ∀ c ∈ b.take i, chOk c) ⟨by simp -dsimp -implicitDefEqProofs only [go_sem, Nat.reduceBEq, Nat.reduceAdd, Nat.reduceLeDiff, Nat.reduceSub, Int.reduceEq, initE], by simp -dsimp -implicitDefEqProofs only [go_sem, Nat.reduceBEq, Nat.reduceAdd, Nat.reduceLeDiff, Nat.reduceSub, Int.reduceEq, initE], by simp -dsimp -implicitDefEqProofs only [go_sem, Nat.reduceBEq, Nat.reduceAdd, Nat.reduceLeDiff, Nat.reduceSub, Int.reduceEq], by simp⟩ ?_
  rintro i ⟨e, σ⟩ hi ⟨h13, h14, h15, ha⟩ K hK
  simp only at h13 h14 h15
  simp -dsimp -implicitDefEqProofs only [go_sem, Nat.reduceBEq, Nat.reduceAdd, Nat.reduceLeDiff, Nat.reduceSub, Int.reduceEq, h13, h14, h15]
  refine ifB'.of (fun hlt => ?_) (fun hlt => ?_)
  · have hlt : i < b.length := by omega
    simp -dsimp -implicitDefEqProofs only [go_sem, Nat.reduceBEq, Nat.reduceAdd, Nat.reduceLeDiff, Nat.reduceSub, Int.reduceEq, h13, h14, h15, bytesA_at hlt]
    repeat' (first | with_reducible refine ifB'.of (fun h => ?_) (fun h => ?_) | with_reducible refine ask.of (by omega) ?_ | ((with_reducible refine nm_ch hlt ?_); unfold chOk; omega) | simp -dsimp -implicitDefEqProofs only [go_sem, Nat.reduceBEq, Nat.reduceAdd, Nat.reduceLeDiff, Nat.reduceSub, Int.reduceEq, h13, h14, h15, Bool.not_true, Bool.not_false])
    all_goals (refine hK _ hlt ?_; simp -dsimp -implicitDefEqProofs only [go_sem, Nat.reduceBEq, Nat.reduceAdd, Nat.reduceLeDiff, Nat.reduceSub, Int.reduceEq, h13, h14, h15, wrap_succ (show i < 4611686018427387904 by omega)]; exact all_take_succ hlt ha (by unfold chOk; omega))
  · have : i = b.length := by omega
    subst this
    simp -dsimp -implicitDefEqProofs only [go_sem, Nat.reduceBEq, Nat.reduceAdd, Nat.reduceLeDiff, Nat.reduceSub, Int.reduceEq, h13, h14, h15]
    rw [List.take_length] at ha
    exact (decide_eq_true (show nmOk b from ⟨by omega, by omega, ha⟩)).symm
def fdOk (x : Fd) : Prop := nmOk x.f ∧ ((x.k = 1 ∧ (x.w = 1 ∨ x.w = 2 ∨ x.w = 4 ∨ x.w = 8)) ∨ ((x.k = 0 ∨ x.k = 2 ∨ x.k = 3) ∧ x.w = 0))
instance (x : Fd) : Decidable (fdOk x) := by unfold fdOk; infer_instance
theorem fd_f {x : Fd} (h : ¬ fdOk x) : false = decide (fdOk x) := by rw [decide_eq_false h]
theorem fd_t {x : Fd} (h : fdOk x) : true = decide (fdOk x) := by rw [decide_eq_true h]
theorem fd_d {x : Fd} {q : Prop} [Decidable q] (h : q ↔ fdOk x) : decide q = decide (fdOk x) := by rw [decide_eq_decide.2 h]
theorem isW_iff (n : Int) : isW n = decide (n = 1 ∨ n = 2 ∨ n = 4 ∨ n = 8) := by
  unfold isW
  simp only [Bool.decide_or, Bool.or_assoc]
theorem c_l2fieldOK (x : Fd) (hb : x.f.length ≤ 1048576) : Meets Try.prog 172 [.agg (fdC x)] (fun r => r = .v (.bool (decide (fdOk x)))) := by
  refine Meets.intro mixed (hint []) Try.func172 rfl (by decide) res_172 rty_172 (by kernel_rfl) ?_; 
  simp -dsimp -implicitDefEqProofs only [go_sem, Nat.reduceBEq, Nat.reduceAdd, Nat.reduceLeDiff, Nat.reduceSub, Int.reduceEq, fdC]
  repeat (first | with_reducible refine ask.of (by omega) ?_ | simp -dsimp -implicitDefEqProofs only [go_sem, Nat.reduceBEq, Nat.reduceAdd, Nat.reduceLeDiff, Nat.reduceSub, Int.reduceEq, bleF])
  refine CallE.of (c_l2nameOK x.f (by omega)) (by rintro r rfl; (repeat' first | exact trivial | exact pure_rowB _ | exact pure_rowO _ | exact pure_rowI _ | exact pure_rowBB _ | exact pure_rowPk _ _ | exact pure_rowSn _ _ | exact pure_rowFd _ _ | exact pure_rowBBB _ | exact pure_rowCl _ _ | exact pure_rowTb _ _ _ | refine And.intro ?_ ?_)) (by simp -dsimp -implicitDefEqProofs only [go_sem, Nat.reduceBEq, Nat.reduceAdd, Nat.reduceLeDiff, Nat.reduceSub, Int.reduceEq]) ?_
  rintro r rfl
  simp -dsimp -implicitDefEqProofs only [go_sem, Nat.reduceBEq, Nat.reduceAdd, Nat.reduceLeDiff, Nat.reduceSub, Int.reduceEq]
  by_cases hn : nmOk x.f
  · simp -dsimp -implicitDefEqProofs only [go_sem, Nat.reduceBEq, Nat.reduceAdd, Nat.reduceLeDiff, Nat.reduceSub, Int.reduceEq, decide_eq_true hn]
    repeat' (first | with_reducible refine ifB'.of (fun h => ?_) (fun h => ?_) | with_reducible refine ask.of (by omega) ?_ | ((with_reducible refine fd_f ?_); unfold fdOk; simp only [hn, true_and]; omega) | ((with_reducible refine fd_t ?_); unfold fdOk; simp only [hn, true_and]; omega) | ((with_reducible refine fd_d ?_); unfold fdOk; simp only [hn, true_and]; omega) | simp -dsimp -implicitDefEqProofs only [go_sem, Nat.reduceBEq, Nat.reduceAdd, Nat.reduceLeDiff, Nat.reduceSub, Int.reduceEq, decide_true])
    all_goals
      refine CallE.of (c_l1width x.w) (by rintro r rfl; (repeat' first | exact trivial | exact pure_rowB _ | exact pure_rowO _ | exact pure_rowI _ | exact pure_rowBB _ | exact pure_rowPk _ _ | exact pure_rowSn _ _ | exact pure_rowFd _ _ | exact pure_rowBBB _ | exact pure_rowCl _ _ | exact pure_rowTb _ _ _ | refine And.intro ?_ ?_)) (by simp -dsimp -implicitDefEqProofs only [go_sem, Nat.reduceBEq, Nat.reduceAdd, Nat.reduceLeDiff, Nat.reduceSub, Int.reduceEq, isW_iff]) ?_
      rintro r rfl
      simp -dsimp -implicitDefEqProofs only [go_sem, Nat.reduceBEq, Nat.reduceAdd, Nat.reduceLeDiff, Nat.reduceSub, Int.reduceEq, isW_iff]
      refine fd_d ?_
      unfold fdOk
      simp only [hn, true_and]
      omega
  · simp -dsimp -implicitDefEqProofs only [go_sem, Nat.reduceBEq, Nat.reduceAdd, Nat.reduceLeDiff, Nat.reduceSub, Int.reduceEq, decide_eq_false hn]
    repeat' (first | with_reducible refine ask.of (by omega) ?_ | ((with_reducible refine fd_f ?_); exact fun h => hn h.1) | simp -dsimp -implicitDefEqProofs only [go_sem, Nat.reduceBEq, Nat.reduceAdd, Nat.reduceLeDiff, Nat.reduceSub, Int.reduceEq, decide_true])
theorem c_fieldOk (x : Fd) (hb : x.f.length ≤ 1048576) : Meets Try.prog 128 [.agg (fdC x)] (fun r => r = .v (.bool (decide (fdOk x)))) := by
  refine Meets.intro mixed (hint []) Try.func128 rfl (by decide) res_128 rty_128 (by kernel_rfl) ?_; 
  simp -dsimp -implicitDefEqProofs only [go_sem, Nat.reduceBEq, Nat.reduceAdd, Nat.reduceLeDiff, Nat.reduceSub, Int.reduceEq, fdC]
  repeat (first | with_reducible refine ask.of (by omega) ?_ | simp -dsimp -implicitDefEqProofs only [go_sem, Nat.reduceBEq, Nat.reduceAdd, Nat.reduceLeDiff, Nat.reduceSub, Int.reduceEq, bleF])
  refine CallE.of (c_nameOk x.f (by omega)) (by rintro r rfl; (repeat' first | exact trivial | exact pure_rowB _ | exact pure_rowO _ | exact pure_rowI _ | exact pure_rowBB _ | exact pure_rowPk _ _ | exact pure_rowSn _ _ | exact pure_rowFd _ _ | exact pure_rowBBB _ | exact pure_rowCl _ _ | exact pure_rowTb _ _ _ | refine And.intro ?_ ?_)) (by simp -dsimp -implicitDefEqProofs only [go_sem, Nat.reduceBEq, Nat.reduceAdd, Nat.reduceLeDiff, Nat.reduceSub, Int.reduceEq]) ?_
  rintro r rfl
  simp -dsimp -implicitDefEqProofs only [go_sem, Nat.reduceBEq, Nat.reduceAdd, Nat.reduceLeDiff, Nat.reduceSub, Int.reduceEq]
  by_cases hn : nmOk x.f
  · simp -dsimp -implicitDefEqProofs only [go_sem, Nat.reduceBEq, Nat.reduceAdd, Nat.reduceLeDiff, Nat.reduceSub, Int.reduceEq, decide_eq_true hn]
    repeat' (first | with_reducible refine ifB'.of (fun h => ?_) (fun h => ?_) | with_reducible refine ask.of (by omega) ?_ | ((with_reducible refine fd_f ?_); unfold fdOk; simp only [hn, true_and]; omega) | ((with_reducible refine fd_t ?_); unfold fdOk; simp only [hn, true_and]; omega) | ((with_reducible refine fd_d ?_); unfold fdOk; simp only [hn, true_and]; omega) | simp -dsimp -implicitDefEqProofs only [go_sem, Nat.reduceBEq, Nat.reduceAdd, Nat.reduceLeDiff, Nat.reduceSub, Int.reduceEq, decide_true])
    all_goals
      refine CallE.of (c_l1width x.w) (by rintro r rfl; (repeat' first | exact trivial | exact pure_rowB _ | exact pure_rowO _ | exact pure_rowI _ | exact pure_rowBB _ | exact pure_rowPk _ _ | exact pure_rowSn _ _ | exact pure_rowFd _ _ | exact pure_rowBBB _ | exact pure_rowCl _ _ | exact pure_rowTb _ _ _ | refine And.intro ?_ ?_)) (by simp -dsimp -implicitDefEqProofs only [go_sem, Nat.reduceBEq, Nat.reduceAdd, Nat.reduceLeDiff, Nat.reduceSub, Int.reduceEq, isW_iff]) ?_
      rintro r rfl
      simp -dsimp -implicitDefEqProofs only [go_sem, Nat.reduceBEq, Nat.reduceAdd, Nat.reduceLeDiff, Nat.reduceSub, Int.reduceEq, isW_iff]
      refine fd_d ?_
      unfold fdOk
      simp only [hn, true_and]
      omega
  · simp -dsimp -implicitDefEqProofs only [go_sem, Nat.reduceBEq, Nat.reduceAdd, Nat.reduceLeDiff, Nat.reduceSub, Int.reduceEq, decide_eq_false hn]
    repeat' (first | with_reducible refine ask.of (by omega) ?_ | ((with_reducible refine fd_f ?_); exact fun h => hn h.1) | simp -dsimp -implicitDefEqProofs only [go_sem, Nat.reduceBEq, Nat.reduceAdd, Nat.reduceLeDiff, Nat.reduceSub, Int.reduceEq, decide_true])
end Go.Ev
set_option linter.unusedSimpArgs false
set_option linter.unusedVariables false
namespace Go.Ev
open Go Go.RowKit Go.Proofs
def nms (xs : List Fd) : List (List UInt8) := xs.map Fd.f
theorem nms_length (xs : List Fd) : (nms xs).length = xs.length := by simp [nms]
theorem nms_at {xs : List Fd} {i : Nat} (h : i < (nms xs).length) : (nms xs)[i] = (xs[i]'(by simpa [nms] using h)).f := by simp [nms]
theorem nms_take (xs : List Fd) (i : Nat) : nms (xs.take i) = (nms xs).take i := by simp [nms, List.map_take]
theorem nms_snoc {xs : List Fd} {i : Nat} (h : i < xs.length) : nms (xs.take i) ++ [xs[i].f] = nms (xs.take (i + 1)) := by
  rw [List.take_succ_eq_append_getElem h, nms, nms, List.map_append]; rfl
theorem nms_nodup {xs : List Fd} {i : Nat} (h : i < xs.length) : (nms (xs.take (i + 1))).Nodup ↔ (nms (xs.take i)).Nodup ∧ xs[i].f ∉ nms (xs.take i) := by
  have := nodup_take_succ (xs := nms xs) (i := i) (by rwa [nms_length])
  rw [nms_at] at this
  rw [nms_take, nms_take]; exact this
def okF (xs : List Fd) : Prop := (1 ≤ xs.length ∧ xs.length ≤ 12) ∧ (∀ x ∈ xs, fdOk x) ∧ (nms xs).Nodup
instance (xs : List Fd) : Decidable (okF xs) := by unfold okF; infer_instance
theorem okF_f {xs : List Fd} (h : ¬ okF xs) : false = decide (okF xs) := (decide_eq_false h).symm
theorem okF_dup {xs : List Fd} {i : Nat} (h : i < xs.length) (hm : xs[i].f ∈ nms (xs.take i)) : ¬ okF xs := fun h' =>
  ((nms_nodup h).1 (by rw [nms_take]; exact nodup_take h'.2.2 _)).2 hm
theorem c_sValidFields (xs : List Fd) (hx : xs.length ≤ 1048576) (hb : ∀ b ∈ xs, b.f.length ≤ 1048576) : Meets Try.prog 110 [rowFd 78 xs] (fun r => r = .v (.bool (decide (okF xs)))) := by
  refine Meets.intro mixed (hint []) Try.func110 rfl (by decide) res_110 rty_110 (by kernel_rfl) ?_; 
  simp -dsimp -implicitDefEqProofs only [go_sem, Nat.reduceBEq, Nat.reduceAdd, Nat.reduceLeDiff, Nat.reduceSub, Int.reduceEq, rowFd]
  refine ifB'.of (fun h => ?_) (fun h => ?_)
  · simp -dsimp -implicitDefEqProofs only [go_sem, Nat.reduceBEq, Nat.reduceAdd, Nat.reduceLeDiff, Nat.reduceSub, Int.reduceEq]
    exact okF_f (fun h' => by have := h'.1; omega)
  simp -dsimp -implicitDefEqProofs only [go_sem, Nat.reduceBEq, Nat.reduceAdd, Nat.reduceLeDiff, Nat.reduceSub, Int.reduceEq]
  refine ifB'.of (fun h2 => ?_) (fun h2 => ?_)
  · simp -dsimp -implicitDefEqProofs only [go_sem, Nat.reduceBEq, Nat.reduceAdd, Nat.reduceLeDiff, Nat.reduceSub, Int.reduceEq]
    exact okF_f (fun h' => by have := h'.1; omega)
  simp -dsimp -implicitDefEqProofs only [go_sem, Nat.reduceBEq, Nat.reduceAdd, Nat.reduceLeDiff, Nat.reduceSub, Int.reduceEq]
  refine LoopE.cnt xs.length (fun i s => s.env 0 = .rd .ent 78 3 (ra fdC xs) ∧ s.env 3 = .v (.int .i64 i) ∧ (∀ x ∈ xs.take i, fdOk x) ∧ (nms (xs.take i)).Nodup) ⟨by simp -dsimp -implicitDefEqProofs only [go_sem, Nat.reduceBEq, Nat.reduceAdd, Nat.reduceLeDiff, Nat.reduceSub, Int.reduceEq, initE, rowFd], by simp -dsimp -implicitDefEqProofs only [go_sem, Nat.reduceBEq, Nat.reduceAdd, Nat.reduceLeDiff, Nat.reduceSub, Int.reduceEq], by simp, by simp [nms]⟩ ?_
  rintro i ⟨e, σ⟩ hi ⟨h0, h3, ha, hnd⟩ K hK
  simp only at h0 h3
  simp -dsimp -implicitDefEqProofs only [go_sem, Nat.reduceBEq, Nat.reduceAdd, Nat.reduceLeDiff, Nat.reduceSub, Int.reduceEq, h0, h3]
  refine ifB'.of (fun hlt => ?_) (fun hlt => ?_)
  · have hlt : i < xs.length := by omega
    simp -dsimp -implicitDefEqProofs only [go_sem, Nat.reduceBEq, Nat.reduceAdd, Nat.reduceLeDiff, Nat.reduceSub, Int.reduceEq, h0, h3, Fd_at hlt, fdC]
    repeat (first | with_reducible refine ask.of (by omega) ?_ | simp -dsimp -implicitDefEqProofs only [go_sem, Nat.reduceBEq, Nat.reduceAdd, Nat.reduceLeDiff, Nat.reduceSub, Int.reduceEq, h0, h3, Fd_at hlt, fdC, bleF])
    refine CallE.of (c_l2fieldOK xs[i] (hb _ (List.getElem_mem _))) (by rintro r rfl; (repeat' first | exact trivial | exact pure_rowB _ | exact pure_rowO _ | exact pure_rowI _ | exact pure_rowBB _ | exact pure_rowPk _ _ | exact pure_rowSn _ _ | exact pure_rowFd _ _ | exact pure_rowBBB _ | exact pure_rowCl _ _ | exact pure_rowTb _ _ _ | refine And.intro ?_ ?_)) (by simp -dsimp -implicitDefEqProofs only [go_sem, Nat.reduceBEq, Nat.reduceAdd, Nat.reduceLeDiff, Nat.reduceSub, Int.reduceEq, h0, h3, fdC]) ?_
    rintro r rfl
    simp -dsimp -implicitDefEqProofs only [go_sem, Nat.reduceBEq, Nat.reduceAdd, Nat.reduceLeDiff, Nat.reduceSub, Int.reduceEq, h0, h3, fdC]
    refine ifB'.of (fun hq => ?_) (fun hq => ?_)
    · simp -dsimp -implicitDefEqProofs only [go_sem, Nat.reduceBEq, Nat.reduceAdd, Nat.reduceLeDiff, Nat.reduceSub, Int.reduceEq, h0, h3]
      refine LoopE.cnt i (fun k s => s.env 0 = .rd .ent 78 3 (ra fdC xs) ∧ s.env 3 = .v (.int .i64 i) ∧ s.env 4 = .v (.int .i64 k) ∧ xs[i].f ∉ nms (xs.take k)) ⟨by simp -dsimp -implicitDefEqProofs only [go_sem, Nat.reduceBEq, Nat.reduceAdd, Nat.reduceLeDiff, Nat.reduceSub, Int.reduceEq, h0, h3], by simp -dsimp -implicitDefEqProofs only [go_sem, Nat.reduceBEq, Nat.reduceAdd, Nat.reduceLeDiff, Nat.reduceSub, Int.reduceEq, h0, h3], by simp -dsimp -implicitDefEqProofs only [go_sem, Nat.reduceBEq, Nat.reduceAdd, Nat.reduceLeDiff, Nat.reduceSub, Int.reduceEq, h0, h3], by simp [nms]⟩ ?_
      rintro k ⟨e, σ⟩ hki ⟨h0, h3, h4, hn⟩ K' hK'
      simp only at h0 h3 h4
      simp -dsimp -implicitDefEqProofs only [go_sem, Nat.reduceBEq, Nat.reduceAdd, Nat.reduceLeDiff, Nat.reduceSub, Int.reduceEq, h0, h3, h4]
      refine ifB'.of (fun hkl => ?_) (fun hkl => ?_)
      · have hkl : k < i := by omega
        have hkx : k < xs.length := by omega
        simp -dsimp -implicitDefEqProofs only [go_sem, Nat.reduceBEq, Nat.reduceAdd, Nat.reduceLeDiff, Nat.reduceSub, Int.reduceEq, h0, h3, h4, Fd_at hlt, Fd_at hkx, fdC]
        repeat (first | with_reducible refine ask.of (by omega) ?_ | simp -dsimp -implicitDefEqProofs only [go_sem, Nat.reduceBEq, Nat.reduceAdd, Nat.reduceLeDiff, Nat.reduceSub, Int.reduceEq, h0, h3, h4, Fd_at hlt, Fd_at hkx, fdC, bleF])
        refine CallE.of (c_l1same xs[k].f xs[i].f (by have := hb _ (List.getElem_mem hkx); omega) (by have := hb _ (List.getElem_mem hlt); omega)) (by rintro r rfl; (repeat' first | exact trivial | exact pure_rowB _ | exact pure_rowO _ | exact pure_rowI _ | exact pure_rowBB _ | exact pure_rowPk _ _ | exact pure_rowSn _ _ | exact pure_rowFd _ _ | exact pure_rowBBB _ | exact pure_rowCl _ _ | exact pure_rowTb _ _ _ | refine And.intro ?_ ?_)) (by simp -dsimp -implicitDefEqProofs only [go_sem, Nat.reduceBEq, Nat.reduceAdd, Nat.reduceLeDiff, Nat.reduceSub, Int.reduceEq, h0, h3, h4]) ?_
        rintro r rfl
        simp -dsimp -implicitDefEqProofs only [go_sem, Nat.reduceBEq, Nat.reduceAdd, Nat.reduceLeDiff, Nat.reduceSub, Int.reduceEq, h0, h3, h4]
        refine ifB'.of (fun hs => ?_) (fun hs => ?_)
        · simp -dsimp -implicitDefEqProofs only [go_sem, Nat.reduceBEq, Nat.reduceAdd, Nat.reduceLeDiff, Nat.reduceSub, Int.reduceEq, h0, h3, h4]
          refine okF_f (okF_dup hlt ?_)
          rw [← hs]
          exact List.mem_map_of_mem (List.mem_take_iff_getElem.2 ⟨k, by omega, rfl⟩)
        · simp -dsimp -implicitDefEqProofs only [go_sem, Nat.reduceBEq, Nat.reduceAdd, Nat.reduceLeDiff, Nat.reduceSub, Int.reduceEq, h0, h3, h4]
          refine hK' _ hkl ?_
          simp -dsimp -implicitDefEqProofs only [go_sem, Nat.reduceBEq, Nat.reduceAdd, Nat.reduceLeDiff, Nat.reduceSub, Int.reduceEq, h0, h3, h4, wrap_succ (show k < 4611686018427387904 by omega)]
          rw [← nms_snoc hkx]
          simp only [List.mem_append, List.mem_singleton, not_or]
          exact ⟨hn, fun h => hs h.symm⟩
      · have : k = i := by omega
        subst this
        simp -dsimp -implicitDefEqProofs only [go_sem, Nat.reduceBEq, Nat.reduceAdd, Nat.reduceLeDiff, Nat.reduceSub, Int.reduceEq, h0, h3, h4]
        refine hK _ hlt ?_
        simp -dsimp -implicitDefEqProofs only [go_sem, Nat.reduceBEq, Nat.reduceAdd, Nat.reduceLeDiff, Nat.reduceSub, Int.reduceEq, h0, h3, h4, wrap_succ (show k < 4611686018427387904 by omega)]
        exact ⟨all_take_succ hlt ha hq, (nms_nodup hlt).2 ⟨hnd, hn⟩⟩
    · simp -dsimp -implicitDefEqProofs only [go_sem, Nat.reduceBEq, Nat.reduceAdd, Nat.reduceLeDiff, Nat.reduceSub, Int.reduceEq, h0, h3]
      exact okF_f (fun h' => hq (h'.2.1 _ (List.getElem_mem _)))
  · have : i = xs.length := by omega
    subst this
    simp -dsimp -implicitDefEqProofs only [go_sem, Nat.reduceBEq, Nat.reduceAdd, Nat.reduceLeDiff, Nat.reduceSub, Int.reduceEq, h0, h3]
    rw [List.take_length] at ha hnd
    exact (decide_eq_true (show okF xs from ⟨⟨by omega, by omega⟩, ha, hnd⟩)).symm
theorem c_iValidFields (xs : List Fd) (hx : xs.length ≤ 1048576) (hb : ∀ b ∈ xs, b.f.length ≤ 1048576) : Meets Try.prog 114 [rowFd 78 xs] (fun r => r = .v (.bool (decide (okF xs)))) := by
  refine Meets.intro mixed (hint []) Try.func114 rfl (by decide) res_114 rty_114 (by kernel_rfl) ?_; 
  simp -dsimp -implicitDefEqProofs only [go_sem, Nat.reduceBEq, Nat.reduceAdd, Nat.reduceLeDiff, Nat.reduceSub, Int.reduceEq, rowFd]
  refine ifB'.of (fun h => ?_) (fun h => ?_)
  · simp -dsimp -implicitDefEqProofs only [go_sem, Nat.reduceBEq, Nat.reduceAdd, Nat.reduceLeDiff, Nat.reduceSub, Int.reduceEq]
    exact okF_f (fun h' => by have := h'.1; omega)
  simp -dsimp -implicitDefEqProofs only [go_sem, Nat.reduceBEq, Nat.reduceAdd, Nat.reduceLeDiff, Nat.reduceSub, Int.reduceEq]
  refine ifB'.of (fun h2 => ?_) (fun h2 => ?_)
  · simp -dsimp -implicitDefEqProofs only [go_sem, Nat.reduceBEq, Nat.reduceAdd, Nat.reduceLeDiff, Nat.reduceSub, Int.reduceEq]
    exact okF_f (fun h' => by have := h'.1; omega)
  simp -dsimp -implicitDefEqProofs only [go_sem, Nat.reduceBEq, Nat.reduceAdd, Nat.reduceLeDiff, Nat.reduceSub, Int.reduceEq]
  refine LoopE.cnt xs.length (fun i s => s.env 17 = .rd .ent 78 3 (ra fdC xs) ∧ s.env 18 = .v (.int .i64 xs.length) ∧ s.env 19 = .v (.int .i64 i) ∧ s.env 3 = .ref [16] ∧ s.σ [16] = some (.mp .string 3 (mpS (ixP (nms (xs.take i))))) ∧ (∀ x ∈ xs.take i, fdOk x) ∧ (nms (xs.take i)).Nodup) ⟨by simp -dsimp -implicitDefEqProofs only [go_sem, Nat.reduceBEq, Nat.reduceAdd, Nat.reduceLeDiff, Nat.reduceSub, Int.reduceEq, initE, rowFd], by simp -dsimp -implicitDefEqProofs only [go_sem, Nat.reduceBEq, Nat.reduceAdd, Nat.reduceLeDiff, Nat.reduceSub, Int.reduceEq, initE, rowFd], by simp -dsimp -implicitDefEqProofs only [go_sem, Nat.reduceBEq, Nat.reduceAdd, Nat.reduceLeDiff, Nat.reduceSub, Int.reduceEq], by simp -dsimp -implicitDefEqProofs only [go_sem, Nat.reduceBEq, Nat.reduceAdd, Nat.reduceLeDiff, Nat.reduceSub, Int.reduceEq], by simp -dsimp -implicitDefEqProofs only [go_sem, Nat.reduceBEq, Nat.reduceAdd, Nat.reduceLeDiff, Nat.reduceSub, Int.reduceEq] <;> rfl, by simp, by simp [nms]⟩ ?_
  rintro i ⟨e, σ⟩ hi ⟨h17, h18, h19, h3, hs, ha, hnd⟩ K hK
  simp only at h17 h18 h19 h3 hs
  simp -dsimp -implicitDefEqProofs only [go_sem, Nat.reduceBEq, Nat.reduceAdd, Nat.reduceLeDiff, Nat.reduceSub, Int.reduceEq, h17, h18, h19, h3, hs]
  refine ifB'.of (fun hlt => ?_) (fun hlt => ?_)
  · have hlt : i < xs.length := by omega
    simp -dsimp -implicitDefEqProofs only [go_sem, Nat.reduceBEq, Nat.reduceAdd, Nat.reduceLeDiff, Nat.reduceSub, Int.reduceEq, h17, h18, h19, h3, hs, Fd_at hlt, fdC]
    repeat (first | with_reducible refine ask.of (by omega) ?_ | simp -dsimp -implicitDefEqProofs only [go_sem, Nat.reduceBEq, Nat.reduceAdd, Nat.reduceLeDiff, Nat.reduceSub, Int.reduceEq, h17, h18, h19, h3, hs, Fd_at hlt, fdC, bleF, ixP_has])
    refine ifB'.of (fun hq => ?_) (fun hq => ?_)
    · simp -dsimp -implicitDefEqProofs only [go_sem, Nat.reduceBEq, Nat.reduceAdd, Nat.reduceLeDiff, Nat.reduceSub, Int.reduceEq, h17, h18, h19, h3, hs]
      exact okF_f (okF_dup hlt hq)
    · simp -dsimp -implicitDefEqProofs only [go_sem, Nat.reduceBEq, Nat.reduceAdd, Nat.reduceLeDiff, Nat.reduceSub, Int.reduceEq, h17, h18, h19, h3, hs]
      repeat (first | with_reducible refine ask.of (by omega) ?_ | simp -dsimp -implicitDefEqProofs only [go_sem, Nat.reduceBEq, Nat.reduceAdd, Nat.reduceLeDiff, Nat.reduceSub, Int.reduceEq, h17, h18, h19, h3, hs, Fd_at hlt, fdC, bleF, ixP_has])
      refine CallE.of (c_fieldOk xs[i] (hb _ (List.getElem_mem _))) (by rintro r rfl; (repeat' first | exact trivial | exact pure_rowB _ | exact pure_rowO _ | exact pure_rowI _ | exact pure_rowBB _ | exact pure_rowPk _ _ | exact pure_rowSn _ _ | exact pure_rowFd _ _ | exact pure_rowBBB _ | exact pure_rowCl _ _ | exact pure_rowTb _ _ _ | refine And.intro ?_ ?_)) (by simp -dsimp -implicitDefEqProofs only [go_sem, Nat.reduceBEq, Nat.reduceAdd, Nat.reduceLeDiff, Nat.reduceSub, Int.reduceEq, h17, h18, h19, h3, hs, fdC]) ?_
      rintro r rfl
      simp -dsimp -implicitDefEqProofs only [go_sem, Nat.reduceBEq, Nat.reduceAdd, Nat.reduceLeDiff, Nat.reduceSub, Int.reduceEq, h17, h18, h19, h3, hs, fdC]
      refine ifB'.of (fun hq2 => ?_) (fun hq2 => ?_)
      · simp -dsimp -implicitDefEqProofs only [go_sem, Nat.reduceBEq, Nat.reduceAdd, Nat.reduceLeDiff, Nat.reduceSub, Int.reduceEq, h17, h18, h19, h3, hs]
        have hp := ixP_put hq
        rw [nms_length, show (xs.take i).length = i by simp; omega, nms_snoc hlt] at hp
        repeat (first | with_reducible refine ask.of (by omega) ?_ | simp -dsimp -implicitDefEqProofs only [go_sem, Nat.reduceBEq, Nat.reduceAdd, Nat.reduceLeDiff, Nat.reduceSub, Int.reduceEq, h17, h18, h19, h3, hs, Fd_at hlt, fdC, bleF, hp])
        refine hK _ hlt ?_
        simp -dsimp -implicitDefEqProofs only [go_sem, Nat.reduceBEq, Nat.reduceAdd, Nat.reduceLeDiff, Nat.reduceSub, Int.reduceEq, h17, h18, h19, h3, hs, wrap_succ (show i < 4611686018427387904 by omega)]
        exact ⟨all_take_succ hlt ha hq2, (nms_nodup hlt).2 ⟨hnd, hq⟩⟩
      · simp -dsimp -implicitDefEqProofs only [go_sem, Nat.reduceBEq, Nat.reduceAdd, Nat.reduceLeDiff, Nat.reduceSub, Int.reduceEq, h17, h18, h19, h3, hs]
        exact okF_f (fun h' => hq2 (h'.2.1 _ (List.getElem_mem _)))
  · have : i = xs.length := by omega
    subst this
    simp -dsimp -implicitDefEqProofs only [go_sem, Nat.reduceBEq, Nat.reduceAdd, Nat.reduceLeDiff, Nat.reduceSub, Int.reduceEq, h17, h18, h19, h3, hs]
    rw [List.take_length] at ha hnd
    exact (decide_eq_true (show okF xs from ⟨⟨by omega, by omega⟩, ha, hnd⟩)).symm
end Go.Ev
