/- What the given program's table of types and functions says, by reckoning. (Printed by a program of ours.) -/
import Derived.Test.YtijmbcnhkdhkeaaEvr
import Derived.Test.YtijmbcnhkdhkeaaProg
import Derived.KernelRfl
namespace Go.Ev
open Go Go.Proofs
theorem mixed : Try.prog.follows .mixedOrders = true := by kernel_rfl
theorem tySz_24 : tySz Try.prog 24 = some (4, true) := by kernel_rfl
theorem elTy_25 : elTy Try.prog 25 = some (5, 1, 1) := by kernel_rfl
theorem par_12 : parTys Try.prog 12 = [24, 3] := by kernel_rfl
theorem cty_24 : cty Try.prog 24 = [none, none, none, some (213, 7)] := by kernel_rfl
theorem cty_3 : cty Try.prog 3 = [none] := by kernel_rfl
theorem par_14 : parTys Try.prog 14 = [24] := by kernel_rfl
theorem par_15 : parTys Try.prog 15 = [25] := by kernel_rfl
theorem cty_25 : cty Try.prog 25 = [some (5, 1)] := by kernel_rfl
theorem par_13 : parTys Try.prog 13 = [29, 25] := by kernel_rfl
theorem cty_29 : cty Try.prog 29 = [none, none, none, some (133, 7)] := by kernel_rfl
theorem zeroC_29 : zeroC Try.prog 29 = some [.v (.int .i64 0), .v (.int .i64 0), .v (.int .i64 0), .v (.slice none 0 0)] := by kernel_rfl
theorem tySz_29 : tySz Try.prog 29 = some (4, true) := by kernel_rfl
theorem par_16 : parTys Try.prog 16 = [29, 25] := by kernel_rfl
theorem par_17 : parTys Try.prog 17 = [29, 29] := by kernel_rfl
theorem par_18 : parTys Try.prog 18 = [25, 25] := by kernel_rfl
theorem par_19 : parTys Try.prog 19 = [29, 3] := by kernel_rfl
theorem par_20 : parTys Try.prog 20 = [25, 3] := by kernel_rfl
theorem par_21 : parTys Try.prog 21 = [29, 3] := by kernel_rfl
theorem cty_4 : cty Try.prog 4 = [none] := by kernel_rfl
theorem par_22 : parTys Try.prog 22 = [39, 3] := by kernel_rfl
theorem cty_39 : cty Try.prog 39 = [some (25, 1)] := by kernel_rfl
theorem par_23 : parTys Try.prog 23 = [40, 3] := by kernel_rfl
theorem cty_40 : cty Try.prog 40 = [some (145, 3)] := by kernel_rfl
theorem par_25 : parTys Try.prog 25 = [39] := by kernel_rfl
theorem par_26 : parTys Try.prog 26 = [40] := by kernel_rfl
theorem par_24 : parTys Try.prog 24 = [39, 48] := by kernel_rfl
theorem cty_48 : cty Try.prog 48 = [some (151, 3)] := by kernel_rfl
theorem zeroC_44 : zeroC Try.prog 44 = some [.v (.int .i64 0), .v (.slice none 0 0), .v (.slice none 0 0)] := by kernel_rfl
theorem tySz_44 : tySz Try.prog 44 = some (3, true) := by kernel_rfl
theorem par_27 : parTys Try.prog 27 = [39, 48] := by kernel_rfl
theorem par_28 : parTys Try.prog 28 = [44, 44] := by kernel_rfl
theorem cty_44 : cty Try.prog 44 = [none, some (25, 1), some (25, 1)] := by kernel_rfl
theorem par_29 : parTys Try.prog 29 = [39, 39] := by kernel_rfl
theorem par_30 : parTys Try.prog 30 = [48, 48] := by kernel_rfl
theorem par_31 : parTys Try.prog 31 = [39, 3] := by kernel_rfl
theorem par_32 : parTys Try.prog 32 = [48, 3] := by kernel_rfl
theorem par_33 : parTys Try.prog 33 = [44, 3] := by kernel_rfl
theorem par_34 : parTys Try.prog 34 = [44, 3] := by kernel_rfl
theorem par_35 : parTys Try.prog 35 = [56, 3] := by kernel_rfl
theorem cty_56 : cty Try.prog 56 = [some (74, 3)] := by kernel_rfl
theorem par_37 : parTys Try.prog 37 = [56] := by kernel_rfl
theorem par_36 : parTys Try.prog 36 = [58, 3] := by kernel_rfl
theorem cty_58 : cty Try.prog 58 = [some (78, 3)] := by kernel_rfl
theorem zeroC_61 : zeroC Try.prog 61 = some [.v (.bool false), .v (.slice none 0 0), .v (.int .i64 0), .v (.slice none 0 0)] := by kernel_rfl
theorem tySz_61 : tySz Try.prog 61 = some (4, true) := by kernel_rfl
theorem par_38 : parTys Try.prog 38 = [58, 3] := by kernel_rfl
theorem par_39 : parTys Try.prog 39 = [61, 61] := by kernel_rfl
theorem cty_61 : cty Try.prog 61 = [none, some (78, 3), none, some (39, 1)] := by kernel_rfl
theorem par_40 : parTys Try.prog 40 = [58, 58] := by kernel_rfl
theorem par_41 : parTys Try.prog 41 = [58, 3] := by kernel_rfl
theorem par_42 : parTys Try.prog 42 = [61, 3] := by kernel_rfl
theorem par_43 : parTys Try.prog 43 = [61, 3] := by kernel_rfl
theorem par_44 : parTys Try.prog 44 = [25, 3] := by kernel_rfl
theorem par_45 : parTys Try.prog 45 = [29] := by kernel_rfl
theorem par_46 : parTys Try.prog 46 = [29] := by kernel_rfl
theorem par_47 : parTys Try.prog 47 = [39, 3] := by kernel_rfl
theorem tySz_74 : tySz Try.prog 74 = some (3, true) := by kernel_rfl
theorem par_48 : parTys Try.prog 48 = [74, 3] := by kernel_rfl
theorem cty_74 : cty Try.prog 74 = [some (5, 1), none, none] := by kernel_rfl
theorem par_50 : parTys Try.prog 50 = [74] := by kernel_rfl
theorem par_49 : parTys Try.prog 49 = [78, 48, 39] := by kernel_rfl
theorem cty_78 : cty Try.prog 78 = [some (5, 1), none, none] := by kernel_rfl
theorem zeroC_78 : zeroC Try.prog 78 = some [.v (.slice none 0 0), .v (.int .i64 0), .v (.int .i64 0)] := by kernel_rfl
theorem tySz_78 : tySz Try.prog 78 = some (3, true) := by kernel_rfl
theorem par_51 : parTys Try.prog 51 = [78, 48, 39] := by kernel_rfl
theorem par_52 : parTys Try.prog 52 = [78, 78] := by kernel_rfl
theorem par_53 : parTys Try.prog 53 = [78, 3] := by kernel_rfl
theorem tySz_85 : tySz Try.prog 85 = some (4, true) := by kernel_rfl
theorem tySz_87 : tySz Try.prog 87 = some (6, true) := by kernel_rfl
theorem par_54 : parTys Try.prog 54 = [85, 3] := by kernel_rfl
theorem cty_85 : cty Try.prog 85 = [none, none, some (87, 6), some (5, 1)] := by kernel_rfl
theorem par_55 : parTys Try.prog 55 = [87, 3] := by kernel_rfl
theorem cty_87 : cty Try.prog 87 = [none, none, none, none, none, some (5, 1)] := by kernel_rfl
theorem par_57 : parTys Try.prog 57 = [85] := by kernel_rfl
theorem par_58 : parTys Try.prog 58 = [87] := by kernel_rfl
theorem par_56 : parTys Try.prog 56 = [92, 96] := by kernel_rfl
theorem cty_92 : cty Try.prog 92 = [none, none, some (96, 6), some (5, 1)] := by kernel_rfl
theorem cty_96 : cty Try.prog 96 = [none, none, none, none, none, some (5, 1)] := by kernel_rfl
theorem zeroC_92 : zeroC Try.prog 92 = some [.v (.int .i64 0), .v (.int .i64 0), .v (.slice none 0 0), .v (.slice none 0 0)] := by kernel_rfl
theorem tySz_92 : tySz Try.prog 92 = some (4, true) := by kernel_rfl
theorem zeroC_96 : zeroC Try.prog 96 = some [.v (.int .i64 0), .v (.int .i64 0), .v (.int .i64 0), .v (.int .i64 0), .v (.bool false), .v (.slice none 0 0)] := by kernel_rfl
theorem tySz_96 : tySz Try.prog 96 = some (6, true) := by kernel_rfl
theorem par_59 : parTys Try.prog 59 = [92, 96] := by kernel_rfl
theorem par_60 : parTys Try.prog 60 = [92, 92] := by kernel_rfl
theorem par_61 : parTys Try.prog 61 = [96, 96] := by kernel_rfl
theorem par_62 : parTys Try.prog 62 = [92, 3] := by kernel_rfl
theorem par_63 : parTys Try.prog 63 = [96, 3] := by kernel_rfl
theorem par_64 : parTys Try.prog 64 = [92, 3] := by kernel_rfl
theorem tySz_107 : tySz Try.prog 107 = some (13, true) := by kernel_rfl
theorem par_65 : parTys Try.prog 65 = [107, 3] := by kernel_rfl
theorem cty_107 : cty Try.prog 107 = [none, none, none, none, none, some (87, 6), some (5, 1), none, some (74, 3), none, some (39, 1), some (243, 2), none] := by kernel_rfl
theorem par_67 : parTys Try.prog 67 = [107] := by kernel_rfl
theorem par_66 : parTys Try.prog 66 = [112] := by kernel_rfl
theorem cty_112 : cty Try.prog 112 = [none, none, none, none, none, some (96, 6), some (5, 1), none, some (78, 3), none, some (39, 1), some (204, 2), none] := by kernel_rfl
theorem zeroC_112 : zeroC Try.prog 112 = some [.v (.int .i64 0), .v (.int .i64 0), .v (.bool false), .v (.int .i64 0), .v (.int .i64 0), .v (.slice none 0 0), .v (.slice none 0 0), .v (.bool false), .v (.slice none 0 0), .v (.int .i64 0), .v (.slice none 0 0), .v (.slice none 0 0), .v (.int .i64 0)] := by kernel_rfl
theorem tySz_112 : tySz Try.prog 112 = some (13, true) := by kernel_rfl
theorem par_68 : parTys Try.prog 68 = [112] := by kernel_rfl
theorem boolTy_4 : boolTy Try.prog 4 = some () := by kernel_rfl
theorem par_69 : parTys Try.prog 69 = [112, 112] := by kernel_rfl
theorem tySz_117 : tySz Try.prog 117 = some (13, true) := by kernel_rfl
theorem par_70 : parTys Try.prog 70 = [117, 3] := by kernel_rfl
theorem cty_117 : cty Try.prog 117 = [some (74, 3), none, none, some (243, 2), none, none, none, none, some (213, 7), none, some (74, 3), none, some (39, 1)] := by kernel_rfl
theorem par_72 : parTys Try.prog 72 = [117] := by kernel_rfl
theorem par_71 : parTys Try.prog 71 = [121] := by kernel_rfl
theorem cty_121 : cty Try.prog 121 = [some (78, 3), none, none, some (204, 2), none, none, none, none, some (133, 7), none, some (78, 3), none, some (39, 1)] := by kernel_rfl
theorem zeroC_121 : zeroC Try.prog 121 = some [.v (.slice none 0 0), .v (.int .i64 0), .v (.int .i64 0), .v (.slice none 0 0), .v (.int .i64 0), .v (.int .i64 0), .v (.int .i64 0), .v (.int .i64 0), .v (.slice none 0 0), .v (.bool false), .v (.slice none 0 0), .v (.int .i64 0), .v (.slice none 0 0)] := by kernel_rfl
theorem tySz_121 : tySz Try.prog 121 = some (13, true) := by kernel_rfl
theorem par_73 : parTys Try.prog 73 = [121] := by kernel_rfl
theorem par_74 : parTys Try.prog 74 = [121, 121] := by kernel_rfl
theorem par_75 : parTys Try.prog 75 = [58] := by kernel_rfl
theorem par_76 : parTys Try.prog 76 = [58] := by kernel_rfl
theorem par_77 : parTys Try.prog 77 = [121, 3] := by kernel_rfl
theorem par_78 : parTys Try.prog 78 = [121, 3] := by kernel_rfl
theorem fldTy_24_3 : fldTy Try.prog 24 3 = some (3, 1, false) := by kernel_rfl
theorem tySz_22 : tySz Try.prog 22 = some (1, false) := by kernel_rfl
theorem par_79 : parTys Try.prog 79 = [22, 3] := by kernel_rfl
theorem cty_22 : cty Try.prog 22 = [some (213, 7)] := by kernel_rfl
theorem par_80 : parTys Try.prog 80 = [29] := by kernel_rfl
theorem bldTy_29 : bldTy Try.prog 29 = some (.st [(0, 1), (1, 1), (2, 1), (3, 1)]) := by kernel_rfl
theorem par_81 : parTys Try.prog 81 = [29] := by kernel_rfl
theorem fldTy_29_3 : fldTy Try.prog 29 3 = some (3, 1, false) := by kernel_rfl
theorem tySz_27 : tySz Try.prog 27 = some (1, false) := by kernel_rfl
theorem elTy_27 : elTy Try.prog 27 = some (133, 7, 72) := by kernel_rfl
theorem fldTy_29_1 : fldTy Try.prog 29 1 = some (1, 1, false) := by kernel_rfl
theorem tySz_3 : tySz Try.prog 3 = some (1, false) := by kernel_rfl
theorem fldTy_29_0 : fldTy Try.prog 29 0 = some (0, 1, false) := by kernel_rfl
theorem par_82 : parTys Try.prog 82 = [25] := by kernel_rfl
theorem bldTy_96 : bldTy Try.prog 96 = some (.st [(0, 1), (1, 1), (2, 1), (3, 1), (4, 1), (5, 1)]) := by kernel_rfl
theorem bldTy_133 : bldTy Try.prog 133 = some (.st [(0, 6), (6, 1)]) := by kernel_rfl
theorem zeroC_133 : zeroC Try.prog 133 = some [.v (.int .i64 0), .v (.int .i64 0), .v (.int .i64 0), .v (.int .i64 0), .v (.bool false), .v (.slice none 0 0), .v (.int .i64 0)] := by kernel_rfl
theorem cty_133 : cty Try.prog 133 = [none, none, none, none, none, some (5, 1), none] := by kernel_rfl
theorem fldTy_24_0 : fldTy Try.prog 24 0 = some (0, 1, false) := by kernel_rfl
theorem fldTy_24_1 : fldTy Try.prog 24 1 = some (1, 1, false) := by kernel_rfl
theorem fldTy_24_2 : fldTy Try.prog 24 2 = some (2, 1, false) := by kernel_rfl
theorem fldTy_29_2 : fldTy Try.prog 29 2 = some (2, 1, false) := by kernel_rfl
theorem par_83 : parTys Try.prog 83 = [22] := by kernel_rfl
theorem zeroC_5 : zeroC Try.prog 5 = some [.v (.int .u8 0)] := by kernel_rfl
theorem cty_5 : cty Try.prog 5 = [none] := by kernel_rfl
theorem ixTy_25 : ixTy Try.prog 25 = some (.sl (5, 1, 1)) := by kernel_rfl
theorem tySz_5 : tySz Try.prog 5 = some (1, false) := by kernel_rfl
theorem par_84 : parTys Try.prog 84 = [29] := by kernel_rfl
theorem par_85 : parTys Try.prog 85 = [29] := by kernel_rfl
theorem zeroC_3 : zeroC Try.prog 3 = some [.v (.int .i64 0)] := by kernel_rfl
theorem bldTy_136 : bldTy Try.prog 136 = some (.st [(0, 1)]) := by kernel_rfl
theorem zeroC_136 : zeroC Try.prog 136 = some [.v (.slice none 0 0)] := by kernel_rfl
theorem tySz_136 : tySz Try.prog 136 = some (1, true) := by kernel_rfl
theorem par_86 : parTys Try.prog 86 = [25, 3] := by kernel_rfl
theorem fldTy_136_0 : fldTy Try.prog 136 0 = some (0, 1, false) := by kernel_rfl
theorem par_89 : parTys Try.prog 89 = [27, 27] := by kernel_rfl
theorem cty_27 : cty Try.prog 27 = [some (133, 7)] := by kernel_rfl
theorem par_90 : parTys Try.prog 90 = [27, 3] := by kernel_rfl
theorem cvTy_3_5 : cvTy Try.prog 3 5 = some (.int .u8) := by kernel_rfl
theorem par_91 : parTys Try.prog 91 = [27, 3] := by kernel_rfl
theorem elTy_39 : elTy Try.prog 39 = some (25, 1, 24) := by kernel_rfl
theorem ixTy_39 : ixTy Try.prog 39 = some (.sl (25, 1, 24)) := by kernel_rfl
theorem tySz_25 : tySz Try.prog 25 = some (1, false) := by kernel_rfl
theorem par_92 : parTys Try.prog 92 = [25, 3] := by kernel_rfl
theorem elTy_40 : elTy Try.prog 40 = some (145, 3, 40) := by kernel_rfl
theorem ixTy_40 : ixTy Try.prog 40 = some (.sl (145, 3, 40)) := by kernel_rfl
theorem tySz_145 : tySz Try.prog 145 = some (3, true) := by kernel_rfl
theorem par_93 : parTys Try.prog 93 = [145, 3] := by kernel_rfl
theorem cty_145 : cty Try.prog 145 = [none, none, some (5, 1)] := by kernel_rfl
theorem bldTy_78 : bldTy Try.prog 78 = some (.st [(0, 1), (1, 1), (2, 1)]) := by kernel_rfl
theorem par_94 : parTys Try.prog 94 = [39] := by kernel_rfl
theorem par_95 : parTys Try.prog 95 = [78, 48] := by kernel_rfl
theorem bldTy_44 : bldTy Try.prog 44 = some (.st [(0, 1), (1, 1), (2, 1)]) := by kernel_rfl
theorem par_96 : parTys Try.prog 96 = [48, 3] := by kernel_rfl
theorem par_97 : parTys Try.prog 97 = [39, 25] := by kernel_rfl
theorem zeroC_25 : zeroC Try.prog 25 = some [.v (.slice none 0 0)] := by kernel_rfl
theorem par_98 : parTys Try.prog 98 = [39] := by kernel_rfl
theorem par_99 : parTys Try.prog 99 = [39, 39] := by kernel_rfl
theorem elTy_48 : elTy Try.prog 48 = some (151, 3, 40) := by kernel_rfl
theorem zeroC_151 : zeroC Try.prog 151 = some [.v (.bool false), .v (.int .i64 0), .v (.slice none 0 0)] := by kernel_rfl
theorem cty_151 : cty Try.prog 151 = [none, none, some (5, 1)] := by kernel_rfl
theorem par_100 : parTys Try.prog 100 = [145] := by kernel_rfl
theorem ixTy_48 : ixTy Try.prog 48 = some (.sl (151, 3, 40)) := by kernel_rfl
theorem tySz_151 : tySz Try.prog 151 = some (3, true) := by kernel_rfl
theorem par_101 : parTys Try.prog 101 = [39] := by kernel_rfl
theorem par_102 : parTys Try.prog 102 = [48, 155] := by kernel_rfl
theorem cty_155 : cty Try.prog 155 = [none] := by kernel_rfl
theorem mapTy_156 : mapTy Try.prog 156 = some (.string, 3) := by kernel_rfl
theorem cvTy_25_9 : cvTy Try.prog 25 9 = some .bytes := by kernel_rfl
theorem fldTy_151_0 : fldTy Try.prog 151 0 = some (0, 1, false) := by kernel_rfl
theorem tySz_4 : tySz Try.prog 4 = some (1, false) := by kernel_rfl
theorem fldTy_151_2 : fldTy Try.prog 151 2 = some (2, 1, false) := by kernel_rfl
theorem par_105 : parTys Try.prog 105 = [25, 25] := by kernel_rfl
theorem zeroV_3 : zeroV Try.prog 3 = some (.int .i64 0) := by kernel_rfl
theorem par_106 : parTys Try.prog 106 = [39] := by kernel_rfl
theorem elTy_59 : elTy Try.prog 59 = some (39, 1, 24) := by kernel_rfl
theorem zeroC_39 : zeroC Try.prog 39 = some [.v (.slice none 0 0)] := by kernel_rfl
theorem par_107 : parTys Try.prog 107 = [59] := by kernel_rfl
theorem cty_59 : cty Try.prog 59 = [some (39, 1)] := by kernel_rfl
theorem par_108 : parTys Try.prog 108 = [39, 39] := by kernel_rfl
theorem fldTy_44_0 : fldTy Try.prog 44 0 = some (0, 1, false) := by kernel_rfl
theorem fldTy_44_1 : fldTy Try.prog 44 1 = some (1, 1, false) := by kernel_rfl
theorem tySz_39 : tySz Try.prog 39 = some (1, false) := by kernel_rfl
theorem fldTy_44_2 : fldTy Try.prog 44 2 = some (2, 1, false) := by kernel_rfl
theorem par_109 : parTys Try.prog 109 = [151, 151] := by kernel_rfl
theorem fldTy_151_1 : fldTy Try.prog 151 1 = some (1, 1, false) := by kernel_rfl
theorem elTy_56 : elTy Try.prog 56 = some (74, 3, 40) := by kernel_rfl
theorem ixTy_56 : ixTy Try.prog 56 = some (.sl (74, 3, 40)) := by kernel_rfl
theorem par_110 : parTys Try.prog 110 = [58] := by kernel_rfl
theorem bldTy_61 : bldTy Try.prog 61 = some (.st [(0, 1), (1, 1), (2, 1), (3, 1)]) := by kernel_rfl
theorem elTy_58 : elTy Try.prog 58 = some (78, 3, 40) := by kernel_rfl
theorem par_111 : parTys Try.prog 111 = [3, 3] := by kernel_rfl
theorem bldTy_163 : bldTy Try.prog 163 = some (.st [(0, 1), (1, 1), (2, 1), (3, 1)]) := by kernel_rfl
theorem zeroC_163 : zeroC Try.prog 163 = some [.v (.int .i64 0), .v (.int .i64 0), .v (.int .i64 0), .v (.slice none 0 0)] := by kernel_rfl
theorem tySz_163 : tySz Try.prog 163 = some (4, true) := by kernel_rfl
theorem ixTy_58 : ixTy Try.prog 58 = some (.sl (78, 3, 40)) := by kernel_rfl
theorem fldTy_163_3 : fldTy Try.prog 163 3 = some (3, 1, false) := by kernel_rfl
theorem fldTy_78_1 : fldTy Try.prog 78 1 = some (1, 1, false) := by kernel_rfl
theorem fldTy_78_2 : fldTy Try.prog 78 2 = some (2, 1, false) := by kernel_rfl
theorem fldTy_78_0 : fldTy Try.prog 78 0 = some (0, 1, false) := by kernel_rfl
theorem par_112 : parTys Try.prog 112 = [58, 3] := by kernel_rfl
theorem par_113 : parTys Try.prog 113 = [163] := by kernel_rfl
theorem cty_163 : cty Try.prog 163 = [none, none, none, some (25, 1)] := by kernel_rfl
theorem par_114 : parTys Try.prog 114 = [58] := by kernel_rfl
theorem par_115 : parTys Try.prog 115 = [3, 3] := by kernel_rfl
theorem par_116 : parTys Try.prog 116 = [58] := by kernel_rfl
theorem par_117 : parTys Try.prog 117 = [163] := by kernel_rfl
theorem fldTy_61_0 : fldTy Try.prog 61 0 = some (0, 1, false) := by kernel_rfl
theorem fldTy_61_1 : fldTy Try.prog 61 1 = some (1, 1, false) := by kernel_rfl
theorem tySz_58 : tySz Try.prog 58 = some (1, false) := by kernel_rfl
theorem fldTy_61_2 : fldTy Try.prog 61 2 = some (2, 1, false) := by kernel_rfl
theorem fldTy_61_3 : fldTy Try.prog 61 3 = some (3, 1, false) := by kernel_rfl
theorem tySz_59 : tySz Try.prog 59 = some (1, false) := by kernel_rfl
theorem par_118 : parTys Try.prog 118 = [59, 59] := by kernel_rfl
theorem par_119 : parTys Try.prog 119 = [59, 3] := by kernel_rfl
theorem par_120 : parTys Try.prog 120 = [58, 3] := by kernel_rfl
theorem par_121 : parTys Try.prog 121 = [59, 3] := by kernel_rfl
theorem ixTy_27 : ixTy Try.prog 27 = some (.sl (133, 7, 72)) := by kernel_rfl
theorem fldTy_133_1 : fldTy Try.prog 133 1 = some (6, 1, false) := by kernel_rfl
theorem fldTy_133_0 : fldTy Try.prog 133 0 = some (0, 6, true) := by kernel_rfl
theorem par_122 : parTys Try.prog 122 = [96] := by kernel_rfl
theorem par_123 : parTys Try.prog 123 = [96] := by kernel_rfl
theorem fldTy_74_0 : fldTy Try.prog 74 0 = some (0, 1, false) := by kernel_rfl
theorem par_124 : parTys Try.prog 124 = [48] := by kernel_rfl
theorem elTy_172 : elTy Try.prog 172 = some (4, 1, 1) := by kernel_rfl
theorem zeroC_4 : zeroC Try.prog 4 = some [.v (.bool false)] := by kernel_rfl
theorem elTy_173 : elTy Try.prog 173 = some (3, 1, 8) := by kernel_rfl
theorem par_125 : parTys Try.prog 125 = [172] := by kernel_rfl
theorem cty_172 : cty Try.prog 172 = [some (4, 1)] := by kernel_rfl
theorem par_126 : parTys Try.prog 126 = [39] := by kernel_rfl
theorem par_127 : parTys Try.prog 127 = [173, 3] := by kernel_rfl
theorem cty_173 : cty Try.prog 173 = [some (3, 1)] := by kernel_rfl
theorem fldTy_74_1 : fldTy Try.prog 74 1 = some (1, 1, false) := by kernel_rfl
theorem fldTy_74_2 : fldTy Try.prog 74 2 = some (2, 1, false) := by kernel_rfl
theorem par_128 : parTys Try.prog 128 = [78] := by kernel_rfl
theorem par_104 : parTys Try.prog 104 = [78, 151] := by kernel_rfl
theorem par_129 : parTys Try.prog 129 = [172, 4] := by kernel_rfl
theorem par_130 : parTys Try.prog 130 = [172] := by kernel_rfl
theorem par_131 : parTys Try.prog 131 = [78, 39] := by kernel_rfl
theorem fldTy_85_2 : fldTy Try.prog 85 2 = some (2, 1, false) := by kernel_rfl
theorem tySz_83 : tySz Try.prog 83 = some (1, false) := by kernel_rfl
theorem par_132 : parTys Try.prog 132 = [83, 3] := by kernel_rfl
theorem cty_83 : cty Try.prog 83 = [some (87, 6)] := by kernel_rfl
theorem fldTy_85_3 : fldTy Try.prog 85 3 = some (3, 1, false) := by kernel_rfl
theorem fldTy_87_5 : fldTy Try.prog 87 5 = some (5, 1, false) := by kernel_rfl
theorem par_133 : parTys Try.prog 133 = [92] := by kernel_rfl
theorem fldTy_92_0 : fldTy Try.prog 92 0 = some (0, 1, false) := by kernel_rfl
theorem par_134 : parTys Try.prog 134 = [96, 3] := by kernel_rfl
theorem bldTy_92 : bldTy Try.prog 92 = some (.st [(0, 1), (1, 1), (2, 1), (3, 1)]) := by kernel_rfl
theorem fldTy_96_2 : fldTy Try.prog 96 2 = some (2, 1, false) := by kernel_rfl
theorem fldTy_92_1 : fldTy Try.prog 92 1 = some (1, 1, false) := by kernel_rfl
theorem par_135 : parTys Try.prog 135 = [92] := by kernel_rfl
theorem elTy_90 : elTy Try.prog 90 = some (96, 6, 64) := by kernel_rfl
theorem fldTy_92_2 : fldTy Try.prog 92 2 = some (2, 1, false) := by kernel_rfl
theorem tySz_90 : tySz Try.prog 90 = some (1, false) := by kernel_rfl
theorem ixTy_90 : ixTy Try.prog 90 = some (.sl (96, 6, 64)) := by kernel_rfl
theorem par_136 : parTys Try.prog 136 = [96] := by kernel_rfl
theorem fldTy_92_3 : fldTy Try.prog 92 3 = some (3, 1, false) := by kernel_rfl
theorem fldTy_96_5 : fldTy Try.prog 96 5 = some (5, 1, false) := by kernel_rfl
theorem fldTy_96_4 : fldTy Try.prog 96 4 = some (4, 1, false) := by kernel_rfl
theorem fldTy_85_0 : fldTy Try.prog 85 0 = some (0, 1, false) := by kernel_rfl
theorem fldTy_85_1 : fldTy Try.prog 85 1 = some (1, 1, false) := by kernel_rfl
theorem par_137 : parTys Try.prog 137 = [83] := by kernel_rfl
theorem fldTy_87_0 : fldTy Try.prog 87 0 = some (0, 1, false) := by kernel_rfl
theorem fldTy_96_0 : fldTy Try.prog 96 0 = some (0, 1, false) := by kernel_rfl
theorem fldTy_87_1 : fldTy Try.prog 87 1 = some (1, 1, false) := by kernel_rfl
theorem fldTy_96_1 : fldTy Try.prog 96 1 = some (1, 1, false) := by kernel_rfl
theorem fldTy_87_2 : fldTy Try.prog 87 2 = some (2, 1, false) := by kernel_rfl
theorem fldTy_87_3 : fldTy Try.prog 87 3 = some (3, 1, false) := by kernel_rfl
theorem fldTy_96_3 : fldTy Try.prog 96 3 = some (3, 1, false) := by kernel_rfl
theorem fldTy_87_4 : fldTy Try.prog 87 4 = some (4, 1, false) := by kernel_rfl
theorem par_138 : parTys Try.prog 138 = [92] := by kernel_rfl
theorem par_139 : parTys Try.prog 139 = [96] := by kernel_rfl
theorem par_140 : parTys Try.prog 140 = [92] := by kernel_rfl
theorem mapTy_190 : mapTy Try.prog 190 = some ((.int .i64), 96) := by kernel_rfl
theorem par_141 : parTys Try.prog 141 = [96] := by kernel_rfl
theorem par_142 : parTys Try.prog 142 = [90, 194] := by kernel_rfl
theorem cty_90 : cty Try.prog 90 = [some (96, 6)] := by kernel_rfl
theorem cty_194 : cty Try.prog 194 = [none] := by kernel_rfl
theorem par_145 : parTys Try.prog 145 = [90, 90] := by kernel_rfl
theorem par_146 : parTys Try.prog 146 = [90, 3] := by kernel_rfl
theorem par_147 : parTys Try.prog 147 = [90, 3] := by kernel_rfl
theorem fldTy_107_3 : fldTy Try.prog 107 3 = some (3, 4, true) := by kernel_rfl
theorem fldTy_107_4 : fldTy Try.prog 107 4 = some (7, 4, true) := by kernel_rfl
theorem tySz_104 : tySz Try.prog 104 = some (4, true) := by kernel_rfl
theorem par_148 : parTys Try.prog 148 = [104, 3] := by kernel_rfl
theorem cty_104 : cty Try.prog 104 = [none, some (74, 3), none, some (39, 1)] := by kernel_rfl
theorem fldTy_107_5 : fldTy Try.prog 107 5 = some (11, 1, false) := by kernel_rfl
theorem tySz_105 : tySz Try.prog 105 = some (1, false) := by kernel_rfl
theorem par_149 : parTys Try.prog 149 = [105, 3] := by kernel_rfl
theorem cty_105 : cty Try.prog 105 = [some (243, 2)] := by kernel_rfl
theorem fldTy_112_0 : fldTy Try.prog 112 0 = some (0, 1, false) := by kernel_rfl
theorem fldTy_112_1 : fldTy Try.prog 112 1 = some (1, 1, false) := by kernel_rfl
theorem fldTy_112_6 : fldTy Try.prog 112 6 = some (12, 1, false) := by kernel_rfl
theorem fldTy_112_2 : fldTy Try.prog 112 2 = some (2, 1, false) := by kernel_rfl
theorem fldTy_112_3 : fldTy Try.prog 112 3 = some (3, 4, true) := by kernel_rfl
theorem fldTy_112_4 : fldTy Try.prog 112 4 = some (7, 4, true) := by kernel_rfl
theorem fldTy_112_5 : fldTy Try.prog 112 5 = some (11, 1, false) := by kernel_rfl
theorem tySz_110 : tySz Try.prog 110 = some (1, false) := by kernel_rfl
theorem elTy_110 : elTy Try.prog 110 = some (204, 2, 32) := by kernel_rfl
theorem par_150 : parTys Try.prog 150 = [61] := by kernel_rfl
theorem par_151 : parTys Try.prog 151 = [112] := by kernel_rfl
theorem fldTy_107_0 : fldTy Try.prog 107 0 = some (0, 1, false) := by kernel_rfl
theorem fldTy_107_1 : fldTy Try.prog 107 1 = some (1, 1, false) := by kernel_rfl
theorem fldTy_107_2 : fldTy Try.prog 107 2 = some (2, 1, false) := by kernel_rfl
theorem par_152 : parTys Try.prog 152 = [104] := by kernel_rfl
theorem par_153 : parTys Try.prog 153 = [105] := by kernel_rfl
theorem fldTy_107_6 : fldTy Try.prog 107 6 = some (12, 1, false) := by kernel_rfl
theorem par_154 : parTys Try.prog 154 = [61] := by kernel_rfl
theorem par_155 : parTys Try.prog 155 = [110, 206] := by kernel_rfl
theorem cty_110 : cty Try.prog 110 = [some (204, 2)] := by kernel_rfl
theorem cty_206 : cty Try.prog 206 = [none] := by kernel_rfl
theorem par_158 : parTys Try.prog 158 = [110, 110] := by kernel_rfl
theorem fldTy_117_0 : fldTy Try.prog 117 0 = some (0, 1, false) := by kernel_rfl
theorem tySz_56 : tySz Try.prog 56 = some (1, false) := by kernel_rfl
theorem fldTy_117_3 : fldTy Try.prog 117 3 = some (3, 1, false) := by kernel_rfl
theorem fldTy_117_5 : fldTy Try.prog 117 5 = some (5, 4, true) := by kernel_rfl
theorem fldTy_117_6 : fldTy Try.prog 117 6 = some (9, 4, true) := by kernel_rfl
theorem fldTy_121_0 : fldTy Try.prog 121 0 = some (0, 1, false) := by kernel_rfl
theorem fldTy_121_1 : fldTy Try.prog 121 1 = some (1, 1, false) := by kernel_rfl
theorem fldTy_121_5 : fldTy Try.prog 121 5 = some (5, 4, true) := by kernel_rfl
theorem fldTy_121_2 : fldTy Try.prog 121 2 = some (2, 1, false) := by kernel_rfl
theorem fldTy_121_3 : fldTy Try.prog 121 3 = some (3, 1, false) := by kernel_rfl
theorem par_159 : parTys Try.prog 159 = [58, 110] := by kernel_rfl
theorem fldTy_121_4 : fldTy Try.prog 121 4 = some (4, 1, false) := by kernel_rfl
theorem fldTy_121_6 : fldTy Try.prog 121 6 = some (9, 4, true) := by kernel_rfl
theorem par_160 : parTys Try.prog 160 = [58, 58] := by kernel_rfl
theorem fldTy_117_1 : fldTy Try.prog 117 1 = some (1, 1, false) := by kernel_rfl
theorem fldTy_117_2 : fldTy Try.prog 117 2 = some (2, 1, false) := by kernel_rfl
theorem fldTy_117_4 : fldTy Try.prog 117 4 = some (4, 1, false) := by kernel_rfl
theorem par_162 : parTys Try.prog 162 = [58, 58] := by kernel_rfl
theorem bldTy_121 : bldTy Try.prog 121 = some (.st [(0, 1), (1, 1), (2, 1), (3, 1), (4, 1), (5, 4), (9, 4)]) := by kernel_rfl
theorem par_163 : parTys Try.prog 163 = [58, 3, 3, 110] := by kernel_rfl
theorem par_164 : parTys Try.prog 164 = [251] := by kernel_rfl
theorem cty_251 : cty Try.prog 251 = [none] := by kernel_rfl
theorem par_165 : parTys Try.prog 165 = [110, 3] := by kernel_rfl
theorem par_166 : parTys Try.prog 166 = [110, 3] := by kernel_rfl
theorem elTy_22 : elTy Try.prog 22 = some (213, 7, 72) := by kernel_rfl
theorem ixTy_22 : ixTy Try.prog 22 = some (.sl (213, 7, 72)) := by kernel_rfl
theorem tySz_213 : tySz Try.prog 213 = some (7, true) := by kernel_rfl
theorem par_167 : parTys Try.prog 167 = [213, 3] := by kernel_rfl
theorem cty_213 : cty Try.prog 213 = [none, none, none, none, none, some (5, 1), none] := by kernel_rfl
theorem tySz_133 : tySz Try.prog 133 = some (7, true) := by kernel_rfl
theorem par_168 : parTys Try.prog 168 = [96] := by kernel_rfl
theorem par_169 : parTys Try.prog 169 = [213] := by kernel_rfl
theorem par_87 : parTys Try.prog 87 = [216, 133] := by kernel_rfl
theorem cty_216 : cty Try.prog 216 = [none] := by kernel_rfl
theorem ifcTy_9 : ifcTy Try.prog 9 = some () := by kernel_rfl
theorem cty_138 : cty Try.prog 138 = [none] := by kernel_rfl
theorem par_171 : parTys Try.prog 171 = [133, 133] := by kernel_rfl
theorem fldTy_145_2 : fldTy Try.prog 145 2 = some (2, 1, false) := by kernel_rfl
theorem par_172 : parTys Try.prog 172 = [78] := by kernel_rfl
theorem par_173 : parTys Try.prog 173 = [78, 151] := by kernel_rfl
theorem par_174 : parTys Try.prog 174 = [25, 25] := by kernel_rfl
theorem fldTy_145_0 : fldTy Try.prog 145 0 = some (0, 1, false) := by kernel_rfl
theorem fldTy_145_1 : fldTy Try.prog 145 1 = some (1, 1, false) := by kernel_rfl
theorem par_175 : parTys Try.prog 175 = [48, 155] := by kernel_rfl
theorem par_176 : parTys Try.prog 176 = [173, 3] := by kernel_rfl
theorem ixTy_59 : ixTy Try.prog 59 = some (.sl (39, 1, 24)) := by kernel_rfl
theorem par_177 : parTys Try.prog 177 = [39, 3] := by kernel_rfl
theorem cvTy_3_220 : cvTy Try.prog 3 220 = some (.int .u64) := by kernel_rfl
theorem cvTy_220_5 : cvTy Try.prog 220 5 = some (.int .u8) := by kernel_rfl
theorem par_178 : parTys Try.prog 178 = [58] := by kernel_rfl
theorem fldTy_163_0 : fldTy Try.prog 163 0 = some (0, 1, false) := by kernel_rfl
theorem fldTy_163_1 : fldTy Try.prog 163 1 = some (1, 1, false) := by kernel_rfl
theorem fldTy_163_2 : fldTy Try.prog 163 2 = some (2, 1, false) := by kernel_rfl
theorem par_179 : parTys Try.prog 179 = [39] := by kernel_rfl
theorem par_180 : parTys Try.prog 180 = [25] := by kernel_rfl
theorem cvTy_222_3 : cvTy Try.prog 222 3 = some (.int .i64) := by kernel_rfl
theorem par_88 : parTys Try.prog 88 = [25] := by kernel_rfl
theorem par_181 : parTys Try.prog 181 = [163] := by kernel_rfl
theorem par_183 : parTys Try.prog 183 = [39] := by kernel_rfl
theorem par_182 : parTys Try.prog 182 = [39] := by kernel_rfl
theorem ixTy_172 : ixTy Try.prog 172 = some (.sl (4, 1, 1)) := by kernel_rfl
theorem par_184 : parTys Try.prog 184 = [3] := by kernel_rfl
theorem ixTy_173 : ixTy Try.prog 173 = some (.sl (3, 1, 8)) := by kernel_rfl
theorem par_185 : parTys Try.prog 185 = [3, 3] := by kernel_rfl
theorem par_186 : parTys Try.prog 186 = [25] := by kernel_rfl
theorem par_187 : parTys Try.prog 187 = [172, 4] := by kernel_rfl
theorem bldTy_231 : bldTy Try.prog 231 = some (.st []) := by kernel_rfl
theorem zeroC_231 : zeroC Try.prog 231 = some [] := by kernel_rfl
theorem ifcTy_231 : ifcTy Try.prog 231 = some () := by kernel_rfl
theorem methF_231_246 : methF Try.prog 231 "loop.example/s01316/impl.build" = some 246 := by kernel_rfl
theorem methF_231_247 : methF Try.prog 231 "loop.example/s01316/impl.parts" = some 247 := by kernel_rfl
theorem methF_231_248 : methF Try.prog 231 "loop.example/s01316/impl.read" = some 248 := by kernel_rfl
theorem bldTy_233 : bldTy Try.prog 233 = some (.st [(0, 1)]) := by kernel_rfl
theorem zeroC_233 : zeroC Try.prog 233 = some [.v (.int .i64 0)] := by kernel_rfl
theorem ifcTy_233 : ifcTy Try.prog 233 = some () := by kernel_rfl
theorem methF_233_249 : methF Try.prog 233 "loop.example/s01316/impl.build" = some 249 := by kernel_rfl
theorem methF_233_250 : methF Try.prog 233 "loop.example/s01316/impl.parts" = some 250 := by kernel_rfl
theorem methF_233_251 : methF Try.prog 233 "loop.example/s01316/impl.read" = some 251 := by kernel_rfl
theorem bldTy_236 : bldTy Try.prog 236 = some (.st [(0, 0)]) := by kernel_rfl
theorem zeroC_236 : zeroC Try.prog 236 = some [] := by kernel_rfl
theorem ifcTy_236 : ifcTy Try.prog 236 = some () := by kernel_rfl
theorem methF_236_253 : methF Try.prog 236 "loop.example/s01316/impl.build" = some 253 := by kernel_rfl
theorem methF_236_254 : methF Try.prog 236 "loop.example/s01316/impl.parts" = some 254 := by kernel_rfl
theorem methF_236_255 : methF Try.prog 236 "loop.example/s01316/impl.read" = some 255 := by kernel_rfl
theorem bldTy_238 : bldTy Try.prog 238 = some (.st [(0, 1)]) := by kernel_rfl
theorem zeroC_238 : zeroC Try.prog 238 = some [.v (.slice none 0 0)] := by kernel_rfl
theorem ifcTy_238 : ifcTy Try.prog 238 = some () := by kernel_rfl
theorem methF_238_256 : methF Try.prog 238 "loop.example/s01316/impl.build" = some 256 := by kernel_rfl
theorem methF_238_257 : methF Try.prog 238 "loop.example/s01316/impl.parts" = some 257 := by kernel_rfl
theorem methF_238_258 : methF Try.prog 238 "loop.example/s01316/impl.read" = some 258 := by kernel_rfl
theorem cty_180 : cty Try.prog 180 = [none] := by kernel_rfl
theorem elTy_83 : elTy Try.prog 83 = some (87, 6, 64) := by kernel_rfl
theorem ixTy_83 : ixTy Try.prog 83 = some (.sl (87, 6, 64)) := by kernel_rfl
theorem cvTy_3_225 : cvTy Try.prog 3 225 = some (.int .u64) := by kernel_rfl
theorem par_189 : parTys Try.prog 189 = [225] := by kernel_rfl
theorem cty_225 : cty Try.prog 225 = [none] := by kernel_rfl
theorem par_188 : parTys Try.prog 188 = [90, 3, 3, 3, 194] := by kernel_rfl
theorem par_144 : parTys Try.prog 144 = [3, 3] := by kernel_rfl
theorem par_190 : parTys Try.prog 190 = [3] := by kernel_rfl
theorem fldTy_104_1 : fldTy Try.prog 104 1 = some (1, 1, false) := by kernel_rfl
theorem fldTy_104_3 : fldTy Try.prog 104 3 = some (3, 1, false) := by kernel_rfl
theorem par_191 : parTys Try.prog 191 = [59, 3] := by kernel_rfl
theorem elTy_105 : elTy Try.prog 105 = some (243, 2, 32) := by kernel_rfl
theorem ixTy_105 : ixTy Try.prog 105 = some (.sl (243, 2, 32)) := by kernel_rfl
theorem tySz_243 : tySz Try.prog 243 = some (2, true) := by kernel_rfl
theorem par_192 : parTys Try.prog 192 = [243, 3] := by kernel_rfl
theorem cty_243 : cty Try.prog 243 = [none, some (145, 3)] := by kernel_rfl
theorem fldTy_104_0 : fldTy Try.prog 104 0 = some (0, 1, false) := by kernel_rfl
theorem fldTy_104_2 : fldTy Try.prog 104 2 = some (2, 1, false) := by kernel_rfl
theorem par_193 : parTys Try.prog 193 = [59] := by kernel_rfl
theorem zeroC_204 : zeroC Try.prog 204 = some [.v (.int .i64 0), .v (.slice none 0 0)] := by kernel_rfl
theorem cty_204 : cty Try.prog 204 = [none, some (151, 3)] := by kernel_rfl
theorem par_194 : parTys Try.prog 194 = [243] := by kernel_rfl
theorem ixTy_110 : ixTy Try.prog 110 = some (.sl (204, 2, 32)) := by kernel_rfl
theorem tySz_204 : tySz Try.prog 204 = some (2, true) := by kernel_rfl
theorem par_195 : parTys Try.prog 195 = [110, 206] := by kernel_rfl
theorem par_157 : parTys Try.prog 157 = [58, 204] := by kernel_rfl
theorem fldTy_204_0 : fldTy Try.prog 204 0 = some (0, 1, false) := by kernel_rfl
theorem fldTy_204_1 : fldTy Try.prog 204 1 = some (1, 1, false) := by kernel_rfl
theorem tySz_48 : tySz Try.prog 48 = some (1, false) := by kernel_rfl
theorem par_196 : parTys Try.prog 196 = [204, 3] := by kernel_rfl
theorem par_197 : parTys Try.prog 197 = [204, 204] := by kernel_rfl
theorem par_198 : parTys Try.prog 198 = [58, 204] := by kernel_rfl
theorem par_199 : parTys Try.prog 199 = [58, 58, 80] := by kernel_rfl
theorem cty_80 : cty Try.prog 80 = [none] := by kernel_rfl
theorem par_201 : parTys Try.prog 201 = [110] := by kernel_rfl
theorem par_202 : parTys Try.prog 202 = [48, 3] := by kernel_rfl
theorem fldTy_213_0 : fldTy Try.prog 213 0 = some (0, 6, true) := by kernel_rfl
theorem fldTy_213_1 : fldTy Try.prog 213 1 = some (6, 1, false) := by kernel_rfl
theorem par_203 : parTys Try.prog 203 = [25] := by kernel_rfl
theorem par_204 : parTys Try.prog 204 = [173, 3] := by kernel_rfl
theorem par_205 : parTys Try.prog 205 = [173, 3] := by kernel_rfl
theorem par_206 : parTys Try.prog 206 = [173, 3] := by kernel_rfl
theorem par_207 : parTys Try.prog 207 = [173, 3] := by kernel_rfl
theorem intTy_3 : intTy Try.prog 3 = some () := by kernel_rfl
theorem cvTy_5_222 : cvTy Try.prog 5 222 = some (.int .u32) := by kernel_rfl
theorem cty_222 : cty Try.prog 222 = [none] := by kernel_rfl
theorem par_208 : parTys Try.prog 208 = [39] := by kernel_rfl
theorem par_209 : parTys Try.prog 209 = [25] := by kernel_rfl
theorem par_210 : parTys Try.prog 210 = [90, 3, 3, 194] := by kernel_rfl
theorem par_211 : parTys Try.prog 211 = [90, 3, 3, 194] := by kernel_rfl
theorem par_212 : parTys Try.prog 212 = [90, 3, 3, 194] := by kernel_rfl
theorem par_213 : parTys Try.prog 213 = [90, 3, 3, 194] := by kernel_rfl
theorem par_214 : parTys Try.prog 214 = [90, 3, 3, 194] := by kernel_rfl
theorem par_215 : parTys Try.prog 215 = [90, 3, 3, 194] := by kernel_rfl
theorem par_216 : parTys Try.prog 216 = [90, 3, 3, 3, 194] := by kernel_rfl
theorem par_217 : parTys Try.prog 217 = [90, 3, 3, 3, 194] := by kernel_rfl
theorem cvTy_225_222 : cvTy Try.prog 225 222 = some (.int .u32) := by kernel_rfl
theorem par_218 : parTys Try.prog 218 = [222] := by kernel_rfl
theorem par_219 : parTys Try.prog 219 = [220] := by kernel_rfl
theorem cty_220 : cty Try.prog 220 = [none] := by kernel_rfl
theorem fldTy_243_1 : fldTy Try.prog 243 1 = some (1, 1, false) := by kernel_rfl
theorem tySz_40 : tySz Try.prog 40 = some (1, false) := by kernel_rfl
theorem fldTy_243_0 : fldTy Try.prog 243 0 = some (0, 1, false) := by kernel_rfl
theorem par_220 : parTys Try.prog 220 = [204, 3] := by kernel_rfl
theorem par_221 : parTys Try.prog 221 = [204] := by kernel_rfl
theorem cvTy_3_252 : cvTy Try.prog 3 252 = some (.int .i8) := by kernel_rfl
theorem cvTy_252_3 : cvTy Try.prog 252 3 = some (.int .i64) := by kernel_rfl
theorem cvTy_3_253 : cvTy Try.prog 3 253 = some (.int .i16) := by kernel_rfl
theorem cvTy_253_3 : cvTy Try.prog 253 3 = some (.int .i64) := by kernel_rfl
theorem cvTy_3_21 : cvTy Try.prog 3 21 = some (.int .i32) := by kernel_rfl
theorem cvTy_21_3 : cvTy Try.prog 21 3 = some (.int .i64) := by kernel_rfl
theorem par_222 : parTys Try.prog 222 = [25, 3] := by kernel_rfl
theorem par_223 : parTys Try.prog 223 = [] := by kernel_rfl
theorem zeroC_265 : zeroC Try.prog 265 = some (List.replicate 256 (.v (.int .u32 0))) := by kernel_rfl
theorem tySz_265 : tySz Try.prog 265 = some (256, true) := by kernel_rfl
theorem cvTy_222_5 : cvTy Try.prog 222 5 = some (.int .u8) := by kernel_rfl
theorem ixTy_265 : ixTy Try.prog 265 = some (.ar 256 1) := by kernel_rfl
theorem tySz_222 : tySz Try.prog 222 = some (1, false) := by kernel_rfl
theorem par_224 : parTys Try.prog 224 = [90, 3, 3, 3, 194] := by kernel_rfl
theorem cvTy_3_267 : cvTy Try.prog 3 267 = some (.int .u64) := by kernel_rfl
theorem zeroC_267 : zeroC Try.prog 267 = some [.v (.int .u64 0)] := by kernel_rfl
theorem tySz_267 : tySz Try.prog 267 = some (1, false) := by kernel_rfl
theorem par_225 : parTys Try.prog 225 = [3] := by kernel_rfl
theorem par_226 : parTys Try.prog 226 = [273] := by kernel_rfl
theorem cty_273 : cty Try.prog 273 = [none] := by kernel_rfl
theorem cvTy_225_3 : cvTy Try.prog 225 3 = some (.int .i64) := by kernel_rfl
theorem par_227 : parTys Try.prog 227 = [90, 3, 271, 194] := by kernel_rfl
theorem cty_271 : cty Try.prog 271 = [none] := by kernel_rfl
theorem par_228 : parTys Try.prog 228 = [90, 3, 3, 3, 271, 194] := by kernel_rfl
theorem cty_255 : cty Try.prog 255 = [none] := by kernel_rfl
theorem cvTy_5_3 : cvTy Try.prog 5 3 = some (.int .i64) := by kernel_rfl
theorem bldTy_204 : bldTy Try.prog 204 = some (.st [(0, 1), (1, 1)]) := by kernel_rfl
theorem bldTy_151 : bldTy Try.prog 151 = some (.st [(0, 1), (1, 1), (2, 1)]) := by kernel_rfl
theorem bldTy_265 : bldTy Try.prog 265 = some (.ar 1) := by kernel_rfl
theorem cvTy_3_222 : cvTy Try.prog 3 222 = some (.int .u32) := by kernel_rfl
theorem cty_265 : cty Try.prog 265 = [none] := by kernel_rfl
theorem par_229 : parTys Try.prog 229 = [90, 3, 3, 271, 194] := by kernel_rfl
theorem tySz_231 : tySz Try.prog 231 = some (0, true) := by kernel_rfl
theorem tySz_233 : tySz Try.prog 233 = some (1, true) := by kernel_rfl
theorem fldTy_233_0 : fldTy Try.prog 233 0 = some (0, 1, false) := by kernel_rfl
theorem tySz_234 : tySz Try.prog 234 = some (0, true) := by kernel_rfl
theorem tySz_236 : tySz Try.prog 236 = some (0, true) := by kernel_rfl
theorem fldTy_236_0 : fldTy Try.prog 236 0 = some (0, 0, true) := by kernel_rfl
theorem par_252 : parTys Try.prog 252 = [234, 48] := by kernel_rfl
theorem cty_234 : cty Try.prog 234 = [] := by kernel_rfl
theorem tySz_238 : tySz Try.prog 238 = some (1, true) := by kernel_rfl
theorem fldTy_238_0 : fldTy Try.prog 238 0 = some (0, 1, false) := by kernel_rfl
theorem par_259 : parTys Try.prog 259 = [39, 25] := by kernel_rfl
theorem par_260 : parTys Try.prog 260 = [39, 215] := by kernel_rfl
theorem cty_215 : cty Try.prog 215 = [none] := by kernel_rfl
theorem res_3 : Try.f3.results.toList = [.tmp 4] := rfl
theorem rty_3 : Try.f3.resultTypes.toList = [4] := rfl
theorem res_4 : Try.f4.results.toList = [.tmp 4] := rfl
theorem rty_4 : Try.f4.resultTypes.toList = [4] := rfl
theorem res_5 : Try.f5.results.toList = [.tmp 4] := rfl
theorem rty_5 : Try.f5.resultTypes.toList = [4] := rfl
theorem res_6 : Try.f6.results.toList = [.tmp 2] := rfl
theorem rty_6 : Try.f6.resultTypes.toList = [4] := rfl
theorem res_7 : Try.f7.results.toList = [.tmp 6] := rfl
theorem rty_7 : Try.f7.resultTypes.toList = [4] := rfl
theorem res_8 : Try.f8.results.toList = [.tmp 4] := rfl
theorem rty_8 : Try.f8.resultTypes.toList = [4] := rfl
theorem res_9 : Try.f9.results.toList = [.tmp 2] := rfl
theorem rty_9 : Try.f9.resultTypes.toList = [4] := rfl
theorem res_10 : Try.f10.results.toList = [.tmp 2] := rfl
theorem rty_10 : Try.f10.resultTypes.toList = [4] := rfl
theorem res_11 : Try.f11.results.toList = [.tmp 2] := rfl
theorem rty_11 : Try.f11.resultTypes.toList = [4] := rfl
theorem res_12 : Try.f12.results.toList = [.tmp 4] := rfl
theorem rty_12 : Try.f12.resultTypes.toList = [3] := rfl
theorem res_13 : Try.f13.results.toList = [.cell 4 29, .tmp 5] := rfl
theorem rty_13 : Try.f13.resultTypes.toList = [29, 3] := rfl
theorem res_14 : Try.f14.results.toList = [.cell 2 29] := rfl
theorem rty_14 : Try.f14.resultTypes.toList = [29] := rfl
theorem res_15 : Try.f15.results.toList = [.tmp 2] := rfl
theorem rty_15 : Try.f15.resultTypes.toList = [25] := rfl
theorem res_16 : Try.f16.results.toList = [.cell 4 29, .tmp 5] := rfl
theorem rty_16 : Try.f16.resultTypes.toList = [29, 3] := rfl
theorem res_17 : Try.f17.results.toList = [.tmp 4] := rfl
theorem rty_17 : Try.f17.resultTypes.toList = [4] := rfl
theorem res_18 : Try.f18.results.toList = [.tmp 4] := rfl
theorem rty_18 : Try.f18.resultTypes.toList = [4] := rfl
theorem res_19 : Try.f19.results.toList = [.tmp 4] := rfl
theorem rty_19 : Try.f19.resultTypes.toList = [3] := rfl
theorem res_20 : Try.f20.results.toList = [.tmp 4] := rfl
theorem rty_20 : Try.f20.resultTypes.toList = [3] := rfl
theorem res_21 : Try.f21.results.toList = [.tmp 4] := rfl
theorem rty_21 : Try.f21.resultTypes.toList = [3] := rfl
theorem res_22 : Try.f22.results.toList = [.tmp 4] := rfl
theorem rty_22 : Try.f22.resultTypes.toList = [3] := rfl
theorem res_23 : Try.f23.results.toList = [.tmp 4] := rfl
theorem rty_23 : Try.f23.resultTypes.toList = [3] := rfl
theorem res_24 : Try.f24.results.toList = [.cell 4 44, .tmp 5] := rfl
theorem rty_24 : Try.f24.resultTypes.toList = [44, 3] := rfl
theorem res_25 : Try.f25.results.toList = [.tmp 2] := rfl
theorem rty_25 : Try.f25.resultTypes.toList = [39] := rfl
theorem res_26 : Try.f26.results.toList = [.tmp 2] := rfl
theorem rty_26 : Try.f26.resultTypes.toList = [48] := rfl
theorem res_27 : Try.f27.results.toList = [.cell 4 44, .tmp 5] := rfl
theorem rty_27 : Try.f27.resultTypes.toList = [44, 3] := rfl
theorem res_28 : Try.f28.results.toList = [.tmp 4] := rfl
theorem rty_28 : Try.f28.resultTypes.toList = [4] := rfl
theorem res_29 : Try.f29.results.toList = [.tmp 4] := rfl
theorem rty_29 : Try.f29.resultTypes.toList = [4] := rfl
theorem res_30 : Try.f30.results.toList = [.tmp 4] := rfl
theorem rty_30 : Try.f30.resultTypes.toList = [4] := rfl
theorem res_31 : Try.f31.results.toList = [.tmp 4] := rfl
theorem rty_31 : Try.f31.resultTypes.toList = [3] := rfl
theorem res_32 : Try.f32.results.toList = [.tmp 4] := rfl
theorem rty_32 : Try.f32.resultTypes.toList = [3] := rfl
theorem res_33 : Try.f33.results.toList = [.tmp 4] := rfl
theorem rty_33 : Try.f33.resultTypes.toList = [3] := rfl
theorem res_34 : Try.f34.results.toList = [.tmp 4] := rfl
theorem rty_34 : Try.f34.resultTypes.toList = [3] := rfl
theorem res_35 : Try.f35.results.toList = [.tmp 4] := rfl
theorem rty_35 : Try.f35.resultTypes.toList = [3] := rfl
theorem res_36 : Try.f36.results.toList = [.cell 4 61, .tmp 5, .tmp 6] := rfl
theorem rty_36 : Try.f36.resultTypes.toList = [61, 25, 3] := rfl
theorem res_37 : Try.f37.results.toList = [.tmp 2] := rfl
theorem rty_37 : Try.f37.resultTypes.toList = [58] := rfl
theorem res_38 : Try.f38.results.toList = [.cell 4 61, .tmp 5, .tmp 6] := rfl
theorem rty_38 : Try.f38.resultTypes.toList = [61, 25, 3] := rfl
theorem res_39 : Try.f39.results.toList = [.tmp 4] := rfl
theorem rty_39 : Try.f39.resultTypes.toList = [4] := rfl
theorem res_40 : Try.f40.results.toList = [.tmp 4] := rfl
theorem rty_40 : Try.f40.resultTypes.toList = [4] := rfl
theorem res_41 : Try.f41.results.toList = [.tmp 4] := rfl
theorem rty_41 : Try.f41.resultTypes.toList = [3] := rfl
theorem res_42 : Try.f42.results.toList = [.tmp 4] := rfl
theorem rty_42 : Try.f42.resultTypes.toList = [3] := rfl
theorem res_43 : Try.f43.results.toList = [.tmp 4] := rfl
theorem rty_43 : Try.f43.resultTypes.toList = [3] := rfl
theorem res_44 : Try.f44.results.toList = [.tmp 4] := rfl
theorem rty_44 : Try.f44.resultTypes.toList = [3] := rfl
theorem res_45 : Try.f45.results.toList = [.cell 2 29, .tmp 3, .tmp 4] := rfl
theorem rty_45 : Try.f45.resultTypes.toList = [29, 39, 3] := rfl
theorem res_46 : Try.f46.results.toList = [.cell 2 29, .tmp 3, .tmp 4] := rfl
theorem rty_46 : Try.f46.resultTypes.toList = [29, 39, 3] := rfl
theorem res_47 : Try.f47.results.toList = [.tmp 4] := rfl
theorem rty_47 : Try.f47.resultTypes.toList = [3] := rfl
theorem res_48 : Try.f48.results.toList = [.tmp 4] := rfl
theorem rty_48 : Try.f48.resultTypes.toList = [3] := rfl
theorem res_49 : Try.f49.results.toList = [.tmp 6, .tmp 7] := rfl
theorem rty_49 : Try.f49.resultTypes.toList = [39, 3] := rfl
theorem res_50 : Try.f50.results.toList = [.cell 2 78] := rfl
theorem rty_50 : Try.f50.resultTypes.toList = [78] := rfl
theorem res_51 : Try.f51.results.toList = [.tmp 6, .tmp 7] := rfl
theorem rty_51 : Try.f51.resultTypes.toList = [39, 3] := rfl
theorem res_52 : Try.f52.results.toList = [.tmp 4] := rfl
theorem rty_52 : Try.f52.resultTypes.toList = [4] := rfl
theorem res_53 : Try.f53.results.toList = [.tmp 4] := rfl
theorem rty_53 : Try.f53.resultTypes.toList = [3] := rfl
theorem res_54 : Try.f54.results.toList = [.tmp 4] := rfl
theorem rty_54 : Try.f54.resultTypes.toList = [3] := rfl
theorem res_55 : Try.f55.results.toList = [.tmp 4] := rfl
theorem rty_55 : Try.f55.resultTypes.toList = [3] := rfl
theorem res_56 : Try.f56.results.toList = [.cell 4 92, .tmp 5, .tmp 6] := rfl
theorem rty_56 : Try.f56.resultTypes.toList = [92, 39, 3] := rfl
theorem res_57 : Try.f57.results.toList = [.cell 2 92] := rfl
theorem rty_57 : Try.f57.resultTypes.toList = [92] := rfl
theorem res_58 : Try.f58.results.toList = [.cell 2 96] := rfl
theorem rty_58 : Try.f58.resultTypes.toList = [96] := rfl
theorem res_59 : Try.f59.results.toList = [.cell 4 92, .tmp 5, .tmp 6] := rfl
theorem rty_59 : Try.f59.resultTypes.toList = [92, 39, 3] := rfl
theorem res_60 : Try.f60.results.toList = [.tmp 4] := rfl
theorem rty_60 : Try.f60.resultTypes.toList = [4] := rfl
theorem res_61 : Try.f61.results.toList = [.tmp 4] := rfl
theorem rty_61 : Try.f61.resultTypes.toList = [4] := rfl
theorem res_62 : Try.f62.results.toList = [.tmp 4] := rfl
theorem rty_62 : Try.f62.resultTypes.toList = [3] := rfl
theorem res_63 : Try.f63.results.toList = [.tmp 4] := rfl
theorem rty_63 : Try.f63.resultTypes.toList = [3] := rfl
theorem res_64 : Try.f64.results.toList = [.tmp 4] := rfl
theorem rty_64 : Try.f64.resultTypes.toList = [3] := rfl
theorem res_65 : Try.f65.results.toList = [.tmp 4] := rfl
theorem rty_65 : Try.f65.resultTypes.toList = [3] := rfl
theorem res_66 : Try.f66.results.toList = [.tmp 2] := rfl
theorem rty_66 : Try.f66.resultTypes.toList = [4] := rfl
theorem res_67 : Try.f67.results.toList = [.cell 2 112] := rfl
theorem rty_67 : Try.f67.resultTypes.toList = [112] := rfl
theorem res_68 : Try.f68.results.toList = [.tmp 2] := rfl
theorem rty_68 : Try.f68.resultTypes.toList = [4] := rfl
theorem res_69 : Try.f69.results.toList = [.tmp 4] := rfl
theorem rty_69 : Try.f69.resultTypes.toList = [4] := rfl
theorem res_70 : Try.f70.results.toList = [.tmp 4] := rfl
theorem rty_70 : Try.f70.resultTypes.toList = [3] := rfl
theorem res_71 : Try.f71.results.toList = [.tmp 2] := rfl
theorem rty_71 : Try.f71.resultTypes.toList = [4] := rfl
theorem res_72 : Try.f72.results.toList = [.cell 2 121] := rfl
theorem rty_72 : Try.f72.resultTypes.toList = [121] := rfl
theorem res_73 : Try.f73.results.toList = [.tmp 2] := rfl
theorem rty_73 : Try.f73.resultTypes.toList = [4] := rfl
theorem res_74 : Try.f74.results.toList = [.tmp 4] := rfl
theorem rty_74 : Try.f74.resultTypes.toList = [4] := rfl
theorem res_75 : Try.f75.results.toList = [.cell 2 121, .tmp 3] := rfl
theorem rty_75 : Try.f75.resultTypes.toList = [121, 3] := rfl
theorem res_76 : Try.f76.results.toList = [.cell 2 121, .tmp 3] := rfl
theorem rty_76 : Try.f76.resultTypes.toList = [121, 3] := rfl
theorem res_77 : Try.f77.results.toList = [.tmp 4] := rfl
theorem rty_77 : Try.f77.resultTypes.toList = [3] := rfl
theorem res_78 : Try.f78.results.toList = [.tmp 4] := rfl
theorem rty_78 : Try.f78.resultTypes.toList = [3] := rfl
theorem res_79 : Try.f79.results.toList = [.tmp 4] := rfl
theorem rty_79 : Try.f79.resultTypes.toList = [3] := rfl
theorem res_80 : Try.f80.results.toList = [.tmp 2] := rfl
theorem rty_80 : Try.f80.resultTypes.toList = [4] := rfl
theorem res_81 : Try.f81.results.toList = [.cell 2 29] := rfl
theorem rty_81 : Try.f81.resultTypes.toList = [29] := rfl
theorem res_82 : Try.f82.results.toList = [.tmp 2] := rfl
theorem rty_82 : Try.f82.resultTypes.toList = [25] := rfl
theorem res_83 : Try.f83.results.toList = [.tmp 2] := rfl
theorem rty_83 : Try.f83.resultTypes.toList = [27] := rfl
theorem res_84 : Try.f84.results.toList = [.tmp 2] := rfl
theorem rty_84 : Try.f84.resultTypes.toList = [4] := rfl
theorem res_85 : Try.f85.results.toList = [.cell 2 29] := rfl
theorem rty_85 : Try.f85.resultTypes.toList = [29] := rfl
theorem res_86 : Try.f86.results.toList = [.tmp 4] := rfl
theorem rty_86 : Try.f86.resultTypes.toList = [138] := rfl
theorem res_87 : Try.f87.results.toList = [] := rfl
theorem rty_87 : Try.f87.resultTypes.toList = [] := rfl
theorem res_88 : Try.f88.results.toList = [.tmp 2] := rfl
theorem rty_88 : Try.f88.resultTypes.toList = [25] := rfl
theorem res_89 : Try.f89.results.toList = [.tmp 4] := rfl
theorem rty_89 : Try.f89.resultTypes.toList = [4] := rfl
theorem res_90 : Try.f90.results.toList = [.tmp 4] := rfl
theorem rty_90 : Try.f90.resultTypes.toList = [3] := rfl
theorem res_91 : Try.f91.results.toList = [.tmp 4] := rfl
theorem rty_91 : Try.f91.resultTypes.toList = [3] := rfl
theorem res_92 : Try.f92.results.toList = [.tmp 4] := rfl
theorem rty_92 : Try.f92.resultTypes.toList = [3] := rfl
theorem res_93 : Try.f93.results.toList = [.tmp 4] := rfl
theorem rty_93 : Try.f93.resultTypes.toList = [3] := rfl
theorem res_94 : Try.f94.results.toList = [.tmp 2] := rfl
theorem rty_94 : Try.f94.resultTypes.toList = [4] := rfl
theorem res_95 : Try.f95.results.toList = [.tmp 4] := rfl
theorem rty_95 : Try.f95.resultTypes.toList = [4] := rfl
theorem res_96 : Try.f96.results.toList = [.tmp 4] := rfl
theorem rty_96 : Try.f96.resultTypes.toList = [39] := rfl
theorem res_97 : Try.f97.results.toList = [.tmp 4] := rfl
theorem rty_97 : Try.f97.resultTypes.toList = [3] := rfl
theorem res_98 : Try.f98.results.toList = [.tmp 2] := rfl
theorem rty_98 : Try.f98.resultTypes.toList = [39] := rfl
theorem res_99 : Try.f99.results.toList = [.tmp 4] := rfl
theorem rty_99 : Try.f99.resultTypes.toList = [39] := rfl
theorem res_100 : Try.f100.results.toList = [.cell 2 151] := rfl
theorem rty_100 : Try.f100.resultTypes.toList = [151] := rfl
theorem res_101 : Try.f101.results.toList = [.tmp 2] := rfl
theorem rty_101 : Try.f101.resultTypes.toList = [4] := rfl
theorem res_102 : Try.f102.results.toList = [.tmp 4] := rfl
theorem rty_102 : Try.f102.resultTypes.toList = [4] := rfl
theorem res_103 : Try.f103.results.toList = [.tmp 2] := rfl
theorem rty_103 : Try.f103.resultTypes.toList = [4] := rfl
theorem res_104 : Try.f104.results.toList = [.tmp 4] := rfl
theorem rty_104 : Try.f104.resultTypes.toList = [4] := rfl
theorem res_105 : Try.f105.results.toList = [.tmp 4] := rfl
theorem rty_105 : Try.f105.resultTypes.toList = [4] := rfl
theorem res_106 : Try.f106.results.toList = [.tmp 2] := rfl
theorem rty_106 : Try.f106.resultTypes.toList = [39] := rfl
theorem res_107 : Try.f107.results.toList = [.tmp 2] := rfl
theorem rty_107 : Try.f107.resultTypes.toList = [39] := rfl
theorem res_108 : Try.f108.results.toList = [.tmp 4] := rfl
theorem rty_108 : Try.f108.resultTypes.toList = [39] := rfl
theorem res_109 : Try.f109.results.toList = [.tmp 4] := rfl
theorem rty_109 : Try.f109.resultTypes.toList = [4] := rfl
theorem res_110 : Try.f110.results.toList = [.tmp 2] := rfl
theorem rty_110 : Try.f110.resultTypes.toList = [4] := rfl
theorem res_111 : Try.f111.results.toList = [.tmp 4] := rfl
theorem rty_111 : Try.f111.resultTypes.toList = [25] := rfl
theorem res_112 : Try.f112.results.toList = [.cell 4 61] := rfl
theorem rty_112 : Try.f112.resultTypes.toList = [61] := rfl
theorem res_113 : Try.f113.results.toList = [.tmp 2] := rfl
theorem rty_113 : Try.f113.resultTypes.toList = [25] := rfl
theorem res_114 : Try.f114.results.toList = [.tmp 2] := rfl
theorem rty_114 : Try.f114.resultTypes.toList = [4] := rfl
theorem res_115 : Try.f115.results.toList = [.tmp 4] := rfl
theorem rty_115 : Try.f115.resultTypes.toList = [25] := rfl
theorem res_116 : Try.f116.results.toList = [.tmp 2] := rfl
theorem rty_116 : Try.f116.resultTypes.toList = [58] := rfl
theorem res_117 : Try.f117.results.toList = [.tmp 2] := rfl
theorem rty_117 : Try.f117.resultTypes.toList = [25] := rfl
theorem res_118 : Try.f118.results.toList = [.tmp 4] := rfl
theorem rty_118 : Try.f118.resultTypes.toList = [4] := rfl
theorem res_119 : Try.f119.results.toList = [.tmp 4] := rfl
theorem rty_119 : Try.f119.resultTypes.toList = [3] := rfl
theorem res_120 : Try.f120.results.toList = [.tmp 4] := rfl
theorem rty_120 : Try.f120.resultTypes.toList = [3] := rfl
theorem res_121 : Try.f121.results.toList = [.tmp 4] := rfl
theorem rty_121 : Try.f121.resultTypes.toList = [3] := rfl
theorem res_122 : Try.f122.results.toList = [.tmp 2] := rfl
theorem rty_122 : Try.f122.resultTypes.toList = [25] := rfl
theorem res_123 : Try.f123.results.toList = [.tmp 2] := rfl
theorem rty_123 : Try.f123.resultTypes.toList = [25] := rfl
theorem res_124 : Try.f124.results.toList = [.tmp 2] := rfl
theorem rty_124 : Try.f124.resultTypes.toList = [25] := rfl
theorem res_125 : Try.f125.results.toList = [.tmp 2] := rfl
theorem rty_125 : Try.f125.resultTypes.toList = [25] := rfl
theorem res_126 : Try.f126.results.toList = [.tmp 2] := rfl
theorem rty_126 : Try.f126.resultTypes.toList = [39] := rfl
theorem res_127 : Try.f127.results.toList = [.tmp 4, .tmp 5] := rfl
theorem rty_127 : Try.f127.resultTypes.toList = [25, 3] := rfl
theorem res_128 : Try.f128.results.toList = [.tmp 2] := rfl
theorem rty_128 : Try.f128.resultTypes.toList = [4] := rfl
theorem res_129 : Try.f129.results.toList = [.tmp 4] := rfl
theorem rty_129 : Try.f129.resultTypes.toList = [4] := rfl
theorem res_130 : Try.f130.results.toList = [.tmp 2] := rfl
theorem rty_130 : Try.f130.resultTypes.toList = [25] := rfl
theorem res_131 : Try.f131.results.toList = [.tmp 4] := rfl
theorem rty_131 : Try.f131.resultTypes.toList = [180] := rfl
theorem res_132 : Try.f132.results.toList = [.tmp 4] := rfl
theorem rty_132 : Try.f132.resultTypes.toList = [3] := rfl
theorem res_133 : Try.f133.results.toList = [.tmp 2] := rfl
theorem rty_133 : Try.f133.resultTypes.toList = [4] := rfl
theorem res_134 : Try.f134.results.toList = [.tmp 4] := rfl
theorem rty_134 : Try.f134.resultTypes.toList = [4] := rfl
theorem res_135 : Try.f135.results.toList = [.cell 2 92] := rfl
theorem rty_135 : Try.f135.resultTypes.toList = [92] := rfl
theorem res_136 : Try.f136.results.toList = [.cell 2 96] := rfl
theorem rty_136 : Try.f136.resultTypes.toList = [96] := rfl
theorem res_137 : Try.f137.results.toList = [.tmp 2] := rfl
theorem rty_137 : Try.f137.resultTypes.toList = [90] := rfl
theorem res_138 : Try.f138.results.toList = [.tmp 2] := rfl
theorem rty_138 : Try.f138.resultTypes.toList = [4] := rfl
theorem res_139 : Try.f139.results.toList = [.tmp 2] := rfl
theorem rty_139 : Try.f139.resultTypes.toList = [4] := rfl
theorem res_140 : Try.f140.results.toList = [.cell 2 92] := rfl
theorem rty_140 : Try.f140.resultTypes.toList = [92] := rfl
theorem res_141 : Try.f141.results.toList = [.cell 2 96] := rfl
theorem rty_141 : Try.f141.resultTypes.toList = [96] := rfl
theorem res_142 : Try.f142.results.toList = [] := rfl
theorem rty_142 : Try.f142.resultTypes.toList = [] := rfl
theorem res_143 : Try.f143.results.toList = [.tmp 4] := rfl
theorem rty_143 : Try.f143.resultTypes.toList = [3] := rfl
theorem res_144 : Try.f144.results.toList = [.tmp 4] := rfl
theorem rty_144 : Try.f144.resultTypes.toList = [3] := rfl
theorem res_145 : Try.f145.results.toList = [.tmp 4] := rfl
theorem rty_145 : Try.f145.resultTypes.toList = [4] := rfl
theorem res_146 : Try.f146.results.toList = [.tmp 4] := rfl
theorem rty_146 : Try.f146.resultTypes.toList = [3] := rfl
theorem res_147 : Try.f147.results.toList = [.tmp 4] := rfl
theorem rty_147 : Try.f147.resultTypes.toList = [3] := rfl
theorem res_148 : Try.f148.results.toList = [.tmp 4] := rfl
theorem rty_148 : Try.f148.resultTypes.toList = [3] := rfl
theorem res_149 : Try.f149.results.toList = [.tmp 4] := rfl
theorem rty_149 : Try.f149.resultTypes.toList = [3] := rfl
theorem res_150 : Try.f150.results.toList = [.tmp 2] := rfl
theorem rty_150 : Try.f150.resultTypes.toList = [4] := rfl
theorem res_151 : Try.f151.results.toList = [.tmp 2] := rfl
theorem rty_151 : Try.f151.resultTypes.toList = [4] := rfl
theorem res_152 : Try.f152.results.toList = [.cell 2 61] := rfl
theorem rty_152 : Try.f152.resultTypes.toList = [61] := rfl
theorem res_153 : Try.f153.results.toList = [.tmp 2] := rfl
theorem rty_153 : Try.f153.resultTypes.toList = [110] := rfl
theorem res_154 : Try.f154.results.toList = [.tmp 2] := rfl
theorem rty_154 : Try.f154.resultTypes.toList = [4] := rfl
theorem res_155 : Try.f155.results.toList = [.tmp 4] := rfl
theorem rty_155 : Try.f155.resultTypes.toList = [4] := rfl
theorem res_156 : Try.f156.results.toList = [.tmp 3] := rfl
theorem rty_156 : Try.f156.resultTypes.toList = [4] := rfl
theorem res_157 : Try.f157.results.toList = [.tmp 4] := rfl
theorem rty_157 : Try.f157.resultTypes.toList = [4] := rfl
theorem res_158 : Try.f158.results.toList = [.tmp 4] := rfl
theorem rty_158 : Try.f158.resultTypes.toList = [4] := rfl
theorem res_159 : Try.f159.results.toList = [.tmp 4] := rfl
theorem rty_159 : Try.f159.resultTypes.toList = [4] := rfl
theorem res_160 : Try.f160.results.toList = [.tmp 4] := rfl
theorem rty_160 : Try.f160.resultTypes.toList = [4] := rfl
theorem res_161 : Try.f161.results.toList = [.tmp 3] := rfl
theorem rty_161 : Try.f161.resultTypes.toList = [4] := rfl
theorem res_162 : Try.f162.results.toList = [.tmp 4] := rfl
theorem rty_162 : Try.f162.resultTypes.toList = [4] := rfl
theorem res_163 : Try.f163.results.toList = [.cell 8 121] := rfl
theorem rty_163 : Try.f163.resultTypes.toList = [121] := rfl
theorem res_164 : Try.f164.results.toList = [] := rfl
theorem rty_164 : Try.f164.resultTypes.toList = [] := rfl
theorem res_165 : Try.f165.results.toList = [.tmp 4] := rfl
theorem rty_165 : Try.f165.resultTypes.toList = [3] := rfl
theorem res_166 : Try.f166.results.toList = [.tmp 4] := rfl
theorem rty_166 : Try.f166.resultTypes.toList = [3] := rfl
theorem res_167 : Try.f167.results.toList = [.tmp 4] := rfl
theorem rty_167 : Try.f167.resultTypes.toList = [3] := rfl
theorem res_168 : Try.f168.results.toList = [.tmp 2] := rfl
theorem rty_168 : Try.f168.resultTypes.toList = [4] := rfl
theorem res_169 : Try.f169.results.toList = [.cell 2 133] := rfl
theorem rty_169 : Try.f169.resultTypes.toList = [133] := rfl
theorem res_170 : Try.f170.results.toList = [] := rfl
theorem rty_170 : Try.f170.resultTypes.toList = [] := rfl
theorem res_171 : Try.f171.results.toList = [.tmp 4] := rfl
theorem rty_171 : Try.f171.resultTypes.toList = [4] := rfl
theorem res_172 : Try.f172.results.toList = [.tmp 2] := rfl
theorem rty_172 : Try.f172.resultTypes.toList = [4] := rfl
theorem res_173 : Try.f173.results.toList = [.tmp 4] := rfl
theorem rty_173 : Try.f173.resultTypes.toList = [4] := rfl
theorem res_174 : Try.f174.results.toList = [.tmp 4] := rfl
theorem rty_174 : Try.f174.resultTypes.toList = [4] := rfl
theorem res_175 : Try.f175.results.toList = [.tmp 4] := rfl
theorem rty_175 : Try.f175.resultTypes.toList = [3] := rfl
theorem res_176 : Try.f176.results.toList = [.tmp 4, .tmp 5] := rfl
theorem rty_176 : Try.f176.resultTypes.toList = [25, 3] := rfl
theorem res_177 : Try.f177.results.toList = [.tmp 4] := rfl
theorem rty_177 : Try.f177.resultTypes.toList = [39] := rfl
theorem res_178 : Try.f178.results.toList = [.tmp 2] := rfl
theorem rty_178 : Try.f178.resultTypes.toList = [58] := rfl
theorem res_179 : Try.f179.results.toList = [.tmp 2] := rfl
theorem rty_179 : Try.f179.resultTypes.toList = [25] := rfl
theorem res_180 : Try.f180.results.toList = [.tmp 2] := rfl
theorem rty_180 : Try.f180.resultTypes.toList = [222] := rfl
theorem res_181 : Try.f181.results.toList = [.tmp 2] := rfl
theorem rty_181 : Try.f181.resultTypes.toList = [4] := rfl
theorem res_182 : Try.f182.results.toList = [.tmp 2] := rfl
theorem rty_182 : Try.f182.resultTypes.toList = [25] := rfl
theorem res_183 : Try.f183.results.toList = [.tmp 2] := rfl
theorem rty_183 : Try.f183.resultTypes.toList = [25] := rfl
theorem res_184 : Try.f184.results.toList = [.tmp 2] := rfl
theorem rty_184 : Try.f184.resultTypes.toList = [4] := rfl
theorem res_185 : Try.f185.results.toList = [.tmp 4] := rfl
theorem rty_185 : Try.f185.resultTypes.toList = [4] := rfl
theorem res_186 : Try.f186.results.toList = [.tmp 2] := rfl
theorem rty_186 : Try.f186.resultTypes.toList = [4] := rfl
theorem res_187 : Try.f187.results.toList = [.tmp 4] := rfl
theorem rty_187 : Try.f187.resultTypes.toList = [3] := rfl
theorem res_188 : Try.f188.results.toList = [] := rfl
theorem rty_188 : Try.f188.resultTypes.toList = [] := rfl
theorem res_189 : Try.f189.results.toList = [.tmp 2] := rfl
theorem rty_189 : Try.f189.resultTypes.toList = [3] := rfl
theorem res_190 : Try.f190.results.toList = [.tmp 2] := rfl
theorem rty_190 : Try.f190.resultTypes.toList = [4] := rfl
theorem res_191 : Try.f191.results.toList = [.tmp 4] := rfl
theorem rty_191 : Try.f191.resultTypes.toList = [3] := rfl
theorem res_192 : Try.f192.results.toList = [.tmp 4] := rfl
theorem rty_192 : Try.f192.resultTypes.toList = [3] := rfl
theorem res_193 : Try.f193.results.toList = [.tmp 2] := rfl
theorem rty_193 : Try.f193.resultTypes.toList = [59] := rfl
theorem res_194 : Try.f194.results.toList = [.cell 2 204] := rfl
theorem rty_194 : Try.f194.resultTypes.toList = [204] := rfl
theorem res_195 : Try.f195.results.toList = [.tmp 4] := rfl
theorem rty_195 : Try.f195.resultTypes.toList = [3] := rfl
theorem res_196 : Try.f196.results.toList = [.tmp 4] := rfl
theorem rty_196 : Try.f196.resultTypes.toList = [48] := rfl
theorem res_197 : Try.f197.results.toList = [.tmp 4] := rfl
theorem rty_197 : Try.f197.resultTypes.toList = [4] := rfl
theorem res_198 : Try.f198.results.toList = [.tmp 4] := rfl
theorem rty_198 : Try.f198.resultTypes.toList = [4] := rfl
theorem res_199 : Try.f199.results.toList = [.tmp 6] := rfl
theorem rty_199 : Try.f199.resultTypes.toList = [4] := rfl
theorem res_200 : Try.f200.results.toList = [.tmp 4] := rfl
theorem rty_200 : Try.f200.resultTypes.toList = [4] := rfl
theorem res_201 : Try.f201.results.toList = [.tmp 2] := rfl
theorem rty_201 : Try.f201.resultTypes.toList = [110] := rfl
theorem res_202 : Try.f202.results.toList = [.tmp 4] := rfl
theorem rty_202 : Try.f202.resultTypes.toList = [3] := rfl
theorem res_203 : Try.f203.results.toList = [.tmp 2] := rfl
theorem rty_203 : Try.f203.resultTypes.toList = [4] := rfl
theorem res_204 : Try.f204.results.toList = [.tmp 4, .tmp 5] := rfl
theorem rty_204 : Try.f204.resultTypes.toList = [25, 3] := rfl
theorem res_205 : Try.f205.results.toList = [.tmp 4, .tmp 5] := rfl
theorem rty_205 : Try.f205.resultTypes.toList = [25, 3] := rfl
theorem res_206 : Try.f206.results.toList = [.tmp 4, .tmp 5] := rfl
theorem rty_206 : Try.f206.resultTypes.toList = [25, 3] := rfl
theorem res_207 : Try.f207.results.toList = [.tmp 4, .tmp 5] := rfl
theorem rty_207 : Try.f207.resultTypes.toList = [25, 3] := rfl
theorem res_208 : Try.f208.results.toList = [.tmp 2] := rfl
theorem rty_208 : Try.f208.resultTypes.toList = [25] := rfl
theorem res_209 : Try.f209.results.toList = [.tmp 2] := rfl
theorem rty_209 : Try.f209.resultTypes.toList = [222] := rfl
theorem res_210 : Try.f210.results.toList = [] := rfl
theorem rty_210 : Try.f210.resultTypes.toList = [] := rfl
theorem res_211 : Try.f211.results.toList = [] := rfl
theorem rty_211 : Try.f211.resultTypes.toList = [] := rfl
theorem res_212 : Try.f212.results.toList = [] := rfl
theorem rty_212 : Try.f212.resultTypes.toList = [] := rfl
theorem res_213 : Try.f213.results.toList = [.tmp 8, .tmp 9] := rfl
theorem rty_213 : Try.f213.resultTypes.toList = [3, 255] := rfl
theorem res_214 : Try.f214.results.toList = [] := rfl
theorem rty_214 : Try.f214.resultTypes.toList = [] := rfl
theorem res_215 : Try.f215.results.toList = [.tmp 8] := rfl
theorem rty_215 : Try.f215.resultTypes.toList = [4] := rfl
theorem res_216 : Try.f216.results.toList = [.tmp 10] := rfl
theorem rty_216 : Try.f216.resultTypes.toList = [3] := rfl
theorem res_217 : Try.f217.results.toList = [.tmp 10, .tmp 11] := rfl
theorem rty_217 : Try.f217.resultTypes.toList = [3, 4] := rfl
theorem res_218 : Try.f218.results.toList = [.tmp 2] := rfl
theorem rty_218 : Try.f218.resultTypes.toList = [3] := rfl
theorem res_219 : Try.f219.results.toList = [.tmp 2] := rfl
theorem rty_219 : Try.f219.resultTypes.toList = [3] := rfl
theorem res_220 : Try.f220.results.toList = [.tmp 4] := rfl
theorem rty_220 : Try.f220.resultTypes.toList = [48] := rfl
theorem res_221 : Try.f221.results.toList = [.cell 2 204] := rfl
theorem rty_221 : Try.f221.resultTypes.toList = [204] := rfl
theorem res_222 : Try.f222.results.toList = [.tmp 4] := rfl
theorem rty_222 : Try.f222.resultTypes.toList = [25] := rfl
theorem res_223 : Try.f223.results.toList = [.cell 0 265] := rfl
theorem rty_223 : Try.f223.resultTypes.toList = [265] := rfl
theorem res_224 : Try.f224.results.toList = [] := rfl
theorem rty_224 : Try.f224.resultTypes.toList = [] := rfl
theorem res_225 : Try.f225.results.toList = [.tmp 2] := rfl
theorem rty_225 : Try.f225.resultTypes.toList = [225] := rfl
theorem res_226 : Try.f226.results.toList = [.tmp 2] := rfl
theorem rty_226 : Try.f226.resultTypes.toList = [220] := rfl
theorem res_227 : Try.f227.results.toList = [.tmp 8] := rfl
theorem rty_227 : Try.f227.resultTypes.toList = [3] := rfl
theorem res_228 : Try.f228.results.toList = [.tmp 12] := rfl
theorem rty_228 : Try.f228.resultTypes.toList = [3] := rfl
theorem res_229 : Try.f229.results.toList = [.tmp 10, .tmp 11] := rfl
theorem rty_229 : Try.f229.resultTypes.toList = [3, 3] := rfl
theorem res_230 : Try.f230.results.toList = [] := rfl
theorem rty_230 : Try.f230.resultTypes.toList = [9] := rfl
theorem res_231 : Try.f231.results.toList = [] := rfl
theorem rty_231 : Try.f231.resultTypes.toList = [] := rfl
theorem res_232 : Try.f232.results.toList = [] := rfl
theorem rty_232 : Try.f232.resultTypes.toList = [9] := rfl
theorem res_233 : Try.f233.results.toList = [] := rfl
theorem rty_233 : Try.f233.resultTypes.toList = [] := rfl
theorem res_234 : Try.f234.results.toList = [] := rfl
theorem rty_234 : Try.f234.resultTypes.toList = [9] := rfl
theorem res_235 : Try.f235.results.toList = [] := rfl
theorem rty_235 : Try.f235.resultTypes.toList = [] := rfl
theorem res_236 : Try.f236.results.toList = [] := rfl
theorem rty_236 : Try.f236.resultTypes.toList = [9] := rfl
theorem res_237 : Try.f237.results.toList = [] := rfl
theorem rty_237 : Try.f237.resultTypes.toList = [] := rfl
theorem res_238 : Try.f238.results.toList = [] := rfl
theorem rty_238 : Try.f238.resultTypes.toList = [9] := rfl
theorem res_239 : Try.f239.results.toList = [] := rfl
theorem rty_239 : Try.f239.resultTypes.toList = [] := rfl
theorem res_240 : Try.f240.results.toList = [] := rfl
theorem rty_240 : Try.f240.resultTypes.toList = [9] := rfl
theorem res_241 : Try.f241.results.toList = [] := rfl
theorem rty_241 : Try.f241.resultTypes.toList = [] := rfl
theorem res_242 : Try.f242.results.toList = [] := rfl
theorem rty_242 : Try.f242.resultTypes.toList = [3] := rfl
theorem res_243 : Try.f243.results.toList = [] := rfl
theorem rty_243 : Try.f243.resultTypes.toList = [9] := rfl
theorem res_244 : Try.f244.results.toList = [] := rfl
theorem rty_244 : Try.f244.resultTypes.toList = [] := rfl
theorem res_245 : Try.f245.results.toList = [] := rfl
theorem rty_245 : Try.f245.resultTypes.toList = [] := rfl
theorem res_246 : Try.f246.results.toList = [.tmp 4, .tmp 5] := rfl
theorem rty_246 : Try.f246.resultTypes.toList = [39, 3] := rfl
theorem res_247 : Try.f247.results.toList = [] := rfl
theorem rty_247 : Try.f247.resultTypes.toList = [3] := rfl
theorem res_248 : Try.f248.results.toList = [] := rfl
theorem rty_248 : Try.f248.resultTypes.toList = [48, 3] := rfl
theorem res_249 : Try.f249.results.toList = [.tmp 4, .tmp 5] := rfl
theorem rty_249 : Try.f249.resultTypes.toList = [39, 3] := rfl
theorem res_250 : Try.f250.results.toList = [] := rfl
theorem rty_250 : Try.f250.resultTypes.toList = [3] := rfl
theorem res_251 : Try.f251.results.toList = [] := rfl
theorem rty_251 : Try.f251.resultTypes.toList = [48, 3] := rfl
theorem res_252 : Try.f252.results.toList = [.tmp 4, .tmp 5] := rfl
theorem rty_252 : Try.f252.resultTypes.toList = [25, 3] := rfl
theorem res_253 : Try.f253.results.toList = [.tmp 4, .tmp 5] := rfl
theorem rty_253 : Try.f253.resultTypes.toList = [39, 3] := rfl
theorem res_254 : Try.f254.results.toList = [] := rfl
theorem rty_254 : Try.f254.resultTypes.toList = [3] := rfl
theorem res_255 : Try.f255.results.toList = [] := rfl
theorem rty_255 : Try.f255.resultTypes.toList = [48, 3] := rfl
theorem res_256 : Try.f256.results.toList = [.tmp 4, .tmp 5] := rfl
theorem rty_256 : Try.f256.resultTypes.toList = [39, 3] := rfl
theorem res_257 : Try.f257.results.toList = [] := rfl
theorem rty_257 : Try.f257.resultTypes.toList = [3] := rfl
theorem res_258 : Try.f258.results.toList = [] := rfl
theorem rty_258 : Try.f258.resultTypes.toList = [48, 3] := rfl
theorem res_259 : Try.f259.results.toList = [.tmp 4] := rfl
theorem rty_259 : Try.f259.resultTypes.toList = [3] := rfl
theorem res_260 : Try.f260.results.toList = [.tmp 4] := rfl
theorem rty_260 : Try.f260.resultTypes.toList = [3] := rfl
theorem res_261 : Try.f261.results.toList = [.tmp 3] := rfl
theorem rty_261 : Try.f261.resultTypes.toList = [4] := rfl
theorem res_262 : Try.f262.results.toList = [] := rfl
theorem rty_262 : Try.f262.resultTypes.toList = [9] := rfl
attribute [go_sem] tySz_24 elTy_25 par_12 cty_24 cty_3 par_14 par_15 cty_25 par_13 cty_29 zeroC_29 tySz_29 par_16 par_17 par_18 par_19 par_20 par_21 cty_4 par_22 cty_39 par_23 cty_40 par_25 par_26 par_24 cty_48 zeroC_44 tySz_44 par_27 par_28 cty_44 par_29 par_30 par_31 par_32 par_33 par_34 par_35 cty_56 par_37 par_36 cty_58 zeroC_61 tySz_61 par_38 par_39 cty_61 par_40 par_41 par_42 par_43 par_44 par_45 par_46 par_47 tySz_74 par_48 cty_74 par_50 par_49 cty_78 zeroC_78 tySz_78 par_51 par_52 par_53 tySz_85 tySz_87 par_54 cty_85 par_55 cty_87 par_57 par_58 par_56 cty_92 cty_96 zeroC_92 tySz_92 zeroC_96 tySz_96 par_59 par_60 par_61 par_62 par_63 par_64 tySz_107 par_65 cty_107 par_67 par_66 cty_112 zeroC_112 tySz_112 par_68 boolTy_4 par_69 tySz_117 par_70 cty_117 par_72 par_71 cty_121 zeroC_121 tySz_121 par_73 par_74 par_75 par_76 par_77 par_78 fldTy_24_3 tySz_22 par_79 cty_22 par_80 bldTy_29 par_81 fldTy_29_3 tySz_27 elTy_27 fldTy_29_1 tySz_3 fldTy_29_0 par_82 bldTy_96 bldTy_133 zeroC_133 cty_133 fldTy_24_0 fldTy_24_1 fldTy_24_2 fldTy_29_2 par_83 zeroC_5 cty_5 ixTy_25 tySz_5 par_84 par_85 zeroC_3 bldTy_136 zeroC_136 tySz_136 par_86 fldTy_136_0 par_89 cty_27 par_90 cvTy_3_5 par_91 elTy_39 ixTy_39 tySz_25 par_92 elTy_40 ixTy_40 tySz_145 par_93 cty_145 bldTy_78 par_94 par_95 bldTy_44 par_96 par_97 zeroC_25 par_98 par_99 elTy_48 zeroC_151 cty_151 par_100 ixTy_48 tySz_151 par_101 par_102 cty_155 mapTy_156 cvTy_25_9 fldTy_151_0 tySz_4 fldTy_151_2 par_105 zeroV_3 par_106 elTy_59 zeroC_39 par_107 cty_59 par_108 fldTy_44_0 fldTy_44_1 tySz_39 fldTy_44_2 par_109 fldTy_151_1 elTy_56 ixTy_56 par_110 bldTy_61 elTy_58 par_111 bldTy_163 zeroC_163 tySz_163 ixTy_58 fldTy_163_3 fldTy_78_1 fldTy_78_2 fldTy_78_0 par_112 par_113 cty_163 par_114 par_115 par_116 par_117 fldTy_61_0 fldTy_61_1 tySz_58 fldTy_61_2 fldTy_61_3 tySz_59 par_118 par_119 par_120 par_121 ixTy_27 fldTy_133_1 fldTy_133_0 par_122 par_123 fldTy_74_0 par_124 elTy_172 zeroC_4 elTy_173 par_125 cty_172 par_126 par_127 cty_173 fldTy_74_1 fldTy_74_2 par_128 par_104 par_129 par_130 par_131 fldTy_85_2 tySz_83 par_132 cty_83 fldTy_85_3 fldTy_87_5 par_133 fldTy_92_0 par_134 bldTy_92 fldTy_96_2 fldTy_92_1 par_135 elTy_90 fldTy_92_2 tySz_90 ixTy_90 par_136 fldTy_92_3 fldTy_96_5 fldTy_96_4 fldTy_85_0 fldTy_85_1 par_137 fldTy_87_0 fldTy_96_0 fldTy_87_1 fldTy_96_1 fldTy_87_2 fldTy_87_3 fldTy_96_3 fldTy_87_4 par_138 par_139 par_140 mapTy_190 par_141 par_142 cty_90 cty_194 par_145 par_146 par_147 fldTy_107_3 fldTy_107_4 tySz_104 par_148 cty_104 fldTy_107_5 tySz_105 par_149 cty_105 fldTy_112_0 fldTy_112_1 fldTy_112_6 fldTy_112_2 fldTy_112_3 fldTy_112_4 fldTy_112_5 tySz_110 elTy_110 par_150 par_151 fldTy_107_0 fldTy_107_1 fldTy_107_2 par_152 par_153 fldTy_107_6 par_154 par_155 cty_110 cty_206 par_158 fldTy_117_0 tySz_56 fldTy_117_3 fldTy_117_5 fldTy_117_6 fldTy_121_0 fldTy_121_1 fldTy_121_5 fldTy_121_2 fldTy_121_3 par_159 fldTy_121_4 fldTy_121_6 par_160 fldTy_117_1 fldTy_117_2 fldTy_117_4 par_162 bldTy_121 par_163 par_164 cty_251 par_165 par_166 elTy_22 ixTy_22 tySz_213 par_167 cty_213 tySz_133 par_168 par_169 par_87 cty_216 ifcTy_9 cty_138 par_171 fldTy_145_2 par_172 par_173 par_174 fldTy_145_0 fldTy_145_1 par_175 par_176 ixTy_59 par_177 cvTy_3_220 cvTy_220_5 par_178 fldTy_163_0 fldTy_163_1 fldTy_163_2 par_179 par_180 cvTy_222_3 par_88 par_181 par_183 par_182 ixTy_172 par_184 ixTy_173 par_185 par_186 par_187 bldTy_231 zeroC_231 ifcTy_231 methF_231_246 methF_231_247 methF_231_248 bldTy_233 zeroC_233 ifcTy_233 methF_233_249 methF_233_250 methF_233_251 bldTy_236 zeroC_236 ifcTy_236 methF_236_253 methF_236_254 methF_236_255 bldTy_238 zeroC_238 ifcTy_238 methF_238_256 methF_238_257 methF_238_258 cty_180 elTy_83 ixTy_83 cvTy_3_225 par_189 cty_225 par_188 par_144 par_190 fldTy_104_1 fldTy_104_3 par_191 elTy_105 ixTy_105 tySz_243 par_192 cty_243 fldTy_104_0 fldTy_104_2 par_193 zeroC_204 cty_204 par_194 ixTy_110 tySz_204 par_195 par_157 fldTy_204_0 fldTy_204_1 tySz_48 par_196 par_197 par_198 par_199 cty_80 par_201 par_202 fldTy_213_0 fldTy_213_1 par_203 par_204 par_205 par_206 par_207 intTy_3 cvTy_5_222 cty_222 par_208 par_209 par_210 par_211 par_212 par_213 par_214 par_215 par_216 par_217 cvTy_225_222 par_218 par_219 cty_220 fldTy_243_1 tySz_40 fldTy_243_0 par_220 par_221 cvTy_3_252 cvTy_252_3 cvTy_3_253 cvTy_253_3 cvTy_3_21 cvTy_21_3 par_222 par_223 zeroC_265 tySz_265 cvTy_222_5 ixTy_265 tySz_222 par_224 cvTy_3_267 zeroC_267 tySz_267 par_225 par_226 cty_273 cvTy_225_3 par_227 cty_271 par_228 cty_255 cvTy_5_3 bldTy_204 bldTy_151 bldTy_265 cvTy_3_222 cty_265 par_229 tySz_231 tySz_233 fldTy_233_0 tySz_234 tySz_236 fldTy_236_0 par_252 cty_234 tySz_238 fldTy_238_0 par_259 par_260 cty_215
end Go.Ev
