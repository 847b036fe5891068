/- What the given program's table of types and functions says, by reckoning. (Printed by a program of ours.) -/
import Derived.Test.YtpicohffjdndjaaEvr
import Derived.Test.YtpicohffjdndjaaProg
import Derived.KernelRfl
namespace Go.Ev
open Go Go.Proofs
theorem mixed : Try.prog.follows .mixedOrders = true := by kernel_rfl
theorem par_15 : parTys Try.prog 15 = [22, 3] := by kernel_rfl
theorem cty_22 : cty Try.prog 22 = [some (37, 1)] := by kernel_rfl
theorem cty_3 : cty Try.prog 3 = [none] := by kernel_rfl
theorem par_17 : parTys Try.prog 17 = [22] := by kernel_rfl
theorem par_16 : parTys Try.prog 16 = [22] := by kernel_rfl
theorem par_18 : parTys Try.prog 18 = [22] := by kernel_rfl
theorem boolTy_4 : boolTy Try.prog 4 = some () := by kernel_rfl
theorem par_19 : parTys Try.prog 19 = [22, 22] := by kernel_rfl
theorem cty_4 : cty Try.prog 4 = [none] := by kernel_rfl
theorem par_20 : parTys Try.prog 20 = [27, 3] := by kernel_rfl
theorem cty_27 : cty Try.prog 27 = [some (120, 3)] := by kernel_rfl
theorem par_22 : parTys Try.prog 22 = [27] := by kernel_rfl
theorem par_21 : parTys Try.prog 21 = [30] := by kernel_rfl
theorem cty_30 : cty Try.prog 30 = [some (96, 3)] := by kernel_rfl
theorem par_23 : parTys Try.prog 23 = [30] := by kernel_rfl
theorem par_24 : parTys Try.prog 24 = [30, 30] := by kernel_rfl
theorem par_25 : parTys Try.prog 25 = [22, 3, 22] := by kernel_rfl
theorem par_26 : parTys Try.prog 26 = [22, 3, 22] := by kernel_rfl
theorem par_27 : parTys Try.prog 27 = [22, 3] := by kernel_rfl
theorem par_28 : parTys Try.prog 28 = [22, 3] := by kernel_rfl
theorem tySz_39 : tySz Try.prog 39 = some (6, true) := by kernel_rfl
theorem par_29 : parTys Try.prog 29 = [39, 3] := by kernel_rfl
theorem cty_39 : cty Try.prog 39 = [none, none, none, none, none, some (5, 1)] := by kernel_rfl
theorem par_31 : parTys Try.prog 31 = [39] := by kernel_rfl
theorem par_30 : parTys Try.prog 30 = [42] := by kernel_rfl
theorem cty_42 : cty Try.prog 42 = [none, none, none, none, none, some (5, 1)] := by kernel_rfl
theorem zeroC_42 : zeroC Try.prog 42 = some [.v (.int .i64 0), .v (.int .i64 0), .v (.int .i64 0), .v (.int .i64 0), .v (.bool false), .v (.slice none 0 0)] := by kernel_rfl
theorem tySz_42 : tySz Try.prog 42 = some (6, true) := by kernel_rfl
theorem par_32 : parTys Try.prog 32 = [42] := by kernel_rfl
theorem par_33 : parTys Try.prog 33 = [37, 37] := by kernel_rfl
theorem cty_37 : cty Try.prog 37 = [some (5, 1)] := by kernel_rfl
theorem par_34 : parTys Try.prog 34 = [42, 42] := by kernel_rfl
theorem par_35 : parTys Try.prog 35 = [42, 3] := by kernel_rfl
theorem par_36 : parTys Try.prog 36 = [37, 3] := by kernel_rfl
theorem par_37 : parTys Try.prog 37 = [37, 3] := by kernel_rfl
theorem elTy_37 : elTy Try.prog 37 = some (5, 1, 1) := by kernel_rfl
theorem par_38 : parTys Try.prog 38 = [37] := by kernel_rfl
theorem par_40 : parTys Try.prog 40 = [49] := by kernel_rfl
theorem cty_49 : cty Try.prog 49 = [some (4, 1)] := by kernel_rfl
theorem elTy_49 : elTy Try.prog 49 = some (4, 1, 1) := by kernel_rfl
theorem par_39 : parTys Try.prog 39 = [37, 3] := by kernel_rfl
theorem ixTy_49 : ixTy Try.prog 49 = some (.sl (4, 1, 1)) := by kernel_rfl
theorem tySz_4 : tySz Try.prog 4 = some (1, false) := by kernel_rfl
theorem par_41 : parTys Try.prog 41 = [37] := by kernel_rfl
theorem par_42 : parTys Try.prog 42 = [37, 3] := by kernel_rfl
theorem zeroC_5 : zeroC Try.prog 5 = some [.v (.int .u8 0)] := by kernel_rfl
theorem cty_5 : cty Try.prog 5 = [none] := by kernel_rfl
theorem par_43 : parTys Try.prog 43 = [37, 37] := by kernel_rfl
theorem par_44 : parTys Try.prog 44 = [37] := by kernel_rfl
theorem par_45 : parTys Try.prog 45 = [56, 3] := by kernel_rfl
theorem cty_56 : cty Try.prog 56 = [some (3, 1)] := by kernel_rfl
theorem elTy_56 : elTy Try.prog 56 = some (3, 1, 8) := by kernel_rfl
theorem zeroC_3 : zeroC Try.prog 3 = some [.v (.int .i64 0)] := by kernel_rfl
theorem par_46 : parTys Try.prog 46 = [56, 3] := by kernel_rfl
theorem par_47 : parTys Try.prog 47 = [37, 3] := by kernel_rfl
theorem par_48 : parTys Try.prog 48 = [56, 56] := by kernel_rfl
theorem par_49 : parTys Try.prog 49 = [37] := by kernel_rfl
theorem par_50 : parTys Try.prog 50 = [22] := by kernel_rfl
theorem elTy_22 : elTy Try.prog 22 = some (37, 1, 24) := by kernel_rfl
theorem ixTy_22 : ixTy Try.prog 22 = some (.sl (37, 1, 24)) := by kernel_rfl
theorem tySz_37 : tySz Try.prog 37 = some (1, false) := by kernel_rfl
theorem ixTy_37 : ixTy Try.prog 37 = some (.sl (5, 1, 1)) := by kernel_rfl
theorem tySz_5 : tySz Try.prog 5 = some (1, false) := by kernel_rfl
theorem par_52 : parTys Try.prog 52 = [37] := by kernel_rfl
theorem par_51 : parTys Try.prog 51 = [37] := by kernel_rfl
theorem par_53 : parTys Try.prog 53 = [37] := by kernel_rfl
theorem par_54 : parTys Try.prog 54 = [42, 3] := by kernel_rfl
theorem tySz_69 : tySz Try.prog 69 = some (4, true) := by kernel_rfl
theorem par_55 : parTys Try.prog 55 = [69, 3] := by kernel_rfl
theorem cty_69 : cty Try.prog 69 = [none, none, none, some (37, 1)] := by kernel_rfl
theorem par_57 : parTys Try.prog 57 = [69] := by kernel_rfl
theorem par_56 : parTys Try.prog 56 = [72] := by kernel_rfl
theorem cty_72 : cty Try.prog 72 = [none, none, none, some (37, 1)] := by kernel_rfl
theorem zeroC_72 : zeroC Try.prog 72 = some [.v (.int .i64 0), .v (.int .i64 0), .v (.int .i64 0), .v (.slice none 0 0)] := by kernel_rfl
theorem tySz_72 : tySz Try.prog 72 = some (4, true) := by kernel_rfl
theorem par_58 : parTys Try.prog 58 = [72] := by kernel_rfl
theorem par_59 : parTys Try.prog 59 = [72, 72] := by kernel_rfl
theorem par_60 : parTys Try.prog 60 = [72, 3] := by kernel_rfl
theorem tySz_79 : tySz Try.prog 79 = some (4, true) := by kernel_rfl
theorem par_61 : parTys Try.prog 61 = [79, 3] := by kernel_rfl
theorem cty_79 : cty Try.prog 79 = [none, some (120, 3), none, some (22, 1)] := by kernel_rfl
theorem par_63 : parTys Try.prog 63 = [79] := by kernel_rfl
theorem par_62 : parTys Try.prog 62 = [83] := by kernel_rfl
theorem cty_83 : cty Try.prog 83 = [none, some (96, 3), none, some (22, 1)] := by kernel_rfl
theorem zeroC_83 : zeroC Try.prog 83 = some [.v (.bool false), .v (.slice none 0 0), .v (.int .i64 0), .v (.slice none 0 0)] := by kernel_rfl
theorem tySz_83 : tySz Try.prog 83 = some (4, true) := by kernel_rfl
theorem par_64 : parTys Try.prog 64 = [83] := by kernel_rfl
theorem par_65 : parTys Try.prog 65 = [83, 83] := by kernel_rfl
theorem par_66 : parTys Try.prog 66 = [37] := by kernel_rfl
theorem par_67 : parTys Try.prog 67 = [37] := by kernel_rfl
theorem par_68 : parTys Try.prog 68 = [72, 3] := by kernel_rfl
theorem par_69 : parTys Try.prog 69 = [37, 3] := by kernel_rfl
theorem zeroC_37 : zeroC Try.prog 37 = some [.v (.slice none 0 0)] := by kernel_rfl
theorem bldTy_72 : bldTy Try.prog 72 = some (.st [(0, 1), (1, 1), (2, 1), (3, 1)]) := by kernel_rfl
theorem bldTy_91 : bldTy Try.prog 91 = some (.st [(0, 1), (1, 1), (2, 1), (3, 1)]) := by kernel_rfl
theorem zeroC_91 : zeroC Try.prog 91 = some [.v (.int .i64 0), .v (.int .i64 0), .v (.int .i64 0), .v (.slice none 0 0)] := by kernel_rfl
theorem tySz_91 : tySz Try.prog 91 = some (4, true) := by kernel_rfl
theorem par_70 : parTys Try.prog 70 = [91, 37] := by kernel_rfl
theorem cty_91 : cty Try.prog 91 = [none, none, none, some (157, 7)] := by kernel_rfl
theorem par_71 : parTys Try.prog 71 = [91, 91] := by kernel_rfl
theorem bldTy_42 : bldTy Try.prog 42 = some (.st [(0, 1), (1, 1), (2, 1), (3, 1), (4, 1), (5, 1)]) := by kernel_rfl
theorem cvTy_3_5 : cvTy Try.prog 3 5 = some (.int .u8) := by kernel_rfl
theorem bldTy_96 : bldTy Try.prog 96 = some (.st [(0, 1), (1, 1), (2, 1)]) := by kernel_rfl
theorem zeroC_96 : zeroC Try.prog 96 = some [.v (.slice none 0 0), .v (.int .i64 0), .v (.int .i64 0)] := by kernel_rfl
theorem elTy_30 : elTy Try.prog 30 = some (96, 3, 40) := by kernel_rfl
theorem cty_96 : cty Try.prog 96 = [some (5, 1), none, none] := by kernel_rfl
theorem elTy_98 : elTy Try.prog 98 = some (160, 3, 40) := by kernel_rfl
theorem zeroC_160 : zeroC Try.prog 160 = some [.v (.bool false), .v (.int .i64 0), .v (.slice none 0 0)] := by kernel_rfl
theorem cty_160 : cty Try.prog 160 = [none, none, some (5, 1)] := by kernel_rfl
theorem bldTy_100 : bldTy Try.prog 100 = some (.st [(0, 1), (1, 1)]) := by kernel_rfl
theorem zeroC_100 : zeroC Try.prog 100 = some [.v (.int .i64 0), .v (.slice none 0 0)] := by kernel_rfl
theorem par_72 : parTys Try.prog 72 = [30, 100] := by kernel_rfl
theorem cty_100 : cty Try.prog 100 = [none, some (160, 3)] := by kernel_rfl
theorem tySz_103 : tySz Try.prog 103 = some (4, true) := by kernel_rfl
theorem par_73 : parTys Try.prog 73 = [103, 3] := by kernel_rfl
theorem cty_103 : cty Try.prog 103 = [none, none, none, some (180, 7)] := by kernel_rfl
theorem par_75 : parTys Try.prog 75 = [103] := by kernel_rfl
theorem par_74 : parTys Try.prog 74 = [91, 3] := by kernel_rfl
theorem par_76 : parTys Try.prog 76 = [91, 3] := by kernel_rfl
theorem par_77 : parTys Try.prog 77 = [91, 91] := by kernel_rfl
theorem par_78 : parTys Try.prog 78 = [91, 3] := by kernel_rfl
theorem par_79 : parTys Try.prog 79 = [91, 3] := by kernel_rfl
theorem tySz_111 : tySz Try.prog 111 = some (2, true) := by kernel_rfl
theorem par_80 : parTys Try.prog 80 = [111, 3] := by kernel_rfl
theorem cty_111 : cty Try.prog 111 = [none, some (184, 3)] := by kernel_rfl
theorem par_82 : parTys Try.prog 82 = [111] := by kernel_rfl
theorem par_81 : parTys Try.prog 81 = [30, 100] := by kernel_rfl
theorem tySz_100 : tySz Try.prog 100 = some (2, true) := by kernel_rfl
theorem par_83 : parTys Try.prog 83 = [100, 100] := by kernel_rfl
theorem par_84 : parTys Try.prog 84 = [37, 3] := by kernel_rfl
theorem par_85 : parTys Try.prog 85 = [22, 37] := by kernel_rfl
theorem mapTy_117 : mapTy Try.prog 117 = some (.string, 3) := by kernel_rfl
theorem cvTy_37_9 : cvTy Try.prog 37 9 = some .bytes := by kernel_rfl
theorem zeroV_3 : zeroV Try.prog 3 = some (.int .i64 0) := by kernel_rfl
theorem elTy_27 : elTy Try.prog 27 = some (120, 3, 40) := by kernel_rfl
theorem ixTy_27 : ixTy Try.prog 27 = some (.sl (120, 3, 40)) := by kernel_rfl
theorem tySz_120 : tySz Try.prog 120 = some (3, true) := by kernel_rfl
theorem par_86 : parTys Try.prog 86 = [120, 3] := by kernel_rfl
theorem cty_120 : cty Try.prog 120 = [some (5, 1), none, none] := by kernel_rfl
theorem ixTy_30 : ixTy Try.prog 30 = some (.sl (96, 3, 40)) := by kernel_rfl
theorem tySz_96 : tySz Try.prog 96 = some (3, true) := by kernel_rfl
theorem par_87 : parTys Try.prog 87 = [96] := by kernel_rfl
theorem fldTy_96_0 : fldTy Try.prog 96 0 = some (0, 1, false) := by kernel_rfl
theorem par_88 : parTys Try.prog 88 = [37, 37] := by kernel_rfl
theorem par_89 : parTys Try.prog 89 = [120] := by kernel_rfl
theorem par_90 : parTys Try.prog 90 = [96] := by kernel_rfl
theorem par_91 : parTys Try.prog 91 = [96, 96] := by kernel_rfl
theorem par_92 : parTys Try.prog 92 = [22, 22] := by kernel_rfl
theorem par_93 : parTys Try.prog 93 = [22] := by kernel_rfl
theorem elTy_77 : elTy Try.prog 77 = some (22, 1, 24) := by kernel_rfl
theorem zeroC_22 : zeroC Try.prog 22 = some [.v (.slice none 0 0)] := by kernel_rfl
theorem par_94 : parTys Try.prog 94 = [77] := by kernel_rfl
theorem cty_77 : cty Try.prog 77 = [some (22, 1)] := by kernel_rfl
theorem par_95 : parTys Try.prog 95 = [22] := by kernel_rfl
theorem fldTy_39_5 : fldTy Try.prog 39 5 = some (5, 1, false) := by kernel_rfl
theorem par_96 : parTys Try.prog 96 = [42] := by kernel_rfl
theorem fldTy_42_4 : fldTy Try.prog 42 4 = some (4, 1, false) := by kernel_rfl
theorem fldTy_42_0 : fldTy Try.prog 42 0 = some (0, 1, false) := by kernel_rfl
theorem tySz_3 : tySz Try.prog 3 = some (1, false) := by kernel_rfl
theorem fldTy_42_1 : fldTy Try.prog 42 1 = some (1, 1, false) := by kernel_rfl
theorem par_97 : parTys Try.prog 97 = [3, 3] := by kernel_rfl
theorem fldTy_42_2 : fldTy Try.prog 42 2 = some (2, 1, false) := by kernel_rfl
theorem fldTy_42_3 : fldTy Try.prog 42 3 = some (3, 1, false) := by kernel_rfl
theorem fldTy_42_5 : fldTy Try.prog 42 5 = some (5, 1, false) := by kernel_rfl
theorem par_98 : parTys Try.prog 98 = [37] := by kernel_rfl
theorem cvTy_128_3 : cvTy Try.prog 128 3 = some (.int .i64) := by kernel_rfl
theorem fldTy_39_0 : fldTy Try.prog 39 0 = some (0, 1, false) := by kernel_rfl
theorem fldTy_39_1 : fldTy Try.prog 39 1 = some (1, 1, false) := by kernel_rfl
theorem fldTy_39_2 : fldTy Try.prog 39 2 = some (2, 1, false) := by kernel_rfl
theorem fldTy_39_3 : fldTy Try.prog 39 3 = some (3, 1, false) := by kernel_rfl
theorem fldTy_39_4 : fldTy Try.prog 39 4 = some (4, 1, false) := by kernel_rfl
theorem par_99 : parTys Try.prog 99 = [42] := by kernel_rfl
theorem par_101 : parTys Try.prog 101 = [3, 3] := by kernel_rfl
theorem par_100 : parTys Try.prog 100 = [22] := by kernel_rfl
theorem par_102 : parTys Try.prog 102 = [37] := by kernel_rfl
theorem par_103 : parTys Try.prog 103 = [131] := by kernel_rfl
theorem cty_131 : cty Try.prog 131 = [none] := by kernel_rfl
theorem zeroC_4 : zeroC Try.prog 4 = some [.v (.bool false)] := by kernel_rfl
theorem par_104 : parTys Try.prog 104 = [37, 37] := by kernel_rfl
theorem par_105 : parTys Try.prog 105 = [131, 3] := by kernel_rfl
theorem cvTy_3_135 : cvTy Try.prog 3 135 = some (.int .u64) := by kernel_rfl
theorem par_106 : parTys Try.prog 106 = [131] := by kernel_rfl
theorem par_107 : parTys Try.prog 107 = [131] := by kernel_rfl
theorem par_108 : parTys Try.prog 108 = [3, 3] := by kernel_rfl
theorem par_109 : parTys Try.prog 109 = [3] := by kernel_rfl
theorem ixTy_56 : ixTy Try.prog 56 = some (.sl (3, 1, 8)) := by kernel_rfl
theorem par_110 : parTys Try.prog 110 = [56, 3] := by kernel_rfl
theorem par_111 : parTys Try.prog 111 = [56, 3] := by kernel_rfl
theorem par_112 : parTys Try.prog 112 = [56, 3] := by kernel_rfl
theorem par_113 : parTys Try.prog 113 = [56, 3] := by kernel_rfl
theorem par_114 : parTys Try.prog 114 = [37, 3] := by kernel_rfl
theorem par_115 : parTys Try.prog 115 = [37, 3] := by kernel_rfl
theorem par_116 : parTys Try.prog 116 = [37, 3] := by kernel_rfl
theorem par_117 : parTys Try.prog 117 = [37, 3] := by kernel_rfl
theorem cvTy_5_3 : cvTy Try.prog 5 3 = some (.int .i64) := by kernel_rfl
theorem par_118 : parTys Try.prog 118 = [37] := by kernel_rfl
theorem par_119 : parTys Try.prog 119 = [37] := by kernel_rfl
theorem par_120 : parTys Try.prog 120 = [37] := by kernel_rfl
theorem par_121 : parTys Try.prog 121 = [37] := by kernel_rfl
theorem fldTy_69_3 : fldTy Try.prog 69 3 = some (3, 1, false) := by kernel_rfl
theorem tySz_22 : tySz Try.prog 22 = some (1, false) := by kernel_rfl
theorem fldTy_72_0 : fldTy Try.prog 72 0 = some (0, 1, false) := by kernel_rfl
theorem fldTy_72_1 : fldTy Try.prog 72 1 = some (1, 1, false) := by kernel_rfl
theorem fldTy_72_2 : fldTy Try.prog 72 2 = some (2, 1, false) := by kernel_rfl
theorem fldTy_72_3 : fldTy Try.prog 72 3 = some (3, 1, false) := by kernel_rfl
theorem par_122 : parTys Try.prog 122 = [72] := by kernel_rfl
theorem fldTy_69_0 : fldTy Try.prog 69 0 = some (0, 1, false) := by kernel_rfl
theorem fldTy_69_1 : fldTy Try.prog 69 1 = some (1, 1, false) := by kernel_rfl
theorem fldTy_69_2 : fldTy Try.prog 69 2 = some (2, 1, false) := by kernel_rfl
theorem par_123 : parTys Try.prog 123 = [72] := by kernel_rfl
theorem fldTy_79_1 : fldTy Try.prog 79 1 = some (1, 1, false) := by kernel_rfl
theorem tySz_27 : tySz Try.prog 27 = some (1, false) := by kernel_rfl
theorem fldTy_79_3 : fldTy Try.prog 79 3 = some (3, 1, false) := by kernel_rfl
theorem tySz_77 : tySz Try.prog 77 = some (1, false) := by kernel_rfl
theorem par_124 : parTys Try.prog 124 = [77, 3] := by kernel_rfl
theorem fldTy_83_0 : fldTy Try.prog 83 0 = some (0, 1, false) := by kernel_rfl
theorem fldTy_83_1 : fldTy Try.prog 83 1 = some (1, 1, false) := by kernel_rfl
theorem tySz_30 : tySz Try.prog 30 = some (1, false) := by kernel_rfl
theorem fldTy_83_2 : fldTy Try.prog 83 2 = some (2, 1, false) := by kernel_rfl
theorem fldTy_83_3 : fldTy Try.prog 83 3 = some (3, 1, false) := by kernel_rfl
theorem ixTy_77 : ixTy Try.prog 77 = some (.sl (22, 1, 24)) := by kernel_rfl
theorem fldTy_96_1 : fldTy Try.prog 96 1 = some (1, 1, false) := by kernel_rfl
theorem fldTy_79_0 : fldTy Try.prog 79 0 = some (0, 1, false) := by kernel_rfl
theorem fldTy_79_2 : fldTy Try.prog 79 2 = some (2, 1, false) := by kernel_rfl
theorem par_125 : parTys Try.prog 125 = [77] := by kernel_rfl
theorem par_126 : parTys Try.prog 126 = [77, 77] := by kernel_rfl
theorem par_127 : parTys Try.prog 127 = [3] := by kernel_rfl
theorem par_128 : parTys Try.prog 128 = [3] := by kernel_rfl
theorem par_129 : parTys Try.prog 129 = [91] := by kernel_rfl
theorem par_130 : parTys Try.prog 130 = [91] := by kernel_rfl
theorem fldTy_91_3 : fldTy Try.prog 91 3 = some (3, 1, false) := by kernel_rfl
theorem tySz_89 : tySz Try.prog 89 = some (1, false) := by kernel_rfl
theorem elTy_89 : elTy Try.prog 89 = some (157, 7, 72) := by kernel_rfl
theorem fldTy_91_1 : fldTy Try.prog 91 1 = some (1, 1, false) := by kernel_rfl
theorem bldTy_151 : bldTy Try.prog 151 = some (.st [(0, 1)]) := by kernel_rfl
theorem zeroC_151 : zeroC Try.prog 151 = some [.v (.slice none 0 0)] := by kernel_rfl
theorem tySz_151 : tySz Try.prog 151 = some (1, true) := by kernel_rfl
theorem par_131 : parTys Try.prog 131 = [37, 3] := by kernel_rfl
theorem fldTy_151_0 : fldTy Try.prog 151 0 = some (0, 1, false) := by kernel_rfl
theorem fldTy_91_0 : fldTy Try.prog 91 0 = some (0, 1, false) := by kernel_rfl
theorem fldTy_91_2 : fldTy Try.prog 91 2 = some (2, 1, false) := by kernel_rfl
theorem ixTy_89 : ixTy Try.prog 89 = some (.sl (157, 7, 72)) := by kernel_rfl
theorem fldTy_157_1 : fldTy Try.prog 157 1 = some (6, 1, false) := by kernel_rfl
theorem fldTy_157_0 : fldTy Try.prog 157 0 = some (0, 6, true) := by kernel_rfl
theorem par_133 : parTys Try.prog 133 = [42, 42] := by kernel_rfl
theorem fldTy_100_0 : fldTy Try.prog 100 0 = some (0, 1, false) := by kernel_rfl
theorem fldTy_100_1 : fldTy Try.prog 100 1 = some (1, 1, false) := by kernel_rfl
theorem tySz_98 : tySz Try.prog 98 = some (1, false) := by kernel_rfl
theorem par_134 : parTys Try.prog 134 = [100, 3] := by kernel_rfl
theorem ixTy_98 : ixTy Try.prog 98 = some (.sl (160, 3, 40)) := by kernel_rfl
theorem tySz_160 : tySz Try.prog 160 = some (3, true) := by kernel_rfl
theorem par_135 : parTys Try.prog 135 = [96, 160] := by kernel_rfl
theorem fldTy_160_2 : fldTy Try.prog 160 2 = some (2, 1, false) := by kernel_rfl
theorem fldTy_160_0 : fldTy Try.prog 160 0 = some (0, 1, false) := by kernel_rfl
theorem fldTy_103_3 : fldTy Try.prog 103 3 = some (3, 1, false) := by kernel_rfl
theorem tySz_101 : tySz Try.prog 101 = some (1, false) := by kernel_rfl
theorem par_136 : parTys Try.prog 136 = [101, 3] := by kernel_rfl
theorem cty_101 : cty Try.prog 101 = [some (180, 7)] := by kernel_rfl
theorem par_137 : parTys Try.prog 137 = [91] := by kernel_rfl
theorem par_138 : parTys Try.prog 138 = [91] := by kernel_rfl
theorem par_139 : parTys Try.prog 139 = [42] := by kernel_rfl
theorem bldTy_157 : bldTy Try.prog 157 = some (.st [(0, 6), (6, 1)]) := by kernel_rfl
theorem zeroC_157 : zeroC Try.prog 157 = some [.v (.int .i64 0), .v (.int .i64 0), .v (.int .i64 0), .v (.int .i64 0), .v (.bool false), .v (.slice none 0 0), .v (.int .i64 0)] := by kernel_rfl
theorem cty_157 : cty Try.prog 157 = [none, none, none, none, none, some (5, 1), none] := by kernel_rfl
theorem fldTy_103_0 : fldTy Try.prog 103 0 = some (0, 1, false) := by kernel_rfl
theorem fldTy_103_1 : fldTy Try.prog 103 1 = some (1, 1, false) := by kernel_rfl
theorem fldTy_103_2 : fldTy Try.prog 103 2 = some (2, 1, false) := by kernel_rfl
theorem par_140 : parTys Try.prog 140 = [101] := by kernel_rfl
theorem par_141 : parTys Try.prog 141 = [177, 166] := by kernel_rfl
theorem cty_177 : cty Try.prog 177 = [none] := by kernel_rfl
theorem cty_166 : cty Try.prog 166 = [none] := by kernel_rfl
theorem par_143 : parTys Try.prog 143 = [89, 89] := by kernel_rfl
theorem cty_89 : cty Try.prog 89 = [some (157, 7)] := by kernel_rfl
theorem par_144 : parTys Try.prog 144 = [89, 3] := by kernel_rfl
theorem par_145 : parTys Try.prog 145 = [89, 3] := by kernel_rfl
theorem fldTy_111_1 : fldTy Try.prog 111 1 = some (1, 1, false) := by kernel_rfl
theorem tySz_109 : tySz Try.prog 109 = some (1, false) := by kernel_rfl
theorem par_146 : parTys Try.prog 146 = [109, 3] := by kernel_rfl
theorem cty_109 : cty Try.prog 109 = [some (184, 3)] := by kernel_rfl
theorem par_147 : parTys Try.prog 147 = [100, 3] := by kernel_rfl
theorem par_148 : parTys Try.prog 148 = [96, 160] := by kernel_rfl
theorem par_149 : parTys Try.prog 149 = [98, 3] := by kernel_rfl
theorem cty_98 : cty Try.prog 98 = [some (160, 3)] := by kernel_rfl
theorem fldTy_111_0 : fldTy Try.prog 111 0 = some (0, 1, false) := by kernel_rfl
theorem par_150 : parTys Try.prog 150 = [109] := by kernel_rfl
theorem par_151 : parTys Try.prog 151 = [98, 98] := by kernel_rfl
theorem fldTy_120_0 : fldTy Try.prog 120 0 = some (0, 1, false) := by kernel_rfl
theorem par_152 : parTys Try.prog 152 = [37] := by kernel_rfl
theorem fldTy_96_2 : fldTy Try.prog 96 2 = some (2, 1, false) := by kernel_rfl
theorem fldTy_120_1 : fldTy Try.prog 120 1 = some (1, 1, false) := by kernel_rfl
theorem fldTy_120_2 : fldTy Try.prog 120 2 = some (2, 1, false) := by kernel_rfl
theorem par_153 : parTys Try.prog 153 = [37] := by kernel_rfl
theorem par_154 : parTys Try.prog 154 = [22, 3] := by kernel_rfl
theorem cvTy_3_174 : cvTy Try.prog 3 174 = some (.int .u64) := by kernel_rfl
theorem cvTy_174_5 : cvTy Try.prog 174 5 = some (.int .u8) := by kernel_rfl
theorem cvTy_5_128 : cvTy Try.prog 5 128 = some (.int .u32) := by kernel_rfl
theorem cty_128 : cty Try.prog 128 = [none] := by kernel_rfl
theorem par_155 : parTys Try.prog 155 = [22] := by kernel_rfl
theorem par_156 : parTys Try.prog 156 = [37] := by kernel_rfl
theorem bldTy_176 : bldTy Try.prog 176 = some (.st [(0, 1), (1, 1)]) := by kernel_rfl
theorem zeroC_176 : zeroC Try.prog 176 = some [.v (.slice none 0 0), .v (.int .i64 0)] := by kernel_rfl
theorem tySz_176 : tySz Try.prog 176 = some (2, true) := by kernel_rfl
theorem fldTy_176_1 : fldTy Try.prog 176 1 = some (1, 1, false) := by kernel_rfl
theorem fldTy_176_0 : fldTy Try.prog 176 0 = some (0, 1, false) := by kernel_rfl
theorem cvTy_3_139 : cvTy Try.prog 3 139 = some (.int .i8) := by kernel_rfl
theorem cvTy_139_3 : cvTy Try.prog 139 3 = some (.int .i64) := by kernel_rfl
theorem cvTy_3_140 : cvTy Try.prog 3 140 = some (.int .i16) := by kernel_rfl
theorem cvTy_140_3 : cvTy Try.prog 140 3 = some (.int .i64) := by kernel_rfl
theorem cvTy_3_21 : cvTy Try.prog 3 21 = some (.int .i32) := by kernel_rfl
theorem cvTy_21_3 : cvTy Try.prog 21 3 = some (.int .i64) := by kernel_rfl
theorem cvTy_2_139 : cvTy Try.prog 2 139 = some (.int .i8) := by kernel_rfl
theorem cvTy_2_140 : cvTy Try.prog 2 140 = some (.int .i16) := by kernel_rfl
theorem cvTy_2_21 : cvTy Try.prog 2 21 = some (.int .i32) := by kernel_rfl
theorem cvTy_5_2 : cvTy Try.prog 5 2 = some (.int .i64) := by kernel_rfl
theorem cty_2 : cty Try.prog 2 = [none] := by kernel_rfl
theorem par_157 : parTys Try.prog 157 = [22] := by kernel_rfl
theorem tySz_157 : tySz Try.prog 157 = some (7, true) := by kernel_rfl
theorem par_158 : parTys Try.prog 158 = [42] := by kernel_rfl
theorem par_132 : parTys Try.prog 132 = [177, 157] := by kernel_rfl
theorem cty_153 : cty Try.prog 153 = [none] := by kernel_rfl
theorem fldTy_160_1 : fldTy Try.prog 160 1 = some (1, 1, false) := by kernel_rfl
theorem elTy_101 : elTy Try.prog 101 = some (180, 7, 72) := by kernel_rfl
theorem ixTy_101 : ixTy Try.prog 101 = some (.sl (180, 7, 72)) := by kernel_rfl
theorem tySz_180 : tySz Try.prog 180 = some (7, true) := by kernel_rfl
theorem par_160 : parTys Try.prog 160 = [180, 3] := by kernel_rfl
theorem cty_180 : cty Try.prog 180 = [none, none, none, none, none, some (5, 1), none] := by kernel_rfl
theorem par_161 : parTys Try.prog 161 = [180] := by kernel_rfl
theorem par_162 : parTys Try.prog 162 = [157, 157] := by kernel_rfl
theorem elTy_109 : elTy Try.prog 109 = some (184, 3, 40) := by kernel_rfl
theorem ixTy_109 : ixTy Try.prog 109 = some (.sl (184, 3, 40)) := by kernel_rfl
theorem tySz_184 : tySz Try.prog 184 = some (3, true) := by kernel_rfl
theorem par_163 : parTys Try.prog 163 = [184, 3] := by kernel_rfl
theorem cty_184 : cty Try.prog 184 = [none, none, some (5, 1)] := by kernel_rfl
theorem par_164 : parTys Try.prog 164 = [184] := by kernel_rfl
theorem par_165 : parTys Try.prog 165 = [160, 160] := by kernel_rfl
theorem intTy_3 : intTy Try.prog 3 = some () := by kernel_rfl
theorem par_166 : parTys Try.prog 166 = [37, 3] := by kernel_rfl
theorem par_167 : parTys Try.prog 167 = [] := by kernel_rfl
theorem zeroC_188 : zeroC Try.prog 188 = some (List.replicate 256 (.v (.int .u32 0))) := by kernel_rfl
theorem tySz_188 : tySz Try.prog 188 = some (256, true) := by kernel_rfl
theorem cvTy_128_5 : cvTy Try.prog 128 5 = some (.int .u8) := by kernel_rfl
theorem ixTy_188 : ixTy Try.prog 188 = some (.ar 256 1) := by kernel_rfl
theorem tySz_128 : tySz Try.prog 128 = some (1, false) := by kernel_rfl
theorem fldTy_180_0 : fldTy Try.prog 180 0 = some (0, 6, true) := by kernel_rfl
theorem fldTy_180_1 : fldTy Try.prog 180 1 = some (6, 1, false) := by kernel_rfl
theorem fldTy_184_2 : fldTy Try.prog 184 2 = some (2, 1, false) := by kernel_rfl
theorem fldTy_184_0 : fldTy Try.prog 184 0 = some (0, 1, false) := by kernel_rfl
theorem fldTy_184_1 : fldTy Try.prog 184 1 = some (1, 1, false) := by kernel_rfl
theorem bldTy_188 : bldTy Try.prog 188 = some (.ar 1) := by kernel_rfl
theorem cvTy_3_128 : cvTy Try.prog 3 128 = some (.int .u32) := by kernel_rfl
theorem cty_188 : cty Try.prog 188 = [none] := by kernel_rfl
theorem res_3 : Try.f3.results.toList = [.tmp 2] := rfl
theorem rty_3 : Try.f3.resultTypes.toList = [4] := rfl
theorem res_4 : Try.f4.results.toList = [.tmp 2] := rfl
theorem rty_4 : Try.f4.resultTypes.toList = [4] := rfl
theorem res_5 : Try.f5.results.toList = [.tmp 6] := rfl
theorem rty_5 : Try.f5.resultTypes.toList = [4] := rfl
theorem res_6 : Try.f6.results.toList = [.tmp 2] := rfl
theorem rty_6 : Try.f6.resultTypes.toList = [4] := rfl
theorem res_7 : Try.f7.results.toList = [.tmp 2] := rfl
theorem rty_7 : Try.f7.resultTypes.toList = [4] := rfl
theorem res_8 : Try.f8.results.toList = [.tmp 2] := rfl
theorem rty_8 : Try.f8.resultTypes.toList = [4] := rfl
theorem res_9 : Try.f9.results.toList = [.tmp 2] := rfl
theorem rty_9 : Try.f9.resultTypes.toList = [4] := rfl
theorem res_10 : Try.f10.results.toList = [.tmp 2] := rfl
theorem rty_10 : Try.f10.resultTypes.toList = [4] := rfl
theorem res_11 : Try.f11.results.toList = [.tmp 2] := rfl
theorem rty_11 : Try.f11.resultTypes.toList = [4] := rfl
theorem res_12 : Try.f12.results.toList = [.tmp 2] := rfl
theorem rty_12 : Try.f12.resultTypes.toList = [4] := rfl
theorem res_13 : Try.f13.results.toList = [.tmp 4] := rfl
theorem rty_13 : Try.f13.resultTypes.toList = [4] := rfl
theorem res_14 : Try.f14.results.toList = [.tmp 4] := rfl
theorem rty_14 : Try.f14.resultTypes.toList = [4] := rfl
theorem res_15 : Try.f15.results.toList = [.tmp 4] := rfl
theorem rty_15 : Try.f15.resultTypes.toList = [3] := rfl
theorem res_16 : Try.f16.results.toList = [.tmp 2] := rfl
theorem rty_16 : Try.f16.resultTypes.toList = [4] := rfl
theorem res_17 : Try.f17.results.toList = [.tmp 2] := rfl
theorem rty_17 : Try.f17.resultTypes.toList = [22] := rfl
theorem res_18 : Try.f18.results.toList = [.tmp 2] := rfl
theorem rty_18 : Try.f18.resultTypes.toList = [4] := rfl
theorem res_19 : Try.f19.results.toList = [.tmp 4] := rfl
theorem rty_19 : Try.f19.resultTypes.toList = [4] := rfl
theorem res_20 : Try.f20.results.toList = [.tmp 4] := rfl
theorem rty_20 : Try.f20.resultTypes.toList = [3] := rfl
theorem res_21 : Try.f21.results.toList = [.tmp 2] := rfl
theorem rty_21 : Try.f21.resultTypes.toList = [4] := rfl
theorem res_22 : Try.f22.results.toList = [.tmp 2] := rfl
theorem rty_22 : Try.f22.resultTypes.toList = [30] := rfl
theorem res_23 : Try.f23.results.toList = [.tmp 2] := rfl
theorem rty_23 : Try.f23.resultTypes.toList = [4] := rfl
theorem res_24 : Try.f24.results.toList = [.tmp 4] := rfl
theorem rty_24 : Try.f24.resultTypes.toList = [4] := rfl
theorem res_25 : Try.f25.results.toList = [.tmp 6, .tmp 7] := rfl
theorem rty_25 : Try.f25.resultTypes.toList = [22, 3] := rfl
theorem res_26 : Try.f26.results.toList = [.tmp 6, .tmp 7] := rfl
theorem rty_26 : Try.f26.resultTypes.toList = [22, 3] := rfl
theorem res_27 : Try.f27.results.toList = [.tmp 4] := rfl
theorem rty_27 : Try.f27.resultTypes.toList = [3] := rfl
theorem res_28 : Try.f28.results.toList = [.tmp 4] := rfl
theorem rty_28 : Try.f28.resultTypes.toList = [3] := rfl
theorem res_29 : Try.f29.results.toList = [.tmp 4] := rfl
theorem rty_29 : Try.f29.resultTypes.toList = [3] := rfl
theorem res_30 : Try.f30.results.toList = [.tmp 2] := rfl
theorem rty_30 : Try.f30.resultTypes.toList = [37] := rfl
theorem res_31 : Try.f31.results.toList = [.cell 2 42] := rfl
theorem rty_31 : Try.f31.resultTypes.toList = [42] := rfl
theorem res_32 : Try.f32.results.toList = [.tmp 2] := rfl
theorem rty_32 : Try.f32.resultTypes.toList = [37] := rfl
theorem res_33 : Try.f33.results.toList = [.tmp 4] := rfl
theorem rty_33 : Try.f33.resultTypes.toList = [4] := rfl
theorem res_34 : Try.f34.results.toList = [.tmp 4] := rfl
theorem rty_34 : Try.f34.resultTypes.toList = [4] := rfl
theorem res_35 : Try.f35.results.toList = [.tmp 4] := rfl
theorem rty_35 : Try.f35.resultTypes.toList = [3] := rfl
theorem res_36 : Try.f36.results.toList = [.tmp 4] := rfl
theorem rty_36 : Try.f36.resultTypes.toList = [3] := rfl
theorem res_37 : Try.f37.results.toList = [.tmp 4] := rfl
theorem rty_37 : Try.f37.resultTypes.toList = [3] := rfl
theorem res_38 : Try.f38.results.toList = [.tmp 2] := rfl
theorem rty_38 : Try.f38.resultTypes.toList = [49] := rfl
theorem res_39 : Try.f39.results.toList = [.tmp 4, .tmp 5] := rfl
theorem rty_39 : Try.f39.resultTypes.toList = [49, 3] := rfl
theorem res_40 : Try.f40.results.toList = [.tmp 2] := rfl
theorem rty_40 : Try.f40.resultTypes.toList = [37] := rfl
theorem res_41 : Try.f41.results.toList = [.tmp 2, .tmp 3] := rfl
theorem rty_41 : Try.f41.resultTypes.toList = [37, 3] := rfl
theorem res_42 : Try.f42.results.toList = [.tmp 4, .tmp 5] := rfl
theorem rty_42 : Try.f42.resultTypes.toList = [49, 3] := rfl
theorem res_43 : Try.f43.results.toList = [.tmp 4] := rfl
theorem rty_43 : Try.f43.resultTypes.toList = [4] := rfl
theorem res_44 : Try.f44.results.toList = [.tmp 2, .tmp 3] := rfl
theorem rty_44 : Try.f44.resultTypes.toList = [56, 3] := rfl
theorem res_45 : Try.f45.results.toList = [.tmp 4, .tmp 5] := rfl
theorem rty_45 : Try.f45.resultTypes.toList = [37, 3] := rfl
theorem res_46 : Try.f46.results.toList = [.tmp 4, .tmp 5] := rfl
theorem rty_46 : Try.f46.resultTypes.toList = [37, 3] := rfl
theorem res_47 : Try.f47.results.toList = [.tmp 4, .tmp 5] := rfl
theorem rty_47 : Try.f47.resultTypes.toList = [56, 3] := rfl
theorem res_48 : Try.f48.results.toList = [.tmp 4] := rfl
theorem rty_48 : Try.f48.resultTypes.toList = [4] := rfl
theorem res_49 : Try.f49.results.toList = [.tmp 2] := rfl
theorem rty_49 : Try.f49.resultTypes.toList = [22] := rfl
theorem res_50 : Try.f50.results.toList = [.tmp 2] := rfl
theorem rty_50 : Try.f50.resultTypes.toList = [37] := rfl
theorem res_51 : Try.f51.results.toList = [.cell 2 42, .tmp 3] := rfl
theorem rty_51 : Try.f51.resultTypes.toList = [42, 3] := rfl
theorem res_52 : Try.f52.results.toList = [.tmp 2] := rfl
theorem rty_52 : Try.f52.resultTypes.toList = [37] := rfl
theorem res_53 : Try.f53.results.toList = [.cell 2 42, .tmp 3] := rfl
theorem rty_53 : Try.f53.resultTypes.toList = [42, 3] := rfl
theorem res_54 : Try.f54.results.toList = [.tmp 4] := rfl
theorem rty_54 : Try.f54.resultTypes.toList = [3] := rfl
theorem res_55 : Try.f55.results.toList = [.tmp 4] := rfl
theorem rty_55 : Try.f55.resultTypes.toList = [3] := rfl
theorem res_56 : Try.f56.results.toList = [.tmp 2] := rfl
theorem rty_56 : Try.f56.resultTypes.toList = [37] := rfl
theorem res_57 : Try.f57.results.toList = [.cell 2 72] := rfl
theorem rty_57 : Try.f57.resultTypes.toList = [72] := rfl
theorem res_58 : Try.f58.results.toList = [.tmp 2] := rfl
theorem rty_58 : Try.f58.resultTypes.toList = [37] := rfl
theorem res_59 : Try.f59.results.toList = [.tmp 4] := rfl
theorem rty_59 : Try.f59.resultTypes.toList = [4] := rfl
theorem res_60 : Try.f60.results.toList = [.tmp 4] := rfl
theorem rty_60 : Try.f60.resultTypes.toList = [3] := rfl
theorem res_61 : Try.f61.results.toList = [.tmp 4] := rfl
theorem rty_61 : Try.f61.resultTypes.toList = [3] := rfl
theorem res_62 : Try.f62.results.toList = [.tmp 2] := rfl
theorem rty_62 : Try.f62.resultTypes.toList = [4] := rfl
theorem res_63 : Try.f63.results.toList = [.cell 2 83] := rfl
theorem rty_63 : Try.f63.resultTypes.toList = [83] := rfl
theorem res_64 : Try.f64.results.toList = [.tmp 2] := rfl
theorem rty_64 : Try.f64.resultTypes.toList = [4] := rfl
theorem res_65 : Try.f65.results.toList = [.tmp 4] := rfl
theorem rty_65 : Try.f65.resultTypes.toList = [4] := rfl
theorem res_66 : Try.f66.results.toList = [.cell 2 72, .tmp 3] := rfl
theorem rty_66 : Try.f66.resultTypes.toList = [72, 3] := rfl
theorem res_67 : Try.f67.results.toList = [.cell 2 72, .tmp 3] := rfl
theorem rty_67 : Try.f67.resultTypes.toList = [72, 3] := rfl
theorem res_68 : Try.f68.results.toList = [.tmp 4] := rfl
theorem rty_68 : Try.f68.resultTypes.toList = [3] := rfl
theorem res_69 : Try.f69.results.toList = [.tmp 4] := rfl
theorem rty_69 : Try.f69.resultTypes.toList = [3] := rfl
theorem res_70 : Try.f70.results.toList = [.cell 4 91, .tmp 5] := rfl
theorem rty_70 : Try.f70.resultTypes.toList = [91, 3] := rfl
theorem res_71 : Try.f71.results.toList = [.tmp 4] := rfl
theorem rty_71 : Try.f71.resultTypes.toList = [4] := rfl
theorem res_72 : Try.f72.results.toList = [.tmp 4] := rfl
theorem rty_72 : Try.f72.resultTypes.toList = [4] := rfl
theorem res_73 : Try.f73.results.toList = [.tmp 4] := rfl
theorem rty_73 : Try.f73.resultTypes.toList = [3] := rfl
theorem res_74 : Try.f74.results.toList = [.cell 4 91, .tmp 5] := rfl
theorem rty_74 : Try.f74.resultTypes.toList = [91, 3] := rfl
theorem res_75 : Try.f75.results.toList = [.cell 2 91] := rfl
theorem rty_75 : Try.f75.resultTypes.toList = [91] := rfl
theorem res_76 : Try.f76.results.toList = [.cell 4 91, .tmp 5] := rfl
theorem rty_76 : Try.f76.resultTypes.toList = [91, 3] := rfl
theorem res_77 : Try.f77.results.toList = [.tmp 4] := rfl
theorem rty_77 : Try.f77.resultTypes.toList = [4] := rfl
theorem res_78 : Try.f78.results.toList = [.tmp 4] := rfl
theorem rty_78 : Try.f78.resultTypes.toList = [3] := rfl
theorem res_79 : Try.f79.results.toList = [.tmp 4] := rfl
theorem rty_79 : Try.f79.resultTypes.toList = [3] := rfl
theorem res_80 : Try.f80.results.toList = [.tmp 4] := rfl
theorem rty_80 : Try.f80.resultTypes.toList = [3] := rfl
theorem res_81 : Try.f81.results.toList = [.tmp 4] := rfl
theorem rty_81 : Try.f81.resultTypes.toList = [4] := rfl
theorem res_82 : Try.f82.results.toList = [.cell 2 100] := rfl
theorem rty_82 : Try.f82.resultTypes.toList = [100] := rfl
theorem res_83 : Try.f83.results.toList = [.tmp 4] := rfl
theorem rty_83 : Try.f83.resultTypes.toList = [4] := rfl
theorem res_84 : Try.f84.results.toList = [.tmp 4] := rfl
theorem rty_84 : Try.f84.resultTypes.toList = [3] := rfl
theorem res_85 : Try.f85.results.toList = [.tmp 4] := rfl
theorem rty_85 : Try.f85.resultTypes.toList = [3] := rfl
theorem res_86 : Try.f86.results.toList = [.tmp 4] := rfl
theorem rty_86 : Try.f86.resultTypes.toList = [3] := rfl
theorem res_87 : Try.f87.results.toList = [.tmp 2] := rfl
theorem rty_87 : Try.f87.resultTypes.toList = [4] := rfl
theorem res_88 : Try.f88.results.toList = [.tmp 4] := rfl
theorem rty_88 : Try.f88.resultTypes.toList = [4] := rfl
theorem res_89 : Try.f89.results.toList = [.cell 2 96] := rfl
theorem rty_89 : Try.f89.resultTypes.toList = [96] := rfl
theorem res_90 : Try.f90.results.toList = [.tmp 2] := rfl
theorem rty_90 : Try.f90.resultTypes.toList = [4] := rfl
theorem res_91 : Try.f91.results.toList = [.tmp 4] := rfl
theorem rty_91 : Try.f91.resultTypes.toList = [4] := rfl
theorem res_92 : Try.f92.results.toList = [.tmp 4] := rfl
theorem rty_92 : Try.f92.resultTypes.toList = [22] := rfl
theorem res_93 : Try.f93.results.toList = [.tmp 2] := rfl
theorem rty_93 : Try.f93.resultTypes.toList = [22] := rfl
theorem res_94 : Try.f94.results.toList = [.tmp 2] := rfl
theorem rty_94 : Try.f94.resultTypes.toList = [22] := rfl
theorem res_95 : Try.f95.results.toList = [.tmp 2] := rfl
theorem rty_95 : Try.f95.resultTypes.toList = [22] := rfl
theorem res_96 : Try.f96.results.toList = [.tmp 2] := rfl
theorem rty_96 : Try.f96.resultTypes.toList = [4] := rfl
theorem res_97 : Try.f97.results.toList = [.tmp 4] := rfl
theorem rty_97 : Try.f97.resultTypes.toList = [37] := rfl
theorem res_98 : Try.f98.results.toList = [.tmp 2] := rfl
theorem rty_98 : Try.f98.resultTypes.toList = [128] := rfl
theorem res_99 : Try.f99.results.toList = [.tmp 2] := rfl
theorem rty_99 : Try.f99.resultTypes.toList = [4] := rfl
theorem res_100 : Try.f100.results.toList = [.tmp 2] := rfl
theorem rty_100 : Try.f100.resultTypes.toList = [37] := rfl
theorem res_101 : Try.f101.results.toList = [.tmp 4] := rfl
theorem rty_101 : Try.f101.resultTypes.toList = [37] := rfl
theorem res_102 : Try.f102.results.toList = [.tmp 2] := rfl
theorem rty_102 : Try.f102.resultTypes.toList = [131] := rfl
theorem res_103 : Try.f103.results.toList = [.tmp 2] := rfl
theorem rty_103 : Try.f103.resultTypes.toList = [3] := rfl
theorem res_104 : Try.f104.results.toList = [.tmp 4] := rfl
theorem rty_104 : Try.f104.resultTypes.toList = [4] := rfl
theorem res_105 : Try.f105.results.toList = [.tmp 4] := rfl
theorem rty_105 : Try.f105.resultTypes.toList = [37] := rfl
theorem res_106 : Try.f106.results.toList = [.tmp 2] := rfl
theorem rty_106 : Try.f106.resultTypes.toList = [3] := rfl
theorem res_107 : Try.f107.results.toList = [.tmp 2] := rfl
theorem rty_107 : Try.f107.resultTypes.toList = [3] := rfl
theorem res_108 : Try.f108.results.toList = [.tmp 4] := rfl
theorem rty_108 : Try.f108.resultTypes.toList = [4] := rfl
theorem res_109 : Try.f109.results.toList = [.tmp 2] := rfl
theorem rty_109 : Try.f109.resultTypes.toList = [4] := rfl
theorem res_110 : Try.f110.results.toList = [.tmp 4, .tmp 5] := rfl
theorem rty_110 : Try.f110.resultTypes.toList = [37, 3] := rfl
theorem res_111 : Try.f111.results.toList = [.tmp 4, .tmp 5] := rfl
theorem rty_111 : Try.f111.resultTypes.toList = [37, 3] := rfl
theorem res_112 : Try.f112.results.toList = [.tmp 4, .tmp 5] := rfl
theorem rty_112 : Try.f112.resultTypes.toList = [37, 3] := rfl
theorem res_113 : Try.f113.results.toList = [.tmp 4, .tmp 5] := rfl
theorem rty_113 : Try.f113.resultTypes.toList = [37, 3] := rfl
theorem res_114 : Try.f114.results.toList = [.tmp 4, .tmp 5] := rfl
theorem rty_114 : Try.f114.resultTypes.toList = [56, 3] := rfl
theorem res_115 : Try.f115.results.toList = [.tmp 4, .tmp 5] := rfl
theorem rty_115 : Try.f115.resultTypes.toList = [56, 3] := rfl
theorem res_116 : Try.f116.results.toList = [.tmp 4, .tmp 5] := rfl
theorem rty_116 : Try.f116.resultTypes.toList = [56, 3] := rfl
theorem res_117 : Try.f117.results.toList = [.tmp 4, .tmp 5] := rfl
theorem rty_117 : Try.f117.resultTypes.toList = [56, 3] := rfl
theorem res_118 : Try.f118.results.toList = [.tmp 2] := rfl
theorem rty_118 : Try.f118.resultTypes.toList = [3] := rfl
theorem res_119 : Try.f119.results.toList = [.tmp 2] := rfl
theorem rty_119 : Try.f119.resultTypes.toList = [37] := rfl
theorem res_120 : Try.f120.results.toList = [.tmp 2] := rfl
theorem rty_120 : Try.f120.resultTypes.toList = [2] := rfl
theorem res_121 : Try.f121.results.toList = [.tmp 2] := rfl
theorem rty_121 : Try.f121.resultTypes.toList = [37] := rfl
theorem res_122 : Try.f122.results.toList = [.tmp 2] := rfl
theorem rty_122 : Try.f122.resultTypes.toList = [37] := rfl
theorem res_123 : Try.f123.results.toList = [.tmp 2] := rfl
theorem rty_123 : Try.f123.resultTypes.toList = [4] := rfl
theorem res_124 : Try.f124.results.toList = [.tmp 4] := rfl
theorem rty_124 : Try.f124.resultTypes.toList = [3] := rfl
theorem res_125 : Try.f125.results.toList = [.tmp 2] := rfl
theorem rty_125 : Try.f125.resultTypes.toList = [77] := rfl
theorem res_126 : Try.f126.results.toList = [.tmp 4] := rfl
theorem rty_126 : Try.f126.resultTypes.toList = [4] := rfl
theorem res_127 : Try.f127.results.toList = [.tmp 2] := rfl
theorem rty_127 : Try.f127.resultTypes.toList = [3] := rfl
theorem res_128 : Try.f128.results.toList = [.tmp 2] := rfl
theorem rty_128 : Try.f128.resultTypes.toList = [3] := rfl
theorem res_129 : Try.f129.results.toList = [.tmp 2] := rfl
theorem rty_129 : Try.f129.resultTypes.toList = [4] := rfl
theorem res_130 : Try.f130.results.toList = [.cell 2 91] := rfl
theorem rty_130 : Try.f130.resultTypes.toList = [91] := rfl
theorem res_131 : Try.f131.results.toList = [.tmp 4] := rfl
theorem rty_131 : Try.f131.resultTypes.toList = [153] := rfl
theorem res_132 : Try.f132.results.toList = [] := rfl
theorem rty_132 : Try.f132.resultTypes.toList = [] := rfl
theorem res_133 : Try.f133.results.toList = [.tmp 4] := rfl
theorem rty_133 : Try.f133.resultTypes.toList = [4] := rfl
theorem res_134 : Try.f134.results.toList = [.tmp 4] := rfl
theorem rty_134 : Try.f134.resultTypes.toList = [98] := rfl
theorem res_135 : Try.f135.results.toList = [.tmp 4] := rfl
theorem rty_135 : Try.f135.resultTypes.toList = [4] := rfl
theorem res_136 : Try.f136.results.toList = [.tmp 4] := rfl
theorem rty_136 : Try.f136.resultTypes.toList = [3] := rfl
theorem res_137 : Try.f137.results.toList = [.tmp 2] := rfl
theorem rty_137 : Try.f137.resultTypes.toList = [4] := rfl
theorem res_138 : Try.f138.results.toList = [.cell 2 91] := rfl
theorem rty_138 : Try.f138.resultTypes.toList = [91] := rfl
theorem res_139 : Try.f139.results.toList = [.cell 2 42] := rfl
theorem rty_139 : Try.f139.resultTypes.toList = [42] := rfl
theorem res_140 : Try.f140.results.toList = [.tmp 2] := rfl
theorem rty_140 : Try.f140.resultTypes.toList = [89] := rfl
theorem res_141 : Try.f141.results.toList = [] := rfl
theorem rty_141 : Try.f141.resultTypes.toList = [] := rfl
theorem res_142 : Try.f142.results.toList = [.tmp 3] := rfl
theorem rty_142 : Try.f142.resultTypes.toList = [4] := rfl
theorem res_143 : Try.f143.results.toList = [.tmp 4] := rfl
theorem rty_143 : Try.f143.resultTypes.toList = [4] := rfl
theorem res_144 : Try.f144.results.toList = [.tmp 4] := rfl
theorem rty_144 : Try.f144.resultTypes.toList = [3] := rfl
theorem res_145 : Try.f145.results.toList = [.tmp 4] := rfl
theorem rty_145 : Try.f145.resultTypes.toList = [3] := rfl
theorem res_146 : Try.f146.results.toList = [.tmp 4] := rfl
theorem rty_146 : Try.f146.resultTypes.toList = [3] := rfl
theorem res_147 : Try.f147.results.toList = [.tmp 4] := rfl
theorem rty_147 : Try.f147.resultTypes.toList = [98] := rfl
theorem res_148 : Try.f148.results.toList = [.tmp 4] := rfl
theorem rty_148 : Try.f148.resultTypes.toList = [4] := rfl
theorem res_149 : Try.f149.results.toList = [.tmp 4] := rfl
theorem rty_149 : Try.f149.resultTypes.toList = [22] := rfl
theorem res_150 : Try.f150.results.toList = [.tmp 2] := rfl
theorem rty_150 : Try.f150.resultTypes.toList = [98] := rfl
theorem res_151 : Try.f151.results.toList = [.tmp 4] := rfl
theorem rty_151 : Try.f151.resultTypes.toList = [4] := rfl
theorem res_152 : Try.f152.results.toList = [.tmp 2] := rfl
theorem rty_152 : Try.f152.resultTypes.toList = [4] := rfl
theorem res_153 : Try.f153.results.toList = [.tmp 2] := rfl
theorem rty_153 : Try.f153.resultTypes.toList = [4] := rfl
theorem res_154 : Try.f154.results.toList = [.tmp 4] := rfl
theorem rty_154 : Try.f154.resultTypes.toList = [22] := rfl
theorem res_155 : Try.f155.results.toList = [.tmp 2] := rfl
theorem rty_155 : Try.f155.resultTypes.toList = [37] := rfl
theorem res_156 : Try.f156.results.toList = [.tmp 2] := rfl
theorem rty_156 : Try.f156.resultTypes.toList = [128] := rfl
theorem res_157 : Try.f157.results.toList = [.tmp 2] := rfl
theorem rty_157 : Try.f157.resultTypes.toList = [37] := rfl
theorem res_158 : Try.f158.results.toList = [.cell 2 42] := rfl
theorem rty_158 : Try.f158.resultTypes.toList = [42] := rfl
theorem res_159 : Try.f159.results.toList = [] := rfl
theorem rty_159 : Try.f159.resultTypes.toList = [] := rfl
theorem res_160 : Try.f160.results.toList = [.tmp 4] := rfl
theorem rty_160 : Try.f160.resultTypes.toList = [3] := rfl
theorem res_161 : Try.f161.results.toList = [.cell 2 157] := rfl
theorem rty_161 : Try.f161.resultTypes.toList = [157] := rfl
theorem res_162 : Try.f162.results.toList = [.tmp 4] := rfl
theorem rty_162 : Try.f162.resultTypes.toList = [4] := rfl
theorem res_163 : Try.f163.results.toList = [.tmp 4] := rfl
theorem rty_163 : Try.f163.resultTypes.toList = [3] := rfl
theorem res_164 : Try.f164.results.toList = [.cell 2 160] := rfl
theorem rty_164 : Try.f164.resultTypes.toList = [160] := rfl
theorem res_165 : Try.f165.results.toList = [.tmp 4] := rfl
theorem rty_165 : Try.f165.resultTypes.toList = [4] := rfl
theorem res_166 : Try.f166.results.toList = [.tmp 4] := rfl
theorem rty_166 : Try.f166.resultTypes.toList = [37] := rfl
theorem res_167 : Try.f167.results.toList = [.cell 0 188] := rfl
theorem rty_167 : Try.f167.resultTypes.toList = [188] := rfl
theorem res_168 : Try.f168.results.toList = [] := rfl
theorem rty_168 : Try.f168.resultTypes.toList = [9] := rfl
theorem res_169 : Try.f169.results.toList = [] := rfl
theorem rty_169 : Try.f169.resultTypes.toList = [] := rfl
theorem res_170 : Try.f170.results.toList = [] := rfl
theorem rty_170 : Try.f170.resultTypes.toList = [9] := rfl
theorem res_171 : Try.f171.results.toList = [] := rfl
theorem rty_171 : Try.f171.resultTypes.toList = [] := rfl
theorem res_172 : Try.f172.results.toList = [] := rfl
theorem rty_172 : Try.f172.resultTypes.toList = [9] := rfl
theorem res_173 : Try.f173.results.toList = [] := rfl
theorem rty_173 : Try.f173.resultTypes.toList = [] := rfl
theorem res_174 : Try.f174.results.toList = [] := rfl
theorem rty_174 : Try.f174.resultTypes.toList = [9] := rfl
theorem res_175 : Try.f175.results.toList = [] := rfl
theorem rty_175 : Try.f175.resultTypes.toList = [] := rfl
theorem res_176 : Try.f176.results.toList = [] := rfl
theorem rty_176 : Try.f176.resultTypes.toList = [9] := rfl
theorem res_177 : Try.f177.results.toList = [] := rfl
theorem rty_177 : Try.f177.resultTypes.toList = [] := rfl
theorem res_178 : Try.f178.results.toList = [] := rfl
theorem rty_178 : Try.f178.resultTypes.toList = [9] := rfl
theorem res_179 : Try.f179.results.toList = [] := rfl
theorem rty_179 : Try.f179.resultTypes.toList = [] := rfl
theorem res_180 : Try.f180.results.toList = [] := rfl
theorem rty_180 : Try.f180.resultTypes.toList = [3] := rfl
theorem res_181 : Try.f181.results.toList = [] := rfl
theorem rty_181 : Try.f181.resultTypes.toList = [9] := rfl
theorem res_182 : Try.f182.results.toList = [] := rfl
theorem rty_182 : Try.f182.resultTypes.toList = [] := rfl
theorem res_183 : Try.f183.results.toList = [] := rfl
theorem rty_183 : Try.f183.resultTypes.toList = [3] := rfl
theorem res_184 : Try.f184.results.toList = [] := rfl
theorem rty_184 : Try.f184.resultTypes.toList = [9] := rfl
attribute [go_sem] par_15 cty_22 cty_3 par_17 par_16 par_18 boolTy_4 par_19 cty_4 par_20 cty_27 par_22 par_21 cty_30 par_23 par_24 par_25 par_26 par_27 par_28 tySz_39 par_29 cty_39 par_31 par_30 cty_42 zeroC_42 tySz_42 par_32 par_33 cty_37 par_34 par_35 par_36 par_37 elTy_37 par_38 par_40 cty_49 elTy_49 par_39 ixTy_49 tySz_4 par_41 par_42 zeroC_5 cty_5 par_43 par_44 par_45 cty_56 elTy_56 zeroC_3 par_46 par_47 par_48 par_49 par_50 elTy_22 ixTy_22 tySz_37 ixTy_37 tySz_5 par_52 par_51 par_53 par_54 tySz_69 par_55 cty_69 par_57 par_56 cty_72 zeroC_72 tySz_72 par_58 par_59 par_60 tySz_79 par_61 cty_79 par_63 par_62 cty_83 zeroC_83 tySz_83 par_64 par_65 par_66 par_67 par_68 par_69 zeroC_37 bldTy_72 bldTy_91 zeroC_91 tySz_91 par_70 cty_91 par_71 bldTy_42 cvTy_3_5 bldTy_96 zeroC_96 elTy_30 cty_96 elTy_98 zeroC_160 cty_160 bldTy_100 zeroC_100 par_72 cty_100 tySz_103 par_73 cty_103 par_75 par_74 par_76 par_77 par_78 par_79 tySz_111 par_80 cty_111 par_82 par_81 tySz_100 par_83 par_84 par_85 mapTy_117 cvTy_37_9 zeroV_3 elTy_27 ixTy_27 tySz_120 par_86 cty_120 ixTy_30 tySz_96 par_87 fldTy_96_0 par_88 par_89 par_90 par_91 par_92 par_93 elTy_77 zeroC_22 par_94 cty_77 par_95 fldTy_39_5 par_96 fldTy_42_4 fldTy_42_0 tySz_3 fldTy_42_1 par_97 fldTy_42_2 fldTy_42_3 fldTy_42_5 par_98 cvTy_128_3 fldTy_39_0 fldTy_39_1 fldTy_39_2 fldTy_39_3 fldTy_39_4 par_99 par_101 par_100 par_102 par_103 cty_131 zeroC_4 par_104 par_105 cvTy_3_135 par_106 par_107 par_108 par_109 ixTy_56 par_110 par_111 par_112 par_113 par_114 par_115 par_116 par_117 cvTy_5_3 par_118 par_119 par_120 par_121 fldTy_69_3 tySz_22 fldTy_72_0 fldTy_72_1 fldTy_72_2 fldTy_72_3 par_122 fldTy_69_0 fldTy_69_1 fldTy_69_2 par_123 fldTy_79_1 tySz_27 fldTy_79_3 tySz_77 par_124 fldTy_83_0 fldTy_83_1 tySz_30 fldTy_83_2 fldTy_83_3 ixTy_77 fldTy_96_1 fldTy_79_0 fldTy_79_2 par_125 par_126 par_127 par_128 par_129 par_130 fldTy_91_3 tySz_89 elTy_89 fldTy_91_1 bldTy_151 zeroC_151 tySz_151 par_131 fldTy_151_0 fldTy_91_0 fldTy_91_2 ixTy_89 fldTy_157_1 fldTy_157_0 par_133 fldTy_100_0 fldTy_100_1 tySz_98 par_134 ixTy_98 tySz_160 par_135 fldTy_160_2 fldTy_160_0 fldTy_103_3 tySz_101 par_136 cty_101 par_137 par_138 par_139 bldTy_157 zeroC_157 cty_157 fldTy_103_0 fldTy_103_1 fldTy_103_2 par_140 par_141 cty_177 cty_166 par_143 cty_89 par_144 par_145 fldTy_111_1 tySz_109 par_146 cty_109 par_147 par_148 par_149 cty_98 fldTy_111_0 par_150 par_151 fldTy_120_0 par_152 fldTy_96_2 fldTy_120_1 fldTy_120_2 par_153 par_154 cvTy_3_174 cvTy_174_5 cvTy_5_128 cty_128 par_155 par_156 bldTy_176 zeroC_176 tySz_176 fldTy_176_1 fldTy_176_0 cvTy_3_139 cvTy_139_3 cvTy_3_140 cvTy_140_3 cvTy_3_21 cvTy_21_3 cvTy_2_139 cvTy_2_140 cvTy_2_21 cvTy_5_2 cty_2 par_157 tySz_157 par_158 par_132 cty_153 fldTy_160_1 elTy_101 ixTy_101 tySz_180 par_160 cty_180 par_161 par_162 elTy_109 ixTy_109 tySz_184 par_163 cty_184 par_164 par_165 intTy_3 par_166 par_167 zeroC_188 tySz_188 cvTy_128_5 ixTy_188 tySz_128 fldTy_180_0 fldTy_180_1 fldTy_184_2 fldTy_184_0 fldTy_184_1 bldTy_188 cvTy_3_128 cty_188
end Go.Ev
