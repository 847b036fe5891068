/- What the given program's table of types and functions says, by reckoning. (Printed by a program of ours.) -/
import Derived.Test.YtjmmdlifljlogaaEvr
import Derived.Test.YtjmmdlifljlogaaProg
import Derived.KernelRfl
namespace Go.Ev
open Go Go.Proofs
theorem mixed : Try.prog.follows .mixedOrders = true := by kernel_rfl
theorem cty_4 : cty Try.prog 4 = [none] := by kernel_rfl
theorem elTy_23 : elTy Try.prog 23 = some (5, 1, 1) := by kernel_rfl
theorem par_16 : parTys Try.prog 16 = [23] := by kernel_rfl
theorem cty_23 : cty Try.prog 23 = [some (5, 1)] := by kernel_rfl
theorem par_15 : parTys Try.prog 15 = [23] := by kernel_rfl
theorem par_17 : parTys Try.prog 17 = [23] := by kernel_rfl
theorem par_18 : parTys Try.prog 18 = [23, 23] := by kernel_rfl
theorem elTy_29 : elTy Try.prog 29 = some (4, 1, 1) := by kernel_rfl
theorem par_20 : parTys Try.prog 20 = [29] := by kernel_rfl
theorem cty_29 : cty Try.prog 29 = [some (4, 1)] := by kernel_rfl
theorem par_19 : parTys Try.prog 19 = [29] := by kernel_rfl
theorem par_21 : parTys Try.prog 21 = [29] := by kernel_rfl
theorem par_22 : parTys Try.prog 22 = [29, 29] := by kernel_rfl
theorem par_23 : parTys Try.prog 23 = [29, 3] := by kernel_rfl
theorem cty_3 : cty Try.prog 3 = [none] := by kernel_rfl
theorem par_24 : parTys Try.prog 24 = [23, 3] := by kernel_rfl
theorem par_25 : parTys Try.prog 25 = [23, 3] := by kernel_rfl
theorem par_26 : parTys Try.prog 26 = [36, 3] := by kernel_rfl
theorem cty_36 : cty Try.prog 36 = [some (23, 1)] := by kernel_rfl
theorem par_28 : parTys Try.prog 28 = [36] := by kernel_rfl
theorem par_27 : parTys Try.prog 27 = [36] := by kernel_rfl
theorem par_29 : parTys Try.prog 29 = [36] := by kernel_rfl
theorem boolTy_4 : boolTy Try.prog 4 = some () := by kernel_rfl
theorem par_30 : parTys Try.prog 30 = [36, 36] := by kernel_rfl
theorem par_31 : parTys Try.prog 31 = [36] := by kernel_rfl
theorem par_32 : parTys Try.prog 32 = [36] := by kernel_rfl
theorem par_33 : parTys Try.prog 33 = [36, 3] := by kernel_rfl
theorem par_34 : parTys Try.prog 34 = [23, 3] := by kernel_rfl
theorem par_35 : parTys Try.prog 35 = [23, 3] := by kernel_rfl
theorem par_36 : parTys Try.prog 36 = [29, 3] := by kernel_rfl
theorem par_37 : parTys Try.prog 37 = [23, 3] := by kernel_rfl
theorem par_38 : parTys Try.prog 38 = [23, 3] := by kernel_rfl
theorem par_39 : parTys Try.prog 39 = [45, 45] := by kernel_rfl
theorem cty_45 : cty Try.prog 45 = [some (3, 1)] := by kernel_rfl
theorem par_40 : parTys Try.prog 40 = [45, 3] := by kernel_rfl
theorem par_41 : parTys Try.prog 41 = [45, 3] := by kernel_rfl
theorem elTy_45 : elTy Try.prog 45 = some (3, 1, 8) := by kernel_rfl
theorem par_43 : parTys Try.prog 43 = [45] := by kernel_rfl
theorem par_42 : parTys Try.prog 42 = [45, 3] := by kernel_rfl
theorem par_44 : parTys Try.prog 44 = [45, 3] := by kernel_rfl
theorem par_45 : parTys Try.prog 45 = [54, 3] := by kernel_rfl
theorem cty_54 : cty Try.prog 54 = [some (100, 3)] := by kernel_rfl
theorem par_47 : parTys Try.prog 47 = [54] := by kernel_rfl
theorem par_46 : parTys Try.prog 46 = [57] := by kernel_rfl
theorem cty_57 : cty Try.prog 57 = [some (102, 3)] := by kernel_rfl
theorem par_48 : parTys Try.prog 48 = [57] := by kernel_rfl
theorem par_49 : parTys Try.prog 49 = [57, 57] := by kernel_rfl
theorem tySz_63 : tySz Try.prog 63 = some (4, true) := by kernel_rfl
theorem par_50 : parTys Try.prog 50 = [63, 3] := by kernel_rfl
theorem cty_63 : cty Try.prog 63 = [none, none, some (122, 6), some (5, 1)] := by kernel_rfl
theorem par_52 : parTys Try.prog 52 = [63] := by kernel_rfl
theorem par_51 : parTys Try.prog 51 = [68] := by kernel_rfl
theorem cty_68 : cty Try.prog 68 = [none, none, some (107, 6), some (5, 1)] := by kernel_rfl
theorem zeroC_68 : zeroC Try.prog 68 = some [.v (.int .i64 0), .v (.int .i64 0), .v (.slice none 0 0), .v (.slice none 0 0)] := by kernel_rfl
theorem tySz_68 : tySz Try.prog 68 = some (4, true) := by kernel_rfl
theorem par_53 : parTys Try.prog 53 = [68] := by kernel_rfl
theorem par_54 : parTys Try.prog 54 = [68, 68] := by kernel_rfl
theorem tySz_74 : tySz Try.prog 74 = some (4, true) := by kernel_rfl
theorem par_55 : parTys Try.prog 55 = [74, 3] := by kernel_rfl
theorem cty_74 : cty Try.prog 74 = [none, none, none, some (127, 7)] := by kernel_rfl
theorem par_57 : parTys Try.prog 57 = [74] := by kernel_rfl
theorem par_56 : parTys Try.prog 56 = [79] := by kernel_rfl
theorem cty_79 : cty Try.prog 79 = [none, none, none, some (114, 7)] := by kernel_rfl
theorem zeroC_79 : zeroC Try.prog 79 = some [.v (.int .i64 0), .v (.int .i64 0), .v (.int .i64 0), .v (.slice none 0 0)] := by kernel_rfl
theorem tySz_79 : tySz Try.prog 79 = some (4, true) := by kernel_rfl
theorem par_58 : parTys Try.prog 58 = [79] := by kernel_rfl
theorem par_59 : parTys Try.prog 59 = [79, 79] := by kernel_rfl
theorem par_60 : parTys Try.prog 60 = [36, 3, 36] := by kernel_rfl
theorem par_61 : parTys Try.prog 61 = [36, 3, 36] := by kernel_rfl
theorem par_62 : parTys Try.prog 62 = [36, 3] := by kernel_rfl
theorem ixTy_23 : ixTy Try.prog 23 = some (.sl (5, 1, 1)) := by kernel_rfl
theorem tySz_5 : tySz Try.prog 5 = some (1, false) := by kernel_rfl
theorem cvTy_5_24 : cvTy Try.prog 5 24 = some (.int .u32) := by kernel_rfl
theorem cty_24 : cty Try.prog 24 = [none] := by kernel_rfl
theorem zeroC_5 : zeroC Try.prog 5 = some [.v (.int .u8 0)] := by kernel_rfl
theorem cty_5 : cty Try.prog 5 = [none] := by kernel_rfl
theorem par_63 : parTys Try.prog 63 = [] := by kernel_rfl
theorem zeroC_86 : zeroC Try.prog 86 = some (List.replicate 256 (.v (.int .u32 0))) := by kernel_rfl
theorem tySz_86 : tySz Try.prog 86 = some (256, true) := by kernel_rfl
theorem cvTy_24_5 : cvTy Try.prog 24 5 = some (.int .u8) := by kernel_rfl
theorem ixTy_86 : ixTy Try.prog 86 = some (.ar 256 1) := by kernel_rfl
theorem tySz_24 : tySz Try.prog 24 = some (1, false) := by kernel_rfl
theorem ixTy_29 : ixTy Try.prog 29 = some (.sl (4, 1, 1)) := by kernel_rfl
theorem tySz_4 : tySz Try.prog 4 = some (1, false) := by kernel_rfl
theorem cvTy_3_5 : cvTy Try.prog 3 5 = some (.int .u8) := by kernel_rfl
theorem zeroC_4 : zeroC Try.prog 4 = some [.v (.bool false)] := by kernel_rfl
theorem elTy_36 : elTy Try.prog 36 = some (23, 1, 24) := by kernel_rfl
theorem ixTy_36 : ixTy Try.prog 36 = some (.sl (23, 1, 24)) := by kernel_rfl
theorem tySz_23 : tySz Try.prog 23 = some (1, false) := by kernel_rfl
theorem par_64 : parTys Try.prog 64 = [23, 3] := by kernel_rfl
theorem par_65 : parTys Try.prog 65 = [36, 23] := by kernel_rfl
theorem zeroC_23 : zeroC Try.prog 23 = some [.v (.slice none 0 0)] := by kernel_rfl
theorem cvTy_23_9 : cvTy Try.prog 23 9 = some .bytes := by kernel_rfl
theorem cvTy_3_88 : cvTy Try.prog 3 88 = some (.int .u64) := by kernel_rfl
theorem par_66 : parTys Try.prog 66 = [23, 23] := by kernel_rfl
theorem par_67 : parTys Try.prog 67 = [3] := by kernel_rfl
theorem par_68 : parTys Try.prog 68 = [23] := by kernel_rfl
theorem zeroC_3 : zeroC Try.prog 3 = some [.v (.int .i64 0)] := by kernel_rfl
theorem par_69 : parTys Try.prog 69 = [23, 3] := by kernel_rfl
theorem par_70 : parTys Try.prog 70 = [23, 3] := by kernel_rfl
theorem par_71 : parTys Try.prog 71 = [23, 3] := by kernel_rfl
theorem par_72 : parTys Try.prog 72 = [23, 3] := by kernel_rfl
theorem ixTy_45 : ixTy Try.prog 45 = some (.sl (3, 1, 8)) := by kernel_rfl
theorem tySz_3 : tySz Try.prog 3 = some (1, false) := by kernel_rfl
theorem par_73 : parTys Try.prog 73 = [3, 3] := by kernel_rfl
theorem par_74 : parTys Try.prog 74 = [3, 3] := by kernel_rfl
theorem par_75 : parTys Try.prog 75 = [45, 3] := by kernel_rfl
theorem par_76 : parTys Try.prog 76 = [45, 3] := by kernel_rfl
theorem par_77 : parTys Try.prog 77 = [45, 3] := by kernel_rfl
theorem par_78 : parTys Try.prog 78 = [45, 3] := by kernel_rfl
theorem elTy_54 : elTy Try.prog 54 = some (100, 3, 40) := by kernel_rfl
theorem ixTy_54 : ixTy Try.prog 54 = some (.sl (100, 3, 40)) := by kernel_rfl
theorem tySz_100 : tySz Try.prog 100 = some (3, true) := by kernel_rfl
theorem par_79 : parTys Try.prog 79 = [100, 3] := by kernel_rfl
theorem cty_100 : cty Try.prog 100 = [some (5, 1), none, none] := by kernel_rfl
theorem elTy_57 : elTy Try.prog 57 = some (102, 3, 40) := by kernel_rfl
theorem ixTy_57 : ixTy Try.prog 57 = some (.sl (102, 3, 40)) := by kernel_rfl
theorem tySz_102 : tySz Try.prog 102 = some (3, true) := by kernel_rfl
theorem par_80 : parTys Try.prog 80 = [102] := by kernel_rfl
theorem cty_102 : cty Try.prog 102 = [some (5, 1), none, none] := by kernel_rfl
theorem fldTy_102_0 : fldTy Try.prog 102 0 = some (0, 1, false) := by kernel_rfl
theorem par_81 : parTys Try.prog 81 = [23, 23] := by kernel_rfl
theorem zeroC_102 : zeroC Try.prog 102 = some [.v (.slice none 0 0), .v (.int .i64 0), .v (.int .i64 0)] := by kernel_rfl
theorem par_82 : parTys Try.prog 82 = [100] := by kernel_rfl
theorem par_83 : parTys Try.prog 83 = [102] := by kernel_rfl
theorem par_84 : parTys Try.prog 84 = [102, 102] := by kernel_rfl
theorem fldTy_63_2 : fldTy Try.prog 63 2 = some (2, 1, false) := by kernel_rfl
theorem tySz_61 : tySz Try.prog 61 = some (1, false) := by kernel_rfl
theorem par_85 : parTys Try.prog 85 = [61, 3] := by kernel_rfl
theorem cty_61 : cty Try.prog 61 = [some (122, 6)] := by kernel_rfl
theorem fldTy_63_3 : fldTy Try.prog 63 3 = some (3, 1, false) := by kernel_rfl
theorem fldTy_68_0 : fldTy Try.prog 68 0 = some (0, 1, false) := by kernel_rfl
theorem fldTy_68_1 : fldTy Try.prog 68 1 = some (1, 1, false) := by kernel_rfl
theorem fldTy_68_3 : fldTy Try.prog 68 3 = some (3, 1, false) := by kernel_rfl
theorem fldTy_68_2 : fldTy Try.prog 68 2 = some (2, 1, false) := by kernel_rfl
theorem tySz_66 : tySz Try.prog 66 = some (1, false) := by kernel_rfl
theorem elTy_66 : elTy Try.prog 66 = some (107, 6, 64) := by kernel_rfl
theorem ixTy_66 : ixTy Try.prog 66 = some (.sl (107, 6, 64)) := by kernel_rfl
theorem tySz_107 : tySz Try.prog 107 = some (6, true) := by kernel_rfl
theorem zeroC_107 : zeroC Try.prog 107 = some [.v (.int .i64 0), .v (.int .i64 0), .v (.int .i64 0), .v (.int .i64 0), .v (.bool false), .v (.slice none 0 0)] := by kernel_rfl
theorem par_86 : parTys Try.prog 86 = [107, 3] := by kernel_rfl
theorem cty_107 : cty Try.prog 107 = [none, none, none, none, none, some (5, 1)] := by kernel_rfl
theorem fldTy_107_2 : fldTy Try.prog 107 2 = some (2, 1, false) := by kernel_rfl
theorem fldTy_63_0 : fldTy Try.prog 63 0 = some (0, 1, false) := by kernel_rfl
theorem fldTy_63_1 : fldTy Try.prog 63 1 = some (1, 1, false) := by kernel_rfl
theorem par_87 : parTys Try.prog 87 = [61] := by kernel_rfl
theorem par_88 : parTys Try.prog 88 = [107] := by kernel_rfl
theorem fldTy_107_0 : fldTy Try.prog 107 0 = some (0, 1, false) := by kernel_rfl
theorem fldTy_107_1 : fldTy Try.prog 107 1 = some (1, 1, false) := by kernel_rfl
theorem par_89 : parTys Try.prog 89 = [66, 66] := by kernel_rfl
theorem cty_66 : cty Try.prog 66 = [some (107, 6)] := by kernel_rfl
theorem fldTy_74_3 : fldTy Try.prog 74 3 = some (3, 1, false) := by kernel_rfl
theorem tySz_72 : tySz Try.prog 72 = some (1, false) := by kernel_rfl
theorem par_90 : parTys Try.prog 90 = [72, 3] := by kernel_rfl
theorem cty_72 : cty Try.prog 72 = [some (127, 7)] := by kernel_rfl
theorem fldTy_79_0 : fldTy Try.prog 79 0 = some (0, 1, false) := by kernel_rfl
theorem fldTy_79_1 : fldTy Try.prog 79 1 = some (1, 1, false) := by kernel_rfl
theorem fldTy_79_2 : fldTy Try.prog 79 2 = some (2, 1, false) := by kernel_rfl
theorem fldTy_79_3 : fldTy Try.prog 79 3 = some (3, 1, false) := by kernel_rfl
theorem tySz_77 : tySz Try.prog 77 = some (1, false) := by kernel_rfl
theorem elTy_77 : elTy Try.prog 77 = some (114, 7, 72) := by kernel_rfl
theorem ixTy_77 : ixTy Try.prog 77 = some (.sl (114, 7, 72)) := by kernel_rfl
theorem tySz_114 : tySz Try.prog 114 = some (7, true) := by kernel_rfl
theorem zeroC_114 : zeroC Try.prog 114 = some [.v (.int .i64 0), .v (.int .i64 0), .v (.int .i64 0), .v (.int .i64 0), .v (.bool false), .v (.slice none 0 0), .v (.int .i64 0)] := by kernel_rfl
theorem fldTy_114_0 : fldTy Try.prog 114 0 = some (0, 6, true) := by kernel_rfl
theorem par_91 : parTys Try.prog 91 = [107] := by kernel_rfl
theorem fldTy_114_1 : fldTy Try.prog 114 1 = some (6, 1, false) := by kernel_rfl
theorem fldTy_74_0 : fldTy Try.prog 74 0 = some (0, 1, false) := by kernel_rfl
theorem fldTy_74_1 : fldTy Try.prog 74 1 = some (1, 1, false) := by kernel_rfl
theorem fldTy_74_2 : fldTy Try.prog 74 2 = some (2, 1, false) := by kernel_rfl
theorem par_92 : parTys Try.prog 92 = [72] := by kernel_rfl
theorem par_93 : parTys Try.prog 93 = [77, 77] := by kernel_rfl
theorem cty_77 : cty Try.prog 77 = [some (114, 7)] := by kernel_rfl
theorem par_94 : parTys Try.prog 94 = [36, 36] := by kernel_rfl
theorem par_95 : parTys Try.prog 95 = [36] := by kernel_rfl
theorem elTy_130 : elTy Try.prog 130 = some (36, 1, 24) := by kernel_rfl
theorem zeroC_36 : zeroC Try.prog 36 = some [.v (.slice none 0 0)] := by kernel_rfl
theorem par_96 : parTys Try.prog 96 = [130] := by kernel_rfl
theorem cty_130 : cty Try.prog 130 = [some (36, 1)] := by kernel_rfl
theorem par_97 : parTys Try.prog 97 = [36] := by kernel_rfl
theorem bldTy_86 : bldTy Try.prog 86 = some (.ar 1) := by kernel_rfl
theorem cvTy_3_24 : cvTy Try.prog 3 24 = some (.int .u32) := by kernel_rfl
theorem cty_86 : cty Try.prog 86 = [none] := by kernel_rfl
theorem cvTy_5_3 : cvTy Try.prog 5 3 = some (.int .i64) := by kernel_rfl
theorem par_98 : parTys Try.prog 98 = [23] := by kernel_rfl
theorem cvTy_2_94 : cvTy Try.prog 2 94 = some (.int .i8) := by kernel_rfl
theorem cvTy_94_3 : cvTy Try.prog 94 3 = some (.int .i64) := by kernel_rfl
theorem cvTy_2_95 : cvTy Try.prog 2 95 = some (.int .i16) := by kernel_rfl
theorem cvTy_95_3 : cvTy Try.prog 95 3 = some (.int .i64) := by kernel_rfl
theorem cvTy_2_21 : cvTy Try.prog 2 21 = some (.int .i32) := by kernel_rfl
theorem cvTy_21_3 : cvTy Try.prog 21 3 = some (.int .i64) := by kernel_rfl
theorem cvTy_3_120 : cvTy Try.prog 3 120 = some (.int .u64) := by kernel_rfl
theorem cvTy_120_5 : cvTy Try.prog 120 5 = some (.int .u8) := by kernel_rfl
theorem cvTy_3_94 : cvTy Try.prog 3 94 = some (.int .i8) := by kernel_rfl
theorem cvTy_3_95 : cvTy Try.prog 3 95 = some (.int .i16) := by kernel_rfl
theorem cvTy_3_21 : cvTy Try.prog 3 21 = some (.int .i32) := by kernel_rfl
theorem fldTy_100_0 : fldTy Try.prog 100 0 = some (0, 1, false) := by kernel_rfl
theorem par_99 : parTys Try.prog 99 = [23] := by kernel_rfl
theorem fldTy_102_1 : fldTy Try.prog 102 1 = some (1, 1, false) := by kernel_rfl
theorem fldTy_102_2 : fldTy Try.prog 102 2 = some (2, 1, false) := by kernel_rfl
theorem fldTy_100_1 : fldTy Try.prog 100 1 = some (1, 1, false) := by kernel_rfl
theorem fldTy_100_2 : fldTy Try.prog 100 2 = some (2, 1, false) := by kernel_rfl
theorem par_100 : parTys Try.prog 100 = [23] := by kernel_rfl
theorem elTy_61 : elTy Try.prog 61 = some (122, 6, 64) := by kernel_rfl
theorem ixTy_61 : ixTy Try.prog 61 = some (.sl (122, 6, 64)) := by kernel_rfl
theorem tySz_122 : tySz Try.prog 122 = some (6, true) := by kernel_rfl
theorem par_101 : parTys Try.prog 101 = [122, 3] := by kernel_rfl
theorem cty_122 : cty Try.prog 122 = [none, none, none, none, none, some (5, 1)] := by kernel_rfl
theorem par_102 : parTys Try.prog 102 = [122] := by kernel_rfl
theorem fldTy_107_3 : fldTy Try.prog 107 3 = some (3, 1, false) := by kernel_rfl
theorem fldTy_107_4 : fldTy Try.prog 107 4 = some (4, 1, false) := by kernel_rfl
theorem fldTy_107_5 : fldTy Try.prog 107 5 = some (5, 1, false) := by kernel_rfl
theorem par_103 : parTys Try.prog 103 = [107, 107] := by kernel_rfl
theorem elTy_72 : elTy Try.prog 72 = some (127, 7, 72) := by kernel_rfl
theorem ixTy_72 : ixTy Try.prog 72 = some (.sl (127, 7, 72)) := by kernel_rfl
theorem tySz_127 : tySz Try.prog 127 = some (7, true) := by kernel_rfl
theorem par_104 : parTys Try.prog 104 = [127, 3] := by kernel_rfl
theorem cty_127 : cty Try.prog 127 = [none, none, none, none, none, some (5, 1), none] := by kernel_rfl
theorem cty_114 : cty Try.prog 114 = [none, none, none, none, none, some (5, 1), none] := by kernel_rfl
theorem par_105 : parTys Try.prog 105 = [127] := by kernel_rfl
theorem par_106 : parTys Try.prog 106 = [114, 114] := by kernel_rfl
theorem par_107 : parTys Try.prog 107 = [23] := by kernel_rfl
theorem ixTy_130 : ixTy Try.prog 130 = some (.sl (36, 1, 24)) := by kernel_rfl
theorem tySz_36 : tySz Try.prog 36 = some (1, false) := by kernel_rfl
theorem par_108 : parTys Try.prog 108 = [36, 3] := by kernel_rfl
theorem cvTy_5_2 : cvTy Try.prog 5 2 = some (.int .i64) := by kernel_rfl
theorem cty_2 : cty Try.prog 2 = [none] := by kernel_rfl
theorem fldTy_122_5 : fldTy Try.prog 122 5 = some (5, 1, false) := by kernel_rfl
theorem fldTy_122_0 : fldTy Try.prog 122 0 = some (0, 1, false) := by kernel_rfl
theorem fldTy_122_1 : fldTy Try.prog 122 1 = some (1, 1, false) := by kernel_rfl
theorem fldTy_122_2 : fldTy Try.prog 122 2 = some (2, 1, false) := by kernel_rfl
theorem fldTy_122_3 : fldTy Try.prog 122 3 = some (3, 1, false) := by kernel_rfl
theorem fldTy_122_4 : fldTy Try.prog 122 4 = some (4, 1, false) := by kernel_rfl
theorem fldTy_127_0 : fldTy Try.prog 127 0 = some (0, 6, true) := by kernel_rfl
theorem fldTy_127_1 : fldTy Try.prog 127 1 = some (6, 1, false) := by kernel_rfl
theorem elTy_3 : elTy Try.prog 3 = none := by kernel_rfl
theorem res_3 : Try.f3.results.toList = [.tmp 0] := rfl
theorem rty_3 : Try.f3.resultTypes.toList = [4] := rfl
theorem res_4 : Try.f4.results.toList = [.tmp 2] := rfl
theorem rty_4 : Try.f4.resultTypes.toList = [4] := rfl
theorem res_5 : Try.f5.results.toList = [.tmp 2] := rfl
theorem rty_5 : Try.f5.resultTypes.toList = [4] := rfl
theorem res_6 : Try.f6.results.toList = [.tmp 2] := rfl
theorem rty_6 : Try.f6.resultTypes.toList = [4] := rfl
theorem res_7 : Try.f7.results.toList = [.tmp 2] := rfl
theorem rty_7 : Try.f7.resultTypes.toList = [4] := rfl
theorem res_8 : Try.f8.results.toList = [.tmp 4] := rfl
theorem rty_8 : Try.f8.resultTypes.toList = [4] := rfl
theorem res_9 : Try.f9.results.toList = [.tmp 4] := rfl
theorem rty_9 : Try.f9.resultTypes.toList = [4] := rfl
theorem res_10 : Try.f10.results.toList = [.tmp 4] := rfl
theorem rty_10 : Try.f10.resultTypes.toList = [4] := rfl
theorem res_11 : Try.f11.results.toList = [.tmp 2] := rfl
theorem rty_11 : Try.f11.resultTypes.toList = [4] := rfl
theorem res_12 : Try.f12.results.toList = [.tmp 2] := rfl
theorem rty_12 : Try.f12.resultTypes.toList = [4] := rfl
theorem res_13 : Try.f13.results.toList = [.tmp 2] := rfl
theorem rty_13 : Try.f13.resultTypes.toList = [4] := rfl
theorem res_14 : Try.f14.results.toList = [.tmp 6] := rfl
theorem rty_14 : Try.f14.resultTypes.toList = [4] := rfl
theorem res_15 : Try.f15.results.toList = [.tmp 2] := rfl
theorem rty_15 : Try.f15.resultTypes.toList = [24] := rfl
theorem res_16 : Try.f16.results.toList = [.tmp 2] := rfl
theorem rty_16 : Try.f16.resultTypes.toList = [23] := rfl
theorem res_17 : Try.f17.results.toList = [.tmp 2] := rfl
theorem rty_17 : Try.f17.resultTypes.toList = [24] := rfl
theorem res_18 : Try.f18.results.toList = [.tmp 4] := rfl
theorem rty_18 : Try.f18.resultTypes.toList = [4] := rfl
theorem res_19 : Try.f19.results.toList = [.tmp 2] := rfl
theorem rty_19 : Try.f19.resultTypes.toList = [23] := rfl
theorem res_20 : Try.f20.results.toList = [.tmp 2] := rfl
theorem rty_20 : Try.f20.resultTypes.toList = [29] := rfl
theorem res_21 : Try.f21.results.toList = [.tmp 2] := rfl
theorem rty_21 : Try.f21.resultTypes.toList = [23] := rfl
theorem res_22 : Try.f22.results.toList = [.tmp 4] := rfl
theorem rty_22 : Try.f22.resultTypes.toList = [4] := rfl
theorem res_23 : Try.f23.results.toList = [.tmp 4] := rfl
theorem rty_23 : Try.f23.resultTypes.toList = [3] := rfl
theorem res_24 : Try.f24.results.toList = [.tmp 4] := rfl
theorem rty_24 : Try.f24.resultTypes.toList = [3] := rfl
theorem res_25 : Try.f25.results.toList = [.tmp 4] := rfl
theorem rty_25 : Try.f25.resultTypes.toList = [3] := rfl
theorem res_26 : Try.f26.results.toList = [.tmp 4] := rfl
theorem rty_26 : Try.f26.resultTypes.toList = [3] := rfl
theorem res_27 : Try.f27.results.toList = [.tmp 2] := rfl
theorem rty_27 : Try.f27.resultTypes.toList = [4] := rfl
theorem res_28 : Try.f28.results.toList = [.tmp 2] := rfl
theorem rty_28 : Try.f28.resultTypes.toList = [36] := rfl
theorem res_29 : Try.f29.results.toList = [.tmp 2] := rfl
theorem rty_29 : Try.f29.resultTypes.toList = [4] := rfl
theorem res_30 : Try.f30.results.toList = [.tmp 4] := rfl
theorem rty_30 : Try.f30.resultTypes.toList = [4] := rfl
theorem res_31 : Try.f31.results.toList = [.tmp 2] := rfl
theorem rty_31 : Try.f31.resultTypes.toList = [23] := rfl
theorem res_32 : Try.f32.results.toList = [.tmp 2] := rfl
theorem rty_32 : Try.f32.resultTypes.toList = [23] := rfl
theorem res_33 : Try.f33.results.toList = [.tmp 4] := rfl
theorem rty_33 : Try.f33.resultTypes.toList = [3] := rfl
theorem res_34 : Try.f34.results.toList = [.tmp 4, .tmp 5] := rfl
theorem rty_34 : Try.f34.resultTypes.toList = [29, 3] := rfl
theorem res_35 : Try.f35.results.toList = [.tmp 4, .tmp 5] := rfl
theorem rty_35 : Try.f35.resultTypes.toList = [29, 3] := rfl
theorem res_36 : Try.f36.results.toList = [.tmp 4] := rfl
theorem rty_36 : Try.f36.resultTypes.toList = [3] := rfl
theorem res_37 : Try.f37.results.toList = [.tmp 4, .tmp 5] := rfl
theorem rty_37 : Try.f37.resultTypes.toList = [45, 3] := rfl
theorem res_38 : Try.f38.results.toList = [.tmp 4, .tmp 5] := rfl
theorem rty_38 : Try.f38.resultTypes.toList = [45, 3] := rfl
theorem res_39 : Try.f39.results.toList = [.tmp 4] := rfl
theorem rty_39 : Try.f39.resultTypes.toList = [4] := rfl
theorem res_40 : Try.f40.results.toList = [.tmp 4] := rfl
theorem rty_40 : Try.f40.resultTypes.toList = [3] := rfl
theorem res_41 : Try.f41.results.toList = [.tmp 4] := rfl
theorem rty_41 : Try.f41.resultTypes.toList = [3] := rfl
theorem res_42 : Try.f42.results.toList = [.tmp 4, .tmp 5] := rfl
theorem rty_42 : Try.f42.resultTypes.toList = [23, 3] := rfl
theorem res_43 : Try.f43.results.toList = [.tmp 2] := rfl
theorem rty_43 : Try.f43.resultTypes.toList = [45] := rfl
theorem res_44 : Try.f44.results.toList = [.tmp 4, .tmp 5] := rfl
theorem rty_44 : Try.f44.resultTypes.toList = [23, 3] := rfl
theorem res_45 : Try.f45.results.toList = [.tmp 4] := rfl
theorem rty_45 : Try.f45.resultTypes.toList = [3] := rfl
theorem res_46 : Try.f46.results.toList = [.tmp 2] := rfl
theorem rty_46 : Try.f46.resultTypes.toList = [4] := rfl
theorem res_47 : Try.f47.results.toList = [.tmp 2] := rfl
theorem rty_47 : Try.f47.resultTypes.toList = [57] := rfl
theorem res_48 : Try.f48.results.toList = [.tmp 2] := rfl
theorem rty_48 : Try.f48.resultTypes.toList = [4] := rfl
theorem res_49 : Try.f49.results.toList = [.tmp 4] := rfl
theorem rty_49 : Try.f49.resultTypes.toList = [4] := rfl
theorem res_50 : Try.f50.results.toList = [.tmp 4] := rfl
theorem rty_50 : Try.f50.resultTypes.toList = [3] := rfl
theorem res_51 : Try.f51.results.toList = [.tmp 2] := rfl
theorem rty_51 : Try.f51.resultTypes.toList = [4] := rfl
theorem res_52 : Try.f52.results.toList = [.cell 2 68] := rfl
theorem rty_52 : Try.f52.resultTypes.toList = [68] := rfl
theorem res_53 : Try.f53.results.toList = [.tmp 2] := rfl
theorem rty_53 : Try.f53.resultTypes.toList = [4] := rfl
theorem res_54 : Try.f54.results.toList = [.tmp 4] := rfl
theorem rty_54 : Try.f54.resultTypes.toList = [4] := rfl
theorem res_55 : Try.f55.results.toList = [.tmp 4] := rfl
theorem rty_55 : Try.f55.resultTypes.toList = [3] := rfl
theorem res_56 : Try.f56.results.toList = [.tmp 2] := rfl
theorem rty_56 : Try.f56.resultTypes.toList = [4] := rfl
theorem res_57 : Try.f57.results.toList = [.cell 2 79] := rfl
theorem rty_57 : Try.f57.resultTypes.toList = [79] := rfl
theorem res_58 : Try.f58.results.toList = [.tmp 2] := rfl
theorem rty_58 : Try.f58.resultTypes.toList = [4] := rfl
theorem res_59 : Try.f59.results.toList = [.tmp 4] := rfl
theorem rty_59 : Try.f59.resultTypes.toList = [4] := rfl
theorem res_60 : Try.f60.results.toList = [.tmp 6, .tmp 7] := rfl
theorem rty_60 : Try.f60.resultTypes.toList = [36, 3] := rfl
theorem res_61 : Try.f61.results.toList = [.tmp 6, .tmp 7] := rfl
theorem rty_61 : Try.f61.resultTypes.toList = [36, 3] := rfl
theorem res_62 : Try.f62.results.toList = [.tmp 4] := rfl
theorem rty_62 : Try.f62.resultTypes.toList = [3] := rfl
theorem res_63 : Try.f63.results.toList = [.cell 0 86] := rfl
theorem rty_63 : Try.f63.resultTypes.toList = [86] := rfl
theorem res_64 : Try.f64.results.toList = [.tmp 4] := rfl
theorem rty_64 : Try.f64.resultTypes.toList = [3] := rfl
theorem res_65 : Try.f65.results.toList = [.tmp 4] := rfl
theorem rty_65 : Try.f65.resultTypes.toList = [3] := rfl
theorem res_66 : Try.f66.results.toList = [.tmp 4] := rfl
theorem rty_66 : Try.f66.resultTypes.toList = [4] := rfl
theorem res_67 : Try.f67.results.toList = [.tmp 2] := rfl
theorem rty_67 : Try.f67.resultTypes.toList = [4] := rfl
theorem res_68 : Try.f68.results.toList = [.tmp 2] := rfl
theorem rty_68 : Try.f68.resultTypes.toList = [3] := rfl
theorem res_69 : Try.f69.results.toList = [.tmp 4, .tmp 5] := rfl
theorem rty_69 : Try.f69.resultTypes.toList = [45, 3] := rfl
theorem res_70 : Try.f70.results.toList = [.tmp 4, .tmp 5] := rfl
theorem rty_70 : Try.f70.resultTypes.toList = [45, 3] := rfl
theorem res_71 : Try.f71.results.toList = [.tmp 4, .tmp 5] := rfl
theorem rty_71 : Try.f71.resultTypes.toList = [45, 3] := rfl
theorem res_72 : Try.f72.results.toList = [.tmp 4, .tmp 5] := rfl
theorem rty_72 : Try.f72.resultTypes.toList = [45, 3] := rfl
theorem res_73 : Try.f73.results.toList = [.tmp 4] := rfl
theorem rty_73 : Try.f73.resultTypes.toList = [4] := rfl
theorem res_74 : Try.f74.results.toList = [.tmp 4] := rfl
theorem rty_74 : Try.f74.resultTypes.toList = [23] := rfl
theorem res_75 : Try.f75.results.toList = [.tmp 4, .tmp 5] := rfl
theorem rty_75 : Try.f75.resultTypes.toList = [23, 3] := rfl
theorem res_76 : Try.f76.results.toList = [.tmp 4, .tmp 5] := rfl
theorem rty_76 : Try.f76.resultTypes.toList = [23, 3] := rfl
theorem res_77 : Try.f77.results.toList = [.tmp 4, .tmp 5] := rfl
theorem rty_77 : Try.f77.resultTypes.toList = [23, 3] := rfl
theorem res_78 : Try.f78.results.toList = [.tmp 4, .tmp 5] := rfl
theorem rty_78 : Try.f78.resultTypes.toList = [23, 3] := rfl
theorem res_79 : Try.f79.results.toList = [.tmp 4] := rfl
theorem rty_79 : Try.f79.resultTypes.toList = [3] := rfl
theorem res_80 : Try.f80.results.toList = [.tmp 2] := rfl
theorem rty_80 : Try.f80.resultTypes.toList = [4] := rfl
theorem res_81 : Try.f81.results.toList = [.tmp 4] := rfl
theorem rty_81 : Try.f81.resultTypes.toList = [4] := rfl
theorem res_82 : Try.f82.results.toList = [.cell 2 102] := rfl
theorem rty_82 : Try.f82.resultTypes.toList = [102] := rfl
theorem res_83 : Try.f83.results.toList = [.tmp 2] := rfl
theorem rty_83 : Try.f83.resultTypes.toList = [4] := rfl
theorem res_84 : Try.f84.results.toList = [.tmp 4] := rfl
theorem rty_84 : Try.f84.resultTypes.toList = [4] := rfl
theorem res_85 : Try.f85.results.toList = [.tmp 4] := rfl
theorem rty_85 : Try.f85.resultTypes.toList = [3] := rfl
theorem res_86 : Try.f86.results.toList = [.tmp 4] := rfl
theorem rty_86 : Try.f86.resultTypes.toList = [4] := rfl
theorem res_87 : Try.f87.results.toList = [.tmp 2] := rfl
theorem rty_87 : Try.f87.resultTypes.toList = [66] := rfl
theorem res_88 : Try.f88.results.toList = [.tmp 2] := rfl
theorem rty_88 : Try.f88.resultTypes.toList = [4] := rfl
theorem res_89 : Try.f89.results.toList = [.tmp 4] := rfl
theorem rty_89 : Try.f89.resultTypes.toList = [4] := rfl
theorem res_90 : Try.f90.results.toList = [.tmp 4] := rfl
theorem rty_90 : Try.f90.resultTypes.toList = [3] := rfl
theorem res_91 : Try.f91.results.toList = [.tmp 2] := rfl
theorem rty_91 : Try.f91.resultTypes.toList = [4] := rfl
theorem res_92 : Try.f92.results.toList = [.tmp 2] := rfl
theorem rty_92 : Try.f92.resultTypes.toList = [77] := rfl
theorem res_93 : Try.f93.results.toList = [.tmp 4] := rfl
theorem rty_93 : Try.f93.resultTypes.toList = [4] := rfl
theorem res_94 : Try.f94.results.toList = [.tmp 4] := rfl
theorem rty_94 : Try.f94.resultTypes.toList = [36] := rfl
theorem res_95 : Try.f95.results.toList = [.tmp 2] := rfl
theorem rty_95 : Try.f95.resultTypes.toList = [36] := rfl
theorem res_96 : Try.f96.results.toList = [.tmp 2] := rfl
theorem rty_96 : Try.f96.resultTypes.toList = [36] := rfl
theorem res_97 : Try.f97.results.toList = [.tmp 2] := rfl
theorem rty_97 : Try.f97.resultTypes.toList = [36] := rfl
theorem res_98 : Try.f98.results.toList = [.tmp 2] := rfl
theorem rty_98 : Try.f98.resultTypes.toList = [2] := rfl
theorem res_99 : Try.f99.results.toList = [.tmp 2] := rfl
theorem rty_99 : Try.f99.resultTypes.toList = [4] := rfl
theorem res_100 : Try.f100.results.toList = [.tmp 2] := rfl
theorem rty_100 : Try.f100.resultTypes.toList = [4] := rfl
theorem res_101 : Try.f101.results.toList = [.tmp 4] := rfl
theorem rty_101 : Try.f101.resultTypes.toList = [3] := rfl
theorem res_102 : Try.f102.results.toList = [.cell 2 107] := rfl
theorem rty_102 : Try.f102.resultTypes.toList = [107] := rfl
theorem res_103 : Try.f103.results.toList = [.tmp 4] := rfl
theorem rty_103 : Try.f103.resultTypes.toList = [4] := rfl
theorem res_104 : Try.f104.results.toList = [.tmp 4] := rfl
theorem rty_104 : Try.f104.resultTypes.toList = [3] := rfl
theorem res_105 : Try.f105.results.toList = [.cell 2 114] := rfl
theorem rty_105 : Try.f105.resultTypes.toList = [114] := rfl
theorem res_106 : Try.f106.results.toList = [.tmp 4] := rfl
theorem rty_106 : Try.f106.resultTypes.toList = [4] := rfl
theorem res_107 : Try.f107.results.toList = [.tmp 2] := rfl
theorem rty_107 : Try.f107.resultTypes.toList = [23] := rfl
theorem res_108 : Try.f108.results.toList = [.tmp 4] := rfl
theorem rty_108 : Try.f108.resultTypes.toList = [36] := rfl
attribute [go_sem] cty_4 elTy_23 par_16 cty_23 par_15 par_17 par_18 elTy_29 par_20 cty_29 par_19 par_21 par_22 par_23 cty_3 par_24 par_25 par_26 cty_36 par_28 par_27 par_29 boolTy_4 par_30 par_31 par_32 par_33 par_34 par_35 par_36 par_37 par_38 par_39 cty_45 par_40 par_41 elTy_45 par_43 par_42 par_44 par_45 cty_54 par_47 par_46 cty_57 par_48 par_49 tySz_63 par_50 cty_63 par_52 par_51 cty_68 zeroC_68 tySz_68 par_53 par_54 tySz_74 par_55 cty_74 par_57 par_56 cty_79 zeroC_79 tySz_79 par_58 par_59 par_60 par_61 par_62 ixTy_23 tySz_5 cvTy_5_24 cty_24 zeroC_5 cty_5 par_63 zeroC_86 tySz_86 cvTy_24_5 ixTy_86 tySz_24 ixTy_29 tySz_4 cvTy_3_5 zeroC_4 elTy_36 ixTy_36 tySz_23 par_64 par_65 zeroC_23 cvTy_23_9 cvTy_3_88 par_66 par_67 par_68 zeroC_3 par_69 par_70 par_71 par_72 ixTy_45 tySz_3 par_73 par_74 par_75 par_76 par_77 par_78 elTy_54 ixTy_54 tySz_100 par_79 cty_100 elTy_57 ixTy_57 tySz_102 par_80 cty_102 fldTy_102_0 par_81 zeroC_102 par_82 par_83 par_84 fldTy_63_2 tySz_61 par_85 cty_61 fldTy_63_3 fldTy_68_0 fldTy_68_1 fldTy_68_3 fldTy_68_2 tySz_66 elTy_66 ixTy_66 tySz_107 zeroC_107 par_86 cty_107 fldTy_107_2 fldTy_63_0 fldTy_63_1 par_87 par_88 fldTy_107_0 fldTy_107_1 par_89 cty_66 fldTy_74_3 tySz_72 par_90 cty_72 fldTy_79_0 fldTy_79_1 fldTy_79_2 fldTy_79_3 tySz_77 elTy_77 ixTy_77 tySz_114 zeroC_114 fldTy_114_0 par_91 fldTy_114_1 fldTy_74_0 fldTy_74_1 fldTy_74_2 par_92 par_93 cty_77 par_94 par_95 elTy_130 zeroC_36 par_96 cty_130 par_97 bldTy_86 cvTy_3_24 cty_86 cvTy_5_3 par_98 cvTy_2_94 cvTy_94_3 cvTy_2_95 cvTy_95_3 cvTy_2_21 cvTy_21_3 cvTy_3_120 cvTy_120_5 cvTy_3_94 cvTy_3_95 cvTy_3_21 fldTy_100_0 par_99 fldTy_102_1 fldTy_102_2 fldTy_100_1 fldTy_100_2 par_100 elTy_61 ixTy_61 tySz_122 par_101 cty_122 par_102 fldTy_107_3 fldTy_107_4 fldTy_107_5 par_103 elTy_72 ixTy_72 tySz_127 par_104 cty_127 cty_114 par_105 par_106 par_107 ixTy_130 tySz_36 par_108 cvTy_5_2 cty_2 fldTy_122_5 fldTy_122_0 fldTy_122_1 fldTy_122_2 fldTy_122_3 fldTy_122_4 fldTy_127_0 fldTy_127_1 elTy_3
end Go.Ev
