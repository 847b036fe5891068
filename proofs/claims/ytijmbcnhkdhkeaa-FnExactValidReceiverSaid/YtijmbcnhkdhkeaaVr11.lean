/- Part 11 of what the row leans on: the evaluator, words, contracts of functions; pruned by a program of ours. -/
import Derived.Test.YtijmbcnhkdhkeaaVr10
import Derived.Test.YtijmbcnhkdhkeaaProg
import Derived.KernelRfl
namespace Go.Ev
open Go Go.Proofs
theorem mixed : Try.prog.follows .mixedOrders = true := by kernel_rfl
theorem elTy_25 : elTy Try.prog 25 = some (5, 1, 1) := by kernel_rfl
theorem cty_3 : cty Try.prog 3 = [none] := by kernel_rfl
theorem par_15 : parTys Try.prog 15 = [25] := by kernel_rfl
theorem cty_25 : cty Try.prog 25 = [some (5, 1)] := by kernel_rfl
theorem par_18 : parTys Try.prog 18 = [25, 25] := by kernel_rfl
theorem cty_4 : cty Try.prog 4 = [none] := by kernel_rfl
theorem par_22 : parTys Try.prog 22 = [39, 3] := by kernel_rfl
theorem cty_39 : cty Try.prog 39 = [some (25, 1)] := by kernel_rfl
theorem par_23 : parTys Try.prog 23 = [40, 3] := by kernel_rfl
theorem cty_40 : cty Try.prog 40 = [some (145, 3)] := by kernel_rfl
theorem par_25 : parTys Try.prog 25 = [39] := by kernel_rfl
theorem par_26 : parTys Try.prog 26 = [40] := by kernel_rfl
theorem cty_48 : cty Try.prog 48 = [some (151, 3)] := by kernel_rfl
theorem par_29 : parTys Try.prog 29 = [39, 39] := by kernel_rfl
theorem par_30 : parTys Try.prog 30 = [48, 48] := by kernel_rfl
theorem par_35 : parTys Try.prog 35 = [56, 3] := by kernel_rfl
theorem cty_56 : cty Try.prog 56 = [some (74, 3)] := by kernel_rfl
theorem par_37 : parTys Try.prog 37 = [56] := by kernel_rfl
theorem cty_58 : cty Try.prog 58 = [some (78, 3)] := by kernel_rfl
theorem zeroC_61 : zeroC Try.prog 61 = some [.v (.bool false), .v (.slice none 0 0), .v (.int .i64 0), .v (.slice none 0 0)] := by kernel_rfl
theorem tySz_61 : tySz Try.prog 61 = some (4, true) := by kernel_rfl
theorem par_39 : parTys Try.prog 39 = [61, 61] := by kernel_rfl
theorem cty_61 : cty Try.prog 61 = [none, some (78, 3), none, some (39, 1)] := by kernel_rfl
theorem par_40 : parTys Try.prog 40 = [58, 58] := by kernel_rfl
theorem tySz_74 : tySz Try.prog 74 = some (3, true) := by kernel_rfl
theorem par_48 : parTys Try.prog 48 = [74, 3] := by kernel_rfl
theorem cty_74 : cty Try.prog 74 = [some (5, 1), none, none] := by kernel_rfl
theorem par_50 : parTys Try.prog 50 = [74] := by kernel_rfl
theorem cty_78 : cty Try.prog 78 = [some (5, 1), none, none] := by kernel_rfl
theorem zeroC_78 : zeroC Try.prog 78 = some [.v (.slice none 0 0), .v (.int .i64 0), .v (.int .i64 0)] := by kernel_rfl
theorem tySz_78 : tySz Try.prog 78 = some (3, true) := by kernel_rfl
theorem par_52 : parTys Try.prog 52 = [78, 78] := by kernel_rfl
theorem tySz_85 : tySz Try.prog 85 = some (4, true) := by kernel_rfl
theorem tySz_87 : tySz Try.prog 87 = some (6, true) := by kernel_rfl
theorem par_54 : parTys Try.prog 54 = [85, 3] := by kernel_rfl
theorem cty_85 : cty Try.prog 85 = [none, none, some (87, 6), some (5, 1)] := by kernel_rfl
theorem par_55 : parTys Try.prog 55 = [87, 3] := by kernel_rfl
theorem cty_87 : cty Try.prog 87 = [none, none, none, none, none, some (5, 1)] := by kernel_rfl
theorem par_57 : parTys Try.prog 57 = [85] := by kernel_rfl
theorem par_58 : parTys Try.prog 58 = [87] := by kernel_rfl
theorem cty_92 : cty Try.prog 92 = [none, none, some (96, 6), some (5, 1)] := by kernel_rfl
theorem cty_96 : cty Try.prog 96 = [none, none, none, none, none, some (5, 1)] := by kernel_rfl
theorem zeroC_92 : zeroC Try.prog 92 = some [.v (.int .i64 0), .v (.int .i64 0), .v (.slice none 0 0), .v (.slice none 0 0)] := by kernel_rfl
theorem tySz_92 : tySz Try.prog 92 = some (4, true) := by kernel_rfl
theorem zeroC_96 : zeroC Try.prog 96 = some [.v (.int .i64 0), .v (.int .i64 0), .v (.int .i64 0), .v (.int .i64 0), .v (.bool false), .v (.slice none 0 0)] := by kernel_rfl
theorem tySz_96 : tySz Try.prog 96 = some (6, true) := by kernel_rfl
theorem par_60 : parTys Try.prog 60 = [92, 92] := by kernel_rfl
theorem par_61 : parTys Try.prog 61 = [96, 96] := by kernel_rfl
theorem tySz_107 : tySz Try.prog 107 = some (13, true) := by kernel_rfl
theorem par_65 : parTys Try.prog 65 = [107, 3] := by kernel_rfl
theorem cty_107 : cty Try.prog 107 = [none, none, none, none, none, some (87, 6), some (5, 1), none, some (74, 3), none, some (39, 1), some (243, 2), none] := by kernel_rfl
theorem par_67 : parTys Try.prog 67 = [107] := by kernel_rfl
theorem par_66 : parTys Try.prog 66 = [112] := by kernel_rfl
theorem cty_112 : cty Try.prog 112 = [none, none, none, none, none, some (96, 6), some (5, 1), none, some (78, 3), none, some (39, 1), some (204, 2), none] := by kernel_rfl
theorem zeroC_112 : zeroC Try.prog 112 = some [.v (.int .i64 0), .v (.int .i64 0), .v (.bool false), .v (.int .i64 0), .v (.int .i64 0), .v (.slice none 0 0), .v (.slice none 0 0), .v (.bool false), .v (.slice none 0 0), .v (.int .i64 0), .v (.slice none 0 0), .v (.slice none 0 0), .v (.int .i64 0)] := by kernel_rfl
theorem tySz_112 : tySz Try.prog 112 = some (13, true) := by kernel_rfl
theorem par_68 : parTys Try.prog 68 = [112] := by kernel_rfl
theorem boolTy_4 : boolTy Try.prog 4 = some () := by kernel_rfl
theorem par_69 : parTys Try.prog 69 = [112, 112] := by kernel_rfl
theorem tySz_3 : tySz Try.prog 3 = some (1, false) := by kernel_rfl
theorem zeroC_5 : zeroC Try.prog 5 = some [.v (.int .u8 0)] := by kernel_rfl
theorem cty_5 : cty Try.prog 5 = [none] := by kernel_rfl
theorem ixTy_25 : ixTy Try.prog 25 = some (.sl (5, 1, 1)) := by kernel_rfl
theorem tySz_5 : tySz Try.prog 5 = some (1, false) := by kernel_rfl
theorem zeroC_3 : zeroC Try.prog 3 = some [.v (.int .i64 0)] := by kernel_rfl
theorem cvTy_3_5 : cvTy Try.prog 3 5 = some (.int .u8) := by kernel_rfl
theorem elTy_39 : elTy Try.prog 39 = some (25, 1, 24) := by kernel_rfl
theorem ixTy_39 : ixTy Try.prog 39 = some (.sl (25, 1, 24)) := by kernel_rfl
theorem tySz_25 : tySz Try.prog 25 = some (1, false) := by kernel_rfl
theorem par_92 : parTys Try.prog 92 = [25, 3] := by kernel_rfl
theorem elTy_40 : elTy Try.prog 40 = some (145, 3, 40) := by kernel_rfl
theorem ixTy_40 : ixTy Try.prog 40 = some (.sl (145, 3, 40)) := by kernel_rfl
theorem tySz_145 : tySz Try.prog 145 = some (3, true) := by kernel_rfl
theorem par_93 : parTys Try.prog 93 = [145, 3] := by kernel_rfl
theorem cty_145 : cty Try.prog 145 = [none, none, some (5, 1)] := by kernel_rfl
theorem par_94 : parTys Try.prog 94 = [39] := by kernel_rfl
theorem par_96 : parTys Try.prog 96 = [48, 3] := by kernel_rfl
theorem par_97 : parTys Try.prog 97 = [39, 25] := by kernel_rfl
theorem zeroC_25 : zeroC Try.prog 25 = some [.v (.slice none 0 0)] := by kernel_rfl
theorem elTy_48 : elTy Try.prog 48 = some (151, 3, 40) := by kernel_rfl
theorem zeroC_151 : zeroC Try.prog 151 = some [.v (.bool false), .v (.int .i64 0), .v (.slice none 0 0)] := by kernel_rfl
theorem cty_151 : cty Try.prog 151 = [none, none, some (5, 1)] := by kernel_rfl
theorem par_100 : parTys Try.prog 100 = [145] := by kernel_rfl
theorem ixTy_48 : ixTy Try.prog 48 = some (.sl (151, 3, 40)) := by kernel_rfl
theorem tySz_151 : tySz Try.prog 151 = some (3, true) := by kernel_rfl
theorem par_101 : parTys Try.prog 101 = [39] := by kernel_rfl
theorem mapTy_156 : mapTy Try.prog 156 = some (.string, 3) := by kernel_rfl
theorem cvTy_25_9 : cvTy Try.prog 25 9 = some .bytes := by kernel_rfl
theorem fldTy_151_0 : fldTy Try.prog 151 0 = some (0, 1, false) := by kernel_rfl
theorem tySz_4 : tySz Try.prog 4 = some (1, false) := by kernel_rfl
theorem fldTy_151_2 : fldTy Try.prog 151 2 = some (2, 1, false) := by kernel_rfl
theorem zeroV_3 : zeroV Try.prog 3 = some (.int .i64 0) := by kernel_rfl
theorem elTy_59 : elTy Try.prog 59 = some (39, 1, 24) := by kernel_rfl
theorem zeroC_39 : zeroC Try.prog 39 = some [.v (.slice none 0 0)] := by kernel_rfl
theorem cty_59 : cty Try.prog 59 = [some (39, 1)] := by kernel_rfl
theorem tySz_39 : tySz Try.prog 39 = some (1, false) := by kernel_rfl
theorem par_109 : parTys Try.prog 109 = [151, 151] := by kernel_rfl
theorem fldTy_151_1 : fldTy Try.prog 151 1 = some (1, 1, false) := by kernel_rfl
theorem elTy_56 : elTy Try.prog 56 = some (74, 3, 40) := by kernel_rfl
theorem ixTy_56 : ixTy Try.prog 56 = some (.sl (74, 3, 40)) := by kernel_rfl
theorem par_110 : parTys Try.prog 110 = [58] := by kernel_rfl
theorem elTy_58 : elTy Try.prog 58 = some (78, 3, 40) := by kernel_rfl
theorem ixTy_58 : ixTy Try.prog 58 = some (.sl (78, 3, 40)) := by kernel_rfl
theorem fldTy_78_1 : fldTy Try.prog 78 1 = some (1, 1, false) := by kernel_rfl
theorem fldTy_78_2 : fldTy Try.prog 78 2 = some (2, 1, false) := by kernel_rfl
theorem fldTy_78_0 : fldTy Try.prog 78 0 = some (0, 1, false) := by kernel_rfl
theorem par_114 : parTys Try.prog 114 = [58] := by kernel_rfl
theorem fldTy_61_0 : fldTy Try.prog 61 0 = some (0, 1, false) := by kernel_rfl
theorem fldTy_61_1 : fldTy Try.prog 61 1 = some (1, 1, false) := by kernel_rfl
theorem tySz_58 : tySz Try.prog 58 = some (1, false) := by kernel_rfl
theorem fldTy_61_2 : fldTy Try.prog 61 2 = some (2, 1, false) := by kernel_rfl
theorem fldTy_61_3 : fldTy Try.prog 61 3 = some (3, 1, false) := by kernel_rfl
theorem tySz_59 : tySz Try.prog 59 = some (1, false) := by kernel_rfl
theorem par_118 : parTys Try.prog 118 = [59, 59] := by kernel_rfl
theorem fldTy_74_0 : fldTy Try.prog 74 0 = some (0, 1, false) := by kernel_rfl
theorem elTy_173 : elTy Try.prog 173 = some (3, 1, 8) := by kernel_rfl
theorem cty_173 : cty Try.prog 173 = [some (3, 1)] := by kernel_rfl
theorem fldTy_74_1 : fldTy Try.prog 74 1 = some (1, 1, false) := by kernel_rfl
theorem fldTy_74_2 : fldTy Try.prog 74 2 = some (2, 1, false) := by kernel_rfl
theorem par_128 : parTys Try.prog 128 = [78] := by kernel_rfl
theorem par_104 : parTys Try.prog 104 = [78, 151] := by kernel_rfl
theorem fldTy_85_2 : fldTy Try.prog 85 2 = some (2, 1, false) := by kernel_rfl
theorem tySz_83 : tySz Try.prog 83 = some (1, false) := by kernel_rfl
theorem par_132 : parTys Try.prog 132 = [83, 3] := by kernel_rfl
theorem cty_83 : cty Try.prog 83 = [some (87, 6)] := by kernel_rfl
theorem fldTy_85_3 : fldTy Try.prog 85 3 = some (3, 1, false) := by kernel_rfl
theorem fldTy_87_5 : fldTy Try.prog 87 5 = some (5, 1, false) := by kernel_rfl
theorem par_133 : parTys Try.prog 133 = [92] := by kernel_rfl
theorem fldTy_92_0 : fldTy Try.prog 92 0 = some (0, 1, false) := by kernel_rfl
theorem par_134 : parTys Try.prog 134 = [96, 3] := by kernel_rfl
theorem fldTy_96_2 : fldTy Try.prog 96 2 = some (2, 1, false) := by kernel_rfl
theorem fldTy_92_1 : fldTy Try.prog 92 1 = some (1, 1, false) := by kernel_rfl
theorem elTy_90 : elTy Try.prog 90 = some (96, 6, 64) := by kernel_rfl
theorem fldTy_92_2 : fldTy Try.prog 92 2 = some (2, 1, false) := by kernel_rfl
theorem tySz_90 : tySz Try.prog 90 = some (1, false) := by kernel_rfl
theorem ixTy_90 : ixTy Try.prog 90 = some (.sl (96, 6, 64)) := by kernel_rfl
theorem fldTy_92_3 : fldTy Try.prog 92 3 = some (3, 1, false) := by kernel_rfl
theorem fldTy_96_5 : fldTy Try.prog 96 5 = some (5, 1, false) := by kernel_rfl
theorem fldTy_96_4 : fldTy Try.prog 96 4 = some (4, 1, false) := by kernel_rfl
theorem fldTy_85_0 : fldTy Try.prog 85 0 = some (0, 1, false) := by kernel_rfl
theorem fldTy_85_1 : fldTy Try.prog 85 1 = some (1, 1, false) := by kernel_rfl
theorem par_137 : parTys Try.prog 137 = [83] := by kernel_rfl
theorem fldTy_87_0 : fldTy Try.prog 87 0 = some (0, 1, false) := by kernel_rfl
theorem fldTy_96_0 : fldTy Try.prog 96 0 = some (0, 1, false) := by kernel_rfl
theorem fldTy_87_1 : fldTy Try.prog 87 1 = some (1, 1, false) := by kernel_rfl
theorem fldTy_96_1 : fldTy Try.prog 96 1 = some (1, 1, false) := by kernel_rfl
theorem fldTy_87_2 : fldTy Try.prog 87 2 = some (2, 1, false) := by kernel_rfl
theorem fldTy_87_3 : fldTy Try.prog 87 3 = some (3, 1, false) := by kernel_rfl
theorem fldTy_96_3 : fldTy Try.prog 96 3 = some (3, 1, false) := by kernel_rfl
theorem fldTy_87_4 : fldTy Try.prog 87 4 = some (4, 1, false) := by kernel_rfl
theorem par_138 : parTys Try.prog 138 = [92] := by kernel_rfl
theorem par_139 : parTys Try.prog 139 = [96] := by kernel_rfl
theorem cty_90 : cty Try.prog 90 = [some (96, 6)] := by kernel_rfl
theorem par_145 : parTys Try.prog 145 = [90, 90] := by kernel_rfl
theorem fldTy_107_3 : fldTy Try.prog 107 3 = some (3, 4, true) := by kernel_rfl
theorem fldTy_107_4 : fldTy Try.prog 107 4 = some (7, 4, true) := by kernel_rfl
theorem tySz_104 : tySz Try.prog 104 = some (4, true) := by kernel_rfl
theorem par_148 : parTys Try.prog 148 = [104, 3] := by kernel_rfl
theorem cty_104 : cty Try.prog 104 = [none, some (74, 3), none, some (39, 1)] := by kernel_rfl
theorem fldTy_107_5 : fldTy Try.prog 107 5 = some (11, 1, false) := by kernel_rfl
theorem tySz_105 : tySz Try.prog 105 = some (1, false) := by kernel_rfl
theorem par_149 : parTys Try.prog 149 = [105, 3] := by kernel_rfl
theorem cty_105 : cty Try.prog 105 = [some (243, 2)] := by kernel_rfl
theorem fldTy_112_0 : fldTy Try.prog 112 0 = some (0, 1, false) := by kernel_rfl
theorem fldTy_112_1 : fldTy Try.prog 112 1 = some (1, 1, false) := by kernel_rfl
theorem fldTy_112_6 : fldTy Try.prog 112 6 = some (12, 1, false) := by kernel_rfl
theorem fldTy_112_2 : fldTy Try.prog 112 2 = some (2, 1, false) := by kernel_rfl
theorem fldTy_112_3 : fldTy Try.prog 112 3 = some (3, 4, true) := by kernel_rfl
theorem fldTy_112_4 : fldTy Try.prog 112 4 = some (7, 4, true) := by kernel_rfl
theorem fldTy_112_5 : fldTy Try.prog 112 5 = some (11, 1, false) := by kernel_rfl
theorem tySz_110 : tySz Try.prog 110 = some (1, false) := by kernel_rfl
theorem elTy_110 : elTy Try.prog 110 = some (204, 2, 32) := by kernel_rfl
theorem par_150 : parTys Try.prog 150 = [61] := by kernel_rfl
theorem par_151 : parTys Try.prog 151 = [112] := by kernel_rfl
theorem fldTy_107_0 : fldTy Try.prog 107 0 = some (0, 1, false) := by kernel_rfl
theorem fldTy_107_1 : fldTy Try.prog 107 1 = some (1, 1, false) := by kernel_rfl
theorem fldTy_107_2 : fldTy Try.prog 107 2 = some (2, 1, false) := by kernel_rfl
theorem par_152 : parTys Try.prog 152 = [104] := by kernel_rfl
theorem par_153 : parTys Try.prog 153 = [105] := by kernel_rfl
theorem fldTy_107_6 : fldTy Try.prog 107 6 = some (12, 1, false) := by kernel_rfl
theorem par_154 : parTys Try.prog 154 = [61] := by kernel_rfl
theorem par_155 : parTys Try.prog 155 = [110, 206] := by kernel_rfl
theorem cty_110 : cty Try.prog 110 = [some (204, 2)] := by kernel_rfl
theorem cty_206 : cty Try.prog 206 = [none] := by kernel_rfl
theorem par_158 : parTys Try.prog 158 = [110, 110] := by kernel_rfl
theorem tySz_56 : tySz Try.prog 56 = some (1, false) := by kernel_rfl
theorem par_159 : parTys Try.prog 159 = [58, 110] := by kernel_rfl
theorem par_168 : parTys Try.prog 168 = [96] := by kernel_rfl
theorem fldTy_145_2 : fldTy Try.prog 145 2 = some (2, 1, false) := by kernel_rfl
theorem par_172 : parTys Try.prog 172 = [78] := by kernel_rfl
theorem par_173 : parTys Try.prog 173 = [78, 151] := by kernel_rfl
theorem par_174 : parTys Try.prog 174 = [25, 25] := by kernel_rfl
theorem fldTy_145_0 : fldTy Try.prog 145 0 = some (0, 1, false) := by kernel_rfl
theorem fldTy_145_1 : fldTy Try.prog 145 1 = some (1, 1, false) := by kernel_rfl
theorem par_176 : parTys Try.prog 176 = [173, 3] := by kernel_rfl
theorem ixTy_59 : ixTy Try.prog 59 = some (.sl (39, 1, 24)) := by kernel_rfl
theorem par_184 : parTys Try.prog 184 = [3] := by kernel_rfl
theorem ixTy_173 : ixTy Try.prog 173 = some (.sl (3, 1, 8)) := by kernel_rfl
theorem par_185 : parTys Try.prog 185 = [3, 3] := by kernel_rfl
theorem par_186 : parTys Try.prog 186 = [25] := by kernel_rfl
theorem elTy_83 : elTy Try.prog 83 = some (87, 6, 64) := by kernel_rfl
theorem ixTy_83 : ixTy Try.prog 83 = some (.sl (87, 6, 64)) := by kernel_rfl
theorem cvTy_3_225 : cvTy Try.prog 3 225 = some (.int .u64) := by kernel_rfl
theorem fldTy_104_1 : fldTy Try.prog 104 1 = some (1, 1, false) := by kernel_rfl
theorem fldTy_104_3 : fldTy Try.prog 104 3 = some (3, 1, false) := by kernel_rfl
theorem par_191 : parTys Try.prog 191 = [59, 3] := by kernel_rfl
theorem elTy_105 : elTy Try.prog 105 = some (243, 2, 32) := by kernel_rfl
theorem ixTy_105 : ixTy Try.prog 105 = some (.sl (243, 2, 32)) := by kernel_rfl
theorem tySz_243 : tySz Try.prog 243 = some (2, true) := by kernel_rfl
theorem par_192 : parTys Try.prog 192 = [243, 3] := by kernel_rfl
theorem cty_243 : cty Try.prog 243 = [none, some (145, 3)] := by kernel_rfl
theorem fldTy_104_0 : fldTy Try.prog 104 0 = some (0, 1, false) := by kernel_rfl
theorem fldTy_104_2 : fldTy Try.prog 104 2 = some (2, 1, false) := by kernel_rfl
theorem par_193 : parTys Try.prog 193 = [59] := by kernel_rfl
theorem zeroC_204 : zeroC Try.prog 204 = some [.v (.int .i64 0), .v (.slice none 0 0)] := by kernel_rfl
theorem cty_204 : cty Try.prog 204 = [none, some (151, 3)] := by kernel_rfl
theorem par_194 : parTys Try.prog 194 = [243] := by kernel_rfl
theorem ixTy_110 : ixTy Try.prog 110 = some (.sl (204, 2, 32)) := by kernel_rfl
theorem tySz_204 : tySz Try.prog 204 = some (2, true) := by kernel_rfl
theorem par_195 : parTys Try.prog 195 = [110, 206] := by kernel_rfl
theorem par_157 : parTys Try.prog 157 = [58, 204] := by kernel_rfl
theorem fldTy_204_0 : fldTy Try.prog 204 0 = some (0, 1, false) := by kernel_rfl
theorem fldTy_204_1 : fldTy Try.prog 204 1 = some (1, 1, false) := by kernel_rfl
theorem tySz_48 : tySz Try.prog 48 = some (1, false) := by kernel_rfl
theorem par_196 : parTys Try.prog 196 = [204, 3] := by kernel_rfl
theorem par_197 : parTys Try.prog 197 = [204, 204] := by kernel_rfl
theorem par_198 : parTys Try.prog 198 = [58, 204] := by kernel_rfl
theorem par_203 : parTys Try.prog 203 = [25] := by kernel_rfl
theorem par_204 : parTys Try.prog 204 = [173, 3] := by kernel_rfl
theorem par_205 : parTys Try.prog 205 = [173, 3] := by kernel_rfl
theorem par_206 : parTys Try.prog 206 = [173, 3] := by kernel_rfl
theorem par_207 : parTys Try.prog 207 = [173, 3] := by kernel_rfl
theorem fldTy_243_1 : fldTy Try.prog 243 1 = some (1, 1, false) := by kernel_rfl
theorem tySz_40 : tySz Try.prog 40 = some (1, false) := by kernel_rfl
theorem fldTy_243_0 : fldTy Try.prog 243 0 = some (0, 1, false) := by kernel_rfl
theorem par_220 : parTys Try.prog 220 = [204, 3] := by kernel_rfl
theorem cvTy_3_252 : cvTy Try.prog 3 252 = some (.int .i8) := by kernel_rfl
theorem cvTy_252_3 : cvTy Try.prog 252 3 = some (.int .i64) := by kernel_rfl
theorem cvTy_3_253 : cvTy Try.prog 3 253 = some (.int .i16) := by kernel_rfl
theorem cvTy_253_3 : cvTy Try.prog 253 3 = some (.int .i64) := by kernel_rfl
theorem cvTy_3_21 : cvTy Try.prog 3 21 = some (.int .i32) := by kernel_rfl
theorem cvTy_21_3 : cvTy Try.prog 21 3 = some (.int .i64) := by kernel_rfl
theorem res_9 : Try.f9.results.toList = [.tmp 2] := rfl
theorem rty_9 : Try.f9.resultTypes.toList = [4] := rfl
theorem res_15 : Try.f15.results.toList = [.tmp 2] := rfl
theorem rty_15 : Try.f15.resultTypes.toList = [25] := rfl
theorem res_18 : Try.f18.results.toList = [.tmp 4] := rfl
theorem rty_18 : Try.f18.resultTypes.toList = [4] := rfl
theorem res_22 : Try.f22.results.toList = [.tmp 4] := rfl
theorem rty_22 : Try.f22.resultTypes.toList = [3] := rfl
theorem res_23 : Try.f23.results.toList = [.tmp 4] := rfl
theorem rty_23 : Try.f23.resultTypes.toList = [3] := rfl
theorem res_25 : Try.f25.results.toList = [.tmp 2] := rfl
theorem rty_25 : Try.f25.resultTypes.toList = [39] := rfl
theorem res_26 : Try.f26.results.toList = [.tmp 2] := rfl
theorem rty_26 : Try.f26.resultTypes.toList = [48] := rfl
theorem res_29 : Try.f29.results.toList = [.tmp 4] := rfl
theorem rty_29 : Try.f29.resultTypes.toList = [4] := rfl
theorem res_30 : Try.f30.results.toList = [.tmp 4] := rfl
theorem rty_30 : Try.f30.resultTypes.toList = [4] := rfl
theorem res_35 : Try.f35.results.toList = [.tmp 4] := rfl
theorem rty_35 : Try.f35.resultTypes.toList = [3] := rfl
theorem res_37 : Try.f37.results.toList = [.tmp 2] := rfl
theorem rty_37 : Try.f37.resultTypes.toList = [58] := rfl
theorem res_39 : Try.f39.results.toList = [.tmp 4] := rfl
theorem rty_39 : Try.f39.resultTypes.toList = [4] := rfl
theorem res_40 : Try.f40.results.toList = [.tmp 4] := rfl
theorem rty_40 : Try.f40.resultTypes.toList = [4] := rfl
theorem res_48 : Try.f48.results.toList = [.tmp 4] := rfl
theorem rty_48 : Try.f48.resultTypes.toList = [3] := rfl
theorem res_50 : Try.f50.results.toList = [.cell 2 78] := rfl
theorem rty_50 : Try.f50.resultTypes.toList = [78] := rfl
theorem res_52 : Try.f52.results.toList = [.tmp 4] := rfl
theorem rty_52 : Try.f52.resultTypes.toList = [4] := rfl
theorem res_54 : Try.f54.results.toList = [.tmp 4] := rfl
theorem rty_54 : Try.f54.resultTypes.toList = [3] := rfl
theorem res_55 : Try.f55.results.toList = [.tmp 4] := rfl
theorem rty_55 : Try.f55.resultTypes.toList = [3] := rfl
theorem res_57 : Try.f57.results.toList = [.cell 2 92] := rfl
theorem rty_57 : Try.f57.resultTypes.toList = [92] := rfl
theorem res_58 : Try.f58.results.toList = [.cell 2 96] := rfl
theorem rty_58 : Try.f58.resultTypes.toList = [96] := rfl
theorem res_60 : Try.f60.results.toList = [.tmp 4] := rfl
theorem rty_60 : Try.f60.resultTypes.toList = [4] := rfl
theorem res_61 : Try.f61.results.toList = [.tmp 4] := rfl
theorem rty_61 : Try.f61.resultTypes.toList = [4] := rfl
theorem res_65 : Try.f65.results.toList = [.tmp 4] := rfl
theorem rty_65 : Try.f65.resultTypes.toList = [3] := rfl
theorem res_66 : Try.f66.results.toList = [.tmp 2] := rfl
theorem rty_66 : Try.f66.resultTypes.toList = [4] := rfl
theorem res_67 : Try.f67.results.toList = [.cell 2 112] := rfl
theorem rty_67 : Try.f67.resultTypes.toList = [112] := rfl
theorem res_68 : Try.f68.results.toList = [.tmp 2] := rfl
theorem rty_68 : Try.f68.resultTypes.toList = [4] := rfl
theorem res_69 : Try.f69.results.toList = [.tmp 4] := rfl
theorem rty_69 : Try.f69.resultTypes.toList = [4] := rfl
theorem res_92 : Try.f92.results.toList = [.tmp 4] := rfl
theorem rty_92 : Try.f92.resultTypes.toList = [3] := rfl
theorem res_93 : Try.f93.results.toList = [.tmp 4] := rfl
theorem rty_93 : Try.f93.resultTypes.toList = [3] := rfl
theorem res_94 : Try.f94.results.toList = [.tmp 2] := rfl
theorem rty_94 : Try.f94.resultTypes.toList = [4] := rfl
theorem res_96 : Try.f96.results.toList = [.tmp 4] := rfl
theorem rty_96 : Try.f96.resultTypes.toList = [39] := rfl
theorem res_97 : Try.f97.results.toList = [.tmp 4] := rfl
theorem rty_97 : Try.f97.resultTypes.toList = [3] := rfl
theorem res_100 : Try.f100.results.toList = [.cell 2 151] := rfl
theorem rty_100 : Try.f100.resultTypes.toList = [151] := rfl
theorem res_101 : Try.f101.results.toList = [.tmp 2] := rfl
theorem rty_101 : Try.f101.resultTypes.toList = [4] := rfl
theorem res_104 : Try.f104.results.toList = [.tmp 4] := rfl
theorem rty_104 : Try.f104.resultTypes.toList = [4] := rfl
theorem res_109 : Try.f109.results.toList = [.tmp 4] := rfl
theorem rty_109 : Try.f109.resultTypes.toList = [4] := rfl
theorem res_110 : Try.f110.results.toList = [.tmp 2] := rfl
theorem rty_110 : Try.f110.resultTypes.toList = [4] := rfl
theorem res_114 : Try.f114.results.toList = [.tmp 2] := rfl
theorem rty_114 : Try.f114.resultTypes.toList = [4] := rfl
theorem res_118 : Try.f118.results.toList = [.tmp 4] := rfl
theorem rty_118 : Try.f118.resultTypes.toList = [4] := rfl
theorem res_128 : Try.f128.results.toList = [.tmp 2] := rfl
theorem rty_128 : Try.f128.resultTypes.toList = [4] := rfl
theorem res_132 : Try.f132.results.toList = [.tmp 4] := rfl
theorem rty_132 : Try.f132.resultTypes.toList = [3] := rfl
theorem res_133 : Try.f133.results.toList = [.tmp 2] := rfl
theorem rty_133 : Try.f133.resultTypes.toList = [4] := rfl
theorem res_134 : Try.f134.results.toList = [.tmp 4] := rfl
theorem rty_134 : Try.f134.resultTypes.toList = [4] := rfl
theorem res_137 : Try.f137.results.toList = [.tmp 2] := rfl
theorem rty_137 : Try.f137.resultTypes.toList = [90] := rfl
theorem res_138 : Try.f138.results.toList = [.tmp 2] := rfl
theorem rty_138 : Try.f138.resultTypes.toList = [4] := rfl
theorem res_139 : Try.f139.results.toList = [.tmp 2] := rfl
theorem rty_139 : Try.f139.resultTypes.toList = [4] := rfl
theorem res_145 : Try.f145.results.toList = [.tmp 4] := rfl
theorem rty_145 : Try.f145.resultTypes.toList = [4] := rfl
theorem res_148 : Try.f148.results.toList = [.tmp 4] := rfl
theorem rty_148 : Try.f148.resultTypes.toList = [3] := rfl
theorem res_149 : Try.f149.results.toList = [.tmp 4] := rfl
theorem rty_149 : Try.f149.resultTypes.toList = [3] := rfl
theorem res_150 : Try.f150.results.toList = [.tmp 2] := rfl
theorem rty_150 : Try.f150.resultTypes.toList = [4] := rfl
theorem res_151 : Try.f151.results.toList = [.tmp 2] := rfl
theorem rty_151 : Try.f151.resultTypes.toList = [4] := rfl
theorem res_152 : Try.f152.results.toList = [.cell 2 61] := rfl
theorem rty_152 : Try.f152.resultTypes.toList = [61] := rfl
theorem res_153 : Try.f153.results.toList = [.tmp 2] := rfl
theorem rty_153 : Try.f153.resultTypes.toList = [110] := rfl
theorem res_154 : Try.f154.results.toList = [.tmp 2] := rfl
theorem rty_154 : Try.f154.resultTypes.toList = [4] := rfl
theorem res_155 : Try.f155.results.toList = [.tmp 4] := rfl
theorem rty_155 : Try.f155.resultTypes.toList = [4] := rfl
theorem res_156 : Try.f156.results.toList = [.tmp 3] := rfl
theorem rty_156 : Try.f156.resultTypes.toList = [4] := rfl
theorem res_157 : Try.f157.results.toList = [.tmp 4] := rfl
theorem rty_157 : Try.f157.resultTypes.toList = [4] := rfl
theorem res_158 : Try.f158.results.toList = [.tmp 4] := rfl
theorem rty_158 : Try.f158.resultTypes.toList = [4] := rfl
theorem res_159 : Try.f159.results.toList = [.tmp 4] := rfl
theorem rty_159 : Try.f159.resultTypes.toList = [4] := rfl
theorem res_168 : Try.f168.results.toList = [.tmp 2] := rfl
theorem rty_168 : Try.f168.resultTypes.toList = [4] := rfl
theorem res_172 : Try.f172.results.toList = [.tmp 2] := rfl
theorem rty_172 : Try.f172.resultTypes.toList = [4] := rfl
theorem res_173 : Try.f173.results.toList = [.tmp 4] := rfl
theorem rty_173 : Try.f173.resultTypes.toList = [4] := rfl
theorem res_174 : Try.f174.results.toList = [.tmp 4] := rfl
theorem rty_174 : Try.f174.resultTypes.toList = [4] := rfl
theorem res_176 : Try.f176.results.toList = [.tmp 4, .tmp 5] := rfl
theorem rty_176 : Try.f176.resultTypes.toList = [25, 3] := rfl
theorem res_184 : Try.f184.results.toList = [.tmp 2] := rfl
theorem rty_184 : Try.f184.resultTypes.toList = [4] := rfl
theorem res_185 : Try.f185.results.toList = [.tmp 4] := rfl
theorem rty_185 : Try.f185.resultTypes.toList = [4] := rfl
theorem res_186 : Try.f186.results.toList = [.tmp 2] := rfl
theorem rty_186 : Try.f186.resultTypes.toList = [4] := rfl
theorem res_191 : Try.f191.results.toList = [.tmp 4] := rfl
theorem rty_191 : Try.f191.resultTypes.toList = [3] := rfl
theorem res_192 : Try.f192.results.toList = [.tmp 4] := rfl
theorem rty_192 : Try.f192.resultTypes.toList = [3] := rfl
theorem res_193 : Try.f193.results.toList = [.tmp 2] := rfl
theorem rty_193 : Try.f193.resultTypes.toList = [59] := rfl
theorem res_194 : Try.f194.results.toList = [.cell 2 204] := rfl
theorem rty_194 : Try.f194.resultTypes.toList = [204] := rfl
theorem res_195 : Try.f195.results.toList = [.tmp 4] := rfl
theorem rty_195 : Try.f195.resultTypes.toList = [3] := rfl
theorem res_196 : Try.f196.results.toList = [.tmp 4] := rfl
theorem rty_196 : Try.f196.resultTypes.toList = [48] := rfl
theorem res_197 : Try.f197.results.toList = [.tmp 4] := rfl
theorem rty_197 : Try.f197.resultTypes.toList = [4] := rfl
theorem res_198 : Try.f198.results.toList = [.tmp 4] := rfl
theorem rty_198 : Try.f198.resultTypes.toList = [4] := rfl
theorem res_203 : Try.f203.results.toList = [.tmp 2] := rfl
theorem rty_203 : Try.f203.resultTypes.toList = [4] := rfl
theorem res_204 : Try.f204.results.toList = [.tmp 4, .tmp 5] := rfl
theorem rty_204 : Try.f204.resultTypes.toList = [25, 3] := rfl
theorem res_205 : Try.f205.results.toList = [.tmp 4, .tmp 5] := rfl
theorem rty_205 : Try.f205.resultTypes.toList = [25, 3] := rfl
theorem res_206 : Try.f206.results.toList = [.tmp 4, .tmp 5] := rfl
theorem rty_206 : Try.f206.resultTypes.toList = [25, 3] := rfl
theorem res_207 : Try.f207.results.toList = [.tmp 4, .tmp 5] := rfl
theorem rty_207 : Try.f207.resultTypes.toList = [25, 3] := rfl
theorem res_220 : Try.f220.results.toList = [.tmp 4] := rfl
theorem rty_220 : Try.f220.resultTypes.toList = [48] := rfl
attribute [go_sem] elTy_25 cty_3 par_15 cty_25 par_18 cty_4 par_22 cty_39 par_23 cty_40 par_25 par_26 cty_48 par_29 par_30 par_35 cty_56 par_37 cty_58 zeroC_61 tySz_61 par_39 cty_61 par_40 tySz_74 par_48 cty_74 par_50 cty_78 zeroC_78 tySz_78 par_52 tySz_85 tySz_87 par_54 cty_85 par_55 cty_87 par_57 par_58 cty_92 cty_96 zeroC_92 tySz_92 zeroC_96 tySz_96 par_60 par_61 tySz_107 par_65 cty_107 par_67 par_66 cty_112 zeroC_112 tySz_112 par_68 boolTy_4 par_69 tySz_3 zeroC_5 cty_5 ixTy_25 tySz_5 zeroC_3 cvTy_3_5 elTy_39 ixTy_39 tySz_25 par_92 elTy_40 ixTy_40 tySz_145 par_93 cty_145 par_94 par_96 par_97 zeroC_25 elTy_48 zeroC_151 cty_151 par_100 ixTy_48 tySz_151 par_101 mapTy_156 cvTy_25_9 fldTy_151_0 tySz_4 fldTy_151_2 zeroV_3 elTy_59 zeroC_39 cty_59 tySz_39 par_109 fldTy_151_1 elTy_56 ixTy_56 par_110 elTy_58 ixTy_58 fldTy_78_1 fldTy_78_2 fldTy_78_0 par_114 fldTy_61_0 fldTy_61_1 tySz_58 fldTy_61_2 fldTy_61_3 tySz_59 par_118 fldTy_74_0 elTy_173 cty_173 fldTy_74_1 fldTy_74_2 par_128 par_104 fldTy_85_2 tySz_83 par_132 cty_83 fldTy_85_3 fldTy_87_5 par_133 fldTy_92_0 par_134 fldTy_96_2 fldTy_92_1 elTy_90 fldTy_92_2 tySz_90 ixTy_90 fldTy_92_3 fldTy_96_5 fldTy_96_4 fldTy_85_0 fldTy_85_1 par_137 fldTy_87_0 fldTy_96_0 fldTy_87_1 fldTy_96_1 fldTy_87_2 fldTy_87_3 fldTy_96_3 fldTy_87_4 par_138 par_139 cty_90 par_145 fldTy_107_3 fldTy_107_4 tySz_104 par_148 cty_104 fldTy_107_5 tySz_105 par_149 cty_105 fldTy_112_0 fldTy_112_1 fldTy_112_6 fldTy_112_2 fldTy_112_3 fldTy_112_4 fldTy_112_5 tySz_110 elTy_110 par_150 par_151 fldTy_107_0 fldTy_107_1 fldTy_107_2 par_152 par_153 fldTy_107_6 par_154 par_155 cty_110 cty_206 par_158 tySz_56 par_159 par_168 fldTy_145_2 par_172 par_173 par_174 fldTy_145_0 fldTy_145_1 par_176 ixTy_59 par_184 ixTy_173 par_185 par_186 elTy_83 ixTy_83 cvTy_3_225 fldTy_104_1 fldTy_104_3 par_191 elTy_105 ixTy_105 tySz_243 par_192 cty_243 fldTy_104_0 fldTy_104_2 par_193 zeroC_204 cty_204 par_194 ixTy_110 tySz_204 par_195 par_157 fldTy_204_0 fldTy_204_1 tySz_48 par_196 par_197 par_198 par_203 par_204 par_205 par_206 par_207 fldTy_243_1 tySz_40 fldTy_243_0 par_220 cvTy_3_252 cvTy_252_3 cvTy_3_253 cvTy_253_3 cvTy_3_21 cvTy_21_3
end Go.Ev
set_option linter.unusedSimpArgs false
set_option linter.unusedVariables false
namespace Go.Ev
open Go Go.RowKit Go.Proofs
theorem c_toByteS (bs : List UInt8) (hb : bs.length ≤ 1048576) : Meets Try.prog 15 [rowB bs] (fun r => r = rowB bs) := by
  refine Meets.intro mixed (hint []) Try.func15 rfl (by decide) res_15 rty_15 (by kernel_rfl) ?_; 
  simp -dsimp -implicitDefEqProofs only [go_sem, Nat.reduceBEq, Nat.reduceAdd, Nat.reduceLeDiff, Nat.reduceSub, Int.reduceEq]
  refine ask.of (by omega) ?_
  refine LoopE.cnt bs.length (fun i s => s.env 0 = .rd .ent 5 1 (bytesA bs) ∧ s.env 3 = .ref [7] ∧ s.env 4 = .v (.int .i64 i) ∧ s.σ [7] = some (.row 5 1 (bytesA (bs.take i ++ List.replicate (bs.length - i) 0)))) ⟨by simp -dsimp -implicitDefEqProofs only [go_sem, Nat.reduceBEq, Nat.reduceAdd, Nat.reduceLeDiff, Nat.reduceSub, Int.reduceEq, initE], by simp -dsimp -implicitDefEqProofs only [go_sem, Nat.reduceBEq, Nat.reduceAdd, Nat.reduceLeDiff, Nat.reduceSub, Int.reduceEq], by simp -dsimp -implicitDefEqProofs only [go_sem, Nat.reduceBEq, Nat.reduceAdd, Nat.reduceLeDiff, Nat.reduceSub, Int.reduceEq] <;> simp, by simp -dsimp -implicitDefEqProofs only [go_sem, Nat.reduceBEq, Nat.reduceAdd, Nat.reduceLeDiff, Nat.reduceSub, Int.reduceEq] <;> simp⟩ ?_
  rintro i ⟨e, σ⟩ hi ⟨h0, h3, h4, hs⟩ K hK
  simp only at h0 h3 h4 hs
  simp -dsimp -implicitDefEqProofs only [go_sem, Nat.reduceBEq, Nat.reduceAdd, Nat.reduceLeDiff, Nat.reduceSub, Int.reduceEq, h0, h3, h4, hs]
  refine ifB'.of (fun hlt => ?_) (fun hlt => ?_)
  · have hlt : i < bs.length := by omega
    simp -dsimp -implicitDefEqProofs only [go_sem, Nat.reduceBEq, Nat.reduceAdd, Nat.reduceLeDiff, Nat.reduceSub, Int.reduceEq, h0, h3, h4, hs, bytesA_at hlt]
    repeat with_reducible refine ask.of (by omega) ?_
    have hl : (List.take i bs ++ List.replicate (bs.length - i) 0).length = bs.length := by simp; omega
    simp -dsimp -implicitDefEqProofs only [go_sem, Nat.reduceBEq, Nat.reduceAdd, Nat.reduceLeDiff, Nat.reduceSub, Int.reduceEq, h0, h3, h4, hs, hl]
    repeat with_reducible refine ask.of (by omega) ?_
    simp -dsimp -implicitDefEqProofs only [go_sem, Nat.reduceBEq, Nat.reduceAdd, Nat.reduceLeDiff, Nat.reduceSub, Int.reduceEq, h0, h3, h4, hs, bytesA_at (show i < (List.take i bs ++ List.replicate (bs.length - i) 0).length by omega)]
    refine hK _ hlt ?_
    simp -dsimp -implicitDefEqProofs only [go_sem, Nat.reduceBEq, Nat.reduceAdd, Nat.reduceLeDiff, Nat.reduceSub, Int.reduceEq, h0, h3, h4, hs, wrap_succ (show i < 4611686018427387904 by omega), fill_set bs 0 hlt]
  · have : i = bs.length := by omega
    subst this
    simp -dsimp -implicitDefEqProofs only [go_sem, Nat.reduceBEq, Nat.reduceAdd, Nat.reduceLeDiff, Nat.reduceSub, Int.reduceEq, h0, h3, h4, hs]
    simp
theorem c_eqByteS (bs : List UInt8) (hb : bs.length ≤ 8388608) : Meets Try.prog 18 [rowB bs, rowB bs] (fun r => r = .v (.bool true)) := by
  refine Meets.intro mixed (hint []) Try.func18 rfl (by decide) res_18 rty_18 (by kernel_rfl) ?_; 
  simp -dsimp -implicitDefEqProofs only [go_sem, Nat.reduceBEq, Nat.reduceAdd, Nat.reduceLeDiff, Nat.reduceSub, Int.reduceEq, decide_true, Bool.not_true]
  refine LoopE.cnt bs.length (fun i s => s.env 0 = .rd .ent 5 1 (bytesA bs) ∧ s.env 1 = .rd .ent 5 1 (bytesA bs) ∧ s.env 5 = .v (.int .i64 i)) ⟨by simp -dsimp -implicitDefEqProofs only [go_sem, Nat.reduceBEq, Nat.reduceAdd, Nat.reduceLeDiff, Nat.reduceSub, Int.reduceEq, initE], by simp -dsimp -implicitDefEqProofs only [go_sem, Nat.reduceBEq, Nat.reduceAdd, Nat.reduceLeDiff, Nat.reduceSub, Int.reduceEq, initE], by simp -dsimp -implicitDefEqProofs only [go_sem, Nat.reduceBEq, Nat.reduceAdd, Nat.reduceLeDiff, Nat.reduceSub, Int.reduceEq] <;> simp⟩ ?_
  rintro i ⟨e, σ⟩ hi ⟨h0, h1, h5⟩ K hK
  simp only at h0 h1 h5
  simp -dsimp -implicitDefEqProofs only [go_sem, Nat.reduceBEq, Nat.reduceAdd, Nat.reduceLeDiff, Nat.reduceSub, Int.reduceEq, h0, h1, h5]
  refine ifB'.of (fun hlt => ?_) (fun hlt => ?_)
  · have hlt : i < bs.length := by omega
    simp -dsimp -implicitDefEqProofs only [go_sem, Nat.reduceBEq, Nat.reduceAdd, Nat.reduceLeDiff, Nat.reduceSub, Int.reduceEq, h0, h1, h5, bytesA_at hlt]
    repeat with_reducible refine ask.of (by omega) ?_
    simp -dsimp -implicitDefEqProofs only [go_sem, Nat.reduceBEq, Nat.reduceAdd, Nat.reduceLeDiff, Nat.reduceSub, Int.reduceEq, h0, h1, h5, decide_true, Bool.not_true]
    refine hK _ hlt ?_
    simp -dsimp -implicitDefEqProofs only [go_sem, Nat.reduceBEq, Nat.reduceAdd, Nat.reduceLeDiff, Nat.reduceSub, Int.reduceEq, h0, h1, h5, wrap_succ (show i < 4611686018427387904 by omega)]
  · simp -dsimp -implicitDefEqProofs only [go_sem, Nat.reduceBEq, Nat.reduceAdd, Nat.reduceLeDiff, Nat.reduceSub, Int.reduceEq, h0, h1, h5]
end Go.Ev
set_option linter.unusedSimpArgs false
set_option linter.unusedVariables false
namespace Go.Ev
open Go Go.RowKit Go.Proofs
theorem c_szByteS (bs : List UInt8) (left : Nat) (hb : bs.length ≤ 140737488355328) (hl : left ≤ 1048576) : Meets Try.prog 92 [rowB bs, .v (.int .i64 left)] (fun r => r = .v (.int .i64 (szR left bs.length))) := by
  refine Meets.intro mixed (hint []) Try.func92 rfl (by decide) res_92 rty_92 (by kernel_rfl) ?_; 
  have e : IntKind.i64.wrap ((left : Int) - bs.length) = (left : Int) - bs.length := wrap_i64_of (by omega) (by omega)
  simp -dsimp -implicitDefEqProofs only [go_sem, Nat.reduceBEq, Nat.reduceAdd, Nat.reduceLeDiff, Nat.reduceSub, Int.reduceEq, e]
  refine ifB'.of (fun h => ?_) (fun h => ?_)
  · simp -dsimp -implicitDefEqProofs only [go_sem, Nat.reduceBEq, Nat.reduceAdd, Nat.reduceLeDiff, Nat.reduceSub, Int.reduceEq]
    rw [szR_no (by omega)]
  · simp -dsimp -implicitDefEqProofs only [go_sem, Nat.reduceBEq, Nat.reduceAdd, Nat.reduceLeDiff, Nat.reduceSub, Int.reduceEq]
    rw [szR_ok (by omega)]; omega
def wBB (xs : List (List UInt8)) : Nat := szL List.length xs
theorem mem_wBB {xs : List (List UInt8)} {b : List UInt8} (h : b ∈ xs) : b.length ≤ wBB xs := by
  obtain ⟨i, hi, rfl⟩ := List.mem_iff_getElem.1 h
  have := szL_at_le List.length hi
  unfold wBB; omega
theorem c_szByteSS (xs : List (List UInt8)) (left : Nat) (hl : left ≤ 1048576) (hx : xs.length ≤ 140737488355328) (hb : ∀ b ∈ xs, b.length ≤ 140737488355328) : Meets Try.prog 22 [rowBB xs, .v (.int .i64 left)] (fun r => r = .v (.int .i64 (szR left (xs.length + wBB xs)))) := by
  refine Meets.intro mixed (hint []) Try.func22 rfl (by decide) res_22 rty_22 (by kernel_rfl) ?_; 
  have e : IntKind.i64.wrap ((left : Int) - xs.length) = (left : Int) - xs.length := wrap_i64_of (by omega) (by omega)
  simp -dsimp -implicitDefEqProofs only [go_sem, Nat.reduceBEq, Nat.reduceAdd, Nat.reduceLeDiff, Nat.reduceSub, Int.reduceEq, e]
  refine ifB'.of (fun h => ?_) (fun h => ?_)
  · simp -dsimp -implicitDefEqProofs only [go_sem, Nat.reduceBEq, Nat.reduceAdd, Nat.reduceLeDiff, Nat.reduceSub, Int.reduceEq]
    rw [szR_no (by omega)]
  simp -dsimp -implicitDefEqProofs only [go_sem, Nat.reduceBEq, Nat.reduceAdd, Nat.reduceLeDiff, Nat.reduceSub, Int.reduceEq, e]
  refine LoopE.cnt xs.length (fun i s => s.env 0 = .rd .ent 25 1 (ra byC xs) ∧ s.env 5 = .v (.int .i64 i) ∧ xs.length + szL List.length (xs.take i) ≤ left ∧ s.env 1 = .v (.int .i64 ((left - (xs.length + szL List.length (xs.take i)) : Nat) : Int))) ⟨by simp -dsimp -implicitDefEqProofs only [go_sem, Nat.reduceBEq, Nat.reduceAdd, Nat.reduceLeDiff, Nat.reduceSub, Int.reduceEq, initE], by simp -dsimp -implicitDefEqProofs only [go_sem, Nat.reduceBEq, Nat.reduceAdd, Nat.reduceLeDiff, Nat.reduceSub, Int.reduceEq] <;> simp, by simp [szL]; omega, by simp -dsimp -implicitDefEqProofs only [go_sem, Nat.reduceBEq, Nat.reduceAdd, Nat.reduceLeDiff, Nat.reduceSub, Int.reduceEq] <;> (simp [szL]; omega)⟩ ?_
  rintro i ⟨e, σ⟩ hi ⟨h0, h5, hle, h1⟩ K hK
  simp only at h0 h5 h1
  simp -dsimp -implicitDefEqProofs only [go_sem, Nat.reduceBEq, Nat.reduceAdd, Nat.reduceLeDiff, Nat.reduceSub, Int.reduceEq, h0, h5, h1]
  refine ifB'.of (fun hlt => ?_) (fun hlt => ?_)
  · have hlt : i < xs.length := by omega
    have hs := szL_take_succ List.length hlt
    have hw := szL_take_le List.length xs (i + 1)
    simp -dsimp -implicitDefEqProofs only [go_sem, Nat.reduceBEq, Nat.reduceAdd, Nat.reduceLeDiff, Nat.reduceSub, Int.reduceEq, h0, h5, h1, byA_at hlt]
    repeat with_reducible refine ask.of (by omega) ?_
    refine CallE.of (c_szByteS xs[i] (left - (xs.length + szL List.length (xs.take i))) (hb _ (List.getElem_mem _)) (by omega)) (by rintro r rfl; (repeat' first | exact trivial | exact pure_rowB _ | exact pure_rowO _ | exact pure_rowI _ | exact pure_rowBB _ | exact pure_rowPk _ _ | exact pure_rowSn _ _ | exact pure_rowFd _ _ | exact pure_rowBBB _ | exact pure_rowCl _ _ | refine And.intro ?_ ?_)) (by simp -dsimp -implicitDefEqProofs only [go_sem, Nat.reduceBEq, Nat.reduceAdd, Nat.reduceLeDiff, Nat.reduceSub, Int.reduceEq, h0, h5, h1]) ?_
    rintro r rfl
    simp -dsimp -implicitDefEqProofs only [go_sem, Nat.reduceBEq, Nat.reduceAdd, Nat.reduceLeDiff, Nat.reduceSub, Int.reduceEq, h0, h5, h1]
    refine ifB'.of (fun hn => ?_) (fun hn => ?_)
    · have : ¬ xs[i].length ≤ left - (xs.length + szL List.length (xs.take i)) := fun h => by rw [szR_ok h] at hn; omega
      simp -dsimp -implicitDefEqProofs only [go_sem, Nat.reduceBEq, Nat.reduceAdd, Nat.reduceLeDiff, Nat.reduceSub, Int.reduceEq, h0, h5, h1]
      rw [szR_no (by unfold wBB; omega)]
    · have h : xs[i].length ≤ left - (xs.length + szL List.length (xs.take i)) := Classical.byContradiction fun h => by rw [szR_no h] at hn; omega
      simp -dsimp -implicitDefEqProofs only [go_sem, Nat.reduceBEq, Nat.reduceAdd, Nat.reduceLeDiff, Nat.reduceSub, Int.reduceEq, h0, h5, h1]
      refine hK _ hlt ?_
      simp -dsimp -implicitDefEqProofs only [go_sem, Nat.reduceBEq, Nat.reduceAdd, Nat.reduceLeDiff, Nat.reduceSub, Int.reduceEq, h0, h5, h1, wrap_succ (show i < 4611686018427387904 by omega), szR_ok h, hs]
      exact ⟨by omega, by omega⟩
  · have : i = xs.length := by omega
    subst this
    simp -dsimp -implicitDefEqProofs only [go_sem, Nat.reduceBEq, Nat.reduceAdd, Nat.reduceLeDiff, Nat.reduceSub, Int.reduceEq, h0, h5, h1]
    rw [List.take_length] at hle ⊢
    rw [szR_ok (by unfold wBB; omega)]
    rfl
theorem c_toByteSS (xs : List (List UInt8)) (hx : xs.length ≤ 1048576) (hb : ∀ b ∈ xs, b.length ≤ 1048576) : Meets Try.prog 25 [rowBB xs] (fun r => r = rowBB xs) := by
  refine Meets.intro mixed (hint []) Try.func25 rfl (by decide) res_25 rty_25 (by kernel_rfl) ?_; 
  simp -dsimp -implicitDefEqProofs only [go_sem, Nat.reduceBEq, Nat.reduceAdd, Nat.reduceLeDiff, Nat.reduceSub, Int.reduceEq]
  refine ask.of (by omega) ?_
  refine LoopE.cnt xs.length (fun i s => s.env 0 = .rd .ent 25 1 (ra byC xs) ∧ s.env 3 = .ref [7] ∧ s.env 4 = .v (.int .i64 i) ∧ s.σ [7] = some (.row 25 1 (ra byC (xs.take i ++ List.replicate (xs.length - i) [])))) ⟨by simp -dsimp -implicitDefEqProofs only [go_sem, Nat.reduceBEq, Nat.reduceAdd, Nat.reduceLeDiff, Nat.reduceSub, Int.reduceEq, initE], by simp -dsimp -implicitDefEqProofs only [go_sem, Nat.reduceBEq, Nat.reduceAdd, Nat.reduceLeDiff, Nat.reduceSub, Int.reduceEq], by simp -dsimp -implicitDefEqProofs only [go_sem, Nat.reduceBEq, Nat.reduceAdd, Nat.reduceLeDiff, Nat.reduceSub, Int.reduceEq] <;> simp, by simp -dsimp -implicitDefEqProofs only [go_sem, Nat.reduceBEq, Nat.reduceAdd, Nat.reduceLeDiff, Nat.reduceSub, Int.reduceEq] <;> simp⟩ ?_
  rintro i ⟨e, σ⟩ hi ⟨h0, h3, h4, hs⟩ K hK
  simp only at h0 h3 h4 hs
  simp -dsimp -implicitDefEqProofs only [go_sem, Nat.reduceBEq, Nat.reduceAdd, Nat.reduceLeDiff, Nat.reduceSub, Int.reduceEq, h0, h3, h4, hs]
  refine ifB'.of (fun hlt => ?_) (fun hlt => ?_)
  · have hlt : i < xs.length := by omega
    simp -dsimp -implicitDefEqProofs only [go_sem, Nat.reduceBEq, Nat.reduceAdd, Nat.reduceLeDiff, Nat.reduceSub, Int.reduceEq, h0, h3, h4, hs, byA_at hlt]
    repeat with_reducible refine ask.of (by omega) ?_
    refine CallE.of (c_toByteS xs[i] (hb _ (List.getElem_mem _))) (by rintro r rfl; (repeat' first | exact trivial | exact pure_rowB _ | exact pure_rowO _ | exact pure_rowI _ | exact pure_rowBB _ | exact pure_rowPk _ _ | exact pure_rowSn _ _ | exact pure_rowFd _ _ | exact pure_rowBBB _ | exact pure_rowCl _ _ | refine And.intro ?_ ?_)) (by simp -dsimp -implicitDefEqProofs only [go_sem, Nat.reduceBEq, Nat.reduceAdd, Nat.reduceLeDiff, Nat.reduceSub, Int.reduceEq, h0, h3, h4, hs]) ?_
    rintro r rfl
    simp -dsimp -implicitDefEqProofs only [go_sem, Nat.reduceBEq, Nat.reduceAdd, Nat.reduceLeDiff, Nat.reduceSub, Int.reduceEq, h0, h3, h4, hs]
    have hl : (List.take i xs ++ List.replicate (xs.length - i) []).length = xs.length := by simp; omega
    simp -dsimp -implicitDefEqProofs only [go_sem, Nat.reduceBEq, Nat.reduceAdd, Nat.reduceLeDiff, Nat.reduceSub, Int.reduceEq, h0, h3, h4, hs, hl]
    repeat with_reducible refine ask.of (by omega) ?_
    simp -dsimp -implicitDefEqProofs only [go_sem, Nat.reduceBEq, Nat.reduceAdd, Nat.reduceLeDiff, Nat.reduceSub, Int.reduceEq, h0, h3, h4, hs, byA_at (show i < (List.take i xs ++ List.replicate (xs.length - i) []).length by omega)]
    refine hK _ hlt ?_
    simp -dsimp -implicitDefEqProofs only [go_sem, Nat.reduceBEq, Nat.reduceAdd, Nat.reduceLeDiff, Nat.reduceSub, Int.reduceEq, h0, h3, h4, hs, wrap_succ (show i < 4611686018427387904 by omega), fill_set xs [] hlt]
  · have : i = xs.length := by omega
    subst this
    simp -dsimp -implicitDefEqProofs only [go_sem, Nat.reduceBEq, Nat.reduceAdd, Nat.reduceLeDiff, Nat.reduceSub, Int.reduceEq, h0, h3, h4, hs]
    simp
theorem c_eqByteSS (xs : List (List UInt8)) (hx : xs.length ≤ 8388608) (hb : ∀ b ∈ xs, b.length ≤ 8388608) : Meets Try.prog 29 [rowBB xs, rowBB xs] (fun r => r = .v (.bool true)) := by
  refine Meets.intro mixed (hint []) Try.func29 rfl (by decide) res_29 rty_29 (by kernel_rfl) ?_; 
  simp -dsimp -implicitDefEqProofs only [go_sem, Nat.reduceBEq, Nat.reduceAdd, Nat.reduceLeDiff, Nat.reduceSub, Int.reduceEq, decide_true, Bool.not_true]
  refine LoopE.cnt xs.length (fun i s => s.env 0 = .rd .ent 25 1 (ra byC xs) ∧ s.env 1 = .rd .ent 25 1 (ra byC xs) ∧ s.env 5 = .v (.int .i64 i)) ⟨by simp -dsimp -implicitDefEqProofs only [go_sem, Nat.reduceBEq, Nat.reduceAdd, Nat.reduceLeDiff, Nat.reduceSub, Int.reduceEq, initE], by simp -dsimp -implicitDefEqProofs only [go_sem, Nat.reduceBEq, Nat.reduceAdd, Nat.reduceLeDiff, Nat.reduceSub, Int.reduceEq, initE], by simp -dsimp -implicitDefEqProofs only [go_sem, Nat.reduceBEq, Nat.reduceAdd, Nat.reduceLeDiff, Nat.reduceSub, Int.reduceEq] <;> simp⟩ ?_
  rintro i ⟨e, σ⟩ hi ⟨h0, h1, h5⟩ K hK
  simp only at h0 h1 h5
  simp -dsimp -implicitDefEqProofs only [go_sem, Nat.reduceBEq, Nat.reduceAdd, Nat.reduceLeDiff, Nat.reduceSub, Int.reduceEq, h0, h1, h5]
  refine ifB'.of (fun hlt => ?_) (fun hlt => ?_)
  · have hlt : i < xs.length := by omega
    simp -dsimp -implicitDefEqProofs only [go_sem, Nat.reduceBEq, Nat.reduceAdd, Nat.reduceLeDiff, Nat.reduceSub, Int.reduceEq, h0, h1, h5, byA_at hlt]
    repeat with_reducible refine ask.of (by omega) ?_
    refine CallE.of (c_eqByteS xs[i] (hb _ (List.getElem_mem _))) (by rintro r rfl; (repeat' first | exact trivial | exact pure_rowB _ | exact pure_rowO _ | exact pure_rowI _ | exact pure_rowBB _ | exact pure_rowPk _ _ | exact pure_rowSn _ _ | exact pure_rowFd _ _ | exact pure_rowBBB _ | exact pure_rowCl _ _ | refine And.intro ?_ ?_)) (by simp -dsimp -implicitDefEqProofs only [go_sem, Nat.reduceBEq, Nat.reduceAdd, Nat.reduceLeDiff, Nat.reduceSub, Int.reduceEq, h0, h1, h5, Bool.not_true]) ?_
    rintro r rfl
    simp -dsimp -implicitDefEqProofs only [go_sem, Nat.reduceBEq, Nat.reduceAdd, Nat.reduceLeDiff, Nat.reduceSub, Int.reduceEq, h0, h1, h5, Bool.not_true]
    refine hK _ hlt ?_
    simp -dsimp -implicitDefEqProofs only [go_sem, Nat.reduceBEq, Nat.reduceAdd, Nat.reduceLeDiff, Nat.reduceSub, Int.reduceEq, h0, h1, h5, wrap_succ (show i < 4611686018427387904 by omega)]
  · simp -dsimp -implicitDefEqProofs only [go_sem, Nat.reduceBEq, Nat.reduceAdd, Nat.reduceLeDiff, Nat.reduceSub, Int.reduceEq, h0, h1, h5]
end Go.Ev
set_option linter.unusedSimpArgs false
set_option linter.unusedVariables false
namespace Go.Ev
open Go Go.RowKit Go.Proofs
structure Fd where
  f : List UInt8
  k : Int
  w : Int
structure Cl where
  z : Bool
  i : Int
  f : List UInt8
def fdC (x : Fd) : List AV := [.row 5 1 (bytesA x.f), .v (.int .i64 x.k), .v (.int .i64 x.w)]
def clC (x : Cl) : List AV := [.v (.bool x.z), .v (.int .i64 x.i), .row 5 1 (bytesA x.f)]
def fdW (x : Fd) : Nat := x.f.length
def clW (x : Cl) : Nat := x.f.length
def fd0 : Fd := ⟨[], 0, 0⟩
def cl0 : Cl := ⟨false, 0, []⟩
def rowFd (T : Nat) (ps : List Fd) : AV := .row T 3 (ra fdC ps)
def rowCl (T : Nat) (ps : List Cl) : AV := .row T 3 (ra clC ps)
theorem bleF (n : Nat) : Nat.ble n n = true := by simp
theorem pure_rowFd (T : Nat) (ps : List Fd) : (rowFd T ps).pure := pureEls_ra (enc := fdC) (fun x => ⟨pureEls_bytes _, trivial, trivial, trivial⟩) ps
theorem pure_rowCl (T : Nat) (ps : List Cl) : (rowCl T ps).pure := pureEls_ra (enc := clC) (fun x => ⟨trivial, trivial, pureEls_bytes _, trivial⟩) ps
theorem c_szField (p : Fd) (left : Nat) (hb : p.f.length ≤ 140737488355328) (hl : left ≤ 1048576) : Meets Try.prog 48 [.agg (fdC p), .v (.int .i64 left)] (fun r => r = .v (.int .i64 (szR left p.f.length))) := by
  refine Meets.intro mixed (hint []) Try.func48 rfl (by decide) res_48 rty_48 (by kernel_rfl) ?_; 
  simp -dsimp -implicitDefEqProofs only [go_sem, Nat.reduceBEq, Nat.reduceAdd, Nat.reduceLeDiff, Nat.reduceSub, Int.reduceEq, fdC]
  repeat with_reducible refine ask.of (by omega) ?_
  refine CallE.of (c_szByteS p.f left hb hl) (by rintro r rfl; (repeat' first | exact trivial | exact pure_rowB _ | exact pure_rowO _ | exact pure_rowI _ | exact pure_rowBB _ | exact pure_rowPk _ _ | exact pure_rowSn _ _ | exact pure_rowFd _ _ | exact pure_rowBBB _ | exact pure_rowCl _ _ | refine And.intro ?_ ?_)) (by simp -dsimp -implicitDefEqProofs only [go_sem, Nat.reduceBEq, Nat.reduceAdd, Nat.reduceLeDiff, Nat.reduceSub, Int.reduceEq]) ?_
  rintro r rfl
  simp -dsimp -implicitDefEqProofs only [go_sem, Nat.reduceBEq, Nat.reduceAdd, Nat.reduceLeDiff, Nat.reduceSub, Int.reduceEq]
  refine ifB'.of (fun h => ?_) (fun h => ?_)
  · simp -dsimp -implicitDefEqProofs only [go_sem, Nat.reduceBEq, Nat.reduceAdd, Nat.reduceLeDiff, Nat.reduceSub, Int.reduceEq]
    by_cases h2 : p.f.length ≤ left
    · rw [szR_ok h2] at h; omega
    · rw [szR_no h2]
  · simp -dsimp -implicitDefEqProofs only [go_sem, Nat.reduceBEq, Nat.reduceAdd, Nat.reduceLeDiff, Nat.reduceSub, Int.reduceEq]
theorem c_toField (p : Fd) (hb : p.f.length ≤ 1048576) : Meets Try.prog 50 [.agg (fdC p)] (fun r => r = .agg (fdC p)) := by
  refine Meets.intro mixed (hint []) Try.func50 rfl (by decide) res_50 rty_50 (by kernel_rfl) ?_; 
  simp -dsimp -implicitDefEqProofs only [go_sem, Nat.reduceBEq, Nat.reduceAdd, Nat.reduceLeDiff, Nat.reduceSub, Int.reduceEq, fdC]
  repeat (first | with_reducible refine ask.of (by omega) ?_ | simp -dsimp -implicitDefEqProofs only [go_sem, Nat.reduceBEq, Nat.reduceAdd, Nat.reduceLeDiff, Nat.reduceSub, Int.reduceEq, bleF])
  refine CallE.of (c_toByteS p.f hb) (by rintro r rfl; (repeat' first | exact trivial | exact pure_rowB _ | exact pure_rowO _ | exact pure_rowI _ | exact pure_rowBB _ | exact pure_rowPk _ _ | exact pure_rowSn _ _ | exact pure_rowFd _ _ | exact pure_rowBBB _ | exact pure_rowCl _ _ | refine And.intro ?_ ?_)) (by simp -dsimp -implicitDefEqProofs only [go_sem, Nat.reduceBEq, Nat.reduceAdd, Nat.reduceLeDiff, Nat.reduceSub, Int.reduceEq]) ?_
  rintro r rfl
  simp -dsimp -implicitDefEqProofs only [go_sem, Nat.reduceBEq, Nat.reduceAdd, Nat.reduceLeDiff, Nat.reduceSub, Int.reduceEq]
  repeat (first | with_reducible refine ask.of (by omega) ?_ | simp -dsimp -implicitDefEqProofs only [go_sem, Nat.reduceBEq, Nat.reduceAdd, Nat.reduceLeDiff, Nat.reduceSub, Int.reduceEq, bleF])
theorem c_eqField (p : Fd) (hb : p.f.length ≤ 1048576) : Meets Try.prog 52 [.agg (fdC p), .agg (fdC p)] (fun r => r = .v (.bool true)) := by
  refine Meets.intro mixed (hint []) Try.func52 rfl (by decide) res_52 rty_52 (by kernel_rfl) ?_; 
  simp -dsimp -implicitDefEqProofs only [go_sem, Nat.reduceBEq, Nat.reduceAdd, Nat.reduceLeDiff, Nat.reduceSub, Int.reduceEq, fdC, decide_true]
  repeat (first | with_reducible refine ask.of (by omega) ?_ | simp -dsimp -implicitDefEqProofs only [go_sem, Nat.reduceBEq, Nat.reduceAdd, Nat.reduceLeDiff, Nat.reduceSub, Int.reduceEq, bleF, decide_true])
  refine CallE.of (c_eqByteS p.f (by omega)) (by rintro r rfl; (repeat' first | exact trivial | exact pure_rowB _ | exact pure_rowO _ | exact pure_rowI _ | exact pure_rowBB _ | exact pure_rowPk _ _ | exact pure_rowSn _ _ | exact pure_rowFd _ _ | exact pure_rowBBB _ | exact pure_rowCl _ _ | refine And.intro ?_ ?_)) (by simp -dsimp -implicitDefEqProofs only [go_sem, Nat.reduceBEq, Nat.reduceAdd, Nat.reduceLeDiff, Nat.reduceSub, Int.reduceEq, Bool.not_true, decide_true]) ?_
  rintro r rfl
  simp -dsimp -implicitDefEqProofs only [go_sem, Nat.reduceBEq, Nat.reduceAdd, Nat.reduceLeDiff, Nat.reduceSub, Int.reduceEq, Bool.not_true, decide_true]
  repeat (first | with_reducible refine ask.of (by omega) ?_ | trivial)
theorem Fd_at {xs : List Fd} {i : Nat} (h : i < xs.length) : (ra fdC xs)[i]? = some (fdC xs[i]) := ra_at h
theorem mem_fdW {xs : List Fd} {b : Fd} (h : b ∈ xs) : b.f.length ≤ szL fdW xs := by
  obtain ⟨i, hi, rfl⟩ := List.mem_iff_getElem.1 h
  have := szL_at_le fdW hi
  have : fdW xs[i] = xs[i].f.length := rfl
  omega
theorem c_szFieldS (xs : List Fd) (left : Nat) (hl : left ≤ 1048576) (hx : xs.length ≤ 140737488355328) (hb : ∀ b ∈ xs, b.f.length ≤ 140737488355328) : Meets Try.prog 35 [rowFd 74 xs, .v (.int .i64 left)] (fun r => r = .v (.int .i64 (szR left (xs.length + szL fdW xs)))) := by
  refine Meets.intro mixed (hint []) Try.func35 rfl (by decide) res_35 rty_35 (by kernel_rfl) ?_; 
  have e : IntKind.i64.wrap ((left : Int) - xs.length) = (left : Int) - xs.length := wrap_i64_of (by omega) (by omega)
  simp -dsimp -implicitDefEqProofs only [go_sem, Nat.reduceBEq, Nat.reduceAdd, Nat.reduceLeDiff, Nat.reduceSub, Int.reduceEq, e, rowFd]
  refine ifB'.of (fun h => ?_) (fun h => ?_)
  · simp -dsimp -implicitDefEqProofs only [go_sem, Nat.reduceBEq, Nat.reduceAdd, Nat.reduceLeDiff, Nat.reduceSub, Int.reduceEq]
    rw [szR_no (by omega)]
  simp -dsimp -implicitDefEqProofs only [go_sem, Nat.reduceBEq, Nat.reduceAdd, Nat.reduceLeDiff, Nat.reduceSub, Int.reduceEq, e]
  refine LoopE.cnt xs.length (fun i s => s.env 0 = .rd .ent 74 3 (ra fdC xs) ∧ s.env 5 = .v (.int .i64 i) ∧ xs.length + szL fdW (xs.take i) ≤ left ∧ s.env 1 = .v (.int .i64 ((left - (xs.length + szL fdW (xs.take i)) : Nat) : Int))) ⟨by simp -dsimp -implicitDefEqProofs only [go_sem, Nat.reduceBEq, Nat.reduceAdd, Nat.reduceLeDiff, Nat.reduceSub, Int.reduceEq, initE, rowFd], by simp -dsimp -implicitDefEqProofs only [go_sem, Nat.reduceBEq, Nat.reduceAdd, Nat.reduceLeDiff, Nat.reduceSub, Int.reduceEq] <;> simp, by simp [szL]; omega, by simp -dsimp -implicitDefEqProofs only [go_sem, Nat.reduceBEq, Nat.reduceAdd, Nat.reduceLeDiff, Nat.reduceSub, Int.reduceEq] <;> (simp [szL]; omega)⟩ ?_
  rintro i ⟨e, σ⟩ hi ⟨h0, h5, hle, h1⟩ K hK
  simp only at h0 h5 h1
  simp -dsimp -implicitDefEqProofs only [go_sem, Nat.reduceBEq, Nat.reduceAdd, Nat.reduceLeDiff, Nat.reduceSub, Int.reduceEq, h0, h5, h1]
  refine ifB'.of (fun hlt => ?_) (fun hlt => ?_)
  · have hlt : i < xs.length := by omega
    have hs := szL_take_succ fdW hlt
    have hw := szL_take_le fdW xs (i + 1)
    have hww : fdW xs[i] = xs[i].f.length := rfl
    simp -dsimp -implicitDefEqProofs only [go_sem, Nat.reduceBEq, Nat.reduceAdd, Nat.reduceLeDiff, Nat.reduceSub, Int.reduceEq, h0, h5, h1, Fd_at hlt, fdC]
    repeat with_reducible refine ask.of (by omega) ?_
    simp -dsimp -implicitDefEqProofs only [go_sem, Nat.reduceBEq, Nat.reduceAdd, Nat.reduceLeDiff, Nat.reduceSub, Int.reduceEq, h0, h5, h1, Fd_at hlt, fdC, bleF]
    refine CallE.of (c_szField xs[i] (left - (xs.length + szL fdW (xs.take i))) (hb _ (List.getElem_mem _)) (by omega)) (by rintro r rfl; (repeat' first | exact trivial | exact pure_rowB _ | exact pure_rowO _ | exact pure_rowI _ | exact pure_rowBB _ | exact pure_rowPk _ _ | exact pure_rowSn _ _ | exact pure_rowFd _ _ | exact pure_rowBBB _ | exact pure_rowCl _ _ | refine And.intro ?_ ?_)) (by simp -dsimp -implicitDefEqProofs only [go_sem, Nat.reduceBEq, Nat.reduceAdd, Nat.reduceLeDiff, Nat.reduceSub, Int.reduceEq, h0, h5, h1, fdC]) ?_
    rintro r rfl
    simp -dsimp -implicitDefEqProofs only [go_sem, Nat.reduceBEq, Nat.reduceAdd, Nat.reduceLeDiff, Nat.reduceSub, Int.reduceEq, h0, h5, h1, fdC]
    refine ifB'.of (fun hn => ?_) (fun hn => ?_)
    · have : ¬ xs[i].f.length ≤ left - (xs.length + szL fdW (xs.take i)) := fun h => by rw [szR_ok h] at hn; omega
      simp -dsimp -implicitDefEqProofs only [go_sem, Nat.reduceBEq, Nat.reduceAdd, Nat.reduceLeDiff, Nat.reduceSub, Int.reduceEq, h0, h5, h1]
      rw [szR_no (by omega)]
    · have h : xs[i].f.length ≤ left - (xs.length + szL fdW (xs.take i)) := Classical.byContradiction fun h => by rw [szR_no h] at hn; omega
      simp -dsimp -implicitDefEqProofs only [go_sem, Nat.reduceBEq, Nat.reduceAdd, Nat.reduceLeDiff, Nat.reduceSub, Int.reduceEq, h0, h5, h1]
      refine hK _ hlt ?_
      simp -dsimp -implicitDefEqProofs only [go_sem, Nat.reduceBEq, Nat.reduceAdd, Nat.reduceLeDiff, Nat.reduceSub, Int.reduceEq, h0, h5, h1, wrap_succ (show i < 4611686018427387904 by omega), szR_ok h, hs]
      exact ⟨by omega, by omega⟩
  · have : i = xs.length := by omega
    subst this
    simp -dsimp -implicitDefEqProofs only [go_sem, Nat.reduceBEq, Nat.reduceAdd, Nat.reduceLeDiff, Nat.reduceSub, Int.reduceEq, h0, h5, h1]
    rw [List.take_length] at hle ⊢
    rw [szR_ok (by omega)]
theorem Fd_set (xs : List Fd) (i : Nat) (x : Fd) : (ra fdC xs).set i (fdC x) = ra fdC (xs.set i x) := ra_set xs i x
theorem c_toFieldS (xs : List Fd) (hx : xs.length ≤ 1048576) (hb : ∀ b ∈ xs, b.f.length ≤ 1048576) : Meets Try.prog 37 [rowFd 74 xs] (fun r => r = rowFd 78 xs) := by
  refine Meets.intro mixed (hint []) Try.func37 rfl (by decide) res_37 rty_37 (by kernel_rfl) ?_; 
  simp -dsimp -implicitDefEqProofs only [go_sem, Nat.reduceBEq, Nat.reduceAdd, Nat.reduceLeDiff, Nat.reduceSub, Int.reduceEq, rowFd]
  refine ask.of (by omega) ?_
  refine LoopE.cnt xs.length (fun i s => s.env 0 = .rd .ent 74 3 (ra fdC xs) ∧ s.env 3 = .ref [7] ∧ s.env 4 = .v (.int .i64 i) ∧ s.σ [7] = some (.row 78 3 (ra fdC (xs.take i ++ List.replicate (xs.length - i) fd0)))) ⟨by simp -dsimp -implicitDefEqProofs only [go_sem, Nat.reduceBEq, Nat.reduceAdd, Nat.reduceLeDiff, Nat.reduceSub, Int.reduceEq, initE, rowFd], by simp -dsimp -implicitDefEqProofs only [go_sem, Nat.reduceBEq, Nat.reduceAdd, Nat.reduceLeDiff, Nat.reduceSub, Int.reduceEq], by simp -dsimp -implicitDefEqProofs only [go_sem, Nat.reduceBEq, Nat.reduceAdd, Nat.reduceLeDiff, Nat.reduceSub, Int.reduceEq] <;> simp, by simp -dsimp -implicitDefEqProofs only [go_sem, Nat.reduceBEq, Nat.reduceAdd, Nat.reduceLeDiff, Nat.reduceSub, Int.reduceEq] <;> simp [ra, fdC, fd0, bytesA]⟩ ?_
  rintro i ⟨e, σ⟩ hi ⟨h0, h3, h4, hs⟩ K hK
  simp only at h0 h3 h4 hs
  simp -dsimp -implicitDefEqProofs only [go_sem, Nat.reduceBEq, Nat.reduceAdd, Nat.reduceLeDiff, Nat.reduceSub, Int.reduceEq, h0, h3, h4, hs]
  refine ifB'.of (fun hlt => ?_) (fun hlt => ?_)
  · have hlt : i < xs.length := by omega
    have hl : (List.take i xs ++ List.replicate (xs.length - i) fd0).length = xs.length := by simp; omega
    simp -dsimp -implicitDefEqProofs only [go_sem, Nat.reduceBEq, Nat.reduceAdd, Nat.reduceLeDiff, Nat.reduceSub, Int.reduceEq, h0, h3, h4, hs, Fd_at hlt, fdC]
    repeat with_reducible refine ask.of (by omega) ?_
    simp -dsimp -implicitDefEqProofs only [go_sem, Nat.reduceBEq, Nat.reduceAdd, Nat.reduceLeDiff, Nat.reduceSub, Int.reduceEq, h0, h3, h4, hs, Fd_at hlt, fdC, bleF]
    refine CallE.of (c_toField xs[i] (hb _ (List.getElem_mem _))) (by rintro r rfl; (repeat' first | exact trivial | exact pure_rowB _ | exact pure_rowO _ | exact pure_rowI _ | exact pure_rowBB _ | exact pure_rowPk _ _ | exact pure_rowSn _ _ | exact pure_rowFd _ _ | exact pure_rowBBB _ | exact pure_rowCl _ _ | refine And.intro ?_ ?_)) (by simp -dsimp -implicitDefEqProofs only [go_sem, Nat.reduceBEq, Nat.reduceAdd, Nat.reduceLeDiff, Nat.reduceSub, Int.reduceEq, h0, h3, h4, hs, fdC]) ?_
    rintro r rfl
    simp -dsimp -implicitDefEqProofs only [go_sem, Nat.reduceBEq, Nat.reduceAdd, Nat.reduceLeDiff, Nat.reduceSub, Int.reduceEq, h0, h3, h4, hs, fdC]
    simp -dsimp -implicitDefEqProofs only [go_sem, Nat.reduceBEq, Nat.reduceAdd, Nat.reduceLeDiff, Nat.reduceSub, Int.reduceEq, h0, h3, h4, hs, hl]
    repeat with_reducible refine ask.of (by omega) ?_
    simp -dsimp -implicitDefEqProofs only [go_sem, Nat.reduceBEq, Nat.reduceAdd, Nat.reduceLeDiff, Nat.reduceSub, Int.reduceEq, h0, h3, h4, hs, Fd_at (show i < (List.take i xs ++ List.replicate (xs.length - i) fd0).length by omega), fdC, bleF]
    refine hK _ hlt ?_
    simp -dsimp -implicitDefEqProofs only [go_sem, Nat.reduceBEq, Nat.reduceAdd, Nat.reduceLeDiff, Nat.reduceSub, Int.reduceEq, h0, h3, h4, hs, wrap_succ (show i < 4611686018427387904 by omega)]
    exact congrArg (fun l => some (OB.row _ 3 l)) ((Fd_set _ i xs[i]).trans (congrArg (ra fdC) (fill_set xs fd0 hlt)))
  · have : i = xs.length := by omega
    subst this
    simp -dsimp -implicitDefEqProofs only [go_sem, Nat.reduceBEq, Nat.reduceAdd, Nat.reduceLeDiff, Nat.reduceSub, Int.reduceEq, h0, h3, h4, hs, rowFd]
    simp
theorem c_eqFieldS (xs : List Fd) (hx : xs.length ≤ 1048576) (hb : ∀ b ∈ xs, b.f.length ≤ 1048576) : Meets Try.prog 40 [rowFd 78 xs, rowFd 78 xs] (fun r => r = .v (.bool true)) := by
  refine Meets.intro mixed (hint []) Try.func40 rfl (by decide) res_40 rty_40 (by kernel_rfl) ?_; 
  simp -dsimp -implicitDefEqProofs only [go_sem, Nat.reduceBEq, Nat.reduceAdd, Nat.reduceLeDiff, Nat.reduceSub, Int.reduceEq, decide_true, Bool.not_true, rowFd]
  refine LoopE.cnt xs.length (fun i s => s.env 0 = .rd .ent 78 3 (ra fdC xs) ∧ s.env 1 = .rd .ent 78 3 (ra fdC xs) ∧ s.env 5 = .v (.int .i64 i)) ⟨by simp -dsimp -implicitDefEqProofs only [go_sem, Nat.reduceBEq, Nat.reduceAdd, Nat.reduceLeDiff, Nat.reduceSub, Int.reduceEq, initE, rowFd], by simp -dsimp -implicitDefEqProofs only [go_sem, Nat.reduceBEq, Nat.reduceAdd, Nat.reduceLeDiff, Nat.reduceSub, Int.reduceEq, initE, rowFd], by simp -dsimp -implicitDefEqProofs only [go_sem, Nat.reduceBEq, Nat.reduceAdd, Nat.reduceLeDiff, Nat.reduceSub, Int.reduceEq] <;> simp⟩ ?_
  rintro i ⟨e, σ⟩ hi ⟨h0, h1, h5⟩ K hK
  simp only at h0 h1 h5
  simp -dsimp -implicitDefEqProofs only [go_sem, Nat.reduceBEq, Nat.reduceAdd, Nat.reduceLeDiff, Nat.reduceSub, Int.reduceEq, h0, h1, h5]
  refine ifB'.of (fun hlt => ?_) (fun hlt => ?_)
  · have hlt : i < xs.length := by omega
    simp -dsimp -implicitDefEqProofs only [go_sem, Nat.reduceBEq, Nat.reduceAdd, Nat.reduceLeDiff, Nat.reduceSub, Int.reduceEq, h0, h1, h5, Fd_at hlt, fdC]
    repeat (first | with_reducible refine ask.of (by omega) ?_ | simp -dsimp -implicitDefEqProofs only [go_sem, Nat.reduceBEq, Nat.reduceAdd, Nat.reduceLeDiff, Nat.reduceSub, Int.reduceEq, h0, h1, h5, Fd_at hlt, fdC, bleF])
    refine CallE.of (c_eqField xs[i] (hb _ (List.getElem_mem _))) (by rintro r rfl; (repeat' first | exact trivial | exact pure_rowB _ | exact pure_rowO _ | exact pure_rowI _ | exact pure_rowBB _ | exact pure_rowPk _ _ | exact pure_rowSn _ _ | exact pure_rowFd _ _ | exact pure_rowBBB _ | exact pure_rowCl _ _ | refine And.intro ?_ ?_)) (by simp -dsimp -implicitDefEqProofs only [go_sem, Nat.reduceBEq, Nat.reduceAdd, Nat.reduceLeDiff, Nat.reduceSub, Int.reduceEq, h0, h1, h5, Bool.not_true, fdC]) ?_
    rintro r rfl
    simp -dsimp -implicitDefEqProofs only [go_sem, Nat.reduceBEq, Nat.reduceAdd, Nat.reduceLeDiff, Nat.reduceSub, Int.reduceEq, h0, h1, h5, Bool.not_true, fdC]
    refine hK _ hlt ?_
    simp -dsimp -implicitDefEqProofs only [go_sem, Nat.reduceBEq, Nat.reduceAdd, Nat.reduceLeDiff, Nat.reduceSub, Int.reduceEq, h0, h1, h5, wrap_succ (show i < 4611686018427387904 by omega)]
  · simp -dsimp -implicitDefEqProofs only [go_sem, Nat.reduceBEq, Nat.reduceAdd, Nat.reduceLeDiff, Nat.reduceSub, Int.reduceEq, h0, h1, h5]
theorem c_szCell (p : Cl) (left : Nat) (hb : p.f.length ≤ 140737488355328) (hl : left ≤ 1048576) : Meets Try.prog 93 [.agg (clC p), .v (.int .i64 left)] (fun r => r = .v (.int .i64 (szR left p.f.length))) := by
  refine Meets.intro mixed (hint []) Try.func93 rfl (by decide) res_93 rty_93 (by kernel_rfl) ?_; 
  simp -dsimp -implicitDefEqProofs only [go_sem, Nat.reduceBEq, Nat.reduceAdd, Nat.reduceLeDiff, Nat.reduceSub, Int.reduceEq, clC]
  repeat with_reducible refine ask.of (by omega) ?_
  refine CallE.of (c_szByteS p.f left hb hl) (by rintro r rfl; (repeat' first | exact trivial | exact pure_rowB _ | exact pure_rowO _ | exact pure_rowI _ | exact pure_rowBB _ | exact pure_rowPk _ _ | exact pure_rowSn _ _ | exact pure_rowFd _ _ | exact pure_rowBBB _ | exact pure_rowCl _ _ | refine And.intro ?_ ?_)) (by simp -dsimp -implicitDefEqProofs only [go_sem, Nat.reduceBEq, Nat.reduceAdd, Nat.reduceLeDiff, Nat.reduceSub, Int.reduceEq]) ?_
  rintro r rfl
  simp -dsimp -implicitDefEqProofs only [go_sem, Nat.reduceBEq, Nat.reduceAdd, Nat.reduceLeDiff, Nat.reduceSub, Int.reduceEq]
  refine ifB'.of (fun h => ?_) (fun h => ?_)
  · simp -dsimp -implicitDefEqProofs only [go_sem, Nat.reduceBEq, Nat.reduceAdd, Nat.reduceLeDiff, Nat.reduceSub, Int.reduceEq]
    by_cases h2 : p.f.length ≤ left
    · rw [szR_ok h2] at h; omega
    · rw [szR_no h2]
  · simp -dsimp -implicitDefEqProofs only [go_sem, Nat.reduceBEq, Nat.reduceAdd, Nat.reduceLeDiff, Nat.reduceSub, Int.reduceEq]
theorem c_toCell (p : Cl) (hb : p.f.length ≤ 1048576) : Meets Try.prog 100 [.agg (clC p)] (fun r => r = .agg (clC p)) := by
  refine Meets.intro mixed (hint []) Try.func100 rfl (by decide) res_100 rty_100 (by kernel_rfl) ?_; 
  simp -dsimp -implicitDefEqProofs only [go_sem, Nat.reduceBEq, Nat.reduceAdd, Nat.reduceLeDiff, Nat.reduceSub, Int.reduceEq, clC]
  repeat (first | with_reducible refine ask.of (by omega) ?_ | simp -dsimp -implicitDefEqProofs only [go_sem, Nat.reduceBEq, Nat.reduceAdd, Nat.reduceLeDiff, Nat.reduceSub, Int.reduceEq, bleF])
  refine CallE.of (c_toByteS p.f hb) (by rintro r rfl; (repeat' first | exact trivial | exact pure_rowB _ | exact pure_rowO _ | exact pure_rowI _ | exact pure_rowBB _ | exact pure_rowPk _ _ | exact pure_rowSn _ _ | exact pure_rowFd _ _ | exact pure_rowBBB _ | exact pure_rowCl _ _ | refine And.intro ?_ ?_)) (by simp -dsimp -implicitDefEqProofs only [go_sem, Nat.reduceBEq, Nat.reduceAdd, Nat.reduceLeDiff, Nat.reduceSub, Int.reduceEq]) ?_
  rintro r rfl
  simp -dsimp -implicitDefEqProofs only [go_sem, Nat.reduceBEq, Nat.reduceAdd, Nat.reduceLeDiff, Nat.reduceSub, Int.reduceEq]
  repeat (first | with_reducible refine ask.of (by omega) ?_ | simp -dsimp -implicitDefEqProofs only [go_sem, Nat.reduceBEq, Nat.reduceAdd, Nat.reduceLeDiff, Nat.reduceSub, Int.reduceEq, bleF])
theorem c_eqCell (p : Cl) (hb : p.f.length ≤ 1048576) : Meets Try.prog 109 [.agg (clC p), .agg (clC p)] (fun r => r = .v (.bool true)) := by
  refine Meets.intro mixed (hint []) Try.func109 rfl (by decide) res_109 rty_109 (by kernel_rfl) ?_; 
  simp -dsimp -implicitDefEqProofs only [go_sem, Nat.reduceBEq, Nat.reduceAdd, Nat.reduceLeDiff, Nat.reduceSub, Int.reduceEq, clC, decide_true]
  repeat (first | with_reducible refine ask.of (by omega) ?_ | simp -dsimp -implicitDefEqProofs only [go_sem, Nat.reduceBEq, Nat.reduceAdd, Nat.reduceLeDiff, Nat.reduceSub, Int.reduceEq, bleF, decide_true])
  refine CallE.of (c_eqByteS p.f (by omega)) (by rintro r rfl; (repeat' first | exact trivial | exact pure_rowB _ | exact pure_rowO _ | exact pure_rowI _ | exact pure_rowBB _ | exact pure_rowPk _ _ | exact pure_rowSn _ _ | exact pure_rowFd _ _ | exact pure_rowBBB _ | exact pure_rowCl _ _ | refine And.intro ?_ ?_)) (by simp -dsimp -implicitDefEqProofs only [go_sem, Nat.reduceBEq, Nat.reduceAdd, Nat.reduceLeDiff, Nat.reduceSub, Int.reduceEq, Bool.not_true, decide_true]) ?_
  rintro r rfl
  simp -dsimp -implicitDefEqProofs only [go_sem, Nat.reduceBEq, Nat.reduceAdd, Nat.reduceLeDiff, Nat.reduceSub, Int.reduceEq, Bool.not_true, decide_true]
  repeat (first | with_reducible refine ask.of (by omega) ?_ | trivial)
theorem Cl_at {xs : List Cl} {i : Nat} (h : i < xs.length) : (ra clC xs)[i]? = some (clC xs[i]) := ra_at h
theorem mem_clW {xs : List Cl} {b : Cl} (h : b ∈ xs) : b.f.length ≤ szL clW xs := by
  obtain ⟨i, hi, rfl⟩ := List.mem_iff_getElem.1 h
  have := szL_at_le clW hi
  have : clW xs[i] = xs[i].f.length := rfl
  omega
theorem c_szCellS (xs : List Cl) (left : Nat) (hl : left ≤ 1048576) (hx : xs.length ≤ 140737488355328) (hb : ∀ b ∈ xs, b.f.length ≤ 140737488355328) : Meets Try.prog 23 [rowCl 145 xs, .v (.int .i64 left)] (fun r => r = .v (.int .i64 (szR left (xs.length + szL clW xs)))) := by
  refine Meets.intro mixed (hint []) Try.func23 rfl (by decide) res_23 rty_23 (by kernel_rfl) ?_; 
  have e : IntKind.i64.wrap ((left : Int) - xs.length) = (left : Int) - xs.length := wrap_i64_of (by omega) (by omega)
  simp -dsimp -implicitDefEqProofs only [go_sem, Nat.reduceBEq, Nat.reduceAdd, Nat.reduceLeDiff, Nat.reduceSub, Int.reduceEq, e, rowCl]
  refine ifB'.of (fun h => ?_) (fun h => ?_)
  · simp -dsimp -implicitDefEqProofs only [go_sem, Nat.reduceBEq, Nat.reduceAdd, Nat.reduceLeDiff, Nat.reduceSub, Int.reduceEq]
    rw [szR_no (by omega)]
  simp -dsimp -implicitDefEqProofs only [go_sem, Nat.reduceBEq, Nat.reduceAdd, Nat.reduceLeDiff, Nat.reduceSub, Int.reduceEq, e]
  refine LoopE.cnt xs.length (fun i s => s.env 0 = .rd .ent 145 3 (ra clC xs) ∧ s.env 5 = .v (.int .i64 i) ∧ xs.length + szL clW (xs.take i) ≤ left ∧ s.env 1 = .v (.int .i64 ((left - (xs.length + szL clW (xs.take i)) : Nat) : Int))) ⟨by simp -dsimp -implicitDefEqProofs only [go_sem, Nat.reduceBEq, Nat.reduceAdd, Nat.reduceLeDiff, Nat.reduceSub, Int.reduceEq, initE, rowCl], by simp -dsimp -implicitDefEqProofs only [go_sem, Nat.reduceBEq, Nat.reduceAdd, Nat.reduceLeDiff, Nat.reduceSub, Int.reduceEq] <;> simp, by simp [szL]; omega, by simp -dsimp -implicitDefEqProofs only [go_sem, Nat.reduceBEq, Nat.reduceAdd, Nat.reduceLeDiff, Nat.reduceSub, Int.reduceEq] <;> (simp [szL]; omega)⟩ ?_
  rintro i ⟨e, σ⟩ hi ⟨h0, h5, hle, h1⟩ K hK
  simp only at h0 h5 h1
  simp -dsimp -implicitDefEqProofs only [go_sem, Nat.reduceBEq, Nat.reduceAdd, Nat.reduceLeDiff, Nat.reduceSub, Int.reduceEq, h0, h5, h1]
  refine ifB'.of (fun hlt => ?_) (fun hlt => ?_)
  · have hlt : i < xs.length := by omega
    have hs := szL_take_succ clW hlt
    have hw := szL_take_le clW xs (i + 1)
    have hww : clW xs[i] = xs[i].f.length := rfl
    simp -dsimp -implicitDefEqProofs only [go_sem, Nat.reduceBEq, Nat.reduceAdd, Nat.reduceLeDiff, Nat.reduceSub, Int.reduceEq, h0, h5, h1, Cl_at hlt, clC]
    repeat with_reducible refine ask.of (by omega) ?_
    simp -dsimp -implicitDefEqProofs only [go_sem, Nat.reduceBEq, Nat.reduceAdd, Nat.reduceLeDiff, Nat.reduceSub, Int.reduceEq, h0, h5, h1, Cl_at hlt, clC, bleF]
    refine CallE.of (c_szCell xs[i] (left - (xs.length + szL clW (xs.take i))) (hb _ (List.getElem_mem _)) (by omega)) (by rintro r rfl; (repeat' first | exact trivial | exact pure_rowB _ | exact pure_rowO _ | exact pure_rowI _ | exact pure_rowBB _ | exact pure_rowPk _ _ | exact pure_rowSn _ _ | exact pure_rowFd _ _ | exact pure_rowBBB _ | exact pure_rowCl _ _ | refine And.intro ?_ ?_)) (by simp -dsimp -implicitDefEqProofs only [go_sem, Nat.reduceBEq, Nat.reduceAdd, Nat.reduceLeDiff, Nat.reduceSub, Int.reduceEq, h0, h5, h1, clC]) ?_
    rintro r rfl
    simp -dsimp -implicitDefEqProofs only [go_sem, Nat.reduceBEq, Nat.reduceAdd, Nat.reduceLeDiff, Nat.reduceSub, Int.reduceEq, h0, h5, h1, clC]
    refine ifB'.of (fun hn => ?_) (fun hn => ?_)
    · have : ¬ xs[i].f.length ≤ left - (xs.length + szL clW (xs.take i)) := fun h => by rw [szR_ok h] at hn; omega
      simp -dsimp -implicitDefEqProofs only [go_sem, Nat.reduceBEq, Nat.reduceAdd, Nat.reduceLeDiff, Nat.reduceSub, Int.reduceEq, h0, h5, h1]
      rw [szR_no (by omega)]
    · have h : xs[i].f.length ≤ left - (xs.length + szL clW (xs.take i)) := Classical.byContradiction fun h => by rw [szR_no h] at hn; omega
      simp -dsimp -implicitDefEqProofs only [go_sem, Nat.reduceBEq, Nat.reduceAdd, Nat.reduceLeDiff, Nat.reduceSub, Int.reduceEq, h0, h5, h1]
      refine hK _ hlt ?_
      simp -dsimp -implicitDefEqProofs only [go_sem, Nat.reduceBEq, Nat.reduceAdd, Nat.reduceLeDiff, Nat.reduceSub, Int.reduceEq, h0, h5, h1, wrap_succ (show i < 4611686018427387904 by omega), szR_ok h, hs]
      exact ⟨by omega, by omega⟩
  · have : i = xs.length := by omega
    subst this
    simp -dsimp -implicitDefEqProofs only [go_sem, Nat.reduceBEq, Nat.reduceAdd, Nat.reduceLeDiff, Nat.reduceSub, Int.reduceEq, h0, h5, h1]
    rw [List.take_length] at hle ⊢
    rw [szR_ok (by omega)]
theorem Cl_set (xs : List Cl) (i : Nat) (x : Cl) : (ra clC xs).set i (clC x) = ra clC (xs.set i x) := ra_set xs i x
theorem c_toCellS (xs : List Cl) (hx : xs.length ≤ 1048576) (hb : ∀ b ∈ xs, b.f.length ≤ 1048576) : Meets Try.prog 26 [rowCl 145 xs] (fun r => r = rowCl 151 xs) := by
  refine Meets.intro mixed (hint []) Try.func26 rfl (by decide) res_26 rty_26 (by kernel_rfl) ?_; 
  simp -dsimp -implicitDefEqProofs only [go_sem, Nat.reduceBEq, Nat.reduceAdd, Nat.reduceLeDiff, Nat.reduceSub, Int.reduceEq, rowCl]
  refine ask.of (by omega) ?_
  refine LoopE.cnt xs.length (fun i s => s.env 0 = .rd .ent 145 3 (ra clC xs) ∧ s.env 3 = .ref [7] ∧ s.env 4 = .v (.int .i64 i) ∧ s.σ [7] = some (.row 151 3 (ra clC (xs.take i ++ List.replicate (xs.length - i) cl0)))) ⟨by simp -dsimp -implicitDefEqProofs only [go_sem, Nat.reduceBEq, Nat.reduceAdd, Nat.reduceLeDiff, Nat.reduceSub, Int.reduceEq, initE, rowCl], by simp -dsimp -implicitDefEqProofs only [go_sem, Nat.reduceBEq, Nat.reduceAdd, Nat.reduceLeDiff, Nat.reduceSub, Int.reduceEq], by simp -dsimp -implicitDefEqProofs only [go_sem, Nat.reduceBEq, Nat.reduceAdd, Nat.reduceLeDiff, Nat.reduceSub, Int.reduceEq] <;> simp, by simp -dsimp -implicitDefEqProofs only [go_sem, Nat.reduceBEq, Nat.reduceAdd, Nat.reduceLeDiff, Nat.reduceSub, Int.reduceEq] <;> simp [ra, clC, cl0, bytesA]⟩ ?_
  rintro i ⟨e, σ⟩ hi ⟨h0, h3, h4, hs⟩ K hK
  simp only at h0 h3 h4 hs
  simp -dsimp -implicitDefEqProofs only [go_sem, Nat.reduceBEq, Nat.reduceAdd, Nat.reduceLeDiff, Nat.reduceSub, Int.reduceEq, h0, h3, h4, hs]
  refine ifB'.of (fun hlt => ?_) (fun hlt => ?_)
  · have hlt : i < xs.length := by omega
    have hl : (List.take i xs ++ List.replicate (xs.length - i) cl0).length = xs.length := by simp; omega
    simp -dsimp -implicitDefEqProofs only [go_sem, Nat.reduceBEq, Nat.reduceAdd, Nat.reduceLeDiff, Nat.reduceSub, Int.reduceEq, h0, h3, h4, hs, Cl_at hlt, clC]
    repeat with_reducible refine ask.of (by omega) ?_
    simp -dsimp -implicitDefEqProofs only [go_sem, Nat.reduceBEq, Nat.reduceAdd, Nat.reduceLeDiff, Nat.reduceSub, Int.reduceEq, h0, h3, h4, hs, Cl_at hlt, clC, bleF]
    refine CallE.of (c_toCell xs[i] (hb _ (List.getElem_mem _))) (by rintro r rfl; (repeat' first | exact trivial | exact pure_rowB _ | exact pure_rowO _ | exact pure_rowI _ | exact pure_rowBB _ | exact pure_rowPk _ _ | exact pure_rowSn _ _ | exact pure_rowFd _ _ | exact pure_rowBBB _ | exact pure_rowCl _ _ | refine And.intro ?_ ?_)) (by simp -dsimp -implicitDefEqProofs only [go_sem, Nat.reduceBEq, Nat.reduceAdd, Nat.reduceLeDiff, Nat.reduceSub, Int.reduceEq, h0, h3, h4, hs, clC]) ?_
    rintro r rfl
    simp -dsimp -implicitDefEqProofs only [go_sem, Nat.reduceBEq, Nat.reduceAdd, Nat.reduceLeDiff, Nat.reduceSub, Int.reduceEq, h0, h3, h4, hs, clC]
    simp -dsimp -implicitDefEqProofs only [go_sem, Nat.reduceBEq, Nat.reduceAdd, Nat.reduceLeDiff, Nat.reduceSub, Int.reduceEq, h0, h3, h4, hs, hl]
    repeat with_reducible refine ask.of (by omega) ?_
    simp -dsimp -implicitDefEqProofs only [go_sem, Nat.reduceBEq, Nat.reduceAdd, Nat.reduceLeDiff, Nat.reduceSub, Int.reduceEq, h0, h3, h4, hs, Cl_at (show i < (List.take i xs ++ List.replicate (xs.length - i) cl0).length by omega), clC, bleF]
    refine hK _ hlt ?_
    simp -dsimp -implicitDefEqProofs only [go_sem, Nat.reduceBEq, Nat.reduceAdd, Nat.reduceLeDiff, Nat.reduceSub, Int.reduceEq, h0, h3, h4, hs, wrap_succ (show i < 4611686018427387904 by omega)]
    exact congrArg (fun l => some (OB.row _ 3 l)) ((Cl_set _ i xs[i]).trans (congrArg (ra clC) (fill_set xs cl0 hlt)))
  · have : i = xs.length := by omega
    subst this
    simp -dsimp -implicitDefEqProofs only [go_sem, Nat.reduceBEq, Nat.reduceAdd, Nat.reduceLeDiff, Nat.reduceSub, Int.reduceEq, h0, h3, h4, hs, rowCl]
    simp
theorem c_eqCellS (xs : List Cl) (hx : xs.length ≤ 1048576) (hb : ∀ b ∈ xs, b.f.length ≤ 1048576) : Meets Try.prog 30 [rowCl 151 xs, rowCl 151 xs] (fun r => r = .v (.bool true)) := by
  refine Meets.intro mixed (hint []) Try.func30 rfl (by decide) res_30 rty_30 (by kernel_rfl) ?_; 
  simp -dsimp -implicitDefEqProofs only [go_sem, Nat.reduceBEq, Nat.reduceAdd, Nat.reduceLeDiff, Nat.reduceSub, Int.reduceEq, decide_true, Bool.not_true, rowCl]
  refine LoopE.cnt xs.length (fun i s => s.env 0 = .rd .ent 151 3 (ra clC xs) ∧ s.env 1 = .rd .ent 151 3 (ra clC xs) ∧ s.env 5 = .v (.int .i64 i)) ⟨by simp -dsimp -implicitDefEqProofs only [go_sem, Nat.reduceBEq, Nat.reduceAdd, Nat.reduceLeDiff, Nat.reduceSub, Int.reduceEq, initE, rowCl], by simp -dsimp -implicitDefEqProofs only [go_sem, Nat.reduceBEq, Nat.reduceAdd, Nat.reduceLeDiff, Nat.reduceSub, Int.reduceEq, initE, rowCl], by simp -dsimp -implicitDefEqProofs only [go_sem, Nat.reduceBEq, Nat.reduceAdd, Nat.reduceLeDiff, Nat.reduceSub, Int.reduceEq] <;> simp⟩ ?_
  rintro i ⟨e, σ⟩ hi ⟨h0, h1, h5⟩ K hK
  simp only at h0 h1 h5
  simp -dsimp -implicitDefEqProofs only [go_sem, Nat.reduceBEq, Nat.reduceAdd, Nat.reduceLeDiff, Nat.reduceSub, Int.reduceEq, h0, h1, h5]
  refine ifB'.of (fun hlt => ?_) (fun hlt => ?_)
  · have hlt : i < xs.length := by omega
    simp -dsimp -implicitDefEqProofs only [go_sem, Nat.reduceBEq, Nat.reduceAdd, Nat.reduceLeDiff, Nat.reduceSub, Int.reduceEq, h0, h1, h5, Cl_at hlt, clC]
    repeat (first | with_reducible refine ask.of (by omega) ?_ | simp -dsimp -implicitDefEqProofs only [go_sem, Nat.reduceBEq, Nat.reduceAdd, Nat.reduceLeDiff, Nat.reduceSub, Int.reduceEq, h0, h1, h5, Cl_at hlt, clC, bleF])
    refine CallE.of (c_eqCell xs[i] (hb _ (List.getElem_mem _))) (by rintro r rfl; (repeat' first | exact trivial | exact pure_rowB _ | exact pure_rowO _ | exact pure_rowI _ | exact pure_rowBB _ | exact pure_rowPk _ _ | exact pure_rowSn _ _ | exact pure_rowFd _ _ | exact pure_rowBBB _ | exact pure_rowCl _ _ | refine And.intro ?_ ?_)) (by simp -dsimp -implicitDefEqProofs only [go_sem, Nat.reduceBEq, Nat.reduceAdd, Nat.reduceLeDiff, Nat.reduceSub, Int.reduceEq, h0, h1, h5, Bool.not_true, clC]) ?_
    rintro r rfl
    simp -dsimp -implicitDefEqProofs only [go_sem, Nat.reduceBEq, Nat.reduceAdd, Nat.reduceLeDiff, Nat.reduceSub, Int.reduceEq, h0, h1, h5, Bool.not_true, clC]
    refine hK _ hlt ?_
    simp -dsimp -implicitDefEqProofs only [go_sem, Nat.reduceBEq, Nat.reduceAdd, Nat.reduceLeDiff, Nat.reduceSub, Int.reduceEq, h0, h1, h5, wrap_succ (show i < 4611686018427387904 by omega)]
  · simp -dsimp -implicitDefEqProofs only [go_sem, Nat.reduceBEq, Nat.reduceAdd, Nat.reduceLeDiff, Nat.reduceSub, Int.reduceEq, h0, h1, h5]
end Go.Ev
set_option linter.unusedSimpArgs false
set_option linter.unusedVariables false
namespace Go.Ev
open Go Go.RowKit Go.Proofs
def mpS (l : List (List UInt8 × Value)) : List (Value × Value) := l.map fun p => (.string ⟨p.1.toArray⟩, p.2)
theorem kEq_str (a b : List UInt8) : kEq (.string ⟨a.toArray⟩) (.string ⟨b.toArray⟩) = decide (a = b) := by
  show ((⟨a.toArray⟩ : ByteArray) == ⟨b.toArray⟩) = _
  by_cases h : a = b
  · rw [decide_eq_true h, h]; exact (MapKept.bytes_beq _ _).2 rfl
  · rw [decide_eq_false h]
    cases h2 : ((⟨a.toArray⟩ : ByteArray) == ⟨b.toArray⟩) with
    | false => rfl
    | true => exact absurd (by simpa using (MapKept.bytes_beq _ _).1 h2) h
theorem mgetS_some (t : List UInt8) : ∀ l : List (List UInt8 × Value), (mget (mpS l) (.string ⟨t.toArray⟩)).isSome = decide (t ∈ l.map (·.1))
  | [] => rfl
  | p :: l => by
    show (sel (kEq (.string ⟨p.1.toArray⟩) (.string ⟨t.toArray⟩)) (some p.2) (mget (mpS l) _)).isSome = _
    rw [kEq_str]
    by_cases h : p.1 = t
    · rw [decide_eq_true h]; simp [sel, h]
    · rw [decide_eq_false h]
      show (mget (mpS l) _).isSome = _
      rw [mgetS_some t l]
      simp [Ne.symm h]
theorem mputS_new (t : List UInt8) (v : Value) : ∀ l : List (List UInt8 × Value), t ∉ l.map (·.1) → mput (mpS l) (.string ⟨t.toArray⟩) v = mpS (l ++ [(t, v)])
  | [], _ => rfl
  | p :: l, h => by
    show sel (kEq (.string ⟨p.1.toArray⟩) (.string ⟨t.toArray⟩)) _ ((.string ⟨p.1.toArray⟩, p.2) :: mput (mpS l) _ v) = _
    have h1 : p.1 ≠ t := fun e => h (by simp [e])
    rw [kEq_str, decide_eq_false h1, mputS_new t v l (fun h2 => h (by simp at h2 ⊢; exact .inr h2))]
    rfl
def ixP (xs : List (List UInt8)) : List (List UInt8 × Value) := xs.zipIdx.map fun p => (p.1, .int .i64 p.2)
theorem ixP_keys (xs : List (List UInt8)) : (ixP xs).map (·.1) = xs := by
  rw [ixP, List.map_map]
  exact List.zipIdx_map_fst 0 xs
theorem ixP_snoc (xs : List (List UInt8)) (t : List UInt8) : ixP xs ++ [(t, .int .i64 (xs.length : Int))] = ixP (xs ++ [t]) := by
  simp [ixP, List.zipIdx_append]
theorem ixP_has (xs : List (List UInt8)) (t : List UInt8) : (mget (mpS (ixP xs)) (.string ⟨t.toArray⟩)).isSome = decide (t ∈ xs) := by rw [mgetS_some, ixP_keys]
theorem ixP_put {xs : List (List UInt8)} {t : List UInt8} (h : t ∉ xs) : mput (mpS (ixP xs)) (.string ⟨t.toArray⟩) (.int .i64 (xs.length : Int)) = mpS (ixP (xs ++ [t])) := by
  rw [mputS_new _ _ _ (by rw [ixP_keys]; exact h), ixP_snoc]
theorem c_l1same (a b : List UInt8) (ha : a.length ≤ 140737488355328) (hb : b.length ≤ 140737488355328) : Meets Try.prog 174 [rowB a, rowB b] (fun r => r = .v (.bool (decide (a = b)))) := by
  refine Meets.intro mixed (hint []) Try.func174 rfl (by decide) res_174 rty_174 (by kernel_rfl) ?_; 
  simp -dsimp -implicitDefEqProofs only [go_sem, Nat.reduceBEq, Nat.reduceAdd, Nat.reduceLeDiff, Nat.reduceSub, Int.reduceEq, initE]
  exact decide_eq_decide.2 ⟨fun h => by simpa using h, fun h => by rw [h]⟩
def plI (xs : List (List UInt8)) (t : List UInt8) : Int := if t ∈ xs then ((xs.idxOf t : Nat) : Int) else -1
theorem plI_at {xs : List (List UInt8)} {t : List UInt8} {i : Nat} (h : i < xs.length) (he : xs[i] = t) (hn : t ∉ xs.take i) : plI xs t = (i : Int) := by
  have hm : t ∈ xs := by rw [← he]; exact List.getElem_mem _
  rw [plI, if_pos hm]
  congr 1
  have e : xs = xs.take i ++ t :: xs.drop (i + 1) := by rw [← he, ← List.drop_eq_getElem_cons h, List.take_append_drop]
  rw [e, List.idxOf_append, if_neg hn]
  simp
  omega
theorem plI_no {xs : List (List UInt8)} {t : List UInt8} (h : t ∉ xs) : plI xs t = -1 := if_neg h
theorem plI_nonneg (xs : List (List UInt8)) (t : List UInt8) : 0 ≤ plI xs t ↔ t ∈ xs := by
  unfold plI
  split
  · rename_i h; exact ⟨fun _ => h, fun _ => by omega⟩
  · rename_i h; exact ⟨fun h' => by omega, fun h' => absurd h' h⟩
theorem not_mem_take_succ {α : Type} {xs : List α} {t : α} {i : Nat} (h : i < xs.length) (hn : t ∉ xs.take i) (he : xs[i] ≠ t) : t ∉ xs.take (i + 1) := by
  rw [List.take_succ_eq_append_getElem h]
  simp only [List.mem_append, List.mem_singleton, not_or]
  exact ⟨hn, fun e => he e.symm⟩
theorem c_l2place (xs : List (List UInt8)) (t : List UInt8) (hx : xs.length ≤ 1048576) (hb : ∀ b ∈ xs, b.length ≤ 140737488355328) (ht : t.length ≤ 140737488355328) : Meets Try.prog 97 [rowBB xs, rowB t] (fun r => r = .v (.int .i64 (plI xs t))) := by
  refine Meets.intro mixed (hint []) Try.func97 rfl (by decide) res_97 rty_97 (by kernel_rfl) ?_; 
  simp -dsimp -implicitDefEqProofs only [go_sem, Nat.reduceBEq, Nat.reduceAdd, Nat.reduceLeDiff, Nat.reduceSub, Int.reduceEq]
  refine LoopE.cnt xs.length (fun i s => s.env 0 = .rd .ent 25 1 (ra byC xs) ∧ s.env 1 = .rd .ent 5 1 (bytesA t) ∧ s.env 5 = .v (.int .i64 i) ∧ t ∉ xs.take i) ⟨by simp -dsimp -implicitDefEqProofs only [go_sem, Nat.reduceBEq, Nat.reduceAdd, Nat.reduceLeDiff, Nat.reduceSub, Int.reduceEq, initE], by simp -dsimp -implicitDefEqProofs only [go_sem, Nat.reduceBEq, Nat.reduceAdd, Nat.reduceLeDiff, Nat.reduceSub, Int.reduceEq, initE], by simp -dsimp -implicitDefEqProofs only [go_sem, Nat.reduceBEq, Nat.reduceAdd, Nat.reduceLeDiff, Nat.reduceSub, Int.reduceEq], by simp⟩ ?_
  rintro i ⟨e, σ⟩ hi ⟨h0, h1, h5, hn⟩ K hK
  simp only at h0 h1 h5
  simp -dsimp -implicitDefEqProofs only [go_sem, Nat.reduceBEq, Nat.reduceAdd, Nat.reduceLeDiff, Nat.reduceSub, Int.reduceEq, h0, h1, h5]
  refine ifB'.of (fun hlt => ?_) (fun hlt => ?_)
  · have hlt : i < xs.length := by omega
    simp -dsimp -implicitDefEqProofs only [go_sem, Nat.reduceBEq, Nat.reduceAdd, Nat.reduceLeDiff, Nat.reduceSub, Int.reduceEq, h0, h1, h5, byA_at hlt]
    repeat with_reducible refine ask.of (by omega) ?_
    refine CallE.of (c_l1same xs[i] t (hb _ (List.getElem_mem _)) ht) (by rintro r rfl; (repeat' first | exact trivial | exact pure_rowB _ | exact pure_rowO _ | exact pure_rowI _ | exact pure_rowBB _ | exact pure_rowPk _ _ | exact pure_rowSn _ _ | exact pure_rowFd _ _ | exact pure_rowBBB _ | exact pure_rowCl _ _ | refine And.intro ?_ ?_)) (by simp -dsimp -implicitDefEqProofs only [go_sem, Nat.reduceBEq, Nat.reduceAdd, Nat.reduceLeDiff, Nat.reduceSub, Int.reduceEq, h0, h1, h5]) ?_
    rintro r rfl
    simp -dsimp -implicitDefEqProofs only [go_sem, Nat.reduceBEq, Nat.reduceAdd, Nat.reduceLeDiff, Nat.reduceSub, Int.reduceEq, h0, h1, h5]
    refine ifB'.of (fun hq => ?_) (fun hq => ?_)
    · simp -dsimp -implicitDefEqProofs only [go_sem, Nat.reduceBEq, Nat.reduceAdd, Nat.reduceLeDiff, Nat.reduceSub, Int.reduceEq, h0, h1, h5]
      rw [plI_at hlt hq hn]
    · simp -dsimp -implicitDefEqProofs only [go_sem, Nat.reduceBEq, Nat.reduceAdd, Nat.reduceLeDiff, Nat.reduceSub, Int.reduceEq, h0, h1, h5]
      refine hK _ hlt ?_
      simp -dsimp -implicitDefEqProofs only [go_sem, Nat.reduceBEq, Nat.reduceAdd, Nat.reduceLeDiff, Nat.reduceSub, Int.reduceEq, h0, h1, h5, wrap_succ (show i < 4611686018427387904 by omega)]
      exact not_mem_take_succ hlt hn hq
  · have : i = xs.length := by omega
    subst this
    simp -dsimp -implicitDefEqProofs only [go_sem, Nat.reduceBEq, Nat.reduceAdd, Nat.reduceLeDiff, Nat.reduceSub, Int.reduceEq, h0, h1, h5]
    rw [plI_no (by rwa [List.take_length] at hn)]
def okD (xs : List (List UInt8)) : Prop := xs.length ≤ 40 ∧ wBB xs ≤ 4000 ∧ xs.Nodup
instance (xs : List (List UInt8)) : Decidable (okD xs) := by unfold okD; infer_instance
theorem okD_f {xs : List (List UInt8)} (h : ¬ okD xs) : false = decide (okD xs) := (decide_eq_false h).symm
theorem okD_t {xs : List (List UInt8)} (h : okD xs) : true = decide (okD xs) := (decide_eq_true h).symm
theorem nodup_take {α : Type} {xs : List α} (h : xs.Nodup) (i : Nat) : (xs.take i).Nodup := List.Nodup.sublist (List.take_sublist _ _) h
theorem nodup_take_succ {α : Type} {xs : List α} {i : Nat} (h : i < xs.length) : (xs.take (i + 1)).Nodup ↔ (xs.take i).Nodup ∧ xs[i] ∉ xs.take i := by
  rw [List.take_succ_eq_append_getElem h, List.nodup_append]
  simp
  intro _
  constructor
  · intro h1 h2; exact h1 _ h2 rfl
  · intro h1 a h2 h3; exact h1 (h3 ▸ h2)
theorem c_sValidDict (xs : List (List UInt8)) (hx : xs.length + wBB xs ≤ 1048576) : Meets Try.prog 94 [rowBB xs] (fun r => r = .v (.bool (decide (okD xs)))) := by
  refine Meets.introO mixed (hint []) (fun k => (sel (k == 8) [0,1,2,3,4,5,6,7,8,9,10,11,12] [])) Try.func94 rfl (by decide) res_94 rty_94 (by kernel_rfl) ?_; 
  have hb : ∀ b ∈ xs, b.length ≤ 140737488355328 := fun b hb => by have : b.length ≤ wBB xs := mem_wBB hb; omega
  simp -dsimp -implicitDefEqProofs only [go_sem, Nat.reduceBEq, Nat.reduceAdd, Nat.reduceLeDiff, Nat.reduceSub, Int.reduceEq]
  refine ifB'.of (fun h => ?_) (fun h => ?_)
  · simp -dsimp -implicitDefEqProofs only [go_sem, Nat.reduceBEq, Nat.reduceAdd, Nat.reduceLeDiff, Nat.reduceSub, Int.reduceEq]
    exact okD_f (fun h' => by have := h'.1; omega)
  simp -dsimp -implicitDefEqProofs only [go_sem, Nat.reduceBEq, Nat.reduceAdd, Nat.reduceLeDiff, Nat.reduceSub, Int.reduceEq]
  refine LoopE.cnt xs.length (fun i s => s.env 0 = .rd .ent 25 1 (ra byC xs) ∧ s.env 4 = .v (.int .i64 i) ∧ s.env 3 = .v (.int .i64 (wBB (xs.take i) : Nat)) ∧ wBB (xs.take i) ≤ 4000 ∧ (xs.take i).Nodup) ⟨by simp -dsimp -implicitDefEqProofs only [go_sem, Nat.reduceBEq, Nat.reduceAdd, Nat.reduceLeDiff, Nat.reduceSub, Int.reduceEq, initE], by simp -dsimp -implicitDefEqProofs only [go_sem, Nat.reduceBEq, Nat.reduceAdd, Nat.reduceLeDiff, Nat.reduceSub, Int.reduceEq], by simp -dsimp -implicitDefEqProofs only [go_sem, Nat.reduceBEq, Nat.reduceAdd, Nat.reduceLeDiff, Nat.reduceSub, Int.reduceEq] <;> rfl, by simp [wBB, szL], by simp⟩ ?_
  rintro i ⟨e, σ⟩ hi ⟨h0, h4, h3, hw, hnd⟩ K hK
  simp only at h0 h4 h3
  simp -dsimp -implicitDefEqProofs only [go_sem, Nat.reduceBEq, Nat.reduceAdd, Nat.reduceLeDiff, Nat.reduceSub, Int.reduceEq, h0, h4, h3]
  refine ifB'.of (fun hlt => ?_) (fun hlt => ?_)
  · have hlt : i < xs.length := by omega
    have hs : wBB (xs.take (i + 1)) = wBB (xs.take i) + xs[i].length := szL_take_succ List.length hlt
    have hsl : wBB (xs.take (i + 1)) ≤ wBB xs := szL_take_le List.length xs (i + 1)
    have e1 : IntKind.i64.wrap ((wBB (xs.take i) : Int) + xs[i].length) = (wBB (xs.take (i + 1)) : Nat) := by rw [wrap_i64_of (by omega) (by omega), hs]; omega
    simp -dsimp -implicitDefEqProofs only [go_sem, Nat.reduceBEq, Nat.reduceAdd, Nat.reduceLeDiff, Nat.reduceSub, Int.reduceEq, h0, h4, h3, byA_at hlt]
    repeat with_reducible refine ask.of (by omega) ?_
    simp -dsimp -implicitDefEqProofs only [go_sem, Nat.reduceBEq, Nat.reduceAdd, Nat.reduceLeDiff, Nat.reduceSub, Int.reduceEq, h0, h4, h3, byA_at hlt, e1]
    refine ifB'.of (fun hg => ?_) (fun hg => ?_)
    · simp -dsimp -implicitDefEqProofs only [go_sem, Nat.reduceBEq, Nat.reduceAdd, Nat.reduceLeDiff, Nat.reduceSub, Int.reduceEq, h0, h4, h3]
      exact okD_f (fun h' => by have := h'.2.1; omega)
    · simp -dsimp -implicitDefEqProofs only [go_sem, Nat.reduceBEq, Nat.reduceAdd, Nat.reduceLeDiff, Nat.reduceSub, Int.reduceEq, h0, h4, h3, byA_at hlt, Int.toNat_natCast]
      repeat with_reducible refine ask.of (by omega) ?_
      refine CallE.of (c_l2place (xs.take i) xs[i] (by simp; omega) (fun b h => hb b (List.mem_of_mem_take h)) (hb _ (List.getElem_mem _))) (by rintro r rfl; (repeat' first | exact trivial | exact pure_rowB _ | exact pure_rowO _ | exact pure_rowI _ | exact pure_rowBB _ | exact pure_rowPk _ _ | exact pure_rowSn _ _ | exact pure_rowFd _ _ | exact pure_rowBBB _ | exact pure_rowCl _ _ | refine And.intro ?_ ?_)) (by simp -dsimp -implicitDefEqProofs only [go_sem, Nat.reduceBEq, Nat.reduceAdd, Nat.reduceLeDiff, Nat.reduceSub, Int.reduceEq, h0, h4, h3, Int.toNat_zero]) ?_
      rintro r rfl
      simp -dsimp -implicitDefEqProofs only [go_sem, Nat.reduceBEq, Nat.reduceAdd, Nat.reduceLeDiff, Nat.reduceSub, Int.reduceEq, h0, h4, h3, Int.toNat_zero]
      refine ifB'.of (fun hq => ?_) (fun hq => ?_)
      · simp -dsimp -implicitDefEqProofs only [go_sem, Nat.reduceBEq, Nat.reduceAdd, Nat.reduceLeDiff, Nat.reduceSub, Int.reduceEq, h0, h4, h3]
        have hq := (plI_nonneg _ _).1 hq
        exact okD_f (fun h' => ((nodup_take_succ hlt).1 (nodup_take h'.2.2 (i + 1))).2 hq)
      · simp -dsimp -implicitDefEqProofs only [go_sem, Nat.reduceBEq, Nat.reduceAdd, Nat.reduceLeDiff, Nat.reduceSub, Int.reduceEq, h0, h4, h3]
        refine hK _ hlt ?_
        simp -dsimp -implicitDefEqProofs only [go_sem, Nat.reduceBEq, Nat.reduceAdd, Nat.reduceLeDiff, Nat.reduceSub, Int.reduceEq, h0, h4, h3, wrap_succ (show i < 4611686018427387904 by omega)]
        exact ⟨by omega, by omega, (nodup_take_succ hlt).2 ⟨hnd, fun h' => hq ((plI_nonneg _ _).2 h')⟩⟩
  · have : i = xs.length := by omega
    subst this
    simp -dsimp -implicitDefEqProofs only [go_sem, Nat.reduceBEq, Nat.reduceAdd, Nat.reduceLeDiff, Nat.reduceSub, Int.reduceEq, h0, h4, h3]
    rw [List.take_length] at hw hnd
    exact okD_t ⟨by omega, hw, hnd⟩
theorem c_iValidDict (xs : List (List UInt8)) (hx : xs.length + wBB xs ≤ 1048576) : Meets Try.prog 101 [rowBB xs] (fun r => r = .v (.bool (decide (okD xs)))) := by
  refine Meets.intro mixed (hint []) Try.func101 rfl (by decide) res_101 rty_101 (by kernel_rfl) ?_; 
  simp -dsimp -implicitDefEqProofs only [go_sem, Nat.reduceBEq, Nat.reduceAdd, Nat.reduceLeDiff, Nat.reduceSub, Int.reduceEq]
  refine ifB'.of (fun h => ?_) (fun h => ?_)
  · simp -dsimp -implicitDefEqProofs only [go_sem, Nat.reduceBEq, Nat.reduceAdd, Nat.reduceLeDiff, Nat.reduceSub, Int.reduceEq]
    exact okD_f (fun h' => by have := h'.1; omega)
  simp -dsimp -implicitDefEqProofs only [go_sem, Nat.reduceBEq, Nat.reduceAdd, Nat.reduceLeDiff, Nat.reduceSub, Int.reduceEq]
  refine LoopE.cnt xs.length (fun i s => s.env 13 = .rd .ent 25 1 (ra byC xs) ∧ s.env 14 = .v (.int .i64 xs.length) ∧ s.env 15 = .v (.int .i64 i) ∧ s.env 3 = .ref [12] ∧ s.env 4 = .v (.int .i64 (wBB (xs.take i) : Nat)) ∧ s.σ [12] = some (.mp .string 3 (mpS (ixP (xs.take i)))) ∧ (xs.take i).Nodup) ⟨by simp -dsimp -implicitDefEqProofs only [go_sem, Nat.reduceBEq, Nat.reduceAdd, Nat.reduceLeDiff, Nat.reduceSub, Int.reduceEq, initE], by simp -dsimp -implicitDefEqProofs only [go_sem, Nat.reduceBEq, Nat.reduceAdd, Nat.reduceLeDiff, Nat.reduceSub, Int.reduceEq, initE], by simp -dsimp -implicitDefEqProofs only [go_sem, Nat.reduceBEq, Nat.reduceAdd, Nat.reduceLeDiff, Nat.reduceSub, Int.reduceEq], by simp -dsimp -implicitDefEqProofs only [go_sem, Nat.reduceBEq, Nat.reduceAdd, Nat.reduceLeDiff, Nat.reduceSub, Int.reduceEq], by simp -dsimp -implicitDefEqProofs only [go_sem, Nat.reduceBEq, Nat.reduceAdd, Nat.reduceLeDiff, Nat.reduceSub, Int.reduceEq] <;> rfl, by simp -dsimp -implicitDefEqProofs only [go_sem, Nat.reduceBEq, Nat.reduceAdd, Nat.reduceLeDiff, Nat.reduceSub, Int.reduceEq] <;> rfl, by simp⟩ ?_
  rintro i ⟨e, σ⟩ hi ⟨h13, h14, h15, h3, h4, hs, hnd⟩ K hK
  simp only at h13 h14 h15 h3 h4 hs
  simp -dsimp -implicitDefEqProofs only [go_sem, Nat.reduceBEq, Nat.reduceAdd, Nat.reduceLeDiff, Nat.reduceSub, Int.reduceEq, h13, h14, h15, h3, h4, hs]
  refine ifB'.of (fun hlt => ?_) (fun hlt => ?_)
  · have hlt : i < xs.length := by omega
    have hw : wBB (xs.take (i + 1)) = wBB (xs.take i) + xs[i].length := szL_take_succ List.length hlt
    have hsl : wBB (xs.take (i + 1)) ≤ wBB xs := szL_take_le List.length xs (i + 1)
    have e1 : IntKind.i64.wrap ((wBB (xs.take i) : Int) + xs[i].length) = (wBB (xs.take (i + 1)) : Nat) := by rw [wrap_i64_of (by omega) (by omega), hw]; omega
    simp -dsimp -implicitDefEqProofs only [go_sem, Nat.reduceBEq, Nat.reduceAdd, Nat.reduceLeDiff, Nat.reduceSub, Int.reduceEq, h13, h14, h15, h3, h4, hs, byA_at hlt]
    repeat with_reducible refine ask.of (by omega) ?_
    simp -dsimp -implicitDefEqProofs only [go_sem, Nat.reduceBEq, Nat.reduceAdd, Nat.reduceLeDiff, Nat.reduceSub, Int.reduceEq, h13, h14, h15, h3, h4, hs, byA_at hlt, ixP_has]
    refine ifB'.of (fun hq => ?_) (fun hq => ?_)
    · simp -dsimp -implicitDefEqProofs only [go_sem, Nat.reduceBEq, Nat.reduceAdd, Nat.reduceLeDiff, Nat.reduceSub, Int.reduceEq, h13, h14, h15, h3, h4, hs]
      exact okD_f (fun h' => ((nodup_take_succ hlt).1 (nodup_take h'.2.2 (i + 1))).2 hq)
    · have hp := ixP_put hq
      rw [show (xs.take i).length = i by simp; omega, ← take_succ hlt] at hp
      simp -dsimp -implicitDefEqProofs only [go_sem, Nat.reduceBEq, Nat.reduceAdd, Nat.reduceLeDiff, Nat.reduceSub, Int.reduceEq, h13, h14, h15, h3, h4, hs, e1, hp]
      refine hK _ hlt ?_
      simp -dsimp -implicitDefEqProofs only [go_sem, Nat.reduceBEq, Nat.reduceAdd, Nat.reduceLeDiff, Nat.reduceSub, Int.reduceEq, h13, h14, h15, h3, h4, hs, wrap_succ (show i < 4611686018427387904 by omega)]
      exact (nodup_take_succ hlt).2 ⟨hnd, hq⟩
  · have : i = xs.length := by omega
    subst this
    simp -dsimp -implicitDefEqProofs only [go_sem, Nat.reduceBEq, Nat.reduceAdd, Nat.reduceLeDiff, Nat.reduceSub, Int.reduceEq, h13, h14, h15, h3, h4, hs]
    rw [List.take_length] at hnd ⊢
    exact decide_eq_decide.2 ⟨fun h' => ⟨by omega, by omega, hnd⟩, fun h' => by have := h'.2.1; omega⟩
end Go.Ev
set_option linter.unusedSimpArgs false
set_option linter.unusedVariables false
namespace Go.Ev
open Go Go.RowKit Go.Proofs
def h8 (x0 x1 x2 x3 x4 x5 x6 x7 : Bool) : Nat := (((((((0 * 2 + x7.toNat) * 2 + x6.toNat) * 2 + x5.toNat) * 2 + x4.toNat) * 2 + x3.toNat) * 2 + x2.toNat) * 2 + x1.toNat) * 2 + x0.toNat
end Go.Ev
set_option linter.unusedSimpArgs false
set_option linter.unusedVariables false
namespace Go.Ev
open Go Go.RowKit Go.Proofs
def isW (n : Int) : Bool := decide (n = 1 ∨ n = 2 ∨ n = 4 ∨ n = 8)
theorem isW_of {w : Nat} (h : w = 1 ∨ w = 2 ∨ w = 4 ∨ w = 8) : isW w = true := by
  have : (w : Int) = 1 ∨ (w : Int) = 2 ∨ (w : Int) = 4 ∨ (w : Int) = 8 := by omega
  simpa [isW] using this
theorem c_l1width (n : Int) : Meets Try.prog 184 [.v (.int .i64 n)] (fun r => r = .v (.bool (isW n))) := by
  refine Meets.intro mixed (hint []) Try.func184 rfl (by decide) res_184 rty_184 (by kernel_rfl) ?_; 
  by_cases h1 : n = 1
  · simp -dsimp -implicitDefEqProofs only [go_sem, Nat.reduceBEq, Nat.reduceAdd, Nat.reduceLeDiff, Nat.reduceSub, Int.reduceEq, initE, h1, decide_true, decide_false, show isW 1 = true from rfl]
  by_cases h2 : n = 2
  · simp -dsimp -implicitDefEqProofs only [go_sem, Nat.reduceBEq, Nat.reduceAdd, Nat.reduceLeDiff, Nat.reduceSub, Int.reduceEq, initE, h1, h2, decide_true, decide_false, show isW 2 = true from rfl, show ¬ (2 : Int) = 1 by decide]
  by_cases h4 : n = 4
  · simp -dsimp -implicitDefEqProofs only [go_sem, Nat.reduceBEq, Nat.reduceAdd, Nat.reduceLeDiff, Nat.reduceSub, Int.reduceEq, initE, h1, h2, h4, decide_true, decide_false, show isW 4 = true from rfl, show ¬ (4 : Int) = 1 by decide, show ¬ (4 : Int) = 2 by decide]
  by_cases h8 : n = 8
  · simp -dsimp -implicitDefEqProofs only [go_sem, Nat.reduceBEq, Nat.reduceAdd, Nat.reduceLeDiff, Nat.reduceSub, Int.reduceEq, initE, h1, h2, h4, h8, decide_true, decide_false, show isW 8 = true from rfl, show ¬ (8 : Int) = 1 by decide, show ¬ (8 : Int) = 2 by decide, show ¬ (8 : Int) = 4 by decide]
  have e : isW n = false := by simp [isW, h1, h2, h4, h8]
  simp -dsimp -implicitDefEqProofs only [go_sem, Nat.reduceBEq, Nat.reduceAdd, Nat.reduceLeDiff, Nat.reduceSub, Int.reduceEq, initE, h1, h2, h4, h8, e, decide_true, decide_false]
end Go.Ev
set_option linter.unusedSimpArgs false
set_option linter.unusedVariables false
namespace Go.Ev
open Go Go.RowKit Go.Proofs
def chOk (c : UInt8) : Prop := (97 ≤ c.toNat ∧ c.toNat ≤ 122) ∨ (65 ≤ c.toNat ∧ c.toNat ≤ 90) ∨ (48 ≤ c.toNat ∧ c.toNat ≤ 57) ∨ c.toNat = 95
instance (c : UInt8) : Decidable (chOk c) := by unfold chOk; infer_instance
def nmOk (b : List UInt8) : Prop := 1 ≤ b.length ∧ b.length ≤ 20 ∧ ∀ c ∈ b, chOk c
instance (b : List UInt8) : Decidable (nmOk b) := by unfold nmOk; infer_instance
theorem nm_len {b : List UInt8} (h : ¬ (1 ≤ b.length ∧ b.length ≤ 20)) : false = decide (nmOk b) := (decide_eq_false (fun h' => h ⟨h'.1, h'.2.1⟩)).symm
theorem nm_ch {b : List UInt8} {i : Nat} (hi : i < b.length) (h : ¬ chOk b[i]) : false = decide (nmOk b) := (decide_eq_false (fun h' => h (h'.2.2 _ (List.getElem_mem _)))).symm
theorem all_take_succ {α : Type} {q : α → Prop} {xs : List α} {i : Nat} (h : i < xs.length) (ha : ∀ c ∈ xs.take i, q c) (hc : q xs[i]) : ∀ c ∈ xs.take (i + 1), q c := by
  rw [List.take_succ_eq_append_getElem h]
  intro c hm
  rcases List.mem_append.1 hm with hm | hm
  · exact ha c hm
  · rw [List.mem_singleton.1 hm]; exact hc
set_option maxRecDepth 4000 in
theorem c_l2nameOK (b : List UInt8) (hb : b.length ≤ 140737488355328) : Meets Try.prog 203 [rowB b] (fun r => r = .v (.bool (decide (nmOk b)))) := by
  refine Meets.intro mixed (hint []) Try.func203 rfl (by decide) res_203 rty_203 (by kernel_rfl) ?_; 
  simp -dsimp -implicitDefEqProofs only [go_sem, Nat.reduceBEq, Nat.reduceAdd, Nat.reduceLeDiff, Nat.reduceSub, Int.reduceEq]
  refine ifB'.of (fun h => ?_) (fun h => ?_)
  · simp -dsimp -implicitDefEqProofs only [go_sem, Nat.reduceBEq, Nat.reduceAdd, Nat.reduceLeDiff, Nat.reduceSub, Int.reduceEq]
    exact nm_len (by omega)
  simp -dsimp -implicitDefEqProofs only [go_sem, Nat.reduceBEq, Nat.reduceAdd, Nat.reduceLeDiff, Nat.reduceSub, Int.reduceEq]
  refine ifB'.of (fun h2 => ?_) (fun h2 => ?_)
  · simp -dsimp -implicitDefEqProofs only [go_sem, Nat.reduceBEq, Nat.reduceAdd, Nat.reduceLeDiff, Nat.reduceSub, Int.reduceEq]
    exact nm_len (by omega)
  simp -dsimp -implicitDefEqProofs only [go_sem, Nat.reduceBEq, Nat.reduceAdd, Nat.reduceLeDiff, Nat.reduceSub, Int.reduceEq]
  refine LoopE.cnt b.length (fun i s => s.env 0 = .rd .ent 5 1 (bytesA b) ∧ s.env 3 = .v (.int .i64 i) ∧ ∀ c ∈ b.take i, chOk c) ⟨by simp -dsimp -implicitDefEqProofs only [go_sem, Nat.reduceBEq, Nat.reduceAdd, Nat.reduceLeDiff, Nat.reduceSub, Int.reduceEq, initE], by simp -dsimp -implicitDefEqProofs only [go_sem, Nat.reduceBEq, Nat.reduceAdd, Nat.reduceLeDiff, Nat.reduceSub, Int.reduceEq], by simp⟩ ?_
  rintro i ⟨e, σ⟩ hi ⟨h0, h3, ha⟩ K hK
  simp only at h0 h3
  simp -dsimp -implicitDefEqProofs only [go_sem, Nat.reduceBEq, Nat.reduceAdd, Nat.reduceLeDiff, Nat.reduceSub, Int.reduceEq, h0, h3]
  refine ifB'.of (fun hlt => ?_) (fun hlt => ?_)
  · have hlt : i < b.length := by omega
    simp -dsimp -implicitDefEqProofs only [go_sem, Nat.reduceBEq, Nat.reduceAdd, Nat.reduceLeDiff, Nat.reduceSub, Int.reduceEq, h0, h3, bytesA_at hlt]
    repeat' (first | with_reducible refine ifB'.of (fun h => ?_) (fun h => ?_) | with_reducible refine ask.of (by omega) ?_ | ((with_reducible refine nm_ch hlt ?_); unfold chOk; omega) | simp -dsimp -implicitDefEqProofs only [go_sem, Nat.reduceBEq, Nat.reduceAdd, Nat.reduceLeDiff, Nat.reduceSub, Int.reduceEq, h0, h3, Bool.not_true, Bool.not_false])
    all_goals (refine hK _ hlt ?_; simp -dsimp -implicitDefEqProofs only [go_sem, Nat.reduceBEq, Nat.reduceAdd, Nat.reduceLeDiff, Nat.reduceSub, Int.reduceEq, h0, h3, wrap_succ (show i < 4611686018427387904 by omega)]; exact all_take_succ hlt ha (by unfold chOk; omega))
  · have : i = b.length := by omega
    subst this
    simp -dsimp -implicitDefEqProofs only [go_sem, Nat.reduceBEq, Nat.reduceAdd, Nat.reduceLeDiff, Nat.reduceSub, Int.reduceEq, h0, h3]
    rw [List.take_length] at ha
    exact (decide_eq_true (show nmOk b from ⟨by omega, by omega, ha⟩)).symm
set_option maxRecDepth 4000 in
theorem c_nameOk (b : List UInt8) (hb : b.length ≤ 140737488355328) : Meets Try.prog 186 [rowB b] (fun r => r = .v (.bool (decide (nmOk b)))) := by
  refine Meets.intro mixed (hint []) Try.func186 rfl (by decide) res_186 rty_186 (by kernel_rfl) ?_; 
  simp -dsimp -implicitDefEqProofs only [go_sem, Nat.reduceBEq, Nat.reduceAdd, Nat.reduceLeDiff, Nat.reduceSub, Int.reduceEq]
  refine ifB'.of (fun h => ?_) (fun h => ?_)
  · simp -dsimp -implicitDefEqProofs only [go_sem, Nat.reduceBEq, Nat.reduceAdd, Nat.reduceLeDiff, Nat.reduceSub, Int.reduceEq]
    exact nm_len (by omega)
  simp -dsimp -implicitDefEqProofs only [go_sem, Nat.reduceBEq, Nat.reduceAdd, Nat.reduceLeDiff, Nat.reduceSub, Int.reduceEq]
  refine ifB'.of (fun h2 => ?_) (fun h2 => ?_)
  · simp -dsimp -implicitDefEqProofs only [go_sem, Nat.reduceBEq, Nat.reduceAdd, Nat.reduceLeDiff, Nat.reduceSub, Int.reduceEq]
    exact nm_len (by omega)
  simp -dsimp -implicitDefEqProofs only [go_sem, Nat.reduceBEq, Nat.reduceAdd, Nat.reduceLeDiff, Nat.reduceSub, Int.reduceEq]
  refine LoopE.cnt b.length (fun i s => s.env 13 = .rd .ent 5 1 (bytesA b) ∧ s.env 14 = .v (.int .i64 b.length) ∧ s.env 15 = .v (.int .i64 i) ∧ ∀ c ∈ b.take i, chOk c) ⟨by simp -dsimp -implicitDefEqProofs only [go_sem, Nat.reduceBEq, Nat.reduceAdd, Nat.reduceLeDiff, Nat.reduceSub, Int.reduceEq, initE], by simp -dsimp -implicitDefEqProofs only [go_sem, Nat.reduceBEq, Nat.reduceAdd, Nat.reduceLeDiff, Nat.reduceSub, Int.reduceEq, initE], by simp -dsimp -implicitDefEqProofs only [go_sem, Nat.reduceBEq, Nat.reduceAdd, Nat.reduceLeDiff, Nat.reduceSub, Int.reduceEq], by simp⟩ ?_
  rintro i ⟨e, σ⟩ hi ⟨h13, h14, h15, ha⟩ K hK
  simp only at h13 h14 h15
  simp -dsimp -implicitDefEqProofs only [go_sem, Nat.reduceBEq, Nat.reduceAdd, Nat.reduceLeDiff, Nat.reduceSub, Int.reduceEq, h13, h14, h15]
  refine ifB'.of (fun hlt => ?_) (fun hlt => ?_)
  · have hlt : i < b.length := by omega
    simp -dsimp -implicitDefEqProofs only [go_sem, Nat.reduceBEq, Nat.reduceAdd, Nat.reduceLeDiff, Nat.reduceSub, Int.reduceEq, h13, h14, h15, bytesA_at hlt]
    repeat' (first | with_reducible refine ifB'.of (fun h => ?_) (fun h => ?_) | with_reducible refine ask.of (by omega) ?_ | ((with_reducible refine nm_ch hlt ?_); unfold chOk; omega) | simp -dsimp -implicitDefEqProofs only [go_sem, Nat.reduceBEq, Nat.reduceAdd, Nat.reduceLeDiff, Nat.reduceSub, Int.reduceEq, h13, h14, h15, Bool.not_true, Bool.not_false])
    all_goals (refine hK _ hlt ?_; simp -dsimp -implicitDefEqProofs only [go_sem, Nat.reduceBEq, Nat.reduceAdd, Nat.reduceLeDiff, Nat.reduceSub, Int.reduceEq, h13, h14, h15, wrap_succ (show i < 4611686018427387904 by omega)]; exact all_take_succ hlt ha (by unfold chOk; omega))
  · have : i = b.length := by omega
    subst this
    simp -dsimp -implicitDefEqProofs only [go_sem, Nat.reduceBEq, Nat.reduceAdd, Nat.reduceLeDiff, Nat.reduceSub, Int.reduceEq, h13, h14, h15]
    rw [List.take_length] at ha
    exact (decide_eq_true (show nmOk b from ⟨by omega, by omega, ha⟩)).symm
def fdOk (x : Fd) : Prop := nmOk x.f ∧ ((x.k = 1 ∧ (x.w = 1 ∨ x.w = 2 ∨ x.w = 4 ∨ x.w = 8)) ∨ ((x.k = 0 ∨ x.k = 2 ∨ x.k = 3) ∧ x.w = 0))
instance (x : Fd) : Decidable (fdOk x) := by unfold fdOk; infer_instance
theorem fd_f {x : Fd} (h : ¬ fdOk x) : false = decide (fdOk x) := by rw [decide_eq_false h]
theorem fd_t {x : Fd} (h : fdOk x) : true = decide (fdOk x) := by rw [decide_eq_true h]
theorem fd_d {x : Fd} {q : Prop} [Decidable q] (h : q ↔ fdOk x) : decide q = decide (fdOk x) := by rw [decide_eq_decide.2 h]
theorem isW_iff (n : Int) : isW n = decide (n = 1 ∨ n = 2 ∨ n = 4 ∨ n = 8) := by
  unfold isW
  simp only [Bool.decide_or, Bool.or_assoc]
theorem c_l2fieldOK (x : Fd) (hb : x.f.length ≤ 1048576) : Meets Try.prog 172 [.agg (fdC x)] (fun r => r = .v (.bool (decide (fdOk x)))) := by
  refine Meets.intro mixed (hint []) Try.func172 rfl (by decide) res_172 rty_172 (by kernel_rfl) ?_; 
  simp -dsimp -implicitDefEqProofs only [go_sem, Nat.reduceBEq, Nat.reduceAdd, Nat.reduceLeDiff, Nat.reduceSub, Int.reduceEq, fdC]
  repeat (first | with_reducible refine ask.of (by omega) ?_ | simp -dsimp -implicitDefEqProofs only [go_sem, Nat.reduceBEq, Nat.reduceAdd, Nat.reduceLeDiff, Nat.reduceSub, Int.reduceEq, bleF])
  refine CallE.of (c_l2nameOK x.f (by omega)) (by rintro r rfl; (repeat' first | exact trivial | exact pure_rowB _ | exact pure_rowO _ | exact pure_rowI _ | exact pure_rowBB _ | exact pure_rowPk _ _ | exact pure_rowSn _ _ | exact pure_rowFd _ _ | exact pure_rowBBB _ | exact pure_rowCl _ _ | refine And.intro ?_ ?_)) (by simp -dsimp -implicitDefEqProofs only [go_sem, Nat.reduceBEq, Nat.reduceAdd, Nat.reduceLeDiff, Nat.reduceSub, Int.reduceEq]) ?_
  rintro r rfl
  simp -dsimp -implicitDefEqProofs only [go_sem, Nat.reduceBEq, Nat.reduceAdd, Nat.reduceLeDiff, Nat.reduceSub, Int.reduceEq]
  by_cases hn : nmOk x.f
  · simp -dsimp -implicitDefEqProofs only [go_sem, Nat.reduceBEq, Nat.reduceAdd, Nat.reduceLeDiff, Nat.reduceSub, Int.reduceEq, decide_eq_true hn]
    repeat' (first | with_reducible refine ifB'.of (fun h => ?_) (fun h => ?_) | with_reducible refine ask.of (by omega) ?_ | ((with_reducible refine fd_f ?_); unfold fdOk; simp only [hn, true_and]; omega) | ((with_reducible refine fd_t ?_); unfold fdOk; simp only [hn, true_and]; omega) | ((with_reducible refine fd_d ?_); unfold fdOk; simp only [hn, true_and]; omega) | simp -dsimp -implicitDefEqProofs only [go_sem, Nat.reduceBEq, Nat.reduceAdd, Nat.reduceLeDiff, Nat.reduceSub, Int.reduceEq, decide_true])
    all_goals
      refine CallE.of (c_l1width x.w) (by rintro r rfl; (repeat' first | exact trivial | exact pure_rowB _ | exact pure_rowO _ | exact pure_rowI _ | exact pure_rowBB _ | exact pure_rowPk _ _ | exact pure_rowSn _ _ | exact pure_rowFd _ _ | exact pure_rowBBB _ | exact pure_rowCl _ _ | refine And.intro ?_ ?_)) (by simp -dsimp -implicitDefEqProofs only [go_sem, Nat.reduceBEq, Nat.reduceAdd, Nat.reduceLeDiff, Nat.reduceSub, Int.reduceEq, isW_iff]) ?_
      rintro r rfl
      simp -dsimp -implicitDefEqProofs only [go_sem, Nat.reduceBEq, Nat.reduceAdd, Nat.reduceLeDiff, Nat.reduceSub, Int.reduceEq, isW_iff]
      refine fd_d ?_
      unfold fdOk
      simp only [hn, true_and]
      omega
  · simp -dsimp -implicitDefEqProofs only [go_sem, Nat.reduceBEq, Nat.reduceAdd, Nat.reduceLeDiff, Nat.reduceSub, Int.reduceEq, decide_eq_false hn]
    repeat' (first | with_reducible refine ask.of (by omega) ?_ | ((with_reducible refine fd_f ?_); exact fun h => hn h.1) | simp -dsimp -implicitDefEqProofs only [go_sem, Nat.reduceBEq, Nat.reduceAdd, Nat.reduceLeDiff, Nat.reduceSub, Int.reduceEq, decide_true])
theorem c_fieldOk (x : Fd) (hb : x.f.length ≤ 1048576) : Meets Try.prog 128 [.agg (fdC x)] (fun r => r = .v (.bool (decide (fdOk x)))) := by
  refine Meets.intro mixed (hint []) Try.func128 rfl (by decide) res_128 rty_128 (by kernel_rfl) ?_; 
  simp -dsimp -implicitDefEqProofs only [go_sem, Nat.reduceBEq, Nat.reduceAdd, Nat.reduceLeDiff, Nat.reduceSub, Int.reduceEq, fdC]
  repeat (first | with_reducible refine ask.of (by omega) ?_ | simp -dsimp -implicitDefEqProofs only [go_sem, Nat.reduceBEq, Nat.reduceAdd, Nat.reduceLeDiff, Nat.reduceSub, Int.reduceEq, bleF])
  refine CallE.of (c_nameOk x.f (by omega)) (by rintro r rfl; (repeat' first | exact trivial | exact pure_rowB _ | exact pure_rowO _ | exact pure_rowI _ | exact pure_rowBB _ | exact pure_rowPk _ _ | exact pure_rowSn _ _ | exact pure_rowFd _ _ | exact pure_rowBBB _ | exact pure_rowCl _ _ | refine And.intro ?_ ?_)) (by simp -dsimp -implicitDefEqProofs only [go_sem, Nat.reduceBEq, Nat.reduceAdd, Nat.reduceLeDiff, Nat.reduceSub, Int.reduceEq]) ?_
  rintro r rfl
  simp -dsimp -implicitDefEqProofs only [go_sem, Nat.reduceBEq, Nat.reduceAdd, Nat.reduceLeDiff, Nat.reduceSub, Int.reduceEq]
  by_cases hn : nmOk x.f
  · simp -dsimp -implicitDefEqProofs only [go_sem, Nat.reduceBEq, Nat.reduceAdd, Nat.reduceLeDiff, Nat.reduceSub, Int.reduceEq, decide_eq_true hn]
    repeat' (first | with_reducible refine ifB'.of (fun h => ?_) (fun h => ?_) | with_reducible refine ask.of (by omega) ?_ | ((with_reducible refine fd_f ?_); unfold fdOk; simp only [hn, true_and]; omega) | ((with_reducible refine fd_t ?_); unfold fdOk; simp only [hn, true_and]; omega) | ((with_reducible refine fd_d ?_); unfold fdOk; simp only [hn, true_and]; omega) | simp -dsimp -implicitDefEqProofs only [go_sem, Nat.reduceBEq, Nat.reduceAdd, Nat.reduceLeDiff, Nat.reduceSub, Int.reduceEq, decide_true])
    all_goals
      refine CallE.of (c_l1width x.w) (by rintro r rfl; (repeat' first | exact trivial | exact pure_rowB _ | exact pure_rowO _ | exact pure_rowI _ | exact pure_rowBB _ | exact pure_rowPk _ _ | exact pure_rowSn _ _ | exact pure_rowFd _ _ | exact pure_rowBBB _ | exact pure_rowCl _ _ | refine And.intro ?_ ?_)) (by simp -dsimp -implicitDefEqProofs only [go_sem, Nat.reduceBEq, Nat.reduceAdd, Nat.reduceLeDiff, Nat.reduceSub, Int.reduceEq, isW_iff]) ?_
      rintro r rfl
      simp -dsimp -implicitDefEqProofs only [go_sem, Nat.reduceBEq, Nat.reduceAdd, Nat.reduceLeDiff, Nat.reduceSub, Int.reduceEq, isW_iff]
      refine fd_d ?_
      unfold fdOk
      simp only [hn, true_and]
      omega
  · simp -dsimp -implicitDefEqProofs only [go_sem, Nat.reduceBEq, Nat.reduceAdd, Nat.reduceLeDiff, Nat.reduceSub, Int.reduceEq, decide_eq_false hn]
    repeat' (first | with_reducible refine ask.of (by omega) ?_ | ((with_reducible refine fd_f ?_); exact fun h => hn h.1) | simp -dsimp -implicitDefEqProofs only [go_sem, Nat.reduceBEq, Nat.reduceAdd, Nat.reduceLeDiff, Nat.reduceSub, Int.reduceEq, decide_true])
end Go.Ev
set_option linter.unusedSimpArgs false
set_option linter.unusedVariables false
namespace Go.Ev
open Go Go.RowKit Go.Proofs
def nms (xs : List Fd) : List (List UInt8) := xs.map Fd.f
theorem nms_length (xs : List Fd) : (nms xs).length = xs.length := by simp [nms]
theorem nms_at {xs : List Fd} {i : Nat} (h : i < (nms xs).length) : (nms xs)[i] = (xs[i]'(by simpa [nms] using h)).f := by simp [nms]
theorem nms_take (xs : List Fd) (i : Nat) : nms (xs.take i) = (nms xs).take i := by simp [nms, List.map_take]
theorem nms_snoc {xs : List Fd} {i : Nat} (h : i < xs.length) : nms (xs.take i) ++ [xs[i].f] = nms (xs.take (i + 1)) := by
  rw [List.take_succ_eq_append_getElem h, nms, nms, List.map_append]; rfl
theorem nms_nodup {xs : List Fd} {i : Nat} (h : i < xs.length) : (nms (xs.take (i + 1))).Nodup ↔ (nms (xs.take i)).Nodup ∧ xs[i].f ∉ nms (xs.take i) := by
  have := nodup_take_succ (xs := nms xs) (i := i) (by rwa [nms_length])
  rw [nms_at] at this
  rw [nms_take, nms_take]; exact this
def okF (xs : List Fd) : Prop := (1 ≤ xs.length ∧ xs.length ≤ 12) ∧ (∀ x ∈ xs, fdOk x) ∧ (nms xs).Nodup
instance (xs : List Fd) : Decidable (okF xs) := by unfold okF; infer_instance
theorem okF_f {xs : List Fd} (h : ¬ okF xs) : false = decide (okF xs) := (decide_eq_false h).symm
theorem okF_dup {xs : List Fd} {i : Nat} (h : i < xs.length) (hm : xs[i].f ∈ nms (xs.take i)) : ¬ okF xs := fun h' =>
  ((nms_nodup h).1 (by rw [nms_take]; exact nodup_take h'.2.2 _)).2 hm
theorem c_sValidFields (xs : List Fd) (hx : xs.length ≤ 1048576) (hb : ∀ b ∈ xs, b.f.length ≤ 1048576) : Meets Try.prog 110 [rowFd 78 xs] (fun r => r = .v (.bool (decide (okF xs)))) := by
  refine Meets.intro mixed (hint []) Try.func110 rfl (by decide) res_110 rty_110 (by kernel_rfl) ?_; 
  simp -dsimp -implicitDefEqProofs only [go_sem, Nat.reduceBEq, Nat.reduceAdd, Nat.reduceLeDiff, Nat.reduceSub, Int.reduceEq, rowFd]
  refine ifB'.of (fun h => ?_) (fun h => ?_)
  · simp -dsimp -implicitDefEqProofs only [go_sem, Nat.reduceBEq, Nat.reduceAdd, Nat.reduceLeDiff, Nat.reduceSub, Int.reduceEq]
    exact okF_f (fun h' => by have := h'.1; omega)
  simp -dsimp -implicitDefEqProofs only [go_sem, Nat.reduceBEq, Nat.reduceAdd, Nat.reduceLeDiff, Nat.reduceSub, Int.reduceEq]
  refine ifB'.of (fun h2 => ?_) (fun h2 => ?_)
  · simp -dsimp -implicitDefEqProofs only [go_sem, Nat.reduceBEq, Nat.reduceAdd, Nat.reduceLeDiff, Nat.reduceSub, Int.reduceEq]
    exact okF_f (fun h' => by have := h'.1; omega)
  simp -dsimp -implicitDefEqProofs only [go_sem, Nat.reduceBEq, Nat.reduceAdd, Nat.reduceLeDiff, Nat.reduceSub, Int.reduceEq]
  refine LoopE.cnt xs.length (fun i s => s.env 0 = .rd .ent 78 3 (ra fdC xs) ∧ s.env 3 = .v (.int .i64 i) ∧ (∀ x ∈ xs.take i, fdOk x) ∧ (nms (xs.take i)).Nodup) ⟨by simp -dsimp -implicitDefEqProofs only [go_sem, Nat.reduceBEq, Nat.reduceAdd, Nat.reduceLeDiff, Nat.reduceSub, Int.reduceEq, initE, rowFd], by simp -dsimp -implicitDefEqProofs only [go_sem, Nat.reduceBEq, Nat.reduceAdd, Nat.reduceLeDiff, Nat.reduceSub, Int.reduceEq], by simp, by simp [nms]⟩ ?_
  rintro i ⟨e, σ⟩ hi ⟨h0, h3, ha, hnd⟩ K hK
  simp only at h0 h3
  simp -dsimp -implicitDefEqProofs only [go_sem, Nat.reduceBEq, Nat.reduceAdd, Nat.reduceLeDiff, Nat.reduceSub, Int.reduceEq, h0, h3]
  refine ifB'.of (fun hlt => ?_) (fun hlt => ?_)
  · have hlt : i < xs.length := by omega
    simp -dsimp -implicitDefEqProofs only [go_sem, Nat.reduceBEq, Nat.reduceAdd, Nat.reduceLeDiff, Nat.reduceSub, Int.reduceEq, h0, h3, Fd_at hlt, fdC]
    repeat (first | with_reducible refine ask.of (by omega) ?_ | simp -dsimp -implicitDefEqProofs only [go_sem, Nat.reduceBEq, Nat.reduceAdd, Nat.reduceLeDiff, Nat.reduceSub, Int.reduceEq, h0, h3, Fd_at hlt, fdC, bleF])
    refine CallE.of (c_l2fieldOK xs[i] (hb _ (List.getElem_mem _))) (by rintro r rfl; (repeat' first | exact trivial | exact pure_rowB _ | exact pure_rowO _ | exact pure_rowI _ | exact pure_rowBB _ | exact pure_rowPk _ _ | exact pure_rowSn _ _ | exact pure_rowFd _ _ | exact pure_rowBBB _ | exact pure_rowCl _ _ | refine And.intro ?_ ?_)) (by simp -dsimp -implicitDefEqProofs only [go_sem, Nat.reduceBEq, Nat.reduceAdd, Nat.reduceLeDiff, Nat.reduceSub, Int.reduceEq, h0, h3, fdC]) ?_
    rintro r rfl
    simp -dsimp -implicitDefEqProofs only [go_sem, Nat.reduceBEq, Nat.reduceAdd, Nat.reduceLeDiff, Nat.reduceSub, Int.reduceEq, h0, h3, fdC]
    refine ifB'.of (fun hq => ?_) (fun hq => ?_)
    · simp -dsimp -implicitDefEqProofs only [go_sem, Nat.reduceBEq, Nat.reduceAdd, Nat.reduceLeDiff, Nat.reduceSub, Int.reduceEq, h0, h3]
      refine LoopE.cnt i (fun k s => s.env 0 = .rd .ent 78 3 (ra fdC xs) ∧ s.env 3 = .v (.int .i64 i) ∧ s.env 4 = .v (.int .i64 k) ∧ xs[i].f ∉ nms (xs.take k)) ⟨by simp -dsimp -implicitDefEqProofs only [go_sem, Nat.reduceBEq, Nat.reduceAdd, Nat.reduceLeDiff, Nat.reduceSub, Int.reduceEq, h0, h3], by simp -dsimp -implicitDefEqProofs only [go_sem, Nat.reduceBEq, Nat.reduceAdd, Nat.reduceLeDiff, Nat.reduceSub, Int.reduceEq, h0, h3], by simp -dsimp -implicitDefEqProofs only [go_sem, Nat.reduceBEq, Nat.reduceAdd, Nat.reduceLeDiff, Nat.reduceSub, Int.reduceEq, h0, h3], by simp [nms]⟩ ?_
      rintro k ⟨e, σ⟩ hki ⟨h0, h3, h4, hn⟩ K' hK'
      simp only at h0 h3 h4
      simp -dsimp -implicitDefEqProofs only [go_sem, Nat.reduceBEq, Nat.reduceAdd, Nat.reduceLeDiff, Nat.reduceSub, Int.reduceEq, h0, h3, h4]
      refine ifB'.of (fun hkl => ?_) (fun hkl => ?_)
      · have hkl : k < i := by omega
        have hkx : k < xs.length := by omega
        simp -dsimp -implicitDefEqProofs only [go_sem, Nat.reduceBEq, Nat.reduceAdd, Nat.reduceLeDiff, Nat.reduceSub, Int.reduceEq, h0, h3, h4, Fd_at hlt, Fd_at hkx, fdC]
        repeat (first | with_reducible refine ask.of (by omega) ?_ | simp -dsimp -implicitDefEqProofs only [go_sem, Nat.reduceBEq, Nat.reduceAdd, Nat.reduceLeDiff, Nat.reduceSub, Int.reduceEq, h0, h3, h4, Fd_at hlt, Fd_at hkx, fdC, bleF])
        refine CallE.of (c_l1same xs[k].f xs[i].f (by have := hb _ (List.getElem_mem hkx); omega) (by have := hb _ (List.getElem_mem hlt); omega)) (by rintro r rfl; (repeat' first | exact trivial | exact pure_rowB _ | exact pure_rowO _ | exact pure_rowI _ | exact pure_rowBB _ | exact pure_rowPk _ _ | exact pure_rowSn _ _ | exact pure_rowFd _ _ | exact pure_rowBBB _ | exact pure_rowCl _ _ | refine And.intro ?_ ?_)) (by simp -dsimp -implicitDefEqProofs only [go_sem, Nat.reduceBEq, Nat.reduceAdd, Nat.reduceLeDiff, Nat.reduceSub, Int.reduceEq, h0, h3, h4]) ?_
        rintro r rfl
        simp -dsimp -implicitDefEqProofs only [go_sem, Nat.reduceBEq, Nat.reduceAdd, Nat.reduceLeDiff, Nat.reduceSub, Int.reduceEq, h0, h3, h4]
        refine ifB'.of (fun hs => ?_) (fun hs => ?_)
        · simp -dsimp -implicitDefEqProofs only [go_sem, Nat.reduceBEq, Nat.reduceAdd, Nat.reduceLeDiff, Nat.reduceSub, Int.reduceEq, h0, h3, h4]
          refine okF_f (okF_dup hlt ?_)
          rw [← hs]
          exact List.mem_map_of_mem (List.mem_take_iff_getElem.2 ⟨k, by omega, rfl⟩)
        · simp -dsimp -implicitDefEqProofs only [go_sem, Nat.reduceBEq, Nat.reduceAdd, Nat.reduceLeDiff, Nat.reduceSub, Int.reduceEq, h0, h3, h4]
          refine hK' _ hkl ?_
          simp -dsimp -implicitDefEqProofs only [go_sem, Nat.reduceBEq, Nat.reduceAdd, Nat.reduceLeDiff, Nat.reduceSub, Int.reduceEq, h0, h3, h4, wrap_succ (show k < 4611686018427387904 by omega)]
          rw [← nms_snoc hkx]
          simp only [List.mem_append, List.mem_singleton, not_or]
          exact ⟨hn, fun h => hs h.symm⟩
      · have : k = i := by omega
        subst this
        simp -dsimp -implicitDefEqProofs only [go_sem, Nat.reduceBEq, Nat.reduceAdd, Nat.reduceLeDiff, Nat.reduceSub, Int.reduceEq, h0, h3, h4]
        refine hK _ hlt ?_
        simp -dsimp -implicitDefEqProofs only [go_sem, Nat.reduceBEq, Nat.reduceAdd, Nat.reduceLeDiff, Nat.reduceSub, Int.reduceEq, h0, h3, h4, wrap_succ (show k < 4611686018427387904 by omega)]
        exact ⟨all_take_succ hlt ha hq, (nms_nodup hlt).2 ⟨hnd, hn⟩⟩
    · simp -dsimp -implicitDefEqProofs only [go_sem, Nat.reduceBEq, Nat.reduceAdd, Nat.reduceLeDiff, Nat.reduceSub, Int.reduceEq, h0, h3]
      exact okF_f (fun h' => hq (h'.2.1 _ (List.getElem_mem _)))
  · have : i = xs.length := by omega
    subst this
    simp -dsimp -implicitDefEqProofs only [go_sem, Nat.reduceBEq, Nat.reduceAdd, Nat.reduceLeDiff, Nat.reduceSub, Int.reduceEq, h0, h3]
    rw [List.take_length] at ha hnd
    exact (decide_eq_true (show okF xs from ⟨⟨by omega, by omega⟩, ha, hnd⟩)).symm
theorem c_iValidFields (xs : List Fd) (hx : xs.length ≤ 1048576) (hb : ∀ b ∈ xs, b.f.length ≤ 1048576) : Meets Try.prog 114 [rowFd 78 xs] (fun r => r = .v (.bool (decide (okF xs)))) := by
  refine Meets.intro mixed (hint []) Try.func114 rfl (by decide) res_114 rty_114 (by kernel_rfl) ?_; 
  simp -dsimp -implicitDefEqProofs only [go_sem, Nat.reduceBEq, Nat.reduceAdd, Nat.reduceLeDiff, Nat.reduceSub, Int.reduceEq, rowFd]
  refine ifB'.of (fun h => ?_) (fun h => ?_)
  · simp -dsimp -implicitDefEqProofs only [go_sem, Nat.reduceBEq, Nat.reduceAdd, Nat.reduceLeDiff, Nat.reduceSub, Int.reduceEq]
    exact okF_f (fun h' => by have := h'.1; omega)
  simp -dsimp -implicitDefEqProofs only [go_sem, Nat.reduceBEq, Nat.reduceAdd, Nat.reduceLeDiff, Nat.reduceSub, Int.reduceEq]
  refine ifB'.of (fun h2 => ?_) (fun h2 => ?_)
  · simp -dsimp -implicitDefEqProofs only [go_sem, Nat.reduceBEq, Nat.reduceAdd, Nat.reduceLeDiff, Nat.reduceSub, Int.reduceEq]
    exact okF_f (fun h' => by have := h'.1; omega)
  simp -dsimp -implicitDefEqProofs only [go_sem, Nat.reduceBEq, Nat.reduceAdd, Nat.reduceLeDiff, Nat.reduceSub, Int.reduceEq]
  refine LoopE.cnt xs.length (fun i s => s.env 17 = .rd .ent 78 3 (ra fdC xs) ∧ s.env 18 = .v (.int .i64 xs.length) ∧ s.env 19 = .v (.int .i64 i) ∧ s.env 3 = .ref [16] ∧ s.σ [16] = some (.mp .string 3 (mpS (ixP (nms (xs.take i))))) ∧ (∀ x ∈ xs.take i, fdOk x) ∧ (nms (xs.take i)).Nodup) ⟨by simp -dsimp -implicitDefEqProofs only [go_sem, Nat.reduceBEq, Nat.reduceAdd, Nat.reduceLeDiff, Nat.reduceSub, Int.reduceEq, initE, rowFd], by simp -dsimp -implicitDefEqProofs only [go_sem, Nat.reduceBEq, Nat.reduceAdd, Nat.reduceLeDiff, Nat.reduceSub, Int.reduceEq, initE, rowFd], by simp -dsimp -implicitDefEqProofs only [go_sem, Nat.reduceBEq, Nat.reduceAdd, Nat.reduceLeDiff, Nat.reduceSub, Int.reduceEq], by simp -dsimp -implicitDefEqProofs only [go_sem, Nat.reduceBEq, Nat.reduceAdd, Nat.reduceLeDiff, Nat.reduceSub, Int.reduceEq], by simp -dsimp -implicitDefEqProofs only [go_sem, Nat.reduceBEq, Nat.reduceAdd, Nat.reduceLeDiff, Nat.reduceSub, Int.reduceEq] <;> rfl, by simp, by simp [nms]⟩ ?_
  rintro i ⟨e, σ⟩ hi ⟨h17, h18, h19, h3, hs, ha, hnd⟩ K hK
  simp only at h17 h18 h19 h3 hs
  simp -dsimp -implicitDefEqProofs only [go_sem, Nat.reduceBEq, Nat.reduceAdd, Nat.reduceLeDiff, Nat.reduceSub, Int.reduceEq, h17, h18, h19, h3, hs]
  refine ifB'.of (fun hlt => ?_) (fun hlt => ?_)
  · have hlt : i < xs.length := by omega
    simp -dsimp -implicitDefEqProofs only [go_sem, Nat.reduceBEq, Nat.reduceAdd, Nat.reduceLeDiff, Nat.reduceSub, Int.reduceEq, h17, h18, h19, h3, hs, Fd_at hlt, fdC]
    repeat (first | with_reducible refine ask.of (by omega) ?_ | simp -dsimp -implicitDefEqProofs only [go_sem, Nat.reduceBEq, Nat.reduceAdd, Nat.reduceLeDiff, Nat.reduceSub, Int.reduceEq, h17, h18, h19, h3, hs, Fd_at hlt, fdC, bleF, ixP_has])
    refine ifB'.of (fun hq => ?_) (fun hq => ?_)
    · simp -dsimp -implicitDefEqProofs only [go_sem, Nat.reduceBEq, Nat.reduceAdd, Nat.reduceLeDiff, Nat.reduceSub, Int.reduceEq, h17, h18, h19, h3, hs]
      exact okF_f (okF_dup hlt hq)
    · simp -dsimp -implicitDefEqProofs only [go_sem, Nat.reduceBEq, Nat.reduceAdd, Nat.reduceLeDiff, Nat.reduceSub, Int.reduceEq, h17, h18, h19, h3, hs]
      repeat (first | with_reducible refine ask.of (by omega) ?_ | simp -dsimp -implicitDefEqProofs only [go_sem, Nat.reduceBEq, Nat.reduceAdd, Nat.reduceLeDiff, Nat.reduceSub, Int.reduceEq, h17, h18, h19, h3, hs, Fd_at hlt, fdC, bleF, ixP_has])
      refine CallE.of (c_fieldOk xs[i] (hb _ (List.getElem_mem _))) (by rintro r rfl; (repeat' first | exact trivial | exact pure_rowB _ | exact pure_rowO _ | exact pure_rowI _ | exact pure_rowBB _ | exact pure_rowPk _ _ | exact pure_rowSn _ _ | exact pure_rowFd _ _ | exact pure_rowBBB _ | exact pure_rowCl _ _ | refine And.intro ?_ ?_)) (by simp -dsimp -implicitDefEqProofs only [go_sem, Nat.reduceBEq, Nat.reduceAdd, Nat.reduceLeDiff, Nat.reduceSub, Int.reduceEq, h17, h18, h19, h3, hs, fdC]) ?_
      rintro r rfl
      simp -dsimp -implicitDefEqProofs only [go_sem, Nat.reduceBEq, Nat.reduceAdd, Nat.reduceLeDiff, Nat.reduceSub, Int.reduceEq, h17, h18, h19, h3, hs, fdC]
      refine ifB'.of (fun hq2 => ?_) (fun hq2 => ?_)
      · simp -dsimp -implicitDefEqProofs only [go_sem, Nat.reduceBEq, Nat.reduceAdd, Nat.reduceLeDiff, Nat.reduceSub, Int.reduceEq, h17, h18, h19, h3, hs]
        have hp := ixP_put hq
        rw [nms_length, show (xs.take i).length = i by simp; omega, nms_snoc hlt] at hp
        repeat (first | with_reducible refine ask.of (by omega) ?_ | simp -dsimp -implicitDefEqProofs only [go_sem, Nat.reduceBEq, Nat.reduceAdd, Nat.reduceLeDiff, Nat.reduceSub, Int.reduceEq, h17, h18, h19, h3, hs, Fd_at hlt, fdC, bleF, hp])
        refine hK _ hlt ?_
        simp -dsimp -implicitDefEqProofs only [go_sem, Nat.reduceBEq, Nat.reduceAdd, Nat.reduceLeDiff, Nat.reduceSub, Int.reduceEq, h17, h18, h19, h3, hs, wrap_succ (show i < 4611686018427387904 by omega)]
        exact ⟨all_take_succ hlt ha hq2, (nms_nodup hlt).2 ⟨hnd, hq⟩⟩
      · simp -dsimp -implicitDefEqProofs only [go_sem, Nat.reduceBEq, Nat.reduceAdd, Nat.reduceLeDiff, Nat.reduceSub, Int.reduceEq, h17, h18, h19, h3, hs]
        exact okF_f (fun h' => hq2 (h'.2.1 _ (List.getElem_mem _)))
  · have : i = xs.length := by omega
    subst this
    simp -dsimp -implicitDefEqProofs only [go_sem, Nat.reduceBEq, Nat.reduceAdd, Nat.reduceLeDiff, Nat.reduceSub, Int.reduceEq, h17, h18, h19, h3, hs]
    rw [List.take_length] at ha hnd
    exact (decide_eq_true (show okF xs from ⟨⟨by omega, by omega⟩, ha, hnd⟩)).symm
end Go.Ev
set_option linter.unusedSimpArgs false
set_option linter.unusedVariables false
namespace Go.Ev
open Go Go.RowKit Go.Proofs
def fitsB (w : Nat) (x : Int) : Bool := decide (w = 8 ∨ (-(2 ^ (8 * w - 1) : Int) ≤ x ∧ x < 2 ^ (8 * w - 1)))
def uN (x : Int) : Nat := (x % 18446744073709551616).toNat
def leB (w : Nat) (x : Int) : List UInt8 := (List.range w).map fun j => UInt8.ofNat (uN x / 256 ^ j % 256)
theorem leB_length (w : Nat) (x : Int) : (leB w x).length = w := by simp [leB]
theorem leB_succ (w : Nat) (x : Int) : leB w x ++ [UInt8.ofNat (uN x / 256 ^ w % 256)] = leB (w + 1) x := by simp [leB, List.range_succ]
def packI (xs : List Int) (w : Nat) : List UInt8 := xs.flatMap (leB w)
theorem packI_length (xs : List Int) (w : Nat) : (packI xs w).length = w * xs.length := by
  induction xs with
  | nil => rfl
  | cons x xs ih => rw [packI, List.flatMap_cons, List.length_append, leB_length, List.length_cons, Nat.mul_add, ← ih]; simp [packI]; omega
theorem packI_succ {xs : List Int} (w : Nat) {i : Nat} (h : i < xs.length) : packI (xs.take i) w ++ leB w xs[i] = packI (xs.take (i + 1)) w := by
  rw [List.take_add_one, List.getElem?_eq_getElem h, packI, packI, List.flatMap_append]
  simp
theorem all_succ {xs : List Int} (w : Nat) {i : Nat} (h : i < xs.length) (h1 : (xs.take i).all (fitsB w) = true) (h2 : fitsB w xs[i] = true) : (xs.take (i + 1)).all (fitsB w) = true := by
  rw [List.take_add_one, List.getElem?_eq_getElem h, List.all_append, h1]
  simpa using h2
theorem all_not {xs : List Int} (w : Nat) {i : Nat} (h : i < xs.length) (h2 : fitsB w xs[i] = false) : xs.all (fitsB w) = false := by
  rw [List.all_eq_false]
  exact ⟨xs[i], List.getElem_mem h, by rw [h2]; decide⟩
def packIC (xs : List Int) (n : Int) : List UInt8 × Nat :=
  if isW n = true then (if xs.all (fitsB n.toNat) = true then (packI xs n.toNat, 0) else ([], 1)) else ([], 1)
theorem sh_f {w : Nat} (h : w = 1 ∨ w = 2 ∨ w = 4) : IntKind.i64.wrap (1 * 2 ^ min (IntKind.u64.wrap (IntKind.i64.wrap (IntKind.i64.wrap (8 * (w : Int)) - 1))).toNat 64) = 2 ^ (8 * w - 1) := by
  rcases h with rfl | rfl | rfl <;> decide
theorem ng_f {w : Nat} (h : w = 1 ∨ w = 2 ∨ w = 4) : IntKind.i64.wrap (0 - (2 ^ (8 * w - 1) : Int)) = -(2 ^ (8 * w - 1) : Int) := by
  rcases h with rfl | rfl | rfl <;> decide
theorem c_l1fits (x : Int) (w : Nat) (hw : w = 1 ∨ w = 2 ∨ w = 4 ∨ w = 8) : Meets Try.prog 185 [.v (.int .i64 x), .v (.int .i64 w)] (fun r => r = .v (.bool (fitsB w x))) := by
  refine Meets.intro mixed (hint []) Try.func185 rfl (by decide) res_185 rty_185 (by kernel_rfl) ?_; 
  simp -dsimp -implicitDefEqProofs only [go_sem, Nat.reduceBEq, Nat.reduceAdd, Nat.reduceLeDiff, Nat.reduceSub, Int.reduceEq]
  refine ifB'.of (fun h8 => ?_) (fun h8 => ?_)
  · obtain rfl : w = 8 := by omega
    simp -dsimp -implicitDefEqProofs only [go_sem, Nat.reduceBEq, Nat.reduceAdd, Nat.reduceLeDiff, Nat.reduceSub, Int.reduceEq, show fitsB 8 x = true from rfl]
  have hw : w = 1 ∨ w = 2 ∨ w = 4 := by omega
  have e : fitsB w x = (decide (-(2 ^ (8 * w - 1) : Int) ≤ x) && decide (x < 2 ^ (8 * w - 1))) := by
    unfold fitsB
    rw [← Bool.decide_and]
    exact decide_eq_decide.2 ⟨fun h => h.resolve_left (by omega), .inr⟩
  simp -dsimp -implicitDefEqProofs only [go_sem, Nat.reduceBEq, Nat.reduceAdd, Nat.reduceLeDiff, Nat.reduceSub, Int.reduceEq, sh_f hw, ng_f hw, e]
  refine ifB'.of (fun h1 => ?_) (fun h1 => ?_)
  · simp -dsimp -implicitDefEqProofs only [go_sem, Nat.reduceBEq, Nat.reduceAdd, Nat.reduceLeDiff, Nat.reduceSub, Int.reduceEq, sh_f hw, decide_eq_true h1, Bool.true_and]
  · simp -dsimp -implicitDefEqProofs only [go_sem, Nat.reduceBEq, Nat.reduceAdd, Nat.reduceLeDiff, Nat.reduceSub, Int.reduceEq, decide_eq_false h1, Bool.false_and]
end Go.Ev
