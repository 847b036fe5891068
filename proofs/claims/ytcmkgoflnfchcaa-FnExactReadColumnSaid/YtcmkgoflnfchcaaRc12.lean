/- Part 12 of what the row leans on: the evaluator, words, contracts of functions; pruned by a program of ours. -/
import Derived.Test.YtcmkgoflnfchcaaRc11
import Derived.Test.YtcmkgoflnfchcaaProg
import Derived.KernelRfl
namespace Go.Ev
open Go Go.Proofs
theorem mixed : Try.prog.follows .mixedOrders = true := by kernel_rfl
theorem elTy_22 : elTy Try.prog 22 = some (5, 1, 1) := by kernel_rfl
theorem cty_22 : cty Try.prog 22 = [some (5, 1)] := by kernel_rfl
theorem tySz_3 : tySz Try.prog 3 = some (1, false) := by kernel_rfl
theorem elTy_28 : elTy Try.prog 28 = some (3, 1, 8) := by kernel_rfl
theorem zeroC_3 : zeroC Try.prog 3 = some [.v (.int .i64 0)] := by kernel_rfl
theorem cty_3 : cty Try.prog 3 = [none] := by kernel_rfl
theorem ixTy_28 : ixTy Try.prog 28 = some (.sl (3, 1, 8)) := by kernel_rfl
theorem elTy_29 : elTy Try.prog 29 = some (22, 1, 24) := by kernel_rfl
theorem ixTy_29 : ixTy Try.prog 29 = some (.sl (22, 1, 24)) := by kernel_rfl
theorem tySz_22 : tySz Try.prog 22 = some (1, false) := by kernel_rfl
theorem cty_4 : cty Try.prog 4 = [none] := by kernel_rfl
theorem tySz_29 : tySz Try.prog 29 = some (1, false) := by kernel_rfl
theorem cty_29 : cty Try.prog 29 = [some (22, 1)] := by kernel_rfl
theorem zeroC_5 : zeroC Try.prog 5 = some [.v (.int .u8 0)] := by kernel_rfl
theorem cty_5 : cty Try.prog 5 = [none] := by kernel_rfl
theorem cvTy_3_5 : cvTy Try.prog 3 5 = some (.int .u8) := by kernel_rfl
theorem zeroC_22 : zeroC Try.prog 22 = some [.v (.slice none 0 0)] := by kernel_rfl
theorem par_40 : parTys Try.prog 40 = [29, 29] := by kernel_rfl
theorem par_44 : parTys Try.prog 44 = [29, 3] := by kernel_rfl
theorem cty_74 : cty Try.prog 74 = [some (145, 3)] := by kernel_rfl
theorem zeroC_84 : zeroC Try.prog 84 = some [.v (.slice none 0 0), .v (.int .i64 0), .v (.int .i64 0)] := by kernel_rfl
theorem tySz_84 : tySz Try.prog 84 = some (3, true) := by kernel_rfl
theorem par_51 : parTys Try.prog 51 = [84, 74, 29] := by kernel_rfl
theorem cty_84 : cty Try.prog 84 = [some (5, 1), none, none] := by kernel_rfl
theorem elTy_74 : elTy Try.prog 74 = some (145, 3, 40) := by kernel_rfl
theorem par_52 : parTys Try.prog 52 = [84, 3, 29, 29] := by kernel_rfl
theorem par_55 : parTys Try.prog 55 = [84, 74, 29] := by kernel_rfl
theorem tySz_92 : tySz Try.prog 92 = some (3, true) := by kernel_rfl
theorem par_56 : parTys Try.prog 56 = [92, 3] := by kernel_rfl
theorem cty_92 : cty Try.prog 92 = [some (5, 1), none, none] := by kernel_rfl
theorem par_57 : parTys Try.prog 57 = [29, 3] := by kernel_rfl
theorem par_59 : parTys Try.prog 59 = [92] := by kernel_rfl
theorem par_60 : parTys Try.prog 60 = [29] := by kernel_rfl
theorem par_58 : parTys Try.prog 58 = [84, 3, 29, 29] := by kernel_rfl
theorem par_61 : parTys Try.prog 61 = [74, 74] := by kernel_rfl
theorem par_62 : parTys Try.prog 62 = [84, 84] := by kernel_rfl
theorem par_63 : parTys Try.prog 63 = [84, 3] := by kernel_rfl
theorem par_64 : parTys Try.prog 64 = [74, 3] := by kernel_rfl
theorem par_65 : parTys Try.prog 65 = [74, 3] := by kernel_rfl
theorem ixTy_22 : ixTy Try.prog 22 = some (.sl (5, 1, 1)) := by kernel_rfl
theorem tySz_5 : tySz Try.prog 5 = some (1, false) := by kernel_rfl
theorem cvTy_5_3 : cvTy Try.prog 5 3 = some (.int .i64) := by kernel_rfl
theorem par_72 : parTys Try.prog 72 = [22] := by kernel_rfl
theorem par_73 : parTys Try.prog 73 = [22] := by kernel_rfl
theorem par_74 : parTys Try.prog 74 = [22, 22] := by kernel_rfl
theorem cvTy_3_116 : cvTy Try.prog 3 116 = some (.int .u64) := by kernel_rfl
theorem par_86 : parTys Try.prog 86 = [22] := by kernel_rfl
theorem par_88 : parTys Try.prog 88 = [22] := by kernel_rfl
theorem par_89 : parTys Try.prog 89 = [22, 22] := by kernel_rfl
theorem tySz_4 : tySz Try.prog 4 = some (1, false) := by kernel_rfl
theorem par_91 : parTys Try.prog 91 = [3, 3] := by kernel_rfl
theorem boolTy_4 : boolTy Try.prog 4 = some () := by kernel_rfl
theorem par_104 : parTys Try.prog 104 = [22, 3] := by kernel_rfl
theorem par_108 : parTys Try.prog 108 = [22] := by kernel_rfl
theorem par_110 : parTys Try.prog 110 = [22, 22] := by kernel_rfl
theorem par_112 : parTys Try.prog 112 = [22, 3] := by kernel_rfl
theorem par_114 : parTys Try.prog 114 = [22, 3] := by kernel_rfl
theorem bldTy_145 : bldTy Try.prog 145 = some (.st [(0, 1), (1, 1), (2, 1)]) := by kernel_rfl
theorem zeroC_145 : zeroC Try.prog 145 = some [.v (.bool false), .v (.int .i64 0), .v (.slice none 0 0)] := by kernel_rfl
theorem cty_145 : cty Try.prog 145 = [none, none, some (5, 1)] := by kernel_rfl
theorem ixTy_74 : ixTy Try.prog 74 = some (.sl (145, 3, 40)) := by kernel_rfl
theorem fldTy_145_1 : fldTy Try.prog 145 1 = some (1, 1, false) := by kernel_rfl
theorem fldTy_145_0 : fldTy Try.prog 145 0 = some (0, 1, false) := by kernel_rfl
theorem fldTy_145_2 : fldTy Try.prog 145 2 = some (2, 1, false) := by kernel_rfl
theorem par_118 : parTys Try.prog 118 = [29] := by kernel_rfl
theorem par_119 : parTys Try.prog 119 = [84, 74] := by kernel_rfl
theorem par_121 : parTys Try.prog 121 = [29, 22] := by kernel_rfl
theorem par_124 : parTys Try.prog 124 = [29] := by kernel_rfl
theorem mapTy_156 : mapTy Try.prog 156 = some (.string, 3) := by kernel_rfl
theorem cvTy_22_9 : cvTy Try.prog 22 9 = some .bytes := by kernel_rfl
theorem tySz_145 : tySz Try.prog 145 = some (3, true) := by kernel_rfl
theorem zeroV_3 : zeroV Try.prog 3 = some (.int .i64 0) := by kernel_rfl
theorem par_131 : parTys Try.prog 131 = [84] := by kernel_rfl
theorem elTy_160 : elTy Try.prog 160 = some (4, 1, 1) := by kernel_rfl
theorem zeroC_4 : zeroC Try.prog 4 = some [.v (.bool false)] := by kernel_rfl
theorem par_127 : parTys Try.prog 127 = [84, 145] := by kernel_rfl
theorem par_132 : parTys Try.prog 132 = [160, 4] := by kernel_rfl
theorem cty_160 : cty Try.prog 160 = [some (4, 1)] := by kernel_rfl
theorem par_133 : parTys Try.prog 133 = [160] := by kernel_rfl
theorem par_134 : parTys Try.prog 134 = [84, 29] := by kernel_rfl
theorem par_135 : parTys Try.prog 135 = [22, 3] := by kernel_rfl
theorem ixTy_160 : ixTy Try.prog 160 = some (.sl (4, 1, 1)) := by kernel_rfl
theorem fldTy_84_1 : fldTy Try.prog 84 1 = some (1, 1, false) := by kernel_rfl
theorem par_136 : parTys Try.prog 136 = [29, 29, 41] := by kernel_rfl
theorem cty_41 : cty Try.prog 41 = [none] := by kernel_rfl
theorem fldTy_84_2 : fldTy Try.prog 84 2 = some (2, 1, false) := by kernel_rfl
theorem par_137 : parTys Try.prog 137 = [74] := by kernel_rfl
theorem par_138 : parTys Try.prog 138 = [160] := by kernel_rfl
theorem par_139 : parTys Try.prog 139 = [29] := by kernel_rfl
theorem par_140 : parTys Try.prog 140 = [28, 3] := by kernel_rfl
theorem cty_28 : cty Try.prog 28 = [some (3, 1)] := by kernel_rfl
theorem fldTy_92_0 : fldTy Try.prog 92 0 = some (0, 1, false) := by kernel_rfl
theorem par_141 : parTys Try.prog 141 = [84] := by kernel_rfl
theorem par_142 : parTys Try.prog 142 = [22, 3] := by kernel_rfl
theorem par_143 : parTys Try.prog 143 = [22, 3] := by kernel_rfl
theorem par_144 : parTys Try.prog 144 = [22, 22, 3] := by kernel_rfl
theorem fldTy_84_0 : fldTy Try.prog 84 0 = some (0, 1, false) := by kernel_rfl
theorem fldTy_92_1 : fldTy Try.prog 92 1 = some (1, 1, false) := by kernel_rfl
theorem fldTy_92_2 : fldTy Try.prog 92 2 = some (2, 1, false) := by kernel_rfl
theorem par_145 : parTys Try.prog 145 = [145, 145] := by kernel_rfl
theorem cvTy_5_2 : cvTy Try.prog 5 2 = some (.int .i64) := by kernel_rfl
theorem cty_2 : cty Try.prog 2 = [none] := by kernel_rfl
theorem cvTy_3_181 : cvTy Try.prog 3 181 = some (.int .u64) := by kernel_rfl
theorem cvTy_181_5 : cvTy Try.prog 181 5 = some (.int .u8) := by kernel_rfl
theorem par_159 : parTys Try.prog 159 = [84, 145] := by kernel_rfl
theorem par_161 : parTys Try.prog 161 = [28, 3] := by kernel_rfl
theorem par_163 : parTys Try.prog 163 = [22] := by kernel_rfl
theorem par_164 : parTys Try.prog 164 = [160, 4] := by kernel_rfl
theorem bldTy_195 : bldTy Try.prog 195 = some (.st []) := by kernel_rfl
theorem zeroC_195 : zeroC Try.prog 195 = some [] := by kernel_rfl
theorem ifcTy_195 : ifcTy Try.prog 195 = some () := by kernel_rfl
theorem methF_195_211 : methF Try.prog 195 "loop.example/s01316/impl.build" = some 211 := by kernel_rfl
theorem methF_195_212 : methF Try.prog 195 "loop.example/s01316/impl.parts" = some 212 := by kernel_rfl
theorem methF_195_213 : methF Try.prog 195 "loop.example/s01316/impl.read" = some 213 := by kernel_rfl
theorem bldTy_197 : bldTy Try.prog 197 = some (.st [(0, 1)]) := by kernel_rfl
theorem zeroC_197 : zeroC Try.prog 197 = some [.v (.int .i64 0)] := by kernel_rfl
theorem ifcTy_197 : ifcTy Try.prog 197 = some () := by kernel_rfl
theorem methF_197_214 : methF Try.prog 197 "loop.example/s01316/impl.build" = some 214 := by kernel_rfl
theorem methF_197_215 : methF Try.prog 197 "loop.example/s01316/impl.parts" = some 215 := by kernel_rfl
theorem methF_197_216 : methF Try.prog 197 "loop.example/s01316/impl.read" = some 216 := by kernel_rfl
theorem bldTy_200 : bldTy Try.prog 200 = some (.st [(0, 0)]) := by kernel_rfl
theorem zeroC_200 : zeroC Try.prog 200 = some [] := by kernel_rfl
theorem ifcTy_200 : ifcTy Try.prog 200 = some () := by kernel_rfl
theorem methF_200_223 : methF Try.prog 200 "loop.example/s01316/impl.build" = some 223 := by kernel_rfl
theorem methF_200_224 : methF Try.prog 200 "loop.example/s01316/impl.parts" = some 224 := by kernel_rfl
theorem methF_200_225 : methF Try.prog 200 "loop.example/s01316/impl.read" = some 225 := by kernel_rfl
theorem bldTy_202 : bldTy Try.prog 202 = some (.st [(0, 1)]) := by kernel_rfl
theorem zeroC_202 : zeroC Try.prog 202 = some [.v (.slice none 0 0)] := by kernel_rfl
theorem ifcTy_202 : ifcTy Try.prog 202 = some () := by kernel_rfl
theorem methF_202_227 : methF Try.prog 202 "loop.example/s01316/impl.build" = some 227 := by kernel_rfl
theorem methF_202_228 : methF Try.prog 202 "loop.example/s01316/impl.parts" = some 228 := by kernel_rfl
theorem methF_202_229 : methF Try.prog 202 "loop.example/s01316/impl.read" = some 229 := by kernel_rfl
theorem cty_164 : cty Try.prog 164 = [none] := by kernel_rfl
theorem par_165 : parTys Try.prog 165 = [3] := by kernel_rfl
theorem par_166 : parTys Try.prog 166 = [3, 3] := by kernel_rfl
theorem par_167 : parTys Try.prog 167 = [22] := by kernel_rfl
theorem par_184 : parTys Try.prog 184 = [28, 3] := by kernel_rfl
theorem par_185 : parTys Try.prog 185 = [28, 3] := by kernel_rfl
theorem par_186 : parTys Try.prog 186 = [28, 3] := by kernel_rfl
theorem par_187 : parTys Try.prog 187 = [28, 3] := by kernel_rfl
theorem cvTy_3_216 : cvTy Try.prog 3 216 = some (.int .i8) := by kernel_rfl
theorem cvTy_216_3 : cvTy Try.prog 216 3 = some (.int .i64) := by kernel_rfl
theorem cvTy_3_217 : cvTy Try.prog 3 217 = some (.int .i16) := by kernel_rfl
theorem cvTy_217_3 : cvTy Try.prog 217 3 = some (.int .i64) := by kernel_rfl
theorem cvTy_3_21 : cvTy Try.prog 3 21 = some (.int .i32) := by kernel_rfl
theorem cvTy_21_3 : cvTy Try.prog 21 3 = some (.int .i64) := by kernel_rfl
theorem tySz_195 : tySz Try.prog 195 = some (0, true) := by kernel_rfl
theorem tySz_197 : tySz Try.prog 197 = some (1, true) := by kernel_rfl
theorem fldTy_197_0 : fldTy Try.prog 197 0 = some (0, 1, false) := by kernel_rfl
theorem par_217 : parTys Try.prog 217 = [22, 3] := by kernel_rfl
theorem par_218 : parTys Try.prog 218 = [22, 3] := by kernel_rfl
theorem par_219 : parTys Try.prog 219 = [22, 3] := by kernel_rfl
theorem par_220 : parTys Try.prog 220 = [22, 3] := by kernel_rfl
theorem par_221 : parTys Try.prog 221 = [22, 3] := by kernel_rfl
theorem cvTy_2_216 : cvTy Try.prog 2 216 = some (.int .i8) := by kernel_rfl
theorem cvTy_2_217 : cvTy Try.prog 2 217 = some (.int .i16) := by kernel_rfl
theorem cvTy_2_21 : cvTy Try.prog 2 21 = some (.int .i32) := by kernel_rfl
theorem tySz_198 : tySz Try.prog 198 = some (0, true) := by kernel_rfl
theorem tySz_200 : tySz Try.prog 200 = some (0, true) := by kernel_rfl
theorem zeroFld_200_0 : zeroFld Try.prog 200 0 = some () := by kernel_rfl
theorem par_222 : parTys Try.prog 222 = [198, 74] := by kernel_rfl
theorem cty_198 : cty Try.prog 198 = [] := by kernel_rfl
theorem par_226 : parTys Try.prog 226 = [198, 28, 22] := by kernel_rfl
theorem tySz_202 : tySz Try.prog 202 = some (1, true) := by kernel_rfl
theorem fldTy_202_0 : fldTy Try.prog 202 0 = some (0, 1, false) := by kernel_rfl
theorem par_230 : parTys Try.prog 230 = [29, 22] := by kernel_rfl
theorem par_231 : parTys Try.prog 231 = [29, 89] := by kernel_rfl
theorem cty_89 : cty Try.prog 89 = [none] := by kernel_rfl
theorem res_9 : Try.f9.results.toList = [.tmp 8] := rfl
theorem rty_9 : Try.f9.resultTypes.toList = [4] := rfl
theorem res_40 : Try.f40.results.toList = [.tmp 4] := rfl
theorem rty_40 : Try.f40.resultTypes.toList = [4] := rfl
theorem res_44 : Try.f44.results.toList = [.tmp 4] := rfl
theorem rty_44 : Try.f44.resultTypes.toList = [3] := rfl
theorem res_51 : Try.f51.results.toList = [.tmp 6, .tmp 7] := rfl
theorem rty_51 : Try.f51.resultTypes.toList = [29, 3] := rfl
theorem res_52 : Try.f52.results.toList = [.tmp 8, .tmp 9] := rfl
theorem rty_52 : Try.f52.resultTypes.toList = [74, 3] := rfl
theorem res_55 : Try.f55.results.toList = [.tmp 6, .tmp 7] := rfl
theorem rty_55 : Try.f55.resultTypes.toList = [29, 3] := rfl
theorem res_56 : Try.f56.results.toList = [.tmp 4] := rfl
theorem rty_56 : Try.f56.resultTypes.toList = [3] := rfl
theorem res_57 : Try.f57.results.toList = [.tmp 4] := rfl
theorem rty_57 : Try.f57.resultTypes.toList = [3] := rfl
theorem res_58 : Try.f58.results.toList = [.tmp 8, .tmp 9] := rfl
theorem rty_58 : Try.f58.resultTypes.toList = [74, 3] := rfl
theorem res_59 : Try.f59.results.toList = [.cell 2 84] := rfl
theorem rty_59 : Try.f59.resultTypes.toList = [84] := rfl
theorem res_60 : Try.f60.results.toList = [.tmp 2] := rfl
theorem rty_60 : Try.f60.resultTypes.toList = [29] := rfl
theorem res_61 : Try.f61.results.toList = [.tmp 4] := rfl
theorem rty_61 : Try.f61.resultTypes.toList = [4] := rfl
theorem res_62 : Try.f62.results.toList = [.tmp 4] := rfl
theorem rty_62 : Try.f62.resultTypes.toList = [4] := rfl
theorem res_63 : Try.f63.results.toList = [.tmp 4] := rfl
theorem rty_63 : Try.f63.resultTypes.toList = [3] := rfl
theorem res_64 : Try.f64.results.toList = [.tmp 4] := rfl
theorem rty_64 : Try.f64.resultTypes.toList = [3] := rfl
theorem res_65 : Try.f65.results.toList = [.tmp 4] := rfl
theorem rty_65 : Try.f65.resultTypes.toList = [3] := rfl
theorem res_72 : Try.f72.results.toList = [.tmp 2] := rfl
theorem rty_72 : Try.f72.resultTypes.toList = [2] := rfl
theorem res_73 : Try.f73.results.toList = [.tmp 2] := rfl
theorem rty_73 : Try.f73.resultTypes.toList = [22] := rfl
theorem res_74 : Try.f74.results.toList = [.tmp 4] := rfl
theorem rty_74 : Try.f74.resultTypes.toList = [4] := rfl
theorem res_86 : Try.f86.results.toList = [.tmp 2] := rfl
theorem rty_86 : Try.f86.resultTypes.toList = [3] := rfl
theorem res_88 : Try.f88.results.toList = [.tmp 2] := rfl
theorem rty_88 : Try.f88.resultTypes.toList = [22] := rfl
theorem res_89 : Try.f89.results.toList = [.tmp 4] := rfl
theorem rty_89 : Try.f89.resultTypes.toList = [4] := rfl
theorem res_91 : Try.f91.results.toList = [.tmp 4] := rfl
theorem rty_91 : Try.f91.resultTypes.toList = [22] := rfl
theorem res_104 : Try.f104.results.toList = [.tmp 4] := rfl
theorem rty_104 : Try.f104.resultTypes.toList = [3] := rfl
theorem res_108 : Try.f108.results.toList = [.tmp 2] := rfl
theorem rty_108 : Try.f108.resultTypes.toList = [22] := rfl
theorem res_110 : Try.f110.results.toList = [.tmp 4] := rfl
theorem rty_110 : Try.f110.resultTypes.toList = [4] := rfl
theorem res_112 : Try.f112.results.toList = [.tmp 4] := rfl
theorem rty_112 : Try.f112.resultTypes.toList = [3] := rfl
theorem res_114 : Try.f114.results.toList = [.tmp 4] := rfl
theorem rty_114 : Try.f114.resultTypes.toList = [3] := rfl
theorem res_118 : Try.f118.results.toList = [.tmp 2] := rfl
theorem rty_118 : Try.f118.resultTypes.toList = [4] := rfl
theorem res_119 : Try.f119.results.toList = [.tmp 4] := rfl
theorem rty_119 : Try.f119.resultTypes.toList = [4] := rfl
theorem res_121 : Try.f121.results.toList = [.tmp 4] := rfl
theorem rty_121 : Try.f121.resultTypes.toList = [3] := rfl
theorem res_124 : Try.f124.results.toList = [.tmp 2] := rfl
theorem rty_124 : Try.f124.resultTypes.toList = [4] := rfl
theorem res_127 : Try.f127.results.toList = [.tmp 4] := rfl
theorem rty_127 : Try.f127.resultTypes.toList = [4] := rfl
theorem res_131 : Try.f131.results.toList = [.tmp 2] := rfl
theorem rty_131 : Try.f131.resultTypes.toList = [4] := rfl
theorem res_132 : Try.f132.results.toList = [.tmp 4] := rfl
theorem rty_132 : Try.f132.resultTypes.toList = [4] := rfl
theorem res_133 : Try.f133.results.toList = [.tmp 2] := rfl
theorem rty_133 : Try.f133.resultTypes.toList = [22] := rfl
theorem res_134 : Try.f134.results.toList = [.tmp 4] := rfl
theorem rty_134 : Try.f134.resultTypes.toList = [164] := rfl
theorem res_135 : Try.f135.results.toList = [.tmp 4, .tmp 5] := rfl
theorem rty_135 : Try.f135.resultTypes.toList = [160, 3] := rfl
theorem res_136 : Try.f136.results.toList = [.tmp 6] := rfl
theorem rty_136 : Try.f136.resultTypes.toList = [4] := rfl
theorem res_137 : Try.f137.results.toList = [.tmp 2] := rfl
theorem rty_137 : Try.f137.resultTypes.toList = [22] := rfl
theorem res_138 : Try.f138.results.toList = [.tmp 2] := rfl
theorem rty_138 : Try.f138.resultTypes.toList = [22] := rfl
theorem res_139 : Try.f139.results.toList = [.tmp 2] := rfl
theorem rty_139 : Try.f139.resultTypes.toList = [29] := rfl
theorem res_140 : Try.f140.results.toList = [.tmp 4, .tmp 5] := rfl
theorem rty_140 : Try.f140.resultTypes.toList = [22, 3] := rfl
theorem res_141 : Try.f141.results.toList = [.tmp 2] := rfl
theorem rty_141 : Try.f141.resultTypes.toList = [4] := rfl
theorem res_142 : Try.f142.results.toList = [.tmp 4, .tmp 5] := rfl
theorem rty_142 : Try.f142.resultTypes.toList = [160, 3] := rfl
theorem res_143 : Try.f143.results.toList = [.tmp 4, .tmp 5] := rfl
theorem rty_143 : Try.f143.resultTypes.toList = [28, 3] := rfl
theorem res_144 : Try.f144.results.toList = [.tmp 6, .tmp 7] := rfl
theorem rty_144 : Try.f144.resultTypes.toList = [29, 4] := rfl
theorem res_145 : Try.f145.results.toList = [.tmp 4] := rfl
theorem rty_145 : Try.f145.resultTypes.toList = [4] := rfl
theorem res_159 : Try.f159.results.toList = [.tmp 4] := rfl
theorem rty_159 : Try.f159.resultTypes.toList = [4] := rfl
theorem res_161 : Try.f161.results.toList = [.tmp 4, .tmp 5] := rfl
theorem rty_161 : Try.f161.resultTypes.toList = [22, 3] := rfl
theorem res_163 : Try.f163.results.toList = [.tmp 2] := rfl
theorem rty_163 : Try.f163.resultTypes.toList = [4] := rfl
theorem res_164 : Try.f164.results.toList = [.tmp 4] := rfl
theorem rty_164 : Try.f164.resultTypes.toList = [3] := rfl
theorem res_165 : Try.f165.results.toList = [.tmp 2] := rfl
theorem rty_165 : Try.f165.resultTypes.toList = [4] := rfl
theorem res_166 : Try.f166.results.toList = [.tmp 4] := rfl
theorem rty_166 : Try.f166.resultTypes.toList = [4] := rfl
theorem res_167 : Try.f167.results.toList = [.tmp 2] := rfl
theorem rty_167 : Try.f167.resultTypes.toList = [4] := rfl
theorem res_184 : Try.f184.results.toList = [.tmp 4, .tmp 5] := rfl
theorem rty_184 : Try.f184.resultTypes.toList = [22, 3] := rfl
theorem res_185 : Try.f185.results.toList = [.tmp 4, .tmp 5] := rfl
theorem rty_185 : Try.f185.resultTypes.toList = [22, 3] := rfl
theorem res_186 : Try.f186.results.toList = [.tmp 4, .tmp 5] := rfl
theorem rty_186 : Try.f186.resultTypes.toList = [22, 3] := rfl
theorem res_187 : Try.f187.results.toList = [.tmp 4, .tmp 5] := rfl
theorem rty_187 : Try.f187.resultTypes.toList = [22, 3] := rfl
theorem res_211 : Try.f211.results.toList = [.tmp 4, .tmp 5] := rfl
theorem rty_211 : Try.f211.resultTypes.toList = [29, 3] := rfl
theorem res_212 : Try.f212.results.toList = [.tmp 2] := rfl
theorem rty_212 : Try.f212.resultTypes.toList = [3] := rfl
theorem res_213 : Try.f213.results.toList = [.tmp 6, .tmp 7] := rfl
theorem rty_213 : Try.f213.resultTypes.toList = [74, 3] := rfl
theorem res_214 : Try.f214.results.toList = [.tmp 4, .tmp 5] := rfl
theorem rty_214 : Try.f214.resultTypes.toList = [29, 3] := rfl
theorem res_215 : Try.f215.results.toList = [.tmp 2] := rfl
theorem rty_215 : Try.f215.resultTypes.toList = [3] := rfl
theorem res_216 : Try.f216.results.toList = [.tmp 6, .tmp 7] := rfl
theorem rty_216 : Try.f216.resultTypes.toList = [74, 3] := rfl
theorem res_217 : Try.f217.results.toList = [.tmp 4, .tmp 5] := rfl
theorem rty_217 : Try.f217.resultTypes.toList = [28, 3] := rfl
theorem res_218 : Try.f218.results.toList = [.tmp 4, .tmp 5] := rfl
theorem rty_218 : Try.f218.resultTypes.toList = [28, 3] := rfl
theorem res_219 : Try.f219.results.toList = [.tmp 4, .tmp 5] := rfl
theorem rty_219 : Try.f219.resultTypes.toList = [28, 3] := rfl
theorem res_220 : Try.f220.results.toList = [.tmp 4, .tmp 5] := rfl
theorem rty_220 : Try.f220.resultTypes.toList = [28, 3] := rfl
theorem res_221 : Try.f221.results.toList = [.tmp 4, .tmp 5] := rfl
theorem rty_221 : Try.f221.resultTypes.toList = [28, 3] := rfl
theorem res_222 : Try.f222.results.toList = [.tmp 4, .tmp 5] := rfl
theorem rty_222 : Try.f222.resultTypes.toList = [22, 3] := rfl
theorem res_223 : Try.f223.results.toList = [.tmp 4, .tmp 5] := rfl
theorem rty_223 : Try.f223.resultTypes.toList = [29, 3] := rfl
theorem res_224 : Try.f224.results.toList = [.tmp 2] := rfl
theorem rty_224 : Try.f224.resultTypes.toList = [3] := rfl
theorem res_225 : Try.f225.results.toList = [.tmp 6, .tmp 7] := rfl
theorem rty_225 : Try.f225.resultTypes.toList = [74, 3] := rfl
theorem res_226 : Try.f226.results.toList = [.tmp 6, .tmp 7] := rfl
theorem rty_226 : Try.f226.resultTypes.toList = [74, 4] := rfl
theorem res_227 : Try.f227.results.toList = [.tmp 4, .tmp 5] := rfl
theorem rty_227 : Try.f227.resultTypes.toList = [29, 3] := rfl
theorem res_228 : Try.f228.results.toList = [.tmp 2] := rfl
theorem rty_228 : Try.f228.resultTypes.toList = [3] := rfl
theorem res_229 : Try.f229.results.toList = [.tmp 6, .tmp 7] := rfl
theorem rty_229 : Try.f229.resultTypes.toList = [74, 3] := rfl
theorem res_230 : Try.f230.results.toList = [.tmp 4] := rfl
theorem rty_230 : Try.f230.resultTypes.toList = [3] := rfl
theorem res_231 : Try.f231.results.toList = [.tmp 4] := rfl
theorem rty_231 : Try.f231.resultTypes.toList = [3] := rfl
theorem res_232 : Try.f232.results.toList = [.tmp 3] := rfl
theorem rty_232 : Try.f232.resultTypes.toList = [4] := rfl
attribute [go_sem] elTy_22 cty_22 tySz_3 elTy_28 zeroC_3 cty_3 ixTy_28 elTy_29 ixTy_29 tySz_22 cty_4 tySz_29 cty_29 zeroC_5 cty_5 cvTy_3_5 zeroC_22 par_40 par_44 cty_74 zeroC_84 tySz_84 par_51 cty_84 elTy_74 par_52 par_55 tySz_92 par_56 cty_92 par_57 par_59 par_60 par_58 par_61 par_62 par_63 par_64 par_65 ixTy_22 tySz_5 cvTy_5_3 par_72 par_73 par_74 cvTy_3_116 par_86 par_88 par_89 tySz_4 par_91 boolTy_4 par_104 par_108 par_110 par_112 par_114 bldTy_145 zeroC_145 cty_145 ixTy_74 fldTy_145_1 fldTy_145_0 fldTy_145_2 par_118 par_119 par_121 par_124 mapTy_156 cvTy_22_9 tySz_145 zeroV_3 par_131 elTy_160 zeroC_4 par_127 par_132 cty_160 par_133 par_134 par_135 ixTy_160 fldTy_84_1 par_136 cty_41 fldTy_84_2 par_137 par_138 par_139 par_140 cty_28 fldTy_92_0 par_141 par_142 par_143 par_144 fldTy_84_0 fldTy_92_1 fldTy_92_2 par_145 cvTy_5_2 cty_2 cvTy_3_181 cvTy_181_5 par_159 par_161 par_163 par_164 bldTy_195 zeroC_195 ifcTy_195 methF_195_211 methF_195_212 methF_195_213 bldTy_197 zeroC_197 ifcTy_197 methF_197_214 methF_197_215 methF_197_216 bldTy_200 zeroC_200 ifcTy_200 methF_200_223 methF_200_224 methF_200_225 bldTy_202 zeroC_202 ifcTy_202 methF_202_227 methF_202_228 methF_202_229 cty_164 par_165 par_166 par_167 par_184 par_185 par_186 par_187 cvTy_3_216 cvTy_216_3 cvTy_3_217 cvTy_217_3 cvTy_3_21 cvTy_21_3 tySz_195 tySz_197 fldTy_197_0 par_217 par_218 par_219 par_220 par_221 cvTy_2_216 cvTy_2_217 cvTy_2_21 tySz_198 tySz_200 zeroFld_200_0 par_222 cty_198 par_226 tySz_202 fldTy_202_0 par_230 par_231 cty_89
end Go.Ev
set_option linter.unusedSimpArgs false
set_option linter.unusedVariables false
namespace Go.Ev
open Go Go.RowKit Go.Proofs
def mkB (k n : Nat) : List UInt8 := (List.range n).map fun j => UInt8.ofNat (k + j)
theorem mkB_length (k n : Nat) : (mkB k n).length = n := by simp [mkB]
theorem mkB_at (k n : Nat) {i : Nat} (h : i < n) : (mkB k n)[i]? = some ((fun j => UInt8.ofNat (k + j)) i) := by simp [mkB, h]
theorem c_toByteS (bs : List UInt8) (hb : bs.length ≤ 1048576) : Meets Try.prog 108 [rowB bs] (fun r => r = rowB bs) := by
  refine Meets.intro mixed (hint []) Try.func108 rfl (by decide) res_108 rty_108 (by kernel_rfl) ?_; 
  simp -dsimp -implicitDefEqProofs only [go_sem, Nat.reduceBEq, Nat.reduceAdd, Nat.reduceLeDiff, Nat.reduceSub, Int.reduceEq]
  refine ask.of (by omega) ?_
  refine LoopE.cnt bs.length (fun i s => s.env 0 = .rd .ent 5 1 (bytesA bs) ∧ s.env 3 = .ref [7] ∧ s.env 4 = .v (.int .i64 i) ∧ s.σ [7] = some (.row 5 1 (bytesA (bs.take i ++ List.replicate (bs.length - i) 0)))) ⟨by simp -dsimp -implicitDefEqProofs only [go_sem, Nat.reduceBEq, Nat.reduceAdd, Nat.reduceLeDiff, Nat.reduceSub, Int.reduceEq, initE], by simp -dsimp -implicitDefEqProofs only [go_sem, Nat.reduceBEq, Nat.reduceAdd, Nat.reduceLeDiff, Nat.reduceSub, Int.reduceEq], by simp -dsimp -implicitDefEqProofs only [go_sem, Nat.reduceBEq, Nat.reduceAdd, Nat.reduceLeDiff, Nat.reduceSub, Int.reduceEq] <;> simp, by simp -dsimp -implicitDefEqProofs only [go_sem, Nat.reduceBEq, Nat.reduceAdd, Nat.reduceLeDiff, Nat.reduceSub, Int.reduceEq] <;> simp⟩ ?_
  rintro i ⟨e, σ⟩ hi ⟨h0, h3, h4, hs⟩ K hK
  simp only at h0 h3 h4 hs
  simp -dsimp -implicitDefEqProofs only [go_sem, Nat.reduceBEq, Nat.reduceAdd, Nat.reduceLeDiff, Nat.reduceSub, Int.reduceEq, h0, h3, h4, hs]
  refine ifB'.of (fun hlt => ?_) (fun hlt => ?_)
  · have hlt : i < bs.length := by omega
    simp -dsimp -implicitDefEqProofs only [go_sem, Nat.reduceBEq, Nat.reduceAdd, Nat.reduceLeDiff, Nat.reduceSub, Int.reduceEq, h0, h3, h4, hs, bytesA_at hlt]
    repeat with_reducible refine ask.of (by omega) ?_
    have hl : (List.take i bs ++ List.replicate (bs.length - i) 0).length = bs.length := by simp; omega
    simp -dsimp -implicitDefEqProofs only [go_sem, Nat.reduceBEq, Nat.reduceAdd, Nat.reduceLeDiff, Nat.reduceSub, Int.reduceEq, h0, h3, h4, hs, hl]
    repeat with_reducible refine ask.of (by omega) ?_
    simp -dsimp -implicitDefEqProofs only [go_sem, Nat.reduceBEq, Nat.reduceAdd, Nat.reduceLeDiff, Nat.reduceSub, Int.reduceEq, h0, h3, h4, hs, bytesA_at (show i < (List.take i bs ++ List.replicate (bs.length - i) 0).length by omega)]
    refine hK _ hlt ?_
    simp -dsimp -implicitDefEqProofs only [go_sem, Nat.reduceBEq, Nat.reduceAdd, Nat.reduceLeDiff, Nat.reduceSub, Int.reduceEq, h0, h3, h4, hs, wrap_succ (show i < 4611686018427387904 by omega), fill_set bs 0 hlt]
  · have : i = bs.length := by omega
    subst this
    simp -dsimp -implicitDefEqProofs only [go_sem, Nat.reduceBEq, Nat.reduceAdd, Nat.reduceLeDiff, Nat.reduceSub, Int.reduceEq, h0, h3, h4, hs]
    simp
theorem c_eqByteS (bs : List UInt8) (hb : bs.length ≤ 8388608) : Meets Try.prog 110 [rowB bs, rowB bs] (fun r => r = .v (.bool true)) := by
  refine Meets.intro mixed (hint []) Try.func110 rfl (by decide) res_110 rty_110 (by kernel_rfl) ?_; 
  simp -dsimp -implicitDefEqProofs only [go_sem, Nat.reduceBEq, Nat.reduceAdd, Nat.reduceLeDiff, Nat.reduceSub, Int.reduceEq, decide_true, Bool.not_true]
  refine LoopE.cnt bs.length (fun i s => s.env 0 = .rd .ent 5 1 (bytesA bs) ∧ s.env 1 = .rd .ent 5 1 (bytesA bs) ∧ s.env 5 = .v (.int .i64 i)) ⟨by simp -dsimp -implicitDefEqProofs only [go_sem, Nat.reduceBEq, Nat.reduceAdd, Nat.reduceLeDiff, Nat.reduceSub, Int.reduceEq, initE], by simp -dsimp -implicitDefEqProofs only [go_sem, Nat.reduceBEq, Nat.reduceAdd, Nat.reduceLeDiff, Nat.reduceSub, Int.reduceEq, initE], by simp -dsimp -implicitDefEqProofs only [go_sem, Nat.reduceBEq, Nat.reduceAdd, Nat.reduceLeDiff, Nat.reduceSub, Int.reduceEq] <;> simp⟩ ?_
  rintro i ⟨e, σ⟩ hi ⟨h0, h1, h5⟩ K hK
  simp only at h0 h1 h5
  simp -dsimp -implicitDefEqProofs only [go_sem, Nat.reduceBEq, Nat.reduceAdd, Nat.reduceLeDiff, Nat.reduceSub, Int.reduceEq, h0, h1, h5]
  refine ifB'.of (fun hlt => ?_) (fun hlt => ?_)
  · have hlt : i < bs.length := by omega
    simp -dsimp -implicitDefEqProofs only [go_sem, Nat.reduceBEq, Nat.reduceAdd, Nat.reduceLeDiff, Nat.reduceSub, Int.reduceEq, h0, h1, h5, bytesA_at hlt]
    repeat with_reducible refine ask.of (by omega) ?_
    simp -dsimp -implicitDefEqProofs only [go_sem, Nat.reduceBEq, Nat.reduceAdd, Nat.reduceLeDiff, Nat.reduceSub, Int.reduceEq, h0, h1, h5, decide_true, Bool.not_true]
    refine hK _ hlt ?_
    simp -dsimp -implicitDefEqProofs only [go_sem, Nat.reduceBEq, Nat.reduceAdd, Nat.reduceLeDiff, Nat.reduceSub, Int.reduceEq, h0, h1, h5, wrap_succ (show i < 4611686018427387904 by omega)]
  · simp -dsimp -implicitDefEqProofs only [go_sem, Nat.reduceBEq, Nat.reduceAdd, Nat.reduceLeDiff, Nat.reduceSub, Int.reduceEq, h0, h1, h5]
theorem c_markByteS (bs : List UInt8) (k : Nat) (hk : k + bs.length ≤ 4611686018427387904) (hb : bs.length ≤ 8388608) : MeetsM Try.prog 112 [.mu (rowB bs), .rd (.v (.int .i64 k))] (fun r rs => r = .v (.int .i64 ((k + bs.length : Nat) : Int)) ∧ rs = [rowB (mkB k bs.length), .any]) := by
  refine MeetsM.intro mixed (hint []) Try.func112 rfl (by decide) res_112 rty_112 (pts := parTys Try.prog 112) (by rw [par_112]; rfl) (by kernel_rfl) ?_; rw [par_112]; intro vals; 
  simp -dsimp -implicitDefEqProofs only [go_sem, Nat.reduceBEq, Nat.reduceAdd, Nat.reduceLeDiff, Nat.reduceSub, Int.reduceEq]
  refine LoopE.cnt bs.length (fun i s => s.env 0 = .ref [1000000, 0] ∧ s.env 1 = .v (.int .i64 ((k + i : Nat) : Int)) ∧ s.env 5 = .v (.int .i64 i) ∧ s.σ [1000000, 0] = some (.row 5 1 (bytesA (mkPre (fun j => UInt8.ofNat (k + j)) bs i))) ∧ s.σ [1000001, 0] = some (.pin (.ref [1000000, 0]) (vals 0))) ⟨by simp -dsimp -implicitDefEqProofs only [go_sem, Nat.reduceBEq, Nat.reduceAdd, Nat.reduceLeDiff, Nat.reduceSub, Int.reduceEq], by simp -dsimp -implicitDefEqProofs only [go_sem, Nat.reduceBEq, Nat.reduceAdd, Nat.reduceLeDiff, Nat.reduceSub, Int.reduceEq] <;> simp, by simp -dsimp -implicitDefEqProofs only [go_sem, Nat.reduceBEq, Nat.reduceAdd, Nat.reduceLeDiff, Nat.reduceSub, Int.reduceEq] <;> simp, by simp -dsimp -implicitDefEqProofs only [go_sem, Nat.reduceBEq, Nat.reduceAdd, Nat.reduceLeDiff, Nat.reduceSub, Int.reduceEq, mkPre_zero], by simp -dsimp -implicitDefEqProofs only [go_sem, Nat.reduceBEq, Nat.reduceAdd, Nat.reduceLeDiff, Nat.reduceSub, Int.reduceEq]⟩ ?_
  rintro i ⟨e, σ⟩ hi ⟨h0, h1, h5, hs, hp⟩ K hK
  simp only at h0 h1 h5 hs hp
  have hl := mkPre_length (fun j => UInt8.ofNat (k + j)) hi
  simp -dsimp -implicitDefEqProofs only [go_sem, Nat.reduceBEq, Nat.reduceAdd, Nat.reduceLeDiff, Nat.reduceSub, Int.reduceEq, h0, h1, h5, hs, hp, hl]
  refine ifB'.of (fun hlt => ?_) (fun hlt => ?_)
  · have hlt : i < bs.length := by omega
    have hk' : k + i ≤ 4611686018427387904 := by omega
    simp -dsimp -implicitDefEqProofs only [go_sem, Nat.reduceBEq, Nat.reduceAdd, Nat.reduceLeDiff, Nat.reduceSub, Int.reduceEq, h0, h1, h5, hs, hp, hl]
    repeat with_reducible refine ask.of (by omega) ?_
    simp -dsimp -implicitDefEqProofs only [go_sem, Nat.reduceBEq, Nat.reduceAdd, Nat.reduceLeDiff, Nat.reduceSub, Int.reduceEq, h0, h1, h5, hs, hp, hl, bytesA_at (show i < (mkPre (fun j => UInt8.ofNat (k + j)) bs i).length by omega)]
    repeat with_reducible refine ask.of (by omega) ?_
    try simp -dsimp -implicitDefEqProofs only [go_sem, Nat.reduceBEq, Nat.reduceAdd, Nat.reduceLeDiff, Nat.reduceSub, Int.reduceEq, h0, h1, h5, hs, hp, u8_of_nat]
    refine hK _ hlt ?_
    simp -dsimp -implicitDefEqProofs only [go_sem, Nat.reduceBEq, Nat.reduceAdd, Nat.reduceLeDiff, Nat.reduceSub, Int.reduceEq, h0, h1, h5, hs, hp, wrap_succ (show i < 4611686018427387904 by omega), wrap_succ (show k + i < 4611686018427387904 by omega), mkPre_set (fun j => UInt8.ofNat (k + j)) bs hlt rfl]
    rfl
  · have : i = bs.length := by omega
    subst this
    simp -dsimp -implicitDefEqProofs only [go_sem, Nat.reduceBEq, Nat.reduceAdd, Nat.reduceLeDiff, Nat.reduceSub, Int.reduceEq, h0, h1, h5, hs, hp, mkPre_full]
    rfl
theorem c_heldByteS (k n : Nat) (hk : k + n ≤ 4611686018427387904) (hn : n ≤ 8388608) : Meets Try.prog 114 [rowB (mkB k n), .v (.int .i64 k)] (fun r => r = .v (.int .i64 ((k + n : Nat) : Int))) := by
  refine Meets.intro mixed (hint []) Try.func114 rfl (by decide) res_114 rty_114 (by kernel_rfl) ?_; 
  simp -dsimp -implicitDefEqProofs only [go_sem, Nat.reduceBEq, Nat.reduceAdd, Nat.reduceLeDiff, Nat.reduceSub, Int.reduceEq]
  refine LoopE.cnt n (fun i s => s.env 0 = .rd .ent 5 1 (bytesA (mkB k n)) ∧ s.env 1 = .v (.int .i64 ((k + i : Nat) : Int)) ∧ s.env 5 = .v (.int .i64 i)) ⟨by simp -dsimp -implicitDefEqProofs only [go_sem, Nat.reduceBEq, Nat.reduceAdd, Nat.reduceLeDiff, Nat.reduceSub, Int.reduceEq, initE], by simp -dsimp -implicitDefEqProofs only [go_sem, Nat.reduceBEq, Nat.reduceAdd, Nat.reduceLeDiff, Nat.reduceSub, Int.reduceEq, initE] <;> simp, by simp -dsimp -implicitDefEqProofs only [go_sem, Nat.reduceBEq, Nat.reduceAdd, Nat.reduceLeDiff, Nat.reduceSub, Int.reduceEq] <;> simp⟩ ?_
  rintro i ⟨e, σ⟩ hi ⟨h0, h1, h5⟩ K hK
  simp only at h0 h1 h5
  simp -dsimp -implicitDefEqProofs only [go_sem, Nat.reduceBEq, Nat.reduceAdd, Nat.reduceLeDiff, Nat.reduceSub, Int.reduceEq, h0, h1, h5, mkB_length]
  refine ifB'.of (fun hlt => ?_) (fun hlt => ?_)
  · have hlt : i < n := by omega
    have hk' : k + i ≤ 4611686018427387904 := by omega
    simp -dsimp -implicitDefEqProofs only [go_sem, Nat.reduceBEq, Nat.reduceAdd, Nat.reduceLeDiff, Nat.reduceSub, Int.reduceEq, h0, h1, h5, mkB_length, bytesA_at' (mkB_at k n hlt), u8_of_nat]
    repeat with_reducible refine ask.of (by omega) ?_
    simp -dsimp -implicitDefEqProofs only [go_sem, Nat.reduceBEq, Nat.reduceAdd, Nat.reduceLeDiff, Nat.reduceSub, Int.reduceEq, h0, h1, h5, decide_true, Bool.not_true]
    refine hK _ hlt ?_
    simp -dsimp -implicitDefEqProofs only [go_sem, Nat.reduceBEq, Nat.reduceAdd, Nat.reduceLeDiff, Nat.reduceSub, Int.reduceEq, h0, h1, h5, wrap_succ (show i < 4611686018427387904 by omega), wrap_succ (show k + i < 4611686018427387904 by omega)]
    rfl
  · have : i = n := by omega
    subst this
    simp -dsimp -implicitDefEqProofs only [go_sem, Nat.reduceBEq, Nat.reduceAdd, Nat.reduceLeDiff, Nat.reduceSub, Int.reduceEq, h0, h1, h5]
end Go.Ev
set_option linter.unusedSimpArgs false
set_option linter.unusedVariables false
namespace Go.Ev
open Go Go.RowKit Go.Proofs
theorem c_szByteS (bs : List UInt8) (left : Nat) (hb : bs.length ≤ 140737488355328) (hl : left ≤ 1048576) : Meets Try.prog 104 [rowB bs, .v (.int .i64 left)] (fun r => r = .v (.int .i64 (szR left bs.length))) := by
  refine Meets.intro mixed (hint []) Try.func104 rfl (by decide) res_104 rty_104 (by kernel_rfl) ?_; 
  have e : IntKind.i64.wrap ((left : Int) - bs.length) = (left : Int) - bs.length := wrap_i64_of (by omega) (by omega)
  simp -dsimp -implicitDefEqProofs only [go_sem, Nat.reduceBEq, Nat.reduceAdd, Nat.reduceLeDiff, Nat.reduceSub, Int.reduceEq, e]
  refine ifB'.of (fun h => ?_) (fun h => ?_)
  · simp -dsimp -implicitDefEqProofs only [go_sem, Nat.reduceBEq, Nat.reduceAdd, Nat.reduceLeDiff, Nat.reduceSub, Int.reduceEq]
    rw [szR_no (by omega)]
  · simp -dsimp -implicitDefEqProofs only [go_sem, Nat.reduceBEq, Nat.reduceAdd, Nat.reduceLeDiff, Nat.reduceSub, Int.reduceEq]
    rw [szR_ok (by omega)]; omega
def wBB (xs : List (List UInt8)) : Nat := szL List.length xs
theorem mem_wBB {xs : List (List UInt8)} {b : List UInt8} (h : b ∈ xs) : b.length ≤ wBB xs := by
  obtain ⟨i, hi, rfl⟩ := List.mem_iff_getElem.1 h
  have := szL_at_le List.length hi
  unfold wBB; omega
theorem c_szByteSS (xs : List (List UInt8)) (left : Nat) (hl : left ≤ 1048576) (hx : xs.length ≤ 140737488355328) (hb : ∀ b ∈ xs, b.length ≤ 140737488355328) : Meets Try.prog 57 [rowBB xs, .v (.int .i64 left)] (fun r => r = .v (.int .i64 (szR left (xs.length + wBB xs)))) := by
  refine Meets.intro mixed (hint []) Try.func57 rfl (by decide) res_57 rty_57 (by kernel_rfl) ?_; 
  have e : IntKind.i64.wrap ((left : Int) - xs.length) = (left : Int) - xs.length := wrap_i64_of (by omega) (by omega)
  simp -dsimp -implicitDefEqProofs only [go_sem, Nat.reduceBEq, Nat.reduceAdd, Nat.reduceLeDiff, Nat.reduceSub, Int.reduceEq, e]
  refine ifB'.of (fun h => ?_) (fun h => ?_)
  · simp -dsimp -implicitDefEqProofs only [go_sem, Nat.reduceBEq, Nat.reduceAdd, Nat.reduceLeDiff, Nat.reduceSub, Int.reduceEq]
    rw [szR_no (by omega)]
  simp -dsimp -implicitDefEqProofs only [go_sem, Nat.reduceBEq, Nat.reduceAdd, Nat.reduceLeDiff, Nat.reduceSub, Int.reduceEq, e]
  refine LoopE.cnt xs.length (fun i s => s.env 0 = .rd .ent 22 1 (ra byC xs) ∧ s.env 5 = .v (.int .i64 i) ∧ xs.length + szL List.length (xs.take i) ≤ left ∧ s.env 1 = .v (.int .i64 ((left - (xs.length + szL List.length (xs.take i)) : Nat) : Int))) ⟨by simp -dsimp -implicitDefEqProofs only [go_sem, Nat.reduceBEq, Nat.reduceAdd, Nat.reduceLeDiff, Nat.reduceSub, Int.reduceEq, initE], by simp -dsimp -implicitDefEqProofs only [go_sem, Nat.reduceBEq, Nat.reduceAdd, Nat.reduceLeDiff, Nat.reduceSub, Int.reduceEq] <;> simp, by simp [szL]; omega, by simp -dsimp -implicitDefEqProofs only [go_sem, Nat.reduceBEq, Nat.reduceAdd, Nat.reduceLeDiff, Nat.reduceSub, Int.reduceEq] <;> (simp [szL]; omega)⟩ ?_
  rintro i ⟨e, σ⟩ hi ⟨h0, h5, hle, h1⟩ K hK
  simp only at h0 h5 h1
  simp -dsimp -implicitDefEqProofs only [go_sem, Nat.reduceBEq, Nat.reduceAdd, Nat.reduceLeDiff, Nat.reduceSub, Int.reduceEq, h0, h5, h1]
  refine ifB'.of (fun hlt => ?_) (fun hlt => ?_)
  · have hlt : i < xs.length := by omega
    have hs := szL_take_succ List.length hlt
    have hw := szL_take_le List.length xs (i + 1)
    simp -dsimp -implicitDefEqProofs only [go_sem, Nat.reduceBEq, Nat.reduceAdd, Nat.reduceLeDiff, Nat.reduceSub, Int.reduceEq, h0, h5, h1, byA_at hlt]
    repeat with_reducible refine ask.of (by omega) ?_
    refine CallE.of (c_szByteS xs[i] (left - (xs.length + szL List.length (xs.take i))) (hb _ (List.getElem_mem _)) (by omega)) (by rintro r rfl; (repeat' first | exact trivial | exact pure_rowB _ | exact pure_rowO _ | exact pure_rowI _ | exact pure_rowBB _ | exact pure_rowPk _ _ | exact pure_rowSn _ _ | exact pure_rowFd _ _ | exact pure_rowBBB _ | exact pure_rowCl _ _ | exact pure_rowTb _ _ _ | refine And.intro ?_ ?_)) (by simp -dsimp -implicitDefEqProofs only [go_sem, Nat.reduceBEq, Nat.reduceAdd, Nat.reduceLeDiff, Nat.reduceSub, Int.reduceEq, h0, h5, h1]) ?_
    rintro r rfl
    simp -dsimp -implicitDefEqProofs only [go_sem, Nat.reduceBEq, Nat.reduceAdd, Nat.reduceLeDiff, Nat.reduceSub, Int.reduceEq, h0, h5, h1]
    refine ifB'.of (fun hn => ?_) (fun hn => ?_)
    · have : ¬ xs[i].length ≤ left - (xs.length + szL List.length (xs.take i)) := fun h => by rw [szR_ok h] at hn; omega
      simp -dsimp -implicitDefEqProofs only [go_sem, Nat.reduceBEq, Nat.reduceAdd, Nat.reduceLeDiff, Nat.reduceSub, Int.reduceEq, h0, h5, h1]
      rw [szR_no (by unfold wBB; omega)]
    · have h : xs[i].length ≤ left - (xs.length + szL List.length (xs.take i)) := Classical.byContradiction fun h => by rw [szR_no h] at hn; omega
      simp -dsimp -implicitDefEqProofs only [go_sem, Nat.reduceBEq, Nat.reduceAdd, Nat.reduceLeDiff, Nat.reduceSub, Int.reduceEq, h0, h5, h1]
      refine hK _ hlt ?_
      simp -dsimp -implicitDefEqProofs only [go_sem, Nat.reduceBEq, Nat.reduceAdd, Nat.reduceLeDiff, Nat.reduceSub, Int.reduceEq, h0, h5, h1, wrap_succ (show i < 4611686018427387904 by omega), szR_ok h, hs]
      exact ⟨by omega, by omega⟩
  · have : i = xs.length := by omega
    subst this
    simp -dsimp -implicitDefEqProofs only [go_sem, Nat.reduceBEq, Nat.reduceAdd, Nat.reduceLeDiff, Nat.reduceSub, Int.reduceEq, h0, h5, h1]
    rw [List.take_length] at hle ⊢
    rw [szR_ok (by unfold wBB; omega)]
    rfl
theorem c_toByteSS (xs : List (List UInt8)) (hx : xs.length ≤ 1048576) (hb : ∀ b ∈ xs, b.length ≤ 1048576) : Meets Try.prog 60 [rowBB xs] (fun r => r = rowBB xs) := by
  refine Meets.intro mixed (hint []) Try.func60 rfl (by decide) res_60 rty_60 (by kernel_rfl) ?_; 
  simp -dsimp -implicitDefEqProofs only [go_sem, Nat.reduceBEq, Nat.reduceAdd, Nat.reduceLeDiff, Nat.reduceSub, Int.reduceEq]
  refine ask.of (by omega) ?_
  refine LoopE.cnt xs.length (fun i s => s.env 0 = .rd .ent 22 1 (ra byC xs) ∧ s.env 3 = .ref [7] ∧ s.env 4 = .v (.int .i64 i) ∧ s.σ [7] = some (.row 22 1 (ra byC (xs.take i ++ List.replicate (xs.length - i) [])))) ⟨by simp -dsimp -implicitDefEqProofs only [go_sem, Nat.reduceBEq, Nat.reduceAdd, Nat.reduceLeDiff, Nat.reduceSub, Int.reduceEq, initE], by simp -dsimp -implicitDefEqProofs only [go_sem, Nat.reduceBEq, Nat.reduceAdd, Nat.reduceLeDiff, Nat.reduceSub, Int.reduceEq], by simp -dsimp -implicitDefEqProofs only [go_sem, Nat.reduceBEq, Nat.reduceAdd, Nat.reduceLeDiff, Nat.reduceSub, Int.reduceEq] <;> simp, by simp -dsimp -implicitDefEqProofs only [go_sem, Nat.reduceBEq, Nat.reduceAdd, Nat.reduceLeDiff, Nat.reduceSub, Int.reduceEq] <;> simp⟩ ?_
  rintro i ⟨e, σ⟩ hi ⟨h0, h3, h4, hs⟩ K hK
  simp only at h0 h3 h4 hs
  simp -dsimp -implicitDefEqProofs only [go_sem, Nat.reduceBEq, Nat.reduceAdd, Nat.reduceLeDiff, Nat.reduceSub, Int.reduceEq, h0, h3, h4, hs]
  refine ifB'.of (fun hlt => ?_) (fun hlt => ?_)
  · have hlt : i < xs.length := by omega
    simp -dsimp -implicitDefEqProofs only [go_sem, Nat.reduceBEq, Nat.reduceAdd, Nat.reduceLeDiff, Nat.reduceSub, Int.reduceEq, h0, h3, h4, hs, byA_at hlt]
    repeat with_reducible refine ask.of (by omega) ?_
    refine CallE.of (c_toByteS xs[i] (hb _ (List.getElem_mem _))) (by rintro r rfl; (repeat' first | exact trivial | exact pure_rowB _ | exact pure_rowO _ | exact pure_rowI _ | exact pure_rowBB _ | exact pure_rowPk _ _ | exact pure_rowSn _ _ | exact pure_rowFd _ _ | exact pure_rowBBB _ | exact pure_rowCl _ _ | exact pure_rowTb _ _ _ | refine And.intro ?_ ?_)) (by simp -dsimp -implicitDefEqProofs only [go_sem, Nat.reduceBEq, Nat.reduceAdd, Nat.reduceLeDiff, Nat.reduceSub, Int.reduceEq, h0, h3, h4, hs]) ?_
    rintro r rfl
    simp -dsimp -implicitDefEqProofs only [go_sem, Nat.reduceBEq, Nat.reduceAdd, Nat.reduceLeDiff, Nat.reduceSub, Int.reduceEq, h0, h3, h4, hs]
    have hl : (List.take i xs ++ List.replicate (xs.length - i) []).length = xs.length := by simp; omega
    simp -dsimp -implicitDefEqProofs only [go_sem, Nat.reduceBEq, Nat.reduceAdd, Nat.reduceLeDiff, Nat.reduceSub, Int.reduceEq, h0, h3, h4, hs, hl]
    repeat with_reducible refine ask.of (by omega) ?_
    simp -dsimp -implicitDefEqProofs only [go_sem, Nat.reduceBEq, Nat.reduceAdd, Nat.reduceLeDiff, Nat.reduceSub, Int.reduceEq, h0, h3, h4, hs, byA_at (show i < (List.take i xs ++ List.replicate (xs.length - i) []).length by omega)]
    refine hK _ hlt ?_
    simp -dsimp -implicitDefEqProofs only [go_sem, Nat.reduceBEq, Nat.reduceAdd, Nat.reduceLeDiff, Nat.reduceSub, Int.reduceEq, h0, h3, h4, hs, wrap_succ (show i < 4611686018427387904 by omega), fill_set xs [] hlt]
  · have : i = xs.length := by omega
    subst this
    simp -dsimp -implicitDefEqProofs only [go_sem, Nat.reduceBEq, Nat.reduceAdd, Nat.reduceLeDiff, Nat.reduceSub, Int.reduceEq, h0, h3, h4, hs]
    simp
theorem c_eqByteSS (xs : List (List UInt8)) (hx : xs.length ≤ 8388608) (hb : ∀ b ∈ xs, b.length ≤ 8388608) : Meets Try.prog 40 [rowBB xs, rowBB xs] (fun r => r = .v (.bool true)) := by
  refine Meets.intro mixed (hint []) Try.func40 rfl (by decide) res_40 rty_40 (by kernel_rfl) ?_; 
  simp -dsimp -implicitDefEqProofs only [go_sem, Nat.reduceBEq, Nat.reduceAdd, Nat.reduceLeDiff, Nat.reduceSub, Int.reduceEq, decide_true, Bool.not_true]
  refine LoopE.cnt xs.length (fun i s => s.env 0 = .rd .ent 22 1 (ra byC xs) ∧ s.env 1 = .rd .ent 22 1 (ra byC xs) ∧ s.env 5 = .v (.int .i64 i)) ⟨by simp -dsimp -implicitDefEqProofs only [go_sem, Nat.reduceBEq, Nat.reduceAdd, Nat.reduceLeDiff, Nat.reduceSub, Int.reduceEq, initE], by simp -dsimp -implicitDefEqProofs only [go_sem, Nat.reduceBEq, Nat.reduceAdd, Nat.reduceLeDiff, Nat.reduceSub, Int.reduceEq, initE], by simp -dsimp -implicitDefEqProofs only [go_sem, Nat.reduceBEq, Nat.reduceAdd, Nat.reduceLeDiff, Nat.reduceSub, Int.reduceEq] <;> simp⟩ ?_
  rintro i ⟨e, σ⟩ hi ⟨h0, h1, h5⟩ K hK
  simp only at h0 h1 h5
  simp -dsimp -implicitDefEqProofs only [go_sem, Nat.reduceBEq, Nat.reduceAdd, Nat.reduceLeDiff, Nat.reduceSub, Int.reduceEq, h0, h1, h5]
  refine ifB'.of (fun hlt => ?_) (fun hlt => ?_)
  · have hlt : i < xs.length := by omega
    simp -dsimp -implicitDefEqProofs only [go_sem, Nat.reduceBEq, Nat.reduceAdd, Nat.reduceLeDiff, Nat.reduceSub, Int.reduceEq, h0, h1, h5, byA_at hlt]
    repeat with_reducible refine ask.of (by omega) ?_
    refine CallE.of (c_eqByteS xs[i] (hb _ (List.getElem_mem _))) (by rintro r rfl; (repeat' first | exact trivial | exact pure_rowB _ | exact pure_rowO _ | exact pure_rowI _ | exact pure_rowBB _ | exact pure_rowPk _ _ | exact pure_rowSn _ _ | exact pure_rowFd _ _ | exact pure_rowBBB _ | exact pure_rowCl _ _ | exact pure_rowTb _ _ _ | refine And.intro ?_ ?_)) (by simp -dsimp -implicitDefEqProofs only [go_sem, Nat.reduceBEq, Nat.reduceAdd, Nat.reduceLeDiff, Nat.reduceSub, Int.reduceEq, h0, h1, h5, Bool.not_true]) ?_
    rintro r rfl
    simp -dsimp -implicitDefEqProofs only [go_sem, Nat.reduceBEq, Nat.reduceAdd, Nat.reduceLeDiff, Nat.reduceSub, Int.reduceEq, h0, h1, h5, Bool.not_true]
    refine hK _ hlt ?_
    simp -dsimp -implicitDefEqProofs only [go_sem, Nat.reduceBEq, Nat.reduceAdd, Nat.reduceLeDiff, Nat.reduceSub, Int.reduceEq, h0, h1, h5, wrap_succ (show i < 4611686018427387904 by omega)]
  · simp -dsimp -implicitDefEqProofs only [go_sem, Nat.reduceBEq, Nat.reduceAdd, Nat.reduceLeDiff, Nat.reduceSub, Int.reduceEq, h0, h1, h5]
def mkBB (k : Nat) (xs : List (List UInt8)) : List (List UInt8) := mkL (fun k x => mkB k x.length) List.length k xs
theorem c_markByteSS (xs : List (List UInt8)) (k : Nat) (hk : k + wBB xs ≤ 4611686018427387904) (hx : xs.length ≤ 8388608) (hb : ∀ b ∈ xs, b.length ≤ 8388608) : MeetsM Try.prog 44 [.mu (rowBB xs), .rd (.v (.int .i64 k))] (fun r rs => r = .v (.int .i64 ((k + wBB xs : Nat) : Int)) ∧ rs = [rowBB (mkBB k xs), .any]) := by
  refine MeetsM.intro mixed (hint []) Try.func44 rfl (by decide) res_44 rty_44 (pts := parTys Try.prog 44) (by rw [par_44]; rfl) (by kernel_rfl) ?_; rw [par_44]; intro vals; 
  simp -dsimp -implicitDefEqProofs only [go_sem, Nat.reduceBEq, Nat.reduceAdd, Nat.reduceLeDiff, Nat.reduceSub, Int.reduceEq]
  refine LoopE.cnt xs.length (fun i s => s.env 0 = .ref [1000000, 0] ∧ s.env 1 = .v (.int .i64 ((k + szL List.length (xs.take i) : Nat) : Int)) ∧ s.env 5 = .v (.int .i64 i) ∧ s.σ [1000000, 0] = some (.row 22 1 (ra byC (mkLP (fun k x => mkB k x.length) List.length k xs i))) ∧ s.σ [1000001, 0] = some (.pin (.ref [1000000, 0]) (vals 0))) ⟨by simp -dsimp -implicitDefEqProofs only [go_sem, Nat.reduceBEq, Nat.reduceAdd, Nat.reduceLeDiff, Nat.reduceSub, Int.reduceEq], by simp -dsimp -implicitDefEqProofs only [go_sem, Nat.reduceBEq, Nat.reduceAdd, Nat.reduceLeDiff, Nat.reduceSub, Int.reduceEq] <;> simp [szL], by simp -dsimp -implicitDefEqProofs only [go_sem, Nat.reduceBEq, Nat.reduceAdd, Nat.reduceLeDiff, Nat.reduceSub, Int.reduceEq] <;> simp, by simp -dsimp -implicitDefEqProofs only [go_sem, Nat.reduceBEq, Nat.reduceAdd, Nat.reduceLeDiff, Nat.reduceSub, Int.reduceEq, mkLP_zero], by simp -dsimp -implicitDefEqProofs only [go_sem, Nat.reduceBEq, Nat.reduceAdd, Nat.reduceLeDiff, Nat.reduceSub, Int.reduceEq]⟩ ?_
  rintro i ⟨e, σ⟩ hi ⟨h0, h1, h5, hs, hp⟩ K hK
  simp only at h0 h1 h5 hs hp
  have hl := mkLP_length (fun k x => mkB k x.length) List.length k hi
  simp -dsimp -implicitDefEqProofs only [go_sem, Nat.reduceBEq, Nat.reduceAdd, Nat.reduceLeDiff, Nat.reduceSub, Int.reduceEq, h0, h1, h5, hs, hp, hl]
  refine ifB'.of (fun hlt => ?_) (fun hlt => ?_)
  · have hlt : i < xs.length := by omega
    have hw := szL_at_le List.length hlt
    simp -dsimp -implicitDefEqProofs only [go_sem, Nat.reduceBEq, Nat.reduceAdd, Nat.reduceLeDiff, Nat.reduceSub, Int.reduceEq, h0, h1, h5, hs, hp, hl]
    repeat with_reducible refine ask.of (by omega) ?_
    simp -dsimp -implicitDefEqProofs only [go_sem, Nat.reduceBEq, Nat.reduceAdd, Nat.reduceLeDiff, Nat.reduceSub, Int.reduceEq, h0, h1, h5, hs, hp, byA_at' (mkLP_at (fun k x => mkB k x.length) List.length k hlt)]
    refine CallE.mut (c_markByteS xs[i] (k + szL List.length (xs.take i)) (by unfold wBB at hk; omega) (hb _ (List.getElem_mem _))) (by simp -dsimp -implicitDefEqProofs only [go_sem, Nat.reduceBEq, Nat.reduceAdd, Nat.reduceLeDiff, Nat.reduceSub, Int.reduceEq, h0, h1, h5, hs, hp]) (by rintro r rs ⟨rfl, rfl⟩; exact ⟨by (repeat' first | exact trivial | exact pure_rowB _ | exact pure_rowO _ | exact pure_rowI _ | exact pure_rowBB _ | exact pure_rowPk _ _ | exact pure_rowSn _ _ | exact pure_rowFd _ _ | exact pure_rowBBB _ | exact pure_rowCl _ _ | exact pure_rowTb _ _ _ | refine And.intro ?_ ?_), by first | exact ⟨by (repeat' first | exact trivial | exact pure_rowB _ | exact pure_rowO _ | exact pure_rowI _ | exact pure_rowBB _ | exact pure_rowPk _ _ | exact pure_rowSn _ _ | exact pure_rowFd _ _ | exact pure_rowBBB _ | exact pure_rowCl _ _ | exact pure_rowTb _ _ _ | refine And.intro ?_ ?_), trivial⟩ | exact ⟨by (repeat' first | exact trivial | exact pure_rowB _ | exact pure_rowO _ | exact pure_rowI _ | exact pure_rowBB _ | exact pure_rowPk _ _ | exact pure_rowSn _ _ | exact pure_rowFd _ _ | exact pure_rowBBB _ | exact pure_rowCl _ _ | exact pure_rowTb _ _ _ | refine And.intro ?_ ?_), trivial, trivial⟩⟩) (by simp -dsimp -implicitDefEqProofs only [go_sem, Nat.reduceBEq, Nat.reduceAdd, Nat.reduceLeDiff, Nat.reduceSub, Int.reduceEq, h0, h1, h5, hs, hp, byA_at' (mkLP_at (fun k x => mkB k x.length) List.length k hlt)]) (by simp -dsimp -implicitDefEqProofs only [go_sem, Nat.reduceBEq, Nat.reduceAdd, Nat.reduceLeDiff, Nat.reduceSub, Int.reduceEq, h0, h1, h5, hs, hp, byA_at' (mkLP_at (fun k x => mkB k x.length) List.length k hlt)]) ?_
    rintro r rs ⟨rfl, rfl⟩
    simp -dsimp -implicitDefEqProofs only [go_sem, Nat.reduceBEq, Nat.reduceAdd, Nat.reduceLeDiff, Nat.reduceSub, Int.reduceEq, h0, h1, h5, hs, hp, byA_at' (mkLP_at (fun k x => mkB k x.length) List.length k hlt)]
    refine hK _ hlt ?_
    simp -dsimp -implicitDefEqProofs only [go_sem, Nat.reduceBEq, Nat.reduceAdd, Nat.reduceLeDiff, Nat.reduceSub, Int.reduceEq, h0, h1, h5, hs, hp, byA_at' (mkLP_at (fun k x => mkB k x.length) List.length k hlt), wrap_succ (show i < 4611686018427387904 by omega), mkLP_set (fun k x => mkB k x.length) List.length k hlt rfl, szL_take_succ List.length hlt, Nat.add_assoc]
  · have : i = xs.length := by omega
    subst this
    simp -dsimp -implicitDefEqProofs only [go_sem, Nat.reduceBEq, Nat.reduceAdd, Nat.reduceLeDiff, Nat.reduceSub, Int.reduceEq, h0, h1, h5, hs, hp, mkLP_full, List.take_length]
    exact ⟨rfl, rfl⟩
end Go.Ev
set_option linter.unusedSimpArgs false
set_option linter.unusedVariables false
namespace Go.Ev
open Go Go.RowKit Go.Proofs
structure Fd where
  f : List UInt8
  k : Int
  w : Int
structure Cl where
  z : Bool
  i : Int
  f : List UInt8
def fdC (x : Fd) : List AV := [.row 5 1 (bytesA x.f), .v (.int .i64 x.k), .v (.int .i64 x.w)]
def clC (x : Cl) : List AV := [.v (.bool x.z), .v (.int .i64 x.i), .row 5 1 (bytesA x.f)]
def clW (x : Cl) : Nat := x.f.length
def cl0 : Cl := ⟨false, 0, []⟩
def rowFd (T : Nat) (ps : List Fd) : AV := .row T 3 (ra fdC ps)
def rowCl (T : Nat) (ps : List Cl) : AV := .row T 3 (ra clC ps)
theorem bleF (n : Nat) : Nat.ble n n = true := by simp
theorem pure_rowFd (T : Nat) (ps : List Fd) : (rowFd T ps).pure := pureEls_ra (enc := fdC) (fun x => ⟨pureEls_bytes _, trivial, trivial, trivial⟩) ps
theorem pure_rowCl (T : Nat) (ps : List Cl) : (rowCl T ps).pure := pureEls_ra (enc := clC) (fun x => ⟨trivial, trivial, pureEls_bytes _, trivial⟩) ps
theorem c_szField (p : Fd) (left : Nat) (hb : p.f.length ≤ 140737488355328) (hl : left ≤ 1048576) : Meets Try.prog 56 [.agg (fdC p), .v (.int .i64 left)] (fun r => r = .v (.int .i64 (szR left p.f.length))) := by
  refine Meets.intro mixed (hint []) Try.func56 rfl (by decide) res_56 rty_56 (by kernel_rfl) ?_; 
  simp -dsimp -implicitDefEqProofs only [go_sem, Nat.reduceBEq, Nat.reduceAdd, Nat.reduceLeDiff, Nat.reduceSub, Int.reduceEq, fdC]
  repeat with_reducible refine ask.of (by omega) ?_
  refine CallE.of (c_szByteS p.f left hb hl) (by rintro r rfl; (repeat' first | exact trivial | exact pure_rowB _ | exact pure_rowO _ | exact pure_rowI _ | exact pure_rowBB _ | exact pure_rowPk _ _ | exact pure_rowSn _ _ | exact pure_rowFd _ _ | exact pure_rowBBB _ | exact pure_rowCl _ _ | exact pure_rowTb _ _ _ | refine And.intro ?_ ?_)) (by simp -dsimp -implicitDefEqProofs only [go_sem, Nat.reduceBEq, Nat.reduceAdd, Nat.reduceLeDiff, Nat.reduceSub, Int.reduceEq]) ?_
  rintro r rfl
  simp -dsimp -implicitDefEqProofs only [go_sem, Nat.reduceBEq, Nat.reduceAdd, Nat.reduceLeDiff, Nat.reduceSub, Int.reduceEq]
  refine ifB'.of (fun h => ?_) (fun h => ?_)
  · simp -dsimp -implicitDefEqProofs only [go_sem, Nat.reduceBEq, Nat.reduceAdd, Nat.reduceLeDiff, Nat.reduceSub, Int.reduceEq]
    by_cases h2 : p.f.length ≤ left
    · rw [szR_ok h2] at h; omega
    · rw [szR_no h2]
  · simp -dsimp -implicitDefEqProofs only [go_sem, Nat.reduceBEq, Nat.reduceAdd, Nat.reduceLeDiff, Nat.reduceSub, Int.reduceEq]
theorem c_toField (p : Fd) (hb : p.f.length ≤ 1048576) : Meets Try.prog 59 [.agg (fdC p)] (fun r => r = .agg (fdC p)) := by
  refine Meets.intro mixed (hint []) Try.func59 rfl (by decide) res_59 rty_59 (by kernel_rfl) ?_; 
  simp -dsimp -implicitDefEqProofs only [go_sem, Nat.reduceBEq, Nat.reduceAdd, Nat.reduceLeDiff, Nat.reduceSub, Int.reduceEq, fdC]
  repeat (first | with_reducible refine ask.of (by omega) ?_ | simp -dsimp -implicitDefEqProofs only [go_sem, Nat.reduceBEq, Nat.reduceAdd, Nat.reduceLeDiff, Nat.reduceSub, Int.reduceEq, bleF])
  refine CallE.of (c_toByteS p.f hb) (by rintro r rfl; (repeat' first | exact trivial | exact pure_rowB _ | exact pure_rowO _ | exact pure_rowI _ | exact pure_rowBB _ | exact pure_rowPk _ _ | exact pure_rowSn _ _ | exact pure_rowFd _ _ | exact pure_rowBBB _ | exact pure_rowCl _ _ | exact pure_rowTb _ _ _ | refine And.intro ?_ ?_)) (by simp -dsimp -implicitDefEqProofs only [go_sem, Nat.reduceBEq, Nat.reduceAdd, Nat.reduceLeDiff, Nat.reduceSub, Int.reduceEq]) ?_
  rintro r rfl
  simp -dsimp -implicitDefEqProofs only [go_sem, Nat.reduceBEq, Nat.reduceAdd, Nat.reduceLeDiff, Nat.reduceSub, Int.reduceEq]
  repeat (first | with_reducible refine ask.of (by omega) ?_ | simp -dsimp -implicitDefEqProofs only [go_sem, Nat.reduceBEq, Nat.reduceAdd, Nat.reduceLeDiff, Nat.reduceSub, Int.reduceEq, bleF])
theorem c_eqField (p : Fd) (hb : p.f.length ≤ 1048576) : Meets Try.prog 62 [.agg (fdC p), .agg (fdC p)] (fun r => r = .v (.bool true)) := by
  refine Meets.intro mixed (hint []) Try.func62 rfl (by decide) res_62 rty_62 (by kernel_rfl) ?_; 
  simp -dsimp -implicitDefEqProofs only [go_sem, Nat.reduceBEq, Nat.reduceAdd, Nat.reduceLeDiff, Nat.reduceSub, Int.reduceEq, fdC, decide_true]
  repeat (first | with_reducible refine ask.of (by omega) ?_ | simp -dsimp -implicitDefEqProofs only [go_sem, Nat.reduceBEq, Nat.reduceAdd, Nat.reduceLeDiff, Nat.reduceSub, Int.reduceEq, bleF, decide_true])
  refine CallE.of (c_eqByteS p.f (by omega)) (by rintro r rfl; (repeat' first | exact trivial | exact pure_rowB _ | exact pure_rowO _ | exact pure_rowI _ | exact pure_rowBB _ | exact pure_rowPk _ _ | exact pure_rowSn _ _ | exact pure_rowFd _ _ | exact pure_rowBBB _ | exact pure_rowCl _ _ | exact pure_rowTb _ _ _ | refine And.intro ?_ ?_)) (by simp -dsimp -implicitDefEqProofs only [go_sem, Nat.reduceBEq, Nat.reduceAdd, Nat.reduceLeDiff, Nat.reduceSub, Int.reduceEq, Bool.not_true, decide_true]) ?_
  rintro r rfl
  simp -dsimp -implicitDefEqProofs only [go_sem, Nat.reduceBEq, Nat.reduceAdd, Nat.reduceLeDiff, Nat.reduceSub, Int.reduceEq, Bool.not_true, decide_true]
  repeat (first | with_reducible refine ask.of (by omega) ?_ | trivial)
theorem c_eqCell (p : Cl) (hb : p.f.length ≤ 1048576) : Meets Try.prog 145 [.agg (clC p), .agg (clC p)] (fun r => r = .v (.bool true)) := by
  refine Meets.intro mixed (hint []) Try.func145 rfl (by decide) res_145 rty_145 (by kernel_rfl) ?_; 
  simp -dsimp -implicitDefEqProofs only [go_sem, Nat.reduceBEq, Nat.reduceAdd, Nat.reduceLeDiff, Nat.reduceSub, Int.reduceEq, clC, decide_true]
  repeat (first | with_reducible refine ask.of (by omega) ?_ | simp -dsimp -implicitDefEqProofs only [go_sem, Nat.reduceBEq, Nat.reduceAdd, Nat.reduceLeDiff, Nat.reduceSub, Int.reduceEq, bleF, decide_true])
  refine CallE.of (c_eqByteS p.f (by omega)) (by rintro r rfl; (repeat' first | exact trivial | exact pure_rowB _ | exact pure_rowO _ | exact pure_rowI _ | exact pure_rowBB _ | exact pure_rowPk _ _ | exact pure_rowSn _ _ | exact pure_rowFd _ _ | exact pure_rowBBB _ | exact pure_rowCl _ _ | exact pure_rowTb _ _ _ | refine And.intro ?_ ?_)) (by simp -dsimp -implicitDefEqProofs only [go_sem, Nat.reduceBEq, Nat.reduceAdd, Nat.reduceLeDiff, Nat.reduceSub, Int.reduceEq, Bool.not_true, decide_true]) ?_
  rintro r rfl
  simp -dsimp -implicitDefEqProofs only [go_sem, Nat.reduceBEq, Nat.reduceAdd, Nat.reduceLeDiff, Nat.reduceSub, Int.reduceEq, Bool.not_true, decide_true]
  repeat (first | with_reducible refine ask.of (by omega) ?_ | trivial)
theorem Cl_at {xs : List Cl} {i : Nat} (h : i < xs.length) : (ra clC xs)[i]? = some (clC xs[i]) := ra_at h
theorem mem_clW {xs : List Cl} {b : Cl} (h : b ∈ xs) : b.f.length ≤ szL clW xs := by
  obtain ⟨i, hi, rfl⟩ := List.mem_iff_getElem.1 h
  have := szL_at_le clW hi
  have : clW xs[i] = xs[i].f.length := rfl
  omega
theorem Cl_zeros (k : Nat) : List.replicate k (clC cl0) = ra clC (List.replicate k cl0) := by simp [ra]
theorem c_eqCellS (xs : List Cl) (hx : xs.length ≤ 1048576) (hb : ∀ b ∈ xs, b.f.length ≤ 1048576) : Meets Try.prog 61 [rowCl 145 xs, rowCl 145 xs] (fun r => r = .v (.bool true)) := by
  refine Meets.intro mixed (hint []) Try.func61 rfl (by decide) res_61 rty_61 (by kernel_rfl) ?_; 
  simp -dsimp -implicitDefEqProofs only [go_sem, Nat.reduceBEq, Nat.reduceAdd, Nat.reduceLeDiff, Nat.reduceSub, Int.reduceEq, decide_true, Bool.not_true, rowCl]
  refine LoopE.cnt xs.length (fun i s => s.env 0 = .rd .ent 145 3 (ra clC xs) ∧ s.env 1 = .rd .ent 145 3 (ra clC xs) ∧ s.env 5 = .v (.int .i64 i)) ⟨by simp -dsimp -implicitDefEqProofs only [go_sem, Nat.reduceBEq, Nat.reduceAdd, Nat.reduceLeDiff, Nat.reduceSub, Int.reduceEq, initE, rowCl], by simp -dsimp -implicitDefEqProofs only [go_sem, Nat.reduceBEq, Nat.reduceAdd, Nat.reduceLeDiff, Nat.reduceSub, Int.reduceEq, initE, rowCl], by simp -dsimp -implicitDefEqProofs only [go_sem, Nat.reduceBEq, Nat.reduceAdd, Nat.reduceLeDiff, Nat.reduceSub, Int.reduceEq] <;> simp⟩ ?_
  rintro i ⟨e, σ⟩ hi ⟨h0, h1, h5⟩ K hK
  simp only at h0 h1 h5
  simp -dsimp -implicitDefEqProofs only [go_sem, Nat.reduceBEq, Nat.reduceAdd, Nat.reduceLeDiff, Nat.reduceSub, Int.reduceEq, h0, h1, h5]
  refine ifB'.of (fun hlt => ?_) (fun hlt => ?_)
  · have hlt : i < xs.length := by omega
    simp -dsimp -implicitDefEqProofs only [go_sem, Nat.reduceBEq, Nat.reduceAdd, Nat.reduceLeDiff, Nat.reduceSub, Int.reduceEq, h0, h1, h5, Cl_at hlt, clC]
    repeat (first | with_reducible refine ask.of (by omega) ?_ | simp -dsimp -implicitDefEqProofs only [go_sem, Nat.reduceBEq, Nat.reduceAdd, Nat.reduceLeDiff, Nat.reduceSub, Int.reduceEq, h0, h1, h5, Cl_at hlt, clC, bleF])
    refine CallE.of (c_eqCell xs[i] (hb _ (List.getElem_mem _))) (by rintro r rfl; (repeat' first | exact trivial | exact pure_rowB _ | exact pure_rowO _ | exact pure_rowI _ | exact pure_rowBB _ | exact pure_rowPk _ _ | exact pure_rowSn _ _ | exact pure_rowFd _ _ | exact pure_rowBBB _ | exact pure_rowCl _ _ | exact pure_rowTb _ _ _ | refine And.intro ?_ ?_)) (by simp -dsimp -implicitDefEqProofs only [go_sem, Nat.reduceBEq, Nat.reduceAdd, Nat.reduceLeDiff, Nat.reduceSub, Int.reduceEq, h0, h1, h5, Bool.not_true, clC]) ?_
    rintro r rfl
    simp -dsimp -implicitDefEqProofs only [go_sem, Nat.reduceBEq, Nat.reduceAdd, Nat.reduceLeDiff, Nat.reduceSub, Int.reduceEq, h0, h1, h5, Bool.not_true, clC]
    refine hK _ hlt ?_
    simp -dsimp -implicitDefEqProofs only [go_sem, Nat.reduceBEq, Nat.reduceAdd, Nat.reduceLeDiff, Nat.reduceSub, Int.reduceEq, h0, h1, h5, wrap_succ (show i < 4611686018427387904 by omega)]
  · simp -dsimp -implicitDefEqProofs only [go_sem, Nat.reduceBEq, Nat.reduceAdd, Nat.reduceLeDiff, Nat.reduceSub, Int.reduceEq, h0, h1, h5]
end Go.Ev
set_option linter.unusedSimpArgs false
set_option linter.unusedVariables false
namespace Go.Ev
open Go Go.RowKit Go.Proofs
def mpS (l : List (List UInt8 × Value)) : List (Value × Value) := l.map fun p => (.string ⟨p.1.toArray⟩, p.2)
theorem kEq_str (a b : List UInt8) : kEq (.string ⟨a.toArray⟩) (.string ⟨b.toArray⟩) = decide (a = b) := by
  show ((⟨a.toArray⟩ : ByteArray) == ⟨b.toArray⟩) = _
  by_cases h : a = b
  · rw [decide_eq_true h, h]; exact (MapKept.bytes_beq _ _).2 rfl
  · rw [decide_eq_false h]
    cases h2 : ((⟨a.toArray⟩ : ByteArray) == ⟨b.toArray⟩) with
    | false => rfl
    | true => exact absurd (by simpa using (MapKept.bytes_beq _ _).1 h2) h
theorem mgetS_some (t : List UInt8) : ∀ l : List (List UInt8 × Value), (mget (mpS l) (.string ⟨t.toArray⟩)).isSome = decide (t ∈ l.map (·.1))
  | [] => rfl
  | p :: l => by
    show (sel (kEq (.string ⟨p.1.toArray⟩) (.string ⟨t.toArray⟩)) (some p.2) (mget (mpS l) _)).isSome = _
    rw [kEq_str]
    by_cases h : p.1 = t
    · rw [decide_eq_true h]; simp [sel, h]
    · rw [decide_eq_false h]
      show (mget (mpS l) _).isSome = _
      rw [mgetS_some t l]
      simp [Ne.symm h]
theorem mputS_new (t : List UInt8) (v : Value) : ∀ l : List (List UInt8 × Value), t ∉ l.map (·.1) → mput (mpS l) (.string ⟨t.toArray⟩) v = mpS (l ++ [(t, v)])
  | [], _ => rfl
  | p :: l, h => by
    show sel (kEq (.string ⟨p.1.toArray⟩) (.string ⟨t.toArray⟩)) _ ((.string ⟨p.1.toArray⟩, p.2) :: mput (mpS l) _ v) = _
    have h1 : p.1 ≠ t := fun e => h (by simp [e])
    rw [kEq_str, decide_eq_false h1, mputS_new t v l (fun h2 => h (by simp at h2 ⊢; exact .inr h2))]
    rfl
def ixP (xs : List (List UInt8)) : List (List UInt8 × Value) := xs.zipIdx.map fun p => (p.1, .int .i64 p.2)
theorem ixP_keys (xs : List (List UInt8)) : (ixP xs).map (·.1) = xs := by
  rw [ixP, List.map_map]
  exact List.zipIdx_map_fst 0 xs
theorem ixP_snoc (xs : List (List UInt8)) (t : List UInt8) : ixP xs ++ [(t, .int .i64 (xs.length : Int))] = ixP (xs ++ [t]) := by
  simp [ixP, List.zipIdx_append]
theorem ixP_has (xs : List (List UInt8)) (t : List UInt8) : (mget (mpS (ixP xs)) (.string ⟨t.toArray⟩)).isSome = decide (t ∈ xs) := by rw [mgetS_some, ixP_keys]
theorem ixP_put {xs : List (List UInt8)} {t : List UInt8} (h : t ∉ xs) : mput (mpS (ixP xs)) (.string ⟨t.toArray⟩) (.int .i64 (xs.length : Int)) = mpS (ixP (xs ++ [t])) := by
  rw [mputS_new _ _ _ (by rw [ixP_keys]; exact h), ixP_snoc]
theorem c_l1same (a b : List UInt8) (ha : a.length ≤ 140737488355328) (hb : b.length ≤ 140737488355328) : Meets Try.prog 89 [rowB a, rowB b] (fun r => r = .v (.bool (decide (a = b)))) := by
  refine Meets.intro mixed (hint []) Try.func89 rfl (by decide) res_89 rty_89 (by kernel_rfl) ?_; 
  simp -dsimp -implicitDefEqProofs only [go_sem, Nat.reduceBEq, Nat.reduceAdd, Nat.reduceLeDiff, Nat.reduceSub, Int.reduceEq, initE]
  exact decide_eq_decide.2 ⟨fun h => by simpa using h, fun h => by rw [h]⟩
def plI (xs : List (List UInt8)) (t : List UInt8) : Int := if t ∈ xs then ((xs.idxOf t : Nat) : Int) else -1
theorem plI_at {xs : List (List UInt8)} {t : List UInt8} {i : Nat} (h : i < xs.length) (he : xs[i] = t) (hn : t ∉ xs.take i) : plI xs t = (i : Int) := by
  have hm : t ∈ xs := by rw [← he]; exact List.getElem_mem _
  rw [plI, if_pos hm]
  congr 1
  have e : xs = xs.take i ++ t :: xs.drop (i + 1) := by rw [← he, ← List.drop_eq_getElem_cons h, List.take_append_drop]
  rw [e, List.idxOf_append, if_neg hn]
  simp
  omega
theorem plI_no {xs : List (List UInt8)} {t : List UInt8} (h : t ∉ xs) : plI xs t = -1 := if_neg h
theorem plI_nonneg (xs : List (List UInt8)) (t : List UInt8) : 0 ≤ plI xs t ↔ t ∈ xs := by
  unfold plI
  split
  · rename_i h; exact ⟨fun _ => h, fun _ => by omega⟩
  · rename_i h; exact ⟨fun h' => by omega, fun h' => absurd h' h⟩
theorem plI_le (xs : List (List UInt8)) (t : List UInt8) : -1 ≤ plI xs t ∧ plI xs t ≤ xs.length := by
  unfold plI
  split
  · have := List.idxOf_le_length (a := t) (l := xs); omega
  · omega
theorem not_mem_take_succ {α : Type} {xs : List α} {t : α} {i : Nat} (h : i < xs.length) (hn : t ∉ xs.take i) (he : xs[i] ≠ t) : t ∉ xs.take (i + 1) := by
  rw [List.take_succ_eq_append_getElem h]
  simp only [List.mem_append, List.mem_singleton, not_or]
  exact ⟨hn, fun e => he e.symm⟩
theorem c_l2place (xs : List (List UInt8)) (t : List UInt8) (hx : xs.length ≤ 1048576) (hb : ∀ b ∈ xs, b.length ≤ 140737488355328) (ht : t.length ≤ 140737488355328) : Meets Try.prog 121 [rowBB xs, rowB t] (fun r => r = .v (.int .i64 (plI xs t))) := by
  refine Meets.intro mixed (hint []) Try.func121 rfl (by decide) res_121 rty_121 (by kernel_rfl) ?_; 
  simp -dsimp -implicitDefEqProofs only [go_sem, Nat.reduceBEq, Nat.reduceAdd, Nat.reduceLeDiff, Nat.reduceSub, Int.reduceEq]
  refine LoopE.cnt xs.length (fun i s => s.env 0 = .rd .ent 22 1 (ra byC xs) ∧ s.env 1 = .rd .ent 5 1 (bytesA t) ∧ s.env 5 = .v (.int .i64 i) ∧ t ∉ xs.take i) ⟨by simp -dsimp -implicitDefEqProofs only [go_sem, Nat.reduceBEq, Nat.reduceAdd, Nat.reduceLeDiff, Nat.reduceSub, Int.reduceEq, initE], by simp -dsimp -implicitDefEqProofs only [go_sem, Nat.reduceBEq, Nat.reduceAdd, Nat.reduceLeDiff, Nat.reduceSub, Int.reduceEq, initE], by simp -dsimp -implicitDefEqProofs only [go_sem, Nat.reduceBEq, Nat.reduceAdd, Nat.reduceLeDiff, Nat.reduceSub, Int.reduceEq], by simp⟩ ?_
  rintro i ⟨e, σ⟩ hi ⟨h0, h1, h5, hn⟩ K hK
  simp only at h0 h1 h5
  simp -dsimp -implicitDefEqProofs only [go_sem, Nat.reduceBEq, Nat.reduceAdd, Nat.reduceLeDiff, Nat.reduceSub, Int.reduceEq, h0, h1, h5]
  refine ifB'.of (fun hlt => ?_) (fun hlt => ?_)
  · have hlt : i < xs.length := by omega
    simp -dsimp -implicitDefEqProofs only [go_sem, Nat.reduceBEq, Nat.reduceAdd, Nat.reduceLeDiff, Nat.reduceSub, Int.reduceEq, h0, h1, h5, byA_at hlt]
    repeat with_reducible refine ask.of (by omega) ?_
    refine CallE.of (c_l1same xs[i] t (hb _ (List.getElem_mem _)) ht) (by rintro r rfl; (repeat' first | exact trivial | exact pure_rowB _ | exact pure_rowO _ | exact pure_rowI _ | exact pure_rowBB _ | exact pure_rowPk _ _ | exact pure_rowSn _ _ | exact pure_rowFd _ _ | exact pure_rowBBB _ | exact pure_rowCl _ _ | exact pure_rowTb _ _ _ | refine And.intro ?_ ?_)) (by simp -dsimp -implicitDefEqProofs only [go_sem, Nat.reduceBEq, Nat.reduceAdd, Nat.reduceLeDiff, Nat.reduceSub, Int.reduceEq, h0, h1, h5]) ?_
    rintro r rfl
    simp -dsimp -implicitDefEqProofs only [go_sem, Nat.reduceBEq, Nat.reduceAdd, Nat.reduceLeDiff, Nat.reduceSub, Int.reduceEq, h0, h1, h5]
    refine ifB'.of (fun hq => ?_) (fun hq => ?_)
    · simp -dsimp -implicitDefEqProofs only [go_sem, Nat.reduceBEq, Nat.reduceAdd, Nat.reduceLeDiff, Nat.reduceSub, Int.reduceEq, h0, h1, h5]
      rw [plI_at hlt hq hn]
    · simp -dsimp -implicitDefEqProofs only [go_sem, Nat.reduceBEq, Nat.reduceAdd, Nat.reduceLeDiff, Nat.reduceSub, Int.reduceEq, h0, h1, h5]
      refine hK _ hlt ?_
      simp -dsimp -implicitDefEqProofs only [go_sem, Nat.reduceBEq, Nat.reduceAdd, Nat.reduceLeDiff, Nat.reduceSub, Int.reduceEq, h0, h1, h5, wrap_succ (show i < 4611686018427387904 by omega)]
      exact not_mem_take_succ hlt hn hq
  · have : i = xs.length := by omega
    subst this
    simp -dsimp -implicitDefEqProofs only [go_sem, Nat.reduceBEq, Nat.reduceAdd, Nat.reduceLeDiff, Nat.reduceSub, Int.reduceEq, h0, h1, h5]
    rw [plI_no (by rwa [List.take_length] at hn)]
def okD (xs : List (List UInt8)) : Prop := xs.length ≤ 40 ∧ wBB xs ≤ 4000 ∧ xs.Nodup
instance (xs : List (List UInt8)) : Decidable (okD xs) := by unfold okD; infer_instance
theorem okD_f {xs : List (List UInt8)} (h : ¬ okD xs) : false = decide (okD xs) := (decide_eq_false h).symm
theorem okD_t {xs : List (List UInt8)} (h : okD xs) : true = decide (okD xs) := (decide_eq_true h).symm
theorem nodup_take {α : Type} {xs : List α} (h : xs.Nodup) (i : Nat) : (xs.take i).Nodup := List.Nodup.sublist (List.take_sublist _ _) h
theorem nodup_take_succ {α : Type} {xs : List α} {i : Nat} (h : i < xs.length) : (xs.take (i + 1)).Nodup ↔ (xs.take i).Nodup ∧ xs[i] ∉ xs.take i := by
  rw [List.take_succ_eq_append_getElem h, List.nodup_append]
  simp
  intro _
  constructor
  · intro h1 h2; exact h1 _ h2 rfl
  · intro h1 a h2 h3; exact h1 (h3 ▸ h2)
theorem c_sValidDict (xs : List (List UInt8)) (hx : xs.length + wBB xs ≤ 1048576) : Meets Try.prog 118 [rowBB xs] (fun r => r = .v (.bool (decide (okD xs)))) := by
  refine Meets.introO mixed (hint []) (fun k => (sel (k == 8) [0,1,2,3,4,5,6,7,8,9,10,11,12] [])) Try.func118 rfl (by decide) res_118 rty_118 (by kernel_rfl) ?_; 
  have hb : ∀ b ∈ xs, b.length ≤ 140737488355328 := fun b hb => by have : b.length ≤ wBB xs := mem_wBB hb; omega
  simp -dsimp -implicitDefEqProofs only [go_sem, Nat.reduceBEq, Nat.reduceAdd, Nat.reduceLeDiff, Nat.reduceSub, Int.reduceEq]
  refine ifB'.of (fun h => ?_) (fun h => ?_)
  · simp -dsimp -implicitDefEqProofs only [go_sem, Nat.reduceBEq, Nat.reduceAdd, Nat.reduceLeDiff, Nat.reduceSub, Int.reduceEq]
    exact okD_f (fun h' => by have := h'.1; omega)
  simp -dsimp -implicitDefEqProofs only [go_sem, Nat.reduceBEq, Nat.reduceAdd, Nat.reduceLeDiff, Nat.reduceSub, Int.reduceEq]
  refine LoopE.cnt xs.length (fun i s => s.env 0 = .rd .ent 22 1 (ra byC xs) ∧ s.env 4 = .v (.int .i64 i) ∧ s.env 3 = .v (.int .i64 (wBB (xs.take i) : Nat)) ∧ wBB (xs.take i) ≤ 4000 ∧ (xs.take i).Nodup) ⟨by simp -dsimp -implicitDefEqProofs only [go_sem, Nat.reduceBEq, Nat.reduceAdd, Nat.reduceLeDiff, Nat.reduceSub, Int.reduceEq, initE], by simp -dsimp -implicitDefEqProofs only [go_sem, Nat.reduceBEq, Nat.reduceAdd, Nat.reduceLeDiff, Nat.reduceSub, Int.reduceEq], by simp -dsimp -implicitDefEqProofs only [go_sem, Nat.reduceBEq, Nat.reduceAdd, Nat.reduceLeDiff, Nat.reduceSub, Int.reduceEq] <;> rfl, by simp [wBB, szL], by simp⟩ ?_
  rintro i ⟨e, σ⟩ hi ⟨h0, h4, h3, hw, hnd⟩ K hK
  simp only at h0 h4 h3
  simp -dsimp -implicitDefEqProofs only [go_sem, Nat.reduceBEq, Nat.reduceAdd, Nat.reduceLeDiff, Nat.reduceSub, Int.reduceEq, h0, h4, h3]
  refine ifB'.of (fun hlt => ?_) (fun hlt => ?_)
  · have hlt : i < xs.length := by omega
    have hs : wBB (xs.take (i + 1)) = wBB (xs.take i) + xs[i].length := szL_take_succ List.length hlt
    have hsl : wBB (xs.take (i + 1)) ≤ wBB xs := szL_take_le List.length xs (i + 1)
    have e1 : IntKind.i64.wrap ((wBB (xs.take i) : Int) + xs[i].length) = (wBB (xs.take (i + 1)) : Nat) := by rw [wrap_i64_of (by omega) (by omega), hs]; omega
    simp -dsimp -implicitDefEqProofs only [go_sem, Nat.reduceBEq, Nat.reduceAdd, Nat.reduceLeDiff, Nat.reduceSub, Int.reduceEq, h0, h4, h3, byA_at hlt]
    repeat with_reducible refine ask.of (by omega) ?_
    simp -dsimp -implicitDefEqProofs only [go_sem, Nat.reduceBEq, Nat.reduceAdd, Nat.reduceLeDiff, Nat.reduceSub, Int.reduceEq, h0, h4, h3, byA_at hlt, e1]
    refine ifB'.of (fun hg => ?_) (fun hg => ?_)
    · simp -dsimp -implicitDefEqProofs only [go_sem, Nat.reduceBEq, Nat.reduceAdd, Nat.reduceLeDiff, Nat.reduceSub, Int.reduceEq, h0, h4, h3]
      exact okD_f (fun h' => by have := h'.2.1; omega)
    · simp -dsimp -implicitDefEqProofs only [go_sem, Nat.reduceBEq, Nat.reduceAdd, Nat.reduceLeDiff, Nat.reduceSub, Int.reduceEq, h0, h4, h3, byA_at hlt, Int.toNat_natCast]
      repeat with_reducible refine ask.of (by omega) ?_
      refine CallE.of (c_l2place (xs.take i) xs[i] (by simp; omega) (fun b h => hb b (List.mem_of_mem_take h)) (hb _ (List.getElem_mem _))) (by rintro r rfl; (repeat' first | exact trivial | exact pure_rowB _ | exact pure_rowO _ | exact pure_rowI _ | exact pure_rowBB _ | exact pure_rowPk _ _ | exact pure_rowSn _ _ | exact pure_rowFd _ _ | exact pure_rowBBB _ | exact pure_rowCl _ _ | exact pure_rowTb _ _ _ | refine And.intro ?_ ?_)) (by simp -dsimp -implicitDefEqProofs only [go_sem, Nat.reduceBEq, Nat.reduceAdd, Nat.reduceLeDiff, Nat.reduceSub, Int.reduceEq, h0, h4, h3, Int.toNat_zero]) ?_
      rintro r rfl
      simp -dsimp -implicitDefEqProofs only [go_sem, Nat.reduceBEq, Nat.reduceAdd, Nat.reduceLeDiff, Nat.reduceSub, Int.reduceEq, h0, h4, h3, Int.toNat_zero]
      refine ifB'.of (fun hq => ?_) (fun hq => ?_)
      · simp -dsimp -implicitDefEqProofs only [go_sem, Nat.reduceBEq, Nat.reduceAdd, Nat.reduceLeDiff, Nat.reduceSub, Int.reduceEq, h0, h4, h3]
        have hq := (plI_nonneg _ _).1 hq
        exact okD_f (fun h' => ((nodup_take_succ hlt).1 (nodup_take h'.2.2 (i + 1))).2 hq)
      · simp -dsimp -implicitDefEqProofs only [go_sem, Nat.reduceBEq, Nat.reduceAdd, Nat.reduceLeDiff, Nat.reduceSub, Int.reduceEq, h0, h4, h3]
        refine hK _ hlt ?_
        simp -dsimp -implicitDefEqProofs only [go_sem, Nat.reduceBEq, Nat.reduceAdd, Nat.reduceLeDiff, Nat.reduceSub, Int.reduceEq, h0, h4, h3, wrap_succ (show i < 4611686018427387904 by omega)]
        exact ⟨by omega, by omega, (nodup_take_succ hlt).2 ⟨hnd, fun h' => hq ((plI_nonneg _ _).2 h')⟩⟩
  · have : i = xs.length := by omega
    subst this
    simp -dsimp -implicitDefEqProofs only [go_sem, Nat.reduceBEq, Nat.reduceAdd, Nat.reduceLeDiff, Nat.reduceSub, Int.reduceEq, h0, h4, h3]
    rw [List.take_length] at hw hnd
    exact okD_t ⟨by omega, hw, hnd⟩
theorem c_iValidDict (xs : List (List UInt8)) (hx : xs.length + wBB xs ≤ 1048576) : Meets Try.prog 124 [rowBB xs] (fun r => r = .v (.bool (decide (okD xs)))) := by
  refine Meets.intro mixed (hint []) Try.func124 rfl (by decide) res_124 rty_124 (by kernel_rfl) ?_; 
  simp -dsimp -implicitDefEqProofs only [go_sem, Nat.reduceBEq, Nat.reduceAdd, Nat.reduceLeDiff, Nat.reduceSub, Int.reduceEq]
  refine ifB'.of (fun h => ?_) (fun h => ?_)
  · simp -dsimp -implicitDefEqProofs only [go_sem, Nat.reduceBEq, Nat.reduceAdd, Nat.reduceLeDiff, Nat.reduceSub, Int.reduceEq]
    exact okD_f (fun h' => by have := h'.1; omega)
  simp -dsimp -implicitDefEqProofs only [go_sem, Nat.reduceBEq, Nat.reduceAdd, Nat.reduceLeDiff, Nat.reduceSub, Int.reduceEq]
  refine LoopE.cnt xs.length (fun i s => s.env 13 = .rd .ent 22 1 (ra byC xs) ∧ s.env 14 = .v (.int .i64 xs.length) ∧ s.env 15 = .v (.int .i64 i) ∧ s.env 3 = .ref [12] ∧ s.env 4 = .v (.int .i64 (wBB (xs.take i) : Nat)) ∧ s.σ [12] = some (.mp .string 3 (mpS (ixP (xs.take i)))) ∧ (xs.take i).Nodup) ⟨by simp -dsimp -implicitDefEqProofs only [go_sem, Nat.reduceBEq, Nat.reduceAdd, Nat.reduceLeDiff, Nat.reduceSub, Int.reduceEq, initE], by simp -dsimp -implicitDefEqProofs only [go_sem, Nat.reduceBEq, Nat.reduceAdd, Nat.reduceLeDiff, Nat.reduceSub, Int.reduceEq, initE], by simp -dsimp -implicitDefEqProofs only [go_sem, Nat.reduceBEq, Nat.reduceAdd, Nat.reduceLeDiff, Nat.reduceSub, Int.reduceEq], by simp -dsimp -implicitDefEqProofs only [go_sem, Nat.reduceBEq, Nat.reduceAdd, Nat.reduceLeDiff, Nat.reduceSub, Int.reduceEq], by simp -dsimp -implicitDefEqProofs only [go_sem, Nat.reduceBEq, Nat.reduceAdd, Nat.reduceLeDiff, Nat.reduceSub, Int.reduceEq] <;> rfl, by simp -dsimp -implicitDefEqProofs only [go_sem, Nat.reduceBEq, Nat.reduceAdd, Nat.reduceLeDiff, Nat.reduceSub, Int.reduceEq] <;> rfl, by simp⟩ ?_
  rintro i ⟨e, σ⟩ hi ⟨h13, h14, h15, h3, h4, hs, hnd⟩ K hK
  simp only at h13 h14 h15 h3 h4 hs
  simp -dsimp -implicitDefEqProofs only [go_sem, Nat.reduceBEq, Nat.reduceAdd, Nat.reduceLeDiff, Nat.reduceSub, Int.reduceEq, h13, h14, h15, h3, h4, hs]
  refine ifB'.of (fun hlt => ?_) (fun hlt => ?_)
  · have hlt : i < xs.length := by omega
    have hw : wBB (xs.take (i + 1)) = wBB (xs.take i) + xs[i].length := szL_take_succ List.length hlt
    have hsl : wBB (xs.take (i + 1)) ≤ wBB xs := szL_take_le List.length xs (i + 1)
    have e1 : IntKind.i64.wrap ((wBB (xs.take i) : Int) + xs[i].length) = (wBB (xs.take (i + 1)) : Nat) := by rw [wrap_i64_of (by omega) (by omega), hw]; omega
    simp -dsimp -implicitDefEqProofs only [go_sem, Nat.reduceBEq, Nat.reduceAdd, Nat.reduceLeDiff, Nat.reduceSub, Int.reduceEq, h13, h14, h15, h3, h4, hs, byA_at hlt]
    repeat with_reducible refine ask.of (by omega) ?_
    simp -dsimp -implicitDefEqProofs only [go_sem, Nat.reduceBEq, Nat.reduceAdd, Nat.reduceLeDiff, Nat.reduceSub, Int.reduceEq, h13, h14, h15, h3, h4, hs, byA_at hlt, ixP_has]
    refine ifB'.of (fun hq => ?_) (fun hq => ?_)
    · simp -dsimp -implicitDefEqProofs only [go_sem, Nat.reduceBEq, Nat.reduceAdd, Nat.reduceLeDiff, Nat.reduceSub, Int.reduceEq, h13, h14, h15, h3, h4, hs]
      exact okD_f (fun h' => ((nodup_take_succ hlt).1 (nodup_take h'.2.2 (i + 1))).2 hq)
    · have hp := ixP_put hq
      rw [show (xs.take i).length = i by simp; omega, ← take_succ hlt] at hp
      simp -dsimp -implicitDefEqProofs only [go_sem, Nat.reduceBEq, Nat.reduceAdd, Nat.reduceLeDiff, Nat.reduceSub, Int.reduceEq, h13, h14, h15, h3, h4, hs, e1, hp]
      refine hK _ hlt ?_
      simp -dsimp -implicitDefEqProofs only [go_sem, Nat.reduceBEq, Nat.reduceAdd, Nat.reduceLeDiff, Nat.reduceSub, Int.reduceEq, h13, h14, h15, h3, h4, hs, wrap_succ (show i < 4611686018427387904 by omega)]
      exact (nodup_take_succ hlt).2 ⟨hnd, hq⟩
  · have : i = xs.length := by omega
    subst this
    simp -dsimp -implicitDefEqProofs only [go_sem, Nat.reduceBEq, Nat.reduceAdd, Nat.reduceLeDiff, Nat.reduceSub, Int.reduceEq, h13, h14, h15, h3, h4, hs]
    rw [List.take_length] at hnd ⊢
    exact decide_eq_decide.2 ⟨fun h' => ⟨by omega, by omega, hnd⟩, fun h' => by have := h'.2.1; omega⟩
end Go.Ev
set_option linter.unusedSimpArgs false
set_option linter.unusedVariables false
namespace Go.Ev
open Go Go.RowKit Go.Proofs
def bitAt (l : List Bool) (j : Nat) : Nat := (l[j]?.getD false).toNat
def hvS (l : List Bool) (b : Nat) : Nat → Nat
  | 0 => 0
  | m + 1 => hvS l b m * 2 + bitAt l (b + (7 - m))
def packN (l : List Bool) : Nat := (l.length + 7) / 8
def packB (l : List Bool) : List UInt8 := (List.range (packN l)).map fun b => UInt8.ofNat (hvS l (8 * b) 8)
theorem packB_length (l : List Bool) : (packB l).length = packN l := by simp [packB]
theorem bitAt_le (l : List Bool) (j : Nat) : bitAt l j ≤ 1 := by unfold bitAt; cases l[j]?.getD false <;> decide
theorem hvS_lt (l : List Bool) (b : Nat) : ∀ m, hvS l b m < 2 ^ m
  | 0 => by simp [hvS]
  | m + 1 => by
    have := hvS_lt l b m
    have := bitAt_le l (b + (7 - m))
    rw [hvS, Nat.pow_succ]; omega
theorem hvS_256 (l : List Bool) (b m : Nat) (hm : m ≤ 8) : hvS l b m < 256 := Nat.lt_of_lt_of_le (hvS_lt l b m) (Nat.pow_le_pow_right (by decide) hm)
theorem c_sPackBits (bs : List Bool) (hb : bs.length ≤ 1048576) : Meets Try.prog 138 [rowO bs] (fun r => r = rowB (packB bs)) := by
  refine Meets.intro mixed (hint [(3, 122)]) Try.func138 rfl (by decide) res_138 rty_138 (by kernel_rfl) ?_; 
  simp -dsimp -implicitDefEqProofs only [go_sem, Nat.reduceBEq, Nat.reduceAdd, Nat.reduceLeDiff, Nat.reduceSub, Int.reduceEq]
  refine LoopE.cnt (packN bs) (fun i s => s.env 0 = .rd .ent 4 1 (ra boolC bs) ∧ s.env 4 = .v (.int .i64 ((8 * i : Nat) : Int)) ∧ s.env 3 = .ref [3] ∧ s.σ [3] = some (.row 5 1 (bytesA ((List.range i).map fun b => UInt8.ofNat (hvS bs (8 * b) 8))))) ⟨by simp -dsimp -implicitDefEqProofs only [go_sem, Nat.reduceBEq, Nat.reduceAdd, Nat.reduceLeDiff, Nat.reduceSub, Int.reduceEq, initE], by simp -dsimp -implicitDefEqProofs only [go_sem, Nat.reduceBEq, Nat.reduceAdd, Nat.reduceLeDiff, Nat.reduceSub, Int.reduceEq] <;> simp, by simp -dsimp -implicitDefEqProofs only [go_sem, Nat.reduceBEq, Nat.reduceAdd, Nat.reduceLeDiff, Nat.reduceSub, Int.reduceEq], by simp -dsimp -implicitDefEqProofs only [go_sem, Nat.reduceBEq, Nat.reduceAdd, Nat.reduceLeDiff, Nat.reduceSub, Int.reduceEq]; rfl⟩ ?_
  rintro i ⟨e, σ⟩ hi ⟨h0, h4, h3, hs⟩ K hK
  simp only at h0 h4 h3 hs
  simp -dsimp -implicitDefEqProofs only [go_sem, Nat.reduceBEq, Nat.reduceAdd, Nat.reduceLeDiff, Nat.reduceSub, Int.reduceEq, h0, h4, h3, hs]
  have hN : i < packN bs ↔ 8 * i < bs.length := by unfold packN; omega
  refine ifB'.of (fun hlt => ?_) (fun hlt => ?_)
  · have hlt : 8 * i < bs.length := by omega
    simp -dsimp -implicitDefEqProofs only [go_sem, Nat.reduceBEq, Nat.reduceAdd, Nat.reduceLeDiff, Nat.reduceSub, Int.reduceEq, h0, h4, h3, hs]
    refine LoopE.cnt 8 (fun m s => s.env 0 = .rd .ent 4 1 (ra boolC bs) ∧ s.env 4 = .v (.int .i64 ((8 * i : Nat) : Int)) ∧ s.env 3 = .ref [3] ∧ s.σ [3] = some (.row 5 1 (bytesA ((List.range i).map fun b => UInt8.ofNat (hvS bs (8 * b) 8)))) ∧ s.env 5 = .v (.int .i64 (hvS bs (8 * i) m)) ∧ s.env 6 = .v (.int .i64 (7 - (m : Int)))) ⟨by simp -dsimp -implicitDefEqProofs only [go_sem, Nat.reduceBEq, Nat.reduceAdd, Nat.reduceLeDiff, Nat.reduceSub, Int.reduceEq, h0, h4, h3, hs], by simp -dsimp -implicitDefEqProofs only [go_sem, Nat.reduceBEq, Nat.reduceAdd, Nat.reduceLeDiff, Nat.reduceSub, Int.reduceEq, h0, h4, h3, hs], by simp -dsimp -implicitDefEqProofs only [go_sem, Nat.reduceBEq, Nat.reduceAdd, Nat.reduceLeDiff, Nat.reduceSub, Int.reduceEq, h0, h4, h3, hs], by simp -dsimp -implicitDefEqProofs only [go_sem, Nat.reduceBEq, Nat.reduceAdd, Nat.reduceLeDiff, Nat.reduceSub, Int.reduceEq, h0, h4, h3, hs], by simp -dsimp -implicitDefEqProofs only [go_sem, Nat.reduceBEq, Nat.reduceAdd, Nat.reduceLeDiff, Nat.reduceSub, Int.reduceEq, h0, h4, h3, hs] <;> simp [hvS], by simp -dsimp -implicitDefEqProofs only [go_sem, Nat.reduceBEq, Nat.reduceAdd, Nat.reduceLeDiff, Nat.reduceSub, Int.reduceEq, h0, h4, h3, hs] <;> simp⟩ ?_
    rintro m ⟨e, σ⟩ hm ⟨h0, h4, h3, hs, h5, h6⟩ K' hK'
    simp only at h0 h4 h3 hs h5 h6
    simp -dsimp -implicitDefEqProofs only [go_sem, Nat.reduceBEq, Nat.reduceAdd, Nat.reduceLeDiff, Nat.reduceSub, Int.reduceEq, h0, h4, h3, hs, h5, h6]
    refine ifB'.of (fun hm8 => ?_) (fun hm8 => ?_)
    · have hv := hvS_256 bs (8 * i) m hm
      have e1 : IntKind.i64.wrap ((hvS bs (8 * i) m : Int) * 2) = ((hvS bs (8 * i) m * 2 : Nat) : Int) := by rw [wrap_i64_of (by omega) (by omega)]; omega
      have e2 : IntKind.i64.wrap (((8 * i : Nat) : Int) + (7 - (m : Int))) = ((8 * i + (7 - m) : Nat) : Int) := by rw [wrap_i64_of (by omega) (by omega)]; omega
      have e3 : IntKind.i64.wrap (7 - (m : Int) - 1) = 7 - ((m + 1 : Nat) : Int) := by rw [wrap_i64_of (by omega) (by omega)]; omega
      simp -dsimp -implicitDefEqProofs only [go_sem, Nat.reduceBEq, Nat.reduceAdd, Nat.reduceLeDiff, Nat.reduceSub, Int.reduceEq, h0, h4, h3, hs, h5, h6, e1, e2]
      refine ifB'.of (fun hin => ?_) (fun hin => ?_)
      · have hin : 8 * i + (7 - m) < bs.length := by omega
        simp -dsimp -implicitDefEqProofs only [go_sem, Nat.reduceBEq, Nat.reduceAdd, Nat.reduceLeDiff, Nat.reduceSub, Int.reduceEq, h0, h4, h3, hs, h5, h6, e1, e2, boolA_at hin]
        repeat with_reducible refine ask.of (by omega) ?_
        cases hb : bs[8 * i + (7 - m)]
        · simp -dsimp -implicitDefEqProofs only [go_sem, Nat.reduceBEq, Nat.reduceAdd, Nat.reduceLeDiff, Nat.reduceSub, Int.reduceEq, h0, h4, h3, hs, h5, h6, e1, e2, hb]
          refine hK' _ (by omega) ?_
          simp -dsimp -implicitDefEqProofs only [go_sem, Nat.reduceBEq, Nat.reduceAdd, Nat.reduceLeDiff, Nat.reduceSub, Int.reduceEq, h0, h4, h3, hs, h5, h6, e3]
          simp [hvS, bitAt, hin, hb]
        · simp -dsimp -implicitDefEqProofs only [go_sem, Nat.reduceBEq, Nat.reduceAdd, Nat.reduceLeDiff, Nat.reduceSub, Int.reduceEq, h0, h4, h3, hs, h5, h6, e1, e2, hb]
          refine hK' _ (by omega) ?_
          simp -dsimp -implicitDefEqProofs only [go_sem, Nat.reduceBEq, Nat.reduceAdd, Nat.reduceLeDiff, Nat.reduceSub, Int.reduceEq, h0, h4, h3, hs, h5, h6, e3, wrap_succ (show hvS bs (8 * i) m * 2 < 4611686018427387904 by omega)]
          simp [hvS, bitAt, hin, hb]
      · simp -dsimp -implicitDefEqProofs only [go_sem, Nat.reduceBEq, Nat.reduceAdd, Nat.reduceLeDiff, Nat.reduceSub, Int.reduceEq, h0, h4, h3, hs, h5, h6, e1, e2]
        refine hK' _ (by omega) ?_
        simp -dsimp -implicitDefEqProofs only [go_sem, Nat.reduceBEq, Nat.reduceAdd, Nat.reduceLeDiff, Nat.reduceSub, Int.reduceEq, h0, h4, h3, hs, h5, h6, e3]
        simp [hvS, bitAt, show bs[8 * i + (7 - m)]? = none by simp; omega]
    · have : m = 8 := by omega
      subst this
      simp -dsimp -implicitDefEqProofs only [go_sem, Nat.reduceBEq, Nat.reduceAdd, Nat.reduceLeDiff, Nat.reduceSub, Int.reduceEq, h0, h4, h3, hs, h5, h6, u8_of_nat]
      repeat with_reducible refine ask.of (by omega) ?_
      have e4 : IntKind.i64.wrap (((8 * i : Nat) : Int) + 8) = ((8 * (i + 1) : Nat) : Int) := by rw [wrap_i64_of (by omega) (by omega)]; omega
      refine hK _ (hN.2 hlt) ?_
      simp -dsimp -implicitDefEqProofs only [go_sem, Nat.reduceBEq, Nat.reduceAdd, Nat.reduceLeDiff, Nat.reduceSub, Int.reduceEq, h0, h4, h3, hs, h5, h6, e4, snoc_range (fun b => UInt8.ofNat (hvS bs (8 * b) 8)) i rfl]
  · simp -dsimp -implicitDefEqProofs only [go_sem, Nat.reduceBEq, Nat.reduceAdd, Nat.reduceLeDiff, Nat.reduceSub, Int.reduceEq, h0, h4, h3, hs]
    have : i = packN bs := by omega
    subst this
    rfl
theorem bit_or (b : UInt8) (k : Nat) (hk : k < 8) : IntKind.u8.wrap (((BitVec.ofInt IntKind.u8.bits (b.toNat : Int) ||| BitVec.ofInt IntKind.u8.bits (IntKind.u8.wrap (1 * 2 ^ min k 8))).toNat : Nat) : Int) = ((b ||| UInt8.ofNat (2 ^ k)).toNat : Int) := by
  have bv8 : ∀ a : UInt8, BitVec.ofInt 8 (a.toNat : Int) = a.toBitVec := fun a => by apply BitVec.eq_of_toNat_eq; simp
  have e : IntKind.u8.wrap (1 * 2 ^ min k 8) = ((UInt8.ofNat (2 ^ k)).toNat : Int) := by
    match k, hk with
    | 0, _ => rfl
    | 1, _ => rfl
    | 2, _ => rfl
    | 3, _ => rfl
    | 4, _ => rfl
    | 5, _ => rfl
    | 6, _ => rfl
    | 7, _ => rfl
  rw [e]
  show IntKind.u8.wrap (((BitVec.ofInt 8 (b.toNat : Int) ||| BitVec.ofInt 8 ((UInt8.ofNat (2 ^ k)).toNat : Int)).toNat : Nat) : Int) = _
  rw [bv8, bv8, wrap_u8, Nat.mod_eq_of_lt (BitVec.isLt _)]
  rfl
def h8 (x0 x1 x2 x3 x4 x5 x6 x7 : Bool) : Nat := (((((((0 * 2 + x7.toNat) * 2 + x6.toNat) * 2 + x5.toNat) * 2 + x4.toNat) * 2 + x3.toNat) * 2 + x2.toNat) * 2 + x1.toNat) * 2 + x0.toNat
theorem bits_or : ∀ (x0 x1 x2 x3 x4 x5 x6 x7 : Bool), (x0 = false → UInt8.ofNat (h8 x0 x1 x2 x3 x4 x5 x6 x7) ||| 1 = UInt8.ofNat (h8 true x1 x2 x3 x4 x5 x6 x7)) ∧ (x1 = false → UInt8.ofNat (h8 x0 x1 x2 x3 x4 x5 x6 x7) ||| 2 = UInt8.ofNat (h8 x0 true x2 x3 x4 x5 x6 x7)) ∧ (x2 = false → UInt8.ofNat (h8 x0 x1 x2 x3 x4 x5 x6 x7) ||| 4 = UInt8.ofNat (h8 x0 x1 true x3 x4 x5 x6 x7)) ∧ (x3 = false → UInt8.ofNat (h8 x0 x1 x2 x3 x4 x5 x6 x7) ||| 8 = UInt8.ofNat (h8 x0 x1 x2 true x4 x5 x6 x7)) ∧ (x4 = false → UInt8.ofNat (h8 x0 x1 x2 x3 x4 x5 x6 x7) ||| 16 = UInt8.ofNat (h8 x0 x1 x2 x3 true x5 x6 x7)) ∧ (x5 = false → UInt8.ofNat (h8 x0 x1 x2 x3 x4 x5 x6 x7) ||| 32 = UInt8.ofNat (h8 x0 x1 x2 x3 x4 true x6 x7)) ∧ (x6 = false → UInt8.ofNat (h8 x0 x1 x2 x3 x4 x5 x6 x7) ||| 64 = UInt8.ofNat (h8 x0 x1 x2 x3 x4 x5 true x7)) ∧ (x7 = false → UInt8.ofNat (h8 x0 x1 x2 x3 x4 x5 x6 x7) ||| 128 = UInt8.ofNat (h8 x0 x1 x2 x3 x4 x5 x6 true)) := by decide
theorem bits_set (f g : Nat → Bool) (b k : Nat) (hk : k < 8) (hg : ∀ j, j ≠ 8 * b + k → g j = f j) (h0 : f (8 * b + k) = false) (h1 : g (8 * b + k) = true) :
    UInt8.ofNat (h8 (f (8 * b + 0)) (f (8 * b + 1)) (f (8 * b + 2)) (f (8 * b + 3)) (f (8 * b + 4)) (f (8 * b + 5)) (f (8 * b + 6)) (f (8 * b + 7))) ||| UInt8.ofNat (2 ^ k) = UInt8.ofNat (h8 (g (8 * b + 0)) (g (8 * b + 1)) (g (8 * b + 2)) (g (8 * b + 3)) (g (8 * b + 4)) (g (8 * b + 5)) (g (8 * b + 6)) (g (8 * b + 7))) := match k, hk with
  | 0, _ => by rw [hg (8 * b + 1) (by omega), hg (8 * b + 2) (by omega), hg (8 * b + 3) (by omega), hg (8 * b + 4) (by omega), hg (8 * b + 5) (by omega), hg (8 * b + 6) (by omega), hg (8 * b + 7) (by omega), h1]; exact (bits_or (f (8 * b + 0)) (f (8 * b + 1)) (f (8 * b + 2)) (f (8 * b + 3)) (f (8 * b + 4)) (f (8 * b + 5)) (f (8 * b + 6)) (f (8 * b + 7))).1 h0
  | 1, _ => by rw [hg (8 * b + 0) (by omega), hg (8 * b + 2) (by omega), hg (8 * b + 3) (by omega), hg (8 * b + 4) (by omega), hg (8 * b + 5) (by omega), hg (8 * b + 6) (by omega), hg (8 * b + 7) (by omega), h1]; exact (bits_or (f (8 * b + 0)) (f (8 * b + 1)) (f (8 * b + 2)) (f (8 * b + 3)) (f (8 * b + 4)) (f (8 * b + 5)) (f (8 * b + 6)) (f (8 * b + 7))).2.1 h0
  | 2, _ => by rw [hg (8 * b + 0) (by omega), hg (8 * b + 1) (by omega), hg (8 * b + 3) (by omega), hg (8 * b + 4) (by omega), hg (8 * b + 5) (by omega), hg (8 * b + 6) (by omega), hg (8 * b + 7) (by omega), h1]; exact (bits_or (f (8 * b + 0)) (f (8 * b + 1)) (f (8 * b + 2)) (f (8 * b + 3)) (f (8 * b + 4)) (f (8 * b + 5)) (f (8 * b + 6)) (f (8 * b + 7))).2.2.1 h0
  | 3, _ => by rw [hg (8 * b + 0) (by omega), hg (8 * b + 1) (by omega), hg (8 * b + 2) (by omega), hg (8 * b + 4) (by omega), hg (8 * b + 5) (by omega), hg (8 * b + 6) (by omega), hg (8 * b + 7) (by omega), h1]; exact (bits_or (f (8 * b + 0)) (f (8 * b + 1)) (f (8 * b + 2)) (f (8 * b + 3)) (f (8 * b + 4)) (f (8 * b + 5)) (f (8 * b + 6)) (f (8 * b + 7))).2.2.2.1 h0
  | 4, _ => by rw [hg (8 * b + 0) (by omega), hg (8 * b + 1) (by omega), hg (8 * b + 2) (by omega), hg (8 * b + 3) (by omega), hg (8 * b + 5) (by omega), hg (8 * b + 6) (by omega), hg (8 * b + 7) (by omega), h1]; exact (bits_or (f (8 * b + 0)) (f (8 * b + 1)) (f (8 * b + 2)) (f (8 * b + 3)) (f (8 * b + 4)) (f (8 * b + 5)) (f (8 * b + 6)) (f (8 * b + 7))).2.2.2.2.1 h0
  | 5, _ => by rw [hg (8 * b + 0) (by omega), hg (8 * b + 1) (by omega), hg (8 * b + 2) (by omega), hg (8 * b + 3) (by omega), hg (8 * b + 4) (by omega), hg (8 * b + 6) (by omega), hg (8 * b + 7) (by omega), h1]; exact (bits_or (f (8 * b + 0)) (f (8 * b + 1)) (f (8 * b + 2)) (f (8 * b + 3)) (f (8 * b + 4)) (f (8 * b + 5)) (f (8 * b + 6)) (f (8 * b + 7))).2.2.2.2.2.1 h0
  | 6, _ => by rw [hg (8 * b + 0) (by omega), hg (8 * b + 1) (by omega), hg (8 * b + 2) (by omega), hg (8 * b + 3) (by omega), hg (8 * b + 4) (by omega), hg (8 * b + 5) (by omega), hg (8 * b + 7) (by omega), h1]; exact (bits_or (f (8 * b + 0)) (f (8 * b + 1)) (f (8 * b + 2)) (f (8 * b + 3)) (f (8 * b + 4)) (f (8 * b + 5)) (f (8 * b + 6)) (f (8 * b + 7))).2.2.2.2.2.2.1 h0
  | 7, _ => by rw [hg (8 * b + 0) (by omega), hg (8 * b + 1) (by omega), hg (8 * b + 2) (by omega), hg (8 * b + 3) (by omega), hg (8 * b + 4) (by omega), hg (8 * b + 5) (by omega), hg (8 * b + 6) (by omega), h1]; exact (bits_or (f (8 * b + 0)) (f (8 * b + 1)) (f (8 * b + 2)) (f (8 * b + 3)) (f (8 * b + 4)) (f (8 * b + 5)) (f (8 * b + 6)) (f (8 * b + 7))).2.2.2.2.2.2.2 h0
def packT (l : List Bool) (i : Nat) : List UInt8 := (List.range (packN l)).map fun b => UInt8.ofNat (hvS (l.take i) (8 * b) 8)
theorem packT_length (l : List Bool) (i : Nat) : (packT l i).length = packN l := by simp [packT]
theorem packT_zero (l : List Bool) : packT l 0 = List.replicate (packN l) 0 := by
  apply List.ext_getElem (by simp [packT])
  intro i h1 h2
  simp [packT, hvS, bitAt]
theorem packT_full (l : List Bool) : packT l l.length = packB l := by simp [packT, packB]
theorem packT_false (l : List Bool) {i : Nat} (h : i < l.length) (hb : l[i] = false) : packT l (i + 1) = packT l i := by
  have e : ∀ j, bitAt (l.take (i + 1)) j = bitAt (l.take i) j := fun j => by
    unfold bitAt
    rw [List.getElem?_take, List.getElem?_take]
    by_cases h1 : j < i
    · rw [if_pos h1, if_pos (by omega)]
    · rw [if_neg h1]
      by_cases h2 : j = i
      · subst h2; simp [h, hb]
      · rw [if_neg (by omega)]
  have e2 : ∀ b m, hvS (l.take (i + 1)) b m = hvS (l.take i) b m := fun b m => by
    induction m with
    | zero => rfl
    | succ m ih => rw [hvS, hvS, ih, e]
  simp [packT, e2]
theorem packT_true (l : List Bool) {i : Nat} (h : i < l.length) (hb : l[i] = true) {x : UInt8} (hx : (packT l i)[i / 8]? = some x) : (packT l i).set (i / 8) (x ||| UInt8.ofNat (2 ^ (i % 8))) = packT l (i + 1) := by
  have hN : i / 8 < packN l := by unfold packN; omega
  have hx : x = UInt8.ofNat (hvS (l.take i) (8 * (i / 8)) 8) := by simpa [packT, hN, eq_comm] using hx
  have e : ∀ j, j ≠ i → (l.take (i + 1))[j]?.getD false = (l.take i)[j]?.getD false := fun j hj => by
    rw [List.getElem?_take, List.getElem?_take]
    by_cases h1 : j < i
    · rw [if_pos h1, if_pos (by omega)]
    · rw [if_neg h1, if_neg (by omega)]
  have ei : 8 * (i / 8) + i % 8 = i := by omega
  apply List.ext_getElem (by simp [packT])
  intro j h1 h2
  rw [List.getElem_set]
  split
  · rename_i hj
    subst hj
    have := bits_set (fun j => (l.take i)[j]?.getD false) (fun j => (l.take (i + 1))[j]?.getD false) (i / 8) (i % 8) (by omega) (fun j hj => e j (by omega)) (by show (l.take i)[8 * (i / 8) + i % 8]?.getD false = false; rw [ei, List.getElem?_take, if_neg (by omega)]; rfl) (by show (l.take (i + 1))[8 * (i / 8) + i % 8]?.getD false = true; rw [ei]; simp [h, hb])
    rw [hx]
    simp only [packT, List.getElem_map, List.getElem_range]
    exact this
  · rename_i hj
    have e2 : ∀ m, m ≤ 8 → hvS (l.take (i + 1)) (8 * j) m = hvS (l.take i) (8 * j) m := fun m hm => by
      induction m with
      | zero => rfl
      | succ m ih =>
        rw [hvS, hvS, ih (by omega)]
        congr 1
        unfold bitAt
        rw [e _ (by omega)]
    simp [packT, e2 8 (by omega)]
theorem c_iPackBits (bs : List Bool) (hb : bs.length ≤ 8388608) : Meets Try.prog 133 [rowO bs] (fun r => r = rowB (packB bs)) := by
  have eN : IntKind.i64.wrap ((IntKind.i64.wrap ((bs.length : Int) + 7)).tdiv 8) = ((packN bs : Nat) : Int) := by
    rw [wrap_i64_of (n := (bs.length : Int) + 7) (by omega) (by omega), Int.tdiv_eq_ediv_of_nonneg (by omega), wrap_i64_of (by omega) (by omega)]
    unfold packN; omega
  refine Meets.intro mixed (hint [(2, 122)]) Try.func133 rfl (by decide) res_133 rty_133 (by kernel_rfl) ?_; 
  simp -dsimp -implicitDefEqProofs only [go_sem, Nat.reduceBEq, Nat.reduceAdd, Nat.reduceLeDiff, Nat.reduceSub, Int.reduceEq, eN]
  refine ask.of (by unfold packN; omega) ?_
  refine LoopE.cnt bs.length (fun i s => s.env 11 = .rd .ent 4 1 (ra boolC bs) ∧ s.env 12 = .v (.int .i64 bs.length) ∧ s.env 13 = .v (.int .i64 i) ∧ s.env 3 = .ref [10] ∧ s.σ [10] = some (.row 5 1 (bytesA (packT bs i)))) ⟨by simp -dsimp -implicitDefEqProofs only [go_sem, Nat.reduceBEq, Nat.reduceAdd, Nat.reduceLeDiff, Nat.reduceSub, Int.reduceEq, initE], by simp -dsimp -implicitDefEqProofs only [go_sem, Nat.reduceBEq, Nat.reduceAdd, Nat.reduceLeDiff, Nat.reduceSub, Int.reduceEq, initE], by simp -dsimp -implicitDefEqProofs only [go_sem, Nat.reduceBEq, Nat.reduceAdd, Nat.reduceLeDiff, Nat.reduceSub, Int.reduceEq] <;> simp, by simp -dsimp -implicitDefEqProofs only [go_sem, Nat.reduceBEq, Nat.reduceAdd, Nat.reduceLeDiff, Nat.reduceSub, Int.reduceEq], by simp -dsimp -implicitDefEqProofs only [go_sem, Nat.reduceBEq, Nat.reduceAdd, Nat.reduceLeDiff, Nat.reduceSub, Int.reduceEq, packT_zero]⟩ ?_
  rintro i ⟨e, σ⟩ hi ⟨h11, h12, h13, h3, hs⟩ K hK
  simp only at h11 h12 h13 h3 hs
  simp -dsimp -implicitDefEqProofs only [go_sem, Nat.reduceBEq, Nat.reduceAdd, Nat.reduceLeDiff, Nat.reduceSub, Int.reduceEq, h11, h12, h13, h3, hs]
  refine ifB'.of (fun hlt => ?_) (fun hlt => ?_)
  · have hlt : i < bs.length := by omega
    simp -dsimp -implicitDefEqProofs only [go_sem, Nat.reduceBEq, Nat.reduceAdd, Nat.reduceLeDiff, Nat.reduceSub, Int.reduceEq, h11, h12, h13, h3, hs, boolA_at hlt]
    repeat with_reducible refine ask.of (by omega) ?_
    cases hb : bs[i]
    · simp -dsimp -implicitDefEqProofs only [go_sem, Nat.reduceBEq, Nat.reduceAdd, Nat.reduceLeDiff, Nat.reduceSub, Int.reduceEq, h11, h12, h13, h3, hs, hb]
      refine hK _ hlt ?_
      simp -dsimp -implicitDefEqProofs only [go_sem, Nat.reduceBEq, Nat.reduceAdd, Nat.reduceLeDiff, Nat.reduceSub, Int.reduceEq, h11, h12, h13, h3, hs, wrap_succ (show i < 4611686018427387904 by omega), packT_false bs hlt hb]
    · have e1 : IntKind.i64.wrap ((i : Int).tdiv 8) = ((i / 8 : Nat) : Int) := by rw [Int.tdiv_eq_ediv_of_nonneg (by omega), wrap_i64_of (by omega) (by omega)]; omega
      have e2 : (i : Int).tmod 8 = ((i % 8 : Nat) : Int) := rfl
      have hi8 : i / 8 < packN bs := by unfold packN; omega
      obtain ⟨x, hx⟩ : ∃ x, (packT bs i)[i / 8]? = some x := ⟨_, List.getElem?_eq_getElem (by rw [packT_length]; exact hi8)⟩
      simp -dsimp -implicitDefEqProofs only [go_sem, Nat.reduceBEq, Nat.reduceAdd, Nat.reduceLeDiff, Nat.reduceSub, Int.reduceEq, h11, h12, h13, h3, hs, hb, e1, e2, packT_length, bytesA_at' hx]
      repeat with_reducible refine ask.of (by omega) ?_
      refine hK _ hlt ?_
      simp -dsimp -implicitDefEqProofs only [go_sem, Nat.reduceBEq, Nat.reduceAdd, Nat.reduceLeDiff, Nat.reduceSub, Int.reduceEq, h11, h12, h13, h3, hs, wrap_succ (show i < 4611686018427387904 by omega), bit_or x (i % 8) (by omega), packT_true bs hlt hb hx]
  · have : i = bs.length := by omega
    subst this
    simp -dsimp -implicitDefEqProofs only [go_sem, Nat.reduceBEq, Nat.reduceAdd, Nat.reduceLeDiff, Nat.reduceSub, Int.reduceEq, h11, h12, h13, h3, hs, packT_full]
end Go.Ev
set_option linter.unusedSimpArgs false
set_option linter.unusedVariables false
namespace Go.Ev
open Go Go.RowKit Go.Proofs
def bitOf (c : UInt8) (k : Nat) : Bool := decide (c.toNat / 2 ^ k % 2 = 1)
def bitB (b : List UInt8) (i : Nat) : Bool := bitOf (b[i / 8]?.getD 0) (i % 8)
def bitsB (b : List UInt8) (n : Nat) : List Bool := (List.range n).map (bitB b)
theorem bitsB_length (b : List UInt8) (n : Nat) : (bitsB b n).length = n := by simp [bitsB]
theorem bitsB_succ (b : List UInt8) (n : Nat) : bitsB b n ++ [bitB b n] = bitsB b (n + 1) := by simp [bitsB, List.range_succ]
def padOk (b : List UInt8) (n : Nat) : Prop := ∀ j, n ≤ j → j < 8 * b.length → bitB b j = false
instance (b : List UInt8) (n : Nat) : Decidable (padOk b n) :=
  if h : ((List.range (8 * b.length)).all fun j => decide (j < n) || !bitB b j) = true then .isTrue (fun j h1 h2 => by
    have := List.all_eq_true.1 h j (List.mem_range.2 h2)
    have h3 : ¬ j < n := by omega
    simpa [h3] using this)
  else .isFalse (fun hp => h (List.all_eq_true.2 fun j hj => by
    by_cases h1 : j < n
    · simp [h1]
    · have := hp j (by omega) (List.mem_range.1 hj)
      simp [this]))
def unpackC (b : List UInt8) (n : Int) : List Bool × Nat :=
  if n < 0 then ([], 1) else if n > 8 * b.length ∨ n ≤ 8 * ((b.length : Int) - 1) then ([], 3) else if padOk b n.toNat then (bitsB b n.toNat, 0) else ([], 3)
theorem u8_shr (c : UInt8) (k : Nat) (hk : k < 8) : (c.toNat : Int).fdiv (2 ^ (min k 8)) = ((c.toNat / 2 ^ k : Nat) : Int) := by
  rw [Nat.min_eq_left (by omega), Int.fdiv_eq_ediv_of_nonneg _ (Int.le_of_lt (Int.pow_pos (by decide))), Int.natCast_ediv]; simp
theorem u8_and1 (n : Nat) (hn : n < 256) : IntKind.u8.wrap (((BitVec.ofInt IntKind.u8.bits (n : Int) &&& BitVec.ofInt IntKind.u8.bits 1).toNat : Nat) : Int) = ((n % 2 : Nat) : Int) := by
  show IntKind.u8.wrap (((BitVec.ofInt 8 (n : Int) &&& BitVec.ofInt 8 1).toNat : Nat) : Int) = _
  have e : BitVec.ofInt 8 (n : Int) &&& BitVec.ofInt 8 1 = BitVec.ofNat 8 (n % 2) := by
    apply BitVec.eq_of_toNat_eq
    simp [Nat.mod_eq_of_lt hn, Nat.and_one_is_mod]
    omega
  rw [e, wrap_u8]
  simp only [BitVec.toNat_ofNat]
  omega
theorem bit_eq (c : UInt8) (k : Nat) : decide (((c.toNat / 2 ^ k % 2 : Nat) : Int) = 1) = bitOf c k := by
  unfold bitOf
  congr 1
  exact propext ⟨fun h => by omega, fun h => by omega⟩
theorem bit_eq' {b : List UInt8} {i : Nat} (h : i / 8 < b.length) : decide (((b[i / 8].toNat / 2 ^ (i % 8) % 2 : Nat) : Int) = 1) = bitB b i := by rw [bit_eq]; simp [bitB, h]
theorem tmod8' (n : Nat) : (n : Int).tmod 8 = ((n % 8 : Nat) : Int) := rfl
theorem tmod2' (n : Nat) : (n : Int).tmod 2 = ((n % 2 : Nat) : Int) := rfl
theorem bitB_at {b : List UInt8} {i : Nat} (h : i / 8 < b.length) : bitB b i = bitOf b[i / 8] (i % 8) := by simp [bitB, h]
theorem tdiv8 {i : Nat} (hi : i < 4611686018427387904) : IntKind.i64.wrap ((i : Int).tdiv 8) = ((i / 8 : Nat) : Int) := by rw [Int.tdiv_eq_ediv_of_nonneg (by omega), wrap_i64_of (by omega) (by omega)]; omega
theorem wrap_u64 {n : Nat} (h : n < 18446744073709551616) : IntKind.u64.wrap (n : Int) = (n : Int) := by
  simp [IntKind.wrap, IntKind.bits, IntKind.signed]; omega
theorem c_specUnpackBits (b : List UInt8) (n : Int) (hb : b.length ≤ 1048576) (hn : -9223372036854775808 ≤ n) (hn' : n ≤ 9223372036854775807) : Meets Try.prog 142 [rowB b, .v (.int .i64 n)] (fun r => r = .tup [rowO (unpackC b n).1, .v (.int .i64 (unpackC b n).2)]) := by
  have e8 : IntKind.i64.wrap (8 * (b.length : Int)) = ((8 * b.length : Nat) : Int) := by rw [wrap_i64_of (by omega) (by omega)]; omega
  have e9 : IntKind.i64.wrap ((b.length : Int) - 1) = (b.length : Int) - 1 := wrap_i64_of (by omega) (by omega)
  have e10 : IntKind.i64.wrap (8 * ((b.length : Int) - 1)) = 8 * ((b.length : Int) - 1) := wrap_i64_of (by omega) (by omega)
  refine Meets.intro mixed (hint [(6, 260)]) Try.func142 rfl (by decide) res_142 rty_142 (by kernel_rfl) ?_; 
  simp -dsimp -implicitDefEqProofs only [go_sem, Nat.reduceBEq, Nat.reduceAdd, Nat.reduceLeDiff, Nat.reduceSub, Int.reduceEq]
  refine ifB'.of (fun h => ?_) (fun h => ?_)
  · simp -dsimp -implicitDefEqProofs only [go_sem, Nat.reduceBEq, Nat.reduceAdd, Nat.reduceLeDiff, Nat.reduceSub, Int.reduceEq]
    rw [unpackC, if_pos h]; rfl
  simp -dsimp -implicitDefEqProofs only [go_sem, Nat.reduceBEq, Nat.reduceAdd, Nat.reduceLeDiff, Nat.reduceSub, Int.reduceEq, e8]
  have fin3 : n > 8 * b.length ∨ n ≤ 8 * ((b.length : Int) - 1) → unpackC b n = ([], 3) := fun h2 => by rw [unpackC, if_neg h, if_pos h2]
  refine ifB'.of (fun h2 => ?_) (fun h2 => ?_)
  · simp -dsimp -implicitDefEqProofs only [go_sem, Nat.reduceBEq, Nat.reduceAdd, Nat.reduceLeDiff, Nat.reduceSub, Int.reduceEq, fin3 (.inl (by omega))]
    rfl
  simp -dsimp -implicitDefEqProofs only [go_sem, Nat.reduceBEq, Nat.reduceAdd, Nat.reduceLeDiff, Nat.reduceSub, Int.reduceEq, e8, e9, e10]
  refine ifB'.of (fun h3 => ?_) (fun h3 => ?_)
  · simp -dsimp -implicitDefEqProofs only [go_sem, Nat.reduceBEq, Nat.reduceAdd, Nat.reduceLeDiff, Nat.reduceSub, Int.reduceEq, fin3 (.inr (by omega))]
    rfl
  simp -dsimp -implicitDefEqProofs only [go_sem, Nat.reduceBEq, Nat.reduceAdd, Nat.reduceLeDiff, Nat.reduceSub, Int.reduceEq, e8]
  have fin : unpackC b n = if padOk b n.toNat then (bitsB b n.toNat, 0) else ([], 3) := by rw [unpackC, if_neg h, if_neg (by omega)]
  obtain ⟨m, rfl⟩ : ∃ m : Nat, n = m := ⟨n.toNat, by omega⟩
  rw [Int.toNat_natCast] at fin
  refine LoopE.cnt (8 * b.length) (fun i s => s.env 0 = .rd .ent 5 1 (bytesA b) ∧ s.env 1 = .v (.int .i64 m) ∧ s.env 7 = .v (.int .i64 i) ∧ s.env 6 = .ref [6] ∧ s.σ [6] = some (.row 4 1 (ra boolC (bitsB b (min i m)))) ∧ (∀ j, m ≤ j → j < i → bitB b j = false)) ⟨by simp -dsimp -implicitDefEqProofs only [go_sem, Nat.reduceBEq, Nat.reduceAdd, Nat.reduceLeDiff, Nat.reduceSub, Int.reduceEq, initE], by simp -dsimp -implicitDefEqProofs only [go_sem, Nat.reduceBEq, Nat.reduceAdd, Nat.reduceLeDiff, Nat.reduceSub, Int.reduceEq, initE], by simp -dsimp -implicitDefEqProofs only [go_sem, Nat.reduceBEq, Nat.reduceAdd, Nat.reduceLeDiff, Nat.reduceSub, Int.reduceEq], by simp -dsimp -implicitDefEqProofs only [go_sem, Nat.reduceBEq, Nat.reduceAdd, Nat.reduceLeDiff, Nat.reduceSub, Int.reduceEq], by simp -dsimp -implicitDefEqProofs only [go_sem, Nat.reduceBEq, Nat.reduceAdd, Nat.reduceLeDiff, Nat.reduceSub, Int.reduceEq] <;> simp [bitsB] <;> rfl, fun j h1 h2 => by omega⟩ ?_
  rintro i ⟨e, σ⟩ hi ⟨h0, h1, h7, h6, hs, hz⟩ K hK
  simp only at h0 h1 h7 h6 hs
  simp -dsimp -implicitDefEqProofs only [go_sem, Nat.reduceBEq, Nat.reduceAdd, Nat.reduceLeDiff, Nat.reduceSub, Int.reduceEq, h0, h1, h7, h6, hs, e8]
  refine ifB'.of (fun hlt => ?_) (fun hlt => ?_)
  · have hlt : i < 8 * b.length := by omega
    have hd : i / 8 < b.length := by omega
    have e7 : i % 8 < 8 := by omega
    simp -dsimp -implicitDefEqProofs only [go_sem, Nat.reduceBEq, Nat.reduceAdd, Nat.reduceLeDiff, Nat.reduceSub, Int.reduceEq, h0, h1, h7, h6, hs, tdiv8 (show i < 4611686018427387904 by omega), bytesA_at hd, tmod8', wrap_u64 (show i % 8 < 18446744073709551616 by omega), Int.toNat_natCast, u8_shr (b[i / 8]'hd) (i % 8) e7, tmod2', bit_eq' hd]
    repeat with_reducible refine ask.of (by omega) ?_
    refine ifB'.of (fun hin => ?_) (fun hin => ?_)
    · have hin : i < m := by omega
      have e1 : min i m = i := by omega
      have e2 : min (i + 1) m = i + 1 := by omega
      simp -dsimp -implicitDefEqProofs only [go_sem, Nat.reduceBEq, Nat.reduceAdd, Nat.reduceLeDiff, Nat.reduceSub, Int.reduceEq, h0, h1, h7, h6, hs, e1, bitsB_length]
      repeat with_reducible refine ask.of (by omega) ?_
      refine hK _ hlt ?_
      simp -dsimp -implicitDefEqProofs only [go_sem, Nat.reduceBEq, Nat.reduceAdd, Nat.reduceLeDiff, Nat.reduceSub, Int.reduceEq, h0, h1, h7, h6, hs, wrap_succ (show i < 4611686018427387904 by omega), bitsB_succ, e1, e2]
      exact fun j h1 h2 => by omega
    · simp -dsimp -implicitDefEqProofs only [go_sem, Nat.reduceBEq, Nat.reduceAdd, Nat.reduceLeDiff, Nat.reduceSub, Int.reduceEq, h0, h1, h7, h6, hs]
      cases hbit : bitB b i
      · simp -dsimp -implicitDefEqProofs only [go_sem, Nat.reduceBEq, Nat.reduceAdd, Nat.reduceLeDiff, Nat.reduceSub, Int.reduceEq, h0, h1, h7, h6, hs, hbit]
        refine hK _ hlt ?_
        have e1 : min i m = m := by omega
        have e2 : min (i + 1) m = m := by omega
        simp -dsimp -implicitDefEqProofs only [go_sem, Nat.reduceBEq, Nat.reduceAdd, Nat.reduceLeDiff, Nat.reduceSub, Int.reduceEq, h0, h1, h7, h6, hs, wrap_succ (show i < 4611686018427387904 by omega), e1, e2]
        exact fun j h1 h2 => by
          rcases Nat.lt_or_ge j i with h3 | h3
          · exact hz j h1 h3
          · obtain rfl : j = i := by omega
            exact hbit
      · simp -dsimp -implicitDefEqProofs only [go_sem, Nat.reduceBEq, Nat.reduceAdd, Nat.reduceLeDiff, Nat.reduceSub, Int.reduceEq, h0, h1, h7, h6, hs, hbit]
        rw [fin, if_neg (fun hp => by have := hp i (by omega) hlt; rw [hbit] at this; cases this)]
        rfl
  · have : i = 8 * b.length := by omega
    subst this
    have hm : min (8 * b.length) m = m := by omega
    have hpad : padOk b m := fun j h1 h2 => hz j h1 h2
    simp -dsimp -implicitDefEqProofs only [go_sem, Nat.reduceBEq, Nat.reduceAdd, Nat.reduceLeDiff, Nat.reduceSub, Int.reduceEq, h0, h1, h7, h6, hs, fin, if_pos hpad, hm]
end Go.Ev
set_option linter.unusedSimpArgs false
set_option linter.unusedVariables false
namespace Go.Ev
open Go Go.RowKit Go.Proofs
theorem c_bytesEqual (a b : List UInt8) (ha : a.length ≤ 140737488355328) (hb : b.length ≤ 140737488355328) : Meets Try.prog 74 [rowB a, rowB b] (fun r => r = .v (.bool (decide (a = b)))) := by
  refine Meets.intro mixed (hint []) Try.func74 rfl (by decide) res_74 rty_74 (by kernel_rfl) ?_; 
  simp -dsimp -implicitDefEqProofs only [go_sem, Nat.reduceBEq, Nat.reduceAdd, Nat.reduceLeDiff, Nat.reduceSub, Int.reduceEq, initE]
  exact decide_eq_decide.2 ⟨fun h => by simpa using h, fun h => by rw [h]⟩
def bitT (b : List UInt8) (n i : Nat) : List Bool := (List.range n).map fun j => decide (j < i) && bitB b j
theorem bitT_length (b : List UInt8) (n i : Nat) : (bitT b n i).length = n := by simp [bitT]
theorem bitT_zero (b : List UInt8) (n : Nat) : bitT b n 0 = List.replicate n false := by
  apply List.ext_getElem (by simp [bitT])
  intro i h1 h2
  simp [bitT]
theorem bitT_full (b : List UInt8) (n : Nat) : bitT b n n = bitsB b n := by
  apply List.ext_getElem (by simp [bitT, bitsB])
  intro i h1 h2
  simp [bitT, bitsB]
  simp [bitT] at h1
  omega
theorem bitT_set (b : List UInt8) {n i : Nat} (h : i < n) : (bitT b n i).set i (bitB b i) = bitT b n (i + 1) := by
  apply List.ext_getElem (by simp [bitT])
  intro j h1 h2
  rw [List.getElem_set]
  split
  · rename_i hj; subst hj; simp [bitT]
  · rename_i hj
    simp only [bitT, List.getElem_map, List.getElem_range]
    congr 1
    exact decide_eq_decide.2 ⟨fun h => by omega, fun h => by omega⟩
theorem bitsB_get (b : List UInt8) (n j : Nat) : (bitsB b n)[j]?.getD false = (decide (j < n) && bitB b j) := by
  by_cases h : j < n
  · simp [bitsB, h]
  · simp [bitsB, h]
theorem hvS_bit (l : List Bool) (q k : Nat) (hk : k < 8) : bitOf (UInt8.ofNat (hvS l (8 * q) 8)) k = l[8 * q + k]?.getD false := by
  have e : (UInt8.ofNat (hvS l (8 * q) 8)).toNat = hvS l (8 * q) 8 := by
    have := hvS_256 l (8 * q) 8 (by omega)
    simp; omega
  have e2 : hvS l (8 * q) 8 / 2 ^ k % 2 = bitAt l (8 * q + k) := by
    simp only [hvS, Nat.sub_zero, Nat.add_zero]
    have h0 := bitAt_le l (8 * q)
    have h1 := bitAt_le l (8 * q + 1)
    have h2 := bitAt_le l (8 * q + 2)
    have h3 := bitAt_le l (8 * q + 3)
    have h4 := bitAt_le l (8 * q + 4)
    have h5 := bitAt_le l (8 * q + 5)
    have h6 := bitAt_le l (8 * q + 6)
    have h7 := bitAt_le l (8 * q + 7)
    match k, hk with
    | 0, _ => simp; omega
    | 1, _ => simp; omega
    | 2, _ => simp; omega
    | 3, _ => simp; omega
    | 4, _ => simp; omega
    | 5, _ => simp; omega
    | 6, _ => simp; omega
    | 7, _ => simp; omega
  unfold bitOf
  rw [e, e2]
  unfold bitAt
  cases l[8 * q + k]?.getD false <;> rfl
theorem bits_ext (c d : UInt8) (h : ∀ k, k < 8 → bitOf c k = bitOf d k) : c = d := by
  have e : ∀ k, k < 8 → c.toNat / 2 ^ k % 2 = d.toNat / 2 ^ k % 2 := fun k hk => by
    have := h k hk
    unfold bitOf at this
    have := decide_eq_decide.1 this
    omega
  have h0 := e 0 (by omega)
  have h1 := e 1 (by omega)
  have h2 := e 2 (by omega)
  have h3 := e 3 (by omega)
  have h4 := e 4 (by omega)
  have h5 := e 5 (by omega)
  have h6 := e 6 (by omega)
  have h7 := e 7 (by omega)
  have hc := c.toNat_lt
  have hd := d.toNat_lt
  simp at h0 h1 h2 h3 h4 h5 h6 h7
  exact UInt8.toNat_inj.1 (by omega)
theorem pack_unpack (b : List UInt8) (n : Nat) (h : packN (bitsB b n) = b.length) : packB (bitsB b n) = b ↔ padOk b n := by
  have hg : ∀ q (hq : q < b.length) k, k < 8 → bitOf ((packB (bitsB b n))[q]'(by rw [packB_length, h]; exact hq)) k = (decide (8 * q + k < n) && bitB b (8 * q + k)) := fun q hq k hk => by
    simp only [packB, List.getElem_map, List.getElem_range]
    rw [hvS_bit _ _ _ hk, bitsB_get]
  have hB : ∀ q (hq : q < b.length) k, k < 8 → bitB b (8 * q + k) = bitOf b[q] k := fun q hq k hk => by
    have e1 : (8 * q + k) / 8 = q := by omega
    have e2 : (8 * q + k) % 8 = k := by omega
    rw [bitB, e1, e2]; simp [hq]
  constructor
  · intro he j h1 h2
    have hq : j / 8 < b.length := by omega
    have := hg (j / 8) hq (j % 8) (by omega)
    simp only [he] at this
    rw [← hB _ hq _ (by omega), show 8 * (j / 8) + j % 8 = j by omega, decide_eq_false (by omega)] at this
    exact this
  · intro hp
    apply List.ext_getElem (by rw [packB_length, h])
    intro q h1 h2
    refine bits_ext _ _ fun k hk => ?_
    rw [hg q h2 k hk, ← hB q h2 k hk]
    by_cases hj : 8 * q + k < n
    · simp [hj]
    · simp [hj, hp (8 * q + k) (by omega) (by omega)]
theorem c_implUnpackBits (b : List UInt8) (n : Int) (hb : b.length ≤ 1048576) (hn : -9223372036854775808 ≤ n) (hn' : n ≤ 9223372036854775807) : Meets Try.prog 135 [rowB b, .v (.int .i64 n)] (fun r => r = .tup [rowO (unpackC b n).1, .v (.int .i64 (unpackC b n).2)]) := by
  refine Meets.intro mixed (hint []) Try.func135 rfl (by decide) res_135 rty_135 (by kernel_rfl) ?_; 
  simp -dsimp -implicitDefEqProofs only [go_sem, Nat.reduceBEq, Nat.reduceAdd, Nat.reduceLeDiff, Nat.reduceSub, Int.reduceEq]
  refine ifB'.of (fun h => ?_) (fun h => ?_)
  · simp -dsimp -implicitDefEqProofs only [go_sem, Nat.reduceBEq, Nat.reduceAdd, Nat.reduceLeDiff, Nat.reduceSub, Int.reduceEq]
    rw [unpackC, if_pos h]; rfl
  obtain ⟨m, rfl⟩ : ∃ m : Nat, n = m := ⟨n.toNat, by omega⟩
  have e1 : IntKind.i64.wrap ((m : Int).tdiv 8) = ((m / 8 : Nat) : Int) := by rw [Int.tdiv_eq_ediv_of_nonneg (by omega), wrap_i64_of (by omega) (by omega)]; omega
  have e2 : IntKind.i64.wrap (((m / 8 : Nat) : Int) + 1) = ((m / 8 + 1 : Nat) : Int) := by rw [wrap_i64_of (by omega) (by omega)]; omega
  have fin3 : (b.length : Int) ≠ ((m + 7) / 8 : Nat) → unpackC b m = ([], 3) := fun h2 => by rw [unpackC, if_neg h, if_pos (by omega)]
  have fin : (b.length : Int) = ((m + 7) / 8 : Nat) → unpackC b m = if padOk b m then (bitsB b m, 0) else ([], 3) := fun h2 => by rw [unpackC, if_neg h, if_neg (by omega)]; rfl
  have pw : (b.length : Int) = ((m + 7) / 8 : Nat) → packN (bitsB b m) = b.length := fun h2 => by unfold packN; rw [bitsB_length]; omega
  simp -dsimp -implicitDefEqProofs only [go_sem, Nat.reduceBEq, Nat.reduceAdd, Nat.reduceLeDiff, Nat.reduceSub, Int.reduceEq, e1, tmod8']
  refine ifB'.of (fun hr => ?_) (fun hr => ?_)
  · have ez : m / 8 + 1 = (m + 7) / 8 := by omega
    simp -dsimp -implicitDefEqProofs only [go_sem, Nat.reduceBEq, Nat.reduceAdd, Nat.reduceLeDiff, Nat.reduceSub, Int.reduceEq, e2]
    refine ifB'.of (fun h2 => ?_) (fun h2 => ?_)
    rotate_left
    · simp -dsimp -implicitDefEqProofs only [go_sem, Nat.reduceBEq, Nat.reduceAdd, Nat.reduceLeDiff, Nat.reduceSub, Int.reduceEq, fin3 (by omega)]
      rfl
    have h2 : (b.length : Int) = ((m + 7) / 8 : Nat) := by omega
    simp -dsimp -implicitDefEqProofs only [go_sem, Nat.reduceBEq, Nat.reduceAdd, Nat.reduceLeDiff, Nat.reduceSub, Int.reduceEq]
    repeat with_reducible refine ask.of (by omega) ?_
    refine LoopE.cnt m (fun i s => s.env 0 = .rd .ent 5 1 (bytesA b) ∧ s.env 25 = .v (.int .i64 m) ∧ s.env 26 = .v (.int .i64 i) ∧ s.env 7 = .ref [23] ∧ s.σ [23] = some (.row 4 1 (ra boolC (bitT b m i)))) ⟨by simp -dsimp -implicitDefEqProofs only [go_sem, Nat.reduceBEq, Nat.reduceAdd, Nat.reduceLeDiff, Nat.reduceSub, Int.reduceEq, initE], by simp -dsimp -implicitDefEqProofs only [go_sem, Nat.reduceBEq, Nat.reduceAdd, Nat.reduceLeDiff, Nat.reduceSub, Int.reduceEq, initE], by simp -dsimp -implicitDefEqProofs only [go_sem, Nat.reduceBEq, Nat.reduceAdd, Nat.reduceLeDiff, Nat.reduceSub, Int.reduceEq] <;> simp, by simp -dsimp -implicitDefEqProofs only [go_sem, Nat.reduceBEq, Nat.reduceAdd, Nat.reduceLeDiff, Nat.reduceSub, Int.reduceEq], by simp -dsimp -implicitDefEqProofs only [go_sem, Nat.reduceBEq, Nat.reduceAdd, Nat.reduceLeDiff, Nat.reduceSub, Int.reduceEq, bitT_zero]⟩ ?_
    rintro i ⟨e, σ⟩ hi ⟨h0, h25, h26, h7, hs⟩ K hK
    simp only at h0 h25 h26 h7 hs
    simp -dsimp -implicitDefEqProofs only [go_sem, Nat.reduceBEq, Nat.reduceAdd, Nat.reduceLeDiff, Nat.reduceSub, Int.reduceEq, h0, h25, h26, h7, hs]
    refine ifB'.of (fun hlt => ?_) (fun hlt => ?_)
    · have hlt : i < m := by omega
      have hd : i / 8 < b.length := by omega
      have e7 : i % 8 < 8 := by omega
      obtain ⟨x, hx⟩ : ∃ x, (bitT b m i)[i]? = some x := ⟨_, List.getElem?_eq_getElem (by rw [bitT_length]; exact hlt)⟩
      simp -dsimp -implicitDefEqProofs only [go_sem, Nat.reduceBEq, Nat.reduceAdd, Nat.reduceLeDiff, Nat.reduceSub, Int.reduceEq, h0, h25, h26, h7, hs, tdiv8 (show i < 4611686018427387904 by omega), bytesA_at hd, tmod8', u8_shr (b[i / 8]'hd) (i % 8) e7, bit_eq' hd, bitT_length, boolA_at' hx]
      repeat with_reducible refine ask.of (by omega) ?_
      refine hK _ hlt ?_
      simp -dsimp -implicitDefEqProofs only [go_sem, Nat.reduceBEq, Nat.reduceAdd, Nat.reduceLeDiff, Nat.reduceSub, Int.reduceEq, h0, h25, h26, h7, hs, wrap_succ (show i < 4611686018427387904 by omega), u8_and1 _ (show b[i / 8].toNat / 2 ^ (i % 8) < 256 from Nat.lt_of_le_of_lt (Nat.div_le_self _ _) (UInt8.toNat_lt _)), bit_eq' hd, bitT_set b hlt]
    · obtain rfl : i = m := by omega
      rw [bitT_full] at hs
      simp -dsimp -implicitDefEqProofs only [go_sem, Nat.reduceBEq, Nat.reduceAdd, Nat.reduceLeDiff, Nat.reduceSub, Int.reduceEq, h0, h25, h26, h7, hs]
      refine CallE.of (c_iPackBits (bitsB b i) (by rw [bitsB_length]; omega)) (by rintro r rfl; (repeat' first | exact trivial | exact pure_rowB _ | exact pure_rowO _ | exact pure_rowI _ | exact pure_rowBB _ | exact pure_rowPk _ _ | exact pure_rowSn _ _ | exact pure_rowFd _ _ | exact pure_rowBBB _ | exact pure_rowCl _ _ | exact pure_rowTb _ _ _ | refine And.intro ?_ ?_)) (by simp -dsimp -implicitDefEqProofs only [go_sem, Nat.reduceBEq, Nat.reduceAdd, Nat.reduceLeDiff, Nat.reduceSub, Int.reduceEq, h0, h25, h26, h7, hs]) ?_
      rintro r rfl
      simp -dsimp -implicitDefEqProofs only [go_sem, Nat.reduceBEq, Nat.reduceAdd, Nat.reduceLeDiff, Nat.reduceSub, Int.reduceEq, h0, h25, h26, h7, hs]
      refine CallE.of (c_bytesEqual (packB (bitsB b i)) b (by rw [packB_length, pw h2]; omega) (by omega)) (by rintro r rfl; (repeat' first | exact trivial | exact pure_rowB _ | exact pure_rowO _ | exact pure_rowI _ | exact pure_rowBB _ | exact pure_rowPk _ _ | exact pure_rowSn _ _ | exact pure_rowFd _ _ | exact pure_rowBBB _ | exact pure_rowCl _ _ | exact pure_rowTb _ _ _ | refine And.intro ?_ ?_)) (by simp -dsimp -implicitDefEqProofs only [go_sem, Nat.reduceBEq, Nat.reduceAdd, Nat.reduceLeDiff, Nat.reduceSub, Int.reduceEq, h0, h25, h26, h7, hs]) ?_
      rintro r rfl
      simp -dsimp -implicitDefEqProofs only [go_sem, Nat.reduceBEq, Nat.reduceAdd, Nat.reduceLeDiff, Nat.reduceSub, Int.reduceEq, h0, h25, h26, h7, hs]
      refine ifB'.of (fun hp => ?_) (fun hp => ?_)
      · simp -dsimp -implicitDefEqProofs only [go_sem, Nat.reduceBEq, Nat.reduceAdd, Nat.reduceLeDiff, Nat.reduceSub, Int.reduceEq, h0, h25, h26, h7, hs]
        rw [fin h2, if_pos ((pack_unpack b i (pw h2)).1 hp)]
        rfl
      · simp -dsimp -implicitDefEqProofs only [go_sem, Nat.reduceBEq, Nat.reduceAdd, Nat.reduceLeDiff, Nat.reduceSub, Int.reduceEq, h0, h25, h26, h7, hs]
        rw [fin h2, if_neg (fun hq => hp ((pack_unpack b i (pw h2)).2 hq))]
        rfl
  · have ez : m / 8 = (m + 7) / 8 := by omega
    simp -dsimp -implicitDefEqProofs only [go_sem, Nat.reduceBEq, Nat.reduceAdd, Nat.reduceLeDiff, Nat.reduceSub, Int.reduceEq, e1]
    refine ifB'.of (fun h2 => ?_) (fun h2 => ?_)
    rotate_left
    · simp -dsimp -implicitDefEqProofs only [go_sem, Nat.reduceBEq, Nat.reduceAdd, Nat.reduceLeDiff, Nat.reduceSub, Int.reduceEq, fin3 (by omega)]
      rfl
    have h2 : (b.length : Int) = ((m + 7) / 8 : Nat) := by omega
    simp -dsimp -implicitDefEqProofs only [go_sem, Nat.reduceBEq, Nat.reduceAdd, Nat.reduceLeDiff, Nat.reduceSub, Int.reduceEq]
    repeat with_reducible refine ask.of (by omega) ?_
    refine LoopE.cnt m (fun i s => s.env 0 = .rd .ent 5 1 (bytesA b) ∧ s.env 25 = .v (.int .i64 m) ∧ s.env 26 = .v (.int .i64 i) ∧ s.env 7 = .ref [23] ∧ s.σ [23] = some (.row 4 1 (ra boolC (bitT b m i)))) ⟨by simp -dsimp -implicitDefEqProofs only [go_sem, Nat.reduceBEq, Nat.reduceAdd, Nat.reduceLeDiff, Nat.reduceSub, Int.reduceEq, initE], by simp -dsimp -implicitDefEqProofs only [go_sem, Nat.reduceBEq, Nat.reduceAdd, Nat.reduceLeDiff, Nat.reduceSub, Int.reduceEq, initE], by simp -dsimp -implicitDefEqProofs only [go_sem, Nat.reduceBEq, Nat.reduceAdd, Nat.reduceLeDiff, Nat.reduceSub, Int.reduceEq] <;> simp, by simp -dsimp -implicitDefEqProofs only [go_sem, Nat.reduceBEq, Nat.reduceAdd, Nat.reduceLeDiff, Nat.reduceSub, Int.reduceEq], by simp -dsimp -implicitDefEqProofs only [go_sem, Nat.reduceBEq, Nat.reduceAdd, Nat.reduceLeDiff, Nat.reduceSub, Int.reduceEq, bitT_zero]⟩ ?_
    rintro i ⟨e, σ⟩ hi ⟨h0, h25, h26, h7, hs⟩ K hK
    simp only at h0 h25 h26 h7 hs
    simp -dsimp -implicitDefEqProofs only [go_sem, Nat.reduceBEq, Nat.reduceAdd, Nat.reduceLeDiff, Nat.reduceSub, Int.reduceEq, h0, h25, h26, h7, hs]
    refine ifB'.of (fun hlt => ?_) (fun hlt => ?_)
    · have hlt : i < m := by omega
      have hd : i / 8 < b.length := by omega
      have e7 : i % 8 < 8 := by omega
      obtain ⟨x, hx⟩ : ∃ x, (bitT b m i)[i]? = some x := ⟨_, List.getElem?_eq_getElem (by rw [bitT_length]; exact hlt)⟩
      simp -dsimp -implicitDefEqProofs only [go_sem, Nat.reduceBEq, Nat.reduceAdd, Nat.reduceLeDiff, Nat.reduceSub, Int.reduceEq, h0, h25, h26, h7, hs, tdiv8 (show i < 4611686018427387904 by omega), bytesA_at hd, tmod8', u8_shr (b[i / 8]'hd) (i % 8) e7, bit_eq' hd, bitT_length, boolA_at' hx]
      repeat with_reducible refine ask.of (by omega) ?_
      refine hK _ hlt ?_
      simp -dsimp -implicitDefEqProofs only [go_sem, Nat.reduceBEq, Nat.reduceAdd, Nat.reduceLeDiff, Nat.reduceSub, Int.reduceEq, h0, h25, h26, h7, hs, wrap_succ (show i < 4611686018427387904 by omega), u8_and1 _ (show b[i / 8].toNat / 2 ^ (i % 8) < 256 from Nat.lt_of_le_of_lt (Nat.div_le_self _ _) (UInt8.toNat_lt _)), bit_eq' hd, bitT_set b hlt]
    · obtain rfl : i = m := by omega
      rw [bitT_full] at hs
      simp -dsimp -implicitDefEqProofs only [go_sem, Nat.reduceBEq, Nat.reduceAdd, Nat.reduceLeDiff, Nat.reduceSub, Int.reduceEq, h0, h25, h26, h7, hs]
      refine CallE.of (c_iPackBits (bitsB b i) (by rw [bitsB_length]; omega)) (by rintro r rfl; (repeat' first | exact trivial | exact pure_rowB _ | exact pure_rowO _ | exact pure_rowI _ | exact pure_rowBB _ | exact pure_rowPk _ _ | exact pure_rowSn _ _ | exact pure_rowFd _ _ | exact pure_rowBBB _ | exact pure_rowCl _ _ | exact pure_rowTb _ _ _ | refine And.intro ?_ ?_)) (by simp -dsimp -implicitDefEqProofs only [go_sem, Nat.reduceBEq, Nat.reduceAdd, Nat.reduceLeDiff, Nat.reduceSub, Int.reduceEq, h0, h25, h26, h7, hs]) ?_
      rintro r rfl
      simp -dsimp -implicitDefEqProofs only [go_sem, Nat.reduceBEq, Nat.reduceAdd, Nat.reduceLeDiff, Nat.reduceSub, Int.reduceEq, h0, h25, h26, h7, hs]
      refine CallE.of (c_bytesEqual (packB (bitsB b i)) b (by rw [packB_length, pw h2]; omega) (by omega)) (by rintro r rfl; (repeat' first | exact trivial | exact pure_rowB _ | exact pure_rowO _ | exact pure_rowI _ | exact pure_rowBB _ | exact pure_rowPk _ _ | exact pure_rowSn _ _ | exact pure_rowFd _ _ | exact pure_rowBBB _ | exact pure_rowCl _ _ | exact pure_rowTb _ _ _ | refine And.intro ?_ ?_)) (by simp -dsimp -implicitDefEqProofs only [go_sem, Nat.reduceBEq, Nat.reduceAdd, Nat.reduceLeDiff, Nat.reduceSub, Int.reduceEq, h0, h25, h26, h7, hs]) ?_
      rintro r rfl
      simp -dsimp -implicitDefEqProofs only [go_sem, Nat.reduceBEq, Nat.reduceAdd, Nat.reduceLeDiff, Nat.reduceSub, Int.reduceEq, h0, h25, h26, h7, hs]
      refine ifB'.of (fun hp => ?_) (fun hp => ?_)
      · simp -dsimp -implicitDefEqProofs only [go_sem, Nat.reduceBEq, Nat.reduceAdd, Nat.reduceLeDiff, Nat.reduceSub, Int.reduceEq, h0, h25, h26, h7, hs]
        rw [fin h2, if_pos ((pack_unpack b i (pw h2)).1 hp)]
        rfl
      · simp -dsimp -implicitDefEqProofs only [go_sem, Nat.reduceBEq, Nat.reduceAdd, Nat.reduceLeDiff, Nat.reduceSub, Int.reduceEq, h0, h25, h26, h7, hs]
        rw [fin h2, if_neg (fun hq => hp ((pack_unpack b i (pw h2)).2 hq))]
        rfl
end Go.Ev
set_option linter.unusedSimpArgs false
set_option linter.unusedVariables false
namespace Go.Ev
open Go Go.RowKit Go.Proofs
def leN : List UInt8 → Nat
  | [] => 0
  | c :: cs => c.toNat + 256 * leN cs
theorem leN_drop {b : List UInt8} {i : Nat} (h : i < b.length) : leN (b.drop i) = b[i].toNat + 256 * leN (b.drop (i + 1)) := by
  rw [List.drop_eq_getElem_cons h, leN]
theorem wrap_ex (x : Int) : ∃ k : Int, IntKind.i64.wrap x = x + 18446744073709551616 * k := by
  rw [IntKind.wrap_i64]
  exact ⟨-((x + 9223372036854775808) / 18446744073709551616), by omega⟩
theorem wrap_more (x k : Int) : IntKind.i64.wrap (x + 18446744073709551616 * k) = IntKind.i64.wrap x := by
  rw [IntKind.wrap_i64, IntKind.wrap_i64]; omega
theorem wrap_step (n c : Int) : IntKind.i64.wrap (IntKind.i64.wrap (IntKind.i64.wrap n * 256) + c) = IntKind.i64.wrap (c + 256 * n) := by
  obtain ⟨k, hk⟩ := wrap_ex n
  obtain ⟨k2, hk2⟩ := wrap_ex (IntKind.i64.wrap n * 256)
  rw [hk2, hk, show (n + 18446744073709551616 * k) * 256 + 18446744073709551616 * k2 + c = c + 256 * n + 18446744073709551616 * (256 * k + k2) by omega, wrap_more]
theorem or_byte (n : Nat) (c : UInt8) : IntKind.i64.wrap (((BitVec.ofInt IntKind.i64.bits (IntKind.i64.wrap (IntKind.i64.wrap (n : Int) * 2 ^ min (Int.toNat 8) 64)) ||| BitVec.ofInt IntKind.i64.bits (c.toNat : Int)).toNat : Nat) : Int) = IntKind.i64.wrap ((c.toNat + 256 * n : Nat) : Int) := by
  show IntKind.i64.wrap (((BitVec.ofInt 64 (IntKind.i64.wrap (IntKind.i64.wrap (n : Int) * 256)) ||| BitVec.ofInt 64 (c.toNat : Int)).toNat : Nat) : Int) = _
  have hc := c.toNat_lt
  have e : (BitVec.ofInt 64 (IntKind.i64.wrap (IntKind.i64.wrap (n : Int) * 256)) ||| BitVec.ofInt 64 (c.toNat : Int)).toNat = (c.toNat + 256 * n) % 18446744073709551616 := by
    have e1 : (BitVec.ofInt 64 (IntKind.i64.wrap (IntKind.i64.wrap (n : Int) * 256))).toNat = (n % 72057594037927936) <<< 8 := by
      simp only [BitVec.toNat_ofInt, Nat.shiftLeft_eq, IntKind.wrap_i64]
      omega
    have e2 : (BitVec.ofInt 64 (c.toNat : Int)).toNat = c.toNat := by
      simp only [BitVec.toNat_ofInt]
      omega
    rw [BitVec.toNat_or, e1, e2, ← Nat.shiftLeft_add_eq_or_of_lt (by omega), Nat.shiftLeft_eq]
    omega
  rw [e, IntKind.wrap_i64, IntKind.wrap_i64]
  omega
theorem c_l1number (b : List UInt8) (hb : b.length ≤ 1048576) : Meets Try.prog 86 [rowB b] (fun r => r = .v (.int .i64 (IntKind.i64.wrap (leN b)))) := by
  have e1 : IntKind.i64.wrap ((b.length : Int) - 1) = (b.length : Int) - 1 := wrap_i64_of (by omega) (by omega)
  refine Meets.intro mixed (hint []) Try.func86 rfl (by decide) res_86 rty_86 (by kernel_rfl) ?_; 
  simp -dsimp -implicitDefEqProofs only [go_sem, Nat.reduceBEq, Nat.reduceAdd, Nat.reduceLeDiff, Nat.reduceSub, Int.reduceEq, e1]
  refine LoopE.cnt b.length (fun i s => s.env 0 = .rd .ent 5 1 (bytesA b) ∧ s.env 4 = .v (.int .i64 ((b.length : Int) - 1 - i)) ∧ s.env 3 = .v (.int .i64 (IntKind.i64.wrap (leN (b.drop (b.length - i)))))) ⟨by simp -dsimp -implicitDefEqProofs only [go_sem, Nat.reduceBEq, Nat.reduceAdd, Nat.reduceLeDiff, Nat.reduceSub, Int.reduceEq, initE], by simp -dsimp -implicitDefEqProofs only [go_sem, Nat.reduceBEq, Nat.reduceAdd, Nat.reduceLeDiff, Nat.reduceSub, Int.reduceEq] <;> simp, by simp -dsimp -implicitDefEqProofs only [go_sem, Nat.reduceBEq, Nat.reduceAdd, Nat.reduceLeDiff, Nat.reduceSub, Int.reduceEq] <;> simp [leN] <;> rfl⟩ ?_
  rintro i ⟨e, σ⟩ hi ⟨h0, h4, h3⟩ K hK
  simp only at h0 h4 h3
  simp -dsimp -implicitDefEqProofs only [go_sem, Nat.reduceBEq, Nat.reduceAdd, Nat.reduceLeDiff, Nat.reduceSub, Int.reduceEq, h0, h4, h3]
  refine ifB'.of (fun hlt => ?_) (fun hlt => ?_)
  · have hlt : i < b.length := by omega
    obtain ⟨j, hj⟩ : ∃ j : Nat, b.length - 1 - i = j := ⟨_, rfl⟩
    have hj1 : (b.length : Int) - 1 - i = (j : Nat) := by omega
    have hj2 : b.length - i = j + 1 := by omega
    have hj3 : j < b.length := by omega
    have e2 : IntKind.i64.wrap (IntKind.i64.wrap (IntKind.i64.wrap (leN (b.drop (j + 1)) : Int) * 256) + (b[j].toNat : Int)) = IntKind.i64.wrap (leN (b.drop j) : Int) := by
      rw [leN_drop hj3, wrap_step]
      congr 1
    have e3 : IntKind.i64.wrap ((j : Int) - 1) = (b.length : Int) - 1 - ((i + 1 : Nat) : Int) := by rw [wrap_i64_of (by omega) (by omega)]; omega
    have e5 : IntKind.i64.wrap (b[j].toNat : Int) = b[j].toNat := wrap_nat (by have := b[j].toNat_lt; omega)
    simp -dsimp -implicitDefEqProofs only [go_sem, Nat.reduceBEq, Nat.reduceAdd, Nat.reduceLeDiff, Nat.reduceSub, Int.reduceEq, h0, h4, h3, hj1, hj2, bytesA_at hj3, e5]
    repeat with_reducible refine ask.of (by omega) ?_
    refine hK _ hlt ?_
    simp -dsimp -implicitDefEqProofs only [go_sem, Nat.reduceBEq, Nat.reduceAdd, Nat.reduceLeDiff, Nat.reduceSub, Int.reduceEq, h0, h4, h3, e2, e3, show b.length - (i + 1) = j by omega]
  · obtain rfl : i = b.length := by omega
    simp -dsimp -implicitDefEqProofs only [go_sem, Nat.reduceBEq, Nat.reduceAdd, Nat.reduceLeDiff, Nat.reduceSub, Int.reduceEq, h0, h4, h3, show b.length - b.length = 0 by omega, List.drop_zero]
theorem c_low (b : List UInt8) (hb : b.length ≤ 1048576) : Meets Try.prog 72 [rowB b] (fun r => r = .v (.int .i64 (IntKind.i64.wrap (leN b)))) := by
  have e1 : IntKind.i64.wrap ((b.length : Int) - 1) = (b.length : Int) - 1 := wrap_i64_of (by omega) (by omega)
  refine Meets.intro mixed (hint []) Try.func72 rfl (by decide) res_72 rty_72 (by kernel_rfl) ?_; 
  simp -dsimp -implicitDefEqProofs only [go_sem, Nat.reduceBEq, Nat.reduceAdd, Nat.reduceLeDiff, Nat.reduceSub, Int.reduceEq, e1]
  refine LoopE.cnt b.length (fun i s => s.env 0 = .rd .ent 5 1 (bytesA b) ∧ s.env 4 = .v (.int .i64 ((b.length : Int) - 1 - i)) ∧ s.env 3 = .v (.int .i64 (IntKind.i64.wrap (leN (b.drop (b.length - i)))))) ⟨by simp -dsimp -implicitDefEqProofs only [go_sem, Nat.reduceBEq, Nat.reduceAdd, Nat.reduceLeDiff, Nat.reduceSub, Int.reduceEq, initE], by simp -dsimp -implicitDefEqProofs only [go_sem, Nat.reduceBEq, Nat.reduceAdd, Nat.reduceLeDiff, Nat.reduceSub, Int.reduceEq] <;> simp, by simp -dsimp -implicitDefEqProofs only [go_sem, Nat.reduceBEq, Nat.reduceAdd, Nat.reduceLeDiff, Nat.reduceSub, Int.reduceEq] <;> simp [leN] <;> rfl⟩ ?_
  rintro i ⟨e, σ⟩ hi ⟨h0, h4, h3⟩ K hK
  simp only at h0 h4 h3
  simp -dsimp -implicitDefEqProofs only [go_sem, Nat.reduceBEq, Nat.reduceAdd, Nat.reduceLeDiff, Nat.reduceSub, Int.reduceEq, h0, h4, h3]
  refine ifB'.of (fun hlt => ?_) (fun hlt => ?_)
  · have hlt : i < b.length := by omega
    obtain ⟨j, hj⟩ : ∃ j : Nat, b.length - 1 - i = j := ⟨_, rfl⟩
    have hj1 : (b.length : Int) - 1 - i = (j : Nat) := by omega
    have hj2 : b.length - i = j + 1 := by omega
    have hj3 : j < b.length := by omega
    have e3 : IntKind.i64.wrap ((j : Int) - 1) = (b.length : Int) - 1 - ((i + 1 : Nat) : Int) := by rw [wrap_i64_of (by omega) (by omega)]; omega
    have e5 : IntKind.i64.wrap (b[j].toNat : Int) = b[j].toNat := wrap_nat (by have := b[j].toNat_lt; omega)
    simp -dsimp -implicitDefEqProofs only [go_sem, Nat.reduceBEq, Nat.reduceAdd, Nat.reduceLeDiff, Nat.reduceSub, Int.reduceEq, h0, h4, h3, hj1, hj2, bytesA_at hj3, e5]
    repeat with_reducible refine ask.of (by omega) ?_
    refine hK _ hlt ?_
    simp -dsimp -implicitDefEqProofs only [go_sem, Nat.reduceBEq, Nat.reduceAdd, Nat.reduceLeDiff, Nat.reduceSub, Int.reduceEq, h0, h4, h3, or_byte, e3, show b.length - (i + 1) = j by omega, leN_drop hj3]
  · obtain rfl : i = b.length := by omega
    simp -dsimp -implicitDefEqProofs only [go_sem, Nat.reduceBEq, Nat.reduceAdd, Nat.reduceLeDiff, Nat.reduceSub, Int.reduceEq, h0, h4, h3, show b.length - b.length = 0 by omega, List.drop_zero]
end Go.Ev
set_option linter.unusedSimpArgs false
set_option linter.unusedVariables false
namespace Go.Ev
open Go Go.RowKit Go.Proofs
def isW (n : Int) : Bool := decide (n = 1 ∨ n = 2 ∨ n = 4 ∨ n = 8)
theorem isW_nat {n : Int} (h : isW n = true) : ∃ w : Nat, n = w ∧ (w = 1 ∨ w = 2 ∨ w = 4 ∨ w = 8) := by
  have h : n = 1 ∨ n = 2 ∨ n = 4 ∨ n = 8 := by simpa [isW] using h
  exact ⟨n.toNat, by omega, by omega⟩
theorem isW_of {w : Nat} (h : w = 1 ∨ w = 2 ∨ w = 4 ∨ w = 8) : isW w = true := by
  have : (w : Int) = 1 ∨ (w : Int) = 2 ∨ (w : Int) = 4 ∨ (w : Int) = 8 := by omega
  simpa [isW] using this
theorem c_l1width (n : Int) : Meets Try.prog 165 [.v (.int .i64 n)] (fun r => r = .v (.bool (isW n))) := by
  refine Meets.intro mixed (hint []) Try.func165 rfl (by decide) res_165 rty_165 (by kernel_rfl) ?_; 
  by_cases h1 : n = 1
  · simp -dsimp -implicitDefEqProofs only [go_sem, Nat.reduceBEq, Nat.reduceAdd, Nat.reduceLeDiff, Nat.reduceSub, Int.reduceEq, initE, h1, decide_true, decide_false, show isW 1 = true from rfl]
  by_cases h2 : n = 2
  · simp -dsimp -implicitDefEqProofs only [go_sem, Nat.reduceBEq, Nat.reduceAdd, Nat.reduceLeDiff, Nat.reduceSub, Int.reduceEq, initE, h1, h2, decide_true, decide_false, show isW 2 = true from rfl, show ¬ (2 : Int) = 1 by decide]
  by_cases h4 : n = 4
  · simp -dsimp -implicitDefEqProofs only [go_sem, Nat.reduceBEq, Nat.reduceAdd, Nat.reduceLeDiff, Nat.reduceSub, Int.reduceEq, initE, h1, h2, h4, decide_true, decide_false, show isW 4 = true from rfl, show ¬ (4 : Int) = 1 by decide, show ¬ (4 : Int) = 2 by decide]
  by_cases h8 : n = 8
  · simp -dsimp -implicitDefEqProofs only [go_sem, Nat.reduceBEq, Nat.reduceAdd, Nat.reduceLeDiff, Nat.reduceSub, Int.reduceEq, initE, h1, h2, h4, h8, decide_true, decide_false, show isW 8 = true from rfl, show ¬ (8 : Int) = 1 by decide, show ¬ (8 : Int) = 2 by decide, show ¬ (8 : Int) = 4 by decide]
  have e : isW n = false := by simp [isW, h1, h2, h4, h8]
  simp -dsimp -implicitDefEqProofs only [go_sem, Nat.reduceBEq, Nat.reduceAdd, Nat.reduceLeDiff, Nat.reduceSub, Int.reduceEq, initE, h1, h2, h4, h8, e, decide_true, decide_false]
def chunk (b : List UInt8) (w i : Nat) : List UInt8 := (b.drop (w * i)).take w
theorem chunk_length {b : List UInt8} {w i : Nat} (h : w * i + w ≤ b.length) : (chunk b w i).length = w := by simp [chunk]; omega
theorem spec_chunk (b : List UInt8) (w i : Nat) : (b.take (w * i + w)).drop (w * i) = chunk b w i := by
  rw [List.drop_take, show w * i + w - w * i = w by omega]; rfl
def sval (c : List UInt8) : Int := if 2 * leN c < 256 ^ c.length then (leN c : Int) else (leN c : Int) - (256 ^ c.length : Nat)
def unpackI (b : List UInt8) (w k : Nat) : List Int := (List.range k).map fun i => sval (chunk b w i)
theorem unpackI_length (b : List UInt8) (w k : Nat) : (unpackI b w k).length = k := by simp [unpackI]
theorem unpackI_succ (b : List UInt8) (w k : Nat) : unpackI b w k ++ [sval (chunk b w k)] = unpackI b w (k + 1) := by simp [unpackI, List.range_succ]
def unpackIC (b : List UInt8) (n : Int) : List Int × Nat :=
  if isW n = true then (if b.length % n.toNat = 0 then (unpackI b n.toNat (b.length / n.toNat), 0) else ([], 3)) else ([], 1)
theorem leN_lt : ∀ c : List UInt8, leN c < 256 ^ c.length
  | [] => by simp [leN]
  | c :: cs => by
    have := leN_lt cs
    have := c.toNat_lt
    rw [leN, List.length_cons, Nat.pow_succ]; omega
theorem sval_wrap {c : List UInt8} (h : c.length = 8) : IntKind.i64.wrap (leN c) = sval c := by
  have := leN_lt c
  rw [sval, IntKind.wrap_i64]
  simp only [h] at this ⊢
  split <;> omega
theorem leN_snoc : ∀ (c : List UInt8) (x : UInt8), leN (c ++ [x]) = leN c + 256 ^ c.length * x.toNat
  | [], x => by simp [leN]
  | c :: cs, x => by
    rw [List.cons_append, leN, leN, leN_snoc cs x, List.length_cons, Nat.pow_succ, Nat.mul_add, Nat.mul_comm (256 ^ cs.length) 256, Nat.mul_assoc]; omega
theorem sval_top {c : List UInt8} {w : Nat} (h : c.length = w + 1) : sval c = if 128 ≤ (c[w]'(by omega)).toNat then (leN c : Int) - (256 ^ (w + 1) : Nat) else (leN c : Int) := by
  have e : c = c.take w ++ [c[w]'(by omega)] := by
    rw [List.take_append_getElem, ← h, List.take_length]
  have e2 : leN c = leN (c.take w) + 256 ^ w * (c[w]'(by omega)).toNat := by
    have := leN_snoc (c.take w) (c[w]'(by omega))
    rw [← e, List.length_take, Nat.min_eq_left (by omega)] at this
    exact this
  have h3 := leN_lt (c.take w)
  rw [List.length_take, Nat.min_eq_left (by omega)] at h3
  have e4 : sval c = if 2 * leN c < 256 ^ (w + 1) then (leN c : Int) else (leN c : Int) - (256 ^ (w + 1) : Nat) := by rw [sval, h]
  rw [e4, Nat.pow_succ]
  generalize (c[w]'(by omega)).toNat = t at e2
  generalize 256 ^ w = p at *
  by_cases ht : 128 ≤ t
  · have : p * 128 ≤ p * t := Nat.mul_le_mul_left p ht
    rw [if_pos ht, if_neg (by omega)]
  · have : p * t ≤ p * 127 := Nat.mul_le_mul_left p (by omega)
    rw [if_neg ht, if_pos (by omega)]
theorem chunk_get {b : List UInt8} {w i j : Nat} (h : j < (chunk b w i).length) (h' : w * i + j < b.length) : (chunk b w i)[j] = b[w * i + j] := by simp [chunk]
theorem tmodN (a b : Nat) : (a : Int).tmod b = ((a % b : Nat) : Int) := rfl
theorem sh_w {w : Nat} (h : w = 1 ∨ w = 2 ∨ w = 4) : IntKind.i64.wrap (1 * 2 ^ min (IntKind.u64.wrap (IntKind.i64.wrap (8 * (w : Int)))).toNat 64) = ((256 ^ w : Nat) : Int) := by
  rcases h with rfl | rfl | rfl <;> decide
theorem c_specUnpackInts (b : List UInt8) (n : Int) (hb : b.length ≤ 1048576) : Meets Try.prog 143 [rowB b, .v (.int .i64 n)] (fun r => r = .tup [rowI (unpackIC b n).1, .v (.int .i64 (unpackIC b n).2)]) := by
  refine Meets.intro mixed (hint [(6, 128)]) Try.func143 rfl (by decide) res_143 rty_143 (by kernel_rfl) ?_; 
  simp -dsimp -implicitDefEqProofs only [go_sem, Nat.reduceBEq, Nat.reduceAdd, Nat.reduceLeDiff, Nat.reduceSub, Int.reduceEq]
  refine CallE.of (c_l1width n) (by rintro r rfl; (repeat' first | exact trivial | exact pure_rowB _ | exact pure_rowO _ | exact pure_rowI _ | exact pure_rowBB _ | exact pure_rowPk _ _ | exact pure_rowSn _ _ | exact pure_rowFd _ _ | exact pure_rowBBB _ | exact pure_rowCl _ _ | exact pure_rowTb _ _ _ | refine And.intro ?_ ?_)) (by simp -dsimp -implicitDefEqProofs only [go_sem, Nat.reduceBEq, Nat.reduceAdd, Nat.reduceLeDiff, Nat.reduceSub, Int.reduceEq]) ?_
  rintro r rfl
  simp -dsimp -implicitDefEqProofs only [go_sem, Nat.reduceBEq, Nat.reduceAdd, Nat.reduceLeDiff, Nat.reduceSub, Int.reduceEq]
  cases hw : isW n
  · simp -dsimp -implicitDefEqProofs only [go_sem, Nat.reduceBEq, Nat.reduceAdd, Nat.reduceLeDiff, Nat.reduceSub, Int.reduceEq, hw, Bool.not_false]
    rw [unpackIC, hw]; rfl
  obtain ⟨w, rfl, hW⟩ := isW_nat hw
  have fin := unpackIC.eq_1 b w
  rw [if_pos hw, Int.toNat_natCast] at fin
  simp -dsimp -implicitDefEqProofs only [go_sem, Nat.reduceBEq, Nat.reduceAdd, Nat.reduceLeDiff, Nat.reduceSub, Int.reduceEq, hw, Bool.not_true, tmodN]
  refine ask.of (by omega) ?_
  refine ifB'.of (fun hr => ?_) (fun hr => ?_)
  rotate_left
  · simp -dsimp -implicitDefEqProofs only [go_sem, Nat.reduceBEq, Nat.reduceAdd, Nat.reduceLeDiff, Nat.reduceSub, Int.reduceEq]
    rw [fin, if_neg (by omega)]; rfl
  have hk := Nat.mul_div_cancel' (Nat.dvd_of_mod_eq_zero (show b.length % w = 0 by omega))
  have fin : unpackIC b w = (unpackI b w (b.length / w), 0) := by rw [fin, if_pos (by omega)]
  generalize b.length / w = k at hk fin
  simp -dsimp -implicitDefEqProofs only [go_sem, Nat.reduceBEq, Nat.reduceAdd, Nat.reduceLeDiff, Nat.reduceSub, Int.reduceEq]
  refine LoopE.cnt k (fun i s => s.env 0 = .rd .ent 5 1 (bytesA b) ∧ s.env 1 = .v (.int .i64 w) ∧ s.env 7 = .v (.int .i64 ((w * i : Nat) : Int)) ∧ s.env 6 = .ref [6] ∧ s.σ [6] = some (.row 3 1 (ra intC (unpackI b w i)))) ⟨by simp -dsimp -implicitDefEqProofs only [go_sem, Nat.reduceBEq, Nat.reduceAdd, Nat.reduceLeDiff, Nat.reduceSub, Int.reduceEq, initE], by simp -dsimp -implicitDefEqProofs only [go_sem, Nat.reduceBEq, Nat.reduceAdd, Nat.reduceLeDiff, Nat.reduceSub, Int.reduceEq, initE], by simp -dsimp -implicitDefEqProofs only [go_sem, Nat.reduceBEq, Nat.reduceAdd, Nat.reduceLeDiff, Nat.reduceSub, Int.reduceEq] <;> simp, by simp -dsimp -implicitDefEqProofs only [go_sem, Nat.reduceBEq, Nat.reduceAdd, Nat.reduceLeDiff, Nat.reduceSub, Int.reduceEq], by simp -dsimp -implicitDefEqProofs only [go_sem, Nat.reduceBEq, Nat.reduceAdd, Nat.reduceLeDiff, Nat.reduceSub, Int.reduceEq]; rfl⟩ ?_
  rintro i ⟨e, σ⟩ hi ⟨h0, h1, h7, h6, hs⟩ K hK
  simp only at h0 h1 h7 h6 hs
  simp -dsimp -implicitDefEqProofs only [go_sem, Nat.reduceBEq, Nat.reduceAdd, Nat.reduceLeDiff, Nat.reduceSub, Int.reduceEq, h0, h1, h7, h6, hs]
  have hN : i < k ↔ w * i < b.length := by rw [← hk]; exact (Nat.mul_lt_mul_left (by omega)).symm
  refine ifB'.of (fun hlt => ?_) (fun hlt => ?_)
  · have hlt : i < k := hN.2 (by omega)
    have hl : w * i + w ≤ b.length := by have := Nat.mul_le_mul_left w (show i + 1 ≤ k from hlt); rw [hk, Nat.mul_add] at this; omega
    have e1 : IntKind.i64.wrap (((w * i : Nat) : Int) + (w : Int)) = ((w * i + w : Nat) : Int) := by rw [wrap_i64_of (by omega) (by omega)]; omega
    have hcl := chunk_length hl
    have hib : i ≤ w * i := Nat.le_mul_of_pos_left i (by omega)
    simp -dsimp -implicitDefEqProofs only [go_sem, Nat.reduceBEq, Nat.reduceAdd, Nat.reduceLeDiff, Nat.reduceSub, Int.reduceEq, h0, h1, h7, h6, hs, e1, bytesA_take, bytesA_drop, spec_chunk]
    repeat with_reducible refine ask.of (by omega) ?_
    refine CallE.of (c_l1number (chunk b w i) (by omega)) (by rintro r rfl; (repeat' first | exact trivial | exact pure_rowB _ | exact pure_rowO _ | exact pure_rowI _ | exact pure_rowBB _ | exact pure_rowPk _ _ | exact pure_rowSn _ _ | exact pure_rowFd _ _ | exact pure_rowBBB _ | exact pure_rowCl _ _ | exact pure_rowTb _ _ _ | refine And.intro ?_ ?_)) (by simp -dsimp -implicitDefEqProofs only [go_sem, Nat.reduceBEq, Nat.reduceAdd, Nat.reduceLeDiff, Nat.reduceSub, Int.reduceEq, h0, h1, h7, h6, hs]) ?_
    rintro r rfl
    simp -dsimp -implicitDefEqProofs only [go_sem, Nat.reduceBEq, Nat.reduceAdd, Nat.reduceLeDiff, Nat.reduceSub, Int.reduceEq, h0, h1, h7, h6, hs]
    have e4 : IntKind.i64.wrap (((w * i : Nat) : Int) + (w : Int)) = ((w * (i + 1) : Nat) : Int) := by rw [e1, Nat.mul_add, Nat.mul_one]
    rcases (show w = 8 ∨ (w = 1 ∨ w = 2 ∨ w = 4) by omega) with h8 | h8
    · simp -dsimp -implicitDefEqProofs only [go_sem, Nat.reduceBEq, Nat.reduceAdd, Nat.reduceLeDiff, Nat.reduceSub, Int.reduceEq, h0, h1, h7, h6, hs, show ¬ (w : Int) < 8 by omega, decide_false, unpackI_length]
      repeat with_reducible refine ask.of (by omega) ?_
      refine hK _ hlt ?_
      simp -dsimp -implicitDefEqProofs only [go_sem, Nat.reduceBEq, Nat.reduceAdd, Nat.reduceLeDiff, Nat.reduceSub, Int.reduceEq, h0, h1, h7, h6, hs, e4, sval_wrap (show (chunk b w i).length = 8 by omega), unpackI_succ]
    · have hw7 := leN_lt (chunk b w i)
      rw [hcl] at hw7
      have hw8 : 256 ^ w ≤ 4294967296 := by rcases h8 with rfl | rfl | rfl <;> decide
      have e5 : IntKind.i64.wrap (leN (chunk b w i) : Int) = leN (chunk b w i) := wrap_nat (by omega)
      have e6 : IntKind.i64.wrap (((w * i + w : Nat) : Int) - 1) = ((w * i + (w - 1) : Nat) : Int) := by rw [wrap_i64_of (by omega) (by omega)]; omega
      have hj : w * i + (w - 1) < b.length := by omega
      have ht := sval_top (c := chunk b w i) (w := w - 1) (by omega)
      rw [chunk_get (by omega) hj, show w - 1 + 1 = w by omega] at ht
      simp -dsimp -implicitDefEqProofs only [go_sem, Nat.reduceBEq, Nat.reduceAdd, Nat.reduceLeDiff, Nat.reduceSub, Int.reduceEq, h0, h1, h7, h6, hs, show (w : Int) < 8 by omega, decide_true, e1, e5, e6, bytesA_at hj]
      repeat with_reducible refine ask.of (by omega) ?_
      refine ifB'.of (fun hg => ?_) (fun hg => ?_)
      · simp -dsimp -implicitDefEqProofs only [go_sem, Nat.reduceBEq, Nat.reduceAdd, Nat.reduceLeDiff, Nat.reduceSub, Int.reduceEq, h0, h1, h7, h6, hs, sh_w h8, unpackI_length]
        repeat with_reducible refine ask.of (by omega) ?_
        refine hK _ hlt ?_
        rw [if_pos (by omega)] at ht
        have e9 : IntKind.i64.wrap (sval (chunk b w i)) = sval (chunk b w i) := by rw [ht]; exact wrap_i64_of (by omega) (by omega)
        simp -dsimp -implicitDefEqProofs only [go_sem, Nat.reduceBEq, Nat.reduceAdd, Nat.reduceLeDiff, Nat.reduceSub, Int.reduceEq, h0, h1, h7, h6, hs, e4, ← ht, e9, unpackI_succ]
      · simp -dsimp -implicitDefEqProofs only [go_sem, Nat.reduceBEq, Nat.reduceAdd, Nat.reduceLeDiff, Nat.reduceSub, Int.reduceEq, h0, h1, h7, h6, hs, unpackI_length]
        repeat with_reducible refine ask.of (by omega) ?_
        refine hK _ hlt ?_
        rw [if_neg (by omega)] at ht
        simp -dsimp -implicitDefEqProofs only [go_sem, Nat.reduceBEq, Nat.reduceAdd, Nat.reduceLeDiff, Nat.reduceSub, Int.reduceEq, h0, h1, h7, h6, hs, e4, ← ht, unpackI_succ]
  · obtain rfl : i = k := by omega
    simp -dsimp -implicitDefEqProofs only [go_sem, Nat.reduceBEq, Nat.reduceAdd, Nat.reduceLeDiff, Nat.reduceSub, Int.reduceEq, h0, h1, h7, h6, hs, fin]
end Go.Ev
