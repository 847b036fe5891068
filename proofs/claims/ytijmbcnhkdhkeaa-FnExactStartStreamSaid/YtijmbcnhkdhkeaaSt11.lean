/- Part 11 of what the row leans on: the evaluator, words, contracts of functions; pruned by a program of ours. -/
import Derived.Test.YtijmbcnhkdhkeaaSt10
import Derived.Test.YtijmbcnhkdhkeaaProg
import Derived.KernelRfl
namespace Go.Ev
open Go Go.Proofs
theorem mixed : Try.prog.follows .mixedOrders = true := by kernel_rfl
theorem elTy_25 : elTy Try.prog 25 = some (5, 1, 1) := by kernel_rfl
theorem cty_3 : cty Try.prog 3 = [none] := by kernel_rfl
theorem par_15 : parTys Try.prog 15 = [25] := by kernel_rfl
theorem cty_25 : cty Try.prog 25 = [some (5, 1)] := by kernel_rfl
theorem par_18 : parTys Try.prog 18 = [25, 25] := by kernel_rfl
theorem par_20 : parTys Try.prog 20 = [25, 3] := by kernel_rfl
theorem cty_4 : cty Try.prog 4 = [none] := by kernel_rfl
theorem cty_39 : cty Try.prog 39 = [some (25, 1)] := by kernel_rfl
theorem par_25 : parTys Try.prog 25 = [39] := by kernel_rfl
theorem par_29 : parTys Try.prog 29 = [39, 39] := by kernel_rfl
theorem par_31 : parTys Try.prog 31 = [39, 3] := by kernel_rfl
theorem par_35 : parTys Try.prog 35 = [56, 3] := by kernel_rfl
theorem cty_56 : cty Try.prog 56 = [some (74, 3)] := by kernel_rfl
theorem par_37 : parTys Try.prog 37 = [56] := by kernel_rfl
theorem par_36 : parTys Try.prog 36 = [58, 3] := by kernel_rfl
theorem cty_58 : cty Try.prog 58 = [some (78, 3)] := by kernel_rfl
theorem zeroC_61 : zeroC Try.prog 61 = some [.v (.bool false), .v (.slice none 0 0), .v (.int .i64 0), .v (.slice none 0 0)] := by kernel_rfl
theorem tySz_61 : tySz Try.prog 61 = some (4, true) := by kernel_rfl
theorem par_38 : parTys Try.prog 38 = [58, 3] := by kernel_rfl
theorem par_39 : parTys Try.prog 39 = [61, 61] := by kernel_rfl
theorem cty_61 : cty Try.prog 61 = [none, some (78, 3), none, some (39, 1)] := by kernel_rfl
theorem par_40 : parTys Try.prog 40 = [58, 58] := by kernel_rfl
theorem par_41 : parTys Try.prog 41 = [58, 3] := by kernel_rfl
theorem par_42 : parTys Try.prog 42 = [61, 3] := by kernel_rfl
theorem par_43 : parTys Try.prog 43 = [61, 3] := by kernel_rfl
theorem par_44 : parTys Try.prog 44 = [25, 3] := by kernel_rfl
theorem par_47 : parTys Try.prog 47 = [39, 3] := by kernel_rfl
theorem tySz_74 : tySz Try.prog 74 = some (3, true) := by kernel_rfl
theorem par_48 : parTys Try.prog 48 = [74, 3] := by kernel_rfl
theorem cty_74 : cty Try.prog 74 = [some (5, 1), none, none] := by kernel_rfl
theorem par_50 : parTys Try.prog 50 = [74] := by kernel_rfl
theorem cty_78 : cty Try.prog 78 = [some (5, 1), none, none] := by kernel_rfl
theorem zeroC_78 : zeroC Try.prog 78 = some [.v (.slice none 0 0), .v (.int .i64 0), .v (.int .i64 0)] := by kernel_rfl
theorem tySz_78 : tySz Try.prog 78 = some (3, true) := by kernel_rfl
theorem par_52 : parTys Try.prog 52 = [78, 78] := by kernel_rfl
theorem boolTy_4 : boolTy Try.prog 4 = some () := by kernel_rfl
theorem tySz_3 : tySz Try.prog 3 = some (1, false) := by kernel_rfl
theorem par_82 : parTys Try.prog 82 = [25] := by kernel_rfl
theorem zeroC_5 : zeroC Try.prog 5 = some [.v (.int .u8 0)] := by kernel_rfl
theorem cty_5 : cty Try.prog 5 = [none] := by kernel_rfl
theorem ixTy_25 : ixTy Try.prog 25 = some (.sl (5, 1, 1)) := by kernel_rfl
theorem tySz_5 : tySz Try.prog 5 = some (1, false) := by kernel_rfl
theorem cvTy_3_5 : cvTy Try.prog 3 5 = some (.int .u8) := by kernel_rfl
theorem elTy_39 : elTy Try.prog 39 = some (25, 1, 24) := by kernel_rfl
theorem ixTy_39 : ixTy Try.prog 39 = some (.sl (25, 1, 24)) := by kernel_rfl
theorem tySz_25 : tySz Try.prog 25 = some (1, false) := by kernel_rfl
theorem par_92 : parTys Try.prog 92 = [25, 3] := by kernel_rfl
theorem bldTy_78 : bldTy Try.prog 78 = some (.st [(0, 1), (1, 1), (2, 1)]) := by kernel_rfl
theorem zeroC_25 : zeroC Try.prog 25 = some [.v (.slice none 0 0)] := by kernel_rfl
theorem mapTy_156 : mapTy Try.prog 156 = some (.string, 3) := by kernel_rfl
theorem cvTy_25_9 : cvTy Try.prog 25 9 = some .bytes := by kernel_rfl
theorem tySz_4 : tySz Try.prog 4 = some (1, false) := by kernel_rfl
theorem zeroV_3 : zeroV Try.prog 3 = some (.int .i64 0) := by kernel_rfl
theorem elTy_59 : elTy Try.prog 59 = some (39, 1, 24) := by kernel_rfl
theorem zeroC_39 : zeroC Try.prog 39 = some [.v (.slice none 0 0)] := by kernel_rfl
theorem cty_59 : cty Try.prog 59 = [some (39, 1)] := by kernel_rfl
theorem tySz_39 : tySz Try.prog 39 = some (1, false) := by kernel_rfl
theorem elTy_56 : elTy Try.prog 56 = some (74, 3, 40) := by kernel_rfl
theorem ixTy_56 : ixTy Try.prog 56 = some (.sl (74, 3, 40)) := by kernel_rfl
theorem par_110 : parTys Try.prog 110 = [58] := by kernel_rfl
theorem bldTy_61 : bldTy Try.prog 61 = some (.st [(0, 1), (1, 1), (2, 1), (3, 1)]) := by kernel_rfl
theorem elTy_58 : elTy Try.prog 58 = some (78, 3, 40) := by kernel_rfl
theorem par_111 : parTys Try.prog 111 = [3, 3] := by kernel_rfl
theorem bldTy_163 : bldTy Try.prog 163 = some (.st [(0, 1), (1, 1), (2, 1), (3, 1)]) := by kernel_rfl
theorem zeroC_163 : zeroC Try.prog 163 = some [.v (.int .i64 0), .v (.int .i64 0), .v (.int .i64 0), .v (.slice none 0 0)] := by kernel_rfl
theorem tySz_163 : tySz Try.prog 163 = some (4, true) := by kernel_rfl
theorem ixTy_58 : ixTy Try.prog 58 = some (.sl (78, 3, 40)) := by kernel_rfl
theorem fldTy_163_3 : fldTy Try.prog 163 3 = some (3, 1, false) := by kernel_rfl
theorem fldTy_78_1 : fldTy Try.prog 78 1 = some (1, 1, false) := by kernel_rfl
theorem fldTy_78_2 : fldTy Try.prog 78 2 = some (2, 1, false) := by kernel_rfl
theorem fldTy_78_0 : fldTy Try.prog 78 0 = some (0, 1, false) := by kernel_rfl
theorem par_112 : parTys Try.prog 112 = [58, 3] := by kernel_rfl
theorem par_113 : parTys Try.prog 113 = [163] := by kernel_rfl
theorem cty_163 : cty Try.prog 163 = [none, none, none, some (25, 1)] := by kernel_rfl
theorem par_114 : parTys Try.prog 114 = [58] := by kernel_rfl
theorem par_115 : parTys Try.prog 115 = [3, 3] := by kernel_rfl
theorem par_116 : parTys Try.prog 116 = [58] := by kernel_rfl
theorem par_117 : parTys Try.prog 117 = [163] := by kernel_rfl
theorem fldTy_61_0 : fldTy Try.prog 61 0 = some (0, 1, false) := by kernel_rfl
theorem fldTy_61_1 : fldTy Try.prog 61 1 = some (1, 1, false) := by kernel_rfl
theorem tySz_58 : tySz Try.prog 58 = some (1, false) := by kernel_rfl
theorem fldTy_61_2 : fldTy Try.prog 61 2 = some (2, 1, false) := by kernel_rfl
theorem fldTy_61_3 : fldTy Try.prog 61 3 = some (3, 1, false) := by kernel_rfl
theorem tySz_59 : tySz Try.prog 59 = some (1, false) := by kernel_rfl
theorem par_118 : parTys Try.prog 118 = [59, 59] := by kernel_rfl
theorem par_119 : parTys Try.prog 119 = [59, 3] := by kernel_rfl
theorem par_120 : parTys Try.prog 120 = [58, 3] := by kernel_rfl
theorem par_121 : parTys Try.prog 121 = [59, 3] := by kernel_rfl
theorem fldTy_74_0 : fldTy Try.prog 74 0 = some (0, 1, false) := by kernel_rfl
theorem fldTy_74_1 : fldTy Try.prog 74 1 = some (1, 1, false) := by kernel_rfl
theorem fldTy_74_2 : fldTy Try.prog 74 2 = some (2, 1, false) := by kernel_rfl
theorem par_128 : parTys Try.prog 128 = [78] := by kernel_rfl
theorem tySz_104 : tySz Try.prog 104 = some (4, true) := by kernel_rfl
theorem tySz_56 : tySz Try.prog 56 = some (1, false) := by kernel_rfl
theorem par_172 : parTys Try.prog 172 = [78] := by kernel_rfl
theorem par_174 : parTys Try.prog 174 = [25, 25] := by kernel_rfl
theorem ixTy_59 : ixTy Try.prog 59 = some (.sl (39, 1, 24)) := by kernel_rfl
theorem cvTy_3_220 : cvTy Try.prog 3 220 = some (.int .u64) := by kernel_rfl
theorem cvTy_220_5 : cvTy Try.prog 220 5 = some (.int .u8) := by kernel_rfl
theorem par_178 : parTys Try.prog 178 = [58] := by kernel_rfl
theorem fldTy_163_0 : fldTy Try.prog 163 0 = some (0, 1, false) := by kernel_rfl
theorem fldTy_163_1 : fldTy Try.prog 163 1 = some (1, 1, false) := by kernel_rfl
theorem fldTy_163_2 : fldTy Try.prog 163 2 = some (2, 1, false) := by kernel_rfl
theorem par_179 : parTys Try.prog 179 = [39] := by kernel_rfl
theorem par_180 : parTys Try.prog 180 = [25] := by kernel_rfl
theorem cvTy_222_3 : cvTy Try.prog 222 3 = some (.int .i64) := by kernel_rfl
theorem par_88 : parTys Try.prog 88 = [25] := by kernel_rfl
theorem par_181 : parTys Try.prog 181 = [163] := by kernel_rfl
theorem par_183 : parTys Try.prog 183 = [39] := by kernel_rfl
theorem par_182 : parTys Try.prog 182 = [39] := by kernel_rfl
theorem par_184 : parTys Try.prog 184 = [3] := by kernel_rfl
theorem par_186 : parTys Try.prog 186 = [25] := by kernel_rfl
theorem fldTy_104_1 : fldTy Try.prog 104 1 = some (1, 1, false) := by kernel_rfl
theorem fldTy_104_3 : fldTy Try.prog 104 3 = some (3, 1, false) := by kernel_rfl
theorem fldTy_104_0 : fldTy Try.prog 104 0 = some (0, 1, false) := by kernel_rfl
theorem fldTy_104_2 : fldTy Try.prog 104 2 = some (2, 1, false) := by kernel_rfl
theorem par_193 : parTys Try.prog 193 = [59] := by kernel_rfl
theorem par_203 : parTys Try.prog 203 = [25] := by kernel_rfl
theorem intTy_3 : intTy Try.prog 3 = some () := by kernel_rfl
theorem cvTy_5_222 : cvTy Try.prog 5 222 = some (.int .u32) := by kernel_rfl
theorem cty_222 : cty Try.prog 222 = [none] := by kernel_rfl
theorem par_208 : parTys Try.prog 208 = [39] := by kernel_rfl
theorem par_209 : parTys Try.prog 209 = [25] := by kernel_rfl
theorem par_222 : parTys Try.prog 222 = [25, 3] := by kernel_rfl
theorem par_223 : parTys Try.prog 223 = [] := by kernel_rfl
theorem zeroC_265 : zeroC Try.prog 265 = some (List.replicate 256 (.v (.int .u32 0))) := by kernel_rfl
theorem tySz_265 : tySz Try.prog 265 = some (256, true) := by kernel_rfl
theorem cvTy_222_5 : cvTy Try.prog 222 5 = some (.int .u8) := by kernel_rfl
theorem ixTy_265 : ixTy Try.prog 265 = some (.ar 256 1) := by kernel_rfl
theorem tySz_222 : tySz Try.prog 222 = some (1, false) := by kernel_rfl
theorem bldTy_265 : bldTy Try.prog 265 = some (.ar 1) := by kernel_rfl
theorem cvTy_3_222 : cvTy Try.prog 3 222 = some (.int .u32) := by kernel_rfl
theorem cty_265 : cty Try.prog 265 = [none] := by kernel_rfl
theorem res_5 : Try.f5.results.toList = [.tmp 4] := rfl
theorem rty_5 : Try.f5.resultTypes.toList = [4] := rfl
theorem res_15 : Try.f15.results.toList = [.tmp 2] := rfl
theorem rty_15 : Try.f15.resultTypes.toList = [25] := rfl
theorem res_18 : Try.f18.results.toList = [.tmp 4] := rfl
theorem rty_18 : Try.f18.resultTypes.toList = [4] := rfl
theorem res_20 : Try.f20.results.toList = [.tmp 4] := rfl
theorem rty_20 : Try.f20.resultTypes.toList = [3] := rfl
theorem res_22 : Try.f22.results.toList = [.tmp 4] := rfl
theorem rty_22 : Try.f22.resultTypes.toList = [3] := rfl
theorem res_25 : Try.f25.results.toList = [.tmp 2] := rfl
theorem rty_25 : Try.f25.resultTypes.toList = [39] := rfl
theorem res_29 : Try.f29.results.toList = [.tmp 4] := rfl
theorem rty_29 : Try.f29.resultTypes.toList = [4] := rfl
theorem res_31 : Try.f31.results.toList = [.tmp 4] := rfl
theorem rty_31 : Try.f31.resultTypes.toList = [3] := rfl
theorem res_35 : Try.f35.results.toList = [.tmp 4] := rfl
theorem rty_35 : Try.f35.resultTypes.toList = [3] := rfl
theorem res_36 : Try.f36.results.toList = [.cell 4 61, .tmp 5, .tmp 6] := rfl
theorem rty_36 : Try.f36.resultTypes.toList = [61, 25, 3] := rfl
theorem res_37 : Try.f37.results.toList = [.tmp 2] := rfl
theorem rty_37 : Try.f37.resultTypes.toList = [58] := rfl
theorem res_38 : Try.f38.results.toList = [.cell 4 61, .tmp 5, .tmp 6] := rfl
theorem rty_38 : Try.f38.resultTypes.toList = [61, 25, 3] := rfl
theorem res_39 : Try.f39.results.toList = [.tmp 4] := rfl
theorem rty_39 : Try.f39.resultTypes.toList = [4] := rfl
theorem res_40 : Try.f40.results.toList = [.tmp 4] := rfl
theorem rty_40 : Try.f40.resultTypes.toList = [4] := rfl
theorem res_41 : Try.f41.results.toList = [.tmp 4] := rfl
theorem rty_41 : Try.f41.resultTypes.toList = [3] := rfl
theorem res_42 : Try.f42.results.toList = [.tmp 4] := rfl
theorem rty_42 : Try.f42.resultTypes.toList = [3] := rfl
theorem res_43 : Try.f43.results.toList = [.tmp 4] := rfl
theorem rty_43 : Try.f43.resultTypes.toList = [3] := rfl
theorem res_44 : Try.f44.results.toList = [.tmp 4] := rfl
theorem rty_44 : Try.f44.resultTypes.toList = [3] := rfl
theorem res_47 : Try.f47.results.toList = [.tmp 4] := rfl
theorem rty_47 : Try.f47.resultTypes.toList = [3] := rfl
theorem res_48 : Try.f48.results.toList = [.tmp 4] := rfl
theorem rty_48 : Try.f48.resultTypes.toList = [3] := rfl
theorem res_50 : Try.f50.results.toList = [.cell 2 78] := rfl
theorem rty_50 : Try.f50.resultTypes.toList = [78] := rfl
theorem res_52 : Try.f52.results.toList = [.tmp 4] := rfl
theorem rty_52 : Try.f52.resultTypes.toList = [4] := rfl
theorem res_82 : Try.f82.results.toList = [.tmp 2] := rfl
theorem rty_82 : Try.f82.resultTypes.toList = [25] := rfl
theorem res_88 : Try.f88.results.toList = [.tmp 2] := rfl
theorem rty_88 : Try.f88.resultTypes.toList = [25] := rfl
theorem res_92 : Try.f92.results.toList = [.tmp 4] := rfl
theorem rty_92 : Try.f92.resultTypes.toList = [3] := rfl
theorem res_110 : Try.f110.results.toList = [.tmp 2] := rfl
theorem rty_110 : Try.f110.resultTypes.toList = [4] := rfl
theorem res_111 : Try.f111.results.toList = [.tmp 4] := rfl
theorem rty_111 : Try.f111.resultTypes.toList = [25] := rfl
theorem res_112 : Try.f112.results.toList = [.cell 4 61] := rfl
theorem rty_112 : Try.f112.resultTypes.toList = [61] := rfl
theorem res_113 : Try.f113.results.toList = [.tmp 2] := rfl
theorem rty_113 : Try.f113.resultTypes.toList = [25] := rfl
theorem res_114 : Try.f114.results.toList = [.tmp 2] := rfl
theorem rty_114 : Try.f114.resultTypes.toList = [4] := rfl
theorem res_115 : Try.f115.results.toList = [.tmp 4] := rfl
theorem rty_115 : Try.f115.resultTypes.toList = [25] := rfl
theorem res_116 : Try.f116.results.toList = [.tmp 2] := rfl
theorem rty_116 : Try.f116.resultTypes.toList = [58] := rfl
theorem res_117 : Try.f117.results.toList = [.tmp 2] := rfl
theorem rty_117 : Try.f117.resultTypes.toList = [25] := rfl
theorem res_118 : Try.f118.results.toList = [.tmp 4] := rfl
theorem rty_118 : Try.f118.resultTypes.toList = [4] := rfl
theorem res_119 : Try.f119.results.toList = [.tmp 4] := rfl
theorem rty_119 : Try.f119.resultTypes.toList = [3] := rfl
theorem res_120 : Try.f120.results.toList = [.tmp 4] := rfl
theorem rty_120 : Try.f120.resultTypes.toList = [3] := rfl
theorem res_121 : Try.f121.results.toList = [.tmp 4] := rfl
theorem rty_121 : Try.f121.resultTypes.toList = [3] := rfl
theorem res_128 : Try.f128.results.toList = [.tmp 2] := rfl
theorem rty_128 : Try.f128.resultTypes.toList = [4] := rfl
theorem res_152 : Try.f152.results.toList = [.cell 2 61] := rfl
theorem rty_152 : Try.f152.resultTypes.toList = [61] := rfl
theorem res_172 : Try.f172.results.toList = [.tmp 2] := rfl
theorem rty_172 : Try.f172.resultTypes.toList = [4] := rfl
theorem res_174 : Try.f174.results.toList = [.tmp 4] := rfl
theorem rty_174 : Try.f174.resultTypes.toList = [4] := rfl
theorem res_178 : Try.f178.results.toList = [.tmp 2] := rfl
theorem rty_178 : Try.f178.resultTypes.toList = [58] := rfl
theorem res_179 : Try.f179.results.toList = [.tmp 2] := rfl
theorem rty_179 : Try.f179.resultTypes.toList = [25] := rfl
theorem res_180 : Try.f180.results.toList = [.tmp 2] := rfl
theorem rty_180 : Try.f180.resultTypes.toList = [222] := rfl
theorem res_181 : Try.f181.results.toList = [.tmp 2] := rfl
theorem rty_181 : Try.f181.resultTypes.toList = [4] := rfl
theorem res_182 : Try.f182.results.toList = [.tmp 2] := rfl
theorem rty_182 : Try.f182.resultTypes.toList = [25] := rfl
theorem res_183 : Try.f183.results.toList = [.tmp 2] := rfl
theorem rty_183 : Try.f183.resultTypes.toList = [25] := rfl
theorem res_184 : Try.f184.results.toList = [.tmp 2] := rfl
theorem rty_184 : Try.f184.resultTypes.toList = [4] := rfl
theorem res_186 : Try.f186.results.toList = [.tmp 2] := rfl
theorem rty_186 : Try.f186.resultTypes.toList = [4] := rfl
theorem res_193 : Try.f193.results.toList = [.tmp 2] := rfl
theorem rty_193 : Try.f193.resultTypes.toList = [59] := rfl
theorem res_203 : Try.f203.results.toList = [.tmp 2] := rfl
theorem rty_203 : Try.f203.resultTypes.toList = [4] := rfl
theorem res_208 : Try.f208.results.toList = [.tmp 2] := rfl
theorem rty_208 : Try.f208.resultTypes.toList = [25] := rfl
theorem res_209 : Try.f209.results.toList = [.tmp 2] := rfl
theorem rty_209 : Try.f209.resultTypes.toList = [222] := rfl
theorem res_222 : Try.f222.results.toList = [.tmp 4] := rfl
theorem rty_222 : Try.f222.resultTypes.toList = [25] := rfl
theorem res_223 : Try.f223.results.toList = [.cell 0 265] := rfl
theorem rty_223 : Try.f223.resultTypes.toList = [265] := rfl
attribute [go_sem] elTy_25 cty_3 par_15 cty_25 par_18 par_20 cty_4 cty_39 par_25 par_29 par_31 par_35 cty_56 par_37 par_36 cty_58 zeroC_61 tySz_61 par_38 par_39 cty_61 par_40 par_41 par_42 par_43 par_44 par_47 tySz_74 par_48 cty_74 par_50 cty_78 zeroC_78 tySz_78 par_52 boolTy_4 tySz_3 par_82 zeroC_5 cty_5 ixTy_25 tySz_5 cvTy_3_5 elTy_39 ixTy_39 tySz_25 par_92 bldTy_78 zeroC_25 mapTy_156 cvTy_25_9 tySz_4 zeroV_3 elTy_59 zeroC_39 cty_59 tySz_39 elTy_56 ixTy_56 par_110 bldTy_61 elTy_58 par_111 bldTy_163 zeroC_163 tySz_163 ixTy_58 fldTy_163_3 fldTy_78_1 fldTy_78_2 fldTy_78_0 par_112 par_113 cty_163 par_114 par_115 par_116 par_117 fldTy_61_0 fldTy_61_1 tySz_58 fldTy_61_2 fldTy_61_3 tySz_59 par_118 par_119 par_120 par_121 fldTy_74_0 fldTy_74_1 fldTy_74_2 par_128 tySz_104 tySz_56 par_172 par_174 ixTy_59 cvTy_3_220 cvTy_220_5 par_178 fldTy_163_0 fldTy_163_1 fldTy_163_2 par_179 par_180 cvTy_222_3 par_88 par_181 par_183 par_182 par_184 par_186 fldTy_104_1 fldTy_104_3 fldTy_104_0 fldTy_104_2 par_193 par_203 intTy_3 cvTy_5_222 cty_222 par_208 par_209 par_222 par_223 zeroC_265 tySz_265 cvTy_222_5 ixTy_265 tySz_222 bldTy_265 cvTy_3_222 cty_265
end Go.Ev
set_option linter.unusedSimpArgs false
set_option linter.unusedVariables false
namespace Go.Ev
open Go Go.RowKit Go.Proofs
def mkB (k n : Nat) : List UInt8 := (List.range n).map fun j => UInt8.ofNat (k + j)
theorem mkB_length (k n : Nat) : (mkB k n).length = n := by simp [mkB]
theorem mkB_at (k n : Nat) {i : Nat} (h : i < n) : (mkB k n)[i]? = some ((fun j => UInt8.ofNat (k + j)) i) := by simp [mkB, h]
theorem c_toByteS (bs : List UInt8) (hb : bs.length ≤ 1048576) : Meets Try.prog 15 [rowB bs] (fun r => r = rowB bs) := by
  refine Meets.intro mixed (hint []) Try.func15 rfl (by decide) res_15 rty_15 (by kernel_rfl) ?_; 
  simp -dsimp -implicitDefEqProofs only [go_sem, Nat.reduceBEq, Nat.reduceAdd, Nat.reduceLeDiff, Nat.reduceSub, Int.reduceEq]
  refine ask.of (by omega) ?_
  refine LoopE.cnt bs.length (fun i s => s.env 0 = .rd .ent 5 1 (bytesA bs) ∧ s.env 3 = .ref [7] ∧ s.env 4 = .v (.int .i64 i) ∧ s.σ [7] = some (.row 5 1 (bytesA (bs.take i ++ List.replicate (bs.length - i) 0)))) ⟨by simp -dsimp -implicitDefEqProofs only [go_sem, Nat.reduceBEq, Nat.reduceAdd, Nat.reduceLeDiff, Nat.reduceSub, Int.reduceEq, initE], by simp -dsimp -implicitDefEqProofs only [go_sem, Nat.reduceBEq, Nat.reduceAdd, Nat.reduceLeDiff, Nat.reduceSub, Int.reduceEq], by simp -dsimp -implicitDefEqProofs only [go_sem, Nat.reduceBEq, Nat.reduceAdd, Nat.reduceLeDiff, Nat.reduceSub, Int.reduceEq] <;> simp, by simp -dsimp -implicitDefEqProofs only [go_sem, Nat.reduceBEq, Nat.reduceAdd, Nat.reduceLeDiff, Nat.reduceSub, Int.reduceEq] <;> simp⟩ ?_
  rintro i ⟨e, σ⟩ hi ⟨h0, h3, h4, hs⟩ K hK
  simp only at h0 h3 h4 hs
  simp -dsimp -implicitDefEqProofs only [go_sem, Nat.reduceBEq, Nat.reduceAdd, Nat.reduceLeDiff, Nat.reduceSub, Int.reduceEq, h0, h3, h4, hs]
  refine ifB'.of (fun hlt => ?_) (fun hlt => ?_)
  · have hlt : i < bs.length := by omega
    simp -dsimp -implicitDefEqProofs only [go_sem, Nat.reduceBEq, Nat.reduceAdd, Nat.reduceLeDiff, Nat.reduceSub, Int.reduceEq, h0, h3, h4, hs, bytesA_at hlt]
    repeat with_reducible refine ask.of (by omega) ?_
    have hl : (List.take i bs ++ List.replicate (bs.length - i) 0).length = bs.length := by simp; omega
    simp -dsimp -implicitDefEqProofs only [go_sem, Nat.reduceBEq, Nat.reduceAdd, Nat.reduceLeDiff, Nat.reduceSub, Int.reduceEq, h0, h3, h4, hs, hl]
    repeat with_reducible refine ask.of (by omega) ?_
    simp -dsimp -implicitDefEqProofs only [go_sem, Nat.reduceBEq, Nat.reduceAdd, Nat.reduceLeDiff, Nat.reduceSub, Int.reduceEq, h0, h3, h4, hs, bytesA_at (show i < (List.take i bs ++ List.replicate (bs.length - i) 0).length by omega)]
    refine hK _ hlt ?_
    simp -dsimp -implicitDefEqProofs only [go_sem, Nat.reduceBEq, Nat.reduceAdd, Nat.reduceLeDiff, Nat.reduceSub, Int.reduceEq, h0, h3, h4, hs, wrap_succ (show i < 4611686018427387904 by omega), fill_set bs 0 hlt]
  · have : i = bs.length := by omega
    subst this
    simp -dsimp -implicitDefEqProofs only [go_sem, Nat.reduceBEq, Nat.reduceAdd, Nat.reduceLeDiff, Nat.reduceSub, Int.reduceEq, h0, h3, h4, hs]
    simp
theorem c_eqByteS (bs : List UInt8) (hb : bs.length ≤ 8388608) : Meets Try.prog 18 [rowB bs, rowB bs] (fun r => r = .v (.bool true)) := by
  refine Meets.intro mixed (hint []) Try.func18 rfl (by decide) res_18 rty_18 (by kernel_rfl) ?_; 
  simp -dsimp -implicitDefEqProofs only [go_sem, Nat.reduceBEq, Nat.reduceAdd, Nat.reduceLeDiff, Nat.reduceSub, Int.reduceEq, decide_true, Bool.not_true]
  refine LoopE.cnt bs.length (fun i s => s.env 0 = .rd .ent 5 1 (bytesA bs) ∧ s.env 1 = .rd .ent 5 1 (bytesA bs) ∧ s.env 5 = .v (.int .i64 i)) ⟨by simp -dsimp -implicitDefEqProofs only [go_sem, Nat.reduceBEq, Nat.reduceAdd, Nat.reduceLeDiff, Nat.reduceSub, Int.reduceEq, initE], by simp -dsimp -implicitDefEqProofs only [go_sem, Nat.reduceBEq, Nat.reduceAdd, Nat.reduceLeDiff, Nat.reduceSub, Int.reduceEq, initE], by simp -dsimp -implicitDefEqProofs only [go_sem, Nat.reduceBEq, Nat.reduceAdd, Nat.reduceLeDiff, Nat.reduceSub, Int.reduceEq] <;> simp⟩ ?_
  rintro i ⟨e, σ⟩ hi ⟨h0, h1, h5⟩ K hK
  simp only at h0 h1 h5
  simp -dsimp -implicitDefEqProofs only [go_sem, Nat.reduceBEq, Nat.reduceAdd, Nat.reduceLeDiff, Nat.reduceSub, Int.reduceEq, h0, h1, h5]
  refine ifB'.of (fun hlt => ?_) (fun hlt => ?_)
  · have hlt : i < bs.length := by omega
    simp -dsimp -implicitDefEqProofs only [go_sem, Nat.reduceBEq, Nat.reduceAdd, Nat.reduceLeDiff, Nat.reduceSub, Int.reduceEq, h0, h1, h5, bytesA_at hlt]
    repeat with_reducible refine ask.of (by omega) ?_
    simp -dsimp -implicitDefEqProofs only [go_sem, Nat.reduceBEq, Nat.reduceAdd, Nat.reduceLeDiff, Nat.reduceSub, Int.reduceEq, h0, h1, h5, decide_true, Bool.not_true]
    refine hK _ hlt ?_
    simp -dsimp -implicitDefEqProofs only [go_sem, Nat.reduceBEq, Nat.reduceAdd, Nat.reduceLeDiff, Nat.reduceSub, Int.reduceEq, h0, h1, h5, wrap_succ (show i < 4611686018427387904 by omega)]
  · simp -dsimp -implicitDefEqProofs only [go_sem, Nat.reduceBEq, Nat.reduceAdd, Nat.reduceLeDiff, Nat.reduceSub, Int.reduceEq, h0, h1, h5]
theorem c_markByteS (bs : List UInt8) (k : Nat) (hk : k + bs.length ≤ 4611686018427387904) (hb : bs.length ≤ 8388608) : MeetsM Try.prog 20 [.mu (rowB bs), .rd (.v (.int .i64 k))] (fun r rs => r = .v (.int .i64 ((k + bs.length : Nat) : Int)) ∧ rs = [rowB (mkB k bs.length), .any]) := by
  refine MeetsM.intro mixed (hint []) Try.func20 rfl (by decide) res_20 rty_20 (pts := parTys Try.prog 20) (by rw [par_20]; rfl) (by kernel_rfl) ?_; rw [par_20]; intro vals; 
  simp -dsimp -implicitDefEqProofs only [go_sem, Nat.reduceBEq, Nat.reduceAdd, Nat.reduceLeDiff, Nat.reduceSub, Int.reduceEq]
  refine LoopE.cnt bs.length (fun i s => s.env 0 = .ref [1000000, 0] ∧ s.env 1 = .v (.int .i64 ((k + i : Nat) : Int)) ∧ s.env 5 = .v (.int .i64 i) ∧ s.σ [1000000, 0] = some (.row 5 1 (bytesA (mkPre (fun j => UInt8.ofNat (k + j)) bs i))) ∧ s.σ [1000001, 0] = some (.pin (.ref [1000000, 0]) (vals 0))) ⟨by simp -dsimp -implicitDefEqProofs only [go_sem, Nat.reduceBEq, Nat.reduceAdd, Nat.reduceLeDiff, Nat.reduceSub, Int.reduceEq], by simp -dsimp -implicitDefEqProofs only [go_sem, Nat.reduceBEq, Nat.reduceAdd, Nat.reduceLeDiff, Nat.reduceSub, Int.reduceEq] <;> simp, by simp -dsimp -implicitDefEqProofs only [go_sem, Nat.reduceBEq, Nat.reduceAdd, Nat.reduceLeDiff, Nat.reduceSub, Int.reduceEq] <;> simp, by simp -dsimp -implicitDefEqProofs only [go_sem, Nat.reduceBEq, Nat.reduceAdd, Nat.reduceLeDiff, Nat.reduceSub, Int.reduceEq, mkPre_zero], by simp -dsimp -implicitDefEqProofs only [go_sem, Nat.reduceBEq, Nat.reduceAdd, Nat.reduceLeDiff, Nat.reduceSub, Int.reduceEq]⟩ ?_
  rintro i ⟨e, σ⟩ hi ⟨h0, h1, h5, hs, hp⟩ K hK
  simp only at h0 h1 h5 hs hp
  have hl := mkPre_length (fun j => UInt8.ofNat (k + j)) hi
  simp -dsimp -implicitDefEqProofs only [go_sem, Nat.reduceBEq, Nat.reduceAdd, Nat.reduceLeDiff, Nat.reduceSub, Int.reduceEq, h0, h1, h5, hs, hp, hl]
  refine ifB'.of (fun hlt => ?_) (fun hlt => ?_)
  · have hlt : i < bs.length := by omega
    have hk' : k + i ≤ 4611686018427387904 := by omega
    simp -dsimp -implicitDefEqProofs only [go_sem, Nat.reduceBEq, Nat.reduceAdd, Nat.reduceLeDiff, Nat.reduceSub, Int.reduceEq, h0, h1, h5, hs, hp, hl]
    repeat with_reducible refine ask.of (by omega) ?_
    simp -dsimp -implicitDefEqProofs only [go_sem, Nat.reduceBEq, Nat.reduceAdd, Nat.reduceLeDiff, Nat.reduceSub, Int.reduceEq, h0, h1, h5, hs, hp, hl, bytesA_at (show i < (mkPre (fun j => UInt8.ofNat (k + j)) bs i).length by omega)]
    repeat with_reducible refine ask.of (by omega) ?_
    try simp -dsimp -implicitDefEqProofs only [go_sem, Nat.reduceBEq, Nat.reduceAdd, Nat.reduceLeDiff, Nat.reduceSub, Int.reduceEq, h0, h1, h5, hs, hp, u8_of_nat]
    refine hK _ hlt ?_
    simp -dsimp -implicitDefEqProofs only [go_sem, Nat.reduceBEq, Nat.reduceAdd, Nat.reduceLeDiff, Nat.reduceSub, Int.reduceEq, h0, h1, h5, hs, hp, wrap_succ (show i < 4611686018427387904 by omega), wrap_succ (show k + i < 4611686018427387904 by omega), mkPre_set (fun j => UInt8.ofNat (k + j)) bs hlt rfl]
    rfl
  · have : i = bs.length := by omega
    subst this
    simp -dsimp -implicitDefEqProofs only [go_sem, Nat.reduceBEq, Nat.reduceAdd, Nat.reduceLeDiff, Nat.reduceSub, Int.reduceEq, h0, h1, h5, hs, hp, mkPre_full]
    rfl
theorem c_heldByteS (k n : Nat) (hk : k + n ≤ 4611686018427387904) (hn : n ≤ 8388608) : Meets Try.prog 44 [rowB (mkB k n), .v (.int .i64 k)] (fun r => r = .v (.int .i64 ((k + n : Nat) : Int))) := by
  refine Meets.intro mixed (hint []) Try.func44 rfl (by decide) res_44 rty_44 (by kernel_rfl) ?_; 
  simp -dsimp -implicitDefEqProofs only [go_sem, Nat.reduceBEq, Nat.reduceAdd, Nat.reduceLeDiff, Nat.reduceSub, Int.reduceEq]
  refine LoopE.cnt n (fun i s => s.env 0 = .rd .ent 5 1 (bytesA (mkB k n)) ∧ s.env 1 = .v (.int .i64 ((k + i : Nat) : Int)) ∧ s.env 5 = .v (.int .i64 i)) ⟨by simp -dsimp -implicitDefEqProofs only [go_sem, Nat.reduceBEq, Nat.reduceAdd, Nat.reduceLeDiff, Nat.reduceSub, Int.reduceEq, initE], by simp -dsimp -implicitDefEqProofs only [go_sem, Nat.reduceBEq, Nat.reduceAdd, Nat.reduceLeDiff, Nat.reduceSub, Int.reduceEq, initE] <;> simp, by simp -dsimp -implicitDefEqProofs only [go_sem, Nat.reduceBEq, Nat.reduceAdd, Nat.reduceLeDiff, Nat.reduceSub, Int.reduceEq] <;> simp⟩ ?_
  rintro i ⟨e, σ⟩ hi ⟨h0, h1, h5⟩ K hK
  simp only at h0 h1 h5
  simp -dsimp -implicitDefEqProofs only [go_sem, Nat.reduceBEq, Nat.reduceAdd, Nat.reduceLeDiff, Nat.reduceSub, Int.reduceEq, h0, h1, h5, mkB_length]
  refine ifB'.of (fun hlt => ?_) (fun hlt => ?_)
  · have hlt : i < n := by omega
    have hk' : k + i ≤ 4611686018427387904 := by omega
    simp -dsimp -implicitDefEqProofs only [go_sem, Nat.reduceBEq, Nat.reduceAdd, Nat.reduceLeDiff, Nat.reduceSub, Int.reduceEq, h0, h1, h5, mkB_length, bytesA_at' (mkB_at k n hlt), u8_of_nat]
    repeat with_reducible refine ask.of (by omega) ?_
    simp -dsimp -implicitDefEqProofs only [go_sem, Nat.reduceBEq, Nat.reduceAdd, Nat.reduceLeDiff, Nat.reduceSub, Int.reduceEq, h0, h1, h5, decide_true, Bool.not_true]
    refine hK _ hlt ?_
    simp -dsimp -implicitDefEqProofs only [go_sem, Nat.reduceBEq, Nat.reduceAdd, Nat.reduceLeDiff, Nat.reduceSub, Int.reduceEq, h0, h1, h5, wrap_succ (show i < 4611686018427387904 by omega), wrap_succ (show k + i < 4611686018427387904 by omega)]
    rfl
  · have : i = n := by omega
    subst this
    simp -dsimp -implicitDefEqProofs only [go_sem, Nat.reduceBEq, Nat.reduceAdd, Nat.reduceLeDiff, Nat.reduceSub, Int.reduceEq, h0, h1, h5]
end Go.Ev
set_option linter.unusedSimpArgs false
set_option linter.unusedVariables false
namespace Go.Ev
open Go Go.RowKit Go.Proofs
theorem c_szByteS (bs : List UInt8) (left : Nat) (hb : bs.length ≤ 140737488355328) (hl : left ≤ 1048576) : Meets Try.prog 92 [rowB bs, .v (.int .i64 left)] (fun r => r = .v (.int .i64 (szR left bs.length))) := by
  refine Meets.intro mixed (hint []) Try.func92 rfl (by decide) res_92 rty_92 (by kernel_rfl) ?_; 
  have e : IntKind.i64.wrap ((left : Int) - bs.length) = (left : Int) - bs.length := wrap_i64_of (by omega) (by omega)
  simp -dsimp -implicitDefEqProofs only [go_sem, Nat.reduceBEq, Nat.reduceAdd, Nat.reduceLeDiff, Nat.reduceSub, Int.reduceEq, e]
  refine ifB'.of (fun h => ?_) (fun h => ?_)
  · simp -dsimp -implicitDefEqProofs only [go_sem, Nat.reduceBEq, Nat.reduceAdd, Nat.reduceLeDiff, Nat.reduceSub, Int.reduceEq]
    rw [szR_no (by omega)]
  · simp -dsimp -implicitDefEqProofs only [go_sem, Nat.reduceBEq, Nat.reduceAdd, Nat.reduceLeDiff, Nat.reduceSub, Int.reduceEq]
    rw [szR_ok (by omega)]; omega
def wBB (xs : List (List UInt8)) : Nat := szL List.length xs
theorem c_szByteSS (xs : List (List UInt8)) (left : Nat) (hl : left ≤ 1048576) (hx : xs.length ≤ 140737488355328) (hb : ∀ b ∈ xs, b.length ≤ 140737488355328) : Meets Try.prog 22 [rowBB xs, .v (.int .i64 left)] (fun r => r = .v (.int .i64 (szR left (xs.length + wBB xs)))) := by
  refine Meets.intro mixed (hint []) Try.func22 rfl (by decide) res_22 rty_22 (by kernel_rfl) ?_; 
  have e : IntKind.i64.wrap ((left : Int) - xs.length) = (left : Int) - xs.length := wrap_i64_of (by omega) (by omega)
  simp -dsimp -implicitDefEqProofs only [go_sem, Nat.reduceBEq, Nat.reduceAdd, Nat.reduceLeDiff, Nat.reduceSub, Int.reduceEq, e]
  refine ifB'.of (fun h => ?_) (fun h => ?_)
  · simp -dsimp -implicitDefEqProofs only [go_sem, Nat.reduceBEq, Nat.reduceAdd, Nat.reduceLeDiff, Nat.reduceSub, Int.reduceEq]
    rw [szR_no (by omega)]
  simp -dsimp -implicitDefEqProofs only [go_sem, Nat.reduceBEq, Nat.reduceAdd, Nat.reduceLeDiff, Nat.reduceSub, Int.reduceEq, e]
  refine LoopE.cnt xs.length (fun i s => s.env 0 = .rd .ent 25 1 (ra byC xs) ∧ s.env 5 = .v (.int .i64 i) ∧ xs.length + szL List.length (xs.take i) ≤ left ∧ s.env 1 = .v (.int .i64 ((left - (xs.length + szL List.length (xs.take i)) : Nat) : Int))) ⟨by simp -dsimp -implicitDefEqProofs only [go_sem, Nat.reduceBEq, Nat.reduceAdd, Nat.reduceLeDiff, Nat.reduceSub, Int.reduceEq, initE], by simp -dsimp -implicitDefEqProofs only [go_sem, Nat.reduceBEq, Nat.reduceAdd, Nat.reduceLeDiff, Nat.reduceSub, Int.reduceEq] <;> simp, by simp [szL]; omega, by simp -dsimp -implicitDefEqProofs only [go_sem, Nat.reduceBEq, Nat.reduceAdd, Nat.reduceLeDiff, Nat.reduceSub, Int.reduceEq] <;> (simp [szL]; omega)⟩ ?_
  rintro i ⟨e, σ⟩ hi ⟨h0, h5, hle, h1⟩ K hK
  simp only at h0 h5 h1
  simp -dsimp -implicitDefEqProofs only [go_sem, Nat.reduceBEq, Nat.reduceAdd, Nat.reduceLeDiff, Nat.reduceSub, Int.reduceEq, h0, h5, h1]
  refine ifB'.of (fun hlt => ?_) (fun hlt => ?_)
  · have hlt : i < xs.length := by omega
    have hs := szL_take_succ List.length hlt
    have hw := szL_take_le List.length xs (i + 1)
    simp -dsimp -implicitDefEqProofs only [go_sem, Nat.reduceBEq, Nat.reduceAdd, Nat.reduceLeDiff, Nat.reduceSub, Int.reduceEq, h0, h5, h1, byA_at hlt]
    repeat with_reducible refine ask.of (by omega) ?_
    refine CallE.of (c_szByteS xs[i] (left - (xs.length + szL List.length (xs.take i))) (hb _ (List.getElem_mem _)) (by omega)) (by rintro r rfl; (repeat' first | exact trivial | exact pure_rowB _ | exact pure_rowO _ | exact pure_rowI _ | exact pure_rowBB _ | exact pure_rowPk _ _ | exact pure_rowSn _ _ | exact pure_rowFd _ _ | exact pure_rowBBB _ | exact pure_rowCl _ _ | exact pure_rowTb _ _ _ | refine And.intro ?_ ?_)) (by simp -dsimp -implicitDefEqProofs only [go_sem, Nat.reduceBEq, Nat.reduceAdd, Nat.reduceLeDiff, Nat.reduceSub, Int.reduceEq, h0, h5, h1]) ?_
    rintro r rfl
    simp -dsimp -implicitDefEqProofs only [go_sem, Nat.reduceBEq, Nat.reduceAdd, Nat.reduceLeDiff, Nat.reduceSub, Int.reduceEq, h0, h5, h1]
    refine ifB'.of (fun hn => ?_) (fun hn => ?_)
    · have : ¬ xs[i].length ≤ left - (xs.length + szL List.length (xs.take i)) := fun h => by rw [szR_ok h] at hn; omega
      simp -dsimp -implicitDefEqProofs only [go_sem, Nat.reduceBEq, Nat.reduceAdd, Nat.reduceLeDiff, Nat.reduceSub, Int.reduceEq, h0, h5, h1]
      rw [szR_no (by unfold wBB; omega)]
    · have h : xs[i].length ≤ left - (xs.length + szL List.length (xs.take i)) := Classical.byContradiction fun h => by rw [szR_no h] at hn; omega
      simp -dsimp -implicitDefEqProofs only [go_sem, Nat.reduceBEq, Nat.reduceAdd, Nat.reduceLeDiff, Nat.reduceSub, Int.reduceEq, h0, h5, h1]
      refine hK _ hlt ?_
      simp -dsimp -implicitDefEqProofs only [go_sem, Nat.reduceBEq, Nat.reduceAdd, Nat.reduceLeDiff, Nat.reduceSub, Int.reduceEq, h0, h5, h1, wrap_succ (show i < 4611686018427387904 by omega), szR_ok h, hs]
      exact ⟨by omega, by omega⟩
  · have : i = xs.length := by omega
    subst this
    simp -dsimp -implicitDefEqProofs only [go_sem, Nat.reduceBEq, Nat.reduceAdd, Nat.reduceLeDiff, Nat.reduceSub, Int.reduceEq, h0, h5, h1]
    rw [List.take_length] at hle ⊢
    rw [szR_ok (by unfold wBB; omega)]
    rfl
theorem c_toByteSS (xs : List (List UInt8)) (hx : xs.length ≤ 1048576) (hb : ∀ b ∈ xs, b.length ≤ 1048576) : Meets Try.prog 25 [rowBB xs] (fun r => r = rowBB xs) := by
  refine Meets.intro mixed (hint []) Try.func25 rfl (by decide) res_25 rty_25 (by kernel_rfl) ?_; 
  simp -dsimp -implicitDefEqProofs only [go_sem, Nat.reduceBEq, Nat.reduceAdd, Nat.reduceLeDiff, Nat.reduceSub, Int.reduceEq]
  refine ask.of (by omega) ?_
  refine LoopE.cnt xs.length (fun i s => s.env 0 = .rd .ent 25 1 (ra byC xs) ∧ s.env 3 = .ref [7] ∧ s.env 4 = .v (.int .i64 i) ∧ s.σ [7] = some (.row 25 1 (ra byC (xs.take i ++ List.replicate (xs.length - i) [])))) ⟨by simp -dsimp -implicitDefEqProofs only [go_sem, Nat.reduceBEq, Nat.reduceAdd, Nat.reduceLeDiff, Nat.reduceSub, Int.reduceEq, initE], by simp -dsimp -implicitDefEqProofs only [go_sem, Nat.reduceBEq, Nat.reduceAdd, Nat.reduceLeDiff, Nat.reduceSub, Int.reduceEq], by simp -dsimp -implicitDefEqProofs only [go_sem, Nat.reduceBEq, Nat.reduceAdd, Nat.reduceLeDiff, Nat.reduceSub, Int.reduceEq] <;> simp, by simp -dsimp -implicitDefEqProofs only [go_sem, Nat.reduceBEq, Nat.reduceAdd, Nat.reduceLeDiff, Nat.reduceSub, Int.reduceEq] <;> simp⟩ ?_
  rintro i ⟨e, σ⟩ hi ⟨h0, h3, h4, hs⟩ K hK
  simp only at h0 h3 h4 hs
  simp -dsimp -implicitDefEqProofs only [go_sem, Nat.reduceBEq, Nat.reduceAdd, Nat.reduceLeDiff, Nat.reduceSub, Int.reduceEq, h0, h3, h4, hs]
  refine ifB'.of (fun hlt => ?_) (fun hlt => ?_)
  · have hlt : i < xs.length := by omega
    simp -dsimp -implicitDefEqProofs only [go_sem, Nat.reduceBEq, Nat.reduceAdd, Nat.reduceLeDiff, Nat.reduceSub, Int.reduceEq, h0, h3, h4, hs, byA_at hlt]
    repeat with_reducible refine ask.of (by omega) ?_
    refine CallE.of (c_toByteS xs[i] (hb _ (List.getElem_mem _))) (by rintro r rfl; (repeat' first | exact trivial | exact pure_rowB _ | exact pure_rowO _ | exact pure_rowI _ | exact pure_rowBB _ | exact pure_rowPk _ _ | exact pure_rowSn _ _ | exact pure_rowFd _ _ | exact pure_rowBBB _ | exact pure_rowCl _ _ | exact pure_rowTb _ _ _ | refine And.intro ?_ ?_)) (by simp -dsimp -implicitDefEqProofs only [go_sem, Nat.reduceBEq, Nat.reduceAdd, Nat.reduceLeDiff, Nat.reduceSub, Int.reduceEq, h0, h3, h4, hs]) ?_
    rintro r rfl
    simp -dsimp -implicitDefEqProofs only [go_sem, Nat.reduceBEq, Nat.reduceAdd, Nat.reduceLeDiff, Nat.reduceSub, Int.reduceEq, h0, h3, h4, hs]
    have hl : (List.take i xs ++ List.replicate (xs.length - i) []).length = xs.length := by simp; omega
    simp -dsimp -implicitDefEqProofs only [go_sem, Nat.reduceBEq, Nat.reduceAdd, Nat.reduceLeDiff, Nat.reduceSub, Int.reduceEq, h0, h3, h4, hs, hl]
    repeat with_reducible refine ask.of (by omega) ?_
    simp -dsimp -implicitDefEqProofs only [go_sem, Nat.reduceBEq, Nat.reduceAdd, Nat.reduceLeDiff, Nat.reduceSub, Int.reduceEq, h0, h3, h4, hs, byA_at (show i < (List.take i xs ++ List.replicate (xs.length - i) []).length by omega)]
    refine hK _ hlt ?_
    simp -dsimp -implicitDefEqProofs only [go_sem, Nat.reduceBEq, Nat.reduceAdd, Nat.reduceLeDiff, Nat.reduceSub, Int.reduceEq, h0, h3, h4, hs, wrap_succ (show i < 4611686018427387904 by omega), fill_set xs [] hlt]
  · have : i = xs.length := by omega
    subst this
    simp -dsimp -implicitDefEqProofs only [go_sem, Nat.reduceBEq, Nat.reduceAdd, Nat.reduceLeDiff, Nat.reduceSub, Int.reduceEq, h0, h3, h4, hs]
    simp
theorem c_eqByteSS (xs : List (List UInt8)) (hx : xs.length ≤ 8388608) (hb : ∀ b ∈ xs, b.length ≤ 8388608) : Meets Try.prog 29 [rowBB xs, rowBB xs] (fun r => r = .v (.bool true)) := by
  refine Meets.intro mixed (hint []) Try.func29 rfl (by decide) res_29 rty_29 (by kernel_rfl) ?_; 
  simp -dsimp -implicitDefEqProofs only [go_sem, Nat.reduceBEq, Nat.reduceAdd, Nat.reduceLeDiff, Nat.reduceSub, Int.reduceEq, decide_true, Bool.not_true]
  refine LoopE.cnt xs.length (fun i s => s.env 0 = .rd .ent 25 1 (ra byC xs) ∧ s.env 1 = .rd .ent 25 1 (ra byC xs) ∧ s.env 5 = .v (.int .i64 i)) ⟨by simp -dsimp -implicitDefEqProofs only [go_sem, Nat.reduceBEq, Nat.reduceAdd, Nat.reduceLeDiff, Nat.reduceSub, Int.reduceEq, initE], by simp -dsimp -implicitDefEqProofs only [go_sem, Nat.reduceBEq, Nat.reduceAdd, Nat.reduceLeDiff, Nat.reduceSub, Int.reduceEq, initE], by simp -dsimp -implicitDefEqProofs only [go_sem, Nat.reduceBEq, Nat.reduceAdd, Nat.reduceLeDiff, Nat.reduceSub, Int.reduceEq] <;> simp⟩ ?_
  rintro i ⟨e, σ⟩ hi ⟨h0, h1, h5⟩ K hK
  simp only at h0 h1 h5
  simp -dsimp -implicitDefEqProofs only [go_sem, Nat.reduceBEq, Nat.reduceAdd, Nat.reduceLeDiff, Nat.reduceSub, Int.reduceEq, h0, h1, h5]
  refine ifB'.of (fun hlt => ?_) (fun hlt => ?_)
  · have hlt : i < xs.length := by omega
    simp -dsimp -implicitDefEqProofs only [go_sem, Nat.reduceBEq, Nat.reduceAdd, Nat.reduceLeDiff, Nat.reduceSub, Int.reduceEq, h0, h1, h5, byA_at hlt]
    repeat with_reducible refine ask.of (by omega) ?_
    refine CallE.of (c_eqByteS xs[i] (hb _ (List.getElem_mem _))) (by rintro r rfl; (repeat' first | exact trivial | exact pure_rowB _ | exact pure_rowO _ | exact pure_rowI _ | exact pure_rowBB _ | exact pure_rowPk _ _ | exact pure_rowSn _ _ | exact pure_rowFd _ _ | exact pure_rowBBB _ | exact pure_rowCl _ _ | exact pure_rowTb _ _ _ | refine And.intro ?_ ?_)) (by simp -dsimp -implicitDefEqProofs only [go_sem, Nat.reduceBEq, Nat.reduceAdd, Nat.reduceLeDiff, Nat.reduceSub, Int.reduceEq, h0, h1, h5, Bool.not_true]) ?_
    rintro r rfl
    simp -dsimp -implicitDefEqProofs only [go_sem, Nat.reduceBEq, Nat.reduceAdd, Nat.reduceLeDiff, Nat.reduceSub, Int.reduceEq, h0, h1, h5, Bool.not_true]
    refine hK _ hlt ?_
    simp -dsimp -implicitDefEqProofs only [go_sem, Nat.reduceBEq, Nat.reduceAdd, Nat.reduceLeDiff, Nat.reduceSub, Int.reduceEq, h0, h1, h5, wrap_succ (show i < 4611686018427387904 by omega)]
  · simp -dsimp -implicitDefEqProofs only [go_sem, Nat.reduceBEq, Nat.reduceAdd, Nat.reduceLeDiff, Nat.reduceSub, Int.reduceEq, h0, h1, h5]
def mkBB (k : Nat) (xs : List (List UInt8)) : List (List UInt8) := mkL (fun k x => mkB k x.length) List.length k xs
theorem c_markByteSS (xs : List (List UInt8)) (k : Nat) (hk : k + wBB xs ≤ 4611686018427387904) (hx : xs.length ≤ 8388608) (hb : ∀ b ∈ xs, b.length ≤ 8388608) : MeetsM Try.prog 31 [.mu (rowBB xs), .rd (.v (.int .i64 k))] (fun r rs => r = .v (.int .i64 ((k + wBB xs : Nat) : Int)) ∧ rs = [rowBB (mkBB k xs), .any]) := by
  refine MeetsM.intro mixed (hint []) Try.func31 rfl (by decide) res_31 rty_31 (pts := parTys Try.prog 31) (by rw [par_31]; rfl) (by kernel_rfl) ?_; rw [par_31]; intro vals; 
  simp -dsimp -implicitDefEqProofs only [go_sem, Nat.reduceBEq, Nat.reduceAdd, Nat.reduceLeDiff, Nat.reduceSub, Int.reduceEq]
  refine LoopE.cnt xs.length (fun i s => s.env 0 = .ref [1000000, 0] ∧ s.env 1 = .v (.int .i64 ((k + szL List.length (xs.take i) : Nat) : Int)) ∧ s.env 5 = .v (.int .i64 i) ∧ s.σ [1000000, 0] = some (.row 25 1 (ra byC (mkLP (fun k x => mkB k x.length) List.length k xs i))) ∧ s.σ [1000001, 0] = some (.pin (.ref [1000000, 0]) (vals 0))) ⟨by simp -dsimp -implicitDefEqProofs only [go_sem, Nat.reduceBEq, Nat.reduceAdd, Nat.reduceLeDiff, Nat.reduceSub, Int.reduceEq], by simp -dsimp -implicitDefEqProofs only [go_sem, Nat.reduceBEq, Nat.reduceAdd, Nat.reduceLeDiff, Nat.reduceSub, Int.reduceEq] <;> simp [szL], by simp -dsimp -implicitDefEqProofs only [go_sem, Nat.reduceBEq, Nat.reduceAdd, Nat.reduceLeDiff, Nat.reduceSub, Int.reduceEq] <;> simp, by simp -dsimp -implicitDefEqProofs only [go_sem, Nat.reduceBEq, Nat.reduceAdd, Nat.reduceLeDiff, Nat.reduceSub, Int.reduceEq, mkLP_zero], by simp -dsimp -implicitDefEqProofs only [go_sem, Nat.reduceBEq, Nat.reduceAdd, Nat.reduceLeDiff, Nat.reduceSub, Int.reduceEq]⟩ ?_
  rintro i ⟨e, σ⟩ hi ⟨h0, h1, h5, hs, hp⟩ K hK
  simp only at h0 h1 h5 hs hp
  have hl := mkLP_length (fun k x => mkB k x.length) List.length k hi
  simp -dsimp -implicitDefEqProofs only [go_sem, Nat.reduceBEq, Nat.reduceAdd, Nat.reduceLeDiff, Nat.reduceSub, Int.reduceEq, h0, h1, h5, hs, hp, hl]
  refine ifB'.of (fun hlt => ?_) (fun hlt => ?_)
  · have hlt : i < xs.length := by omega
    have hw := szL_at_le List.length hlt
    simp -dsimp -implicitDefEqProofs only [go_sem, Nat.reduceBEq, Nat.reduceAdd, Nat.reduceLeDiff, Nat.reduceSub, Int.reduceEq, h0, h1, h5, hs, hp, hl]
    repeat with_reducible refine ask.of (by omega) ?_
    simp -dsimp -implicitDefEqProofs only [go_sem, Nat.reduceBEq, Nat.reduceAdd, Nat.reduceLeDiff, Nat.reduceSub, Int.reduceEq, h0, h1, h5, hs, hp, byA_at' (mkLP_at (fun k x => mkB k x.length) List.length k hlt)]
    refine CallE.mut (c_markByteS xs[i] (k + szL List.length (xs.take i)) (by unfold wBB at hk; omega) (hb _ (List.getElem_mem _))) (by simp -dsimp -implicitDefEqProofs only [go_sem, Nat.reduceBEq, Nat.reduceAdd, Nat.reduceLeDiff, Nat.reduceSub, Int.reduceEq, h0, h1, h5, hs, hp]) (by rintro r rs ⟨rfl, rfl⟩; exact ⟨by (repeat' first | exact trivial | exact pure_rowB _ | exact pure_rowO _ | exact pure_rowI _ | exact pure_rowBB _ | exact pure_rowPk _ _ | exact pure_rowSn _ _ | exact pure_rowFd _ _ | exact pure_rowBBB _ | exact pure_rowCl _ _ | exact pure_rowTb _ _ _ | refine And.intro ?_ ?_), by first | exact ⟨by (repeat' first | exact trivial | exact pure_rowB _ | exact pure_rowO _ | exact pure_rowI _ | exact pure_rowBB _ | exact pure_rowPk _ _ | exact pure_rowSn _ _ | exact pure_rowFd _ _ | exact pure_rowBBB _ | exact pure_rowCl _ _ | exact pure_rowTb _ _ _ | refine And.intro ?_ ?_), trivial⟩ | exact ⟨by (repeat' first | exact trivial | exact pure_rowB _ | exact pure_rowO _ | exact pure_rowI _ | exact pure_rowBB _ | exact pure_rowPk _ _ | exact pure_rowSn _ _ | exact pure_rowFd _ _ | exact pure_rowBBB _ | exact pure_rowCl _ _ | exact pure_rowTb _ _ _ | refine And.intro ?_ ?_), trivial, trivial⟩⟩) (by simp -dsimp -implicitDefEqProofs only [go_sem, Nat.reduceBEq, Nat.reduceAdd, Nat.reduceLeDiff, Nat.reduceSub, Int.reduceEq, h0, h1, h5, hs, hp, byA_at' (mkLP_at (fun k x => mkB k x.length) List.length k hlt)]) (by simp -dsimp -implicitDefEqProofs only [go_sem, Nat.reduceBEq, Nat.reduceAdd, Nat.reduceLeDiff, Nat.reduceSub, Int.reduceEq, h0, h1, h5, hs, hp, byA_at' (mkLP_at (fun k x => mkB k x.length) List.length k hlt)]) ?_
    rintro r rs ⟨rfl, rfl⟩
    simp -dsimp -implicitDefEqProofs only [go_sem, Nat.reduceBEq, Nat.reduceAdd, Nat.reduceLeDiff, Nat.reduceSub, Int.reduceEq, h0, h1, h5, hs, hp, byA_at' (mkLP_at (fun k x => mkB k x.length) List.length k hlt)]
    refine hK _ hlt ?_
    simp -dsimp -implicitDefEqProofs only [go_sem, Nat.reduceBEq, Nat.reduceAdd, Nat.reduceLeDiff, Nat.reduceSub, Int.reduceEq, h0, h1, h5, hs, hp, byA_at' (mkLP_at (fun k x => mkB k x.length) List.length k hlt), wrap_succ (show i < 4611686018427387904 by omega), mkLP_set (fun k x => mkB k x.length) List.length k hlt rfl, szL_take_succ List.length hlt, Nat.add_assoc]
  · have : i = xs.length := by omega
    subst this
    simp -dsimp -implicitDefEqProofs only [go_sem, Nat.reduceBEq, Nat.reduceAdd, Nat.reduceLeDiff, Nat.reduceSub, Int.reduceEq, h0, h1, h5, hs, hp, mkLP_full, List.take_length]
    exact ⟨rfl, rfl⟩
theorem c_heldByteSS (xs : List (List UInt8)) (k : Nat) (hk : k + wBB xs ≤ 4611686018427387904) (hx : xs.length ≤ 8388608) (hb : ∀ b ∈ xs, b.length ≤ 8388608) : Meets Try.prog 47 [rowBB (mkBB k xs), .v (.int .i64 k)] (fun r => r = .v (.int .i64 ((k + wBB xs : Nat) : Int))) := by
  refine Meets.intro mixed (hint []) Try.func47 rfl (by decide) res_47 rty_47 (by kernel_rfl) ?_; 
  simp -dsimp -implicitDefEqProofs only [go_sem, Nat.reduceBEq, Nat.reduceAdd, Nat.reduceLeDiff, Nat.reduceSub, Int.reduceEq]
  refine LoopE.cnt xs.length (fun i s => s.env 0 = .rd .ent 25 1 (ra byC (mkBB k xs)) ∧ s.env 1 = .v (.int .i64 ((k + szL List.length (xs.take i) : Nat) : Int)) ∧ s.env 5 = .v (.int .i64 i)) ⟨by simp -dsimp -implicitDefEqProofs only [go_sem, Nat.reduceBEq, Nat.reduceAdd, Nat.reduceLeDiff, Nat.reduceSub, Int.reduceEq, initE], by simp -dsimp -implicitDefEqProofs only [go_sem, Nat.reduceBEq, Nat.reduceAdd, Nat.reduceLeDiff, Nat.reduceSub, Int.reduceEq, initE] <;> simp [szL], by simp -dsimp -implicitDefEqProofs only [go_sem, Nat.reduceBEq, Nat.reduceAdd, Nat.reduceLeDiff, Nat.reduceSub, Int.reduceEq] <;> simp⟩ ?_
  rintro i ⟨e, σ⟩ hi ⟨h0, h1, h5⟩ K hK
  simp only at h0 h1 h5
  simp -dsimp -implicitDefEqProofs only [go_sem, Nat.reduceBEq, Nat.reduceAdd, Nat.reduceLeDiff, Nat.reduceSub, Int.reduceEq, h0, h1, h5, mkBB, mkL_length]
  refine ifB'.of (fun hlt => ?_) (fun hlt => ?_)
  · have hlt : i < xs.length := by omega
    have hw := szL_at_le List.length hlt
    simp -dsimp -implicitDefEqProofs only [go_sem, Nat.reduceBEq, Nat.reduceAdd, Nat.reduceLeDiff, Nat.reduceSub, Int.reduceEq, h0, h1, h5, mkBB, mkL_length, byA_at' (mkL_at (fun k x => mkB k x.length) List.length k hlt)]
    repeat with_reducible refine ask.of (by omega) ?_
    refine CallE.of (c_heldByteS (k + szL List.length (xs.take i)) xs[i].length (by unfold wBB at hk; omega) (hb _ (List.getElem_mem _))) (by rintro r rfl; (repeat' first | exact trivial | exact pure_rowB _ | exact pure_rowO _ | exact pure_rowI _ | exact pure_rowBB _ | exact pure_rowPk _ _ | exact pure_rowSn _ _ | exact pure_rowFd _ _ | exact pure_rowBBB _ | exact pure_rowCl _ _ | exact pure_rowTb _ _ _ | refine And.intro ?_ ?_)) (by simp -dsimp -implicitDefEqProofs only [go_sem, Nat.reduceBEq, Nat.reduceAdd, Nat.reduceLeDiff, Nat.reduceSub, Int.reduceEq, h0, h1, h5]) ?_
    rintro r rfl
    simp -dsimp -implicitDefEqProofs only [go_sem, Nat.reduceBEq, Nat.reduceAdd, Nat.reduceLeDiff, Nat.reduceSub, Int.reduceEq, h0, h1, h5]
    refine ifB'.of (fun hn => by omega) (fun hn => ?_)
    simp -dsimp -implicitDefEqProofs only [go_sem, Nat.reduceBEq, Nat.reduceAdd, Nat.reduceLeDiff, Nat.reduceSub, Int.reduceEq, h0, h1, h5]
    refine hK _ hlt ?_
    simp -dsimp -implicitDefEqProofs only [go_sem, Nat.reduceBEq, Nat.reduceAdd, Nat.reduceLeDiff, Nat.reduceSub, Int.reduceEq, h0, h1, h5, wrap_succ (show i < 4611686018427387904 by omega), szL_take_succ List.length hlt, Nat.add_assoc, mkBB]
  · have : i = xs.length := by omega
    subst this
    simp -dsimp -implicitDefEqProofs only [go_sem, Nat.reduceBEq, Nat.reduceAdd, Nat.reduceLeDiff, Nat.reduceSub, Int.reduceEq, h0, h1, h5, List.take_length]
    rfl
end Go.Ev
set_option linter.unusedSimpArgs false
set_option linter.unusedVariables false
namespace Go.Ev
open Go Go.RowKit Go.Proofs
structure Fd where
  f : List UInt8
  k : Int
  w : Int
structure Cl where
  z : Bool
  i : Int
  f : List UInt8
def fdC (x : Fd) : List AV := [.row 5 1 (bytesA x.f), .v (.int .i64 x.k), .v (.int .i64 x.w)]
def clC (x : Cl) : List AV := [.v (.bool x.z), .v (.int .i64 x.i), .row 5 1 (bytesA x.f)]
def fdW (x : Fd) : Nat := x.f.length
def fd0 : Fd := ⟨[], 0, 0⟩
def rowFd (T : Nat) (ps : List Fd) : AV := .row T 3 (ra fdC ps)
def rowCl (T : Nat) (ps : List Cl) : AV := .row T 3 (ra clC ps)
theorem bleF (n : Nat) : Nat.ble n n = true := by simp
theorem pure_rowFd (T : Nat) (ps : List Fd) : (rowFd T ps).pure := pureEls_ra (enc := fdC) (fun x => ⟨pureEls_bytes _, trivial, trivial, trivial⟩) ps
theorem pure_rowCl (T : Nat) (ps : List Cl) : (rowCl T ps).pure := pureEls_ra (enc := clC) (fun x => ⟨trivial, trivial, pureEls_bytes _, trivial⟩) ps
theorem c_szField (p : Fd) (left : Nat) (hb : p.f.length ≤ 140737488355328) (hl : left ≤ 1048576) : Meets Try.prog 48 [.agg (fdC p), .v (.int .i64 left)] (fun r => r = .v (.int .i64 (szR left p.f.length))) := by
  refine Meets.intro mixed (hint []) Try.func48 rfl (by decide) res_48 rty_48 (by kernel_rfl) ?_; 
  simp -dsimp -implicitDefEqProofs only [go_sem, Nat.reduceBEq, Nat.reduceAdd, Nat.reduceLeDiff, Nat.reduceSub, Int.reduceEq, fdC]
  repeat with_reducible refine ask.of (by omega) ?_
  refine CallE.of (c_szByteS p.f left hb hl) (by rintro r rfl; (repeat' first | exact trivial | exact pure_rowB _ | exact pure_rowO _ | exact pure_rowI _ | exact pure_rowBB _ | exact pure_rowPk _ _ | exact pure_rowSn _ _ | exact pure_rowFd _ _ | exact pure_rowBBB _ | exact pure_rowCl _ _ | exact pure_rowTb _ _ _ | refine And.intro ?_ ?_)) (by simp -dsimp -implicitDefEqProofs only [go_sem, Nat.reduceBEq, Nat.reduceAdd, Nat.reduceLeDiff, Nat.reduceSub, Int.reduceEq]) ?_
  rintro r rfl
  simp -dsimp -implicitDefEqProofs only [go_sem, Nat.reduceBEq, Nat.reduceAdd, Nat.reduceLeDiff, Nat.reduceSub, Int.reduceEq]
  refine ifB'.of (fun h => ?_) (fun h => ?_)
  · simp -dsimp -implicitDefEqProofs only [go_sem, Nat.reduceBEq, Nat.reduceAdd, Nat.reduceLeDiff, Nat.reduceSub, Int.reduceEq]
    by_cases h2 : p.f.length ≤ left
    · rw [szR_ok h2] at h; omega
    · rw [szR_no h2]
  · simp -dsimp -implicitDefEqProofs only [go_sem, Nat.reduceBEq, Nat.reduceAdd, Nat.reduceLeDiff, Nat.reduceSub, Int.reduceEq]
theorem c_toField (p : Fd) (hb : p.f.length ≤ 1048576) : Meets Try.prog 50 [.agg (fdC p)] (fun r => r = .agg (fdC p)) := by
  refine Meets.intro mixed (hint []) Try.func50 rfl (by decide) res_50 rty_50 (by kernel_rfl) ?_; 
  simp -dsimp -implicitDefEqProofs only [go_sem, Nat.reduceBEq, Nat.reduceAdd, Nat.reduceLeDiff, Nat.reduceSub, Int.reduceEq, fdC]
  repeat (first | with_reducible refine ask.of (by omega) ?_ | simp -dsimp -implicitDefEqProofs only [go_sem, Nat.reduceBEq, Nat.reduceAdd, Nat.reduceLeDiff, Nat.reduceSub, Int.reduceEq, bleF])
  refine CallE.of (c_toByteS p.f hb) (by rintro r rfl; (repeat' first | exact trivial | exact pure_rowB _ | exact pure_rowO _ | exact pure_rowI _ | exact pure_rowBB _ | exact pure_rowPk _ _ | exact pure_rowSn _ _ | exact pure_rowFd _ _ | exact pure_rowBBB _ | exact pure_rowCl _ _ | exact pure_rowTb _ _ _ | refine And.intro ?_ ?_)) (by simp -dsimp -implicitDefEqProofs only [go_sem, Nat.reduceBEq, Nat.reduceAdd, Nat.reduceLeDiff, Nat.reduceSub, Int.reduceEq]) ?_
  rintro r rfl
  simp -dsimp -implicitDefEqProofs only [go_sem, Nat.reduceBEq, Nat.reduceAdd, Nat.reduceLeDiff, Nat.reduceSub, Int.reduceEq]
  repeat (first | with_reducible refine ask.of (by omega) ?_ | simp -dsimp -implicitDefEqProofs only [go_sem, Nat.reduceBEq, Nat.reduceAdd, Nat.reduceLeDiff, Nat.reduceSub, Int.reduceEq, bleF])
theorem c_eqField (p : Fd) (hb : p.f.length ≤ 1048576) : Meets Try.prog 52 [.agg (fdC p), .agg (fdC p)] (fun r => r = .v (.bool true)) := by
  refine Meets.intro mixed (hint []) Try.func52 rfl (by decide) res_52 rty_52 (by kernel_rfl) ?_; 
  simp -dsimp -implicitDefEqProofs only [go_sem, Nat.reduceBEq, Nat.reduceAdd, Nat.reduceLeDiff, Nat.reduceSub, Int.reduceEq, fdC, decide_true]
  repeat (first | with_reducible refine ask.of (by omega) ?_ | simp -dsimp -implicitDefEqProofs only [go_sem, Nat.reduceBEq, Nat.reduceAdd, Nat.reduceLeDiff, Nat.reduceSub, Int.reduceEq, bleF, decide_true])
  refine CallE.of (c_eqByteS p.f (by omega)) (by rintro r rfl; (repeat' first | exact trivial | exact pure_rowB _ | exact pure_rowO _ | exact pure_rowI _ | exact pure_rowBB _ | exact pure_rowPk _ _ | exact pure_rowSn _ _ | exact pure_rowFd _ _ | exact pure_rowBBB _ | exact pure_rowCl _ _ | exact pure_rowTb _ _ _ | refine And.intro ?_ ?_)) (by simp -dsimp -implicitDefEqProofs only [go_sem, Nat.reduceBEq, Nat.reduceAdd, Nat.reduceLeDiff, Nat.reduceSub, Int.reduceEq, Bool.not_true, decide_true]) ?_
  rintro r rfl
  simp -dsimp -implicitDefEqProofs only [go_sem, Nat.reduceBEq, Nat.reduceAdd, Nat.reduceLeDiff, Nat.reduceSub, Int.reduceEq, Bool.not_true, decide_true]
  repeat (first | with_reducible refine ask.of (by omega) ?_ | trivial)
theorem Fd_at {xs : List Fd} {i : Nat} (h : i < xs.length) : (ra fdC xs)[i]? = some (fdC xs[i]) := ra_at h
theorem mem_fdW {xs : List Fd} {b : Fd} (h : b ∈ xs) : b.f.length ≤ szL fdW xs := by
  obtain ⟨i, hi, rfl⟩ := List.mem_iff_getElem.1 h
  have := szL_at_le fdW hi
  have : fdW xs[i] = xs[i].f.length := rfl
  omega
theorem c_szFieldS (xs : List Fd) (left : Nat) (hl : left ≤ 1048576) (hx : xs.length ≤ 140737488355328) (hb : ∀ b ∈ xs, b.f.length ≤ 140737488355328) : Meets Try.prog 35 [rowFd 74 xs, .v (.int .i64 left)] (fun r => r = .v (.int .i64 (szR left (xs.length + szL fdW xs)))) := by
  refine Meets.intro mixed (hint []) Try.func35 rfl (by decide) res_35 rty_35 (by kernel_rfl) ?_; 
  have e : IntKind.i64.wrap ((left : Int) - xs.length) = (left : Int) - xs.length := wrap_i64_of (by omega) (by omega)
  simp -dsimp -implicitDefEqProofs only [go_sem, Nat.reduceBEq, Nat.reduceAdd, Nat.reduceLeDiff, Nat.reduceSub, Int.reduceEq, e, rowFd]
  refine ifB'.of (fun h => ?_) (fun h => ?_)
  · simp -dsimp -implicitDefEqProofs only [go_sem, Nat.reduceBEq, Nat.reduceAdd, Nat.reduceLeDiff, Nat.reduceSub, Int.reduceEq]
    rw [szR_no (by omega)]
  simp -dsimp -implicitDefEqProofs only [go_sem, Nat.reduceBEq, Nat.reduceAdd, Nat.reduceLeDiff, Nat.reduceSub, Int.reduceEq, e]
  refine LoopE.cnt xs.length (fun i s => s.env 0 = .rd .ent 74 3 (ra fdC xs) ∧ s.env 5 = .v (.int .i64 i) ∧ xs.length + szL fdW (xs.take i) ≤ left ∧ s.env 1 = .v (.int .i64 ((left - (xs.length + szL fdW (xs.take i)) : Nat) : Int))) ⟨by simp -dsimp -implicitDefEqProofs only [go_sem, Nat.reduceBEq, Nat.reduceAdd, Nat.reduceLeDiff, Nat.reduceSub, Int.reduceEq, initE, rowFd], by simp -dsimp -implicitDefEqProofs only [go_sem, Nat.reduceBEq, Nat.reduceAdd, Nat.reduceLeDiff, Nat.reduceSub, Int.reduceEq] <;> simp, by simp [szL]; omega, by simp -dsimp -implicitDefEqProofs only [go_sem, Nat.reduceBEq, Nat.reduceAdd, Nat.reduceLeDiff, Nat.reduceSub, Int.reduceEq] <;> (simp [szL]; omega)⟩ ?_
  rintro i ⟨e, σ⟩ hi ⟨h0, h5, hle, h1⟩ K hK
  simp only at h0 h5 h1
  simp -dsimp -implicitDefEqProofs only [go_sem, Nat.reduceBEq, Nat.reduceAdd, Nat.reduceLeDiff, Nat.reduceSub, Int.reduceEq, h0, h5, h1]
  refine ifB'.of (fun hlt => ?_) (fun hlt => ?_)
  · have hlt : i < xs.length := by omega
    have hs := szL_take_succ fdW hlt
    have hw := szL_take_le fdW xs (i + 1)
    have hww : fdW xs[i] = xs[i].f.length := rfl
    simp -dsimp -implicitDefEqProofs only [go_sem, Nat.reduceBEq, Nat.reduceAdd, Nat.reduceLeDiff, Nat.reduceSub, Int.reduceEq, h0, h5, h1, Fd_at hlt, fdC]
    repeat with_reducible refine ask.of (by omega) ?_
    simp -dsimp -implicitDefEqProofs only [go_sem, Nat.reduceBEq, Nat.reduceAdd, Nat.reduceLeDiff, Nat.reduceSub, Int.reduceEq, h0, h5, h1, Fd_at hlt, fdC, bleF]
    refine CallE.of (c_szField xs[i] (left - (xs.length + szL fdW (xs.take i))) (hb _ (List.getElem_mem _)) (by omega)) (by rintro r rfl; (repeat' first | exact trivial | exact pure_rowB _ | exact pure_rowO _ | exact pure_rowI _ | exact pure_rowBB _ | exact pure_rowPk _ _ | exact pure_rowSn _ _ | exact pure_rowFd _ _ | exact pure_rowBBB _ | exact pure_rowCl _ _ | exact pure_rowTb _ _ _ | refine And.intro ?_ ?_)) (by simp -dsimp -implicitDefEqProofs only [go_sem, Nat.reduceBEq, Nat.reduceAdd, Nat.reduceLeDiff, Nat.reduceSub, Int.reduceEq, h0, h5, h1, fdC]) ?_
    rintro r rfl
    simp -dsimp -implicitDefEqProofs only [go_sem, Nat.reduceBEq, Nat.reduceAdd, Nat.reduceLeDiff, Nat.reduceSub, Int.reduceEq, h0, h5, h1, fdC]
    refine ifB'.of (fun hn => ?_) (fun hn => ?_)
    · have : ¬ xs[i].f.length ≤ left - (xs.length + szL fdW (xs.take i)) := fun h => by rw [szR_ok h] at hn; omega
      simp -dsimp -implicitDefEqProofs only [go_sem, Nat.reduceBEq, Nat.reduceAdd, Nat.reduceLeDiff, Nat.reduceSub, Int.reduceEq, h0, h5, h1]
      rw [szR_no (by omega)]
    · have h : xs[i].f.length ≤ left - (xs.length + szL fdW (xs.take i)) := Classical.byContradiction fun h => by rw [szR_no h] at hn; omega
      simp -dsimp -implicitDefEqProofs only [go_sem, Nat.reduceBEq, Nat.reduceAdd, Nat.reduceLeDiff, Nat.reduceSub, Int.reduceEq, h0, h5, h1]
      refine hK _ hlt ?_
      simp -dsimp -implicitDefEqProofs only [go_sem, Nat.reduceBEq, Nat.reduceAdd, Nat.reduceLeDiff, Nat.reduceSub, Int.reduceEq, h0, h5, h1, wrap_succ (show i < 4611686018427387904 by omega), szR_ok h, hs]
      exact ⟨by omega, by omega⟩
  · have : i = xs.length := by omega
    subst this
    simp -dsimp -implicitDefEqProofs only [go_sem, Nat.reduceBEq, Nat.reduceAdd, Nat.reduceLeDiff, Nat.reduceSub, Int.reduceEq, h0, h5, h1]
    rw [List.take_length] at hle ⊢
    rw [szR_ok (by omega)]
theorem Fd_set (xs : List Fd) (i : Nat) (x : Fd) : (ra fdC xs).set i (fdC x) = ra fdC (xs.set i x) := ra_set xs i x
theorem c_toFieldS (xs : List Fd) (hx : xs.length ≤ 1048576) (hb : ∀ b ∈ xs, b.f.length ≤ 1048576) : Meets Try.prog 37 [rowFd 74 xs] (fun r => r = rowFd 78 xs) := by
  refine Meets.intro mixed (hint []) Try.func37 rfl (by decide) res_37 rty_37 (by kernel_rfl) ?_; 
  simp -dsimp -implicitDefEqProofs only [go_sem, Nat.reduceBEq, Nat.reduceAdd, Nat.reduceLeDiff, Nat.reduceSub, Int.reduceEq, rowFd]
  refine ask.of (by omega) ?_
  refine LoopE.cnt xs.length (fun i s => s.env 0 = .rd .ent 74 3 (ra fdC xs) ∧ s.env 3 = .ref [7] ∧ s.env 4 = .v (.int .i64 i) ∧ s.σ [7] = some (.row 78 3 (ra fdC (xs.take i ++ List.replicate (xs.length - i) fd0)))) ⟨by simp -dsimp -implicitDefEqProofs only [go_sem, Nat.reduceBEq, Nat.reduceAdd, Nat.reduceLeDiff, Nat.reduceSub, Int.reduceEq, initE, rowFd], by simp -dsimp -implicitDefEqProofs only [go_sem, Nat.reduceBEq, Nat.reduceAdd, Nat.reduceLeDiff, Nat.reduceSub, Int.reduceEq], by simp -dsimp -implicitDefEqProofs only [go_sem, Nat.reduceBEq, Nat.reduceAdd, Nat.reduceLeDiff, Nat.reduceSub, Int.reduceEq] <;> simp, by simp -dsimp -implicitDefEqProofs only [go_sem, Nat.reduceBEq, Nat.reduceAdd, Nat.reduceLeDiff, Nat.reduceSub, Int.reduceEq] <;> simp [ra, fdC, fd0, bytesA]⟩ ?_
  rintro i ⟨e, σ⟩ hi ⟨h0, h3, h4, hs⟩ K hK
  simp only at h0 h3 h4 hs
  simp -dsimp -implicitDefEqProofs only [go_sem, Nat.reduceBEq, Nat.reduceAdd, Nat.reduceLeDiff, Nat.reduceSub, Int.reduceEq, h0, h3, h4, hs]
  refine ifB'.of (fun hlt => ?_) (fun hlt => ?_)
  · have hlt : i < xs.length := by omega
    have hl : (List.take i xs ++ List.replicate (xs.length - i) fd0).length = xs.length := by simp; omega
    simp -dsimp -implicitDefEqProofs only [go_sem, Nat.reduceBEq, Nat.reduceAdd, Nat.reduceLeDiff, Nat.reduceSub, Int.reduceEq, h0, h3, h4, hs, Fd_at hlt, fdC]
    repeat with_reducible refine ask.of (by omega) ?_
    simp -dsimp -implicitDefEqProofs only [go_sem, Nat.reduceBEq, Nat.reduceAdd, Nat.reduceLeDiff, Nat.reduceSub, Int.reduceEq, h0, h3, h4, hs, Fd_at hlt, fdC, bleF]
    refine CallE.of (c_toField xs[i] (hb _ (List.getElem_mem _))) (by rintro r rfl; (repeat' first | exact trivial | exact pure_rowB _ | exact pure_rowO _ | exact pure_rowI _ | exact pure_rowBB _ | exact pure_rowPk _ _ | exact pure_rowSn _ _ | exact pure_rowFd _ _ | exact pure_rowBBB _ | exact pure_rowCl _ _ | exact pure_rowTb _ _ _ | refine And.intro ?_ ?_)) (by simp -dsimp -implicitDefEqProofs only [go_sem, Nat.reduceBEq, Nat.reduceAdd, Nat.reduceLeDiff, Nat.reduceSub, Int.reduceEq, h0, h3, h4, hs, fdC]) ?_
    rintro r rfl
    simp -dsimp -implicitDefEqProofs only [go_sem, Nat.reduceBEq, Nat.reduceAdd, Nat.reduceLeDiff, Nat.reduceSub, Int.reduceEq, h0, h3, h4, hs, fdC]
    simp -dsimp -implicitDefEqProofs only [go_sem, Nat.reduceBEq, Nat.reduceAdd, Nat.reduceLeDiff, Nat.reduceSub, Int.reduceEq, h0, h3, h4, hs, hl]
    repeat with_reducible refine ask.of (by omega) ?_
    simp -dsimp -implicitDefEqProofs only [go_sem, Nat.reduceBEq, Nat.reduceAdd, Nat.reduceLeDiff, Nat.reduceSub, Int.reduceEq, h0, h3, h4, hs, Fd_at (show i < (List.take i xs ++ List.replicate (xs.length - i) fd0).length by omega), fdC, bleF]
    refine hK _ hlt ?_
    simp -dsimp -implicitDefEqProofs only [go_sem, Nat.reduceBEq, Nat.reduceAdd, Nat.reduceLeDiff, Nat.reduceSub, Int.reduceEq, h0, h3, h4, hs, wrap_succ (show i < 4611686018427387904 by omega)]
    exact congrArg (fun l => some (OB.row _ 3 l)) ((Fd_set _ i xs[i]).trans (congrArg (ra fdC) (fill_set xs fd0 hlt)))
  · have : i = xs.length := by omega
    subst this
    simp -dsimp -implicitDefEqProofs only [go_sem, Nat.reduceBEq, Nat.reduceAdd, Nat.reduceLeDiff, Nat.reduceSub, Int.reduceEq, h0, h3, h4, hs, rowFd]
    simp
theorem c_eqFieldS (xs : List Fd) (hx : xs.length ≤ 1048576) (hb : ∀ b ∈ xs, b.f.length ≤ 1048576) : Meets Try.prog 40 [rowFd 78 xs, rowFd 78 xs] (fun r => r = .v (.bool true)) := by
  refine Meets.intro mixed (hint []) Try.func40 rfl (by decide) res_40 rty_40 (by kernel_rfl) ?_; 
  simp -dsimp -implicitDefEqProofs only [go_sem, Nat.reduceBEq, Nat.reduceAdd, Nat.reduceLeDiff, Nat.reduceSub, Int.reduceEq, decide_true, Bool.not_true, rowFd]
  refine LoopE.cnt xs.length (fun i s => s.env 0 = .rd .ent 78 3 (ra fdC xs) ∧ s.env 1 = .rd .ent 78 3 (ra fdC xs) ∧ s.env 5 = .v (.int .i64 i)) ⟨by simp -dsimp -implicitDefEqProofs only [go_sem, Nat.reduceBEq, Nat.reduceAdd, Nat.reduceLeDiff, Nat.reduceSub, Int.reduceEq, initE, rowFd], by simp -dsimp -implicitDefEqProofs only [go_sem, Nat.reduceBEq, Nat.reduceAdd, Nat.reduceLeDiff, Nat.reduceSub, Int.reduceEq, initE, rowFd], by simp -dsimp -implicitDefEqProofs only [go_sem, Nat.reduceBEq, Nat.reduceAdd, Nat.reduceLeDiff, Nat.reduceSub, Int.reduceEq] <;> simp⟩ ?_
  rintro i ⟨e, σ⟩ hi ⟨h0, h1, h5⟩ K hK
  simp only at h0 h1 h5
  simp -dsimp -implicitDefEqProofs only [go_sem, Nat.reduceBEq, Nat.reduceAdd, Nat.reduceLeDiff, Nat.reduceSub, Int.reduceEq, h0, h1, h5]
  refine ifB'.of (fun hlt => ?_) (fun hlt => ?_)
  · have hlt : i < xs.length := by omega
    simp -dsimp -implicitDefEqProofs only [go_sem, Nat.reduceBEq, Nat.reduceAdd, Nat.reduceLeDiff, Nat.reduceSub, Int.reduceEq, h0, h1, h5, Fd_at hlt, fdC]
    repeat (first | with_reducible refine ask.of (by omega) ?_ | simp -dsimp -implicitDefEqProofs only [go_sem, Nat.reduceBEq, Nat.reduceAdd, Nat.reduceLeDiff, Nat.reduceSub, Int.reduceEq, h0, h1, h5, Fd_at hlt, fdC, bleF])
    refine CallE.of (c_eqField xs[i] (hb _ (List.getElem_mem _))) (by rintro r rfl; (repeat' first | exact trivial | exact pure_rowB _ | exact pure_rowO _ | exact pure_rowI _ | exact pure_rowBB _ | exact pure_rowPk _ _ | exact pure_rowSn _ _ | exact pure_rowFd _ _ | exact pure_rowBBB _ | exact pure_rowCl _ _ | exact pure_rowTb _ _ _ | refine And.intro ?_ ?_)) (by simp -dsimp -implicitDefEqProofs only [go_sem, Nat.reduceBEq, Nat.reduceAdd, Nat.reduceLeDiff, Nat.reduceSub, Int.reduceEq, h0, h1, h5, Bool.not_true, fdC]) ?_
    rintro r rfl
    simp -dsimp -implicitDefEqProofs only [go_sem, Nat.reduceBEq, Nat.reduceAdd, Nat.reduceLeDiff, Nat.reduceSub, Int.reduceEq, h0, h1, h5, Bool.not_true, fdC]
    refine hK _ hlt ?_
    simp -dsimp -implicitDefEqProofs only [go_sem, Nat.reduceBEq, Nat.reduceAdd, Nat.reduceLeDiff, Nat.reduceSub, Int.reduceEq, h0, h1, h5, wrap_succ (show i < 4611686018427387904 by omega)]
  · simp -dsimp -implicitDefEqProofs only [go_sem, Nat.reduceBEq, Nat.reduceAdd, Nat.reduceLeDiff, Nat.reduceSub, Int.reduceEq, h0, h1, h5]
end Go.Ev
set_option linter.unusedSimpArgs false
set_option linter.unusedVariables false
namespace Go.Ev
open Go Go.RowKit Go.Proofs
def mpS (l : List (List UInt8 × Value)) : List (Value × Value) := l.map fun p => (.string ⟨p.1.toArray⟩, p.2)
theorem kEq_str (a b : List UInt8) : kEq (.string ⟨a.toArray⟩) (.string ⟨b.toArray⟩) = decide (a = b) := by
  show ((⟨a.toArray⟩ : ByteArray) == ⟨b.toArray⟩) = _
  by_cases h : a = b
  · rw [decide_eq_true h, h]; exact (MapKept.bytes_beq _ _).2 rfl
  · rw [decide_eq_false h]
    cases h2 : ((⟨a.toArray⟩ : ByteArray) == ⟨b.toArray⟩) with
    | false => rfl
    | true => exact absurd (by simpa using (MapKept.bytes_beq _ _).1 h2) h
theorem mgetS_some (t : List UInt8) : ∀ l : List (List UInt8 × Value), (mget (mpS l) (.string ⟨t.toArray⟩)).isSome = decide (t ∈ l.map (·.1))
  | [] => rfl
  | p :: l => by
    show (sel (kEq (.string ⟨p.1.toArray⟩) (.string ⟨t.toArray⟩)) (some p.2) (mget (mpS l) _)).isSome = _
    rw [kEq_str]
    by_cases h : p.1 = t
    · rw [decide_eq_true h]; simp [sel, h]
    · rw [decide_eq_false h]
      show (mget (mpS l) _).isSome = _
      rw [mgetS_some t l]
      simp [Ne.symm h]
theorem mputS_new (t : List UInt8) (v : Value) : ∀ l : List (List UInt8 × Value), t ∉ l.map (·.1) → mput (mpS l) (.string ⟨t.toArray⟩) v = mpS (l ++ [(t, v)])
  | [], _ => rfl
  | p :: l, h => by
    show sel (kEq (.string ⟨p.1.toArray⟩) (.string ⟨t.toArray⟩)) _ ((.string ⟨p.1.toArray⟩, p.2) :: mput (mpS l) _ v) = _
    have h1 : p.1 ≠ t := fun e => h (by simp [e])
    rw [kEq_str, decide_eq_false h1, mputS_new t v l (fun h2 => h (by simp at h2 ⊢; exact .inr h2))]
    rfl
def ixP (xs : List (List UInt8)) : List (List UInt8 × Value) := xs.zipIdx.map fun p => (p.1, .int .i64 p.2)
theorem ixP_keys (xs : List (List UInt8)) : (ixP xs).map (·.1) = xs := by
  rw [ixP, List.map_map]
  exact List.zipIdx_map_fst 0 xs
theorem ixP_snoc (xs : List (List UInt8)) (t : List UInt8) : ixP xs ++ [(t, .int .i64 (xs.length : Int))] = ixP (xs ++ [t]) := by
  simp [ixP, List.zipIdx_append]
theorem ixP_has (xs : List (List UInt8)) (t : List UInt8) : (mget (mpS (ixP xs)) (.string ⟨t.toArray⟩)).isSome = decide (t ∈ xs) := by rw [mgetS_some, ixP_keys]
theorem ixP_put {xs : List (List UInt8)} {t : List UInt8} (h : t ∉ xs) : mput (mpS (ixP xs)) (.string ⟨t.toArray⟩) (.int .i64 (xs.length : Int)) = mpS (ixP (xs ++ [t])) := by
  rw [mputS_new _ _ _ (by rw [ixP_keys]; exact h), ixP_snoc]
theorem c_l1same (a b : List UInt8) (ha : a.length ≤ 140737488355328) (hb : b.length ≤ 140737488355328) : Meets Try.prog 174 [rowB a, rowB b] (fun r => r = .v (.bool (decide (a = b)))) := by
  refine Meets.intro mixed (hint []) Try.func174 rfl (by decide) res_174 rty_174 (by kernel_rfl) ?_; 
  simp -dsimp -implicitDefEqProofs only [go_sem, Nat.reduceBEq, Nat.reduceAdd, Nat.reduceLeDiff, Nat.reduceSub, Int.reduceEq, initE]
  exact decide_eq_decide.2 ⟨fun h => by simpa using h, fun h => by rw [h]⟩
theorem nodup_take {α : Type} {xs : List α} (h : xs.Nodup) (i : Nat) : (xs.take i).Nodup := List.Nodup.sublist (List.take_sublist _ _) h
theorem nodup_take_succ {α : Type} {xs : List α} {i : Nat} (h : i < xs.length) : (xs.take (i + 1)).Nodup ↔ (xs.take i).Nodup ∧ xs[i] ∉ xs.take i := by
  rw [List.take_succ_eq_append_getElem h, List.nodup_append]
  simp
  intro _
  constructor
  · intro h1 h2; exact h1 _ h2 rfl
  · intro h1 a h2 h3; exact h1 (h3 ▸ h2)
end Go.Ev
set_option linter.unusedSimpArgs false
set_option linter.unusedVariables false
namespace Go.Ev
open Go Go.RowKit Go.Proofs
def h8 (x0 x1 x2 x3 x4 x5 x6 x7 : Bool) : Nat := (((((((0 * 2 + x7.toNat) * 2 + x6.toNat) * 2 + x5.toNat) * 2 + x4.toNat) * 2 + x3.toNat) * 2 + x2.toNat) * 2 + x1.toNat) * 2 + x0.toNat
end Go.Ev
set_option linter.unusedSimpArgs false
set_option linter.unusedVariables false
namespace Go.Ev
open Go Go.RowKit Go.Proofs
theorem wrap_u64 {n : Nat} (h : n < 18446744073709551616) : IntKind.u64.wrap (n : Int) = (n : Int) := by
  simp [IntKind.wrap, IntKind.bits, IntKind.signed]; omega
end Go.Ev
set_option linter.unusedSimpArgs false
set_option linter.unusedVariables false
namespace Go.Ev
open Go Go.RowKit Go.Proofs
def isW (n : Int) : Bool := decide (n = 1 ∨ n = 2 ∨ n = 4 ∨ n = 8)
theorem c_l1width (n : Int) : Meets Try.prog 184 [.v (.int .i64 n)] (fun r => r = .v (.bool (isW n))) := by
  refine Meets.intro mixed (hint []) Try.func184 rfl (by decide) res_184 rty_184 (by kernel_rfl) ?_; 
  by_cases h1 : n = 1
  · simp -dsimp -implicitDefEqProofs only [go_sem, Nat.reduceBEq, Nat.reduceAdd, Nat.reduceLeDiff, Nat.reduceSub, Int.reduceEq, initE, h1, decide_true, decide_false, show isW 1 = true from rfl]
  by_cases h2 : n = 2
  · simp -dsimp -implicitDefEqProofs only [go_sem, Nat.reduceBEq, Nat.reduceAdd, Nat.reduceLeDiff, Nat.reduceSub, Int.reduceEq, initE, h1, h2, decide_true, decide_false, show isW 2 = true from rfl, show ¬ (2 : Int) = 1 by decide]
  by_cases h4 : n = 4
  · simp -dsimp -implicitDefEqProofs only [go_sem, Nat.reduceBEq, Nat.reduceAdd, Nat.reduceLeDiff, Nat.reduceSub, Int.reduceEq, initE, h1, h2, h4, decide_true, decide_false, show isW 4 = true from rfl, show ¬ (4 : Int) = 1 by decide, show ¬ (4 : Int) = 2 by decide]
  by_cases h8 : n = 8
  · simp -dsimp -implicitDefEqProofs only [go_sem, Nat.reduceBEq, Nat.reduceAdd, Nat.reduceLeDiff, Nat.reduceSub, Int.reduceEq, initE, h1, h2, h4, h8, decide_true, decide_false, show isW 8 = true from rfl, show ¬ (8 : Int) = 1 by decide, show ¬ (8 : Int) = 2 by decide, show ¬ (8 : Int) = 4 by decide]
  have e : isW n = false := by simp [isW, h1, h2, h4, h8]
  simp -dsimp -implicitDefEqProofs only [go_sem, Nat.reduceBEq, Nat.reduceAdd, Nat.reduceLeDiff, Nat.reduceSub, Int.reduceEq, initE, h1, h2, h4, h8, e, decide_true, decide_false]
end Go.Ev
set_option linter.unusedSimpArgs false
set_option linter.unusedVariables false
namespace Go.Ev
open Go Go.RowKit Go.Proofs
def chOk (c : UInt8) : Prop := (97 ≤ c.toNat ∧ c.toNat ≤ 122) ∨ (65 ≤ c.toNat ∧ c.toNat ≤ 90) ∨ (48 ≤ c.toNat ∧ c.toNat ≤ 57) ∨ c.toNat = 95
instance (c : UInt8) : Decidable (chOk c) := by unfold chOk; infer_instance
def nmOk (b : List UInt8) : Prop := 1 ≤ b.length ∧ b.length ≤ 20 ∧ ∀ c ∈ b, chOk c
instance (b : List UInt8) : Decidable (nmOk b) := by unfold nmOk; infer_instance
theorem nm_len {b : List UInt8} (h : ¬ (1 ≤ b.length ∧ b.length ≤ 20)) : false = decide (nmOk b) := (decide_eq_false (fun h' => h ⟨h'.1, h'.2.1⟩)).symm
theorem nm_ch {b : List UInt8} {i : Nat} (hi : i < b.length) (h : ¬ chOk b[i]) : false = decide (nmOk b) := (decide_eq_false (fun h' => h (h'.2.2 _ (List.getElem_mem _)))).symm
theorem all_take_succ {α : Type} {q : α → Prop} {xs : List α} {i : Nat} (h : i < xs.length) (ha : ∀ c ∈ xs.take i, q c) (hc : q xs[i]) : ∀ c ∈ xs.take (i + 1), q c := by
  rw [List.take_succ_eq_append_getElem h]
  intro c hm
  rcases List.mem_append.1 hm with hm | hm
  · exact ha c hm
  · rw [List.mem_singleton.1 hm]; exact hc
set_option maxRecDepth 4000 in
theorem c_l2nameOK (b : List UInt8) (hb : b.length ≤ 140737488355328) : Meets Try.prog 203 [rowB b] (fun r => r = .v (.bool (decide (nmOk b)))) := by
  refine Meets.intro mixed (hint []) Try.func203 rfl (by decide) res_203 rty_203 (by kernel_rfl) ?_; 
  simp -dsimp -implicitDefEqProofs only [go_sem, Nat.reduceBEq, Nat.reduceAdd, Nat.reduceLeDiff, Nat.reduceSub, Int.reduceEq]
  refine ifB'.of (fun h => ?_) (fun h => ?_)
  · simp -dsimp -implicitDefEqProofs only [go_sem, Nat.reduceBEq, Nat.reduceAdd, Nat.reduceLeDiff, Nat.reduceSub, Int.reduceEq]
    exact nm_len (by omega)
  simp -dsimp -implicitDefEqProofs only [go_sem, Nat.reduceBEq, Nat.reduceAdd, Nat.reduceLeDiff, Nat.reduceSub, Int.reduceEq]
  refine ifB'.of (fun h2 => ?_) (fun h2 => ?_)
  · simp -dsimp -implicitDefEqProofs only [go_sem, Nat.reduceBEq, Nat.reduceAdd, Nat.reduceLeDiff, Nat.reduceSub, Int.reduceEq]
    exact nm_len (by omega)
  simp -dsimp -implicitDefEqProofs only [go_sem, Nat.reduceBEq, Nat.reduceAdd, Nat.reduceLeDiff, Nat.reduceSub, Int.reduceEq]
  refine LoopE.cnt b.length (fun i s => s.env 0 = .rd .ent 5 1 (bytesA b) ∧ s.env 3 = .v (.int .i64 i) ∧ ∀ c ∈ b.take i, chOk c) ⟨by simp -dsimp -implicitDefEqProofs only [go_sem, Nat.reduceBEq, Nat.reduceAdd, Nat.reduceLeDiff, Nat.reduceSub, Int.reduceEq, initE], by simp -dsimp -implicitDefEqProofs only [go_sem, Nat.reduceBEq, Nat.reduceAdd, Nat.reduceLeDiff, Nat.reduceSub, Int.reduceEq], by simp⟩ ?_
  rintro i ⟨e, σ⟩ hi ⟨h0, h3, ha⟩ K hK
  simp only at h0 h3
  simp -dsimp -implicitDefEqProofs only [go_sem, Nat.reduceBEq, Nat.reduceAdd, Nat.reduceLeDiff, Nat.reduceSub, Int.reduceEq, h0, h3]
  refine ifB'.of (fun hlt => ?_) (fun hlt => ?_)
  · have hlt : i < b.length := by omega
    simp -dsimp -implicitDefEqProofs only [go_sem, Nat.reduceBEq, Nat.reduceAdd, Nat.reduceLeDiff, Nat.reduceSub, Int.reduceEq, h0, h3, bytesA_at hlt]
    repeat' (first | with_reducible refine ifB'.of (fun h => ?_) (fun h => ?_) | with_reducible refine ask.of (by omega) ?_ | ((with_reducible refine nm_ch hlt ?_); unfold chOk; omega) | simp -dsimp -implicitDefEqProofs only [go_sem, Nat.reduceBEq, Nat.reduceAdd, Nat.reduceLeDiff, Nat.reduceSub, Int.reduceEq, h0, h3, Bool.not_true, Bool.not_false])
    all_goals (refine hK _ hlt ?_; simp -dsimp -implicitDefEqProofs only [go_sem, Nat.reduceBEq, Nat.reduceAdd, Nat.reduceLeDiff, Nat.reduceSub, Int.reduceEq, h0, h3, wrap_succ (show i < 4611686018427387904 by omega)]; exact all_take_succ hlt ha (by unfold chOk; omega))
  · have : i = b.length := by omega
    subst this
    simp -dsimp -implicitDefEqProofs only [go_sem, Nat.reduceBEq, Nat.reduceAdd, Nat.reduceLeDiff, Nat.reduceSub, Int.reduceEq, h0, h3]
    rw [List.take_length] at ha
    exact (decide_eq_true (show nmOk b from ⟨by omega, by omega, ha⟩)).symm
set_option maxRecDepth 4000 in
theorem c_nameOk (b : List UInt8) (hb : b.length ≤ 140737488355328) : Meets Try.prog 186 [rowB b] (fun r => r = .v (.bool (decide (nmOk b)))) := by
  refine Meets.intro mixed (hint []) Try.func186 rfl (by decide) res_186 rty_186 (by kernel_rfl) ?_; 
  simp -dsimp -implicitDefEqProofs only [go_sem, Nat.reduceBEq, Nat.reduceAdd, Nat.reduceLeDiff, Nat.reduceSub, Int.reduceEq]
  refine ifB'.of (fun h => ?_) (fun h => ?_)
  · simp -dsimp -implicitDefEqProofs only [go_sem, Nat.reduceBEq, Nat.reduceAdd, Nat.reduceLeDiff, Nat.reduceSub, Int.reduceEq]
    exact nm_len (by omega)
  simp -dsimp -implicitDefEqProofs only [go_sem, Nat.reduceBEq, Nat.reduceAdd, Nat.reduceLeDiff, Nat.reduceSub, Int.reduceEq]
  refine ifB'.of (fun h2 => ?_) (fun h2 => ?_)
  · simp -dsimp -implicitDefEqProofs only [go_sem, Nat.reduceBEq, Nat.reduceAdd, Nat.reduceLeDiff, Nat.reduceSub, Int.reduceEq]
    exact nm_len (by omega)
  simp -dsimp -implicitDefEqProofs only [go_sem, Nat.reduceBEq, Nat.reduceAdd, Nat.reduceLeDiff, Nat.reduceSub, Int.reduceEq]
  refine LoopE.cnt b.length (fun i s => s.env 13 = .rd .ent 5 1 (bytesA b) ∧ s.env 14 = .v (.int .i64 b.length) ∧ s.env 15 = .v (.int .i64 i) ∧ ∀ c ∈ b.take i, chOk c) ⟨by simp -dsimp -implicitDefEqProofs only [go_sem, Nat.reduceBEq, Nat.reduceAdd, Nat.reduceLeDiff, Nat.reduceSub, Int.reduceEq, initE], by simp -dsimp -implicitDefEqProofs only [go_sem, Nat.reduceBEq, Nat.reduceAdd, Nat.reduceLeDiff, Nat.reduceSub, Int.reduceEq, initE], by simp -dsimp -implicitDefEqProofs only [go_sem, Nat.reduceBEq, Nat.reduceAdd, Nat.reduceLeDiff, Nat.reduceSub, Int.reduceEq], by simp⟩ ?_
  rintro i ⟨e, σ⟩ hi ⟨h13, h14, h15, ha⟩ K hK
  simp only at h13 h14 h15
  simp -dsimp -implicitDefEqProofs only [go_sem, Nat.reduceBEq, Nat.reduceAdd, Nat.reduceLeDiff, Nat.reduceSub, Int.reduceEq, h13, h14, h15]
  refine ifB'.of (fun hlt => ?_) (fun hlt => ?_)
  · have hlt : i < b.length := by omega
    simp -dsimp -implicitDefEqProofs only [go_sem, Nat.reduceBEq, Nat.reduceAdd, Nat.reduceLeDiff, Nat.reduceSub, Int.reduceEq, h13, h14, h15, bytesA_at hlt]
    repeat' (first | with_reducible refine ifB'.of (fun h => ?_) (fun h => ?_) | with_reducible refine ask.of (by omega) ?_ | ((with_reducible refine nm_ch hlt ?_); unfold chOk; omega) | simp -dsimp -implicitDefEqProofs only [go_sem, Nat.reduceBEq, Nat.reduceAdd, Nat.reduceLeDiff, Nat.reduceSub, Int.reduceEq, h13, h14, h15, Bool.not_true, Bool.not_false])
    all_goals (refine hK _ hlt ?_; simp -dsimp -implicitDefEqProofs only [go_sem, Nat.reduceBEq, Nat.reduceAdd, Nat.reduceLeDiff, Nat.reduceSub, Int.reduceEq, h13, h14, h15, wrap_succ (show i < 4611686018427387904 by omega)]; exact all_take_succ hlt ha (by unfold chOk; omega))
  · have : i = b.length := by omega
    subst this
    simp -dsimp -implicitDefEqProofs only [go_sem, Nat.reduceBEq, Nat.reduceAdd, Nat.reduceLeDiff, Nat.reduceSub, Int.reduceEq, h13, h14, h15]
    rw [List.take_length] at ha
    exact (decide_eq_true (show nmOk b from ⟨by omega, by omega, ha⟩)).symm
def fdOk (x : Fd) : Prop := nmOk x.f ∧ ((x.k = 1 ∧ (x.w = 1 ∨ x.w = 2 ∨ x.w = 4 ∨ x.w = 8)) ∨ ((x.k = 0 ∨ x.k = 2 ∨ x.k = 3) ∧ x.w = 0))
instance (x : Fd) : Decidable (fdOk x) := by unfold fdOk; infer_instance
theorem fd_f {x : Fd} (h : ¬ fdOk x) : false = decide (fdOk x) := by rw [decide_eq_false h]
theorem fd_t {x : Fd} (h : fdOk x) : true = decide (fdOk x) := by rw [decide_eq_true h]
theorem fd_d {x : Fd} {q : Prop} [Decidable q] (h : q ↔ fdOk x) : decide q = decide (fdOk x) := by rw [decide_eq_decide.2 h]
theorem isW_iff (n : Int) : isW n = decide (n = 1 ∨ n = 2 ∨ n = 4 ∨ n = 8) := by
  unfold isW
  simp only [Bool.decide_or, Bool.or_assoc]
theorem c_l2fieldOK (x : Fd) (hb : x.f.length ≤ 1048576) : Meets Try.prog 172 [.agg (fdC x)] (fun r => r = .v (.bool (decide (fdOk x)))) := by
  refine Meets.intro mixed (hint []) Try.func172 rfl (by decide) res_172 rty_172 (by kernel_rfl) ?_; 
  simp -dsimp -implicitDefEqProofs only [go_sem, Nat.reduceBEq, Nat.reduceAdd, Nat.reduceLeDiff, Nat.reduceSub, Int.reduceEq, fdC]
  repeat (first | with_reducible refine ask.of (by omega) ?_ | simp -dsimp -implicitDefEqProofs only [go_sem, Nat.reduceBEq, Nat.reduceAdd, Nat.reduceLeDiff, Nat.reduceSub, Int.reduceEq, bleF])
  refine CallE.of (c_l2nameOK x.f (by omega)) (by rintro r rfl; (repeat' first | exact trivial | exact pure_rowB _ | exact pure_rowO _ | exact pure_rowI _ | exact pure_rowBB _ | exact pure_rowPk _ _ | exact pure_rowSn _ _ | exact pure_rowFd _ _ | exact pure_rowBBB _ | exact pure_rowCl _ _ | exact pure_rowTb _ _ _ | refine And.intro ?_ ?_)) (by simp -dsimp -implicitDefEqProofs only [go_sem, Nat.reduceBEq, Nat.reduceAdd, Nat.reduceLeDiff, Nat.reduceSub, Int.reduceEq]) ?_
  rintro r rfl
  simp -dsimp -implicitDefEqProofs only [go_sem, Nat.reduceBEq, Nat.reduceAdd, Nat.reduceLeDiff, Nat.reduceSub, Int.reduceEq]
  by_cases hn : nmOk x.f
  · simp -dsimp -implicitDefEqProofs only [go_sem, Nat.reduceBEq, Nat.reduceAdd, Nat.reduceLeDiff, Nat.reduceSub, Int.reduceEq, decide_eq_true hn]
    repeat' (first | with_reducible refine ifB'.of (fun h => ?_) (fun h => ?_) | with_reducible refine ask.of (by omega) ?_ | ((with_reducible refine fd_f ?_); unfold fdOk; simp only [hn, true_and]; omega) | ((with_reducible refine fd_t ?_); unfold fdOk; simp only [hn, true_and]; omega) | ((with_reducible refine fd_d ?_); unfold fdOk; simp only [hn, true_and]; omega) | simp -dsimp -implicitDefEqProofs only [go_sem, Nat.reduceBEq, Nat.reduceAdd, Nat.reduceLeDiff, Nat.reduceSub, Int.reduceEq, decide_true])
    all_goals
      refine CallE.of (c_l1width x.w) (by rintro r rfl; (repeat' first | exact trivial | exact pure_rowB _ | exact pure_rowO _ | exact pure_rowI _ | exact pure_rowBB _ | exact pure_rowPk _ _ | exact pure_rowSn _ _ | exact pure_rowFd _ _ | exact pure_rowBBB _ | exact pure_rowCl _ _ | exact pure_rowTb _ _ _ | refine And.intro ?_ ?_)) (by simp -dsimp -implicitDefEqProofs only [go_sem, Nat.reduceBEq, Nat.reduceAdd, Nat.reduceLeDiff, Nat.reduceSub, Int.reduceEq, isW_iff]) ?_
      rintro r rfl
      simp -dsimp -implicitDefEqProofs only [go_sem, Nat.reduceBEq, Nat.reduceAdd, Nat.reduceLeDiff, Nat.reduceSub, Int.reduceEq, isW_iff]
      refine fd_d ?_
      unfold fdOk
      simp only [hn, true_and]
      omega
  · simp -dsimp -implicitDefEqProofs only [go_sem, Nat.reduceBEq, Nat.reduceAdd, Nat.reduceLeDiff, Nat.reduceSub, Int.reduceEq, decide_eq_false hn]
    repeat' (first | with_reducible refine ask.of (by omega) ?_ | ((with_reducible refine fd_f ?_); exact fun h => hn h.1) | simp -dsimp -implicitDefEqProofs only [go_sem, Nat.reduceBEq, Nat.reduceAdd, Nat.reduceLeDiff, Nat.reduceSub, Int.reduceEq, decide_true])
theorem c_fieldOk (x : Fd) (hb : x.f.length ≤ 1048576) : Meets Try.prog 128 [.agg (fdC x)] (fun r => r = .v (.bool (decide (fdOk x)))) := by
  refine Meets.intro mixed (hint []) Try.func128 rfl (by decide) res_128 rty_128 (by kernel_rfl) ?_; 
  simp -dsimp -implicitDefEqProofs only [go_sem, Nat.reduceBEq, Nat.reduceAdd, Nat.reduceLeDiff, Nat.reduceSub, Int.reduceEq, fdC]
  repeat (first | with_reducible refine ask.of (by omega) ?_ | simp -dsimp -implicitDefEqProofs only [go_sem, Nat.reduceBEq, Nat.reduceAdd, Nat.reduceLeDiff, Nat.reduceSub, Int.reduceEq, bleF])
  refine CallE.of (c_nameOk x.f (by omega)) (by rintro r rfl; (repeat' first | exact trivial | exact pure_rowB _ | exact pure_rowO _ | exact pure_rowI _ | exact pure_rowBB _ | exact pure_rowPk _ _ | exact pure_rowSn _ _ | exact pure_rowFd _ _ | exact pure_rowBBB _ | exact pure_rowCl _ _ | exact pure_rowTb _ _ _ | refine And.intro ?_ ?_)) (by simp -dsimp -implicitDefEqProofs only [go_sem, Nat.reduceBEq, Nat.reduceAdd, Nat.reduceLeDiff, Nat.reduceSub, Int.reduceEq]) ?_
  rintro r rfl
  simp -dsimp -implicitDefEqProofs only [go_sem, Nat.reduceBEq, Nat.reduceAdd, Nat.reduceLeDiff, Nat.reduceSub, Int.reduceEq]
  by_cases hn : nmOk x.f
  · simp -dsimp -implicitDefEqProofs only [go_sem, Nat.reduceBEq, Nat.reduceAdd, Nat.reduceLeDiff, Nat.reduceSub, Int.reduceEq, decide_eq_true hn]
    repeat' (first | with_reducible refine ifB'.of (fun h => ?_) (fun h => ?_) | with_reducible refine ask.of (by omega) ?_ | ((with_reducible refine fd_f ?_); unfold fdOk; simp only [hn, true_and]; omega) | ((with_reducible refine fd_t ?_); unfold fdOk; simp only [hn, true_and]; omega) | ((with_reducible refine fd_d ?_); unfold fdOk; simp only [hn, true_and]; omega) | simp -dsimp -implicitDefEqProofs only [go_sem, Nat.reduceBEq, Nat.reduceAdd, Nat.reduceLeDiff, Nat.reduceSub, Int.reduceEq, decide_true])
    all_goals
      refine CallE.of (c_l1width x.w) (by rintro r rfl; (repeat' first | exact trivial | exact pure_rowB _ | exact pure_rowO _ | exact pure_rowI _ | exact pure_rowBB _ | exact pure_rowPk _ _ | exact pure_rowSn _ _ | exact pure_rowFd _ _ | exact pure_rowBBB _ | exact pure_rowCl _ _ | exact pure_rowTb _ _ _ | refine And.intro ?_ ?_)) (by simp -dsimp -implicitDefEqProofs only [go_sem, Nat.reduceBEq, Nat.reduceAdd, Nat.reduceLeDiff, Nat.reduceSub, Int.reduceEq, isW_iff]) ?_
      rintro r rfl
      simp -dsimp -implicitDefEqProofs only [go_sem, Nat.reduceBEq, Nat.reduceAdd, Nat.reduceLeDiff, Nat.reduceSub, Int.reduceEq, isW_iff]
      refine fd_d ?_
      unfold fdOk
      simp only [hn, true_and]
      omega
  · simp -dsimp -implicitDefEqProofs only [go_sem, Nat.reduceBEq, Nat.reduceAdd, Nat.reduceLeDiff, Nat.reduceSub, Int.reduceEq, decide_eq_false hn]
    repeat' (first | with_reducible refine ask.of (by omega) ?_ | ((with_reducible refine fd_f ?_); exact fun h => hn h.1) | simp -dsimp -implicitDefEqProofs only [go_sem, Nat.reduceBEq, Nat.reduceAdd, Nat.reduceLeDiff, Nat.reduceSub, Int.reduceEq, decide_true])
end Go.Ev
set_option linter.unusedSimpArgs false
set_option linter.unusedVariables false
namespace Go.Ev
open Go Go.RowKit Go.Proofs
def nms (xs : List Fd) : List (List UInt8) := xs.map Fd.f
theorem nms_length (xs : List Fd) : (nms xs).length = xs.length := by simp [nms]
theorem nms_at {xs : List Fd} {i : Nat} (h : i < (nms xs).length) : (nms xs)[i] = (xs[i]'(by simpa [nms] using h)).f := by simp [nms]
theorem nms_take (xs : List Fd) (i : Nat) : nms (xs.take i) = (nms xs).take i := by simp [nms, List.map_take]
theorem nms_snoc {xs : List Fd} {i : Nat} (h : i < xs.length) : nms (xs.take i) ++ [xs[i].f] = nms (xs.take (i + 1)) := by
  rw [List.take_succ_eq_append_getElem h, nms, nms, List.map_append]; rfl
theorem nms_nodup {xs : List Fd} {i : Nat} (h : i < xs.length) : (nms (xs.take (i + 1))).Nodup ↔ (nms (xs.take i)).Nodup ∧ xs[i].f ∉ nms (xs.take i) := by
  have := nodup_take_succ (xs := nms xs) (i := i) (by rwa [nms_length])
  rw [nms_at] at this
  rw [nms_take, nms_take]; exact this
def okF (xs : List Fd) : Prop := (1 ≤ xs.length ∧ xs.length ≤ 12) ∧ (∀ x ∈ xs, fdOk x) ∧ (nms xs).Nodup
instance (xs : List Fd) : Decidable (okF xs) := by unfold okF; infer_instance
theorem okF_f {xs : List Fd} (h : ¬ okF xs) : false = decide (okF xs) := (decide_eq_false h).symm
theorem okF_dup {xs : List Fd} {i : Nat} (h : i < xs.length) (hm : xs[i].f ∈ nms (xs.take i)) : ¬ okF xs := fun h' =>
  ((nms_nodup h).1 (by rw [nms_take]; exact nodup_take h'.2.2 _)).2 hm
theorem c_sValidFields (xs : List Fd) (hx : xs.length ≤ 1048576) (hb : ∀ b ∈ xs, b.f.length ≤ 1048576) : Meets Try.prog 110 [rowFd 78 xs] (fun r => r = .v (.bool (decide (okF xs)))) := by
  refine Meets.intro mixed (hint []) Try.func110 rfl (by decide) res_110 rty_110 (by kernel_rfl) ?_; 
  simp -dsimp -implicitDefEqProofs only [go_sem, Nat.reduceBEq, Nat.reduceAdd, Nat.reduceLeDiff, Nat.reduceSub, Int.reduceEq, rowFd]
  refine ifB'.of (fun h => ?_) (fun h => ?_)
  · simp -dsimp -implicitDefEqProofs only [go_sem, Nat.reduceBEq, Nat.reduceAdd, Nat.reduceLeDiff, Nat.reduceSub, Int.reduceEq]
    exact okF_f (fun h' => by have := h'.1; omega)
  simp -dsimp -implicitDefEqProofs only [go_sem, Nat.reduceBEq, Nat.reduceAdd, Nat.reduceLeDiff, Nat.reduceSub, Int.reduceEq]
  refine ifB'.of (fun h2 => ?_) (fun h2 => ?_)
  · simp -dsimp -implicitDefEqProofs only [go_sem, Nat.reduceBEq, Nat.reduceAdd, Nat.reduceLeDiff, Nat.reduceSub, Int.reduceEq]
    exact okF_f (fun h' => by have := h'.1; omega)
  simp -dsimp -implicitDefEqProofs only [go_sem, Nat.reduceBEq, Nat.reduceAdd, Nat.reduceLeDiff, Nat.reduceSub, Int.reduceEq]
  refine LoopE.cnt xs.length (fun i s => s.env 0 = .rd .ent 78 3 (ra fdC xs) ∧ s.env 3 = .v (.int .i64 i) ∧ (∀ x ∈ xs.take i, fdOk x) ∧ (nms (xs.take i)).Nodup) ⟨by simp -dsimp -implicitDefEqProofs only [go_sem, Nat.reduceBEq, Nat.reduceAdd, Nat.reduceLeDiff, Nat.reduceSub, Int.reduceEq, initE, rowFd], by simp -dsimp -implicitDefEqProofs only [go_sem, Nat.reduceBEq, Nat.reduceAdd, Nat.reduceLeDiff, Nat.reduceSub, Int.reduceEq], by simp, by simp [nms]⟩ ?_
  rintro i ⟨e, σ⟩ hi ⟨h0, h3, ha, hnd⟩ K hK
  simp only at h0 h3
  simp -dsimp -implicitDefEqProofs only [go_sem, Nat.reduceBEq, Nat.reduceAdd, Nat.reduceLeDiff, Nat.reduceSub, Int.reduceEq, h0, h3]
  refine ifB'.of (fun hlt => ?_) (fun hlt => ?_)
  · have hlt : i < xs.length := by omega
    simp -dsimp -implicitDefEqProofs only [go_sem, Nat.reduceBEq, Nat.reduceAdd, Nat.reduceLeDiff, Nat.reduceSub, Int.reduceEq, h0, h3, Fd_at hlt, fdC]
    repeat (first | with_reducible refine ask.of (by omega) ?_ | simp -dsimp -implicitDefEqProofs only [go_sem, Nat.reduceBEq, Nat.reduceAdd, Nat.reduceLeDiff, Nat.reduceSub, Int.reduceEq, h0, h3, Fd_at hlt, fdC, bleF])
    refine CallE.of (c_l2fieldOK xs[i] (hb _ (List.getElem_mem _))) (by rintro r rfl; (repeat' first | exact trivial | exact pure_rowB _ | exact pure_rowO _ | exact pure_rowI _ | exact pure_rowBB _ | exact pure_rowPk _ _ | exact pure_rowSn _ _ | exact pure_rowFd _ _ | exact pure_rowBBB _ | exact pure_rowCl _ _ | exact pure_rowTb _ _ _ | refine And.intro ?_ ?_)) (by simp -dsimp -implicitDefEqProofs only [go_sem, Nat.reduceBEq, Nat.reduceAdd, Nat.reduceLeDiff, Nat.reduceSub, Int.reduceEq, h0, h3, fdC]) ?_
    rintro r rfl
    simp -dsimp -implicitDefEqProofs only [go_sem, Nat.reduceBEq, Nat.reduceAdd, Nat.reduceLeDiff, Nat.reduceSub, Int.reduceEq, h0, h3, fdC]
    refine ifB'.of (fun hq => ?_) (fun hq => ?_)
    · simp -dsimp -implicitDefEqProofs only [go_sem, Nat.reduceBEq, Nat.reduceAdd, Nat.reduceLeDiff, Nat.reduceSub, Int.reduceEq, h0, h3]
      refine LoopE.cnt i (fun k s => s.env 0 = .rd .ent 78 3 (ra fdC xs) ∧ s.env 3 = .v (.int .i64 i) ∧ s.env 4 = .v (.int .i64 k) ∧ xs[i].f ∉ nms (xs.take k)) ⟨by simp -dsimp -implicitDefEqProofs only [go_sem, Nat.reduceBEq, Nat.reduceAdd, Nat.reduceLeDiff, Nat.reduceSub, Int.reduceEq, h0, h3], by simp -dsimp -implicitDefEqProofs only [go_sem, Nat.reduceBEq, Nat.reduceAdd, Nat.reduceLeDiff, Nat.reduceSub, Int.reduceEq, h0, h3], by simp -dsimp -implicitDefEqProofs only [go_sem, Nat.reduceBEq, Nat.reduceAdd, Nat.reduceLeDiff, Nat.reduceSub, Int.reduceEq, h0, h3], by simp [nms]⟩ ?_
      rintro k ⟨e, σ⟩ hki ⟨h0, h3, h4, hn⟩ K' hK'
      simp only at h0 h3 h4
      simp -dsimp -implicitDefEqProofs only [go_sem, Nat.reduceBEq, Nat.reduceAdd, Nat.reduceLeDiff, Nat.reduceSub, Int.reduceEq, h0, h3, h4]
      refine ifB'.of (fun hkl => ?_) (fun hkl => ?_)
      · have hkl : k < i := by omega
        have hkx : k < xs.length := by omega
        simp -dsimp -implicitDefEqProofs only [go_sem, Nat.reduceBEq, Nat.reduceAdd, Nat.reduceLeDiff, Nat.reduceSub, Int.reduceEq, h0, h3, h4, Fd_at hlt, Fd_at hkx, fdC]
        repeat (first | with_reducible refine ask.of (by omega) ?_ | simp -dsimp -implicitDefEqProofs only [go_sem, Nat.reduceBEq, Nat.reduceAdd, Nat.reduceLeDiff, Nat.reduceSub, Int.reduceEq, h0, h3, h4, Fd_at hlt, Fd_at hkx, fdC, bleF])
        refine CallE.of (c_l1same xs[k].f xs[i].f (by have := hb _ (List.getElem_mem hkx); omega) (by have := hb _ (List.getElem_mem hlt); omega)) (by rintro r rfl; (repeat' first | exact trivial | exact pure_rowB _ | exact pure_rowO _ | exact pure_rowI _ | exact pure_rowBB _ | exact pure_rowPk _ _ | exact pure_rowSn _ _ | exact pure_rowFd _ _ | exact pure_rowBBB _ | exact pure_rowCl _ _ | exact pure_rowTb _ _ _ | refine And.intro ?_ ?_)) (by simp -dsimp -implicitDefEqProofs only [go_sem, Nat.reduceBEq, Nat.reduceAdd, Nat.reduceLeDiff, Nat.reduceSub, Int.reduceEq, h0, h3, h4]) ?_
        rintro r rfl
        simp -dsimp -implicitDefEqProofs only [go_sem, Nat.reduceBEq, Nat.reduceAdd, Nat.reduceLeDiff, Nat.reduceSub, Int.reduceEq, h0, h3, h4]
        refine ifB'.of (fun hs => ?_) (fun hs => ?_)
        · simp -dsimp -implicitDefEqProofs only [go_sem, Nat.reduceBEq, Nat.reduceAdd, Nat.reduceLeDiff, Nat.reduceSub, Int.reduceEq, h0, h3, h4]
          refine okF_f (okF_dup hlt ?_)
          rw [← hs]
          exact List.mem_map_of_mem (List.mem_take_iff_getElem.2 ⟨k, by omega, rfl⟩)
        · simp -dsimp -implicitDefEqProofs only [go_sem, Nat.reduceBEq, Nat.reduceAdd, Nat.reduceLeDiff, Nat.reduceSub, Int.reduceEq, h0, h3, h4]
          refine hK' _ hkl ?_
          simp -dsimp -implicitDefEqProofs only [go_sem, Nat.reduceBEq, Nat.reduceAdd, Nat.reduceLeDiff, Nat.reduceSub, Int.reduceEq, h0, h3, h4, wrap_succ (show k < 4611686018427387904 by omega)]
          rw [← nms_snoc hkx]
          simp only [List.mem_append, List.mem_singleton, not_or]
          exact ⟨hn, fun h => hs h.symm⟩
      · have : k = i := by omega
        subst this
        simp -dsimp -implicitDefEqProofs only [go_sem, Nat.reduceBEq, Nat.reduceAdd, Nat.reduceLeDiff, Nat.reduceSub, Int.reduceEq, h0, h3, h4]
        refine hK _ hlt ?_
        simp -dsimp -implicitDefEqProofs only [go_sem, Nat.reduceBEq, Nat.reduceAdd, Nat.reduceLeDiff, Nat.reduceSub, Int.reduceEq, h0, h3, h4, wrap_succ (show k < 4611686018427387904 by omega)]
        exact ⟨all_take_succ hlt ha hq, (nms_nodup hlt).2 ⟨hnd, hn⟩⟩
    · simp -dsimp -implicitDefEqProofs only [go_sem, Nat.reduceBEq, Nat.reduceAdd, Nat.reduceLeDiff, Nat.reduceSub, Int.reduceEq, h0, h3]
      exact okF_f (fun h' => hq (h'.2.1 _ (List.getElem_mem _)))
  · have : i = xs.length := by omega
    subst this
    simp -dsimp -implicitDefEqProofs only [go_sem, Nat.reduceBEq, Nat.reduceAdd, Nat.reduceLeDiff, Nat.reduceSub, Int.reduceEq, h0, h3]
    rw [List.take_length] at ha hnd
    exact (decide_eq_true (show okF xs from ⟨⟨by omega, by omega⟩, ha, hnd⟩)).symm
theorem c_iValidFields (xs : List Fd) (hx : xs.length ≤ 1048576) (hb : ∀ b ∈ xs, b.f.length ≤ 1048576) : Meets Try.prog 114 [rowFd 78 xs] (fun r => r = .v (.bool (decide (okF xs)))) := by
  refine Meets.intro mixed (hint []) Try.func114 rfl (by decide) res_114 rty_114 (by kernel_rfl) ?_; 
  simp -dsimp -implicitDefEqProofs only [go_sem, Nat.reduceBEq, Nat.reduceAdd, Nat.reduceLeDiff, Nat.reduceSub, Int.reduceEq, rowFd]
  refine ifB'.of (fun h => ?_) (fun h => ?_)
  · simp -dsimp -implicitDefEqProofs only [go_sem, Nat.reduceBEq, Nat.reduceAdd, Nat.reduceLeDiff, Nat.reduceSub, Int.reduceEq]
    exact okF_f (fun h' => by have := h'.1; omega)
  simp -dsimp -implicitDefEqProofs only [go_sem, Nat.reduceBEq, Nat.reduceAdd, Nat.reduceLeDiff, Nat.reduceSub, Int.reduceEq]
  refine ifB'.of (fun h2 => ?_) (fun h2 => ?_)
  · simp -dsimp -implicitDefEqProofs only [go_sem, Nat.reduceBEq, Nat.reduceAdd, Nat.reduceLeDiff, Nat.reduceSub, Int.reduceEq]
    exact okF_f (fun h' => by have := h'.1; omega)
  simp -dsimp -implicitDefEqProofs only [go_sem, Nat.reduceBEq, Nat.reduceAdd, Nat.reduceLeDiff, Nat.reduceSub, Int.reduceEq]
  refine LoopE.cnt xs.length (fun i s => s.env 17 = .rd .ent 78 3 (ra fdC xs) ∧ s.env 18 = .v (.int .i64 xs.length) ∧ s.env 19 = .v (.int .i64 i) ∧ s.env 3 = .ref [16] ∧ s.σ [16] = some (.mp .string 3 (mpS (ixP (nms (xs.take i))))) ∧ (∀ x ∈ xs.take i, fdOk x) ∧ (nms (xs.take i)).Nodup) ⟨by simp -dsimp -implicitDefEqProofs only [go_sem, Nat.reduceBEq, Nat.reduceAdd, Nat.reduceLeDiff, Nat.reduceSub, Int.reduceEq, initE, rowFd], by simp -dsimp -implicitDefEqProofs only [go_sem, Nat.reduceBEq, Nat.reduceAdd, Nat.reduceLeDiff, Nat.reduceSub, Int.reduceEq, initE, rowFd], by simp -dsimp -implicitDefEqProofs only [go_sem, Nat.reduceBEq, Nat.reduceAdd, Nat.reduceLeDiff, Nat.reduceSub, Int.reduceEq], by simp -dsimp -implicitDefEqProofs only [go_sem, Nat.reduceBEq, Nat.reduceAdd, Nat.reduceLeDiff, Nat.reduceSub, Int.reduceEq], by simp -dsimp -implicitDefEqProofs only [go_sem, Nat.reduceBEq, Nat.reduceAdd, Nat.reduceLeDiff, Nat.reduceSub, Int.reduceEq] <;> rfl, by simp, by simp [nms]⟩ ?_
  rintro i ⟨e, σ⟩ hi ⟨h17, h18, h19, h3, hs, ha, hnd⟩ K hK
  simp only at h17 h18 h19 h3 hs
  simp -dsimp -implicitDefEqProofs only [go_sem, Nat.reduceBEq, Nat.reduceAdd, Nat.reduceLeDiff, Nat.reduceSub, Int.reduceEq, h17, h18, h19, h3, hs]
  refine ifB'.of (fun hlt => ?_) (fun hlt => ?_)
  · have hlt : i < xs.length := by omega
    simp -dsimp -implicitDefEqProofs only [go_sem, Nat.reduceBEq, Nat.reduceAdd, Nat.reduceLeDiff, Nat.reduceSub, Int.reduceEq, h17, h18, h19, h3, hs, Fd_at hlt, fdC]
    repeat (first | with_reducible refine ask.of (by omega) ?_ | simp -dsimp -implicitDefEqProofs only [go_sem, Nat.reduceBEq, Nat.reduceAdd, Nat.reduceLeDiff, Nat.reduceSub, Int.reduceEq, h17, h18, h19, h3, hs, Fd_at hlt, fdC, bleF, ixP_has])
    refine ifB'.of (fun hq => ?_) (fun hq => ?_)
    · simp -dsimp -implicitDefEqProofs only [go_sem, Nat.reduceBEq, Nat.reduceAdd, Nat.reduceLeDiff, Nat.reduceSub, Int.reduceEq, h17, h18, h19, h3, hs]
      exact okF_f (okF_dup hlt hq)
    · simp -dsimp -implicitDefEqProofs only [go_sem, Nat.reduceBEq, Nat.reduceAdd, Nat.reduceLeDiff, Nat.reduceSub, Int.reduceEq, h17, h18, h19, h3, hs]
      repeat (first | with_reducible refine ask.of (by omega) ?_ | simp -dsimp -implicitDefEqProofs only [go_sem, Nat.reduceBEq, Nat.reduceAdd, Nat.reduceLeDiff, Nat.reduceSub, Int.reduceEq, h17, h18, h19, h3, hs, Fd_at hlt, fdC, bleF, ixP_has])
      refine CallE.of (c_fieldOk xs[i] (hb _ (List.getElem_mem _))) (by rintro r rfl; (repeat' first | exact trivial | exact pure_rowB _ | exact pure_rowO _ | exact pure_rowI _ | exact pure_rowBB _ | exact pure_rowPk _ _ | exact pure_rowSn _ _ | exact pure_rowFd _ _ | exact pure_rowBBB _ | exact pure_rowCl _ _ | exact pure_rowTb _ _ _ | refine And.intro ?_ ?_)) (by simp -dsimp -implicitDefEqProofs only [go_sem, Nat.reduceBEq, Nat.reduceAdd, Nat.reduceLeDiff, Nat.reduceSub, Int.reduceEq, h17, h18, h19, h3, hs, fdC]) ?_
      rintro r rfl
      simp -dsimp -implicitDefEqProofs only [go_sem, Nat.reduceBEq, Nat.reduceAdd, Nat.reduceLeDiff, Nat.reduceSub, Int.reduceEq, h17, h18, h19, h3, hs, fdC]
      refine ifB'.of (fun hq2 => ?_) (fun hq2 => ?_)
      · simp -dsimp -implicitDefEqProofs only [go_sem, Nat.reduceBEq, Nat.reduceAdd, Nat.reduceLeDiff, Nat.reduceSub, Int.reduceEq, h17, h18, h19, h3, hs]
        have hp := ixP_put hq
        rw [nms_length, show (xs.take i).length = i by simp; omega, nms_snoc hlt] at hp
        repeat (first | with_reducible refine ask.of (by omega) ?_ | simp -dsimp -implicitDefEqProofs only [go_sem, Nat.reduceBEq, Nat.reduceAdd, Nat.reduceLeDiff, Nat.reduceSub, Int.reduceEq, h17, h18, h19, h3, hs, Fd_at hlt, fdC, bleF, hp])
        refine hK _ hlt ?_
        simp -dsimp -implicitDefEqProofs only [go_sem, Nat.reduceBEq, Nat.reduceAdd, Nat.reduceLeDiff, Nat.reduceSub, Int.reduceEq, h17, h18, h19, h3, hs, wrap_succ (show i < 4611686018427387904 by omega)]
        exact ⟨all_take_succ hlt ha hq2, (nms_nodup hlt).2 ⟨hnd, hq⟩⟩
      · simp -dsimp -implicitDefEqProofs only [go_sem, Nat.reduceBEq, Nat.reduceAdd, Nat.reduceLeDiff, Nat.reduceSub, Int.reduceEq, h17, h18, h19, h3, hs]
        exact okF_f (fun h' => hq2 (h'.2.1 _ (List.getElem_mem _)))
  · have : i = xs.length := by omega
    subst this
    simp -dsimp -implicitDefEqProofs only [go_sem, Nat.reduceBEq, Nat.reduceAdd, Nat.reduceLeDiff, Nat.reduceSub, Int.reduceEq, h17, h18, h19, h3, hs]
    rw [List.take_length] at ha hnd
    exact (decide_eq_true (show okF xs from ⟨⟨by omega, by omega⟩, ha, hnd⟩)).symm
end Go.Ev
set_option linter.unusedSimpArgs false
set_option linter.unusedVariables false
namespace Go.Ev
open Go Go.RowKit Go.Proofs
def w32 (c : UInt32) : AV := .v (.int .u32 c.toNat)
theorem wrap_u32_lt {n : Nat} (h : n < 4294967296) : IntKind.u32.wrap (n : Int) = (n : Int) := by rw [wrap_u32, Nat.mod_eq_of_lt h]
theorem bv32 (a : UInt32) : BitVec.ofInt 32 (a.toNat : Int) = a.toBitVec := by
  apply BitVec.eq_of_toNat_eq
  simp
theorem u32_xor (a b : UInt32) : IntKind.u32.wrap ((BitVec.ofInt IntKind.u32.bits (a.toNat : Int) ^^^ BitVec.ofInt IntKind.u32.bits (b.toNat : Int)).toNat : Int) = ((a ^^^ b).toNat : Int) := by
  show IntKind.u32.wrap ((BitVec.ofInt 32 (a.toNat : Int) ^^^ BitVec.ofInt 32 (b.toNat : Int)).toNat : Int) = _
  rw [bv32, bv32, wrap_u32_lt (BitVec.isLt _)]
  rfl
theorem u32_xor_poly (a : UInt32) : IntKind.u32.wrap ((BitVec.ofInt IntKind.u32.bits (a.toNat : Int) ^^^ BitVec.ofInt IntKind.u32.bits 3988292384).toNat : Int) = ((a ^^^ 3988292384).toNat : Int) := u32_xor a 3988292384
theorem u32_xor_all (a : UInt32) : IntKind.u32.wrap ((BitVec.ofInt IntKind.u32.bits (a.toNat : Int) ^^^ BitVec.ofInt IntKind.u32.bits 4294967295).toNat : Int) = ((a ^^^ 4294967295).toNat : Int) := u32_xor a 4294967295
theorem u32_and_one (a : UInt32) : IntKind.u32.wrap ((BitVec.ofInt IntKind.u32.bits (a.toNat : Int) &&& BitVec.ofInt IntKind.u32.bits 1).toNat : Int) = ((a &&& 1).toNat : Int) := by
  show IntKind.u32.wrap ((BitVec.ofInt 32 (a.toNat : Int) &&& BitVec.ofInt 32 (((1 : UInt32).toNat : Nat) : Int)).toNat : Int) = _
  rw [bv32, bv32, wrap_u32_lt (BitVec.isLt _)]
  rfl
theorem u32_half (a : UInt32) : IntKind.u32.wrap ((a.toNat : Int).tdiv 2) = ((a / 2).toNat : Int) := by
  have h : (a.toNat : Int).tdiv 2 = ((a.toNat / 2 : Nat) : Int) := rfl
  have h2 := a.toNat_lt
  rw [h, wrap_u32_lt (by omega)]
  simp
theorem u32_odd (a : UInt32) : (a.toNat : Int).tmod 2 = ((a % 2).toNat : Int) := by
  have h : (a.toNat : Int).tmod 2 = ((a.toNat % 2 : Nat) : Int) := rfl
  rw [h]; simp
theorem u32_shr8 (a : UInt32) : (a.toNat : Int).fdiv (2 ^ (min (Int.toNat 8) 32)) = ((a >>> 8).toNat : Int) := by
  show (a.toNat : Int).fdiv 256 = _
  rw [Int.fdiv_eq_ediv_of_nonneg _ (by decide), UInt32.toNat_shiftRight, Nat.shiftRight_eq_div_pow]
  rfl
theorem u32_shr1 (a : UInt32) : (a.toNat : Int).fdiv (2 ^ (min (Int.toNat 1) 32)) = ((a / 2).toNat : Int) := by
  show (a.toNat : Int).fdiv 2 = _
  rw [Int.fdiv_eq_ediv_of_nonneg _ (by decide)]
  simp
theorem u32_of_u8 (b : UInt8) : IntKind.u32.wrap (b.toNat : Int) = (b.toUInt32.toNat : Int) := by
  have := b.toNat_lt
  rw [wrap_u32_lt (by omega)]; simp
theorem u8_of_u32 (c : UInt32) : IntKind.u8.wrap (c.toNat : Int) = (c.toUInt8.toNat : Int) := by
  rw [wrap_u8]; simp
theorem u8_xor (a b : UInt8) : IntKind.u8.wrap ((BitVec.ofInt IntKind.u8.bits (a.toNat : Int) ^^^ BitVec.ofInt IntKind.u8.bits (b.toNat : Int)).toNat : Int) = ((a ^^^ b).toNat : Int) := by
  have bv8 : ∀ a : UInt8, BitVec.ofInt 8 (a.toNat : Int) = a.toBitVec := fun a => by apply BitVec.eq_of_toNat_eq; simp
  show IntKind.u8.wrap ((BitVec.ofInt 8 (a.toNat : Int) ^^^ BitVec.ofInt 8 (b.toNat : Int)).toNat : Int) = _
  rw [bv8, bv8, wrap_u8, Nat.mod_eq_of_lt (BitVec.isLt _)]
  rfl
def crcStep (c : UInt32) : UInt32 := if c % 2 = 1 then (c / 2) ^^^ 3988292384 else c / 2
def crcN : Nat → UInt32 → UInt32
  | 0, c => c
  | n + 1, c => crcStep (crcN n c)
def crcU (c : UInt32) : List UInt8 → UInt32
  | [] => c
  | b :: bs => crcU (crcN 8 (c ^^^ b.toUInt32)) bs
theorem crcU_snoc (c : UInt32) (l : List UInt8) (b : UInt8) : crcU c (l ++ [b]) = crcN 8 (crcU c l ^^^ b.toUInt32) := by
  induction l generalizing c with
  | nil => rfl
  | cons x l ih => exact ih _
def crcB (bs : List UInt8) : UInt32 := crcU 4294967295 bs ^^^ 4294967295
theorem c_specCrc32 (bs : List UInt8) (hb : bs.length ≤ 1048576) : Meets Try.prog 180 [rowB bs] (fun r => r = .v (.int .u32 (crcB bs).toNat)) := by
  refine Meets.intro mixed (hint []) Try.func180 rfl (by decide) res_180 rty_180 (by kernel_rfl) ?_; 
  simp -dsimp -implicitDefEqProofs only [go_sem, Nat.reduceBEq, Nat.reduceAdd, Nat.reduceLeDiff, Nat.reduceSub, Int.reduceEq]
  refine LoopE.cnt bs.length (fun i s => s.env 0 = .rd .ent 5 1 (bytesA bs) ∧ s.env 4 = .v (.int .i64 i) ∧ s.env 3 = .v (.int .u32 (crcU 4294967295 (bs.take i)).toNat)) ⟨by simp -dsimp -implicitDefEqProofs only [go_sem, Nat.reduceBEq, Nat.reduceAdd, Nat.reduceLeDiff, Nat.reduceSub, Int.reduceEq, initE], by simp -dsimp -implicitDefEqProofs only [go_sem, Nat.reduceBEq, Nat.reduceAdd, Nat.reduceLeDiff, Nat.reduceSub, Int.reduceEq], by simp -dsimp -implicitDefEqProofs only [go_sem, Nat.reduceBEq, Nat.reduceAdd, Nat.reduceLeDiff, Nat.reduceSub, Int.reduceEq, List.take_zero] <;> rfl⟩ ?_
  rintro i ⟨e, σ⟩ hi ⟨h0, h4, h3⟩ K hK
  simp only at h0 h3 h4
  simp -dsimp -implicitDefEqProofs only [go_sem, Nat.reduceBEq, Nat.reduceAdd, Nat.reduceLeDiff, Nat.reduceSub, Int.reduceEq, h0, h3, h4]
  refine ifB'.of (fun hlt => ?_) (fun hlt => ?_)
  · have hlt : i < bs.length := by omega
    have e1 := bytesA_at hlt
    simp -dsimp -implicitDefEqProofs only [go_sem, Nat.reduceBEq, Nat.reduceAdd, Nat.reduceLeDiff, Nat.reduceSub, Int.reduceEq, h0, h3, h4, e1, u32_of_u8, u32_xor]
    refine ask.of (by omega) ?_
    refine LoopE.cnt 8 (fun j s => s.env 0 = .rd .ent 5 1 (bytesA bs) ∧ s.env 4 = .v (.int .i64 i) ∧ s.env 5 = .v (.int .i64 j) ∧ s.env 3 = .v (.int .u32 (crcN j (crcU 4294967295 (bs.take i) ^^^ bs[i].toUInt32)).toNat)) ⟨by simp -dsimp -implicitDefEqProofs only [go_sem, Nat.reduceBEq, Nat.reduceAdd, Nat.reduceLeDiff, Nat.reduceSub, Int.reduceEq, h0, h3, h4], by simp -dsimp -implicitDefEqProofs only [go_sem, Nat.reduceBEq, Nat.reduceAdd, Nat.reduceLeDiff, Nat.reduceSub, Int.reduceEq, h0, h3, h4], by simp -dsimp -implicitDefEqProofs only [go_sem, Nat.reduceBEq, Nat.reduceAdd, Nat.reduceLeDiff, Nat.reduceSub, Int.reduceEq, h0, h3, h4], by simp -dsimp -implicitDefEqProofs only [go_sem, Nat.reduceBEq, Nat.reduceAdd, Nat.reduceLeDiff, Nat.reduceSub, Int.reduceEq, h0, h3, h4, crcN]⟩ ?_
    rintro j ⟨e, σ⟩ hj ⟨h0, h4, h5, h3⟩ K' hK'
    simp only at h0 h3 h4 h5
    generalize hc : crcN j (crcU 4294967295 (bs.take i) ^^^ bs[i].toUInt32) = c at h3
    simp -dsimp -implicitDefEqProofs only [go_sem, Nat.reduceBEq, Nat.reduceAdd, Nat.reduceLeDiff, Nat.reduceSub, Int.reduceEq, h0, h3, h4, h5]
    refine ifB'.of (fun hlt2 => ?_) (fun hlt2 => ?_)
    · simp -dsimp -implicitDefEqProofs only [go_sem, Nat.reduceBEq, Nat.reduceAdd, Nat.reduceLeDiff, Nat.reduceSub, Int.reduceEq, h0, h3, h4, h5, u32_odd, u32_half, Int.reduceNe]
      refine ifB'.of (fun hod => ?_) (fun hod => ?_)
      · simp -dsimp -implicitDefEqProofs only [go_sem, Nat.reduceBEq, Nat.reduceAdd, Nat.reduceLeDiff, Nat.reduceSub, Int.reduceEq, h0, h3, h4, h5, u32_xor_poly]
        refine hK' _ (by omega) ?_
        simp -dsimp -implicitDefEqProofs only [go_sem, Nat.reduceBEq, Nat.reduceAdd, Nat.reduceLeDiff, Nat.reduceSub, Int.reduceEq, h0, h3, h4, h5, wrap_succ (show j < 4611686018427387904 by omega)]
        rw [crcN, hc, crcStep, if_pos (UInt32.toNat_inj.1 (Int.ofNat_inj.1 hod))]
      · simp -dsimp -implicitDefEqProofs only [go_sem, Nat.reduceBEq, Nat.reduceAdd, Nat.reduceLeDiff, Nat.reduceSub, Int.reduceEq, h0, h3, h4, h5]
        refine hK' _ (by omega) ?_
        simp -dsimp -implicitDefEqProofs only [go_sem, Nat.reduceBEq, Nat.reduceAdd, Nat.reduceLeDiff, Nat.reduceSub, Int.reduceEq, h0, h3, h4, h5, wrap_succ (show j < 4611686018427387904 by omega)]
        rw [crcN, hc, crcStep, if_neg (fun e => hod (by rw [e]; rfl))]
    · simp -dsimp -implicitDefEqProofs only [go_sem, Nat.reduceBEq, Nat.reduceAdd, Nat.reduceLeDiff, Nat.reduceSub, Int.reduceEq, h0, h3, h4, h5]
      have : j = 8 := by omega
      subst this
      refine hK _ hlt ?_
      simp -dsimp -implicitDefEqProofs only [go_sem, Nat.reduceBEq, Nat.reduceAdd, Nat.reduceLeDiff, Nat.reduceSub, Int.reduceEq, h0, h3, h4, h5, wrap_succ (show i < 4611686018427387904 by omega)]
      rw [List.take_succ_eq_append_getElem hlt, crcU_snoc, hc]
  · have : i = bs.length := by omega
    subst this
    simp -dsimp -implicitDefEqProofs only [go_sem, Nat.reduceBEq, Nat.reduceAdd, Nat.reduceLeDiff, Nat.reduceSub, Int.reduceEq, h0, h3, h4, u32_xor_all, List.take_length]
    rfl
def w32s (l : List UInt32) : List AV := l.map w32
theorem w32s_length (l : List UInt32) : (w32s l).length = l.length := by simp [w32s]
theorem w32s_kill (I J : List Id) : ∀ l : List UInt32, killL I J (w32s l) = w32s l
  | [] => rfl
  | c :: l => congrArg (w32 c :: ·) (w32s_kill I J l)
theorem w32s_ok : ∀ l : List UInt32, (w32s l).all okBox = true
  | [] => rfl
  | c :: l => w32s_ok l
theorem w32s_zeros (n : Nat) : List.replicate n (AV.v (.int .u32 0)) = w32s (List.replicate n 0) := by simp [w32s, w32]
theorem w32s_set (l : List UInt32) (i : Nat) (c : UInt32) : (w32s l).set i (.v (.int .u32 c.toNat)) = w32s (l.set i c) := by simp [w32s, w32, List.map_set]
theorem w32s_at {l : List UInt32} {i : Nat} (h : i < l.length) : (w32s l)[i]? = some (.v (.int .u32 l[i].toNat)) := by simp [w32s, w32, h]
theorem setAt_full : ∀ (k : Nat) (pre vs cs : List AV), pre.length = k → vs.length = cs.length → setAt vs k (pre ++ cs) = pre ++ vs
  | k, pre, [], cs, _, h => by simp [setAt, List.eq_nil_of_length_eq_zero h.symm]
  | k, pre, v :: vs, [], _, h => by simp at h
  | k, pre, v :: vs, c :: cs, hp, h => by
    subst hp
    rw [setAt]
    have e : (pre ++ c :: cs).set pre.length v = (pre ++ [v]) ++ cs := by simp
    rw [e, setAt_full (pre.length + 1) (pre ++ [v]) vs cs (by simp) (by simpa using h)]
    simp
theorem w32s_clL (s : St) : ∀ l : List UInt32, s.clL (w32s l) = some (w32s l, [])
  | [] => rfl
  | c :: l => by
    show bindO (some (w32 c, [])) (fun x => bindO (s.clL (w32s l)) fun y => some (x.1 :: y.1, x.2 ++ y.2)) = _
    rw [w32s_clL s l]
    rfl
theorem nilL_one (l : List AV) : nilL [none] l = l := by cases l <;> simp [nilL, nilC]
theorem w32s_setAt (l l' : List UInt32) (h : l.length = l'.length) : setAt (w32s l) 0 (w32s l') = w32s l := by
  simpa using setAt_full 0 [] (w32s l) (w32s l') rfl (by simp [w32s_length, h])
def crcTab (n : Nat) : List UInt32 := (List.range n).map fun j => crcN 8 (UInt32.ofNat j)
theorem crcTab_length (n : Nat) : (crcTab n).length = n := by simp [crcTab]
attribute [go_sem] nilL_one w32s_clL w32s_length w32s_kill w32s_ok w32s_zeros w32s_set w32s_setAt crcTab_length
theorem u32_of_nat {i : Nat} (h : i < 4294967296) : IntKind.u32.wrap (i : Int) = ((UInt32.ofNat i).toNat : Int) := by
  rw [wrap_u32_lt h, UInt32.toNat_ofNat_of_lt' h]
theorem u32_bit (a : UInt32) : (a &&& 1).toNat = (a % 2).toNat := by
  rw [UInt32.toNat_and]
  simp [Nat.and_one_is_mod]
set_option maxRecDepth 4000 in
theorem c_crcTable : Meets Try.prog 223 [] (fun r => r = .agg (w32s (crcTab 256))) := by
  refine Meets.intro mixed (hint []) Try.func223 rfl (by decide) res_223 rty_223 (by kernel_rfl) ?_; 
  simp -dsimp -implicitDefEqProofs only [go_sem, Nat.reduceBEq, Nat.reduceAdd, Nat.reduceLeDiff, Nat.reduceSub, Int.reduceEq]
  refine LoopE.cnt 256 (fun i s => s.env 0 = .ptr [0] 0 0 0 ∧ s.env 1 = .ptr [1] 0 0 0 ∧ s.env 6 = .v (.int .i64 i) ∧
    s.σ [0] = some (.box 265 (w32s (List.replicate 256 0))) ∧ s.σ [1] = some (.box 265 (w32s (crcTab i ++ List.replicate (256 - i) 0)))) ⟨by simp -dsimp -implicitDefEqProofs only [go_sem, Nat.reduceBEq, Nat.reduceAdd, Nat.reduceLeDiff, Nat.reduceSub, Int.reduceEq], by simp -dsimp -implicitDefEqProofs only [go_sem, Nat.reduceBEq, Nat.reduceAdd, Nat.reduceLeDiff, Nat.reduceSub, Int.reduceEq], by simp -dsimp -implicitDefEqProofs only [go_sem, Nat.reduceBEq, Nat.reduceAdd, Nat.reduceLeDiff, Nat.reduceSub, Int.reduceEq], by simp -dsimp -implicitDefEqProofs only [go_sem, Nat.reduceBEq, Nat.reduceAdd, Nat.reduceLeDiff, Nat.reduceSub, Int.reduceEq], by simp -dsimp -implicitDefEqProofs only [go_sem, Nat.reduceBEq, Nat.reduceAdd, Nat.reduceLeDiff, Nat.reduceSub, Int.reduceEq] <;> rfl⟩ ?_
  rintro i ⟨e, σ⟩ hi ⟨h0, h1, h6, g0, g1⟩ K hK
  simp only at h0 h1 h6 g0 g1
  simp -dsimp -implicitDefEqProofs only [go_sem, Nat.reduceBEq, Nat.reduceAdd, Nat.reduceLeDiff, Nat.reduceSub, Int.reduceEq, h0, h1, h6, g0, g1]
  refine ifB'.of (fun hlt => ?_) (fun hlt => ?_)
  · have hlt : i < 256 := by omega
    simp -dsimp -implicitDefEqProofs only [go_sem, Nat.reduceBEq, Nat.reduceAdd, Nat.reduceLeDiff, Nat.reduceSub, Int.reduceEq, h0, h1, h6, g0, g1, u32_of_nat (show i < 4294967296 by omega)]
    refine LoopE.cnt 8 (fun j s => s.env 0 = .ptr [0] 0 0 0 ∧ s.env 1 = .ptr [1] 0 0 0 ∧ s.env 6 = .v (.int .i64 i) ∧ s.env 2 = .v (.int .i64 i) ∧ s.env 11 = .v (.int .i64 j) ∧ s.env 3 = .v (.int .u32 (crcN j (UInt32.ofNat i)).toNat) ∧
      s.σ [0] = some (.box 265 (w32s (List.replicate 256 0))) ∧ s.σ [1] = some (.box 265 (w32s (crcTab i ++ List.replicate (256 - i) 0)))) ⟨by simp -dsimp -implicitDefEqProofs only [go_sem, Nat.reduceBEq, Nat.reduceAdd, Nat.reduceLeDiff, Nat.reduceSub, Int.reduceEq, h0, h1, h6, g0, g1], by simp -dsimp -implicitDefEqProofs only [go_sem, Nat.reduceBEq, Nat.reduceAdd, Nat.reduceLeDiff, Nat.reduceSub, Int.reduceEq, h0, h1, h6, g0, g1], by simp -dsimp -implicitDefEqProofs only [go_sem, Nat.reduceBEq, Nat.reduceAdd, Nat.reduceLeDiff, Nat.reduceSub, Int.reduceEq, h0, h1, h6, g0, g1], by simp -dsimp -implicitDefEqProofs only [go_sem, Nat.reduceBEq, Nat.reduceAdd, Nat.reduceLeDiff, Nat.reduceSub, Int.reduceEq, h0, h1, h6, g0, g1], by simp -dsimp -implicitDefEqProofs only [go_sem, Nat.reduceBEq, Nat.reduceAdd, Nat.reduceLeDiff, Nat.reduceSub, Int.reduceEq, h0, h1, h6, g0, g1], by simp -dsimp -implicitDefEqProofs only [go_sem, Nat.reduceBEq, Nat.reduceAdd, Nat.reduceLeDiff, Nat.reduceSub, Int.reduceEq, h0, h1, h6, g0, g1, crcN], by simp -dsimp -implicitDefEqProofs only [go_sem, Nat.reduceBEq, Nat.reduceAdd, Nat.reduceLeDiff, Nat.reduceSub, Int.reduceEq, h0, h1, h6, g0, g1], by simp -dsimp -implicitDefEqProofs only [go_sem, Nat.reduceBEq, Nat.reduceAdd, Nat.reduceLeDiff, Nat.reduceSub, Int.reduceEq, h0, h1, h6, g0, g1]⟩ ?_
    rintro j ⟨e, σ⟩ hj ⟨h0, h1, h6, h2, h11, h3, g0, g1⟩ K' hK'
    simp only at h0 h1 h6 h2 h11 h3 g0 g1
    generalize hc : crcN j (UInt32.ofNat i) = c at h3
    simp -dsimp -implicitDefEqProofs only [go_sem, Nat.reduceBEq, Nat.reduceAdd, Nat.reduceLeDiff, Nat.reduceSub, Int.reduceEq, h0, h1, h6, h2, h11, h3, g0, g1]
    refine ifB'.of (fun hlt2 => ?_) (fun hlt2 => ?_)
    · simp -dsimp -implicitDefEqProofs only [go_sem, Nat.reduceBEq, Nat.reduceAdd, Nat.reduceLeDiff, Nat.reduceSub, Int.reduceEq, h0, h1, h6, h2, h11, h3, g0, g1, u32_and_one, u32_shr1, u32_bit]
      refine ask.of (by decide) ?_
      refine ifB'.of (fun hod => ?_) (fun hod => ?_)
      · simp -dsimp -implicitDefEqProofs only [go_sem, Nat.reduceBEq, Nat.reduceAdd, Nat.reduceLeDiff, Nat.reduceSub, Int.reduceEq, h0, h1, h6, h2, h11, h3, g0, g1, u32_xor_poly]
        refine hK' _ (by omega) ?_
        simp -dsimp -implicitDefEqProofs only [go_sem, Nat.reduceBEq, Nat.reduceAdd, Nat.reduceLeDiff, Nat.reduceSub, Int.reduceEq, h0, h1, h6, h2, h11, h3, g0, g1, wrap_succ (show j < 4611686018427387904 by omega)]
        rw [crcN, hc, crcStep, if_pos (UInt32.toNat_inj.1 (Int.ofNat_inj.1 hod))]
      · simp -dsimp -implicitDefEqProofs only [go_sem, Nat.reduceBEq, Nat.reduceAdd, Nat.reduceLeDiff, Nat.reduceSub, Int.reduceEq, h0, h1, h6, h2, h11, h3, g0, g1]
        refine hK' _ (by omega) ?_
        simp -dsimp -implicitDefEqProofs only [go_sem, Nat.reduceBEq, Nat.reduceAdd, Nat.reduceLeDiff, Nat.reduceSub, Int.reduceEq, h0, h1, h6, h2, h11, h3, g0, g1, wrap_succ (show j < 4611686018427387904 by omega)]
        rw [crcN, hc, crcStep, if_neg (fun e => hod (by rw [e]; rfl))]
    · have : j = 8 := by omega
      subst this
      simp -dsimp -implicitDefEqProofs only [go_sem, Nat.reduceBEq, Nat.reduceAdd, Nat.reduceLeDiff, Nat.reduceSub, Int.reduceEq, h0, h1, h6, h2, h11, h3, g0, g1]
      have hl : (crcTab i ++ List.replicate (256 - i) 0).length = 256 := by simp only [List.length_append, crcTab_length, List.length_replicate]; omega
      refine ask.of (by omega) (ask.of (by omega) (hK _ hlt ?_))
      simp -dsimp -implicitDefEqProofs only [go_sem, Nat.reduceBEq, Nat.reduceAdd, Nat.reduceLeDiff, Nat.reduceSub, Int.reduceEq, h0, h1, h6, h2, h11, h3, g0, g1, wrap_succ (show i < 4611686018427387904 by omega)]
      have e : 256 - i = (256 - (i + 1)) + 1 := by omega
      rw [Nat.mul_one, e, List.replicate_succ, List.set_append_right _ _ (by rw [crcTab_length]; exact Nat.le_refl _), crcTab_length, Nat.sub_self, List.set_cons_zero]
      have e2 : crcTab (i + 1) = crcTab i ++ [c] := by rw [crcTab, List.range_succ, List.map_append, ← hc]; rfl
      rw [e2, List.append_assoc]
      rfl
  · have : i = 256 := by omega
    subst this
    have e0 : crcTab 256 ++ List.replicate (256 - 256) 0 = crcTab 256 := List.append_nil _
    rw [e0] at g1
    have e1 : List.take 256 (w32s (crcTab 256)) = w32s (crcTab 256) := by
      exact List.take_of_length_le (by rw [w32s_length, crcTab_length]; exact Nat.le_refl _)
    have e2 : Nat.ble 256 256 = true := rfl
    simp -dsimp -implicitDefEqProofs only [go_sem, Nat.reduceBEq, Nat.reduceAdd, Nat.reduceLeDiff, Nat.reduceSub, Int.reduceEq, h0, h1, h6, g0, g1, e1, e2, w32s_setAt (crcTab 256) (List.replicate 256 0) (by rw [crcTab_length, List.length_replicate]), List.map_id', List.length_replicate]
def stB (x : BitVec 32) : BitVec 32 := (x >>> 1) ^^^ (if x.getLsbD 0 then 3988292384 else 0)
def stN : Nat → BitVec 32 → BitVec 32
  | 0, x => x
  | n + 1, x => stB (stN n x)
theorem crcStep_bv (c : UInt32) : (crcStep c).toBitVec = stB c.toBitVec := by
  have h1 : (c / 2).toBitVec = c.toBitVec >>> 1 := by
    apply BitVec.eq_of_toNat_eq
    simp [BitVec.toNat_ushiftRight, Nat.shiftRight_eq_div_pow]
  have h2 : c.toBitVec.getLsbD 0 = decide (c % 2 = 1) := by
    rw [BitVec.getLsbD, Nat.testBit_zero]
    congr 1
    rw [← UInt32.toNat_inj]
    simp
  unfold crcStep stB
  rw [h2]
  by_cases h : c % 2 = 1
  · simp only [h, if_true, decide_true]
    rw [UInt32.toBitVec_xor, h1]; rfl
  · simp only [h, if_false, decide_false]
    rw [h1]; simp
theorem crcN_bv (n : Nat) (c : UInt32) : (crcN n c).toBitVec = stN n c.toBitVec := by
  induction n with
  | zero => rfl
  | succ n ih => rw [crcN, crcStep_bv, ih]; rfl
theorem stB_xor (a b : BitVec 32) : stB (a ^^^ b) = stB a ^^^ stB b := by
  unfold stB
  rw [BitVec.ushiftRight_xor_distrib, BitVec.getLsbD_xor]
  cases a.getLsbD 0 <;> cases b.getLsbD 0 <;> simp
  · rw [BitVec.xor_assoc]
  · rw [BitVec.xor_assoc, BitVec.xor_assoc, BitVec.xor_comm (b >>> 1)]
  · rw [BitVec.xor_assoc, ← BitVec.xor_assoc (3988292384#32) (b >>> 1), BitVec.xor_comm (3988292384#32) (b >>> 1), BitVec.xor_assoc, BitVec.xor_self, BitVec.xor_zero]
theorem stN_xor (n : Nat) (a b : BitVec 32) : stN n (a ^^^ b) = stN n a ^^^ stN n b := by
  induction n with
  | zero => rfl
  | succ n ih => rw [stN, ih, stB_xor]; rfl
theorem stN_low (x : BitVec 32) (h : ∀ i, i < 8 → x.getLsbD i = false) : ∀ n, n ≤ 8 → stN n x = x >>> n
  | 0, _ => by simp [stN]
  | n + 1, hn => by
    rw [stN, stN_low x h n (by omega), stB]
    have : (x >>> n).getLsbD 0 = false := by rw [BitVec.getLsbD_ushiftRight]; simpa using h n (by omega)
    rw [this, ← BitVec.shiftRight_add]
    simp
theorem st8 (x : BitVec 32) : stN 8 x = (x >>> 8) ^^^ stN 8 (x &&& 255) := by
  have hx : x = (x &&& ~~~255#32) ^^^ (x &&& 255#32) := by
    apply BitVec.eq_of_getLsbD_eq
    intro i hi
    simp only [BitVec.getLsbD_xor, BitVec.getLsbD_and, BitVec.getLsbD_not, hi, decide_true, Bool.true_and]
    cases x.getLsbD i <;> cases (255#32).getLsbD i <;> rfl
  have h255 : ∀ i, (255#32).getLsbD i = decide (i < 8) := fun i => by
    have : (255#32).getLsbD i = (2 ^ 8 - 1).testBit i := rfl
    rw [this, Nat.testBit_two_pow_sub_one]
  have hlow : stN 8 (x &&& ~~~255#32) = (x &&& ~~~255#32) >>> 8 := stN_low _ (fun i hi => by
    rw [BitVec.getLsbD_and, BitVec.getLsbD_not, h255]; simp [hi]) 8 (Nat.le_refl _)
  have hs : (x &&& ~~~255#32) >>> 8 = x >>> 8 := by
    apply BitVec.eq_of_getLsbD_eq
    intro i hi
    rw [BitVec.getLsbD_ushiftRight, BitVec.getLsbD_ushiftRight, BitVec.getLsbD_and, BitVec.getLsbD_not, h255]
    by_cases h : 8 + i < 32
    · simp [h]
    · simp [BitVec.getLsbD_of_ge x (8 + i) (by omega)]
  conv => lhs; rw [hx]
  rw [stN_xor, hlow, hs]
  rfl
theorem crc_byte (c : UInt32) (b : UInt8) : crcN 8 (c ^^^ b.toUInt32) = (c >>> 8) ^^^ crcN 8 (UInt32.ofNat (c.toUInt8 ^^^ b).toNat) := by
  apply UInt32.toBitVec_inj.1
  rw [crcN_bv, UInt32.toBitVec_xor, st8, UInt32.toBitVec_xor, crcN_bv]
  have hb : b.toUInt32.toBitVec = b.toBitVec.setWidth 32 := rfl
  have h1 : (c.toBitVec ^^^ b.toUInt32.toBitVec) >>> 8 = (c >>> 8).toBitVec := by
    apply BitVec.eq_of_toNat_eq
    have hbl := b.toNat_lt
    rw [BitVec.ushiftRight_xor_distrib]
    have : b.toUInt32.toBitVec >>> 8 = 0#32 := by
      apply BitVec.eq_of_toNat_eq
      rw [BitVec.toNat_ushiftRight, Nat.shiftRight_eq_div_pow]
      have : b.toUInt32.toBitVec.toNat = b.toNat := by simp
      rw [this]; simp; omega
    rw [this, BitVec.xor_zero]
    rfl
  have h2 : (c.toBitVec ^^^ b.toUInt32.toBitVec) &&& 255 = (UInt32.ofNat (c.toUInt8 ^^^ b).toNat).toBitVec := by
    apply BitVec.eq_of_toNat_eq
    have h3 : (UInt32.ofNat (c.toUInt8 ^^^ b).toNat).toBitVec.toNat = (c.toUInt8 ^^^ b).toNat := by
      have := (c.toUInt8 ^^^ b).toNat_lt
      show (UInt32.ofNat (c.toUInt8 ^^^ b).toNat).toNat = _
      rw [UInt32.toNat_ofNat_of_lt' (by show _ < 4294967296; omega)]
    rw [h3, BitVec.toNat_and, BitVec.toNat_xor, UInt8.toNat_xor]
    have h4 : b.toUInt32.toBitVec.toNat = b.toNat := by simp
    have h5 : (255 : BitVec 32).toNat = 2 ^ 8 - 1 := rfl
    rw [h4, h5, Nat.and_two_pow_sub_one_eq_mod, Nat.xor_mod_two_pow]
    have h6 : c.toUInt8.toNat = c.toBitVec.toNat % 2 ^ 8 := by simp
    have hbl := b.toNat_lt
    rw [h6, Nat.mod_eq_of_lt (show b.toNat < 2 ^ 8 from hbl)]
  rw [h1, h2]
theorem u32_not (a : UInt32) : IntKind.u32.wrap ((BitVec.ofInt IntKind.u32.bits (if IntKind.u32.signed = true then -1 else IntKind.u32.max) ^^^ BitVec.ofInt IntKind.u32.bits (a.toNat : Int)).toNat : Int) = ((a ^^^ 4294967295).toNat : Int) := by
  have := u32_xor 4294967295 a
  rw [UInt32.xor_comm] at this
  exact this
theorem pureCs_w32s : ∀ l : List UInt32, pureCs (w32s l)
  | [] => trivial
  | c :: l => ⟨trivial, pureCs_w32s l⟩
theorem pure_w32s (l : List UInt32) : (AV.agg (w32s l)).pure := pureCs_w32s l
theorem w32s_opn (id : Id) : ∀ (l : List UInt32) (q : Nat), opnCs id q (w32s l) = (w32s l, [])
  | [], _ => rfl
  | c :: l, q => by
    have := w32s_opn id l (q + 1)
    show ((opnC id q (w32 c)).1 :: (opnCs id (q + 1) (w32s l)).1, (opnC id q (w32 c)).2 ++ (opnCs id (q + 1) (w32s l)).2) = _
    rw [this]; rfl
attribute [go_sem] w32s_opn
theorem crcTab_at {k : Nat} (h : k < 256) : (crcTab 256)[k]'(by rw [crcTab_length]; exact h) = crcN 8 (UInt32.ofNat k) := by simp [crcTab]
theorem c_implCrc32 (bs : List UInt8) (hb : bs.length ≤ 1048576) : Meets Try.prog 209 [rowB bs] (fun r => r = .v (.int .u32 (crcB bs).toNat)) := by
  refine Meets.intro mixed (hint []) Try.func209 rfl (by decide) res_209 rty_209 (by kernel_rfl) ?_; 
  simp -dsimp -implicitDefEqProofs only [go_sem, Nat.reduceBEq, Nat.reduceAdd, Nat.reduceLeDiff, Nat.reduceSub, Int.reduceEq]
  refine CallE.of c_crcTable (by rintro r rfl; exact pure_w32s _) (by simp -dsimp -implicitDefEqProofs only [go_sem, Nat.reduceBEq, Nat.reduceAdd, Nat.reduceLeDiff, Nat.reduceSub, Int.reduceEq]) ?_
  rintro r rfl
  simp -dsimp -implicitDefEqProofs only [go_sem, Nat.reduceBEq, Nat.reduceAdd, Nat.reduceLeDiff, Nat.reduceSub, Int.reduceEq, List.length_replicate]
  refine LoopE.cnt bs.length (fun i s => s.env 8 = .rd .ent 5 1 (bytesA bs) ∧ s.env 9 = .v (.int .i64 bs.length) ∧ s.env 10 = .v (.int .i64 i) ∧ s.env 3 = .ptr [3] 0 0 0 ∧
    s.env 4 = .v (.int .u32 (crcU 4294967295 (bs.take i)).toNat) ∧ s.σ [3] = some (.box 265 (w32s (crcTab 256)))) ⟨by simp -dsimp -implicitDefEqProofs only [go_sem, Nat.reduceBEq, Nat.reduceAdd, Nat.reduceLeDiff, Nat.reduceSub, Int.reduceEq, initE], by simp -dsimp -implicitDefEqProofs only [go_sem, Nat.reduceBEq, Nat.reduceAdd, Nat.reduceLeDiff, Nat.reduceSub, Int.reduceEq, initE], by simp -dsimp -implicitDefEqProofs only [go_sem, Nat.reduceBEq, Nat.reduceAdd, Nat.reduceLeDiff, Nat.reduceSub, Int.reduceEq], by simp -dsimp -implicitDefEqProofs only [go_sem, Nat.reduceBEq, Nat.reduceAdd, Nat.reduceLeDiff, Nat.reduceSub, Int.reduceEq], by simp -dsimp -implicitDefEqProofs only [go_sem, Nat.reduceBEq, Nat.reduceAdd, Nat.reduceLeDiff, Nat.reduceSub, Int.reduceEq, List.take_zero] <;> rfl, by simp -dsimp -implicitDefEqProofs only [go_sem, Nat.reduceBEq, Nat.reduceAdd, Nat.reduceLeDiff, Nat.reduceSub, Int.reduceEq]⟩ ?_
  rintro i ⟨e, σ⟩ hi ⟨h8, h9, h10, h3, h4, g3⟩ K hK
  simp only at h8 h9 h10 h3 h4 g3
  generalize hc : crcU 4294967295 (bs.take i) = c at h4
  simp -dsimp -implicitDefEqProofs only [go_sem, Nat.reduceBEq, Nat.reduceAdd, Nat.reduceLeDiff, Nat.reduceSub, Int.reduceEq, h8, h9, h10, h3, h4, g3]
  refine ifB'.of (fun hlt => ?_) (fun hlt => ?_)
  · have hlt : i < bs.length := by omega
    have e1 := bytesA_at hlt
    have hk : (c.toUInt8 ^^^ bs[i]).toNat < 256 := (c.toUInt8 ^^^ bs[i]).toNat_lt
    have e2 := w32s_at (l := crcTab 256) (i := (c.toUInt8 ^^^ bs[i]).toNat) (by rw [crcTab_length]; exact hk)
    have e3 : (w32s (crcTab 256))[(c.toUInt8 ^^^ bs[i]).toNat * 1]? = some (.v (.int .u32 (crcN 8 (UInt32.ofNat (c.toUInt8 ^^^ bs[i]).toNat)).toNat)) := by
      rw [Nat.mul_one, e2, crcTab_at hk]
    simp -dsimp -implicitDefEqProofs only [go_sem, Nat.reduceBEq, Nat.reduceAdd, Nat.reduceLeDiff, Nat.reduceSub, Int.reduceEq, h8, h9, h10, h3, h4, g3, e1, e3, u32_shr8, u8_of_u32, u8_xor, u32_xor]
    refine ask.of (by omega) ⟨by decide, ask.of (by omega) (hK _ hlt ?_)⟩
    simp -dsimp -implicitDefEqProofs only [go_sem, Nat.reduceBEq, Nat.reduceAdd, Nat.reduceLeDiff, Nat.reduceSub, Int.reduceEq, h8, h9, h10, h3, h4, g3, wrap_succ (show i < 4611686018427387904 by omega)]
    rw [List.take_succ_eq_append_getElem hlt, crcU_snoc, hc, crc_byte]
  · have : i = bs.length := by omega
    subst this
    rw [List.take_length] at hc
    simp -dsimp -implicitDefEqProofs only [go_sem, Nat.reduceBEq, Nat.reduceAdd, Nat.reduceLeDiff, Nat.reduceSub, Int.reduceEq, h8, h9, h10, h3, h4, g3, u32_not, ← hc]
    rfl
end Go.Ev
set_option linter.unusedSimpArgs false
set_option linter.unusedVariables false
namespace Go.Ev
open Go Go.RowKit
def Look (a b : AV) : Prop := ∀ (C : Cx) (x : Value), Rep C true (.read .ent) a x → Rep C true (.read .ent) b x
theorem Look.refl (a : AV) : Look a a := fun _ _ h => h
def Looks : List AV → List AV → Prop
  | [], [] => True
  | a :: us, b :: bs => Look a b ∧ Looks us bs
  | _, _ => False
def LookEls : List (List AV) → List (List AV) → Prop
  | [], [] => True
  | a :: us, b :: bs => Looks a b ∧ LookEls us bs
  | _, _ => False
theorem Looks.len : ∀ {us bs : List AV}, Looks us bs → us.length = bs.length
  | [], [], _ => rfl
  | a :: us, b :: bs, h => by simp [Looks.len h.2]
  | [], _ :: _, h => h.elim
  | _ :: _, [], h => h.elim
theorem LookEls.len : ∀ {us bs : List (List AV)}, LookEls us bs → us.length = bs.length
  | [], [], _ => rfl
  | a :: us, b :: bs, h => by simp [LookEls.len h.2]
  | [], _ :: _, h => h.elim
  | _ :: _, [], h => h.elim
theorem RepVs.look {C : Cx} : ∀ {us bs : List AV} {vs : List Value} {q : Nat}, Looks us bs → RepVs C true (.read .ent) q us vs → RepVs C true (.read .ent) q bs vs
  | [], [], vs, q, _, h => h
  | a :: us, b :: bs, vs, q, hl, h => by
    obtain ⟨y, ys, rfl, h1, h2⟩ := h
    exact ⟨y, ys, rfl, hl.1 _ _ h1, RepVs.look hl.2 h2⟩
  | [], _ :: _, _, _, h, _ => h.elim
  | _ :: _, [], _, _, h, _ => h.elim
theorem RepCs.look {C : Cx} {b : Nat} : ∀ {us bs : List AV} {off q : Nat}, Looks us bs → RepCs C true (.read .ent) b off q us → RepCs C true (.read .ent) b off q bs
  | [], [], _, _, _, h => h
  | a :: us, c :: bs, off, q, hl, h => by
    obtain ⟨⟨y, h0, h1, h2⟩, h3⟩ := h
    exact ⟨⟨y, h0, h1, hl.1 _ _ h2⟩, RepCs.look hl.2 h3⟩
  | [], _ :: _, _, _, h, _ => h.elim
  | _ :: _, [], _, _, h, _ => h.elim
theorem RepEls.look {C : Cx} {b sz : Nat} : ∀ {us bs : List (List AV)} {off q : Nat}, LookEls us bs → RepEls C (.read .ent) b off q sz us → RepEls C (.read .ent) b off q sz bs
  | [], [], _, _, _, h => h
  | a :: us, c :: bs, off, q, hl, h => by
    obtain ⟨h1, h2, h3⟩ := h
    exact ⟨by rw [← Looks.len hl.1]; exact h1, RepCs.look hl.1 h2, RepEls.look hl.2 h3⟩
  | [], _ :: _, _, _, h, _ => h.elim
  | _ :: _, [], _, _, h, _ => h.elim
theorem Look.row {e sz : Nat} {us bs : List (List AV)} (h : LookEls us bs) : Look (.row e sz us) (.row e sz bs) := fun C x hr => by
  obtain ⟨ha, A, c, rfl, h1, h2, h3⟩ := hr
  have hl := h.len
  refine ⟨ha, A, c, by rw [hl], by omega, by omega, ?_⟩
  rcases h3 with h3 | ⟨b, off, h4, h5, h6⟩
  · left
    rw [h3] at hl
    exact List.eq_nil_of_length_eq_zero (by simpa using hl.symm)
  · exact .inr ⟨b, off, h4, h5, RepEls.look h h6⟩
theorem Look.rd (e sz : Nat) (els : List (List AV)) : Look (.rd .ent e sz els) (.row e sz els) := fun C x hr => by
  obtain ⟨_, _, A, c, rfl, h1, h2, h3⟩ := hr
  exact ⟨trivial, A, c, rfl, h1, h2, h3⟩
theorem Meets.look {P : Program} {f : FuncId} {us bs : List AV} {post : AV → Prop} (hl : Looks us bs) (h : Meets P f bs post) : Meets P f us post :=
  ⟨h.enters, fun w S F base vals hS hr => h.runs w S F base vals hS (hr.look hl)⟩
def byE (bs : List UInt8) : List AV := [.rd .ent 5 1 (bytesA bs)]
theorem look_byE : ∀ xs : List (List UInt8), LookEls (ra byE xs) (ra byC xs)
  | [] => trivial
  | x :: xs => ⟨⟨Look.rd _ _ _, trivial⟩, look_byE xs⟩
theorem byE_asrw (xs : List (List UInt8)) : (ra byC xs).map (List.map (AV.asrw .ent)) = ra byE xs := by simp [ra, byC, byE, AV.asrw, Org.base]
end Go.Ev
set_option linter.unusedSimpArgs false
set_option linter.unusedVariables false
namespace Go.Ev
open Go Go.RowKit Go.Proofs
def uN (x : Int) : Nat := (x % 18446744073709551616).toNat
def leB (w : Nat) (x : Int) : List UInt8 := (List.range w).map fun j => UInt8.ofNat (uN x / 256 ^ j % 256)
theorem leB_length (w : Nat) (x : Int) : (leB w x).length = w := by simp [leB]
theorem leB_succ (w : Nat) (x : Int) : leB w x ++ [UInt8.ofNat (uN x / 256 ^ w % 256)] = leB (w + 1) x := by simp [leB, List.range_succ]
theorem wrap_u64_eq (x : Int) : IntKind.u64.wrap x = (uN x : Int) := by
  rw [IntKind.wrap_u64, uN]; omega
theorem uN_lt (x : Int) : uN x < 18446744073709551616 := by unfold uN; omega
theorem c_l1little (x : Int) (w : Nat) (hw : w ≤ 8) : Meets Try.prog 111 [.v (.int .i64 x), .v (.int .i64 w)] (fun r => r = rowB (leB w x)) := by
  refine Meets.intro mixed (hint [(6, 125)]) Try.func111 rfl (by decide) res_111 rty_111 (by kernel_rfl) ?_; 
  simp -dsimp -implicitDefEqProofs only [go_sem, Nat.reduceBEq, Nat.reduceAdd, Nat.reduceLeDiff, Nat.reduceSub, Int.reduceEq]
  refine LoopE.cnt w (fun i s => s.env 1 = .v (.int .i64 w) ∧ s.env 5 = .v (.int .u64 ((uN x / 256 ^ i : Nat) : Int)) ∧ s.env 7 = .v (.int .i64 i) ∧ s.env 6 = .ref [6] ∧ s.σ [6] = some (.row 5 1 (bytesA (leB i x)))) ⟨by simp -dsimp -implicitDefEqProofs only [go_sem, Nat.reduceBEq, Nat.reduceAdd, Nat.reduceLeDiff, Nat.reduceSub, Int.reduceEq, initE], by simp -dsimp -implicitDefEqProofs only [go_sem, Nat.reduceBEq, Nat.reduceAdd, Nat.reduceLeDiff, Nat.reduceSub, Int.reduceEq, wrap_u64_eq] <;> simp, by simp -dsimp -implicitDefEqProofs only [go_sem, Nat.reduceBEq, Nat.reduceAdd, Nat.reduceLeDiff, Nat.reduceSub, Int.reduceEq] <;> simp, by simp -dsimp -implicitDefEqProofs only [go_sem, Nat.reduceBEq, Nat.reduceAdd, Nat.reduceLeDiff, Nat.reduceSub, Int.reduceEq], by simp -dsimp -implicitDefEqProofs only [go_sem, Nat.reduceBEq, Nat.reduceAdd, Nat.reduceLeDiff, Nat.reduceSub, Int.reduceEq]; rfl⟩ ?_
  rintro i ⟨e, σ⟩ hi ⟨h1, h5, h7, h6, hs⟩ K hK
  simp only at h1 h5 h7 h6 hs
  simp -dsimp -implicitDefEqProofs only [go_sem, Nat.reduceBEq, Nat.reduceAdd, Nat.reduceLeDiff, Nat.reduceSub, Int.reduceEq, h1, h5, h7, h6, hs]
  refine ifB'.of (fun hlt => ?_) (fun hlt => ?_)
  · have hlt : i < w := by omega
    have hu := uN_lt x
    have hu2 : uN x / 256 ^ i ≤ uN x := Nat.div_le_self _ _
    have e1 : ((uN x / 256 ^ i : Nat) : Int).tmod 256 = ((uN x / 256 ^ i % 256 : Nat) : Int) := rfl
    have e2 : IntKind.u64.wrap (((uN x / 256 ^ i : Nat) : Int).tdiv 256) = ((uN x / 256 ^ (i + 1) : Nat) : Int) := by
      rw [Nat.pow_succ, ← Nat.div_div_eq_div_mul]
      generalize uN x / 256 ^ i = y at *
      rw [IntKind.wrap_u64, Int.tdiv_eq_ediv_of_nonneg (by omega)]; omega
    simp -dsimp -implicitDefEqProofs only [go_sem, Nat.reduceBEq, Nat.reduceAdd, Nat.reduceLeDiff, Nat.reduceSub, Int.reduceEq, h1, h5, h7, h6, hs, e1, e2, u8_of_nat, leB_length]
    repeat with_reducible refine ask.of (by omega) ?_
    refine hK _ hlt ?_
    simp -dsimp -implicitDefEqProofs only [go_sem, Nat.reduceBEq, Nat.reduceAdd, Nat.reduceLeDiff, Nat.reduceSub, Int.reduceEq, h1, h5, h7, h6, hs, wrap_succ (show i < 4611686018427387904 by omega), e2, leB_succ]
  · obtain rfl : i = w := by omega
    simp -dsimp -implicitDefEqProofs only [go_sem, Nat.reduceBEq, Nat.reduceAdd, Nat.reduceLeDiff, Nat.reduceSub, Int.reduceEq, h1, h5, h7, h6, hs]
end Go.Ev
set_option linter.unusedSimpArgs false
set_option linter.unusedVariables false
namespace Go.Ev
open Go Go.RowKit Go.Proofs
theorem u8_byte (x : Int) {j : Nat} (hj : j < 8) : IntKind.u8.wrap (x / 256 ^ j) = ((UInt8.ofNat (uN x / 256 ^ j % 256)).toNat : Int) := by
  have e : IntKind.u8.wrap (x / 256 ^ j) = x / 256 ^ j % 256 := by
    simp [IntKind.wrap, IntKind.bits, IntKind.signed]
  have e2 : ((UInt8.ofNat (uN x / 256 ^ j % 256)).toNat : Int) = ((uN x / 256 ^ j % 256 : Nat) : Int) := by simp
  rw [e, e2, uN]
  match j, hj with
  | 0, _ => simp only [Nat.pow_zero, Int.pow_zero, Nat.div_one, Int.ediv_one]; omega
  | 1, _ => simp only [Nat.reducePow, Int.reducePow]; omega
  | 2, _ => simp only [Nat.reducePow, Int.reducePow]; omega
  | 3, _ => simp only [Nat.reducePow, Int.reducePow]; omega
  | 4, _ => simp only [Nat.reducePow, Int.reducePow]; omega
  | 5, _ => simp only [Nat.reducePow, Int.reducePow]; omega
  | 6, _ => simp only [Nat.reducePow, Int.reducePow]; omega
  | 7, _ => simp only [Nat.reducePow, Int.reducePow]; omega
end Go.Ev
set_option linter.unusedSimpArgs false
set_option linter.unusedVariables false
namespace Go.Ev
open Go Go.RowKit Go.Proofs
structure Pk where
  a : Int
  b : Int
  c : Int
  d : Int
  e : Bool
  f : List UInt8
def pkC (p : Pk) : List AV := [.v (.int .i64 p.a), .v (.int .i64 p.b), .v (.int .i64 p.c), .v (.int .i64 p.d), .v (.bool p.e), .row 5 1 (bytesA p.f)]
end Go.Ev
set_option linter.unusedSimpArgs false
set_option linter.unusedVariables false
namespace Go.Ev
open Go Go.RowKit Go.Proofs
theorem wrap_8i {i : Nat} (h : i ≤ 8) : IntKind.i64.wrap (8 * (i : Int)) = ((8 * i : Nat) : Int) := by rw [wrap_i64_of (by omega) (by omega)]; omega
theorem shr_8i (x : Int) {i : Nat} (h : i < 8) : x.fdiv (2 ^ min (8 * i) 64) = x / 256 ^ i := by
  rw [Nat.min_eq_left (by omega), show (2 : Int) ^ (8 * i) = 256 ^ i by rw [Int.pow_mul]; rfl, Int.fdiv_eq_ediv_of_nonneg _ (Int.le_of_lt (Int.pow_pos (by decide)))]
theorem c_number (x : Int) (w : Nat) (hw : w ≤ 8) : Meets Try.prog 115 [.v (.int .i64 x), .v (.int .i64 w)] (fun r => r = rowB (leB w x)) := by
  refine Meets.intro mixed (hint []) Try.func115 rfl (by decide) res_115 rty_115 (by kernel_rfl) ?_; 
  simp -dsimp -implicitDefEqProofs only [go_sem, Nat.reduceBEq, Nat.reduceAdd, Nat.reduceLeDiff, Nat.reduceSub, Int.reduceEq]
  refine ask.of (by omega) ?_
  refine LoopE.cnt w (fun i s => s.env 0 = .v (.int .i64 x) ∧ s.env 5 = .ref [8] ∧ s.env 10 = .v (.int .i64 w) ∧ s.env 11 = .v (.int .i64 i) ∧ s.σ [8] = some (.row 5 1 (bytesA (leB i x ++ List.replicate (w - i) 0)))) ⟨by simp -dsimp -implicitDefEqProofs only [go_sem, Nat.reduceBEq, Nat.reduceAdd, Nat.reduceLeDiff, Nat.reduceSub, Int.reduceEq, initE], by simp -dsimp -implicitDefEqProofs only [go_sem, Nat.reduceBEq, Nat.reduceAdd, Nat.reduceLeDiff, Nat.reduceSub, Int.reduceEq], by simp -dsimp -implicitDefEqProofs only [go_sem, Nat.reduceBEq, Nat.reduceAdd, Nat.reduceLeDiff, Nat.reduceSub, Int.reduceEq] <;> simp, by simp -dsimp -implicitDefEqProofs only [go_sem, Nat.reduceBEq, Nat.reduceAdd, Nat.reduceLeDiff, Nat.reduceSub, Int.reduceEq] <;> simp, by simp -dsimp -implicitDefEqProofs only [go_sem, Nat.reduceBEq, Nat.reduceAdd, Nat.reduceLeDiff, Nat.reduceSub, Int.reduceEq] <;> simp [leB]⟩ ?_
  rintro i ⟨e, σ⟩ hi ⟨h0, h5, h10, h11, hs⟩ K hK
  simp only at h0 h5 h10 h11 hs
  simp -dsimp -implicitDefEqProofs only [go_sem, Nat.reduceBEq, Nat.reduceAdd, Nat.reduceLeDiff, Nat.reduceSub, Int.reduceEq, h0, h5, h10, h11, hs]
  refine ifB'.of (fun hlt => ?_) (fun hlt => ?_)
  · have hlt : i < w := by omega
    have hl : (leB i x ++ List.replicate (w - i) 0).length = w := by simp [leB_length]; omega
    simp -dsimp -implicitDefEqProofs only [go_sem, Nat.reduceBEq, Nat.reduceAdd, Nat.reduceLeDiff, Nat.reduceSub, Int.reduceEq, h0, h5, h10, h11, hs, wrap_8i (show i ≤ 8 by omega), shr_8i x (show i < 8 by omega), u8_byte x (show i < 8 by omega), hl]
    repeat (first | with_reducible refine ask.of (by omega) ?_ | simp -dsimp -implicitDefEqProofs only [go_sem, Nat.reduceBEq, Nat.reduceAdd, Nat.reduceLeDiff, Nat.reduceSub, Int.reduceEq, h0, h5, h10, h11, hs, wrap_8i (show i ≤ 8 by omega), shr_8i x (show i < 8 by omega), u8_byte x (show i < 8 by omega), hl, bytesA_at (show i < (leB i x ++ List.replicate (w - i) (0 : UInt8)).length by omega)])
    refine hK _ hlt ?_
    simp -dsimp -implicitDefEqProofs only [go_sem, Nat.reduceBEq, Nat.reduceAdd, Nat.reduceLeDiff, Nat.reduceSub, Int.reduceEq, h0, h5, h10, h11, hs, wrap_succ (show i < 4611686018427387904 by omega)]
    refine congrArg (fun l => some (OB.row 5 1 (bytesA l))) ?_
    have e : w - i = (w - (i + 1)) + 1 := by omega
    rw [e, List.replicate_succ, List.set_append_right _ _ (by rw [leB_length]; exact Nat.le_refl _), leB_length, Nat.sub_self, List.set_cons_zero, ← leB_succ, List.append_assoc]
    rfl
  · have : i = w := by omega
    subst this
    simp -dsimp -implicitDefEqProofs only [go_sem, Nat.reduceBEq, Nat.reduceAdd, Nat.reduceLeDiff, Nat.reduceSub, Int.reduceEq, h0, h5, h10, h11, hs]
    simp
theorem c_growB (n : Nat) (hn : n ≤ 1099511627776) : Meets Try.prog 222 [.v (.slice none 0 0), .v (.int .i64 n)] (fun r => r = rowB []) := by
  refine Meets.intro mixed (hint [(25, 1)]) Try.func222 rfl (by decide) res_222 rty_222 (by kernel_rfl) ?_; 
  simp -dsimp -implicitDefEqProofs only [go_sem, Nat.reduceBEq, Nat.reduceAdd, Nat.reduceLeDiff, Nat.reduceSub, Int.reduceEq, initE]
  with_reducible refine ifB'.no (by omega) ?_
  have e : IntKind.i64.wrap ((n : Int) - IntKind.i64.wrap 0) = n := by rw [show IntKind.i64.wrap 0 = 0 from rfl, wrap_i64_of (by omega) (by omega)]; omega
  simp -dsimp -implicitDefEqProofs only [go_sem, Nat.reduceBEq, Nat.reduceAdd, Nat.reduceLeDiff, Nat.reduceSub, Int.reduceEq, e, show IntKind.i64.wrap (0 - 0) = 0 from rfl, Int.sub_zero, wrap_nat (show n ≤ 9223372036854775807 by omega)]
  refine ifB'.of (fun h => ?_) (fun h => ?_)
  · simp -dsimp -implicitDefEqProofs only [go_sem, Nat.reduceBEq, Nat.reduceAdd, Nat.reduceLeDiff, Nat.reduceSub, Int.reduceEq, e]
    repeat (first | with_reducible refine ask.of (by omega) ?_ | simp -dsimp -implicitDefEqProofs only [go_sem, Nat.reduceBEq, Nat.reduceAdd, Nat.reduceLeDiff, Nat.reduceSub, Int.reduceEq, e, Int.toNat_zero, List.take_zero, List.drop_nil])
  · simp -dsimp -implicitDefEqProofs only [go_sem, Nat.reduceBEq, Nat.reduceAdd, Nat.reduceLeDiff, Nat.reduceSub, Int.reduceEq, e]
    rfl
theorem flat_take {xs : List (List UInt8)} {i : Nat} (h : i < xs.length) : (xs.take i).flatten ++ xs[i] = (xs.take (i + 1)).flatten := by
  rw [List.take_succ_eq_append_getElem h, List.flatten_append, List.flatten_singleton]
theorem flat_len (xs : List (List UInt8)) : xs.flatten.length = wBB xs := by
  induction xs with
  | nil => rfl
  | cons x xs ih => rw [List.flatten_cons, List.length_append, ih]; simp [wBB, szL]
theorem c_concatB (xs : List (List UInt8)) (hx : xs.length + wBB xs ≤ 1099511627776) : Meets Try.prog 208 [rowBB xs] (fun r => r = rowB xs.flatten) := by
  refine Meets.intro mixed (hint []) Try.func208 rfl (by decide) res_208 rty_208 (by kernel_rfl) ?_; 
  simp -dsimp -implicitDefEqProofs only [go_sem, Nat.reduceBEq, Nat.reduceAdd, Nat.reduceLeDiff, Nat.reduceSub, Int.reduceEq]
  refine LoopE.cnt xs.length (fun i s => s.env 0 = .rd .ent 25 1 (ra byC xs) ∧ s.env 3 = .v (.int .i64 (wBB (xs.take i) : Nat)) ∧ s.env 9 = .rd .ent 25 1 (ra byC xs) ∧ s.env 10 = .v (.int .i64 xs.length) ∧ s.env 11 = .v (.int .i64 i)) ⟨by simp -dsimp -implicitDefEqProofs only [go_sem, Nat.reduceBEq, Nat.reduceAdd, Nat.reduceLeDiff, Nat.reduceSub, Int.reduceEq, initE], by simp -dsimp -implicitDefEqProofs only [go_sem, Nat.reduceBEq, Nat.reduceAdd, Nat.reduceLeDiff, Nat.reduceSub, Int.reduceEq] <;> rfl, by simp -dsimp -implicitDefEqProofs only [go_sem, Nat.reduceBEq, Nat.reduceAdd, Nat.reduceLeDiff, Nat.reduceSub, Int.reduceEq, initE], by simp -dsimp -implicitDefEqProofs only [go_sem, Nat.reduceBEq, Nat.reduceAdd, Nat.reduceLeDiff, Nat.reduceSub, Int.reduceEq, initE], by simp -dsimp -implicitDefEqProofs only [go_sem, Nat.reduceBEq, Nat.reduceAdd, Nat.reduceLeDiff, Nat.reduceSub, Int.reduceEq]⟩ ?_
  rintro i ⟨e, σ⟩ hi ⟨h0, h3, h9, h10, h11⟩ K hK
  simp only at h0 h3 h9 h10 h11
  simp -dsimp -implicitDefEqProofs only [go_sem, Nat.reduceBEq, Nat.reduceAdd, Nat.reduceLeDiff, Nat.reduceSub, Int.reduceEq, h0, h3, h9, h10, h11]
  refine ifB'.of (fun hlt => ?_) (fun hlt => ?_)
  · have hlt : i < xs.length := by omega
    have hs : wBB (xs.take (i + 1)) = wBB (xs.take i) + xs[i].length := szL_take_succ List.length hlt
    have hsl : wBB (xs.take (i + 1)) ≤ wBB xs := szL_take_le List.length xs (i + 1)
    have e1 : IntKind.i64.wrap ((wBB (xs.take i) : Int) + xs[i].length) = (wBB (xs.take (i + 1)) : Nat) := by rw [wrap_i64_of (by omega) (by omega), hs]; omega
    simp -dsimp -implicitDefEqProofs only [go_sem, Nat.reduceBEq, Nat.reduceAdd, Nat.reduceLeDiff, Nat.reduceSub, Int.reduceEq, h0, h3, h9, h10, h11, byA_at hlt, e1]
    repeat (first | with_reducible refine ask.of (by omega) ?_ | simp -dsimp -implicitDefEqProofs only [go_sem, Nat.reduceBEq, Nat.reduceAdd, Nat.reduceLeDiff, Nat.reduceSub, Int.reduceEq, h0, h3, h9, h10, h11, byA_at hlt, e1])
    with_reducible refine ifB'.no (by omega) ?_
    simp -dsimp -implicitDefEqProofs only [go_sem, Nat.reduceBEq, Nat.reduceAdd, Nat.reduceLeDiff, Nat.reduceSub, Int.reduceEq, h0, h3, h9, h10, h11]
    refine hK _ hlt ?_
    simp -dsimp -implicitDefEqProofs only [go_sem, Nat.reduceBEq, Nat.reduceAdd, Nat.reduceLeDiff, Nat.reduceSub, Int.reduceEq, h0, h3, h9, h10, h11, wrap_succ (show i < 4611686018427387904 by omega)]
  · have : i = xs.length := by omega
    subst this
    have hw : wBB xs ≤ 1099511627776 := by omega
    rw [List.take_length] at h3
    simp -dsimp -implicitDefEqProofs only [go_sem, Nat.reduceBEq, Nat.reduceAdd, Nat.reduceLeDiff, Nat.reduceSub, Int.reduceEq, h0, h3, h9, h10, h11]
    refine CallE.lend (c_growB (wBB xs) hw) (by simp -dsimp -implicitDefEqProofs only [go_sem, Nat.reduceBEq, Nat.reduceAdd, Nat.reduceLeDiff, Nat.reduceSub, Int.reduceEq, h0, h3, h9, h10, h11]) ?_
    rintro r rfl
    simp -dsimp -implicitDefEqProofs only [go_sem, Nat.reduceBEq, Nat.reduceAdd, Nat.reduceLeDiff, Nat.reduceSub, Int.reduceEq, h0, h3, h9, h10, h11]
    refine LoopE.cnt xs.length (fun i s => s.env 6 = .ref [24] ∧ s.env 25 = .rd .ent 25 1 (ra byC xs) ∧ s.env 26 = .v (.int .i64 xs.length) ∧ s.env 27 = .v (.int .i64 i) ∧ s.σ [24] = some (.row 5 1 (bytesA (xs.take i).flatten))) ⟨by simp -dsimp -implicitDefEqProofs only [go_sem, Nat.reduceBEq, Nat.reduceAdd, Nat.reduceLeDiff, Nat.reduceSub, Int.reduceEq, h0, h3, h9, h10, h11], by simp -dsimp -implicitDefEqProofs only [go_sem, Nat.reduceBEq, Nat.reduceAdd, Nat.reduceLeDiff, Nat.reduceSub, Int.reduceEq, h0, h3, h9, h10, h11], by simp -dsimp -implicitDefEqProofs only [go_sem, Nat.reduceBEq, Nat.reduceAdd, Nat.reduceLeDiff, Nat.reduceSub, Int.reduceEq, h0, h3, h9, h10, h11], by simp -dsimp -implicitDefEqProofs only [go_sem, Nat.reduceBEq, Nat.reduceAdd, Nat.reduceLeDiff, Nat.reduceSub, Int.reduceEq, h0, h3, h9, h10, h11], by simp -dsimp -implicitDefEqProofs only [go_sem, Nat.reduceBEq, Nat.reduceAdd, Nat.reduceLeDiff, Nat.reduceSub, Int.reduceEq, h0, h3, h9, h10, h11] <;> rfl⟩ ?_
    rintro i ⟨e, σ⟩ hi ⟨h6, h25, h26, h27, hs⟩ K' hK'
    simp only at h6 h25 h26 h27 hs
    simp -dsimp -implicitDefEqProofs only [go_sem, Nat.reduceBEq, Nat.reduceAdd, Nat.reduceLeDiff, Nat.reduceSub, Int.reduceEq, h6, h25, h26, h27, hs]
    refine ifB'.of (fun hlt => ?_) (fun hlt => ?_)
    · have hlt : i < xs.length := by omega
      have hsl : wBB (xs.take (i + 1)) ≤ wBB xs := szL_take_le List.length xs (i + 1)
      have hfl : (xs.take i).flatten.length + xs[i].length = wBB (xs.take (i + 1)) := by rw [← flat_len, ← flat_take hlt, List.length_append]
      simp -dsimp -implicitDefEqProofs only [go_sem, Nat.reduceBEq, Nat.reduceAdd, Nat.reduceLeDiff, Nat.reduceSub, Int.reduceEq, h6, h25, h26, h27, hs, byA_at hlt]
      repeat (first | with_reducible refine ask.of (by omega) ?_ | simp -dsimp -implicitDefEqProofs only [go_sem, Nat.reduceBEq, Nat.reduceAdd, Nat.reduceLeDiff, Nat.reduceSub, Int.reduceEq, h6, h25, h26, h27, hs, byA_at hlt])
      refine hK' _ hlt ?_
      simp -dsimp -implicitDefEqProofs only [go_sem, Nat.reduceBEq, Nat.reduceAdd, Nat.reduceLeDiff, Nat.reduceSub, Int.reduceEq, h6, h25, h26, h27, hs, wrap_succ (show i < 4611686018427387904 by omega), flat_take hlt]
    · have : i = xs.length := by omega
      subst this
      simp -dsimp -implicitDefEqProofs only [go_sem, Nat.reduceBEq, Nat.reduceAdd, Nat.reduceLeDiff, Nat.reduceSub, Int.reduceEq, h6, h25, h26, h27, hs, List.take_length]
def sumB (xs : List (List UInt8)) : List UInt8 := xs.flatten ++ leB 4 (crcB xs.flatten).toNat
theorem wrap_u32i (c : UInt32) : IntKind.i64.wrap (c.toNat : Int) = (c.toNat : Int) := by have := c.toNat_lt; rw [wrap_i64_of (by omega) (by omega)]
theorem c_summed (xs : List (List UInt8)) (hx : xs.length + wBB xs ≤ 1048576) : Meets Try.prog 182 [rowBB xs] (fun r => r = rowB (sumB xs)) := by
  refine Meets.intro mixed (hint []) Try.func182 rfl (by decide) res_182 rty_182 (by kernel_rfl) ?_; 
  simp -dsimp -implicitDefEqProofs only [go_sem, Nat.reduceBEq, Nat.reduceAdd, Nat.reduceLeDiff, Nat.reduceSub, Int.reduceEq]
  refine CallE.of (c_concatB xs (by omega)) (by rintro r rfl; (repeat' first | exact trivial | exact pure_rowB _ | exact pure_rowO _ | exact pure_rowI _ | exact pure_rowBB _ | exact pure_rowPk _ _ | exact pure_rowSn _ _ | exact pure_rowFd _ _ | exact pure_rowBBB _ | exact pure_rowCl _ _ | exact pure_rowTb _ _ _ | refine And.intro ?_ ?_)) (by simp -dsimp -implicitDefEqProofs only [go_sem, Nat.reduceBEq, Nat.reduceAdd, Nat.reduceLeDiff, Nat.reduceSub, Int.reduceEq]) ?_
  rintro r rfl
  simp -dsimp -implicitDefEqProofs only [go_sem, Nat.reduceBEq, Nat.reduceAdd, Nat.reduceLeDiff, Nat.reduceSub, Int.reduceEq]
  have hl : xs.flatten.length ≤ 1048576 := by rw [flat_len]; omega
  refine CallE.of (c_implCrc32 xs.flatten hl) (by rintro r rfl; (repeat' first | exact trivial | exact pure_rowB _ | exact pure_rowO _ | exact pure_rowI _ | exact pure_rowBB _ | exact pure_rowPk _ _ | exact pure_rowSn _ _ | exact pure_rowFd _ _ | exact pure_rowBBB _ | exact pure_rowCl _ _ | exact pure_rowTb _ _ _ | refine And.intro ?_ ?_)) (by simp -dsimp -implicitDefEqProofs only [go_sem, Nat.reduceBEq, Nat.reduceAdd, Nat.reduceLeDiff, Nat.reduceSub, Int.reduceEq, wrap_u32i]) ?_
  rintro r rfl
  simp -dsimp -implicitDefEqProofs only [go_sem, Nat.reduceBEq, Nat.reduceAdd, Nat.reduceLeDiff, Nat.reduceSub, Int.reduceEq, wrap_u32i]
  refine CallE.of (c_number ((crcB xs.flatten).toNat) 4 (by omega)) (by rintro r rfl; (repeat' first | exact trivial | exact pure_rowB _ | exact pure_rowO _ | exact pure_rowI _ | exact pure_rowBB _ | exact pure_rowPk _ _ | exact pure_rowSn _ _ | exact pure_rowFd _ _ | exact pure_rowBBB _ | exact pure_rowCl _ _ | exact pure_rowTb _ _ _ | refine And.intro ?_ ?_)) (by simp -dsimp -implicitDefEqProofs only [go_sem, Nat.reduceBEq, Nat.reduceAdd, Nat.reduceLeDiff, Nat.reduceSub, Int.reduceEq, show ((4 : Nat) : Int) = 4 from rfl, wrap_u32i]) ?_
  rintro r rfl
  simp -dsimp -implicitDefEqProofs only [go_sem, Nat.reduceBEq, Nat.reduceAdd, Nat.reduceLeDiff, Nat.reduceSub, Int.reduceEq, show ((4 : Nat) : Int) = 4 from rfl, wrap_u32i]
  repeat (first | with_reducible refine ask.of (by simp only [leB_length]; omega) ?_ | simp -dsimp -implicitDefEqProofs only [go_sem, Nat.reduceBEq, Nat.reduceAdd, Nat.reduceLeDiff, Nat.reduceSub, Int.reduceEq, leB_length])
  rfl
end Go.Ev
set_option linter.unusedSimpArgs false
set_option linter.unusedVariables false
namespace Go.Ev
open Go Go.RowKit Go.Proofs
theorem sumB_length (xs : List (List UInt8)) : (sumB xs).length = wBB xs + 4 := by rw [sumB, List.length_append, flat_len, leB_length]
end Go.Ev
