/- Part 12 of what the row leans on: the evaluator, words, contracts of functions; pruned by a program of ours. -/
import Derived.Test.YtcmkgoflnfchcaaWn11
import Derived.Test.YtcmkgoflnfchcaaProg
import Derived.KernelRfl
namespace Go.Ev
open Go Go.Proofs
theorem mixed : Try.prog.follows .mixedOrders = true := by kernel_rfl
theorem elTy_22 : elTy Try.prog 22 = some (5, 1, 1) := by kernel_rfl
theorem par_10 : parTys Try.prog 10 = [22] := by kernel_rfl
theorem cty_22 : cty Try.prog 22 = [some (5, 1)] := by kernel_rfl
theorem zeroC_25 : zeroC Try.prog 25 = some [.v (.int .i64 0), .v (.int .i64 0), .v (.int .i64 0), .v (.slice none 0 0)] := by kernel_rfl
theorem tySz_25 : tySz Try.prog 25 = some (4, true) := by kernel_rfl
theorem par_11 : parTys Try.prog 11 = [25] := by kernel_rfl
theorem cty_25 : cty Try.prog 25 = [none, none, none, some (40, 7)] := by kernel_rfl
theorem fldTy_25_2 : fldTy Try.prog 25 2 = some (2, 1, false) := by kernel_rfl
theorem tySz_3 : tySz Try.prog 3 = some (1, false) := by kernel_rfl
theorem fldTy_25_1 : fldTy Try.prog 25 1 = some (1, 1, false) := by kernel_rfl
theorem fldTy_25_3 : fldTy Try.prog 25 3 = some (3, 1, false) := by kernel_rfl
theorem tySz_23 : tySz Try.prog 23 = some (1, false) := by kernel_rfl
theorem elTy_23 : elTy Try.prog 23 = some (40, 7, 72) := by kernel_rfl
theorem elTy_28 : elTy Try.prog 28 = some (3, 1, 8) := by kernel_rfl
theorem zeroC_3 : zeroC Try.prog 3 = some [.v (.int .i64 0)] := by kernel_rfl
theorem cty_3 : cty Try.prog 3 = [none] := by kernel_rfl
theorem ixTy_28 : ixTy Try.prog 28 = some (.sl (3, 1, 8)) := by kernel_rfl
theorem par_12 : parTys Try.prog 12 = [25] := by kernel_rfl
theorem elTy_29 : elTy Try.prog 29 = some (22, 1, 24) := by kernel_rfl
theorem ixTy_29 : ixTy Try.prog 29 = some (.sl (22, 1, 24)) := by kernel_rfl
theorem tySz_22 : tySz Try.prog 22 = some (1, false) := by kernel_rfl
theorem par_13 : parTys Try.prog 13 = [22] := by kernel_rfl
theorem zeroC_33 : zeroC Try.prog 33 = some [.v (.int .i64 0), .v (.int .i64 0), .v (.int .i64 0), .v (.int .i64 0), .v (.bool false), .v (.slice none 0 0)] := by kernel_rfl
theorem tySz_33 : tySz Try.prog 33 = some (6, true) := by kernel_rfl
theorem fldTy_33_2 : fldTy Try.prog 33 2 = some (2, 1, false) := by kernel_rfl
theorem par_14 : parTys Try.prog 14 = [22, 3] := by kernel_rfl
theorem par_15 : parTys Try.prog 15 = [25, 3] := by kernel_rfl
theorem ixTy_23 : ixTy Try.prog 23 = some (.sl (40, 7, 72)) := by kernel_rfl
theorem fldTy_40_0 : fldTy Try.prog 40 0 = some (0, 6, true) := by kernel_rfl
theorem cty_4 : cty Try.prog 4 = [none] := by kernel_rfl
theorem cty_29 : cty Try.prog 29 = [some (22, 1)] := by kernel_rfl
theorem zeroC_5 : zeroC Try.prog 5 = some [.v (.int .u8 0)] := by kernel_rfl
theorem cty_5 : cty Try.prog 5 = [none] := by kernel_rfl
theorem par_26 : parTys Try.prog 26 = [33] := by kernel_rfl
theorem cty_33 : cty Try.prog 33 = [none, none, none, none, none, some (5, 1)] := by kernel_rfl
theorem par_27 : parTys Try.prog 27 = [33] := by kernel_rfl
theorem bldTy_25 : bldTy Try.prog 25 = some (.st [(0, 1), (1, 1), (2, 1), (3, 1)]) := by kernel_rfl
theorem cvTy_3_5 : cvTy Try.prog 3 5 = some (.int .u8) := by kernel_rfl
theorem zeroC_22 : zeroC Try.prog 22 = some [.v (.slice none 0 0)] := by kernel_rfl
theorem tySz_64 : tySz Try.prog 64 = some (6, true) := by kernel_rfl
theorem par_66 : parTys Try.prog 66 = [22] := by kernel_rfl
theorem par_67 : parTys Try.prog 67 = [100] := by kernel_rfl
theorem cty_100 : cty Try.prog 100 = [none] := by kernel_rfl
theorem par_68 : parTys Try.prog 68 = [100] := by kernel_rfl
theorem fldTy_25_0 : fldTy Try.prog 25 0 = some (0, 1, false) := by kernel_rfl
theorem tySz_40 : tySz Try.prog 40 = some (7, true) := by kernel_rfl
theorem zeroC_40 : zeroC Try.prog 40 = some [.v (.int .i64 0), .v (.int .i64 0), .v (.int .i64 0), .v (.int .i64 0), .v (.bool false), .v (.slice none 0 0), .v (.int .i64 0)] := by kernel_rfl
theorem par_69 : parTys Try.prog 69 = [33] := by kernel_rfl
theorem fldTy_33_0 : fldTy Try.prog 33 0 = some (0, 1, false) := by kernel_rfl
theorem fldTy_33_1 : fldTy Try.prog 33 1 = some (1, 1, false) := by kernel_rfl
theorem fldTy_40_1 : fldTy Try.prog 40 1 = some (6, 1, false) := by kernel_rfl
theorem par_70 : parTys Try.prog 70 = [25] := by kernel_rfl
theorem par_71 : parTys Try.prog 71 = [25] := by kernel_rfl
theorem bldTy_33 : bldTy Try.prog 33 = some (.st [(0, 1), (1, 1), (2, 1), (3, 1), (4, 1), (5, 1)]) := by kernel_rfl
theorem ixTy_22 : ixTy Try.prog 22 = some (.sl (5, 1, 1)) := by kernel_rfl
theorem tySz_5 : tySz Try.prog 5 = some (1, false) := by kernel_rfl
theorem cvTy_5_3 : cvTy Try.prog 5 3 = some (.int .i64) := by kernel_rfl
theorem par_72 : parTys Try.prog 72 = [22] := by kernel_rfl
theorem par_73 : parTys Try.prog 73 = [22] := by kernel_rfl
theorem par_74 : parTys Try.prog 74 = [22, 22] := by kernel_rfl
theorem bldTy_109 : bldTy Try.prog 109 = some (.st [(0, 1)]) := by kernel_rfl
theorem zeroC_109 : zeroC Try.prog 109 = some [.v (.slice none 0 0)] := by kernel_rfl
theorem tySz_109 : tySz Try.prog 109 = some (1, true) := by kernel_rfl
theorem par_75 : parTys Try.prog 75 = [180, 111] := by kernel_rfl
theorem cty_180 : cty Try.prog 180 = [none] := by kernel_rfl
theorem cty_111 : cty Try.prog 111 = [none] := by kernel_rfl
theorem fldTy_109_0 : fldTy Try.prog 109 0 = some (0, 1, false) := by kernel_rfl
theorem par_77 : parTys Try.prog 77 = [100, 3] := by kernel_rfl
theorem par_78 : parTys Try.prog 78 = [5, 3] := by kernel_rfl
theorem par_81 : parTys Try.prog 81 = [3, 3] := by kernel_rfl
theorem par_82 : parTys Try.prog 82 = [29] := by kernel_rfl
theorem fldTy_121_0 : fldTy Try.prog 121 0 = some (0, 1, false) := by kernel_rfl
theorem fldTy_121_1 : fldTy Try.prog 121 1 = some (1, 1, false) := by kernel_rfl
theorem bldTy_121 : bldTy Try.prog 121 = some (.st [(0, 1), (1, 1)]) := by kernel_rfl
theorem zeroC_121 : zeroC Try.prog 121 = some [.v (.slice none 0 0), .v (.int .i64 0)] := by kernel_rfl
theorem tySz_121 : tySz Try.prog 121 = some (2, true) := by kernel_rfl
theorem par_86 : parTys Try.prog 86 = [22] := by kernel_rfl
theorem par_88 : parTys Try.prog 88 = [22] := by kernel_rfl
theorem par_89 : parTys Try.prog 89 = [22, 22] := by kernel_rfl
theorem fldTy_33_3 : fldTy Try.prog 33 3 = some (3, 1, false) := by kernel_rfl
theorem fldTy_33_5 : fldTy Try.prog 33 5 = some (5, 1, false) := by kernel_rfl
theorem fldTy_33_4 : fldTy Try.prog 33 4 = some (4, 1, false) := by kernel_rfl
theorem tySz_4 : tySz Try.prog 4 = some (1, false) := by kernel_rfl
theorem par_91 : parTys Try.prog 91 = [3, 3] := by kernel_rfl
theorem par_92 : parTys Try.prog 92 = [22] := by kernel_rfl
theorem cvTy_125_3 : cvTy Try.prog 125 3 = some (.int .i64) := by kernel_rfl
theorem par_93 : parTys Try.prog 93 = [33] := by kernel_rfl
theorem par_98 : parTys Try.prog 98 = [33] := by kernel_rfl
theorem fldTy_64_5 : fldTy Try.prog 64 5 = some (5, 1, false) := by kernel_rfl
theorem par_106 : parTys Try.prog 106 = [33] := by kernel_rfl
theorem par_108 : parTys Try.prog 108 = [22] := by kernel_rfl
theorem fldTy_64_0 : fldTy Try.prog 64 0 = some (0, 1, false) := by kernel_rfl
theorem fldTy_64_1 : fldTy Try.prog 64 1 = some (1, 1, false) := by kernel_rfl
theorem fldTy_64_2 : fldTy Try.prog 64 2 = some (2, 1, false) := by kernel_rfl
theorem fldTy_64_3 : fldTy Try.prog 64 3 = some (3, 1, false) := by kernel_rfl
theorem fldTy_64_4 : fldTy Try.prog 64 4 = some (4, 1, false) := by kernel_rfl
theorem cvTy_22_9 : cvTy Try.prog 22 9 = some .bytes := by kernel_rfl
theorem par_146 : parTys Try.prog 146 = [100] := by kernel_rfl
theorem par_147 : parTys Try.prog 147 = [25, 100] := by kernel_rfl
theorem bldTy_40 : bldTy Try.prog 40 = some (.st [(0, 6), (6, 1)]) := by kernel_rfl
theorem par_95 : parTys Try.prog 95 = [180, 40] := by kernel_rfl
theorem cty_40 : cty Try.prog 40 = [none, none, none, none, none, some (5, 1), none] := by kernel_rfl
theorem cvTy_5_2 : cvTy Try.prog 5 2 = some (.int .i64) := by kernel_rfl
theorem cty_2 : cty Try.prog 2 = [none] := by kernel_rfl
theorem par_149 : parTys Try.prog 149 = [29] := by kernel_rfl
theorem par_150 : parTys Try.prog 150 = [22] := by kernel_rfl
theorem cvTy_3_181 : cvTy Try.prog 3 181 = some (.int .u64) := by kernel_rfl
theorem cvTy_181_5 : cvTy Try.prog 181 5 = some (.int .u8) := by kernel_rfl
theorem cvTy_5_125 : cvTy Try.prog 5 125 = some (.int .u32) := by kernel_rfl
theorem cty_125 : cty Try.prog 125 = [none] := by kernel_rfl
theorem par_168 : parTys Try.prog 168 = [25, 22] := by kernel_rfl
theorem par_169 : parTys Try.prog 169 = [25] := by kernel_rfl
theorem par_170 : parTys Try.prog 170 = [25, 3] := by kernel_rfl
theorem par_171 : parTys Try.prog 171 = [22, 3] := by kernel_rfl
theorem par_172 : parTys Try.prog 172 = [] := by kernel_rfl
theorem zeroC_204 : zeroC Try.prog 204 = some (List.replicate 256 (.v (.int .u32 0))) := by kernel_rfl
theorem tySz_204 : tySz Try.prog 204 = some (256, true) := by kernel_rfl
theorem cvTy_125_5 : cvTy Try.prog 125 5 = some (.int .u8) := by kernel_rfl
theorem ixTy_204 : ixTy Try.prog 204 = some (.ar 256 1) := by kernel_rfl
theorem tySz_125 : tySz Try.prog 125 = some (1, false) := by kernel_rfl
theorem intTy_3 : intTy Try.prog 3 = some () := by kernel_rfl
theorem par_188 : parTys Try.prog 188 = [25] := by kernel_rfl
theorem bldTy_204 : bldTy Try.prog 204 = some (.ar 1) := by kernel_rfl
theorem cvTy_3_125 : cvTy Try.prog 3 125 = some (.int .u32) := by kernel_rfl
theorem cty_204 : cty Try.prog 204 = [none] := by kernel_rfl
theorem res_3 : Try.f3.results.toList = [.tmp 4] := rfl
theorem rty_3 : Try.f3.resultTypes.toList = [4] := rfl
theorem res_10 : Try.f10.results.toList = [.cell 2 25] := rfl
theorem rty_10 : Try.f10.resultTypes.toList = [25] := rfl
theorem res_11 : Try.f11.results.toList = [.tmp 2] := rfl
theorem rty_11 : Try.f11.resultTypes.toList = [4] := rfl
theorem res_12 : Try.f12.results.toList = [.cell 2 25, .tmp 3, .tmp 4] := rfl
theorem rty_12 : Try.f12.resultTypes.toList = [25, 29, 3] := rfl
theorem res_13 : Try.f13.results.toList = [.cell 2 33, .tmp 3] := rfl
theorem rty_13 : Try.f13.resultTypes.toList = [33, 3] := rfl
theorem res_14 : Try.f14.results.toList = [.tmp 4] := rfl
theorem rty_14 : Try.f14.resultTypes.toList = [3] := rfl
theorem res_15 : Try.f15.results.toList = [.cell 4 25, .tmp 5] := rfl
theorem rty_15 : Try.f15.resultTypes.toList = [25, 3] := rfl
theorem res_26 : Try.f26.results.toList = [.tmp 2] := rfl
theorem rty_26 : Try.f26.resultTypes.toList = [22] := rfl
theorem res_27 : Try.f27.results.toList = [.tmp 2] := rfl
theorem rty_27 : Try.f27.resultTypes.toList = [22] := rfl
theorem res_30 : Try.f30.results.toList = [.cell 2 33, .tmp 3] := rfl
theorem rty_30 : Try.f30.resultTypes.toList = [33, 3] := rfl
theorem res_31 : Try.f31.results.toList = [.cell 4 25, .tmp 5] := rfl
theorem rty_31 : Try.f31.resultTypes.toList = [25, 3] := rfl
theorem res_38 : Try.f38.results.toList = [.cell 2 33] := rfl
theorem rty_38 : Try.f38.resultTypes.toList = [33] := rfl
theorem res_66 : Try.f66.results.toList = [.tmp 2] := rfl
theorem rty_66 : Try.f66.resultTypes.toList = [100] := rfl
theorem res_67 : Try.f67.results.toList = [.tmp 2] := rfl
theorem rty_67 : Try.f67.resultTypes.toList = [3] := rfl
theorem res_68 : Try.f68.results.toList = [.cell 2 25] := rfl
theorem rty_68 : Try.f68.resultTypes.toList = [25] := rfl
theorem res_69 : Try.f69.results.toList = [.tmp 2] := rfl
theorem rty_69 : Try.f69.resultTypes.toList = [4] := rfl
theorem res_70 : Try.f70.results.toList = [.tmp 2] := rfl
theorem rty_70 : Try.f70.resultTypes.toList = [4] := rfl
theorem res_71 : Try.f71.results.toList = [.cell 2 25] := rfl
theorem rty_71 : Try.f71.resultTypes.toList = [25] := rfl
theorem res_72 : Try.f72.results.toList = [.tmp 2] := rfl
theorem rty_72 : Try.f72.resultTypes.toList = [2] := rfl
theorem res_73 : Try.f73.results.toList = [.tmp 2] := rfl
theorem rty_73 : Try.f73.resultTypes.toList = [22] := rfl
theorem res_74 : Try.f74.results.toList = [.tmp 4] := rfl
theorem rty_74 : Try.f74.resultTypes.toList = [4] := rfl
theorem res_75 : Try.f75.results.toList = [] := rfl
theorem rty_75 : Try.f75.resultTypes.toList = [] := rfl
theorem res_76 : Try.f76.results.toList = [.tmp 3] := rfl
theorem rty_76 : Try.f76.resultTypes.toList = [4] := rfl
theorem res_77 : Try.f77.results.toList = [.tmp 4] := rfl
theorem rty_77 : Try.f77.resultTypes.toList = [22] := rfl
theorem res_78 : Try.f78.results.toList = [.tmp 4] := rfl
theorem rty_78 : Try.f78.resultTypes.toList = [22] := rfl
theorem res_81 : Try.f81.results.toList = [.tmp 4] := rfl
theorem rty_81 : Try.f81.resultTypes.toList = [22] := rfl
theorem res_82 : Try.f82.results.toList = [.tmp 2] := rfl
theorem rty_82 : Try.f82.resultTypes.toList = [22] := rfl
theorem res_86 : Try.f86.results.toList = [.tmp 2] := rfl
theorem rty_86 : Try.f86.resultTypes.toList = [3] := rfl
theorem res_88 : Try.f88.results.toList = [.tmp 2] := rfl
theorem rty_88 : Try.f88.resultTypes.toList = [22] := rfl
theorem res_89 : Try.f89.results.toList = [.tmp 4] := rfl
theorem rty_89 : Try.f89.resultTypes.toList = [4] := rfl
theorem res_91 : Try.f91.results.toList = [.tmp 4] := rfl
theorem rty_91 : Try.f91.resultTypes.toList = [22] := rfl
theorem res_92 : Try.f92.results.toList = [.tmp 2] := rfl
theorem rty_92 : Try.f92.resultTypes.toList = [125] := rfl
theorem res_93 : Try.f93.results.toList = [.tmp 2] := rfl
theorem rty_93 : Try.f93.resultTypes.toList = [4] := rfl
theorem res_95 : Try.f95.results.toList = [] := rfl
theorem rty_95 : Try.f95.resultTypes.toList = [] := rfl
theorem res_98 : Try.f98.results.toList = [.cell 2 33] := rfl
theorem rty_98 : Try.f98.resultTypes.toList = [33] := rfl
theorem res_106 : Try.f106.results.toList = [.cell 2 33] := rfl
theorem rty_106 : Try.f106.resultTypes.toList = [33] := rfl
theorem res_108 : Try.f108.results.toList = [.tmp 2] := rfl
theorem rty_108 : Try.f108.resultTypes.toList = [22] := rfl
theorem res_146 : Try.f146.results.toList = [.cell 2 25] := rfl
theorem rty_146 : Try.f146.resultTypes.toList = [25] := rfl
theorem res_147 : Try.f147.results.toList = [.cell 4 25] := rfl
theorem rty_147 : Try.f147.resultTypes.toList = [25] := rfl
theorem res_149 : Try.f149.results.toList = [.tmp 2] := rfl
theorem rty_149 : Try.f149.resultTypes.toList = [22] := rfl
theorem res_150 : Try.f150.results.toList = [.tmp 2] := rfl
theorem rty_150 : Try.f150.resultTypes.toList = [125] := rfl
theorem res_168 : Try.f168.results.toList = [.cell 4 25, .tmp 5] := rfl
theorem rty_168 : Try.f168.resultTypes.toList = [25, 3] := rfl
theorem res_169 : Try.f169.results.toList = [.cell 2 25, .tmp 3, .tmp 4] := rfl
theorem rty_169 : Try.f169.resultTypes.toList = [25, 29, 3] := rfl
theorem res_170 : Try.f170.results.toList = [.cell 4 25, .tmp 5] := rfl
theorem rty_170 : Try.f170.resultTypes.toList = [25, 3] := rfl
theorem res_171 : Try.f171.results.toList = [.tmp 4] := rfl
theorem rty_171 : Try.f171.resultTypes.toList = [22] := rfl
theorem res_172 : Try.f172.results.toList = [.cell 0 204] := rfl
theorem rty_172 : Try.f172.resultTypes.toList = [204] := rfl
theorem res_188 : Try.f188.results.toList = [.cell 2 25] := rfl
theorem rty_188 : Try.f188.resultTypes.toList = [25] := rfl
attribute [go_sem] elTy_22 par_10 cty_22 zeroC_25 tySz_25 par_11 cty_25 fldTy_25_2 tySz_3 fldTy_25_1 fldTy_25_3 tySz_23 elTy_23 elTy_28 zeroC_3 cty_3 ixTy_28 par_12 elTy_29 ixTy_29 tySz_22 par_13 zeroC_33 tySz_33 fldTy_33_2 par_14 par_15 ixTy_23 fldTy_40_0 cty_4 cty_29 zeroC_5 cty_5 par_26 cty_33 par_27 bldTy_25 cvTy_3_5 zeroC_22 tySz_64 par_66 par_67 cty_100 par_68 fldTy_25_0 tySz_40 zeroC_40 par_69 fldTy_33_0 fldTy_33_1 fldTy_40_1 par_70 par_71 bldTy_33 ixTy_22 tySz_5 cvTy_5_3 par_72 par_73 par_74 bldTy_109 zeroC_109 tySz_109 par_75 cty_180 cty_111 fldTy_109_0 par_77 par_78 par_81 par_82 fldTy_121_0 fldTy_121_1 bldTy_121 zeroC_121 tySz_121 par_86 par_88 par_89 fldTy_33_3 fldTy_33_5 fldTy_33_4 tySz_4 par_91 par_92 cvTy_125_3 par_93 par_98 fldTy_64_5 par_106 par_108 fldTy_64_0 fldTy_64_1 fldTy_64_2 fldTy_64_3 fldTy_64_4 cvTy_22_9 par_146 par_147 bldTy_40 par_95 cty_40 cvTy_5_2 cty_2 par_149 par_150 cvTy_3_181 cvTy_181_5 cvTy_5_125 cty_125 par_168 par_169 par_170 par_171 par_172 zeroC_204 tySz_204 cvTy_125_5 ixTy_204 tySz_125 intTy_3 par_188 bldTy_204 cvTy_3_125 cty_204
end Go.Ev
set_option linter.unusedSimpArgs false
set_option linter.unusedVariables false
namespace Go.Ev
open Go Go.RowKit Go.Proofs
theorem c_toByteS (bs : List UInt8) (hb : bs.length ≤ 1048576) : Meets Try.prog 108 [rowB bs] (fun r => r = rowB bs) := by
  refine Meets.intro mixed (hint []) Try.func108 rfl (by decide) res_108 rty_108 (by kernel_rfl) ?_; 
  simp -dsimp -implicitDefEqProofs only [go_sem, Nat.reduceBEq, Nat.reduceAdd, Nat.reduceLeDiff, Nat.reduceSub, Int.reduceEq]
  refine ask.of (by omega) ?_
  refine LoopE.cnt bs.length (fun i s => s.env 0 = .rd .ent 5 1 (bytesA bs) ∧ s.env 3 = .ref [7] ∧ s.env 4 = .v (.int .i64 i) ∧ s.σ [7] = some (.row 5 1 (bytesA (bs.take i ++ List.replicate (bs.length - i) 0)))) ⟨by simp -dsimp -implicitDefEqProofs only [go_sem, Nat.reduceBEq, Nat.reduceAdd, Nat.reduceLeDiff, Nat.reduceSub, Int.reduceEq, initE], by simp -dsimp -implicitDefEqProofs only [go_sem, Nat.reduceBEq, Nat.reduceAdd, Nat.reduceLeDiff, Nat.reduceSub, Int.reduceEq], by simp -dsimp -implicitDefEqProofs only [go_sem, Nat.reduceBEq, Nat.reduceAdd, Nat.reduceLeDiff, Nat.reduceSub, Int.reduceEq] <;> simp, by simp -dsimp -implicitDefEqProofs only [go_sem, Nat.reduceBEq, Nat.reduceAdd, Nat.reduceLeDiff, Nat.reduceSub, Int.reduceEq] <;> simp⟩ ?_
  rintro i ⟨e, σ⟩ hi ⟨h0, h3, h4, hs⟩ K hK
  simp only at h0 h3 h4 hs
  simp -dsimp -implicitDefEqProofs only [go_sem, Nat.reduceBEq, Nat.reduceAdd, Nat.reduceLeDiff, Nat.reduceSub, Int.reduceEq, h0, h3, h4, hs]
  refine ifB'.of (fun hlt => ?_) (fun hlt => ?_)
  · have hlt : i < bs.length := by omega
    simp -dsimp -implicitDefEqProofs only [go_sem, Nat.reduceBEq, Nat.reduceAdd, Nat.reduceLeDiff, Nat.reduceSub, Int.reduceEq, h0, h3, h4, hs, bytesA_at hlt]
    repeat with_reducible refine ask.of (by omega) ?_
    have hl : (List.take i bs ++ List.replicate (bs.length - i) 0).length = bs.length := by simp; omega
    simp -dsimp -implicitDefEqProofs only [go_sem, Nat.reduceBEq, Nat.reduceAdd, Nat.reduceLeDiff, Nat.reduceSub, Int.reduceEq, h0, h3, h4, hs, hl]
    repeat with_reducible refine ask.of (by omega) ?_
    simp -dsimp -implicitDefEqProofs only [go_sem, Nat.reduceBEq, Nat.reduceAdd, Nat.reduceLeDiff, Nat.reduceSub, Int.reduceEq, h0, h3, h4, hs, bytesA_at (show i < (List.take i bs ++ List.replicate (bs.length - i) 0).length by omega)]
    refine hK _ hlt ?_
    simp -dsimp -implicitDefEqProofs only [go_sem, Nat.reduceBEq, Nat.reduceAdd, Nat.reduceLeDiff, Nat.reduceSub, Int.reduceEq, h0, h3, h4, hs, wrap_succ (show i < 4611686018427387904 by omega), fill_set bs 0 hlt]
  · have : i = bs.length := by omega
    subst this
    simp -dsimp -implicitDefEqProofs only [go_sem, Nat.reduceBEq, Nat.reduceAdd, Nat.reduceLeDiff, Nat.reduceSub, Int.reduceEq, h0, h3, h4, hs]
    simp
end Go.Ev
set_option linter.unusedSimpArgs false
set_option linter.unusedVariables false
namespace Go.Ev
open Go Go.RowKit Go.Proofs
def wBB (xs : List (List UInt8)) : Nat := szL List.length xs
end Go.Ev
set_option linter.unusedSimpArgs false
set_option linter.unusedVariables false
namespace Go.Ev
open Go Go.RowKit Go.Proofs
def w32 (c : UInt32) : AV := .v (.int .u32 c.toNat)
theorem wrap_u32_lt {n : Nat} (h : n < 4294967296) : IntKind.u32.wrap (n : Int) = (n : Int) := by rw [wrap_u32, Nat.mod_eq_of_lt h]
theorem bv32 (a : UInt32) : BitVec.ofInt 32 (a.toNat : Int) = a.toBitVec := by
  apply BitVec.eq_of_toNat_eq
  simp
theorem u32_xor (a b : UInt32) : IntKind.u32.wrap ((BitVec.ofInt IntKind.u32.bits (a.toNat : Int) ^^^ BitVec.ofInt IntKind.u32.bits (b.toNat : Int)).toNat : Int) = ((a ^^^ b).toNat : Int) := by
  show IntKind.u32.wrap ((BitVec.ofInt 32 (a.toNat : Int) ^^^ BitVec.ofInt 32 (b.toNat : Int)).toNat : Int) = _
  rw [bv32, bv32, wrap_u32_lt (BitVec.isLt _)]
  rfl
theorem u32_xor_poly (a : UInt32) : IntKind.u32.wrap ((BitVec.ofInt IntKind.u32.bits (a.toNat : Int) ^^^ BitVec.ofInt IntKind.u32.bits 3988292384).toNat : Int) = ((a ^^^ 3988292384).toNat : Int) := u32_xor a 3988292384
theorem u32_xor_all (a : UInt32) : IntKind.u32.wrap ((BitVec.ofInt IntKind.u32.bits (a.toNat : Int) ^^^ BitVec.ofInt IntKind.u32.bits 4294967295).toNat : Int) = ((a ^^^ 4294967295).toNat : Int) := u32_xor a 4294967295
theorem u32_and_one (a : UInt32) : IntKind.u32.wrap ((BitVec.ofInt IntKind.u32.bits (a.toNat : Int) &&& BitVec.ofInt IntKind.u32.bits 1).toNat : Int) = ((a &&& 1).toNat : Int) := by
  show IntKind.u32.wrap ((BitVec.ofInt 32 (a.toNat : Int) &&& BitVec.ofInt 32 (((1 : UInt32).toNat : Nat) : Int)).toNat : Int) = _
  rw [bv32, bv32, wrap_u32_lt (BitVec.isLt _)]
  rfl
theorem u32_half (a : UInt32) : IntKind.u32.wrap ((a.toNat : Int).tdiv 2) = ((a / 2).toNat : Int) := by
  have h : (a.toNat : Int).tdiv 2 = ((a.toNat / 2 : Nat) : Int) := rfl
  have h2 := a.toNat_lt
  rw [h, wrap_u32_lt (by omega)]
  simp
theorem u32_odd (a : UInt32) : (a.toNat : Int).tmod 2 = ((a % 2).toNat : Int) := by
  have h : (a.toNat : Int).tmod 2 = ((a.toNat % 2 : Nat) : Int) := rfl
  rw [h]; simp
theorem u32_shr8 (a : UInt32) : (a.toNat : Int).fdiv (2 ^ (min (Int.toNat 8) 32)) = ((a >>> 8).toNat : Int) := by
  show (a.toNat : Int).fdiv 256 = _
  rw [Int.fdiv_eq_ediv_of_nonneg _ (by decide), UInt32.toNat_shiftRight, Nat.shiftRight_eq_div_pow]
  rfl
theorem u32_shr1 (a : UInt32) : (a.toNat : Int).fdiv (2 ^ (min (Int.toNat 1) 32)) = ((a / 2).toNat : Int) := by
  show (a.toNat : Int).fdiv 2 = _
  rw [Int.fdiv_eq_ediv_of_nonneg _ (by decide)]
  simp
theorem u32_of_u8 (b : UInt8) : IntKind.u32.wrap (b.toNat : Int) = (b.toUInt32.toNat : Int) := by
  have := b.toNat_lt
  rw [wrap_u32_lt (by omega)]; simp
theorem u8_of_u32 (c : UInt32) : IntKind.u8.wrap (c.toNat : Int) = (c.toUInt8.toNat : Int) := by
  rw [wrap_u8]; simp
theorem u8_xor (a b : UInt8) : IntKind.u8.wrap ((BitVec.ofInt IntKind.u8.bits (a.toNat : Int) ^^^ BitVec.ofInt IntKind.u8.bits (b.toNat : Int)).toNat : Int) = ((a ^^^ b).toNat : Int) := by
  have bv8 : ∀ a : UInt8, BitVec.ofInt 8 (a.toNat : Int) = a.toBitVec := fun a => by apply BitVec.eq_of_toNat_eq; simp
  show IntKind.u8.wrap ((BitVec.ofInt 8 (a.toNat : Int) ^^^ BitVec.ofInt 8 (b.toNat : Int)).toNat : Int) = _
  rw [bv8, bv8, wrap_u8, Nat.mod_eq_of_lt (BitVec.isLt _)]
  rfl
def crcStep (c : UInt32) : UInt32 := if c % 2 = 1 then (c / 2) ^^^ 3988292384 else c / 2
def crcN : Nat → UInt32 → UInt32
  | 0, c => c
  | n + 1, c => crcStep (crcN n c)
def crcU (c : UInt32) : List UInt8 → UInt32
  | [] => c
  | b :: bs => crcU (crcN 8 (c ^^^ b.toUInt32)) bs
theorem crcU_snoc (c : UInt32) (l : List UInt8) (b : UInt8) : crcU c (l ++ [b]) = crcN 8 (crcU c l ^^^ b.toUInt32) := by
  induction l generalizing c with
  | nil => rfl
  | cons x l ih => exact ih _
def crcB (bs : List UInt8) : UInt32 := crcU 4294967295 bs ^^^ 4294967295
theorem c_specCrc32 (bs : List UInt8) (hb : bs.length ≤ 1048576) : Meets Try.prog 92 [rowB bs] (fun r => r = .v (.int .u32 (crcB bs).toNat)) := by
  refine Meets.intro mixed (hint []) Try.func92 rfl (by decide) res_92 rty_92 (by kernel_rfl) ?_; 
  simp -dsimp -implicitDefEqProofs only [go_sem, Nat.reduceBEq, Nat.reduceAdd, Nat.reduceLeDiff, Nat.reduceSub, Int.reduceEq]
  refine LoopE.cnt bs.length (fun i s => s.env 0 = .rd .ent 5 1 (bytesA bs) ∧ s.env 4 = .v (.int .i64 i) ∧ s.env 3 = .v (.int .u32 (crcU 4294967295 (bs.take i)).toNat)) ⟨by simp -dsimp -implicitDefEqProofs only [go_sem, Nat.reduceBEq, Nat.reduceAdd, Nat.reduceLeDiff, Nat.reduceSub, Int.reduceEq, initE], by simp -dsimp -implicitDefEqProofs only [go_sem, Nat.reduceBEq, Nat.reduceAdd, Nat.reduceLeDiff, Nat.reduceSub, Int.reduceEq], by simp -dsimp -implicitDefEqProofs only [go_sem, Nat.reduceBEq, Nat.reduceAdd, Nat.reduceLeDiff, Nat.reduceSub, Int.reduceEq, List.take_zero] <;> rfl⟩ ?_
  rintro i ⟨e, σ⟩ hi ⟨h0, h4, h3⟩ K hK
  simp only at h0 h3 h4
  simp -dsimp -implicitDefEqProofs only [go_sem, Nat.reduceBEq, Nat.reduceAdd, Nat.reduceLeDiff, Nat.reduceSub, Int.reduceEq, h0, h3, h4]
  refine ifB'.of (fun hlt => ?_) (fun hlt => ?_)
  · have hlt : i < bs.length := by omega
    have e1 := bytesA_at hlt
    simp -dsimp -implicitDefEqProofs only [go_sem, Nat.reduceBEq, Nat.reduceAdd, Nat.reduceLeDiff, Nat.reduceSub, Int.reduceEq, h0, h3, h4, e1, u32_of_u8, u32_xor]
    refine ask.of (by omega) ?_
    refine LoopE.cnt 8 (fun j s => s.env 0 = .rd .ent 5 1 (bytesA bs) ∧ s.env 4 = .v (.int .i64 i) ∧ s.env 5 = .v (.int .i64 j) ∧ s.env 3 = .v (.int .u32 (crcN j (crcU 4294967295 (bs.take i) ^^^ bs[i].toUInt32)).toNat)) ⟨by simp -dsimp -implicitDefEqProofs only [go_sem, Nat.reduceBEq, Nat.reduceAdd, Nat.reduceLeDiff, Nat.reduceSub, Int.reduceEq, h0, h3, h4], by simp -dsimp -implicitDefEqProofs only [go_sem, Nat.reduceBEq, Nat.reduceAdd, Nat.reduceLeDiff, Nat.reduceSub, Int.reduceEq, h0, h3, h4], by simp -dsimp -implicitDefEqProofs only [go_sem, Nat.reduceBEq, Nat.reduceAdd, Nat.reduceLeDiff, Nat.reduceSub, Int.reduceEq, h0, h3, h4], by simp -dsimp -implicitDefEqProofs only [go_sem, Nat.reduceBEq, Nat.reduceAdd, Nat.reduceLeDiff, Nat.reduceSub, Int.reduceEq, h0, h3, h4, crcN]⟩ ?_
    rintro j ⟨e, σ⟩ hj ⟨h0, h4, h5, h3⟩ K' hK'
    simp only at h0 h3 h4 h5
    generalize hc : crcN j (crcU 4294967295 (bs.take i) ^^^ bs[i].toUInt32) = c at h3
    simp -dsimp -implicitDefEqProofs only [go_sem, Nat.reduceBEq, Nat.reduceAdd, Nat.reduceLeDiff, Nat.reduceSub, Int.reduceEq, h0, h3, h4, h5]
    refine ifB'.of (fun hlt2 => ?_) (fun hlt2 => ?_)
    · simp -dsimp -implicitDefEqProofs only [go_sem, Nat.reduceBEq, Nat.reduceAdd, Nat.reduceLeDiff, Nat.reduceSub, Int.reduceEq, h0, h3, h4, h5, u32_odd, u32_half, Int.reduceNe]
      refine ifB'.of (fun hod => ?_) (fun hod => ?_)
      · simp -dsimp -implicitDefEqProofs only [go_sem, Nat.reduceBEq, Nat.reduceAdd, Nat.reduceLeDiff, Nat.reduceSub, Int.reduceEq, h0, h3, h4, h5, u32_xor_poly]
        refine hK' _ (by omega) ?_
        simp -dsimp -implicitDefEqProofs only [go_sem, Nat.reduceBEq, Nat.reduceAdd, Nat.reduceLeDiff, Nat.reduceSub, Int.reduceEq, h0, h3, h4, h5, wrap_succ (show j < 4611686018427387904 by omega)]
        rw [crcN, hc, crcStep, if_pos (UInt32.toNat_inj.1 (Int.ofNat_inj.1 hod))]
      · simp -dsimp -implicitDefEqProofs only [go_sem, Nat.reduceBEq, Nat.reduceAdd, Nat.reduceLeDiff, Nat.reduceSub, Int.reduceEq, h0, h3, h4, h5]
        refine hK' _ (by omega) ?_
        simp -dsimp -implicitDefEqProofs only [go_sem, Nat.reduceBEq, Nat.reduceAdd, Nat.reduceLeDiff, Nat.reduceSub, Int.reduceEq, h0, h3, h4, h5, wrap_succ (show j < 4611686018427387904 by omega)]
        rw [crcN, hc, crcStep, if_neg (fun e => hod (by rw [e]; rfl))]
    · simp -dsimp -implicitDefEqProofs only [go_sem, Nat.reduceBEq, Nat.reduceAdd, Nat.reduceLeDiff, Nat.reduceSub, Int.reduceEq, h0, h3, h4, h5]
      have : j = 8 := by omega
      subst this
      refine hK _ hlt ?_
      simp -dsimp -implicitDefEqProofs only [go_sem, Nat.reduceBEq, Nat.reduceAdd, Nat.reduceLeDiff, Nat.reduceSub, Int.reduceEq, h0, h3, h4, h5, wrap_succ (show i < 4611686018427387904 by omega)]
      rw [List.take_succ_eq_append_getElem hlt, crcU_snoc, hc]
  · have : i = bs.length := by omega
    subst this
    simp -dsimp -implicitDefEqProofs only [go_sem, Nat.reduceBEq, Nat.reduceAdd, Nat.reduceLeDiff, Nat.reduceSub, Int.reduceEq, h0, h3, h4, u32_xor_all, List.take_length]
    rfl
def w32s (l : List UInt32) : List AV := l.map w32
theorem w32s_length (l : List UInt32) : (w32s l).length = l.length := by simp [w32s]
theorem w32s_kill (I J : List Id) : ∀ l : List UInt32, killL I J (w32s l) = w32s l
  | [] => rfl
  | c :: l => congrArg (w32 c :: ·) (w32s_kill I J l)
theorem w32s_ok : ∀ l : List UInt32, (w32s l).all okBox = true
  | [] => rfl
  | c :: l => w32s_ok l
theorem w32s_zeros (n : Nat) : List.replicate n (AV.v (.int .u32 0)) = w32s (List.replicate n 0) := by simp [w32s, w32]
theorem w32s_set (l : List UInt32) (i : Nat) (c : UInt32) : (w32s l).set i (.v (.int .u32 c.toNat)) = w32s (l.set i c) := by simp [w32s, w32, List.map_set]
theorem w32s_at {l : List UInt32} {i : Nat} (h : i < l.length) : (w32s l)[i]? = some (.v (.int .u32 l[i].toNat)) := by simp [w32s, w32, h]
theorem setAt_full : ∀ (k : Nat) (pre vs cs : List AV), pre.length = k → vs.length = cs.length → setAt vs k (pre ++ cs) = pre ++ vs
  | k, pre, [], cs, _, h => by simp [setAt, List.eq_nil_of_length_eq_zero h.symm]
  | k, pre, v :: vs, [], _, h => by simp at h
  | k, pre, v :: vs, c :: cs, hp, h => by
    subst hp
    rw [setAt]
    have e : (pre ++ c :: cs).set pre.length v = (pre ++ [v]) ++ cs := by simp
    rw [e, setAt_full (pre.length + 1) (pre ++ [v]) vs cs (by simp) (by simpa using h)]
    simp
theorem w32s_clL (s : St) : ∀ l : List UInt32, s.clL (w32s l) = some (w32s l, [])
  | [] => rfl
  | c :: l => by
    show bindO (some (w32 c, [])) (fun x => bindO (s.clL (w32s l)) fun y => some (x.1 :: y.1, x.2 ++ y.2)) = _
    rw [w32s_clL s l]
    rfl
theorem nilL_one (l : List AV) : nilL [none] l = l := by cases l <;> simp [nilL, nilC]
theorem w32s_setAt (l l' : List UInt32) (h : l.length = l'.length) : setAt (w32s l) 0 (w32s l') = w32s l := by
  simpa using setAt_full 0 [] (w32s l) (w32s l') rfl (by simp [w32s_length, h])
def crcTab (n : Nat) : List UInt32 := (List.range n).map fun j => crcN 8 (UInt32.ofNat j)
theorem crcTab_length (n : Nat) : (crcTab n).length = n := by simp [crcTab]
attribute [go_sem] nilL_one w32s_clL w32s_length w32s_kill w32s_ok w32s_zeros w32s_set w32s_setAt crcTab_length
theorem u32_of_nat {i : Nat} (h : i < 4294967296) : IntKind.u32.wrap (i : Int) = ((UInt32.ofNat i).toNat : Int) := by
  rw [wrap_u32_lt h, UInt32.toNat_ofNat_of_lt' h]
theorem u32_bit (a : UInt32) : (a &&& 1).toNat = (a % 2).toNat := by
  rw [UInt32.toNat_and]
  simp [Nat.and_one_is_mod]
set_option maxRecDepth 4000 in
theorem c_crcTable : Meets Try.prog 172 [] (fun r => r = .agg (w32s (crcTab 256))) := by
  refine Meets.intro mixed (hint []) Try.func172 rfl (by decide) res_172 rty_172 (by kernel_rfl) ?_; 
  simp -dsimp -implicitDefEqProofs only [go_sem, Nat.reduceBEq, Nat.reduceAdd, Nat.reduceLeDiff, Nat.reduceSub, Int.reduceEq]
  refine LoopE.cnt 256 (fun i s => s.env 0 = .ptr [0] 0 0 0 ∧ s.env 1 = .ptr [1] 0 0 0 ∧ s.env 6 = .v (.int .i64 i) ∧
    s.σ [0] = some (.box 204 (w32s (List.replicate 256 0))) ∧ s.σ [1] = some (.box 204 (w32s (crcTab i ++ List.replicate (256 - i) 0)))) ⟨by simp -dsimp -implicitDefEqProofs only [go_sem, Nat.reduceBEq, Nat.reduceAdd, Nat.reduceLeDiff, Nat.reduceSub, Int.reduceEq], by simp -dsimp -implicitDefEqProofs only [go_sem, Nat.reduceBEq, Nat.reduceAdd, Nat.reduceLeDiff, Nat.reduceSub, Int.reduceEq], by simp -dsimp -implicitDefEqProofs only [go_sem, Nat.reduceBEq, Nat.reduceAdd, Nat.reduceLeDiff, Nat.reduceSub, Int.reduceEq], by simp -dsimp -implicitDefEqProofs only [go_sem, Nat.reduceBEq, Nat.reduceAdd, Nat.reduceLeDiff, Nat.reduceSub, Int.reduceEq], by simp -dsimp -implicitDefEqProofs only [go_sem, Nat.reduceBEq, Nat.reduceAdd, Nat.reduceLeDiff, Nat.reduceSub, Int.reduceEq] <;> rfl⟩ ?_
  rintro i ⟨e, σ⟩ hi ⟨h0, h1, h6, g0, g1⟩ K hK
  simp only at h0 h1 h6 g0 g1
  simp -dsimp -implicitDefEqProofs only [go_sem, Nat.reduceBEq, Nat.reduceAdd, Nat.reduceLeDiff, Nat.reduceSub, Int.reduceEq, h0, h1, h6, g0, g1]
  refine ifB'.of (fun hlt => ?_) (fun hlt => ?_)
  · have hlt : i < 256 := by omega
    simp -dsimp -implicitDefEqProofs only [go_sem, Nat.reduceBEq, Nat.reduceAdd, Nat.reduceLeDiff, Nat.reduceSub, Int.reduceEq, h0, h1, h6, g0, g1, u32_of_nat (show i < 4294967296 by omega)]
    refine LoopE.cnt 8 (fun j s => s.env 0 = .ptr [0] 0 0 0 ∧ s.env 1 = .ptr [1] 0 0 0 ∧ s.env 6 = .v (.int .i64 i) ∧ s.env 2 = .v (.int .i64 i) ∧ s.env 11 = .v (.int .i64 j) ∧ s.env 3 = .v (.int .u32 (crcN j (UInt32.ofNat i)).toNat) ∧
      s.σ [0] = some (.box 204 (w32s (List.replicate 256 0))) ∧ s.σ [1] = some (.box 204 (w32s (crcTab i ++ List.replicate (256 - i) 0)))) ⟨by simp -dsimp -implicitDefEqProofs only [go_sem, Nat.reduceBEq, Nat.reduceAdd, Nat.reduceLeDiff, Nat.reduceSub, Int.reduceEq, h0, h1, h6, g0, g1], by simp -dsimp -implicitDefEqProofs only [go_sem, Nat.reduceBEq, Nat.reduceAdd, Nat.reduceLeDiff, Nat.reduceSub, Int.reduceEq, h0, h1, h6, g0, g1], by simp -dsimp -implicitDefEqProofs only [go_sem, Nat.reduceBEq, Nat.reduceAdd, Nat.reduceLeDiff, Nat.reduceSub, Int.reduceEq, h0, h1, h6, g0, g1], by simp -dsimp -implicitDefEqProofs only [go_sem, Nat.reduceBEq, Nat.reduceAdd, Nat.reduceLeDiff, Nat.reduceSub, Int.reduceEq, h0, h1, h6, g0, g1], by simp -dsimp -implicitDefEqProofs only [go_sem, Nat.reduceBEq, Nat.reduceAdd, Nat.reduceLeDiff, Nat.reduceSub, Int.reduceEq, h0, h1, h6, g0, g1], by simp -dsimp -implicitDefEqProofs only [go_sem, Nat.reduceBEq, Nat.reduceAdd, Nat.reduceLeDiff, Nat.reduceSub, Int.reduceEq, h0, h1, h6, g0, g1, crcN], by simp -dsimp -implicitDefEqProofs only [go_sem, Nat.reduceBEq, Nat.reduceAdd, Nat.reduceLeDiff, Nat.reduceSub, Int.reduceEq, h0, h1, h6, g0, g1], by simp -dsimp -implicitDefEqProofs only [go_sem, Nat.reduceBEq, Nat.reduceAdd, Nat.reduceLeDiff, Nat.reduceSub, Int.reduceEq, h0, h1, h6, g0, g1]⟩ ?_
    rintro j ⟨e, σ⟩ hj ⟨h0, h1, h6, h2, h11, h3, g0, g1⟩ K' hK'
    simp only at h0 h1 h6 h2 h11 h3 g0 g1
    generalize hc : crcN j (UInt32.ofNat i) = c at h3
    simp -dsimp -implicitDefEqProofs only [go_sem, Nat.reduceBEq, Nat.reduceAdd, Nat.reduceLeDiff, Nat.reduceSub, Int.reduceEq, h0, h1, h6, h2, h11, h3, g0, g1]
    refine ifB'.of (fun hlt2 => ?_) (fun hlt2 => ?_)
    · simp -dsimp -implicitDefEqProofs only [go_sem, Nat.reduceBEq, Nat.reduceAdd, Nat.reduceLeDiff, Nat.reduceSub, Int.reduceEq, h0, h1, h6, h2, h11, h3, g0, g1, u32_and_one, u32_shr1, u32_bit]
      refine ask.of (by decide) ?_
      refine ifB'.of (fun hod => ?_) (fun hod => ?_)
      · simp -dsimp -implicitDefEqProofs only [go_sem, Nat.reduceBEq, Nat.reduceAdd, Nat.reduceLeDiff, Nat.reduceSub, Int.reduceEq, h0, h1, h6, h2, h11, h3, g0, g1, u32_xor_poly]
        refine hK' _ (by omega) ?_
        simp -dsimp -implicitDefEqProofs only [go_sem, Nat.reduceBEq, Nat.reduceAdd, Nat.reduceLeDiff, Nat.reduceSub, Int.reduceEq, h0, h1, h6, h2, h11, h3, g0, g1, wrap_succ (show j < 4611686018427387904 by omega)]
        rw [crcN, hc, crcStep, if_pos (UInt32.toNat_inj.1 (Int.ofNat_inj.1 hod))]
      · simp -dsimp -implicitDefEqProofs only [go_sem, Nat.reduceBEq, Nat.reduceAdd, Nat.reduceLeDiff, Nat.reduceSub, Int.reduceEq, h0, h1, h6, h2, h11, h3, g0, g1]
        refine hK' _ (by omega) ?_
        simp -dsimp -implicitDefEqProofs only [go_sem, Nat.reduceBEq, Nat.reduceAdd, Nat.reduceLeDiff, Nat.reduceSub, Int.reduceEq, h0, h1, h6, h2, h11, h3, g0, g1, wrap_succ (show j < 4611686018427387904 by omega)]
        rw [crcN, hc, crcStep, if_neg (fun e => hod (by rw [e]; rfl))]
    · have : j = 8 := by omega
      subst this
      simp -dsimp -implicitDefEqProofs only [go_sem, Nat.reduceBEq, Nat.reduceAdd, Nat.reduceLeDiff, Nat.reduceSub, Int.reduceEq, h0, h1, h6, h2, h11, h3, g0, g1]
      have hl : (crcTab i ++ List.replicate (256 - i) 0).length = 256 := by simp only [List.length_append, crcTab_length, List.length_replicate]; omega
      refine ask.of (by omega) (ask.of (by omega) (hK _ hlt ?_))
      simp -dsimp -implicitDefEqProofs only [go_sem, Nat.reduceBEq, Nat.reduceAdd, Nat.reduceLeDiff, Nat.reduceSub, Int.reduceEq, h0, h1, h6, h2, h11, h3, g0, g1, wrap_succ (show i < 4611686018427387904 by omega)]
      have e : 256 - i = (256 - (i + 1)) + 1 := by omega
      rw [Nat.mul_one, e, List.replicate_succ, List.set_append_right _ _ (by rw [crcTab_length]; exact Nat.le_refl _), crcTab_length, Nat.sub_self, List.set_cons_zero]
      have e2 : crcTab (i + 1) = crcTab i ++ [c] := by rw [crcTab, List.range_succ, List.map_append, ← hc]; rfl
      rw [e2, List.append_assoc]
      rfl
  · have : i = 256 := by omega
    subst this
    have e0 : crcTab 256 ++ List.replicate (256 - 256) 0 = crcTab 256 := List.append_nil _
    rw [e0] at g1
    have e1 : List.take 256 (w32s (crcTab 256)) = w32s (crcTab 256) := by
      exact List.take_of_length_le (by rw [w32s_length, crcTab_length]; exact Nat.le_refl _)
    have e2 : Nat.ble 256 256 = true := rfl
    simp -dsimp -implicitDefEqProofs only [go_sem, Nat.reduceBEq, Nat.reduceAdd, Nat.reduceLeDiff, Nat.reduceSub, Int.reduceEq, h0, h1, h6, g0, g1, e1, e2, w32s_setAt (crcTab 256) (List.replicate 256 0) (by rw [crcTab_length, List.length_replicate]), List.map_id', List.length_replicate]
def stB (x : BitVec 32) : BitVec 32 := (x >>> 1) ^^^ (if x.getLsbD 0 then 3988292384 else 0)
def stN : Nat → BitVec 32 → BitVec 32
  | 0, x => x
  | n + 1, x => stB (stN n x)
theorem crcStep_bv (c : UInt32) : (crcStep c).toBitVec = stB c.toBitVec := by
  have h1 : (c / 2).toBitVec = c.toBitVec >>> 1 := by
    apply BitVec.eq_of_toNat_eq
    simp [BitVec.toNat_ushiftRight, Nat.shiftRight_eq_div_pow]
  have h2 : c.toBitVec.getLsbD 0 = decide (c % 2 = 1) := by
    rw [BitVec.getLsbD, Nat.testBit_zero]
    congr 1
    rw [← UInt32.toNat_inj]
    simp
  unfold crcStep stB
  rw [h2]
  by_cases h : c % 2 = 1
  · simp only [h, if_true, decide_true]
    rw [UInt32.toBitVec_xor, h1]; rfl
  · simp only [h, if_false, decide_false]
    rw [h1]; simp
theorem crcN_bv (n : Nat) (c : UInt32) : (crcN n c).toBitVec = stN n c.toBitVec := by
  induction n with
  | zero => rfl
  | succ n ih => rw [crcN, crcStep_bv, ih]; rfl
theorem stB_xor (a b : BitVec 32) : stB (a ^^^ b) = stB a ^^^ stB b := by
  unfold stB
  rw [BitVec.ushiftRight_xor_distrib, BitVec.getLsbD_xor]
  cases a.getLsbD 0 <;> cases b.getLsbD 0 <;> simp
  · rw [BitVec.xor_assoc]
  · rw [BitVec.xor_assoc, BitVec.xor_assoc, BitVec.xor_comm (b >>> 1)]
  · rw [BitVec.xor_assoc, ← BitVec.xor_assoc (3988292384#32) (b >>> 1), BitVec.xor_comm (3988292384#32) (b >>> 1), BitVec.xor_assoc, BitVec.xor_self, BitVec.xor_zero]
theorem stN_xor (n : Nat) (a b : BitVec 32) : stN n (a ^^^ b) = stN n a ^^^ stN n b := by
  induction n with
  | zero => rfl
  | succ n ih => rw [stN, ih, stB_xor]; rfl
theorem stN_low (x : BitVec 32) (h : ∀ i, i < 8 → x.getLsbD i = false) : ∀ n, n ≤ 8 → stN n x = x >>> n
  | 0, _ => by simp [stN]
  | n + 1, hn => by
    rw [stN, stN_low x h n (by omega), stB]
    have : (x >>> n).getLsbD 0 = false := by rw [BitVec.getLsbD_ushiftRight]; simpa using h n (by omega)
    rw [this, ← BitVec.shiftRight_add]
    simp
theorem st8 (x : BitVec 32) : stN 8 x = (x >>> 8) ^^^ stN 8 (x &&& 255) := by
  have hx : x = (x &&& ~~~255#32) ^^^ (x &&& 255#32) := by
    apply BitVec.eq_of_getLsbD_eq
    intro i hi
    simp only [BitVec.getLsbD_xor, BitVec.getLsbD_and, BitVec.getLsbD_not, hi, decide_true, Bool.true_and]
    cases x.getLsbD i <;> cases (255#32).getLsbD i <;> rfl
  have h255 : ∀ i, (255#32).getLsbD i = decide (i < 8) := fun i => by
    have : (255#32).getLsbD i = (2 ^ 8 - 1).testBit i := rfl
    rw [this, Nat.testBit_two_pow_sub_one]
  have hlow : stN 8 (x &&& ~~~255#32) = (x &&& ~~~255#32) >>> 8 := stN_low _ (fun i hi => by
    rw [BitVec.getLsbD_and, BitVec.getLsbD_not, h255]; simp [hi]) 8 (Nat.le_refl _)
  have hs : (x &&& ~~~255#32) >>> 8 = x >>> 8 := by
    apply BitVec.eq_of_getLsbD_eq
    intro i hi
    rw [BitVec.getLsbD_ushiftRight, BitVec.getLsbD_ushiftRight, BitVec.getLsbD_and, BitVec.getLsbD_not, h255]
    by_cases h : 8 + i < 32
    · simp [h]
    · simp [BitVec.getLsbD_of_ge x (8 + i) (by omega)]
  conv => lhs; rw [hx]
  rw [stN_xor, hlow, hs]
  rfl
theorem crc_byte (c : UInt32) (b : UInt8) : crcN 8 (c ^^^ b.toUInt32) = (c >>> 8) ^^^ crcN 8 (UInt32.ofNat (c.toUInt8 ^^^ b).toNat) := by
  apply UInt32.toBitVec_inj.1
  rw [crcN_bv, UInt32.toBitVec_xor, st8, UInt32.toBitVec_xor, crcN_bv]
  have hb : b.toUInt32.toBitVec = b.toBitVec.setWidth 32 := rfl
  have h1 : (c.toBitVec ^^^ b.toUInt32.toBitVec) >>> 8 = (c >>> 8).toBitVec := by
    apply BitVec.eq_of_toNat_eq
    have hbl := b.toNat_lt
    rw [BitVec.ushiftRight_xor_distrib]
    have : b.toUInt32.toBitVec >>> 8 = 0#32 := by
      apply BitVec.eq_of_toNat_eq
      rw [BitVec.toNat_ushiftRight, Nat.shiftRight_eq_div_pow]
      have : b.toUInt32.toBitVec.toNat = b.toNat := by simp
      rw [this]; simp; omega
    rw [this, BitVec.xor_zero]
    rfl
  have h2 : (c.toBitVec ^^^ b.toUInt32.toBitVec) &&& 255 = (UInt32.ofNat (c.toUInt8 ^^^ b).toNat).toBitVec := by
    apply BitVec.eq_of_toNat_eq
    have h3 : (UInt32.ofNat (c.toUInt8 ^^^ b).toNat).toBitVec.toNat = (c.toUInt8 ^^^ b).toNat := by
      have := (c.toUInt8 ^^^ b).toNat_lt
      show (UInt32.ofNat (c.toUInt8 ^^^ b).toNat).toNat = _
      rw [UInt32.toNat_ofNat_of_lt' (by show _ < 4294967296; omega)]
    rw [h3, BitVec.toNat_and, BitVec.toNat_xor, UInt8.toNat_xor]
    have h4 : b.toUInt32.toBitVec.toNat = b.toNat := by simp
    have h5 : (255 : BitVec 32).toNat = 2 ^ 8 - 1 := rfl
    rw [h4, h5, Nat.and_two_pow_sub_one_eq_mod, Nat.xor_mod_two_pow]
    have h6 : c.toUInt8.toNat = c.toBitVec.toNat % 2 ^ 8 := by simp
    have hbl := b.toNat_lt
    rw [h6, Nat.mod_eq_of_lt (show b.toNat < 2 ^ 8 from hbl)]
  rw [h1, h2]
theorem u32_not (a : UInt32) : IntKind.u32.wrap ((BitVec.ofInt IntKind.u32.bits (if IntKind.u32.signed = true then -1 else IntKind.u32.max) ^^^ BitVec.ofInt IntKind.u32.bits (a.toNat : Int)).toNat : Int) = ((a ^^^ 4294967295).toNat : Int) := by
  have := u32_xor 4294967295 a
  rw [UInt32.xor_comm] at this
  exact this
theorem pureCs_w32s : ∀ l : List UInt32, pureCs (w32s l)
  | [] => trivial
  | c :: l => ⟨trivial, pureCs_w32s l⟩
theorem pure_w32s (l : List UInt32) : (AV.agg (w32s l)).pure := pureCs_w32s l
theorem w32s_opn (id : Id) : ∀ (l : List UInt32) (q : Nat), opnCs id q (w32s l) = (w32s l, [])
  | [], _ => rfl
  | c :: l, q => by
    have := w32s_opn id l (q + 1)
    show ((opnC id q (w32 c)).1 :: (opnCs id (q + 1) (w32s l)).1, (opnC id q (w32 c)).2 ++ (opnCs id (q + 1) (w32s l)).2) = _
    rw [this]; rfl
attribute [go_sem] w32s_opn
theorem crcTab_at {k : Nat} (h : k < 256) : (crcTab 256)[k]'(by rw [crcTab_length]; exact h) = crcN 8 (UInt32.ofNat k) := by simp [crcTab]
theorem c_implCrc32 (bs : List UInt8) (hb : bs.length ≤ 1048576) : Meets Try.prog 150 [rowB bs] (fun r => r = .v (.int .u32 (crcB bs).toNat)) := by
  refine Meets.intro mixed (hint []) Try.func150 rfl (by decide) res_150 rty_150 (by kernel_rfl) ?_; 
  simp -dsimp -implicitDefEqProofs only [go_sem, Nat.reduceBEq, Nat.reduceAdd, Nat.reduceLeDiff, Nat.reduceSub, Int.reduceEq]
  refine CallE.of c_crcTable (by rintro r rfl; exact pure_w32s _) (by simp -dsimp -implicitDefEqProofs only [go_sem, Nat.reduceBEq, Nat.reduceAdd, Nat.reduceLeDiff, Nat.reduceSub, Int.reduceEq]) ?_
  rintro r rfl
  simp -dsimp -implicitDefEqProofs only [go_sem, Nat.reduceBEq, Nat.reduceAdd, Nat.reduceLeDiff, Nat.reduceSub, Int.reduceEq, List.length_replicate]
  refine LoopE.cnt bs.length (fun i s => s.env 8 = .rd .ent 5 1 (bytesA bs) ∧ s.env 9 = .v (.int .i64 bs.length) ∧ s.env 10 = .v (.int .i64 i) ∧ s.env 3 = .ptr [3] 0 0 0 ∧
    s.env 4 = .v (.int .u32 (crcU 4294967295 (bs.take i)).toNat) ∧ s.σ [3] = some (.box 204 (w32s (crcTab 256)))) ⟨by simp -dsimp -implicitDefEqProofs only [go_sem, Nat.reduceBEq, Nat.reduceAdd, Nat.reduceLeDiff, Nat.reduceSub, Int.reduceEq, initE], by simp -dsimp -implicitDefEqProofs only [go_sem, Nat.reduceBEq, Nat.reduceAdd, Nat.reduceLeDiff, Nat.reduceSub, Int.reduceEq, initE], by simp -dsimp -implicitDefEqProofs only [go_sem, Nat.reduceBEq, Nat.reduceAdd, Nat.reduceLeDiff, Nat.reduceSub, Int.reduceEq], by simp -dsimp -implicitDefEqProofs only [go_sem, Nat.reduceBEq, Nat.reduceAdd, Nat.reduceLeDiff, Nat.reduceSub, Int.reduceEq], by simp -dsimp -implicitDefEqProofs only [go_sem, Nat.reduceBEq, Nat.reduceAdd, Nat.reduceLeDiff, Nat.reduceSub, Int.reduceEq, List.take_zero] <;> rfl, by simp -dsimp -implicitDefEqProofs only [go_sem, Nat.reduceBEq, Nat.reduceAdd, Nat.reduceLeDiff, Nat.reduceSub, Int.reduceEq]⟩ ?_
  rintro i ⟨e, σ⟩ hi ⟨h8, h9, h10, h3, h4, g3⟩ K hK
  simp only at h8 h9 h10 h3 h4 g3
  generalize hc : crcU 4294967295 (bs.take i) = c at h4
  simp -dsimp -implicitDefEqProofs only [go_sem, Nat.reduceBEq, Nat.reduceAdd, Nat.reduceLeDiff, Nat.reduceSub, Int.reduceEq, h8, h9, h10, h3, h4, g3]
  refine ifB'.of (fun hlt => ?_) (fun hlt => ?_)
  · have hlt : i < bs.length := by omega
    have e1 := bytesA_at hlt
    have hk : (c.toUInt8 ^^^ bs[i]).toNat < 256 := (c.toUInt8 ^^^ bs[i]).toNat_lt
    have e2 := w32s_at (l := crcTab 256) (i := (c.toUInt8 ^^^ bs[i]).toNat) (by rw [crcTab_length]; exact hk)
    have e3 : (w32s (crcTab 256))[(c.toUInt8 ^^^ bs[i]).toNat * 1]? = some (.v (.int .u32 (crcN 8 (UInt32.ofNat (c.toUInt8 ^^^ bs[i]).toNat)).toNat)) := by
      rw [Nat.mul_one, e2, crcTab_at hk]
    simp -dsimp -implicitDefEqProofs only [go_sem, Nat.reduceBEq, Nat.reduceAdd, Nat.reduceLeDiff, Nat.reduceSub, Int.reduceEq, h8, h9, h10, h3, h4, g3, e1, e3, u32_shr8, u8_of_u32, u8_xor, u32_xor]
    refine ask.of (by omega) ⟨by decide, ask.of (by omega) (hK _ hlt ?_)⟩
    simp -dsimp -implicitDefEqProofs only [go_sem, Nat.reduceBEq, Nat.reduceAdd, Nat.reduceLeDiff, Nat.reduceSub, Int.reduceEq, h8, h9, h10, h3, h4, g3, wrap_succ (show i < 4611686018427387904 by omega)]
    rw [List.take_succ_eq_append_getElem hlt, crcU_snoc, hc, crc_byte]
  · have : i = bs.length := by omega
    subst this
    rw [List.take_length] at hc
    simp -dsimp -implicitDefEqProofs only [go_sem, Nat.reduceBEq, Nat.reduceAdd, Nat.reduceLeDiff, Nat.reduceSub, Int.reduceEq, h8, h9, h10, h3, h4, g3, u32_not, ← hc]
    rfl
end Go.Ev
set_option linter.unusedSimpArgs false
set_option linter.unusedVariables false
namespace Go.Ev
open Go Go.RowKit
def Look (a b : AV) : Prop := ∀ (C : Cx) (x : Value), Rep C true (.read .ent) a x → Rep C true (.read .ent) b x
theorem Look.refl (a : AV) : Look a a := fun _ _ h => h
def Looks : List AV → List AV → Prop
  | [], [] => True
  | a :: us, b :: bs => Look a b ∧ Looks us bs
  | _, _ => False
def LookEls : List (List AV) → List (List AV) → Prop
  | [], [] => True
  | a :: us, b :: bs => Looks a b ∧ LookEls us bs
  | _, _ => False
theorem Looks.len : ∀ {us bs : List AV}, Looks us bs → us.length = bs.length
  | [], [], _ => rfl
  | a :: us, b :: bs, h => by simp [Looks.len h.2]
  | [], _ :: _, h => h.elim
  | _ :: _, [], h => h.elim
theorem LookEls.len : ∀ {us bs : List (List AV)}, LookEls us bs → us.length = bs.length
  | [], [], _ => rfl
  | a :: us, b :: bs, h => by simp [LookEls.len h.2]
  | [], _ :: _, h => h.elim
  | _ :: _, [], h => h.elim
theorem RepVs.look {C : Cx} : ∀ {us bs : List AV} {vs : List Value} {q : Nat}, Looks us bs → RepVs C true (.read .ent) q us vs → RepVs C true (.read .ent) q bs vs
  | [], [], vs, q, _, h => h
  | a :: us, b :: bs, vs, q, hl, h => by
    obtain ⟨y, ys, rfl, h1, h2⟩ := h
    exact ⟨y, ys, rfl, hl.1 _ _ h1, RepVs.look hl.2 h2⟩
  | [], _ :: _, _, _, h, _ => h.elim
  | _ :: _, [], _, _, h, _ => h.elim
theorem RepCs.look {C : Cx} {b : Nat} : ∀ {us bs : List AV} {off q : Nat}, Looks us bs → RepCs C true (.read .ent) b off q us → RepCs C true (.read .ent) b off q bs
  | [], [], _, _, _, h => h
  | a :: us, c :: bs, off, q, hl, h => by
    obtain ⟨⟨y, h0, h1, h2⟩, h3⟩ := h
    exact ⟨⟨y, h0, h1, hl.1 _ _ h2⟩, RepCs.look hl.2 h3⟩
  | [], _ :: _, _, _, h, _ => h.elim
  | _ :: _, [], _, _, h, _ => h.elim
theorem RepEls.look {C : Cx} {b sz : Nat} : ∀ {us bs : List (List AV)} {off q : Nat}, LookEls us bs → RepEls C (.read .ent) b off q sz us → RepEls C (.read .ent) b off q sz bs
  | [], [], _, _, _, h => h
  | a :: us, c :: bs, off, q, hl, h => by
    obtain ⟨h1, h2, h3⟩ := h
    exact ⟨by rw [← Looks.len hl.1]; exact h1, RepCs.look hl.1 h2, RepEls.look hl.2 h3⟩
  | [], _ :: _, _, _, h, _ => h.elim
  | _ :: _, [], _, _, h, _ => h.elim
theorem Look.row {e sz : Nat} {us bs : List (List AV)} (h : LookEls us bs) : Look (.row e sz us) (.row e sz bs) := fun C x hr => by
  obtain ⟨ha, A, c, rfl, h1, h2, h3⟩ := hr
  have hl := h.len
  refine ⟨ha, A, c, by rw [hl], by omega, by omega, ?_⟩
  rcases h3 with h3 | ⟨b, off, h4, h5, h6⟩
  · left
    rw [h3] at hl
    exact List.eq_nil_of_length_eq_zero (by simpa using hl.symm)
  · exact .inr ⟨b, off, h4, h5, RepEls.look h h6⟩
theorem Look.rd (e sz : Nat) (els : List (List AV)) : Look (.rd .ent e sz els) (.row e sz els) := fun C x hr => by
  obtain ⟨_, _, A, c, rfl, h1, h2, h3⟩ := hr
  exact ⟨trivial, A, c, rfl, h1, h2, h3⟩
theorem Meets.look {P : Program} {f : FuncId} {us bs : List AV} {post : AV → Prop} (hl : Looks us bs) (h : Meets P f bs post) : Meets P f us post :=
  ⟨h.enters, fun w S F base vals hS hr => h.runs w S F base vals hS (hr.look hl)⟩
end Go.Ev
set_option linter.unusedSimpArgs false
set_option linter.unusedVariables false
namespace Go.Ev
open Go Go.RowKit Go.Proofs
def h8 (x0 x1 x2 x3 x4 x5 x6 x7 : Bool) : Nat := (((((((0 * 2 + x7.toNat) * 2 + x6.toNat) * 2 + x5.toNat) * 2 + x4.toNat) * 2 + x3.toNat) * 2 + x2.toNat) * 2 + x1.toNat) * 2 + x0.toNat
end Go.Ev
set_option linter.unusedSimpArgs false
set_option linter.unusedVariables false
namespace Go.Ev
open Go Go.RowKit Go.Proofs
theorem wrap_u64 {n : Nat} (h : n < 18446744073709551616) : IntKind.u64.wrap (n : Int) = (n : Int) := by
  simp [IntKind.wrap, IntKind.bits, IntKind.signed]; omega
end Go.Ev
set_option linter.unusedSimpArgs false
set_option linter.unusedVariables false
namespace Go.Ev
open Go Go.RowKit Go.Proofs
theorem c_bytesEqual (a b : List UInt8) (ha : a.length ≤ 140737488355328) (hb : b.length ≤ 140737488355328) : Meets Try.prog 74 [rowB a, rowB b] (fun r => r = .v (.bool (decide (a = b)))) := by
  refine Meets.intro mixed (hint []) Try.func74 rfl (by decide) res_74 rty_74 (by kernel_rfl) ?_; 
  simp -dsimp -implicitDefEqProofs only [go_sem, Nat.reduceBEq, Nat.reduceAdd, Nat.reduceLeDiff, Nat.reduceSub, Int.reduceEq, initE]
  exact decide_eq_decide.2 ⟨fun h => by simpa using h, fun h => by rw [h]⟩
end Go.Ev
set_option linter.unusedSimpArgs false
set_option linter.unusedVariables false
namespace Go.Ev
open Go Go.RowKit Go.Proofs
def leN : List UInt8 → Nat
  | [] => 0
  | c :: cs => c.toNat + 256 * leN cs
theorem leN_drop {b : List UInt8} {i : Nat} (h : i < b.length) : leN (b.drop i) = b[i].toNat + 256 * leN (b.drop (i + 1)) := by
  rw [List.drop_eq_getElem_cons h, leN]
theorem wrap_ex (x : Int) : ∃ k : Int, IntKind.i64.wrap x = x + 18446744073709551616 * k := by
  rw [IntKind.wrap_i64]
  exact ⟨-((x + 9223372036854775808) / 18446744073709551616), by omega⟩
theorem wrap_more (x k : Int) : IntKind.i64.wrap (x + 18446744073709551616 * k) = IntKind.i64.wrap x := by
  rw [IntKind.wrap_i64, IntKind.wrap_i64]; omega
theorem wrap_step (n c : Int) : IntKind.i64.wrap (IntKind.i64.wrap (IntKind.i64.wrap n * 256) + c) = IntKind.i64.wrap (c + 256 * n) := by
  obtain ⟨k, hk⟩ := wrap_ex n
  obtain ⟨k2, hk2⟩ := wrap_ex (IntKind.i64.wrap n * 256)
  rw [hk2, hk, show (n + 18446744073709551616 * k) * 256 + 18446744073709551616 * k2 + c = c + 256 * n + 18446744073709551616 * (256 * k + k2) by omega, wrap_more]
theorem or_byte (n : Nat) (c : UInt8) : IntKind.i64.wrap (((BitVec.ofInt IntKind.i64.bits (IntKind.i64.wrap (IntKind.i64.wrap (n : Int) * 2 ^ min (Int.toNat 8) 64)) ||| BitVec.ofInt IntKind.i64.bits (c.toNat : Int)).toNat : Nat) : Int) = IntKind.i64.wrap ((c.toNat + 256 * n : Nat) : Int) := by
  show IntKind.i64.wrap (((BitVec.ofInt 64 (IntKind.i64.wrap (IntKind.i64.wrap (n : Int) * 256)) ||| BitVec.ofInt 64 (c.toNat : Int)).toNat : Nat) : Int) = _
  have hc := c.toNat_lt
  have e : (BitVec.ofInt 64 (IntKind.i64.wrap (IntKind.i64.wrap (n : Int) * 256)) ||| BitVec.ofInt 64 (c.toNat : Int)).toNat = (c.toNat + 256 * n) % 18446744073709551616 := by
    have e1 : (BitVec.ofInt 64 (IntKind.i64.wrap (IntKind.i64.wrap (n : Int) * 256))).toNat = (n % 72057594037927936) <<< 8 := by
      simp only [BitVec.toNat_ofInt, Nat.shiftLeft_eq, IntKind.wrap_i64]
      omega
    have e2 : (BitVec.ofInt 64 (c.toNat : Int)).toNat = c.toNat := by
      simp only [BitVec.toNat_ofInt]
      omega
    rw [BitVec.toNat_or, e1, e2, ← Nat.shiftLeft_add_eq_or_of_lt (by omega), Nat.shiftLeft_eq]
    omega
  rw [e, IntKind.wrap_i64, IntKind.wrap_i64]
  omega
theorem c_l1number (b : List UInt8) (hb : b.length ≤ 1048576) : Meets Try.prog 86 [rowB b] (fun r => r = .v (.int .i64 (IntKind.i64.wrap (leN b)))) := by
  have e1 : IntKind.i64.wrap ((b.length : Int) - 1) = (b.length : Int) - 1 := wrap_i64_of (by omega) (by omega)
  refine Meets.intro mixed (hint []) Try.func86 rfl (by decide) res_86 rty_86 (by kernel_rfl) ?_; 
  simp -dsimp -implicitDefEqProofs only [go_sem, Nat.reduceBEq, Nat.reduceAdd, Nat.reduceLeDiff, Nat.reduceSub, Int.reduceEq, e1]
  refine LoopE.cnt b.length (fun i s => s.env 0 = .rd .ent 5 1 (bytesA b) ∧ s.env 4 = .v (.int .i64 ((b.length : Int) - 1 - i)) ∧ s.env 3 = .v (.int .i64 (IntKind.i64.wrap (leN (b.drop (b.length - i)))))) ⟨by simp -dsimp -implicitDefEqProofs only [go_sem, Nat.reduceBEq, Nat.reduceAdd, Nat.reduceLeDiff, Nat.reduceSub, Int.reduceEq, initE], by simp -dsimp -implicitDefEqProofs only [go_sem, Nat.reduceBEq, Nat.reduceAdd, Nat.reduceLeDiff, Nat.reduceSub, Int.reduceEq] <;> simp, by simp -dsimp -implicitDefEqProofs only [go_sem, Nat.reduceBEq, Nat.reduceAdd, Nat.reduceLeDiff, Nat.reduceSub, Int.reduceEq] <;> simp [leN] <;> rfl⟩ ?_
  rintro i ⟨e, σ⟩ hi ⟨h0, h4, h3⟩ K hK
  simp only at h0 h4 h3
  simp -dsimp -implicitDefEqProofs only [go_sem, Nat.reduceBEq, Nat.reduceAdd, Nat.reduceLeDiff, Nat.reduceSub, Int.reduceEq, h0, h4, h3]
  refine ifB'.of (fun hlt => ?_) (fun hlt => ?_)
  · have hlt : i < b.length := by omega
    obtain ⟨j, hj⟩ : ∃ j : Nat, b.length - 1 - i = j := ⟨_, rfl⟩
    have hj1 : (b.length : Int) - 1 - i = (j : Nat) := by omega
    have hj2 : b.length - i = j + 1 := by omega
    have hj3 : j < b.length := by omega
    have e2 : IntKind.i64.wrap (IntKind.i64.wrap (IntKind.i64.wrap (leN (b.drop (j + 1)) : Int) * 256) + (b[j].toNat : Int)) = IntKind.i64.wrap (leN (b.drop j) : Int) := by
      rw [leN_drop hj3, wrap_step]
      congr 1
    have e3 : IntKind.i64.wrap ((j : Int) - 1) = (b.length : Int) - 1 - ((i + 1 : Nat) : Int) := by rw [wrap_i64_of (by omega) (by omega)]; omega
    have e5 : IntKind.i64.wrap (b[j].toNat : Int) = b[j].toNat := wrap_nat (by have := b[j].toNat_lt; omega)
    simp -dsimp -implicitDefEqProofs only [go_sem, Nat.reduceBEq, Nat.reduceAdd, Nat.reduceLeDiff, Nat.reduceSub, Int.reduceEq, h0, h4, h3, hj1, hj2, bytesA_at hj3, e5]
    repeat with_reducible refine ask.of (by omega) ?_
    refine hK _ hlt ?_
    simp -dsimp -implicitDefEqProofs only [go_sem, Nat.reduceBEq, Nat.reduceAdd, Nat.reduceLeDiff, Nat.reduceSub, Int.reduceEq, h0, h4, h3, e2, e3, show b.length - (i + 1) = j by omega]
  · obtain rfl : i = b.length := by omega
    simp -dsimp -implicitDefEqProofs only [go_sem, Nat.reduceBEq, Nat.reduceAdd, Nat.reduceLeDiff, Nat.reduceSub, Int.reduceEq, h0, h4, h3, show b.length - b.length = 0 by omega, List.drop_zero]
theorem c_low (b : List UInt8) (hb : b.length ≤ 1048576) : Meets Try.prog 72 [rowB b] (fun r => r = .v (.int .i64 (IntKind.i64.wrap (leN b)))) := by
  have e1 : IntKind.i64.wrap ((b.length : Int) - 1) = (b.length : Int) - 1 := wrap_i64_of (by omega) (by omega)
  refine Meets.intro mixed (hint []) Try.func72 rfl (by decide) res_72 rty_72 (by kernel_rfl) ?_; 
  simp -dsimp -implicitDefEqProofs only [go_sem, Nat.reduceBEq, Nat.reduceAdd, Nat.reduceLeDiff, Nat.reduceSub, Int.reduceEq, e1]
  refine LoopE.cnt b.length (fun i s => s.env 0 = .rd .ent 5 1 (bytesA b) ∧ s.env 4 = .v (.int .i64 ((b.length : Int) - 1 - i)) ∧ s.env 3 = .v (.int .i64 (IntKind.i64.wrap (leN (b.drop (b.length - i)))))) ⟨by simp -dsimp -implicitDefEqProofs only [go_sem, Nat.reduceBEq, Nat.reduceAdd, Nat.reduceLeDiff, Nat.reduceSub, Int.reduceEq, initE], by simp -dsimp -implicitDefEqProofs only [go_sem, Nat.reduceBEq, Nat.reduceAdd, Nat.reduceLeDiff, Nat.reduceSub, Int.reduceEq] <;> simp, by simp -dsimp -implicitDefEqProofs only [go_sem, Nat.reduceBEq, Nat.reduceAdd, Nat.reduceLeDiff, Nat.reduceSub, Int.reduceEq] <;> simp [leN] <;> rfl⟩ ?_
  rintro i ⟨e, σ⟩ hi ⟨h0, h4, h3⟩ K hK
  simp only at h0 h4 h3
  simp -dsimp -implicitDefEqProofs only [go_sem, Nat.reduceBEq, Nat.reduceAdd, Nat.reduceLeDiff, Nat.reduceSub, Int.reduceEq, h0, h4, h3]
  refine ifB'.of (fun hlt => ?_) (fun hlt => ?_)
  · have hlt : i < b.length := by omega
    obtain ⟨j, hj⟩ : ∃ j : Nat, b.length - 1 - i = j := ⟨_, rfl⟩
    have hj1 : (b.length : Int) - 1 - i = (j : Nat) := by omega
    have hj2 : b.length - i = j + 1 := by omega
    have hj3 : j < b.length := by omega
    have e3 : IntKind.i64.wrap ((j : Int) - 1) = (b.length : Int) - 1 - ((i + 1 : Nat) : Int) := by rw [wrap_i64_of (by omega) (by omega)]; omega
    have e5 : IntKind.i64.wrap (b[j].toNat : Int) = b[j].toNat := wrap_nat (by have := b[j].toNat_lt; omega)
    simp -dsimp -implicitDefEqProofs only [go_sem, Nat.reduceBEq, Nat.reduceAdd, Nat.reduceLeDiff, Nat.reduceSub, Int.reduceEq, h0, h4, h3, hj1, hj2, bytesA_at hj3, e5]
    repeat with_reducible refine ask.of (by omega) ?_
    refine hK _ hlt ?_
    simp -dsimp -implicitDefEqProofs only [go_sem, Nat.reduceBEq, Nat.reduceAdd, Nat.reduceLeDiff, Nat.reduceSub, Int.reduceEq, h0, h4, h3, or_byte, e3, show b.length - (i + 1) = j by omega, leN_drop hj3]
  · obtain rfl : i = b.length := by omega
    simp -dsimp -implicitDefEqProofs only [go_sem, Nat.reduceBEq, Nat.reduceAdd, Nat.reduceLeDiff, Nat.reduceSub, Int.reduceEq, h0, h4, h3, show b.length - b.length = 0 by omega, List.drop_zero]
end Go.Ev
set_option linter.unusedSimpArgs false
set_option linter.unusedVariables false
namespace Go.Ev
open Go Go.RowKit Go.Proofs
def chunk (b : List UInt8) (w i : Nat) : List UInt8 := (b.drop (w * i)).take w
theorem leN_snoc : ∀ (c : List UInt8) (x : UInt8), leN (c ++ [x]) = leN c + 256 ^ c.length * x.toNat
  | [], x => by simp [leN]
  | c :: cs, x => by
    rw [List.cons_append, leN, leN, leN_snoc cs x, List.length_cons, Nat.pow_succ, Nat.mul_add, Nat.mul_comm (256 ^ cs.length) 256, Nat.mul_assoc]; omega
end Go.Ev
set_option linter.unusedSimpArgs false
set_option linter.unusedVariables false
namespace Go.Ev
open Go Go.RowKit Go.Proofs
def uN (x : Int) : Nat := (x % 18446744073709551616).toNat
def leB (w : Nat) (x : Int) : List UInt8 := (List.range w).map fun j => UInt8.ofNat (uN x / 256 ^ j % 256)
theorem leB_length (w : Nat) (x : Int) : (leB w x).length = w := by simp [leB]
theorem leB_succ (w : Nat) (x : Int) : leB w x ++ [UInt8.ofNat (uN x / 256 ^ w % 256)] = leB (w + 1) x := by simp [leB, List.range_succ]
theorem wrap_u64_eq (x : Int) : IntKind.u64.wrap x = (uN x : Int) := by
  rw [IntKind.wrap_u64, uN]; omega
theorem uN_lt (x : Int) : uN x < 18446744073709551616 := by unfold uN; omega
theorem c_l1little (x : Int) (w : Nat) (hw : w ≤ 8) : Meets Try.prog 91 [.v (.int .i64 x), .v (.int .i64 w)] (fun r => r = rowB (leB w x)) := by
  refine Meets.intro mixed (hint [(6, 122)]) Try.func91 rfl (by decide) res_91 rty_91 (by kernel_rfl) ?_; 
  simp -dsimp -implicitDefEqProofs only [go_sem, Nat.reduceBEq, Nat.reduceAdd, Nat.reduceLeDiff, Nat.reduceSub, Int.reduceEq]
  refine LoopE.cnt w (fun i s => s.env 1 = .v (.int .i64 w) ∧ s.env 5 = .v (.int .u64 ((uN x / 256 ^ i : Nat) : Int)) ∧ s.env 7 = .v (.int .i64 i) ∧ s.env 6 = .ref [6] ∧ s.σ [6] = some (.row 5 1 (bytesA (leB i x)))) ⟨by simp -dsimp -implicitDefEqProofs only [go_sem, Nat.reduceBEq, Nat.reduceAdd, Nat.reduceLeDiff, Nat.reduceSub, Int.reduceEq, initE], by simp -dsimp -implicitDefEqProofs only [go_sem, Nat.reduceBEq, Nat.reduceAdd, Nat.reduceLeDiff, Nat.reduceSub, Int.reduceEq, wrap_u64_eq] <;> simp, by simp -dsimp -implicitDefEqProofs only [go_sem, Nat.reduceBEq, Nat.reduceAdd, Nat.reduceLeDiff, Nat.reduceSub, Int.reduceEq] <;> simp, by simp -dsimp -implicitDefEqProofs only [go_sem, Nat.reduceBEq, Nat.reduceAdd, Nat.reduceLeDiff, Nat.reduceSub, Int.reduceEq], by simp -dsimp -implicitDefEqProofs only [go_sem, Nat.reduceBEq, Nat.reduceAdd, Nat.reduceLeDiff, Nat.reduceSub, Int.reduceEq]; rfl⟩ ?_
  rintro i ⟨e, σ⟩ hi ⟨h1, h5, h7, h6, hs⟩ K hK
  simp only at h1 h5 h7 h6 hs
  simp -dsimp -implicitDefEqProofs only [go_sem, Nat.reduceBEq, Nat.reduceAdd, Nat.reduceLeDiff, Nat.reduceSub, Int.reduceEq, h1, h5, h7, h6, hs]
  refine ifB'.of (fun hlt => ?_) (fun hlt => ?_)
  · have hlt : i < w := by omega
    have hu := uN_lt x
    have hu2 : uN x / 256 ^ i ≤ uN x := Nat.div_le_self _ _
    have e1 : ((uN x / 256 ^ i : Nat) : Int).tmod 256 = ((uN x / 256 ^ i % 256 : Nat) : Int) := rfl
    have e2 : IntKind.u64.wrap (((uN x / 256 ^ i : Nat) : Int).tdiv 256) = ((uN x / 256 ^ (i + 1) : Nat) : Int) := by
      rw [Nat.pow_succ, ← Nat.div_div_eq_div_mul]
      generalize uN x / 256 ^ i = y at *
      rw [IntKind.wrap_u64, Int.tdiv_eq_ediv_of_nonneg (by omega)]; omega
    simp -dsimp -implicitDefEqProofs only [go_sem, Nat.reduceBEq, Nat.reduceAdd, Nat.reduceLeDiff, Nat.reduceSub, Int.reduceEq, h1, h5, h7, h6, hs, e1, e2, u8_of_nat, leB_length]
    repeat with_reducible refine ask.of (by omega) ?_
    refine hK _ hlt ?_
    simp -dsimp -implicitDefEqProofs only [go_sem, Nat.reduceBEq, Nat.reduceAdd, Nat.reduceLeDiff, Nat.reduceSub, Int.reduceEq, h1, h5, h7, h6, hs, wrap_succ (show i < 4611686018427387904 by omega), e2, leB_succ]
  · obtain rfl : i = w := by omega
    simp -dsimp -implicitDefEqProofs only [go_sem, Nat.reduceBEq, Nat.reduceAdd, Nat.reduceLeDiff, Nat.reduceSub, Int.reduceEq, h1, h5, h7, h6, hs]
end Go.Ev
set_option linter.unusedSimpArgs false
set_option linter.unusedVariables false
namespace Go.Ev
open Go Go.RowKit Go.Proofs
theorem u8_byte (x : Int) {j : Nat} (hj : j < 8) : IntKind.u8.wrap (x / 256 ^ j) = ((UInt8.ofNat (uN x / 256 ^ j % 256)).toNat : Int) := by
  have e : IntKind.u8.wrap (x / 256 ^ j) = x / 256 ^ j % 256 := by
    simp [IntKind.wrap, IntKind.bits, IntKind.signed]
  have e2 : ((UInt8.ofNat (uN x / 256 ^ j % 256)).toNat : Int) = ((uN x / 256 ^ j % 256 : Nat) : Int) := by simp
  rw [e, e2, uN]
  match j, hj with
  | 0, _ => simp only [Nat.pow_zero, Int.pow_zero, Nat.div_one, Int.ediv_one]; omega
  | 1, _ => simp only [Nat.reducePow, Int.reducePow]; omega
  | 2, _ => simp only [Nat.reducePow, Int.reducePow]; omega
  | 3, _ => simp only [Nat.reducePow, Int.reducePow]; omega
  | 4, _ => simp only [Nat.reducePow, Int.reducePow]; omega
  | 5, _ => simp only [Nat.reducePow, Int.reducePow]; omega
  | 6, _ => simp only [Nat.reducePow, Int.reducePow]; omega
  | 7, _ => simp only [Nat.reducePow, Int.reducePow]; omega
end Go.Ev
set_option linter.unusedSimpArgs false
set_option linter.unusedVariables false
namespace Go.Ev
open Go Go.RowKit Go.Proofs
theorem bleR (n : Nat) : Nat.ble n n = true := by simp
structure Pk where
  a : Int
  b : Int
  c : Int
  d : Int
  e : Bool
  f : List UInt8
def pkC (p : Pk) : List AV := [.v (.int .i64 p.a), .v (.int .i64 p.b), .v (.int .i64 p.c), .v (.int .i64 p.d), .v (.bool p.e), .row 5 1 (bytesA p.f)]
theorem c_toPacket (p : Pk) (hb : p.f.length ≤ 1048576) : Meets Try.prog 38 [.agg (pkC p)] (fun r => r = .agg (pkC p)) := by
  refine Meets.intro mixed (hint []) Try.func38 rfl (by decide) res_38 rty_38 (by kernel_rfl) ?_; 
  simp -dsimp -implicitDefEqProofs only [go_sem, Nat.reduceBEq, Nat.reduceAdd, Nat.reduceLeDiff, Nat.reduceSub, Int.reduceEq, pkC]
  repeat with_reducible refine ask.of (by omega) ?_
  refine CallE.of (c_toByteS p.f hb) (by rintro r rfl; (repeat' first | exact trivial | exact pure_rowB _ | exact pure_rowO _ | exact pure_rowI _ | exact pure_rowBB _ | exact pure_rowPk _ _ | exact pure_rowSn _ _ | exact pure_rowFd _ _ | exact pure_rowBBB _ | exact pure_rowCl _ _ | exact pure_rowTb _ _ _ | refine And.intro ?_ ?_)) (by simp -dsimp -implicitDefEqProofs only [go_sem, Nat.reduceBEq, Nat.reduceAdd, Nat.reduceLeDiff, Nat.reduceSub, Int.reduceEq]) ?_
  rintro r rfl
  simp -dsimp -implicitDefEqProofs only [go_sem, Nat.reduceBEq, Nat.reduceAdd, Nat.reduceLeDiff, Nat.reduceSub, Int.reduceEq]
  repeat with_reducible refine ask.of (by omega) ?_
  simp -dsimp -implicitDefEqProofs only [go_sem, Nat.reduceBEq, Nat.reduceAdd, Nat.reduceLeDiff, Nat.reduceSub, Int.reduceEq, bleR]
def okPk (p : Pk) : Prop := 1 ≤ p.a ∧ p.a ≤ 4 ∧ 1 ≤ p.b ∧ p.b ≤ 1000000000 ∧ 0 ≤ p.c ∧ p.c ≤ 1000000000000 ∧ 0 ≤ p.d ∧ p.d ≤ 1000000000 ∧
  (¬ p.a = 1 ∨ p.d = 0 ∧ p.c < 1000000000000 ∧ 1 ≤ p.f.length ∧ p.f.length ≤ 100) ∧ (p.a = 1 ∨ p.e.toNat = 0 ∧ p.f.length = 0) ∧ (¬ p.a = 3 ∨ p.c = 0) ∧ (¬ p.a = 4 ∨ p.c = 0 ∧ p.d = 0)
instance (p : Pk) : Decidable (okPk p) := by unfold okPk; infer_instance
def okB (p : Pk) : Bool := decide (okPk p)
theorem leaf_f {p : Pk} (h : ¬ okPk p) : false = okB p := by rw [okB, decide_eq_false h]
theorem leaf_t {p : Pk} (h : okPk p) : true = okB p := by rw [okB, decide_eq_true h]
theorem leaf_d {p : Pk} {q : Prop} [Decidable q] (h : q ↔ okPk p) : decide q = okB p := by rw [okB, decide_eq_decide.2 h]
set_option maxHeartbeats 2000000 in
theorem c_l5valid (p : Pk) (hb : p.f.length ≤ 1048576) : Meets Try.prog 69 [.agg (pkC p)] (fun r => r = .v (.bool (okB p))) := by
  refine Meets.intro mixed (hint []) Try.func69 rfl (by decide) res_69 rty_69 (by kernel_rfl) ?_; 
  simp -dsimp -implicitDefEqProofs only [go_sem, Nat.reduceBEq, Nat.reduceAdd, Nat.reduceLeDiff, Nat.reduceSub, Int.reduceEq, pkC]
  cases he : p.e <;> (repeat' (first | with_reducible refine ifB'.of (fun h => ?_) (fun h => ?_) | with_reducible refine ask.of (by omega) ?_ | (with_reducible refine leaf_f ?_; unfold okPk; simp only [he, Bool.toNat_false, Bool.toNat_true, true_and, false_and, or_false, or_true, and_true]; omega) | (with_reducible refine leaf_t ?_; unfold okPk; simp only [he, Bool.toNat_false, Bool.toNat_true, true_and, false_and, or_false, or_true, and_true]; omega) | (with_reducible refine leaf_d ?_; unfold okPk; simp only [he, Bool.toNat_false, Bool.toNat_true, true_and, false_and, or_false, or_true, and_true]; omega) | simp -dsimp -implicitDefEqProofs only [go_sem, Nat.reduceBEq, Nat.reduceAdd, Nat.reduceLeDiff, Nat.reduceSub, Int.reduceEq, he, decide_true]))
set_option maxHeartbeats 2000000 in
theorem c_packetOk (p : Pk) (hb : p.f.length ≤ 1048576) : Meets Try.prog 93 [.agg (pkC p)] (fun r => r = .v (.bool (okB p))) := by
  refine Meets.intro mixed (hint []) Try.func93 rfl (by decide) res_93 rty_93 (by kernel_rfl) ?_; 
  simp -dsimp -implicitDefEqProofs only [go_sem, Nat.reduceBEq, Nat.reduceAdd, Nat.reduceLeDiff, Nat.reduceSub, Int.reduceEq, pkC]
  cases he : p.e <;> (repeat' (first | with_reducible refine ifB'.of (fun h => ?_) (fun h => ?_) | with_reducible refine ask.of (by omega) ?_ | (with_reducible refine leaf_f ?_; unfold okPk; simp only [he, Bool.toNat_false, Bool.toNat_true, true_and, false_and, or_false, or_true, and_true]; omega) | (with_reducible refine leaf_t ?_; unfold okPk; simp only [he, Bool.toNat_false, Bool.toNat_true, true_and, false_and, or_false, or_true, and_true]; omega) | (with_reducible refine leaf_d ?_; unfold okPk; simp only [he, Bool.toNat_false, Bool.toNat_true, true_and, false_and, or_false, or_true, and_true]; omega) | simp -dsimp -implicitDefEqProofs only [go_sem, Nat.reduceBEq, Nat.reduceAdd, Nat.reduceLeDiff, Nat.reduceSub, Int.reduceEq, he, decide_true]))
end Go.Ev
set_option linter.unusedSimpArgs false
set_option linter.unusedVariables false
namespace Go.Ev
open Go Go.RowKit Go.Proofs
theorem wrap_8i {i : Nat} (h : i ≤ 8) : IntKind.i64.wrap (8 * (i : Int)) = ((8 * i : Nat) : Int) := by rw [wrap_i64_of (by omega) (by omega)]; omega
theorem shr_8i (x : Int) {i : Nat} (h : i < 8) : x.fdiv (2 ^ min (8 * i) 64) = x / 256 ^ i := by
  rw [Nat.min_eq_left (by omega), show (2 : Int) ^ (8 * i) = 256 ^ i by rw [Int.pow_mul]; rfl, Int.fdiv_eq_ediv_of_nonneg _ (Int.le_of_lt (Int.pow_pos (by decide)))]
theorem c_number (x : Int) (w : Nat) (hw : w ≤ 8) : Meets Try.prog 81 [.v (.int .i64 x), .v (.int .i64 w)] (fun r => r = rowB (leB w x)) := by
  refine Meets.intro mixed (hint []) Try.func81 rfl (by decide) res_81 rty_81 (by kernel_rfl) ?_; 
  simp -dsimp -implicitDefEqProofs only [go_sem, Nat.reduceBEq, Nat.reduceAdd, Nat.reduceLeDiff, Nat.reduceSub, Int.reduceEq]
  refine ask.of (by omega) ?_
  refine LoopE.cnt w (fun i s => s.env 0 = .v (.int .i64 x) ∧ s.env 5 = .ref [8] ∧ s.env 10 = .v (.int .i64 w) ∧ s.env 11 = .v (.int .i64 i) ∧ s.σ [8] = some (.row 5 1 (bytesA (leB i x ++ List.replicate (w - i) 0)))) ⟨by simp -dsimp -implicitDefEqProofs only [go_sem, Nat.reduceBEq, Nat.reduceAdd, Nat.reduceLeDiff, Nat.reduceSub, Int.reduceEq, initE], by simp -dsimp -implicitDefEqProofs only [go_sem, Nat.reduceBEq, Nat.reduceAdd, Nat.reduceLeDiff, Nat.reduceSub, Int.reduceEq], by simp -dsimp -implicitDefEqProofs only [go_sem, Nat.reduceBEq, Nat.reduceAdd, Nat.reduceLeDiff, Nat.reduceSub, Int.reduceEq] <;> simp, by simp -dsimp -implicitDefEqProofs only [go_sem, Nat.reduceBEq, Nat.reduceAdd, Nat.reduceLeDiff, Nat.reduceSub, Int.reduceEq] <;> simp, by simp -dsimp -implicitDefEqProofs only [go_sem, Nat.reduceBEq, Nat.reduceAdd, Nat.reduceLeDiff, Nat.reduceSub, Int.reduceEq] <;> simp [leB]⟩ ?_
  rintro i ⟨e, σ⟩ hi ⟨h0, h5, h10, h11, hs⟩ K hK
  simp only at h0 h5 h10 h11 hs
  simp -dsimp -implicitDefEqProofs only [go_sem, Nat.reduceBEq, Nat.reduceAdd, Nat.reduceLeDiff, Nat.reduceSub, Int.reduceEq, h0, h5, h10, h11, hs]
  refine ifB'.of (fun hlt => ?_) (fun hlt => ?_)
  · have hlt : i < w := by omega
    have hl : (leB i x ++ List.replicate (w - i) 0).length = w := by simp [leB_length]; omega
    simp -dsimp -implicitDefEqProofs only [go_sem, Nat.reduceBEq, Nat.reduceAdd, Nat.reduceLeDiff, Nat.reduceSub, Int.reduceEq, h0, h5, h10, h11, hs, wrap_8i (show i ≤ 8 by omega), shr_8i x (show i < 8 by omega), u8_byte x (show i < 8 by omega), hl]
    repeat (first | with_reducible refine ask.of (by omega) ?_ | simp -dsimp -implicitDefEqProofs only [go_sem, Nat.reduceBEq, Nat.reduceAdd, Nat.reduceLeDiff, Nat.reduceSub, Int.reduceEq, h0, h5, h10, h11, hs, wrap_8i (show i ≤ 8 by omega), shr_8i x (show i < 8 by omega), u8_byte x (show i < 8 by omega), hl, bytesA_at (show i < (leB i x ++ List.replicate (w - i) (0 : UInt8)).length by omega)])
    refine hK _ hlt ?_
    simp -dsimp -implicitDefEqProofs only [go_sem, Nat.reduceBEq, Nat.reduceAdd, Nat.reduceLeDiff, Nat.reduceSub, Int.reduceEq, h0, h5, h10, h11, hs, wrap_succ (show i < 4611686018427387904 by omega)]
    refine congrArg (fun l => some (OB.row 5 1 (bytesA l))) ?_
    have e : w - i = (w - (i + 1)) + 1 := by omega
    rw [e, List.replicate_succ, List.set_append_right _ _ (by rw [leB_length]; exact Nat.le_refl _), leB_length, Nat.sub_self, List.set_cons_zero, ← leB_succ, List.append_assoc]
    rfl
  · have : i = w := by omega
    subst this
    simp -dsimp -implicitDefEqProofs only [go_sem, Nat.reduceBEq, Nat.reduceAdd, Nat.reduceLeDiff, Nat.reduceSub, Int.reduceEq, h0, h5, h10, h11, hs]
    simp
theorem c_growB (n : Nat) (hn : n ≤ 1099511627776) : Meets Try.prog 171 [.v (.slice none 0 0), .v (.int .i64 n)] (fun r => r = rowB []) := by
  refine Meets.intro mixed (hint [(25, 1)]) Try.func171 rfl (by decide) res_171 rty_171 (by kernel_rfl) ?_; 
  simp -dsimp -implicitDefEqProofs only [go_sem, Nat.reduceBEq, Nat.reduceAdd, Nat.reduceLeDiff, Nat.reduceSub, Int.reduceEq, initE]
  with_reducible refine ifB'.no (by omega) ?_
  have e : IntKind.i64.wrap ((n : Int) - IntKind.i64.wrap 0) = n := by rw [show IntKind.i64.wrap 0 = 0 from rfl, wrap_i64_of (by omega) (by omega)]; omega
  simp -dsimp -implicitDefEqProofs only [go_sem, Nat.reduceBEq, Nat.reduceAdd, Nat.reduceLeDiff, Nat.reduceSub, Int.reduceEq, e, show IntKind.i64.wrap (0 - 0) = 0 from rfl, Int.sub_zero, wrap_nat (show n ≤ 9223372036854775807 by omega)]
  refine ifB'.of (fun h => ?_) (fun h => ?_)
  · simp -dsimp -implicitDefEqProofs only [go_sem, Nat.reduceBEq, Nat.reduceAdd, Nat.reduceLeDiff, Nat.reduceSub, Int.reduceEq, e]
    repeat (first | with_reducible refine ask.of (by omega) ?_ | simp -dsimp -implicitDefEqProofs only [go_sem, Nat.reduceBEq, Nat.reduceAdd, Nat.reduceLeDiff, Nat.reduceSub, Int.reduceEq, e, Int.toNat_zero, List.take_zero, List.drop_nil])
  · simp -dsimp -implicitDefEqProofs only [go_sem, Nat.reduceBEq, Nat.reduceAdd, Nat.reduceLeDiff, Nat.reduceSub, Int.reduceEq, e]
    rfl
theorem flat_take {xs : List (List UInt8)} {i : Nat} (h : i < xs.length) : (xs.take i).flatten ++ xs[i] = (xs.take (i + 1)).flatten := by
  rw [List.take_succ_eq_append_getElem h, List.flatten_append, List.flatten_singleton]
theorem flat_len (xs : List (List UInt8)) : xs.flatten.length = wBB xs := by
  induction xs with
  | nil => rfl
  | cons x xs ih => rw [List.flatten_cons, List.length_append, ih]; simp [wBB, szL]
theorem c_concatB (xs : List (List UInt8)) (hx : xs.length + wBB xs ≤ 1099511627776) : Meets Try.prog 149 [rowBB xs] (fun r => r = rowB xs.flatten) := by
  refine Meets.intro mixed (hint []) Try.func149 rfl (by decide) res_149 rty_149 (by kernel_rfl) ?_; 
  simp -dsimp -implicitDefEqProofs only [go_sem, Nat.reduceBEq, Nat.reduceAdd, Nat.reduceLeDiff, Nat.reduceSub, Int.reduceEq]
  refine LoopE.cnt xs.length (fun i s => s.env 0 = .rd .ent 22 1 (ra byC xs) ∧ s.env 3 = .v (.int .i64 (wBB (xs.take i) : Nat)) ∧ s.env 9 = .rd .ent 22 1 (ra byC xs) ∧ s.env 10 = .v (.int .i64 xs.length) ∧ s.env 11 = .v (.int .i64 i)) ⟨by simp -dsimp -implicitDefEqProofs only [go_sem, Nat.reduceBEq, Nat.reduceAdd, Nat.reduceLeDiff, Nat.reduceSub, Int.reduceEq, initE], by simp -dsimp -implicitDefEqProofs only [go_sem, Nat.reduceBEq, Nat.reduceAdd, Nat.reduceLeDiff, Nat.reduceSub, Int.reduceEq] <;> rfl, by simp -dsimp -implicitDefEqProofs only [go_sem, Nat.reduceBEq, Nat.reduceAdd, Nat.reduceLeDiff, Nat.reduceSub, Int.reduceEq, initE], by simp -dsimp -implicitDefEqProofs only [go_sem, Nat.reduceBEq, Nat.reduceAdd, Nat.reduceLeDiff, Nat.reduceSub, Int.reduceEq, initE], by simp -dsimp -implicitDefEqProofs only [go_sem, Nat.reduceBEq, Nat.reduceAdd, Nat.reduceLeDiff, Nat.reduceSub, Int.reduceEq]⟩ ?_
  rintro i ⟨e, σ⟩ hi ⟨h0, h3, h9, h10, h11⟩ K hK
  simp only at h0 h3 h9 h10 h11
  simp -dsimp -implicitDefEqProofs only [go_sem, Nat.reduceBEq, Nat.reduceAdd, Nat.reduceLeDiff, Nat.reduceSub, Int.reduceEq, h0, h3, h9, h10, h11]
  refine ifB'.of (fun hlt => ?_) (fun hlt => ?_)
  · have hlt : i < xs.length := by omega
    have hs : wBB (xs.take (i + 1)) = wBB (xs.take i) + xs[i].length := szL_take_succ List.length hlt
    have hsl : wBB (xs.take (i + 1)) ≤ wBB xs := szL_take_le List.length xs (i + 1)
    have e1 : IntKind.i64.wrap ((wBB (xs.take i) : Int) + xs[i].length) = (wBB (xs.take (i + 1)) : Nat) := by rw [wrap_i64_of (by omega) (by omega), hs]; omega
    simp -dsimp -implicitDefEqProofs only [go_sem, Nat.reduceBEq, Nat.reduceAdd, Nat.reduceLeDiff, Nat.reduceSub, Int.reduceEq, h0, h3, h9, h10, h11, byA_at hlt, e1]
    repeat (first | with_reducible refine ask.of (by omega) ?_ | simp -dsimp -implicitDefEqProofs only [go_sem, Nat.reduceBEq, Nat.reduceAdd, Nat.reduceLeDiff, Nat.reduceSub, Int.reduceEq, h0, h3, h9, h10, h11, byA_at hlt, e1])
    with_reducible refine ifB'.no (by omega) ?_
    simp -dsimp -implicitDefEqProofs only [go_sem, Nat.reduceBEq, Nat.reduceAdd, Nat.reduceLeDiff, Nat.reduceSub, Int.reduceEq, h0, h3, h9, h10, h11]
    refine hK _ hlt ?_
    simp -dsimp -implicitDefEqProofs only [go_sem, Nat.reduceBEq, Nat.reduceAdd, Nat.reduceLeDiff, Nat.reduceSub, Int.reduceEq, h0, h3, h9, h10, h11, wrap_succ (show i < 4611686018427387904 by omega)]
  · have : i = xs.length := by omega
    subst this
    have hw : wBB xs ≤ 1099511627776 := by omega
    rw [List.take_length] at h3
    simp -dsimp -implicitDefEqProofs only [go_sem, Nat.reduceBEq, Nat.reduceAdd, Nat.reduceLeDiff, Nat.reduceSub, Int.reduceEq, h0, h3, h9, h10, h11]
    refine CallE.lend (c_growB (wBB xs) hw) (by simp -dsimp -implicitDefEqProofs only [go_sem, Nat.reduceBEq, Nat.reduceAdd, Nat.reduceLeDiff, Nat.reduceSub, Int.reduceEq, h0, h3, h9, h10, h11]) ?_
    rintro r rfl
    simp -dsimp -implicitDefEqProofs only [go_sem, Nat.reduceBEq, Nat.reduceAdd, Nat.reduceLeDiff, Nat.reduceSub, Int.reduceEq, h0, h3, h9, h10, h11]
    refine LoopE.cnt xs.length (fun i s => s.env 6 = .ref [24] ∧ s.env 25 = .rd .ent 22 1 (ra byC xs) ∧ s.env 26 = .v (.int .i64 xs.length) ∧ s.env 27 = .v (.int .i64 i) ∧ s.σ [24] = some (.row 5 1 (bytesA (xs.take i).flatten))) ⟨by simp -dsimp -implicitDefEqProofs only [go_sem, Nat.reduceBEq, Nat.reduceAdd, Nat.reduceLeDiff, Nat.reduceSub, Int.reduceEq, h0, h3, h9, h10, h11], by simp -dsimp -implicitDefEqProofs only [go_sem, Nat.reduceBEq, Nat.reduceAdd, Nat.reduceLeDiff, Nat.reduceSub, Int.reduceEq, h0, h3, h9, h10, h11], by simp -dsimp -implicitDefEqProofs only [go_sem, Nat.reduceBEq, Nat.reduceAdd, Nat.reduceLeDiff, Nat.reduceSub, Int.reduceEq, h0, h3, h9, h10, h11], by simp -dsimp -implicitDefEqProofs only [go_sem, Nat.reduceBEq, Nat.reduceAdd, Nat.reduceLeDiff, Nat.reduceSub, Int.reduceEq, h0, h3, h9, h10, h11], by simp -dsimp -implicitDefEqProofs only [go_sem, Nat.reduceBEq, Nat.reduceAdd, Nat.reduceLeDiff, Nat.reduceSub, Int.reduceEq, h0, h3, h9, h10, h11] <;> rfl⟩ ?_
    rintro i ⟨e, σ⟩ hi ⟨h6, h25, h26, h27, hs⟩ K' hK'
    simp only at h6 h25 h26 h27 hs
    simp -dsimp -implicitDefEqProofs only [go_sem, Nat.reduceBEq, Nat.reduceAdd, Nat.reduceLeDiff, Nat.reduceSub, Int.reduceEq, h6, h25, h26, h27, hs]
    refine ifB'.of (fun hlt => ?_) (fun hlt => ?_)
    · have hlt : i < xs.length := by omega
      have hsl : wBB (xs.take (i + 1)) ≤ wBB xs := szL_take_le List.length xs (i + 1)
      have hfl : (xs.take i).flatten.length + xs[i].length = wBB (xs.take (i + 1)) := by rw [← flat_len, ← flat_take hlt, List.length_append]
      simp -dsimp -implicitDefEqProofs only [go_sem, Nat.reduceBEq, Nat.reduceAdd, Nat.reduceLeDiff, Nat.reduceSub, Int.reduceEq, h6, h25, h26, h27, hs, byA_at hlt]
      repeat (first | with_reducible refine ask.of (by omega) ?_ | simp -dsimp -implicitDefEqProofs only [go_sem, Nat.reduceBEq, Nat.reduceAdd, Nat.reduceLeDiff, Nat.reduceSub, Int.reduceEq, h6, h25, h26, h27, hs, byA_at hlt])
      refine hK' _ hlt ?_
      simp -dsimp -implicitDefEqProofs only [go_sem, Nat.reduceBEq, Nat.reduceAdd, Nat.reduceLeDiff, Nat.reduceSub, Int.reduceEq, h6, h25, h26, h27, hs, wrap_succ (show i < 4611686018427387904 by omega), flat_take hlt]
    · have : i = xs.length := by omega
      subst this
      simp -dsimp -implicitDefEqProofs only [go_sem, Nat.reduceBEq, Nat.reduceAdd, Nat.reduceLeDiff, Nat.reduceSub, Int.reduceEq, h6, h25, h26, h27, hs, List.take_length]
def sumB (xs : List (List UInt8)) : List UInt8 := xs.flatten ++ leB 4 (crcB xs.flatten).toNat
theorem wrap_u32i (c : UInt32) : IntKind.i64.wrap (c.toNat : Int) = (c.toNat : Int) := by have := c.toNat_lt; rw [wrap_i64_of (by omega) (by omega)]
theorem c_summed (xs : List (List UInt8)) (hx : xs.length + wBB xs ≤ 1048576) : Meets Try.prog 82 [rowBB xs] (fun r => r = rowB (sumB xs)) := by
  refine Meets.intro mixed (hint []) Try.func82 rfl (by decide) res_82 rty_82 (by kernel_rfl) ?_; 
  simp -dsimp -implicitDefEqProofs only [go_sem, Nat.reduceBEq, Nat.reduceAdd, Nat.reduceLeDiff, Nat.reduceSub, Int.reduceEq]
  refine CallE.of (c_concatB xs (by omega)) (by rintro r rfl; (repeat' first | exact trivial | exact pure_rowB _ | exact pure_rowO _ | exact pure_rowI _ | exact pure_rowBB _ | exact pure_rowPk _ _ | exact pure_rowSn _ _ | exact pure_rowFd _ _ | exact pure_rowBBB _ | exact pure_rowCl _ _ | exact pure_rowTb _ _ _ | refine And.intro ?_ ?_)) (by simp -dsimp -implicitDefEqProofs only [go_sem, Nat.reduceBEq, Nat.reduceAdd, Nat.reduceLeDiff, Nat.reduceSub, Int.reduceEq]) ?_
  rintro r rfl
  simp -dsimp -implicitDefEqProofs only [go_sem, Nat.reduceBEq, Nat.reduceAdd, Nat.reduceLeDiff, Nat.reduceSub, Int.reduceEq]
  have hl : xs.flatten.length ≤ 1048576 := by rw [flat_len]; omega
  refine CallE.of (c_implCrc32 xs.flatten hl) (by rintro r rfl; (repeat' first | exact trivial | exact pure_rowB _ | exact pure_rowO _ | exact pure_rowI _ | exact pure_rowBB _ | exact pure_rowPk _ _ | exact pure_rowSn _ _ | exact pure_rowFd _ _ | exact pure_rowBBB _ | exact pure_rowCl _ _ | exact pure_rowTb _ _ _ | refine And.intro ?_ ?_)) (by simp -dsimp -implicitDefEqProofs only [go_sem, Nat.reduceBEq, Nat.reduceAdd, Nat.reduceLeDiff, Nat.reduceSub, Int.reduceEq, wrap_u32i]) ?_
  rintro r rfl
  simp -dsimp -implicitDefEqProofs only [go_sem, Nat.reduceBEq, Nat.reduceAdd, Nat.reduceLeDiff, Nat.reduceSub, Int.reduceEq, wrap_u32i]
  refine CallE.of (c_number ((crcB xs.flatten).toNat) 4 (by omega)) (by rintro r rfl; (repeat' first | exact trivial | exact pure_rowB _ | exact pure_rowO _ | exact pure_rowI _ | exact pure_rowBB _ | exact pure_rowPk _ _ | exact pure_rowSn _ _ | exact pure_rowFd _ _ | exact pure_rowBBB _ | exact pure_rowCl _ _ | exact pure_rowTb _ _ _ | refine And.intro ?_ ?_)) (by simp -dsimp -implicitDefEqProofs only [go_sem, Nat.reduceBEq, Nat.reduceAdd, Nat.reduceLeDiff, Nat.reduceSub, Int.reduceEq, show ((4 : Nat) : Int) = 4 from rfl, wrap_u32i]) ?_
  rintro r rfl
  simp -dsimp -implicitDefEqProofs only [go_sem, Nat.reduceBEq, Nat.reduceAdd, Nat.reduceLeDiff, Nat.reduceSub, Int.reduceEq, show ((4 : Nat) : Int) = 4 from rfl, wrap_u32i]
  repeat (first | with_reducible refine ask.of (by simp only [leB_length]; omega) ?_ | simp -dsimp -implicitDefEqProofs only [go_sem, Nat.reduceBEq, Nat.reduceAdd, Nat.reduceLeDiff, Nat.reduceSub, Int.reduceEq, leB_length])
  rfl
end Go.Ev
set_option linter.unusedSimpArgs false
set_option linter.unusedVariables false
namespace Go.Ev
open Go Go.RowKit Go.Proofs
def lastB : Bool → UInt8
  | true => 1
  | false => 0
theorem lastB_t : lastB true = 1 := rfl
theorem lastB_f : lastB false = 0 := rfl
theorem bytesA_lit0 : [[AV.v (.int .u8 0)]] = bytesA [0] := rfl
theorem bytesA_lit1 : [[AV.v (.int .u8 1)]] = bytesA [1] := rfl
def pkParts (p : Pk) : List (List UInt8) := [[67, UInt8.ofNat p.a.toNat], leB 4 p.b, leB 8 p.c, leB 4 p.d, [lastB p.e], leB 2 p.f.length, p.f]
def encP (p : Pk) : List UInt8 := if okB p = true then sumB (pkParts p) else []
theorem pkParts_w (p : Pk) : wBB (pkParts p) = 21 + p.f.length := by simp [pkParts, wBB, szL, leB_length]; omega
theorem sumB_length (xs : List (List UInt8)) : (sumB xs).length = wBB xs + 4 := by rw [sumB, List.length_append, flat_len, leB_length]
theorem encP_le (p : Pk) : (encP p).length ≤ 25 + p.f.length := by
  unfold encP
  split
  · rw [sumB_length, pkParts_w]; omega
  · simp
theorem kindB {p : Pk} (h : okB p = true) : IntKind.u8.wrap p.a = ((UInt8.ofNat p.a.toNat).toNat : Int) := by
  have h : okPk p := of_decide_eq_true h
  have h1 := h.1
  have h2 := h.2.1
  obtain ⟨n, hn⟩ := Int.eq_ofNat_of_zero_le (show 0 ≤ p.a by omega)
  rw [hn]; exact u8_of_nat n
theorem bytes67 (b : UInt8) : [[AV.v (.int .u8 67)], [AV.v (.int .u8 (b.toNat : Int))]] = bytesA [67, b] := rfl
theorem c_specEncodePacket (p : Pk) (hb : p.f.length ≤ 1048576) : Meets Try.prog 26 [.agg (pkC p)] (fun r => r = rowB (encP p)) := by
  refine Meets.intro mixed (hint []) Try.func26 rfl (by decide) res_26 rty_26 (by kernel_rfl) ?_; 
  simp -dsimp -implicitDefEqProofs only [go_sem, Nat.reduceBEq, Nat.reduceAdd, Nat.reduceLeDiff, Nat.reduceSub, Int.reduceEq, pkC]
  repeat (first | with_reducible refine ask.of (by omega) ?_ | simp -dsimp -implicitDefEqProofs only [go_sem, Nat.reduceBEq, Nat.reduceAdd, Nat.reduceLeDiff, Nat.reduceSub, Int.reduceEq, bleR])
  refine CallE.of (c_l5valid p hb) (by rintro r rfl; (repeat' first | exact trivial | exact pure_rowB _ | exact pure_rowO _ | exact pure_rowI _ | exact pure_rowBB _ | exact pure_rowPk _ _ | exact pure_rowSn _ _ | exact pure_rowFd _ _ | exact pure_rowBBB _ | exact pure_rowCl _ _ | exact pure_rowTb _ _ _ | refine And.intro ?_ ?_)) (by simp -dsimp -implicitDefEqProofs only [go_sem, Nat.reduceBEq, Nat.reduceAdd, Nat.reduceLeDiff, Nat.reduceSub, Int.reduceEq, pkC]) ?_
  rintro r rfl
  simp -dsimp -implicitDefEqProofs only [go_sem, Nat.reduceBEq, Nat.reduceAdd, Nat.reduceLeDiff, Nat.reduceSub, Int.reduceEq, pkC]
  cases h : okB p
  · simp -dsimp -implicitDefEqProofs only [go_sem, Nat.reduceBEq, Nat.reduceAdd, Nat.reduceLeDiff, Nat.reduceSub, Int.reduceEq, h, Bool.not_false]
    rw [encP, h]; rfl
  have hk := kindB h
  have hl : 1 ≤ 100 := by decide
  have hf : p.f.length ≤ 100 := by
    have h : okPk p := of_decide_eq_true h
    unfold okPk at h
    omega
  have e : encP p = sumB (pkParts p) := by rw [encP, h]; rfl
  rw [e]
  simp -dsimp -implicitDefEqProofs only [go_sem, Nat.reduceBEq, Nat.reduceAdd, Nat.reduceLeDiff, Nat.reduceSub, Int.reduceEq, h, Bool.not_true]
  cases he : p.e
  all_goals
    simp -dsimp -implicitDefEqProofs only [go_sem, Nat.reduceBEq, Nat.reduceAdd, Nat.reduceLeDiff, Nat.reduceSub, Int.reduceEq, he, hk]
    repeat (first | with_reducible refine ask.of (by first | omega | decide) ?_ | simp -dsimp -implicitDefEqProofs only [go_sem, Nat.reduceBEq, Nat.reduceAdd, Nat.reduceLeDiff, Nat.reduceSub, Int.reduceEq, bleR, he, hk, bytes67])
    refine CallE.of (c_l1little p.b 4 (by omega)) (by rintro r rfl; (repeat' first | exact trivial | exact pure_rowB _ | exact pure_rowO _ | exact pure_rowI _ | exact pure_rowBB _ | exact pure_rowPk _ _ | exact pure_rowSn _ _ | exact pure_rowFd _ _ | exact pure_rowBBB _ | exact pure_rowCl _ _ | exact pure_rowTb _ _ _ | refine And.intro ?_ ?_)) (by simp -dsimp -implicitDefEqProofs only [go_sem, Nat.reduceBEq, Nat.reduceAdd, Nat.reduceLeDiff, Nat.reduceSub, Int.reduceEq, show ((4 : Nat) : Int) = 4 from rfl]) ?_
    rintro r rfl
    simp -dsimp -implicitDefEqProofs only [go_sem, Nat.reduceBEq, Nat.reduceAdd, Nat.reduceLeDiff, Nat.reduceSub, Int.reduceEq, show ((4 : Nat) : Int) = 4 from rfl]
    repeat (first | with_reducible refine ask.of (by first | omega | (simp only [List.length_append, List.length_cons, List.length_nil, leB_length]; omega)) ?_ | simp -dsimp -implicitDefEqProofs only [go_sem, Nat.reduceBEq, Nat.reduceAdd, Nat.reduceLeDiff, Nat.reduceSub, Int.reduceEq, bleR, leB_length, bytesA_lit1])
    refine CallE.of (c_l1little p.c 8 (by omega)) (by rintro r rfl; (repeat' first | exact trivial | exact pure_rowB _ | exact pure_rowO _ | exact pure_rowI _ | exact pure_rowBB _ | exact pure_rowPk _ _ | exact pure_rowSn _ _ | exact pure_rowFd _ _ | exact pure_rowBBB _ | exact pure_rowCl _ _ | exact pure_rowTb _ _ _ | refine And.intro ?_ ?_)) (by simp -dsimp -implicitDefEqProofs only [go_sem, Nat.reduceBEq, Nat.reduceAdd, Nat.reduceLeDiff, Nat.reduceSub, Int.reduceEq, show ((8 : Nat) : Int) = 8 from rfl]) ?_
    rintro r rfl
    simp -dsimp -implicitDefEqProofs only [go_sem, Nat.reduceBEq, Nat.reduceAdd, Nat.reduceLeDiff, Nat.reduceSub, Int.reduceEq, show ((8 : Nat) : Int) = 8 from rfl]
    repeat (first | with_reducible refine ask.of (by first | omega | (simp only [List.length_append, List.length_cons, List.length_nil, leB_length]; omega)) ?_ | simp -dsimp -implicitDefEqProofs only [go_sem, Nat.reduceBEq, Nat.reduceAdd, Nat.reduceLeDiff, Nat.reduceSub, Int.reduceEq, bleR, leB_length, bytesA_lit1])
    refine CallE.of (c_l1little p.d 4 (by omega)) (by rintro r rfl; (repeat' first | exact trivial | exact pure_rowB _ | exact pure_rowO _ | exact pure_rowI _ | exact pure_rowBB _ | exact pure_rowPk _ _ | exact pure_rowSn _ _ | exact pure_rowFd _ _ | exact pure_rowBBB _ | exact pure_rowCl _ _ | exact pure_rowTb _ _ _ | refine And.intro ?_ ?_)) (by simp -dsimp -implicitDefEqProofs only [go_sem, Nat.reduceBEq, Nat.reduceAdd, Nat.reduceLeDiff, Nat.reduceSub, Int.reduceEq, show ((4 : Nat) : Int) = 4 from rfl]) ?_
    rintro r rfl
    simp -dsimp -implicitDefEqProofs only [go_sem, Nat.reduceBEq, Nat.reduceAdd, Nat.reduceLeDiff, Nat.reduceSub, Int.reduceEq, show ((4 : Nat) : Int) = 4 from rfl]
    repeat (first | with_reducible refine ask.of (by first | omega | (simp only [List.length_append, List.length_cons, List.length_nil, leB_length]; omega)) ?_ | simp -dsimp -implicitDefEqProofs only [go_sem, Nat.reduceBEq, Nat.reduceAdd, Nat.reduceLeDiff, Nat.reduceSub, Int.reduceEq, bleR, leB_length, bytesA_lit1])
    refine CallE.of (c_l1little p.f.length 2 (by omega)) (by rintro r rfl; (repeat' first | exact trivial | exact pure_rowB _ | exact pure_rowO _ | exact pure_rowI _ | exact pure_rowBB _ | exact pure_rowPk _ _ | exact pure_rowSn _ _ | exact pure_rowFd _ _ | exact pure_rowBBB _ | exact pure_rowCl _ _ | exact pure_rowTb _ _ _ | refine And.intro ?_ ?_)) (by simp -dsimp -implicitDefEqProofs only [go_sem, Nat.reduceBEq, Nat.reduceAdd, Nat.reduceLeDiff, Nat.reduceSub, Int.reduceEq, show ((2 : Nat) : Int) = 2 from rfl]) ?_
    rintro r rfl
    simp -dsimp -implicitDefEqProofs only [go_sem, Nat.reduceBEq, Nat.reduceAdd, Nat.reduceLeDiff, Nat.reduceSub, Int.reduceEq, show ((2 : Nat) : Int) = 2 from rfl]
    repeat (first | with_reducible refine ask.of (by first | omega | (simp only [List.length_append, List.length_cons, List.length_nil, leB_length]; omega)) ?_ | simp -dsimp -implicitDefEqProofs only [go_sem, Nat.reduceBEq, Nat.reduceAdd, Nat.reduceLeDiff, Nat.reduceSub, Int.reduceEq, bleR, leB_length, bytesA_lit1])
    refine CallE.of (c_specCrc32 (pkParts p).flatten (by rw [flat_len, pkParts_w]; omega)) (by rintro r rfl; (repeat' first | exact trivial | exact pure_rowB _ | exact pure_rowO _ | exact pure_rowI _ | exact pure_rowBB _ | exact pure_rowPk _ _ | exact pure_rowSn _ _ | exact pure_rowFd _ _ | exact pure_rowBBB _ | exact pure_rowCl _ _ | exact pure_rowTb _ _ _ | refine And.intro ?_ ?_)) (by simp -dsimp -implicitDefEqProofs only [go_sem, Nat.reduceBEq, Nat.reduceAdd, Nat.reduceLeDiff, Nat.reduceSub, Int.reduceEq, pkParts, lastB_t, lastB_f, he, bytesA_lit1, List.flatten_cons, List.flatten_nil, List.append_nil, List.append_assoc, List.cons_append, List.nil_append]) ?_
    rintro r rfl
    simp -dsimp -implicitDefEqProofs only [go_sem, Nat.reduceBEq, Nat.reduceAdd, Nat.reduceLeDiff, Nat.reduceSub, Int.reduceEq, pkParts, lastB_t, lastB_f, he, bytesA_lit1, List.flatten_cons, List.flatten_nil, List.append_nil, List.append_assoc, List.cons_append, List.nil_append]
    simp -dsimp -implicitDefEqProofs only [go_sem, Nat.reduceBEq, Nat.reduceAdd, Nat.reduceLeDiff, Nat.reduceSub, Int.reduceEq, wrap_u32i]
    refine CallE.of (c_l1little (crcB (pkParts p).flatten).toNat 4 (by omega)) (by rintro r rfl; (repeat' first | exact trivial | exact pure_rowB _ | exact pure_rowO _ | exact pure_rowI _ | exact pure_rowBB _ | exact pure_rowPk _ _ | exact pure_rowSn _ _ | exact pure_rowFd _ _ | exact pure_rowBBB _ | exact pure_rowCl _ _ | exact pure_rowTb _ _ _ | refine And.intro ?_ ?_)) (by simp -dsimp -implicitDefEqProofs only [go_sem, Nat.reduceBEq, Nat.reduceAdd, Nat.reduceLeDiff, Nat.reduceSub, Int.reduceEq, show ((4 : Nat) : Int) = 4 from rfl, pkParts, lastB_t, lastB_f, he, bytesA_lit1, List.flatten_cons, List.flatten_nil, List.append_nil, List.append_assoc, List.cons_append, List.nil_append]) ?_
    rintro r rfl
    simp -dsimp -implicitDefEqProofs only [go_sem, Nat.reduceBEq, Nat.reduceAdd, Nat.reduceLeDiff, Nat.reduceSub, Int.reduceEq, show ((4 : Nat) : Int) = 4 from rfl, pkParts, lastB_t, lastB_f, he, bytesA_lit1, List.flatten_cons, List.flatten_nil, List.append_nil, List.append_assoc, List.cons_append, List.nil_append]
    repeat (first | with_reducible refine ask.of (by first | omega | (simp only [List.length_append, List.length_cons, List.length_nil, leB_length]; omega)) ?_ | simp -dsimp -implicitDefEqProofs only [go_sem, Nat.reduceBEq, Nat.reduceAdd, Nat.reduceLeDiff, Nat.reduceSub, Int.reduceEq, bleR, leB_length, bytesA_lit1])
    simp [sumB, pkParts, lastB_t, lastB_f, he]
theorem c_summed7 (p : Pk) (hf : p.f.length ≤ 100) : Meets Try.prog 82 [.row 22 1 [[.row 5 1 (bytesA [67, UInt8.ofNat p.a.toNat])], [.row 5 1 (bytesA (leB 4 p.b))], [.row 5 1 (bytesA (leB 8 p.c))], [.row 5 1 (bytesA (leB 4 p.d))], [.row 5 1 (bytesA [lastB p.e])], [.row 5 1 (bytesA (leB 2 p.f.length))], [.rd .ent 5 1 (bytesA p.f)]]] (fun r => r = rowB (sumB (pkParts p))) :=
  Meets.look (bs := [rowBB (pkParts p)]) ⟨Look.row ⟨⟨Look.refl _, trivial⟩, ⟨Look.refl _, trivial⟩, ⟨Look.refl _, trivial⟩, ⟨Look.refl _, trivial⟩, ⟨Look.refl _, trivial⟩, ⟨Look.refl _, trivial⟩, ⟨Look.rd _ _ _, trivial⟩, trivial⟩, trivial⟩ (c_summed (pkParts p) (by rw [pkParts_w]; simp [pkParts]; omega))
theorem c_implEncodePacket (p : Pk) (hb : p.f.length ≤ 1048576) : Meets Try.prog 27 [.agg (pkC p)] (fun r => r = rowB (encP p)) := by
  refine Meets.introO mixed (hint []) (fun k => (sel (k == 6) [999,0,1,2,4,5,7,8,10,11,13,15,16,17,19,20,1003,1014,6,9,12,18,3,14,21,22,23] [])) Try.func27 rfl (by decide) res_27 rty_27 (by kernel_rfl) ?_; 
  simp -dsimp -implicitDefEqProofs only [go_sem, Nat.reduceBEq, Nat.reduceAdd, Nat.reduceLeDiff, Nat.reduceSub, Int.reduceEq, pkC]
  repeat (first | with_reducible refine ask.of (by omega) ?_ | simp -dsimp -implicitDefEqProofs only [go_sem, Nat.reduceBEq, Nat.reduceAdd, Nat.reduceLeDiff, Nat.reduceSub, Int.reduceEq, bleR])
  refine CallE.of (c_packetOk p hb) (by rintro r rfl; (repeat' first | exact trivial | exact pure_rowB _ | exact pure_rowO _ | exact pure_rowI _ | exact pure_rowBB _ | exact pure_rowPk _ _ | exact pure_rowSn _ _ | exact pure_rowFd _ _ | exact pure_rowBBB _ | exact pure_rowCl _ _ | exact pure_rowTb _ _ _ | refine And.intro ?_ ?_)) (by simp -dsimp -implicitDefEqProofs only [go_sem, Nat.reduceBEq, Nat.reduceAdd, Nat.reduceLeDiff, Nat.reduceSub, Int.reduceEq, pkC]) ?_
  rintro r rfl
  simp -dsimp -implicitDefEqProofs only [go_sem, Nat.reduceBEq, Nat.reduceAdd, Nat.reduceLeDiff, Nat.reduceSub, Int.reduceEq, pkC]
  cases h : okB p
  · simp -dsimp -implicitDefEqProofs only [go_sem, Nat.reduceBEq, Nat.reduceAdd, Nat.reduceLeDiff, Nat.reduceSub, Int.reduceEq, h, Bool.not_false]
    rw [encP, h]; rfl
  have hk := kindB h
  have hf : p.f.length ≤ 100 := by
    have h : okPk p := of_decide_eq_true h
    unfold okPk at h
    omega
  have e : encP p = sumB (pkParts p) := by rw [encP, h]; rfl
  rw [e]
  simp -dsimp -implicitDefEqProofs only [go_sem, Nat.reduceBEq, Nat.reduceAdd, Nat.reduceLeDiff, Nat.reduceSub, Int.reduceEq, h, Bool.not_true]
  cases he : p.e
  all_goals
    simp -dsimp -implicitDefEqProofs only [go_sem, Nat.reduceBEq, Nat.reduceAdd, Nat.reduceLeDiff, Nat.reduceSub, Int.reduceEq, he, hk]
    repeat (first | with_reducible refine ask.of (by first | omega | decide) ?_ | simp -dsimp -implicitDefEqProofs only [go_sem, Nat.reduceBEq, Nat.reduceAdd, Nat.reduceLeDiff, Nat.reduceSub, Int.reduceEq, bleR, he, hk, bytes67, bytesA_lit1])
    refine CallE.of (c_number p.b 4 (by omega)) (by rintro r rfl; (repeat' first | exact trivial | exact pure_rowB _ | exact pure_rowO _ | exact pure_rowI _ | exact pure_rowBB _ | exact pure_rowPk _ _ | exact pure_rowSn _ _ | exact pure_rowFd _ _ | exact pure_rowBBB _ | exact pure_rowCl _ _ | exact pure_rowTb _ _ _ | refine And.intro ?_ ?_)) (by simp -dsimp -implicitDefEqProofs only [go_sem, Nat.reduceBEq, Nat.reduceAdd, Nat.reduceLeDiff, Nat.reduceSub, Int.reduceEq, show ((4 : Nat) : Int) = 4 from rfl]) ?_
    rintro r rfl
    simp -dsimp -implicitDefEqProofs only [go_sem, Nat.reduceBEq, Nat.reduceAdd, Nat.reduceLeDiff, Nat.reduceSub, Int.reduceEq, show ((4 : Nat) : Int) = 4 from rfl]
    repeat (first | with_reducible refine ask.of (by first | omega | decide) ?_ | simp -dsimp -implicitDefEqProofs only [go_sem, Nat.reduceBEq, Nat.reduceAdd, Nat.reduceLeDiff, Nat.reduceSub, Int.reduceEq, bleR, he, hk, bytes67, bytesA_lit1])
    refine CallE.of (c_number p.c 8 (by omega)) (by rintro r rfl; (repeat' first | exact trivial | exact pure_rowB _ | exact pure_rowO _ | exact pure_rowI _ | exact pure_rowBB _ | exact pure_rowPk _ _ | exact pure_rowSn _ _ | exact pure_rowFd _ _ | exact pure_rowBBB _ | exact pure_rowCl _ _ | exact pure_rowTb _ _ _ | refine And.intro ?_ ?_)) (by simp -dsimp -implicitDefEqProofs only [go_sem, Nat.reduceBEq, Nat.reduceAdd, Nat.reduceLeDiff, Nat.reduceSub, Int.reduceEq, show ((8 : Nat) : Int) = 8 from rfl]) ?_
    rintro r rfl
    simp -dsimp -implicitDefEqProofs only [go_sem, Nat.reduceBEq, Nat.reduceAdd, Nat.reduceLeDiff, Nat.reduceSub, Int.reduceEq, show ((8 : Nat) : Int) = 8 from rfl]
    repeat (first | with_reducible refine ask.of (by first | omega | decide) ?_ | simp -dsimp -implicitDefEqProofs only [go_sem, Nat.reduceBEq, Nat.reduceAdd, Nat.reduceLeDiff, Nat.reduceSub, Int.reduceEq, bleR, he, hk, bytes67, bytesA_lit1])
    refine CallE.of (c_number p.d 4 (by omega)) (by rintro r rfl; (repeat' first | exact trivial | exact pure_rowB _ | exact pure_rowO _ | exact pure_rowI _ | exact pure_rowBB _ | exact pure_rowPk _ _ | exact pure_rowSn _ _ | exact pure_rowFd _ _ | exact pure_rowBBB _ | exact pure_rowCl _ _ | exact pure_rowTb _ _ _ | refine And.intro ?_ ?_)) (by simp -dsimp -implicitDefEqProofs only [go_sem, Nat.reduceBEq, Nat.reduceAdd, Nat.reduceLeDiff, Nat.reduceSub, Int.reduceEq, show ((4 : Nat) : Int) = 4 from rfl]) ?_
    rintro r rfl
    simp -dsimp -implicitDefEqProofs only [go_sem, Nat.reduceBEq, Nat.reduceAdd, Nat.reduceLeDiff, Nat.reduceSub, Int.reduceEq, show ((4 : Nat) : Int) = 4 from rfl]
    repeat (first | with_reducible refine ask.of (by first | omega | decide) ?_ | simp -dsimp -implicitDefEqProofs only [go_sem, Nat.reduceBEq, Nat.reduceAdd, Nat.reduceLeDiff, Nat.reduceSub, Int.reduceEq, bleR, he, hk, bytes67, bytesA_lit1])
    refine CallE.of (c_number p.f.length 2 (by omega)) (by rintro r rfl; (repeat' first | exact trivial | exact pure_rowB _ | exact pure_rowO _ | exact pure_rowI _ | exact pure_rowBB _ | exact pure_rowPk _ _ | exact pure_rowSn _ _ | exact pure_rowFd _ _ | exact pure_rowBBB _ | exact pure_rowCl _ _ | exact pure_rowTb _ _ _ | refine And.intro ?_ ?_)) (by simp -dsimp -implicitDefEqProofs only [go_sem, Nat.reduceBEq, Nat.reduceAdd, Nat.reduceLeDiff, Nat.reduceSub, Int.reduceEq, show ((2 : Nat) : Int) = 2 from rfl]) ?_
    rintro r rfl
    simp -dsimp -implicitDefEqProofs only [go_sem, Nat.reduceBEq, Nat.reduceAdd, Nat.reduceLeDiff, Nat.reduceSub, Int.reduceEq, show ((2 : Nat) : Int) = 2 from rfl]
    repeat (first | with_reducible refine ask.of (by first | omega | decide) ?_ | simp -dsimp -implicitDefEqProofs only [go_sem, Nat.reduceBEq, Nat.reduceAdd, Nat.reduceLeDiff, Nat.reduceSub, Int.reduceEq, bleR, he, hk, bytes67, bytesA_lit1])
    refine CallE.of (c_summed7 p hf) (by rintro r rfl; (repeat' first | exact trivial | exact pure_rowB _ | exact pure_rowO _ | exact pure_rowI _ | exact pure_rowBB _ | exact pure_rowPk _ _ | exact pure_rowSn _ _ | exact pure_rowFd _ _ | exact pure_rowBBB _ | exact pure_rowCl _ _ | exact pure_rowTb _ _ _ | refine And.intro ?_ ?_)) (by simp -dsimp -implicitDefEqProofs only [go_sem, Nat.reduceBEq, Nat.reduceAdd, Nat.reduceLeDiff, Nat.reduceSub, Int.reduceEq, he, lastB_t, lastB_f, bytesA_lit1, bytesA_lit0]) ?_
    rintro r rfl
    simp -dsimp -implicitDefEqProofs only [go_sem, Nat.reduceBEq, Nat.reduceAdd, Nat.reduceLeDiff, Nat.reduceSub, Int.reduceEq, he, lastB_t, lastB_f, bytesA_lit1, bytesA_lit0]
end Go.Ev
set_option linter.unusedSimpArgs false
set_option linter.unusedVariables false
namespace Go.Ev
open Go Go.RowKit Go.Proofs
theorem c_l1same (a b : List UInt8) (ha : a.length ≤ 140737488355328) (hb : b.length ≤ 140737488355328) : Meets Try.prog 89 [rowB a, rowB b] (fun r => r = .v (.bool (decide (a = b)))) := by
  refine Meets.intro mixed (hint []) Try.func89 rfl (by decide) res_89 rty_89 (by kernel_rfl) ?_; 
  simp -dsimp -implicitDefEqProofs only [go_sem, Nat.reduceBEq, Nat.reduceAdd, Nat.reduceLeDiff, Nat.reduceSub, Int.reduceEq, initE]
  exact decide_eq_decide.2 ⟨fun h => by simpa using h, fun h => by rw [h]⟩
def okD (xs : List (List UInt8)) : Prop := xs.length ≤ 40 ∧ wBB xs ≤ 4000 ∧ xs.Nodup
instance (xs : List (List UInt8)) : Decidable (okD xs) := by unfold okD; infer_instance
end Go.Ev
set_option linter.unusedSimpArgs false
set_option linter.unusedVariables false
namespace Go.Ev
open Go Go.RowKit Go.Proofs
theorem c_l1copy (b : List UInt8) (hb : b.length ≤ 8388608) : Meets Try.prog 88 [rowB b] (fun r => r = rowB b) := by
  refine Meets.intro mixed (hint [(3, 122)]) Try.func88 rfl (by decide) res_88 rty_88 (by kernel_rfl) ?_; 
  simp -dsimp -implicitDefEqProofs only [go_sem, Nat.reduceBEq, Nat.reduceAdd, Nat.reduceLeDiff, Nat.reduceSub, Int.reduceEq, initE]
  repeat (first | with_reducible refine ask.of (by first | omega | (simp only [List.length_nil]; omega)) ?_ | simp -dsimp -implicitDefEqProofs only [go_sem, Nat.reduceBEq, Nat.reduceAdd, Nat.reduceLeDiff, Nat.reduceSub, Int.reduceEq, List.nil_append])
end Go.Ev
set_option linter.unusedSimpArgs false
set_option linter.unusedVariables false
namespace Go.Ev
open Go Go.RowKit Go.Proofs
def cutB (b : List UInt8) (l h : Nat) : List UInt8 := (b.take h).drop l
theorem cutB_length {b : List UInt8} {l h : Nat} (hh : h ≤ b.length) : (cutB b l h).length = h - l := by simp [cutB]; omega
def numAt (b : List UInt8) (l h : Nat) : Int := IntKind.i64.wrap (leN (cutB b l h))
def pkOf (b : List UInt8) : Pk := ⟨((b.getD 1 0).toNat : Int), numAt b 2 6, numAt b 6 14, numAt b 14 18, decide ((b.getD 18 0).toNat = 1), cutB b 21 (b.length - 4)⟩
def decP (b : List UInt8) : Pk × Int := if 25 ≤ b.length ∧ encP (pkOf b) = b then (pkOf b, 0) else (⟨0, 0, 0, 0, false, []⟩, 3)
theorem decP_no {b : List UInt8} (h : ¬ (25 ≤ b.length ∧ encP (pkOf b) = b)) : decP b = (⟨0, 0, 0, 0, false, []⟩, 3) := if_neg h
theorem decP_yes {b : List UInt8} (h : 25 ≤ b.length ∧ encP (pkOf b) = b) : decP b = (pkOf b, 0) := if_pos h
def decRes (b : List UInt8) : AV := .tup [.agg (pkC (decP b).1), .v (.int .i64 (decP b).2)]
theorem encP_long {b : List UInt8} (h : 125 < b.length) : encP (pkOf b) = [] := by
  unfold encP
  rw [if_neg]
  intro h'
  have h' : okPk (pkOf b) := of_decide_eq_true h'
  have hl : (pkOf b).f.length = b.length - 25 := by
    show (cutB b 21 (b.length - 4)).length = _
    rw [cutB_length (by omega)]; omega
  unfold okPk at h'
  omega
theorem at_getD {b : List UInt8} {i : Nat} (h : i < b.length) : b[i] = b.getD i 0 := by simp [h]
theorem c_bytesClone (b : List UInt8) (hb : b.length ≤ 8388608) : Meets Try.prog 73 [rowB b] (fun r => r = rowB b) := by
  refine Meets.intro mixed (hint []) Try.func73 rfl (by decide) res_73 rty_73 (by kernel_rfl) ?_; 
  simp -dsimp -implicitDefEqProofs only [go_sem, Nat.reduceBEq, Nat.reduceAdd, Nat.reduceLeDiff, Nat.reduceSub, Int.reduceEq, initE]
  refine nilE'.of (fun h => ?_) ?_
  · have h : b = [] := by simpa [bytesA] using h
    subst h
    simp -dsimp -implicitDefEqProofs only [go_sem, Nat.reduceBEq, Nat.reduceAdd, Nat.reduceLeDiff, Nat.reduceSub, Int.reduceEq]
    rfl
  · simp -dsimp -implicitDefEqProofs only [go_sem, Nat.reduceBEq, Nat.reduceAdd, Nat.reduceLeDiff, Nat.reduceSub, Int.reduceEq]
    repeat (first | with_reducible refine ask.of (by first | omega | decide | (simp; omega)) ?_ | simp -dsimp -implicitDefEqProofs only [go_sem, Nat.reduceBEq, Nat.reduceAdd, Nat.reduceLeDiff, Nat.reduceSub, Int.reduceEq, List.nil_append])
theorem u8_eq1 (b : UInt8) : decide ((b.toNat : Int) = 1) = decide (b.toNat = 1) := decide_eq_decide.2 (by omega)
theorem i64_u8 (b : UInt8) : IntKind.i64.wrap (b.toNat : Int) = (b.toNat : Int) := by have := b.toNat_lt; rw [wrap_i64_of (by omega) (by omega)]
theorem pkC_of (b : List UInt8) : pkC (pkOf b) = [.v (.int .i64 ((b.getD 1 0).toNat : Int)), .v (.int .i64 (IntKind.i64.wrap (leN (cutB b 2 6)))), .v (.int .i64 (IntKind.i64.wrap (leN (cutB b 6 14)))), .v (.int .i64 (IntKind.i64.wrap (leN (cutB b 14 18)))), .v (.bool (decide ((b.getD 18 0).toNat = 1))), .row 5 1 (bytesA (cutB b 21 (b.length - 4)))] := rfl
theorem ble6_1 : Nat.ble 1 6 = true := rfl
theorem ble6_2 : Nat.ble 2 6 = true := rfl
theorem ble6_3 : Nat.ble 3 6 = true := rfl
theorem ble6_4 : Nat.ble 4 6 = true := rfl
theorem ble6_5 : Nat.ble 5 6 = true := rfl
set_option maxHeartbeats 1000000 in
theorem c_specDecodePacket (b : List UInt8) (hb : b.length ≤ 1048576) : Meets Try.prog 30 [rowB b] (fun r => r = decRes b) := by
  refine Meets.introO mixed (hint []) (fun k => (sel (k == 3) [999,0,1,2,3,4,5,7,8,10,11,13,14,15,16,17,18,19,20,21,1024,6,9,12,22,23,24,25] [])) Try.func30 rfl (by decide) res_30 rty_30 (by kernel_rfl) ?_; 
  simp -dsimp -implicitDefEqProofs only [go_sem, Nat.reduceBEq, Nat.reduceAdd, Nat.reduceLeDiff, Nat.reduceSub, Int.reduceEq]
  repeat (first | with_reducible refine ask.of (by omega) ?_ | simp -dsimp -implicitDefEqProofs only [go_sem, Nat.reduceBEq, Nat.reduceAdd, Nat.reduceLeDiff, Nat.reduceSub, Int.reduceEq])
  refine ifB'.of (fun h => ?_) (fun h => ?_)
  · simp -dsimp -implicitDefEqProofs only [go_sem, Nat.reduceBEq, Nat.reduceAdd, Nat.reduceLeDiff, Nat.reduceSub, Int.reduceEq]
    repeat (first | with_reducible refine ask.of (by omega) ?_ | simp -dsimp -implicitDefEqProofs only [go_sem, Nat.reduceBEq, Nat.reduceAdd, Nat.reduceLeDiff, Nat.reduceSub, Int.reduceEq, bleR])
    rw [decRes, decP_no (by omega)]; rfl
  simp -dsimp -implicitDefEqProofs only [go_sem, Nat.reduceBEq, Nat.reduceAdd, Nat.reduceLeDiff, Nat.reduceSub, Int.reduceEq]
  refine ifB'.of (fun h2 => ?_) (fun h2 => ?_)
  · simp -dsimp -implicitDefEqProofs only [go_sem, Nat.reduceBEq, Nat.reduceAdd, Nat.reduceLeDiff, Nat.reduceSub, Int.reduceEq]
    repeat (first | with_reducible refine ask.of (by omega) ?_ | simp -dsimp -implicitDefEqProofs only [go_sem, Nat.reduceBEq, Nat.reduceAdd, Nat.reduceLeDiff, Nat.reduceSub, Int.reduceEq, bleR])
    rw [decRes, decP_no (by rw [encP_long (by omega)]; rintro ⟨h3, h4⟩; rw [← h4] at h3; simp at h3)]; rfl
  have n1 : 1 < b.length := by omega
  have n18 : 18 < b.length := by omega
  have e4 : IntKind.i64.wrap ((b.length : Int) - 4) = ((b.length - 4 : Nat) : Int) := by rw [wrap_i64_of (by omega) (by omega)]; omega
  simp -dsimp -implicitDefEqProofs only [go_sem, Nat.reduceBEq, Nat.reduceAdd, Nat.reduceLeDiff, Nat.reduceSub, Int.reduceEq, bytesA_at n1, bytesA_at n18, e4, show Int.toNat 1 = 1 from rfl, show Int.toNat 18 = 18 from rfl]
  repeat (first | with_reducible refine ask.of (by omega) ?_ | simp -dsimp -implicitDefEqProofs only [go_sem, Nat.reduceBEq, Nat.reduceAdd, Nat.reduceLeDiff, Nat.reduceSub, Int.reduceEq, bytesA_at n1, bytesA_at n18, e4, show Int.toNat 1 = 1 from rfl, show Int.toNat 18 = 18 from rfl, i64_u8, u8_eq1])
  have c1 : List.drop (Int.toNat 2) (List.take (Int.toNat 6) b) = cutB b 2 6 := rfl
  have c2 : List.drop (Int.toNat 6) (List.take (Int.toNat 14) b) = cutB b 6 14 := rfl
  have c3 : List.drop (Int.toNat 14) (List.take 18 b) = cutB b 14 18 := rfl
  have c4 : List.drop (Int.toNat 21) (List.take (b.length - 4) b) = cutB b 21 (b.length - 4) := rfl
  have l1 : (cutB b 2 6).length = 4 := cutB_length (by omega)
  have l2 : (cutB b 6 14).length = 8 := cutB_length (by omega)
  have l3 : (cutB b 14 18).length = 4 := cutB_length (by omega)
  have l4 : (cutB b 21 (b.length - 4)).length = b.length - 25 := by rw [cutB_length (by omega)]; omega
  refine CallE.of (c_l1number (cutB b 2 6) (by omega)) (by rintro r rfl; (repeat' first | exact trivial | exact pure_rowB _ | exact pure_rowO _ | exact pure_rowI _ | exact pure_rowBB _ | exact pure_rowPk _ _ | exact pure_rowSn _ _ | exact pure_rowFd _ _ | exact pure_rowBBB _ | exact pure_rowCl _ _ | exact pure_rowTb _ _ _ | refine And.intro ?_ ?_)) (by simp -dsimp -implicitDefEqProofs only [go_sem, Nat.reduceBEq, Nat.reduceAdd, Nat.reduceLeDiff, Nat.reduceSub, Int.reduceEq, c1, c2, c3, c4]) ?_
  rintro r rfl
  simp -dsimp -implicitDefEqProofs only [go_sem, Nat.reduceBEq, Nat.reduceAdd, Nat.reduceLeDiff, Nat.reduceSub, Int.reduceEq, c1, c2, c3, c4]
  refine CallE.of (c_l1number (cutB b 6 14) (by omega)) (by rintro r rfl; (repeat' first | exact trivial | exact pure_rowB _ | exact pure_rowO _ | exact pure_rowI _ | exact pure_rowBB _ | exact pure_rowPk _ _ | exact pure_rowSn _ _ | exact pure_rowFd _ _ | exact pure_rowBBB _ | exact pure_rowCl _ _ | exact pure_rowTb _ _ _ | refine And.intro ?_ ?_)) (by simp -dsimp -implicitDefEqProofs only [go_sem, Nat.reduceBEq, Nat.reduceAdd, Nat.reduceLeDiff, Nat.reduceSub, Int.reduceEq, c1, c2, c3, c4]) ?_
  rintro r rfl
  simp -dsimp -implicitDefEqProofs only [go_sem, Nat.reduceBEq, Nat.reduceAdd, Nat.reduceLeDiff, Nat.reduceSub, Int.reduceEq, c1, c2, c3, c4]
  refine CallE.of (c_l1number (cutB b 14 18) (by omega)) (by rintro r rfl; (repeat' first | exact trivial | exact pure_rowB _ | exact pure_rowO _ | exact pure_rowI _ | exact pure_rowBB _ | exact pure_rowPk _ _ | exact pure_rowSn _ _ | exact pure_rowFd _ _ | exact pure_rowBBB _ | exact pure_rowCl _ _ | exact pure_rowTb _ _ _ | refine And.intro ?_ ?_)) (by simp -dsimp -implicitDefEqProofs only [go_sem, Nat.reduceBEq, Nat.reduceAdd, Nat.reduceLeDiff, Nat.reduceSub, Int.reduceEq, c1, c2, c3, c4]) ?_
  rintro r rfl
  simp -dsimp -implicitDefEqProofs only [go_sem, Nat.reduceBEq, Nat.reduceAdd, Nat.reduceLeDiff, Nat.reduceSub, Int.reduceEq, c1, c2, c3, c4]
  refine CallE.of (c_l1copy (cutB b 21 (b.length - 4)) (by omega)) (by rintro r rfl; (repeat' first | exact trivial | exact pure_rowB _ | exact pure_rowO _ | exact pure_rowI _ | exact pure_rowBB _ | exact pure_rowPk _ _ | exact pure_rowSn _ _ | exact pure_rowFd _ _ | exact pure_rowBBB _ | exact pure_rowCl _ _ | exact pure_rowTb _ _ _ | refine And.intro ?_ ?_)) (by simp -dsimp -implicitDefEqProofs only [go_sem, Nat.reduceBEq, Nat.reduceAdd, Nat.reduceLeDiff, Nat.reduceSub, Int.reduceEq, c1, c2, c3, c4]) ?_
  rintro r rfl
  simp -dsimp -implicitDefEqProofs only [go_sem, Nat.reduceBEq, Nat.reduceAdd, Nat.reduceLeDiff, Nat.reduceSub, Int.reduceEq, c1, c2, c3, c4]
  repeat (first | with_reducible refine ask.of (by omega) ?_ | simp -dsimp -implicitDefEqProofs only [go_sem, Nat.reduceBEq, Nat.reduceAdd, Nat.reduceLeDiff, Nat.reduceSub, Int.reduceEq, bleR, ble6_1, ble6_2, ble6_3, ble6_4, ble6_5])
  refine CallE.of (c_specEncodePacket (pkOf b) (by show (cutB b 21 (b.length - 4)).length ≤ _; omega)) (by rintro r rfl; (repeat' first | exact trivial | exact pure_rowB _ | exact pure_rowO _ | exact pure_rowI _ | exact pure_rowBB _ | exact pure_rowPk _ _ | exact pure_rowSn _ _ | exact pure_rowFd _ _ | exact pure_rowBBB _ | exact pure_rowCl _ _ | exact pure_rowTb _ _ _ | refine And.intro ?_ ?_)) (by simp -dsimp -implicitDefEqProofs only [go_sem, Nat.reduceBEq, Nat.reduceAdd, Nat.reduceLeDiff, Nat.reduceSub, Int.reduceEq, pkC_of b, at_getD n1, at_getD n18]) ?_
  rintro r rfl
  simp -dsimp -implicitDefEqProofs only [go_sem, Nat.reduceBEq, Nat.reduceAdd, Nat.reduceLeDiff, Nat.reduceSub, Int.reduceEq, pkC_of b, at_getD n1, at_getD n18]
  have he := encP_le (pkOf b)
  have hf : (pkOf b).f.length = b.length - 25 := l4
  refine CallE.of (c_l1same (encP (pkOf b)) b (by omega) (by omega)) (by rintro r rfl; (repeat' first | exact trivial | exact pure_rowB _ | exact pure_rowO _ | exact pure_rowI _ | exact pure_rowBB _ | exact pure_rowPk _ _ | exact pure_rowSn _ _ | exact pure_rowFd _ _ | exact pure_rowBBB _ | exact pure_rowCl _ _ | exact pure_rowTb _ _ _ | refine And.intro ?_ ?_)) (by simp -dsimp -implicitDefEqProofs only [go_sem, Nat.reduceBEq, Nat.reduceAdd, Nat.reduceLeDiff, Nat.reduceSub, Int.reduceEq]) ?_
  rintro r rfl
  simp -dsimp -implicitDefEqProofs only [go_sem, Nat.reduceBEq, Nat.reduceAdd, Nat.reduceLeDiff, Nat.reduceSub, Int.reduceEq]
  refine ifB'.of (fun h3 => ?_) (fun h3 => ?_)
  · simp -dsimp -implicitDefEqProofs only [go_sem, Nat.reduceBEq, Nat.reduceAdd, Nat.reduceLeDiff, Nat.reduceSub, Int.reduceEq]
    repeat (first | with_reducible refine ask.of (by omega) ?_ | simp -dsimp -implicitDefEqProofs only [go_sem, Nat.reduceBEq, Nat.reduceAdd, Nat.reduceLeDiff, Nat.reduceSub, Int.reduceEq, bleR, ble6_1, ble6_2, ble6_3, ble6_4, ble6_5])
    rw [decRes, decP_yes ⟨by omega, h3⟩, pkC_of]
  · simp -dsimp -implicitDefEqProofs only [go_sem, Nat.reduceBEq, Nat.reduceAdd, Nat.reduceLeDiff, Nat.reduceSub, Int.reduceEq]
    repeat (first | with_reducible refine ask.of (by omega) ?_ | simp -dsimp -implicitDefEqProofs only [go_sem, Nat.reduceBEq, Nat.reduceAdd, Nat.reduceLeDiff, Nat.reduceSub, Int.reduceEq, bleR, ble6_1, ble6_2, ble6_3, ble6_4, ble6_5])
    rw [decRes, decP_no (fun h => h3 h.2)]; rfl
set_option maxHeartbeats 1000000 in
theorem c_implDecodePacket (b : List UInt8) (hb : b.length ≤ 1048576) : Meets Try.prog 13 [rowB b] (fun r => r = decRes b) := by
  refine Meets.introO mixed (hint []) (fun k => (sel (k == 3) [999,0,1,2,3,4,5,7,8,10,11,13,14,15,16,17,18,19,20,21,1024,6,9,12,22,23,24,25] [])) Try.func13 rfl (by decide) res_13 rty_13 (by kernel_rfl) ?_; 
  simp -dsimp -implicitDefEqProofs only [go_sem, Nat.reduceBEq, Nat.reduceAdd, Nat.reduceLeDiff, Nat.reduceSub, Int.reduceEq]
  repeat (first | with_reducible refine ask.of (by omega) ?_ | simp -dsimp -implicitDefEqProofs only [go_sem, Nat.reduceBEq, Nat.reduceAdd, Nat.reduceLeDiff, Nat.reduceSub, Int.reduceEq])
  refine ifB'.of (fun h => ?_) (fun h => ?_)
  · simp -dsimp -implicitDefEqProofs only [go_sem, Nat.reduceBEq, Nat.reduceAdd, Nat.reduceLeDiff, Nat.reduceSub, Int.reduceEq]
    repeat (first | with_reducible refine ask.of (by omega) ?_ | simp -dsimp -implicitDefEqProofs only [go_sem, Nat.reduceBEq, Nat.reduceAdd, Nat.reduceLeDiff, Nat.reduceSub, Int.reduceEq, bleR])
    rw [decRes, decP_no (by omega)]; rfl
  have n1 : 1 < b.length := by omega
  have n18 : 18 < b.length := by omega
  have e4 : IntKind.i64.wrap ((b.length : Int) - 4) = ((b.length - 4 : Nat) : Int) := by rw [wrap_i64_of (by omega) (by omega)]; omega
  simp -dsimp -implicitDefEqProofs only [go_sem, Nat.reduceBEq, Nat.reduceAdd, Nat.reduceLeDiff, Nat.reduceSub, Int.reduceEq, bytesA_at n1, bytesA_at n18, e4, show Int.toNat 1 = 1 from rfl, show Int.toNat 18 = 18 from rfl]
  repeat (first | with_reducible refine ask.of (by omega) ?_ | simp -dsimp -implicitDefEqProofs only [go_sem, Nat.reduceBEq, Nat.reduceAdd, Nat.reduceLeDiff, Nat.reduceSub, Int.reduceEq, bytesA_at n1, bytesA_at n18, e4, show Int.toNat 1 = 1 from rfl, show Int.toNat 18 = 18 from rfl, i64_u8, u8_eq1])
  have c1 : List.drop (Int.toNat 2) (List.take (Int.toNat 6) b) = cutB b 2 6 := rfl
  have c2 : List.drop (Int.toNat 6) (List.take (Int.toNat 14) b) = cutB b 6 14 := rfl
  have c3 : List.drop (Int.toNat 14) (List.take 18 b) = cutB b 14 18 := rfl
  have c4 : List.drop (Int.toNat 21) (List.take (b.length - 4) b) = cutB b 21 (b.length - 4) := rfl
  have l1 : (cutB b 2 6).length = 4 := cutB_length (by omega)
  have l2 : (cutB b 6 14).length = 8 := cutB_length (by omega)
  have l3 : (cutB b 14 18).length = 4 := cutB_length (by omega)
  have l4 : (cutB b 21 (b.length - 4)).length = b.length - 25 := by rw [cutB_length (by omega)]; omega
  refine CallE.of (c_low (cutB b 2 6) (by omega)) (by rintro r rfl; (repeat' first | exact trivial | exact pure_rowB _ | exact pure_rowO _ | exact pure_rowI _ | exact pure_rowBB _ | exact pure_rowPk _ _ | exact pure_rowSn _ _ | exact pure_rowFd _ _ | exact pure_rowBBB _ | exact pure_rowCl _ _ | exact pure_rowTb _ _ _ | refine And.intro ?_ ?_)) (by simp -dsimp -implicitDefEqProofs only [go_sem, Nat.reduceBEq, Nat.reduceAdd, Nat.reduceLeDiff, Nat.reduceSub, Int.reduceEq, c1, c2, c3, c4]) ?_
  rintro r rfl
  simp -dsimp -implicitDefEqProofs only [go_sem, Nat.reduceBEq, Nat.reduceAdd, Nat.reduceLeDiff, Nat.reduceSub, Int.reduceEq, c1, c2, c3, c4]
  refine CallE.of (c_low (cutB b 6 14) (by omega)) (by rintro r rfl; (repeat' first | exact trivial | exact pure_rowB _ | exact pure_rowO _ | exact pure_rowI _ | exact pure_rowBB _ | exact pure_rowPk _ _ | exact pure_rowSn _ _ | exact pure_rowFd _ _ | exact pure_rowBBB _ | exact pure_rowCl _ _ | exact pure_rowTb _ _ _ | refine And.intro ?_ ?_)) (by simp -dsimp -implicitDefEqProofs only [go_sem, Nat.reduceBEq, Nat.reduceAdd, Nat.reduceLeDiff, Nat.reduceSub, Int.reduceEq, c1, c2, c3, c4]) ?_
  rintro r rfl
  simp -dsimp -implicitDefEqProofs only [go_sem, Nat.reduceBEq, Nat.reduceAdd, Nat.reduceLeDiff, Nat.reduceSub, Int.reduceEq, c1, c2, c3, c4]
  refine CallE.of (c_low (cutB b 14 18) (by omega)) (by rintro r rfl; (repeat' first | exact trivial | exact pure_rowB _ | exact pure_rowO _ | exact pure_rowI _ | exact pure_rowBB _ | exact pure_rowPk _ _ | exact pure_rowSn _ _ | exact pure_rowFd _ _ | exact pure_rowBBB _ | exact pure_rowCl _ _ | exact pure_rowTb _ _ _ | refine And.intro ?_ ?_)) (by simp -dsimp -implicitDefEqProofs only [go_sem, Nat.reduceBEq, Nat.reduceAdd, Nat.reduceLeDiff, Nat.reduceSub, Int.reduceEq, c1, c2, c3, c4]) ?_
  rintro r rfl
  simp -dsimp -implicitDefEqProofs only [go_sem, Nat.reduceBEq, Nat.reduceAdd, Nat.reduceLeDiff, Nat.reduceSub, Int.reduceEq, c1, c2, c3, c4]
  refine CallE.of (c_bytesClone (cutB b 21 (b.length - 4)) (by omega)) (by rintro r rfl; (repeat' first | exact trivial | exact pure_rowB _ | exact pure_rowO _ | exact pure_rowI _ | exact pure_rowBB _ | exact pure_rowPk _ _ | exact pure_rowSn _ _ | exact pure_rowFd _ _ | exact pure_rowBBB _ | exact pure_rowCl _ _ | exact pure_rowTb _ _ _ | refine And.intro ?_ ?_)) (by simp -dsimp -implicitDefEqProofs only [go_sem, Nat.reduceBEq, Nat.reduceAdd, Nat.reduceLeDiff, Nat.reduceSub, Int.reduceEq, c1, c2, c3, c4]) ?_
  rintro r rfl
  simp -dsimp -implicitDefEqProofs only [go_sem, Nat.reduceBEq, Nat.reduceAdd, Nat.reduceLeDiff, Nat.reduceSub, Int.reduceEq, c1, c2, c3, c4]
  repeat (first | with_reducible refine ask.of (by omega) ?_ | simp -dsimp -implicitDefEqProofs only [go_sem, Nat.reduceBEq, Nat.reduceAdd, Nat.reduceLeDiff, Nat.reduceSub, Int.reduceEq, bleR, ble6_1, ble6_2, ble6_3, ble6_4, ble6_5])
  refine CallE.of (c_implEncodePacket (pkOf b) (by show (cutB b 21 (b.length - 4)).length ≤ _; omega)) (by rintro r rfl; (repeat' first | exact trivial | exact pure_rowB _ | exact pure_rowO _ | exact pure_rowI _ | exact pure_rowBB _ | exact pure_rowPk _ _ | exact pure_rowSn _ _ | exact pure_rowFd _ _ | exact pure_rowBBB _ | exact pure_rowCl _ _ | exact pure_rowTb _ _ _ | refine And.intro ?_ ?_)) (by simp -dsimp -implicitDefEqProofs only [go_sem, Nat.reduceBEq, Nat.reduceAdd, Nat.reduceLeDiff, Nat.reduceSub, Int.reduceEq, pkC_of b, at_getD n1, at_getD n18]) ?_
  rintro r rfl
  simp -dsimp -implicitDefEqProofs only [go_sem, Nat.reduceBEq, Nat.reduceAdd, Nat.reduceLeDiff, Nat.reduceSub, Int.reduceEq, pkC_of b, at_getD n1, at_getD n18]
  have he := encP_le (pkOf b)
  have hf : (pkOf b).f.length = b.length - 25 := l4
  refine ifB'.of (fun h3 => ?_) (fun h3 => ?_)
  · simp -dsimp -implicitDefEqProofs only [go_sem, Nat.reduceBEq, Nat.reduceAdd, Nat.reduceLeDiff, Nat.reduceSub, Int.reduceEq]
    repeat (first | with_reducible refine ask.of (by omega) ?_ | simp -dsimp -implicitDefEqProofs only [go_sem, Nat.reduceBEq, Nat.reduceAdd, Nat.reduceLeDiff, Nat.reduceSub, Int.reduceEq, bleR, ble6_1, ble6_2, ble6_3, ble6_4, ble6_5])
    rw [decRes, decP_no (by rintro ⟨h4, h5⟩; rw [h5] at h3; omega)]; rfl
  simp -dsimp -implicitDefEqProofs only [go_sem, Nat.reduceBEq, Nat.reduceAdd, Nat.reduceLeDiff, Nat.reduceSub, Int.reduceEq]
  refine CallE.of (c_bytesEqual (encP (pkOf b)) b (by omega) (by omega)) (by rintro r rfl; (repeat' first | exact trivial | exact pure_rowB _ | exact pure_rowO _ | exact pure_rowI _ | exact pure_rowBB _ | exact pure_rowPk _ _ | exact pure_rowSn _ _ | exact pure_rowFd _ _ | exact pure_rowBBB _ | exact pure_rowCl _ _ | exact pure_rowTb _ _ _ | refine And.intro ?_ ?_)) (by simp -dsimp -implicitDefEqProofs only [go_sem, Nat.reduceBEq, Nat.reduceAdd, Nat.reduceLeDiff, Nat.reduceSub, Int.reduceEq]) ?_
  rintro r rfl
  simp -dsimp -implicitDefEqProofs only [go_sem, Nat.reduceBEq, Nat.reduceAdd, Nat.reduceLeDiff, Nat.reduceSub, Int.reduceEq]
  refine ifB'.of (fun h3 => ?_) (fun h3 => ?_)
  · simp -dsimp -implicitDefEqProofs only [go_sem, Nat.reduceBEq, Nat.reduceAdd, Nat.reduceLeDiff, Nat.reduceSub, Int.reduceEq]
    repeat (first | with_reducible refine ask.of (by omega) ?_ | simp -dsimp -implicitDefEqProofs only [go_sem, Nat.reduceBEq, Nat.reduceAdd, Nat.reduceLeDiff, Nat.reduceSub, Int.reduceEq, bleR, ble6_1, ble6_2, ble6_3, ble6_4, ble6_5])
    rw [decRes, decP_yes ⟨by omega, h3⟩, pkC_of]
  · simp -dsimp -implicitDefEqProofs only [go_sem, Nat.reduceBEq, Nat.reduceAdd, Nat.reduceLeDiff, Nat.reduceSub, Int.reduceEq]
    repeat (first | with_reducible refine ask.of (by omega) ?_ | simp -dsimp -implicitDefEqProofs only [go_sem, Nat.reduceBEq, Nat.reduceAdd, Nat.reduceLeDiff, Nat.reduceSub, Int.reduceEq, bleR, ble6_1, ble6_2, ble6_3, ble6_4, ble6_5])
    rw [decRes, decP_no (fun h => h3 h.2)]; rfl
end Go.Ev
set_option linter.unusedSimpArgs false
set_option linter.unusedVariables false
namespace Go.Ev
open Go Go.RowKit Go.Proofs
theorem cty_rd : cty Try.prog 121 = [some (5, 1), none] := by kernel_rfl
def rdAt (c : List UInt8) (p : Nat) : AV := .bx 121 [.rd .ent 5 1 (bytesA c), .v (.int .i64 p)]
def cd (code : List UInt8) : List UInt8 := code.take 600
theorem cd_len (code : List UInt8) : (cd code).length ≤ 600 := by simp [cd]; omega
theorem bl2 : Nat.ble 1 2 = true ∧ Nat.ble 2 2 = true ∧ Int.toNat 600 = 600 ∧ Int.toNat 0 = 0 ∧ Int.toNat 1 = 1 := ⟨rfl, rfl, rfl, rfl, rfl⟩
set_option maxRecDepth 8000 in
theorem c_l1open (code : List UInt8) (hb : code.length ≤ 1048576) : Meets Try.prog 66 [.rd .ent 5 1 (bytesA code)] (fun r => r = rdAt (cd code) 0) := by
  refine Meets.intro mixed (hint []) Try.func66 rfl (by decide) res_66 rty_66 (by kernel_rfl) ?_; 
  simp -dsimp -implicitDefEqProofs only [go_sem, Nat.reduceBEq, Nat.reduceAdd, Nat.reduceLeDiff, Nat.reduceSub, Int.reduceEq, initE]
  refine ifB'.of (fun h => ?_) (fun h => ?_)
  · simp -dsimp -implicitDefEqProofs only [go_sem, Nat.reduceBEq, Nat.reduceAdd, Nat.reduceLeDiff, Nat.reduceSub, Int.reduceEq, initE]
    repeat (first | with_reducible refine ask.of (by first | omega | decide) ?_ | simp -dsimp -implicitDefEqProofs only [go_sem, Nat.reduceBEq, Nat.reduceAdd, Nat.reduceLeDiff, Nat.reduceSub, Int.reduceEq, initE, bl2])
    rfl
  · simp -dsimp -implicitDefEqProofs only [go_sem, Nat.reduceBEq, Nat.reduceAdd, Nat.reduceLeDiff, Nat.reduceSub, Int.reduceEq, initE]
    repeat (first | with_reducible refine ask.of (by first | omega | decide) ?_ | simp -dsimp -implicitDefEqProofs only [go_sem, Nat.reduceBEq, Nat.reduceAdd, Nat.reduceLeDiff, Nat.reduceSub, Int.reduceEq, initE, bl2])
    have e : code.take 600 = code.take code.length := by rw [List.take_length, List.take_of_length_le (by omega)]
    rw [cd, e]
    rfl
def nxV (c : List UInt8) (p : Nat) : Nat := (c.getD p 0).toNat
def nxP (c : List UInt8) (p : Nat) : Nat := if p < c.length then p + 1 else p
theorem nxV_at {c : List UInt8} {p : Nat} (h : p < c.length) : nxV c p = c[p].toNat := by simp [nxV, h]
theorem nxV_end {c : List UInt8} {p : Nat} (h : ¬ p < c.length) : nxV c p = 0 := by simp [nxV, h]
theorem nxP_at {c : List UInt8} {p : Nat} (h : p < c.length) : nxP c p = p + 1 := if_pos h
theorem nxP_end {c : List UInt8} {p : Nat} (h : ¬ p < c.length) : nxP c p = p := if_neg h
theorem nxV_lt (c : List UInt8) (p : Nat) : nxV c p < 256 := (c.getD p 0).toNat_lt
theorem nxP_le (c : List UInt8) {p : Nat} (h : p ≤ c.length) : nxP c p ≤ c.length := by unfold nxP; split <;> omega
theorem c_next (c : List UInt8) (p : Nat) (hp : p ≤ 1048576) : MeetsM Try.prog 67 [.mu (rdAt c p)] (fun r rs => r = .v (.int .i64 (nxV c p)) ∧ rs = [rdAt c (nxP c p)]) := by
  refine MeetsM.intro mixed (hint []) Try.func67 rfl (by decide) res_67 rty_67 (pts := parTys Try.prog 67) (by rw [par_67]; rfl) (by kernel_rfl) ?_; rw [par_67]; intro vals; 
  simp -dsimp -implicitDefEqProofs only [go_sem, Nat.reduceBEq, Nat.reduceAdd, Nat.reduceLeDiff, Nat.reduceSub, Int.reduceEq, rdAt]
  repeat (first | with_reducible refine ask.of (by first | omega | decide) ?_ | simp -dsimp -implicitDefEqProofs only [go_sem, Nat.reduceBEq, Nat.reduceAdd, Nat.reduceLeDiff, Nat.reduceSub, Int.reduceEq, bl2])
  refine ifB'.of (fun h => ?_) (fun h => ?_)
  · have hn : ¬ p < c.length := by omega
    repeat (first | with_reducible refine ask.of (by first | omega | decide) ?_ | simp -dsimp -implicitDefEqProofs only [go_sem, Nat.reduceBEq, Nat.reduceAdd, Nat.reduceLeDiff, Nat.reduceSub, Int.reduceEq, bl2, cty_rd])
    rw [nxV_end hn, nxP_end hn]
    exact ⟨rfl, rfl⟩
  · have hn : p < c.length := by omega
    repeat (first | with_reducible refine ask.of (by first | omega | decide) ?_ | simp -dsimp -implicitDefEqProofs only [go_sem, Nat.reduceBEq, Nat.reduceAdd, Nat.reduceLeDiff, Nat.reduceSub, Int.reduceEq, bl2, cty_rd, bytesA_at hn, i64_u8, wrap_succ (show p < 4611686018427387904 by omega)])
    rw [nxV_at hn, nxP_at hn]
    exact ⟨rfl, rfl⟩
def drP (c : List UInt8) (p : Nat) : Nat → Nat
  | 0 => p
  | i + 1 => nxP c (drP c p i)
theorem drP_le (c : List UInt8) {p : Nat} (h : p ≤ c.length) : ∀ i, drP c p i ≤ c.length
  | 0 => h
  | i + 1 => nxP_le c (drP_le c h i)
def drL (c : List UInt8) (p i : Nat) : List UInt8 := (List.range i).map fun j => UInt8.ofNat (nxV c (drP c p j))
theorem drL_snoc (c : List UInt8) (p i : Nat) : drL c p i ++ [UInt8.ofNat (nxV c (drP c p i))] = drL c p (i + 1) := by simp [drL, List.range_succ]
theorem drL_length (c : List UInt8) (p i : Nat) : (drL c p i).length = i := by simp [drL]
def dbN (c : List UInt8) (p m : Nat) : Nat := nxV c p % m
def db (c : List UInt8) (p m : Nat) : List UInt8 := drL c (nxP c p) (dbN c p m)
def dbP (c : List UInt8) (p m : Nat) : Nat := drP c (nxP c p) (dbN c p m)
theorem db_length (c : List UInt8) (p : Nat) {m : Nat} (h : 0 < m) : (db c p m).length < m := by rw [db, drL_length]; exact Nat.mod_lt _ h
theorem dbP_le (c : List UInt8) {p m : Nat} (h : p ≤ c.length) : dbP c p m ≤ c.length := drP_le c (nxP_le c h) _
theorem rem_nat (a b : Nat) : (a : Int).tmod (b : Int) = ((a % b : Nat) : Int) := rfl
theorem u8_nx (n : Nat) (h : n < 256) : IntKind.u8.wrap (n : Int) = ((UInt8.ofNat n).toNat : Int) := by
  have e : (UInt8.ofNat n).toNat = n := by simp; omega
  rw [e]
  have h1 : IntKind.u8.wrap (n : Int) = (n : Int) % 256 := rfl
  rw [h1]; omega
set_option maxRecDepth 8000 in
theorem c_l1drawBytes (c : List UInt8) (p m : Nat) (hp : p ≤ c.length) (hc : c.length ≤ 600) (hm : 0 < m) (hm2 : m ≤ 1000) : MeetsM Try.prog 77 [.mu (rdAt c p), .rd (.v (.int .i64 m))] (fun r rs => r = rowB (db c p m) ∧ rs = [rdAt c (dbP c p m), .any]) := by
  refine MeetsM.intro mixed (hint [(6, 122)]) Try.func77 rfl (by decide) res_77 rty_77 (pts := parTys Try.prog 77) (by rw [par_77]; rfl) (by kernel_rfl) ?_; rw [par_77]; intro vals; 
  have hv := nxV_lt c p
  have hq := nxP_le c hp
  have e1 : ((nxV c p : Nat) : Int).tmod (m : Int) = ((dbN c p m : Nat) : Int) := rem_nat _ _
  have hn : dbN c p m < m := Nat.mod_lt _ hm
  simp -dsimp -implicitDefEqProofs only [go_sem, Nat.reduceBEq, Nat.reduceAdd, Nat.reduceLeDiff, Nat.reduceSub, Int.reduceEq, rdAt]
  refine CallE.mutLend (c_next c p (by omega)) (by simp -dsimp -implicitDefEqProofs only [go_sem, Nat.reduceBEq, Nat.reduceAdd, Nat.reduceLeDiff, Nat.reduceSub, Int.reduceEq]) (by simp -dsimp -implicitDefEqProofs only [go_sem, Nat.reduceBEq, Nat.reduceAdd, Nat.reduceLeDiff, Nat.reduceSub, Int.reduceEq, rdAt]) (by simp -dsimp -implicitDefEqProofs only [go_sem, Nat.reduceBEq, Nat.reduceAdd, Nat.reduceLeDiff, Nat.reduceSub, Int.reduceEq, rdAt]) ?_
  rintro r rs ⟨rfl, rfl⟩
  simp -dsimp -implicitDefEqProofs only [go_sem, Nat.reduceBEq, Nat.reduceAdd, Nat.reduceLeDiff, Nat.reduceSub, Int.reduceEq, rdAt]
  repeat (first | with_reducible refine ask.of (by first | omega | decide) ?_ | simp -dsimp -implicitDefEqProofs only [go_sem, Nat.reduceBEq, Nat.reduceAdd, Nat.reduceLeDiff, Nat.reduceSub, Int.reduceEq, e1])
  refine LoopE.cnt (dbN c p m) (fun i s => s.env 0 = .ptr [1000000, 0, 0] 0 0 0 ∧ s.env 5 = .v (.int .i64 (dbN c p m : Nat)) ∧ s.env 6 = .ref [6] ∧ s.env 7 = .v (.int .i64 i) ∧ s.σ [1000000, 0, 0] = some (.box 121 [.rd .ent 5 1 (bytesA c), .v (.int .i64 (drP c (nxP c p) i : Nat))]) ∧ s.σ [6] = some (.row 5 1 (bytesA (drL c (nxP c p) i))) ∧ s.σ [1000001, 0] = some (.pin (.ptr [1000000, 0, 0] 0 0 0) (vals 0))) ⟨by simp -dsimp -implicitDefEqProofs only [go_sem, Nat.reduceBEq, Nat.reduceAdd, Nat.reduceLeDiff, Nat.reduceSub, Int.reduceEq], by simp -dsimp -implicitDefEqProofs only [go_sem, Nat.reduceBEq, Nat.reduceAdd, Nat.reduceLeDiff, Nat.reduceSub, Int.reduceEq], by simp -dsimp -implicitDefEqProofs only [go_sem, Nat.reduceBEq, Nat.reduceAdd, Nat.reduceLeDiff, Nat.reduceSub, Int.reduceEq], by simp -dsimp -implicitDefEqProofs only [go_sem, Nat.reduceBEq, Nat.reduceAdd, Nat.reduceLeDiff, Nat.reduceSub, Int.reduceEq] <;> rfl, by simp -dsimp -implicitDefEqProofs only [go_sem, Nat.reduceBEq, Nat.reduceAdd, Nat.reduceLeDiff, Nat.reduceSub, Int.reduceEq] <;> rfl, by simp -dsimp -implicitDefEqProofs only [go_sem, Nat.reduceBEq, Nat.reduceAdd, Nat.reduceLeDiff, Nat.reduceSub, Int.reduceEq] <;> rfl, by simp -dsimp -implicitDefEqProofs only [go_sem, Nat.reduceBEq, Nat.reduceAdd, Nat.reduceLeDiff, Nat.reduceSub, Int.reduceEq]⟩ ?_
  rintro i ⟨e, σ⟩ hi ⟨h0, h5, h6, h7, hs0, hs6, hs1⟩ K hK
  simp only at h0 h5 h6 h7 hs0 hs6 hs1
  simp -dsimp -implicitDefEqProofs only [go_sem, Nat.reduceBEq, Nat.reduceAdd, Nat.reduceLeDiff, Nat.reduceSub, Int.reduceEq, h0, h5, h6, h7, hs0, hs6, hs1]
  refine ifB'.of (fun hlt => ?_) (fun hlt => ?_)
  · have hlt : i < dbN c p m := by omega
    have hq2 := drP_le c hq i
    have hl := drL_length c (nxP c p) i
    simp -dsimp -implicitDefEqProofs only [go_sem, Nat.reduceBEq, Nat.reduceAdd, Nat.reduceLeDiff, Nat.reduceSub, Int.reduceEq, h0, h5, h6, h7, hs0, hs6, hs1]
    refine CallE.mutLend (c_next c (drP c (nxP c p) i) (by omega)) (by simp -dsimp -implicitDefEqProofs only [go_sem, Nat.reduceBEq, Nat.reduceAdd, Nat.reduceLeDiff, Nat.reduceSub, Int.reduceEq, h0, h5, h6, h7, hs0, hs6, hs1]) (by simp -dsimp -implicitDefEqProofs only [go_sem, Nat.reduceBEq, Nat.reduceAdd, Nat.reduceLeDiff, Nat.reduceSub, Int.reduceEq, h0, h5, h6, h7, hs0, hs6, hs1, rdAt]) (by simp -dsimp -implicitDefEqProofs only [go_sem, Nat.reduceBEq, Nat.reduceAdd, Nat.reduceLeDiff, Nat.reduceSub, Int.reduceEq, h0, h5, h6, h7, hs0, hs6, hs1, rdAt]) ?_
    rintro r rs ⟨rfl, rfl⟩
    simp -dsimp -implicitDefEqProofs only [go_sem, Nat.reduceBEq, Nat.reduceAdd, Nat.reduceLeDiff, Nat.reduceSub, Int.reduceEq, h0, h5, h6, h7, hs0, hs6, hs1, rdAt]
    repeat (first | with_reducible refine ask.of (by first | omega | decide | (simp only [bytesA_length, hl, List.length_cons, List.length_nil]; omega)) ?_ | simp -dsimp -implicitDefEqProofs only [go_sem, Nat.reduceBEq, Nat.reduceAdd, Nat.reduceLeDiff, Nat.reduceSub, Int.reduceEq, h0, h5, h6, h7, hs0, hs6, hs1, u8_nx _ (nxV_lt c (drP c (nxP c p) i)), bytesA_snoc, drL_snoc])
    refine hK _ hlt ?_
    simp -dsimp -implicitDefEqProofs only [go_sem, Nat.reduceBEq, Nat.reduceAdd, Nat.reduceLeDiff, Nat.reduceSub, Int.reduceEq, h0, h5, h6, h7, hs0, hs6, hs1, wrap_succ (show i < 4611686018427387904 by omega), drP]
  · have : i = dbN c p m := by omega
    subst this
    simp -dsimp -implicitDefEqProofs only [go_sem, Nat.reduceBEq, Nat.reduceAdd, Nat.reduceLeDiff, Nat.reduceSub, Int.reduceEq, h0, h5, h6, h7, hs0, hs6, hs1, cty_rd]
    exact ⟨rfl, rfl⟩
end Go.Ev
set_option linter.unusedSimpArgs false
set_option linter.unusedVariables false
namespace Go.Ev
open Go Go.RowKit Go.Proofs
theorem drop_drop (b : List UInt8) (w i : Nat) : (b.drop (w * i)).drop w = b.drop (w * (i + 1)) := by
  rw [List.drop_drop, Nat.mul_add, Nat.mul_one]
end Go.Ev
set_option linter.unusedSimpArgs false
set_option linter.unusedVariables false
namespace Go.Ev
open Go Go.RowKit Go.Proofs
theorem leN_leB (x : Int) : ∀ w, leN (leB w x) = uN x % 256 ^ w
  | 0 => by simp [leB, leN, Nat.mod_one]
  | w + 1 => by
    rw [← leB_succ, leN_snoc, leN_leB x w, leB_length, Nat.pow_succ, Nat.mod_mul]
    congr 2
    simp
end Go.Ev
set_option linter.unusedSimpArgs false
set_option linter.unusedVariables false
namespace Go.Ev
open Go Go.RowKit Go.Proofs
theorem blA : Nat.ble 0 1 = true ∧ Nat.ble 1 1 = true ∧ Nat.ble 0 2 = true ∧ Nat.ble 1 2 = true ∧ Nat.ble 2 2 = true ∧ Nat.ble 0 3 = true ∧ Nat.ble 1 3 = true ∧ Nat.ble 2 3 = true ∧ Nat.ble 3 3 = true ∧ Nat.ble 0 4 = true ∧ Nat.ble 1 4 = true ∧ Nat.ble 2 4 = true ∧ Nat.ble 3 4 = true ∧ Nat.ble 4 4 = true ∧ Nat.ble 0 5 = true ∧ Nat.ble 1 5 = true ∧ Nat.ble 2 5 = true ∧ Nat.ble 3 5 = true ∧ Nat.ble 4 5 = true ∧ Nat.ble 5 5 = true ∧ Nat.ble 0 6 = true ∧ Nat.ble 1 6 = true ∧ Nat.ble 2 6 = true ∧ Nat.ble 3 6 = true ∧ Nat.ble 4 6 = true ∧ Nat.ble 5 6 = true ∧ Nat.ble 6 6 = true ∧ Nat.ble 0 7 = true ∧ Nat.ble 1 7 = true ∧ Nat.ble 2 7 = true ∧ Nat.ble 3 7 = true ∧ Nat.ble 4 7 = true ∧ Nat.ble 5 7 = true ∧ Nat.ble 6 7 = true ∧ Nat.ble 7 7 = true := ⟨rfl, rfl, rfl, rfl, rfl, rfl, rfl, rfl, rfl, rfl, rfl, rfl, rfl, rfl, rfl, rfl, rfl, rfl, rfl, rfl, rfl, rfl, rfl, rfl, rfl, rfl, rfl, rfl, rfl, rfl, rfl, rfl, rfl, rfl, rfl⟩
theorem fill_snoc {α : Type} (x : α) (i : Nat) : List.replicate i x ++ [x] = List.replicate (i + 1) x := by rw [List.replicate_succ']
theorem u8cons (b : UInt8) (l : List UInt8) : [AV.v (.int .u8 b.toNat)] :: bytesA l = bytesA (b :: l) := rfl
theorem row0 : AV.row 5 1 [] = AV.row 5 1 (bytesA []) := rfl
theorem c_l1fill (b : UInt8) (n : Nat) (hn : n ≤ 1048576) : Meets Try.prog 78 [.v (.int .u8 b.toNat), .v (.int .i64 n)] (fun r => r = rowB (List.replicate n b)) := by
  refine Meets.intro mixed (hint [(5, 122)]) Try.func78 rfl (by decide) res_78 rty_78 (by kernel_rfl) ?_; 
  simp -dsimp -implicitDefEqProofs only [go_sem, Nat.reduceBEq, Nat.reduceAdd, Nat.reduceLeDiff, Nat.reduceSub, Int.reduceEq]
  refine LoopE.cnt n (fun i s => s.env 0 = .v (.int .u8 b.toNat) ∧ s.env 1 = .v (.int .i64 n) ∧ s.env 5 = .ref [5] ∧ s.env 6 = .v (.int .i64 i) ∧ s.σ [5] = some (.row 5 1 (bytesA (List.replicate i b)))) ⟨by simp -dsimp -implicitDefEqProofs only [go_sem, Nat.reduceBEq, Nat.reduceAdd, Nat.reduceLeDiff, Nat.reduceSub, Int.reduceEq, initE], by simp -dsimp -implicitDefEqProofs only [go_sem, Nat.reduceBEq, Nat.reduceAdd, Nat.reduceLeDiff, Nat.reduceSub, Int.reduceEq, initE], by simp -dsimp -implicitDefEqProofs only [go_sem, Nat.reduceBEq, Nat.reduceAdd, Nat.reduceLeDiff, Nat.reduceSub, Int.reduceEq], by simp -dsimp -implicitDefEqProofs only [go_sem, Nat.reduceBEq, Nat.reduceAdd, Nat.reduceLeDiff, Nat.reduceSub, Int.reduceEq] <;> rfl, by simp -dsimp -implicitDefEqProofs only [go_sem, Nat.reduceBEq, Nat.reduceAdd, Nat.reduceLeDiff, Nat.reduceSub, Int.reduceEq] <;> rfl⟩ ?_
  rintro i ⟨e, σ⟩ hi ⟨h0, h1, h5, h6, hs⟩ K hK
  simp only at h0 h1 h5 h6 hs
  simp -dsimp -implicitDefEqProofs only [go_sem, Nat.reduceBEq, Nat.reduceAdd, Nat.reduceLeDiff, Nat.reduceSub, Int.reduceEq, h0, h1, h5, h6, hs]
  refine ifB'.of (fun hlt => ?_) (fun hlt => ?_)
  · have hlt : i < n := by omega
    repeat (first | with_reducible refine ask.of (by first | omega | decide | (simp only [bytesA_length, List.length_replicate, List.length_cons, List.length_nil]; omega)) ?_ | simp -dsimp -implicitDefEqProofs only [go_sem, Nat.reduceBEq, Nat.reduceAdd, Nat.reduceLeDiff, Nat.reduceSub, Int.reduceEq, h0, h1, h5, h6, hs, List.length_replicate])
    refine hK _ hlt ?_
    simp -dsimp -implicitDefEqProofs only [go_sem, Nat.reduceBEq, Nat.reduceAdd, Nat.reduceLeDiff, Nat.reduceSub, Int.reduceEq, h0, h1, h5, h6, hs, wrap_succ (show i < 4611686018427387904 by omega), fill_snoc]
  · have : i = n := by omega
    subst this
    simp -dsimp -implicitDefEqProofs only [go_sem, Nat.reduceBEq, Nat.reduceAdd, Nat.reduceLeDiff, Nat.reduceSub, Int.reduceEq, h0, h1, h5, h6, hs]
theorem tmodL (n m : Nat) : ((n : Nat) : Int).tmod ((m : Nat) : Int) = ((n % m : Nat) : Int) := rfl
theorem tdivL {n : Nat} (m : Nat) (h : n ≤ 4611686018427387904) : IntKind.i64.wrap (((n : Nat) : Int).tdiv ((m : Nat) : Int)) = ((n / m : Nat) : Int) := by
  rw [show ((n : Nat) : Int).tdiv ((m : Nat) : Int) = ((n / m : Nat) : Int) from rfl]
  have h1 := Nat.div_le_self n m
  generalize n / m = d at *
  exact wrap_i64_of (by omega) (by omega)
theorem addL (m : Nat) {n : Nat} (h : n ≤ 4611686018427387904) (hm : m ≤ 1000000000000) : IntKind.i64.wrap (((m : Nat) : Int) + ((n : Nat) : Int)) = ((m + n : Nat) : Int) := by rw [wrap_i64_of (by omega) (by omega)]; omega
theorem mulL (m : Nat) {n : Nat} (h : n ≤ 1000000) (hm : m ≤ 1000) : IntKind.i64.wrap (((n : Nat) : Int) * ((m : Nat) : Int)) = ((n * m : Nat) : Int) := by
  have : n * m ≤ 1000000 * 1000 := Nat.mul_le_mul h hm
  rw [show ((n : Nat) : Int) * ((m : Nat) : Int) = ((n * m : Nat) : Int) from (Int.natCast_mul ..).symm]
  exact wrap_i64_of (by omega) (by omega)
end Go.Ev
set_option linter.unusedSimpArgs false
set_option linter.unusedVariables false
namespace Go.Ev
open Go Go.RowKit Go.Proofs
structure Sn where
  p : Pk
  q : Int
def snC (s : Sn) : List AV := [.v (.int .i64 s.p.a), .v (.int .i64 s.p.b), .v (.int .i64 s.p.c), .v (.int .i64 s.p.d), .v (.bool s.p.e), .row 5 1 (bytesA s.p.f), .v (.int .i64 s.q)]
def rowPk (T : Nat) (ps : List Pk) : AV := .row T 6 (ra pkC ps)
def rowSn (T : Nat) (ps : List Sn) : AV := .row T 7 (ra snC ps)
theorem pure_rowPk (T : Nat) (ps : List Pk) : (rowPk T ps).pure := pureEls_ra (enc := pkC) (fun x => ⟨trivial, trivial, trivial, trivial, trivial, pureEls_bytes _, trivial⟩) ps
theorem pure_rowSn (T : Nat) (ps : List Sn) : (rowSn T ps).pure := pureEls_ra (enc := snC) (fun x => ⟨trivial, trivial, trivial, trivial, trivial, pureEls_bytes _, trivial, trivial⟩) ps
theorem Sn_at {xs : List Sn} {i : Nat} (h : i < xs.length) : (ra snC xs)[i]? = some (snC xs[i]) := ra_at h
end Go.Ev
set_option linter.unusedSimpArgs false
set_option linter.unusedVariables false
namespace Go.Ev
open Go Go.RowKit Go.Proofs
structure LO where
  a : Int
  b : Int
  c : Int
  h : List Sn
def loC (T : Nat) (x : LO) : List AV := [.v (.int .i64 x.a), .v (.int .i64 x.b), .v (.int .i64 x.c), .row T 7 (ra snC x.h)]
def loAt (x : LO) (i : Nat) (h : i < x.h.length) : Prop := okPk x.h[i].p ∧ x.h[i].p.a = 1 ∧ x.h[i].p.b = x.a ∧ x.h[i].p.c = x.b - x.h.length + i ∧ -1 ≤ x.h[i].q ∧ x.h[i].q ≤ x.c
def okLO (x : LO) : Prop := (1 ≤ x.a ∧ x.a ≤ 1000000000 ∧ 0 ≤ x.b ∧ x.b ≤ 1000000000000 ∧ 0 ≤ x.c ∧ x.c ≤ 1000000000 ∧ x.h.length ≤ 300) ∧ ∀ i (h : i < x.h.length), loAt x i h
noncomputable def loB (x : LO) : Bool := @decide (okLO x) (Classical.propDecidable _)
theorem lo_f {x : LO} (h : ¬ okLO x) : false = loB x := (@decide_eq_false _ (Classical.propDecidable _) h).symm
theorem lo_t {x : LO} (h : okLO x) : true = loB x := (@decide_eq_true _ (Classical.propDecidable _) h).symm
set_option maxRecDepth 4000 in
theorem c_specValidOut (x : LO) (hx : x.h.length ≤ 1048576) (hb : ∀ b ∈ x.h, b.p.f.length ≤ 1048576) : Meets Try.prog 11 [.agg (loC 40 x)] (fun r => r = .v (.bool (loB x))) := by
  refine Meets.intro mixed (hint []) Try.func11 rfl (by decide) res_11 rty_11 (by kernel_rfl) ?_; 
  simp -dsimp -implicitDefEqProofs only [go_sem, Nat.reduceBEq, Nat.reduceAdd, Nat.reduceLeDiff, Nat.reduceSub, Int.reduceEq, loC, decide_true]
  repeat' (first | with_reducible refine ifB'.of (fun h => ?_) (fun h => ?_) | with_reducible refine ask.of (by omega) ?_ | ((with_reducible refine lo_f ?_); exact fun (hh : okLO x) => by { have := hh.1; omega }) | simp -dsimp -implicitDefEqProofs only [go_sem, Nat.reduceBEq, Nat.reduceAdd, Nat.reduceLeDiff, Nat.reduceSub, Int.reduceEq, decide_true, bleR])
  refine LoopE.cnt x.h.length (fun i s => s.env 1 = .ptr [1] 0 0 0 ∧ s.env 3 = .v (.int .i64 i) ∧ s.σ [1] = some (.box 25 [.v (.int .i64 x.a), .v (.int .i64 x.b), .v (.int .i64 x.c), .rd .ent 40 7 (ra snC x.h)]) ∧ ∀ j (hj : j < x.h.length), j < i → loAt x j hj) ⟨by simp -dsimp -implicitDefEqProofs only [go_sem, Nat.reduceBEq, Nat.reduceAdd, Nat.reduceLeDiff, Nat.reduceSub, Int.reduceEq], by simp -dsimp -implicitDefEqProofs only [go_sem, Nat.reduceBEq, Nat.reduceAdd, Nat.reduceLeDiff, Nat.reduceSub, Int.reduceEq] <;> simp, by simp -dsimp -implicitDefEqProofs only [go_sem, Nat.reduceBEq, Nat.reduceAdd, Nat.reduceLeDiff, Nat.reduceSub, Int.reduceEq], fun j hj h => absurd h (by omega)⟩ ?_
  rintro i ⟨e, σ⟩ hi ⟨h1, h3, hs, hz⟩ K hK
  simp only at h1 h3 hs
  repeat (first | with_reducible refine ask.of (by omega) ?_ | simp -dsimp -implicitDefEqProofs only [go_sem, Nat.reduceBEq, Nat.reduceAdd, Nat.reduceLeDiff, Nat.reduceSub, Int.reduceEq, h1, h3, hs, bleR])
  refine ifB'.of (fun hlt => ?_) (fun hlt => ?_)
  · have hlt : i < x.h.length := by omega
    repeat (first | with_reducible refine ask.of (by omega) ?_ | simp -dsimp -implicitDefEqProofs only [go_sem, Nat.reduceBEq, Nat.reduceAdd, Nat.reduceLeDiff, Nat.reduceSub, Int.reduceEq, h1, h3, hs, bleR, Sn_at hlt, snC, show Nat.ble 6 7 = true from rfl])
    refine CallE.of (c_l5valid x.h[i].p (hb _ (List.getElem_mem _))) (by rintro r rfl; (repeat' first | exact trivial | exact pure_rowB _ | exact pure_rowO _ | exact pure_rowI _ | exact pure_rowBB _ | exact pure_rowPk _ _ | exact pure_rowSn _ _ | exact pure_rowFd _ _ | exact pure_rowBBB _ | exact pure_rowCl _ _ | exact pure_rowTb _ _ _ | refine And.intro ?_ ?_)) (by simp -dsimp -implicitDefEqProofs only [go_sem, Nat.reduceBEq, Nat.reduceAdd, Nat.reduceLeDiff, Nat.reduceSub, Int.reduceEq, h1, h3, hs, pkC]) ?_
    rintro r rfl
    simp -dsimp -implicitDefEqProofs only [go_sem, Nat.reduceBEq, Nat.reduceAdd, Nat.reduceLeDiff, Nat.reduceSub, Int.reduceEq, h1, h3, hs, pkC]
    have e9 : IntKind.i64.wrap (x.b - (x.h.length : Int)) = x.b - (x.h.length : Int) := wrap_i64_of (by omega) (by omega)
    have e8 : IntKind.i64.wrap (x.b - (x.h.length : Int) + (i : Int)) = x.b - (x.h.length : Int) + (i : Int) := wrap_i64_of (by omega) (by omega)
    cases h5 : okB x.h[i].p
    · repeat (first | with_reducible refine ask.of (by omega) ?_ | simp -dsimp -implicitDefEqProofs only [go_sem, Nat.reduceBEq, Nat.reduceAdd, Nat.reduceLeDiff, Nat.reduceSub, Int.reduceEq, h1, h3, hs, h5, Bool.not_false])
      exact lo_f fun (hh : okLO x) => by
        rw [okB, decide_eq_true (hh.2 i hlt).1] at h5
        cases h5
    · have h6 : okPk x.h[i].p := by simpa [okB] using h5
      repeat' (first | with_reducible refine ifB'.of (fun h => ?_) (fun h => ?_) | with_reducible refine ask.of (by omega) ?_ | ((with_reducible refine lo_f ?_); exact fun (hh : okLO x) => by { have h7 := (hh.2 i hlt).2; omega }) | simp -dsimp -implicitDefEqProofs only [go_sem, Nat.reduceBEq, Nat.reduceAdd, Nat.reduceLeDiff, Nat.reduceSub, Int.reduceEq, h1, h3, hs, h5, Bool.not_true, e9, e8])
      refine hK _ hlt ?_
      simp -dsimp -implicitDefEqProofs only [go_sem, Nat.reduceBEq, Nat.reduceAdd, Nat.reduceLeDiff, Nat.reduceSub, Int.reduceEq, h1, h3, hs, wrap_succ (show i < 4611686018427387904 by omega)]
      exact fun j hj hjt => by
        by_cases hji : j = i
        · subst hji; exact ⟨h6, by omega, by omega, by omega, by omega, by omega⟩
        · exact hz j hj (by omega)
  · have hi : i = x.h.length := by omega
    simp -dsimp -implicitDefEqProofs only [go_sem, Nat.reduceBEq, Nat.reduceAdd, Nat.reduceLeDiff, Nat.reduceSub, Int.reduceEq, h1, h3, hs]
    exact lo_t ⟨by omega, fun j hj => hz j hj (by omega)⟩
set_option maxRecDepth 4000 in
theorem c_implValidOut (x : LO) (hx : x.h.length ≤ 1048576) (hb : ∀ b ∈ x.h, b.p.f.length ≤ 1048576) : Meets Try.prog 70 [.agg (loC 40 x)] (fun r => r = .v (.bool (loB x))) := by
  refine Meets.intro mixed (hint []) Try.func70 rfl (by decide) res_70 rty_70 (by kernel_rfl) ?_; 
  simp -dsimp -implicitDefEqProofs only [go_sem, Nat.reduceBEq, Nat.reduceAdd, Nat.reduceLeDiff, Nat.reduceSub, Int.reduceEq, loC, decide_true]
  repeat' (first | with_reducible refine ifB'.of (fun h => ?_) (fun h => ?_) | with_reducible refine ask.of (by omega) ?_ | ((with_reducible refine lo_f ?_); exact fun (hh : okLO x) => by { have := hh.1; omega }) | simp -dsimp -implicitDefEqProofs only [go_sem, Nat.reduceBEq, Nat.reduceAdd, Nat.reduceLeDiff, Nat.reduceSub, Int.reduceEq, decide_true, bleR])
  refine LoopE.cnt x.h.length (fun i s => s.env 1 = .ptr [1] 0 0 0 ∧ s.env 3 = .v (.int .i64 x.h.length) ∧ s.env 43 = .rd .ent 40 7 (ra snC x.h) ∧ s.env 44 = .v (.int .i64 x.h.length) ∧ s.env 45 = .v (.int .i64 i) ∧ s.σ [1] = some (.box 25 [.v (.int .i64 x.a), .v (.int .i64 x.b), .v (.int .i64 x.c), .rd .ent 40 7 (ra snC x.h)]) ∧ ∀ j (hj : j < x.h.length), j < i → loAt x j hj) ⟨by simp -dsimp -implicitDefEqProofs only [go_sem, Nat.reduceBEq, Nat.reduceAdd, Nat.reduceLeDiff, Nat.reduceSub, Int.reduceEq], by simp -dsimp -implicitDefEqProofs only [go_sem, Nat.reduceBEq, Nat.reduceAdd, Nat.reduceLeDiff, Nat.reduceSub, Int.reduceEq], by simp -dsimp -implicitDefEqProofs only [go_sem, Nat.reduceBEq, Nat.reduceAdd, Nat.reduceLeDiff, Nat.reduceSub, Int.reduceEq], by simp -dsimp -implicitDefEqProofs only [go_sem, Nat.reduceBEq, Nat.reduceAdd, Nat.reduceLeDiff, Nat.reduceSub, Int.reduceEq], by simp -dsimp -implicitDefEqProofs only [go_sem, Nat.reduceBEq, Nat.reduceAdd, Nat.reduceLeDiff, Nat.reduceSub, Int.reduceEq] <;> simp, by simp -dsimp -implicitDefEqProofs only [go_sem, Nat.reduceBEq, Nat.reduceAdd, Nat.reduceLeDiff, Nat.reduceSub, Int.reduceEq], fun j hj h => absurd h (by omega)⟩ ?_
  rintro i ⟨e, σ⟩ hi ⟨h1, h3, h43, h44, h45, hs, hz⟩ K hK
  simp only at h1 h3 h43 h44 h45 hs
  simp -dsimp -implicitDefEqProofs only [go_sem, Nat.reduceBEq, Nat.reduceAdd, Nat.reduceLeDiff, Nat.reduceSub, Int.reduceEq, h1, h3, h43, h44, h45, hs]
  refine ifB'.of (fun hlt => ?_) (fun hlt => ?_)
  · have hlt : i < x.h.length := by omega
    repeat (first | with_reducible refine ask.of (by omega) ?_ | simp -dsimp -implicitDefEqProofs only [go_sem, Nat.reduceBEq, Nat.reduceAdd, Nat.reduceLeDiff, Nat.reduceSub, Int.reduceEq, h1, h3, h43, h44, h45, hs, bleR, Sn_at hlt, snC, show Nat.ble 6 7 = true from rfl])
    refine CallE.of (c_packetOk x.h[i].p (hb _ (List.getElem_mem _))) (by rintro r rfl; (repeat' first | exact trivial | exact pure_rowB _ | exact pure_rowO _ | exact pure_rowI _ | exact pure_rowBB _ | exact pure_rowPk _ _ | exact pure_rowSn _ _ | exact pure_rowFd _ _ | exact pure_rowBBB _ | exact pure_rowCl _ _ | exact pure_rowTb _ _ _ | refine And.intro ?_ ?_)) (by simp -dsimp -implicitDefEqProofs only [go_sem, Nat.reduceBEq, Nat.reduceAdd, Nat.reduceLeDiff, Nat.reduceSub, Int.reduceEq, h1, h3, h43, h44, h45, hs, pkC]) ?_
    rintro r rfl
    simp -dsimp -implicitDefEqProofs only [go_sem, Nat.reduceBEq, Nat.reduceAdd, Nat.reduceLeDiff, Nat.reduceSub, Int.reduceEq, h1, h3, h43, h44, h45, hs, pkC]
    have e9 : IntKind.i64.wrap (x.b - (x.h.length : Int)) = x.b - (x.h.length : Int) := wrap_i64_of (by omega) (by omega)
    have e8 : IntKind.i64.wrap (x.b - (x.h.length : Int) + (i : Int)) = x.b - (x.h.length : Int) + (i : Int) := wrap_i64_of (by omega) (by omega)
    cases h5 : okB x.h[i].p
    · repeat (first | with_reducible refine ask.of (by omega) ?_ | simp -dsimp -implicitDefEqProofs only [go_sem, Nat.reduceBEq, Nat.reduceAdd, Nat.reduceLeDiff, Nat.reduceSub, Int.reduceEq, h1, h3, h43, h44, h45, hs, h5, Bool.not_false])
      exact lo_f fun (hh : okLO x) => by
        rw [okB, decide_eq_true (hh.2 i hlt).1] at h5
        cases h5
    · have h6 : okPk x.h[i].p := by simpa [okB] using h5
      repeat' (first | with_reducible refine ifB'.of (fun h => ?_) (fun h => ?_) | with_reducible refine ask.of (by omega) ?_ | ((with_reducible refine lo_f ?_); exact fun (hh : okLO x) => by { have h7 := (hh.2 i hlt).2; omega }) | simp -dsimp -implicitDefEqProofs only [go_sem, Nat.reduceBEq, Nat.reduceAdd, Nat.reduceLeDiff, Nat.reduceSub, Int.reduceEq, h1, h3, h43, h44, h45, hs, h5, Bool.not_true, e9, e8])
      refine hK _ hlt ?_
      simp -dsimp -implicitDefEqProofs only [go_sem, Nat.reduceBEq, Nat.reduceAdd, Nat.reduceLeDiff, Nat.reduceSub, Int.reduceEq, h1, h3, h43, h44, h45, hs, wrap_succ (show i < 4611686018427387904 by omega)]
      exact fun j hj hjt => by
        by_cases hji : j = i
        · subst hji; exact ⟨h6, by omega, by omega, by omega, by omega, by omega⟩
        · exact hz j hj (by omega)
  · have hi : i = x.h.length := by omega
    simp -dsimp -implicitDefEqProofs only [go_sem, Nat.reduceBEq, Nat.reduceAdd, Nat.reduceLeDiff, Nat.reduceSub, Int.reduceEq, h1, h3, h43, h44, h45, hs]
    exact lo_t ⟨by omega, fun j hj => hz j hj (by omega)⟩
end Go.Ev
