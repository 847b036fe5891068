/- Part 12 of what the row leans on: the evaluator, words, contracts of functions; pruned by a program of ours. -/
import Derived.Test.YtijmbcnhkdhkeaaLp11
import Derived.Test.YtijmbcnhkdhkeaaProg
import Derived.KernelRfl
namespace Go.Ev
open Go Go.Proofs
theorem mixed : Try.prog.follows .mixedOrders = true := by kernel_rfl
theorem tySz_24 : tySz Try.prog 24 = some (4, true) := by kernel_rfl
theorem elTy_25 : elTy Try.prog 25 = some (5, 1, 1) := by kernel_rfl
theorem par_12 : parTys Try.prog 12 = [24, 3] := by kernel_rfl
theorem cty_24 : cty Try.prog 24 = [none, none, none, some (213, 7)] := by kernel_rfl
theorem cty_3 : cty Try.prog 3 = [none] := by kernel_rfl
theorem par_14 : parTys Try.prog 14 = [24] := by kernel_rfl
theorem par_15 : parTys Try.prog 15 = [25] := by kernel_rfl
theorem cty_25 : cty Try.prog 25 = [some (5, 1)] := by kernel_rfl
theorem par_13 : parTys Try.prog 13 = [29, 25] := by kernel_rfl
theorem cty_29 : cty Try.prog 29 = [none, none, none, some (133, 7)] := by kernel_rfl
theorem zeroC_29 : zeroC Try.prog 29 = some [.v (.int .i64 0), .v (.int .i64 0), .v (.int .i64 0), .v (.slice none 0 0)] := by kernel_rfl
theorem tySz_29 : tySz Try.prog 29 = some (4, true) := by kernel_rfl
theorem par_16 : parTys Try.prog 16 = [29, 25] := by kernel_rfl
theorem par_17 : parTys Try.prog 17 = [29, 29] := by kernel_rfl
theorem par_18 : parTys Try.prog 18 = [25, 25] := by kernel_rfl
theorem par_19 : parTys Try.prog 19 = [29, 3] := by kernel_rfl
theorem par_20 : parTys Try.prog 20 = [25, 3] := by kernel_rfl
theorem par_21 : parTys Try.prog 21 = [29, 3] := by kernel_rfl
theorem cty_4 : cty Try.prog 4 = [none] := by kernel_rfl
theorem par_44 : parTys Try.prog 44 = [25, 3] := by kernel_rfl
theorem tySz_87 : tySz Try.prog 87 = some (6, true) := by kernel_rfl
theorem par_55 : parTys Try.prog 55 = [87, 3] := by kernel_rfl
theorem cty_87 : cty Try.prog 87 = [none, none, none, none, none, some (5, 1)] := by kernel_rfl
theorem par_58 : parTys Try.prog 58 = [87] := by kernel_rfl
theorem cty_96 : cty Try.prog 96 = [none, none, none, none, none, some (5, 1)] := by kernel_rfl
theorem zeroC_96 : zeroC Try.prog 96 = some [.v (.int .i64 0), .v (.int .i64 0), .v (.int .i64 0), .v (.int .i64 0), .v (.bool false), .v (.slice none 0 0)] := by kernel_rfl
theorem tySz_96 : tySz Try.prog 96 = some (6, true) := by kernel_rfl
theorem par_61 : parTys Try.prog 61 = [96, 96] := by kernel_rfl
theorem boolTy_4 : boolTy Try.prog 4 = some () := by kernel_rfl
theorem fldTy_24_3 : fldTy Try.prog 24 3 = some (3, 1, false) := by kernel_rfl
theorem tySz_22 : tySz Try.prog 22 = some (1, false) := by kernel_rfl
theorem par_79 : parTys Try.prog 79 = [22, 3] := by kernel_rfl
theorem cty_22 : cty Try.prog 22 = [some (213, 7)] := by kernel_rfl
theorem par_80 : parTys Try.prog 80 = [29] := by kernel_rfl
theorem bldTy_29 : bldTy Try.prog 29 = some (.st [(0, 1), (1, 1), (2, 1), (3, 1)]) := by kernel_rfl
theorem par_81 : parTys Try.prog 81 = [29] := by kernel_rfl
theorem fldTy_29_3 : fldTy Try.prog 29 3 = some (3, 1, false) := by kernel_rfl
theorem tySz_27 : tySz Try.prog 27 = some (1, false) := by kernel_rfl
theorem elTy_27 : elTy Try.prog 27 = some (133, 7, 72) := by kernel_rfl
theorem fldTy_29_1 : fldTy Try.prog 29 1 = some (1, 1, false) := by kernel_rfl
theorem tySz_3 : tySz Try.prog 3 = some (1, false) := by kernel_rfl
theorem fldTy_29_0 : fldTy Try.prog 29 0 = some (0, 1, false) := by kernel_rfl
theorem par_82 : parTys Try.prog 82 = [25] := by kernel_rfl
theorem bldTy_96 : bldTy Try.prog 96 = some (.st [(0, 1), (1, 1), (2, 1), (3, 1), (4, 1), (5, 1)]) := by kernel_rfl
theorem bldTy_133 : bldTy Try.prog 133 = some (.st [(0, 6), (6, 1)]) := by kernel_rfl
theorem zeroC_133 : zeroC Try.prog 133 = some [.v (.int .i64 0), .v (.int .i64 0), .v (.int .i64 0), .v (.int .i64 0), .v (.bool false), .v (.slice none 0 0), .v (.int .i64 0)] := by kernel_rfl
theorem cty_133 : cty Try.prog 133 = [none, none, none, none, none, some (5, 1), none] := by kernel_rfl
theorem fldTy_24_0 : fldTy Try.prog 24 0 = some (0, 1, false) := by kernel_rfl
theorem fldTy_24_1 : fldTy Try.prog 24 1 = some (1, 1, false) := by kernel_rfl
theorem fldTy_24_2 : fldTy Try.prog 24 2 = some (2, 1, false) := by kernel_rfl
theorem fldTy_29_2 : fldTy Try.prog 29 2 = some (2, 1, false) := by kernel_rfl
theorem par_83 : parTys Try.prog 83 = [22] := by kernel_rfl
theorem zeroC_5 : zeroC Try.prog 5 = some [.v (.int .u8 0)] := by kernel_rfl
theorem cty_5 : cty Try.prog 5 = [none] := by kernel_rfl
theorem ixTy_25 : ixTy Try.prog 25 = some (.sl (5, 1, 1)) := by kernel_rfl
theorem tySz_5 : tySz Try.prog 5 = some (1, false) := by kernel_rfl
theorem par_84 : parTys Try.prog 84 = [29] := by kernel_rfl
theorem par_85 : parTys Try.prog 85 = [29] := by kernel_rfl
theorem zeroC_3 : zeroC Try.prog 3 = some [.v (.int .i64 0)] := by kernel_rfl
theorem bldTy_136 : bldTy Try.prog 136 = some (.st [(0, 1)]) := by kernel_rfl
theorem zeroC_136 : zeroC Try.prog 136 = some [.v (.slice none 0 0)] := by kernel_rfl
theorem tySz_136 : tySz Try.prog 136 = some (1, true) := by kernel_rfl
theorem fldTy_136_0 : fldTy Try.prog 136 0 = some (0, 1, false) := by kernel_rfl
theorem par_89 : parTys Try.prog 89 = [27, 27] := by kernel_rfl
theorem cty_27 : cty Try.prog 27 = [some (133, 7)] := by kernel_rfl
theorem par_90 : parTys Try.prog 90 = [27, 3] := by kernel_rfl
theorem cvTy_3_5 : cvTy Try.prog 3 5 = some (.int .u8) := by kernel_rfl
theorem par_91 : parTys Try.prog 91 = [27, 3] := by kernel_rfl
theorem tySz_25 : tySz Try.prog 25 = some (1, false) := by kernel_rfl
theorem par_92 : parTys Try.prog 92 = [25, 3] := by kernel_rfl
theorem tySz_4 : tySz Try.prog 4 = some (1, false) := by kernel_rfl
theorem ixTy_27 : ixTy Try.prog 27 = some (.sl (133, 7, 72)) := by kernel_rfl
theorem fldTy_133_1 : fldTy Try.prog 133 1 = some (6, 1, false) := by kernel_rfl
theorem fldTy_133_0 : fldTy Try.prog 133 0 = some (0, 6, true) := by kernel_rfl
theorem fldTy_87_5 : fldTy Try.prog 87 5 = some (5, 1, false) := by kernel_rfl
theorem fldTy_96_2 : fldTy Try.prog 96 2 = some (2, 1, false) := by kernel_rfl
theorem par_136 : parTys Try.prog 136 = [96] := by kernel_rfl
theorem fldTy_96_5 : fldTy Try.prog 96 5 = some (5, 1, false) := by kernel_rfl
theorem fldTy_96_4 : fldTy Try.prog 96 4 = some (4, 1, false) := by kernel_rfl
theorem fldTy_87_0 : fldTy Try.prog 87 0 = some (0, 1, false) := by kernel_rfl
theorem fldTy_96_0 : fldTy Try.prog 96 0 = some (0, 1, false) := by kernel_rfl
theorem fldTy_87_1 : fldTy Try.prog 87 1 = some (1, 1, false) := by kernel_rfl
theorem fldTy_96_1 : fldTy Try.prog 96 1 = some (1, 1, false) := by kernel_rfl
theorem fldTy_87_2 : fldTy Try.prog 87 2 = some (2, 1, false) := by kernel_rfl
theorem fldTy_87_3 : fldTy Try.prog 87 3 = some (3, 1, false) := by kernel_rfl
theorem fldTy_96_3 : fldTy Try.prog 96 3 = some (3, 1, false) := by kernel_rfl
theorem fldTy_87_4 : fldTy Try.prog 87 4 = some (4, 1, false) := by kernel_rfl
theorem par_139 : parTys Try.prog 139 = [96] := by kernel_rfl
theorem par_141 : parTys Try.prog 141 = [96] := by kernel_rfl
theorem elTy_22 : elTy Try.prog 22 = some (213, 7, 72) := by kernel_rfl
theorem ixTy_22 : ixTy Try.prog 22 = some (.sl (213, 7, 72)) := by kernel_rfl
theorem tySz_213 : tySz Try.prog 213 = some (7, true) := by kernel_rfl
theorem par_167 : parTys Try.prog 167 = [213, 3] := by kernel_rfl
theorem cty_213 : cty Try.prog 213 = [none, none, none, none, none, some (5, 1), none] := by kernel_rfl
theorem tySz_133 : tySz Try.prog 133 = some (7, true) := by kernel_rfl
theorem par_168 : parTys Try.prog 168 = [96] := by kernel_rfl
theorem par_169 : parTys Try.prog 169 = [213] := by kernel_rfl
theorem par_87 : parTys Try.prog 87 = [216, 133] := by kernel_rfl
theorem cty_216 : cty Try.prog 216 = [none] := by kernel_rfl
theorem par_171 : parTys Try.prog 171 = [133, 133] := by kernel_rfl
theorem par_88 : parTys Try.prog 88 = [25] := by kernel_rfl
theorem fldTy_213_0 : fldTy Try.prog 213 0 = some (0, 6, true) := by kernel_rfl
theorem fldTy_213_1 : fldTy Try.prog 213 1 = some (6, 1, false) := by kernel_rfl
theorem res_3 : Try.f3.results.toList = [.tmp 4] := rfl
theorem rty_3 : Try.f3.resultTypes.toList = [4] := rfl
theorem res_12 : Try.f12.results.toList = [.tmp 4] := rfl
theorem rty_12 : Try.f12.resultTypes.toList = [3] := rfl
theorem res_13 : Try.f13.results.toList = [.cell 4 29, .tmp 5] := rfl
theorem rty_13 : Try.f13.resultTypes.toList = [29, 3] := rfl
theorem res_14 : Try.f14.results.toList = [.cell 2 29] := rfl
theorem rty_14 : Try.f14.resultTypes.toList = [29] := rfl
theorem res_15 : Try.f15.results.toList = [.tmp 2] := rfl
theorem rty_15 : Try.f15.resultTypes.toList = [25] := rfl
theorem res_16 : Try.f16.results.toList = [.cell 4 29, .tmp 5] := rfl
theorem rty_16 : Try.f16.resultTypes.toList = [29, 3] := rfl
theorem res_17 : Try.f17.results.toList = [.tmp 4] := rfl
theorem rty_17 : Try.f17.resultTypes.toList = [4] := rfl
theorem res_18 : Try.f18.results.toList = [.tmp 4] := rfl
theorem rty_18 : Try.f18.resultTypes.toList = [4] := rfl
theorem res_19 : Try.f19.results.toList = [.tmp 4] := rfl
theorem rty_19 : Try.f19.resultTypes.toList = [3] := rfl
theorem res_20 : Try.f20.results.toList = [.tmp 4] := rfl
theorem rty_20 : Try.f20.resultTypes.toList = [3] := rfl
theorem res_21 : Try.f21.results.toList = [.tmp 4] := rfl
theorem rty_21 : Try.f21.resultTypes.toList = [3] := rfl
theorem res_44 : Try.f44.results.toList = [.tmp 4] := rfl
theorem rty_44 : Try.f44.resultTypes.toList = [3] := rfl
theorem res_55 : Try.f55.results.toList = [.tmp 4] := rfl
theorem rty_55 : Try.f55.resultTypes.toList = [3] := rfl
theorem res_58 : Try.f58.results.toList = [.cell 2 96] := rfl
theorem rty_58 : Try.f58.resultTypes.toList = [96] := rfl
theorem res_61 : Try.f61.results.toList = [.tmp 4] := rfl
theorem rty_61 : Try.f61.resultTypes.toList = [4] := rfl
theorem res_79 : Try.f79.results.toList = [.tmp 4] := rfl
theorem rty_79 : Try.f79.resultTypes.toList = [3] := rfl
theorem res_80 : Try.f80.results.toList = [.tmp 2] := rfl
theorem rty_80 : Try.f80.resultTypes.toList = [4] := rfl
theorem res_81 : Try.f81.results.toList = [.cell 2 29] := rfl
theorem rty_81 : Try.f81.resultTypes.toList = [29] := rfl
theorem res_82 : Try.f82.results.toList = [.tmp 2] := rfl
theorem rty_82 : Try.f82.resultTypes.toList = [25] := rfl
theorem res_83 : Try.f83.results.toList = [.tmp 2] := rfl
theorem rty_83 : Try.f83.resultTypes.toList = [27] := rfl
theorem res_84 : Try.f84.results.toList = [.tmp 2] := rfl
theorem rty_84 : Try.f84.resultTypes.toList = [4] := rfl
theorem res_85 : Try.f85.results.toList = [.cell 2 29] := rfl
theorem rty_85 : Try.f85.resultTypes.toList = [29] := rfl
theorem res_87 : Try.f87.results.toList = [] := rfl
theorem rty_87 : Try.f87.resultTypes.toList = [] := rfl
theorem res_88 : Try.f88.results.toList = [.tmp 2] := rfl
theorem rty_88 : Try.f88.resultTypes.toList = [25] := rfl
theorem res_89 : Try.f89.results.toList = [.tmp 4] := rfl
theorem rty_89 : Try.f89.resultTypes.toList = [4] := rfl
theorem res_90 : Try.f90.results.toList = [.tmp 4] := rfl
theorem rty_90 : Try.f90.resultTypes.toList = [3] := rfl
theorem res_91 : Try.f91.results.toList = [.tmp 4] := rfl
theorem rty_91 : Try.f91.resultTypes.toList = [3] := rfl
theorem res_92 : Try.f92.results.toList = [.tmp 4] := rfl
theorem rty_92 : Try.f92.resultTypes.toList = [3] := rfl
theorem res_136 : Try.f136.results.toList = [.cell 2 96] := rfl
theorem rty_136 : Try.f136.resultTypes.toList = [96] := rfl
theorem res_139 : Try.f139.results.toList = [.tmp 2] := rfl
theorem rty_139 : Try.f139.resultTypes.toList = [4] := rfl
theorem res_141 : Try.f141.results.toList = [.cell 2 96] := rfl
theorem rty_141 : Try.f141.resultTypes.toList = [96] := rfl
theorem res_167 : Try.f167.results.toList = [.tmp 4] := rfl
theorem rty_167 : Try.f167.resultTypes.toList = [3] := rfl
theorem res_168 : Try.f168.results.toList = [.tmp 2] := rfl
theorem rty_168 : Try.f168.resultTypes.toList = [4] := rfl
theorem res_169 : Try.f169.results.toList = [.cell 2 133] := rfl
theorem rty_169 : Try.f169.resultTypes.toList = [133] := rfl
theorem res_171 : Try.f171.results.toList = [.tmp 4] := rfl
theorem rty_171 : Try.f171.resultTypes.toList = [4] := rfl
attribute [go_sem] tySz_24 elTy_25 par_12 cty_24 cty_3 par_14 par_15 cty_25 par_13 cty_29 zeroC_29 tySz_29 par_16 par_17 par_18 par_19 par_20 par_21 cty_4 par_44 tySz_87 par_55 cty_87 par_58 cty_96 zeroC_96 tySz_96 par_61 boolTy_4 fldTy_24_3 tySz_22 par_79 cty_22 par_80 bldTy_29 par_81 fldTy_29_3 tySz_27 elTy_27 fldTy_29_1 tySz_3 fldTy_29_0 par_82 bldTy_96 bldTy_133 zeroC_133 cty_133 fldTy_24_0 fldTy_24_1 fldTy_24_2 fldTy_29_2 par_83 zeroC_5 cty_5 ixTy_25 tySz_5 par_84 par_85 zeroC_3 bldTy_136 zeroC_136 tySz_136 fldTy_136_0 par_89 cty_27 par_90 cvTy_3_5 par_91 tySz_25 par_92 tySz_4 ixTy_27 fldTy_133_1 fldTy_133_0 fldTy_87_5 fldTy_96_2 par_136 fldTy_96_5 fldTy_96_4 fldTy_87_0 fldTy_96_0 fldTy_87_1 fldTy_96_1 fldTy_87_2 fldTy_87_3 fldTy_96_3 fldTy_87_4 par_139 par_141 elTy_22 ixTy_22 tySz_213 par_167 cty_213 tySz_133 par_168 par_169 par_87 cty_216 par_171 par_88 fldTy_213_0 fldTy_213_1
end Go.Ev
set_option linter.unusedSimpArgs false
set_option linter.unusedVariables false
namespace Go.Ev
open Go Go.RowKit Go.Proofs
def mkB (k n : Nat) : List UInt8 := (List.range n).map fun j => UInt8.ofNat (k + j)
theorem mkB_length (k n : Nat) : (mkB k n).length = n := by simp [mkB]
theorem mkB_at (k n : Nat) {i : Nat} (h : i < n) : (mkB k n)[i]? = some ((fun j => UInt8.ofNat (k + j)) i) := by simp [mkB, h]
theorem c_toByteS (bs : List UInt8) (hb : bs.length ≤ 1048576) : Meets Try.prog 15 [rowB bs] (fun r => r = rowB bs) := by
  refine Meets.intro mixed (hint []) Try.func15 rfl (by decide) res_15 rty_15 (by kernel_rfl) ?_; 
  simp -dsimp -implicitDefEqProofs only [go_sem, Nat.reduceBEq, Nat.reduceAdd, Nat.reduceLeDiff, Nat.reduceSub, Int.reduceEq]
  refine ask.of (by omega) ?_
  refine LoopE.cnt bs.length (fun i s => s.env 0 = .rd .ent 5 1 (bytesA bs) ∧ s.env 3 = .ref [7] ∧ s.env 4 = .v (.int .i64 i) ∧ s.σ [7] = some (.row 5 1 (bytesA (bs.take i ++ List.replicate (bs.length - i) 0)))) ⟨by simp -dsimp -implicitDefEqProofs only [go_sem, Nat.reduceBEq, Nat.reduceAdd, Nat.reduceLeDiff, Nat.reduceSub, Int.reduceEq, initE], by simp -dsimp -implicitDefEqProofs only [go_sem, Nat.reduceBEq, Nat.reduceAdd, Nat.reduceLeDiff, Nat.reduceSub, Int.reduceEq], by simp -dsimp -implicitDefEqProofs only [go_sem, Nat.reduceBEq, Nat.reduceAdd, Nat.reduceLeDiff, Nat.reduceSub, Int.reduceEq] <;> simp, by simp -dsimp -implicitDefEqProofs only [go_sem, Nat.reduceBEq, Nat.reduceAdd, Nat.reduceLeDiff, Nat.reduceSub, Int.reduceEq] <;> simp⟩ ?_
  rintro i ⟨e, σ⟩ hi ⟨h0, h3, h4, hs⟩ K hK
  simp only at h0 h3 h4 hs
  simp -dsimp -implicitDefEqProofs only [go_sem, Nat.reduceBEq, Nat.reduceAdd, Nat.reduceLeDiff, Nat.reduceSub, Int.reduceEq, h0, h3, h4, hs]
  refine ifB'.of (fun hlt => ?_) (fun hlt => ?_)
  · have hlt : i < bs.length := by omega
    simp -dsimp -implicitDefEqProofs only [go_sem, Nat.reduceBEq, Nat.reduceAdd, Nat.reduceLeDiff, Nat.reduceSub, Int.reduceEq, h0, h3, h4, hs, bytesA_at hlt]
    repeat with_reducible refine ask.of (by omega) ?_
    have hl : (List.take i bs ++ List.replicate (bs.length - i) 0).length = bs.length := by simp; omega
    simp -dsimp -implicitDefEqProofs only [go_sem, Nat.reduceBEq, Nat.reduceAdd, Nat.reduceLeDiff, Nat.reduceSub, Int.reduceEq, h0, h3, h4, hs, hl]
    repeat with_reducible refine ask.of (by omega) ?_
    simp -dsimp -implicitDefEqProofs only [go_sem, Nat.reduceBEq, Nat.reduceAdd, Nat.reduceLeDiff, Nat.reduceSub, Int.reduceEq, h0, h3, h4, hs, bytesA_at (show i < (List.take i bs ++ List.replicate (bs.length - i) 0).length by omega)]
    refine hK _ hlt ?_
    simp -dsimp -implicitDefEqProofs only [go_sem, Nat.reduceBEq, Nat.reduceAdd, Nat.reduceLeDiff, Nat.reduceSub, Int.reduceEq, h0, h3, h4, hs, wrap_succ (show i < 4611686018427387904 by omega), fill_set bs 0 hlt]
  · have : i = bs.length := by omega
    subst this
    simp -dsimp -implicitDefEqProofs only [go_sem, Nat.reduceBEq, Nat.reduceAdd, Nat.reduceLeDiff, Nat.reduceSub, Int.reduceEq, h0, h3, h4, hs]
    simp
theorem c_eqByteS (bs : List UInt8) (hb : bs.length ≤ 8388608) : Meets Try.prog 18 [rowB bs, rowB bs] (fun r => r = .v (.bool true)) := by
  refine Meets.intro mixed (hint []) Try.func18 rfl (by decide) res_18 rty_18 (by kernel_rfl) ?_; 
  simp -dsimp -implicitDefEqProofs only [go_sem, Nat.reduceBEq, Nat.reduceAdd, Nat.reduceLeDiff, Nat.reduceSub, Int.reduceEq, decide_true, Bool.not_true]
  refine LoopE.cnt bs.length (fun i s => s.env 0 = .rd .ent 5 1 (bytesA bs) ∧ s.env 1 = .rd .ent 5 1 (bytesA bs) ∧ s.env 5 = .v (.int .i64 i)) ⟨by simp -dsimp -implicitDefEqProofs only [go_sem, Nat.reduceBEq, Nat.reduceAdd, Nat.reduceLeDiff, Nat.reduceSub, Int.reduceEq, initE], by simp -dsimp -implicitDefEqProofs only [go_sem, Nat.reduceBEq, Nat.reduceAdd, Nat.reduceLeDiff, Nat.reduceSub, Int.reduceEq, initE], by simp -dsimp -implicitDefEqProofs only [go_sem, Nat.reduceBEq, Nat.reduceAdd, Nat.reduceLeDiff, Nat.reduceSub, Int.reduceEq] <;> simp⟩ ?_
  rintro i ⟨e, σ⟩ hi ⟨h0, h1, h5⟩ K hK
  simp only at h0 h1 h5
  simp -dsimp -implicitDefEqProofs only [go_sem, Nat.reduceBEq, Nat.reduceAdd, Nat.reduceLeDiff, Nat.reduceSub, Int.reduceEq, h0, h1, h5]
  refine ifB'.of (fun hlt => ?_) (fun hlt => ?_)
  · have hlt : i < bs.length := by omega
    simp -dsimp -implicitDefEqProofs only [go_sem, Nat.reduceBEq, Nat.reduceAdd, Nat.reduceLeDiff, Nat.reduceSub, Int.reduceEq, h0, h1, h5, bytesA_at hlt]
    repeat with_reducible refine ask.of (by omega) ?_
    simp -dsimp -implicitDefEqProofs only [go_sem, Nat.reduceBEq, Nat.reduceAdd, Nat.reduceLeDiff, Nat.reduceSub, Int.reduceEq, h0, h1, h5, decide_true, Bool.not_true]
    refine hK _ hlt ?_
    simp -dsimp -implicitDefEqProofs only [go_sem, Nat.reduceBEq, Nat.reduceAdd, Nat.reduceLeDiff, Nat.reduceSub, Int.reduceEq, h0, h1, h5, wrap_succ (show i < 4611686018427387904 by omega)]
  · simp -dsimp -implicitDefEqProofs only [go_sem, Nat.reduceBEq, Nat.reduceAdd, Nat.reduceLeDiff, Nat.reduceSub, Int.reduceEq, h0, h1, h5]
theorem c_markByteS (bs : List UInt8) (k : Nat) (hk : k + bs.length ≤ 4611686018427387904) (hb : bs.length ≤ 8388608) : MeetsM Try.prog 20 [.mu (rowB bs), .rd (.v (.int .i64 k))] (fun r rs => r = .v (.int .i64 ((k + bs.length : Nat) : Int)) ∧ rs = [rowB (mkB k bs.length), .any]) := by
  refine MeetsM.intro mixed (hint []) Try.func20 rfl (by decide) res_20 rty_20 (pts := parTys Try.prog 20) (by rw [par_20]; rfl) (by kernel_rfl) ?_; rw [par_20]; intro vals; 
  simp -dsimp -implicitDefEqProofs only [go_sem, Nat.reduceBEq, Nat.reduceAdd, Nat.reduceLeDiff, Nat.reduceSub, Int.reduceEq]
  refine LoopE.cnt bs.length (fun i s => s.env 0 = .ref [1000000, 0] ∧ s.env 1 = .v (.int .i64 ((k + i : Nat) : Int)) ∧ s.env 5 = .v (.int .i64 i) ∧ s.σ [1000000, 0] = some (.row 5 1 (bytesA (mkPre (fun j => UInt8.ofNat (k + j)) bs i))) ∧ s.σ [1000001, 0] = some (.pin (.ref [1000000, 0]) (vals 0))) ⟨by simp -dsimp -implicitDefEqProofs only [go_sem, Nat.reduceBEq, Nat.reduceAdd, Nat.reduceLeDiff, Nat.reduceSub, Int.reduceEq], by simp -dsimp -implicitDefEqProofs only [go_sem, Nat.reduceBEq, Nat.reduceAdd, Nat.reduceLeDiff, Nat.reduceSub, Int.reduceEq] <;> simp, by simp -dsimp -implicitDefEqProofs only [go_sem, Nat.reduceBEq, Nat.reduceAdd, Nat.reduceLeDiff, Nat.reduceSub, Int.reduceEq] <;> simp, by simp -dsimp -implicitDefEqProofs only [go_sem, Nat.reduceBEq, Nat.reduceAdd, Nat.reduceLeDiff, Nat.reduceSub, Int.reduceEq, mkPre_zero], by simp -dsimp -implicitDefEqProofs only [go_sem, Nat.reduceBEq, Nat.reduceAdd, Nat.reduceLeDiff, Nat.reduceSub, Int.reduceEq]⟩ ?_
  rintro i ⟨e, σ⟩ hi ⟨h0, h1, h5, hs, hp⟩ K hK
  simp only at h0 h1 h5 hs hp
  have hl := mkPre_length (fun j => UInt8.ofNat (k + j)) hi
  simp -dsimp -implicitDefEqProofs only [go_sem, Nat.reduceBEq, Nat.reduceAdd, Nat.reduceLeDiff, Nat.reduceSub, Int.reduceEq, h0, h1, h5, hs, hp, hl]
  refine ifB'.of (fun hlt => ?_) (fun hlt => ?_)
  · have hlt : i < bs.length := by omega
    have hk' : k + i ≤ 4611686018427387904 := by omega
    simp -dsimp -implicitDefEqProofs only [go_sem, Nat.reduceBEq, Nat.reduceAdd, Nat.reduceLeDiff, Nat.reduceSub, Int.reduceEq, h0, h1, h5, hs, hp, hl]
    repeat with_reducible refine ask.of (by omega) ?_
    simp -dsimp -implicitDefEqProofs only [go_sem, Nat.reduceBEq, Nat.reduceAdd, Nat.reduceLeDiff, Nat.reduceSub, Int.reduceEq, h0, h1, h5, hs, hp, hl, bytesA_at (show i < (mkPre (fun j => UInt8.ofNat (k + j)) bs i).length by omega)]
    repeat with_reducible refine ask.of (by omega) ?_
    try simp -dsimp -implicitDefEqProofs only [go_sem, Nat.reduceBEq, Nat.reduceAdd, Nat.reduceLeDiff, Nat.reduceSub, Int.reduceEq, h0, h1, h5, hs, hp, u8_of_nat]
    refine hK _ hlt ?_
    simp -dsimp -implicitDefEqProofs only [go_sem, Nat.reduceBEq, Nat.reduceAdd, Nat.reduceLeDiff, Nat.reduceSub, Int.reduceEq, h0, h1, h5, hs, hp, wrap_succ (show i < 4611686018427387904 by omega), wrap_succ (show k + i < 4611686018427387904 by omega), mkPre_set (fun j => UInt8.ofNat (k + j)) bs hlt rfl]
    rfl
  · have : i = bs.length := by omega
    subst this
    simp -dsimp -implicitDefEqProofs only [go_sem, Nat.reduceBEq, Nat.reduceAdd, Nat.reduceLeDiff, Nat.reduceSub, Int.reduceEq, h0, h1, h5, hs, hp, mkPre_full]
    rfl
theorem c_heldByteS (k n : Nat) (hk : k + n ≤ 4611686018427387904) (hn : n ≤ 8388608) : Meets Try.prog 44 [rowB (mkB k n), .v (.int .i64 k)] (fun r => r = .v (.int .i64 ((k + n : Nat) : Int))) := by
  refine Meets.intro mixed (hint []) Try.func44 rfl (by decide) res_44 rty_44 (by kernel_rfl) ?_; 
  simp -dsimp -implicitDefEqProofs only [go_sem, Nat.reduceBEq, Nat.reduceAdd, Nat.reduceLeDiff, Nat.reduceSub, Int.reduceEq]
  refine LoopE.cnt n (fun i s => s.env 0 = .rd .ent 5 1 (bytesA (mkB k n)) ∧ s.env 1 = .v (.int .i64 ((k + i : Nat) : Int)) ∧ s.env 5 = .v (.int .i64 i)) ⟨by simp -dsimp -implicitDefEqProofs only [go_sem, Nat.reduceBEq, Nat.reduceAdd, Nat.reduceLeDiff, Nat.reduceSub, Int.reduceEq, initE], by simp -dsimp -implicitDefEqProofs only [go_sem, Nat.reduceBEq, Nat.reduceAdd, Nat.reduceLeDiff, Nat.reduceSub, Int.reduceEq, initE] <;> simp, by simp -dsimp -implicitDefEqProofs only [go_sem, Nat.reduceBEq, Nat.reduceAdd, Nat.reduceLeDiff, Nat.reduceSub, Int.reduceEq] <;> simp⟩ ?_
  rintro i ⟨e, σ⟩ hi ⟨h0, h1, h5⟩ K hK
  simp only at h0 h1 h5
  simp -dsimp -implicitDefEqProofs only [go_sem, Nat.reduceBEq, Nat.reduceAdd, Nat.reduceLeDiff, Nat.reduceSub, Int.reduceEq, h0, h1, h5, mkB_length]
  refine ifB'.of (fun hlt => ?_) (fun hlt => ?_)
  · have hlt : i < n := by omega
    have hk' : k + i ≤ 4611686018427387904 := by omega
    simp -dsimp -implicitDefEqProofs only [go_sem, Nat.reduceBEq, Nat.reduceAdd, Nat.reduceLeDiff, Nat.reduceSub, Int.reduceEq, h0, h1, h5, mkB_length, bytesA_at' (mkB_at k n hlt), u8_of_nat]
    repeat with_reducible refine ask.of (by omega) ?_
    simp -dsimp -implicitDefEqProofs only [go_sem, Nat.reduceBEq, Nat.reduceAdd, Nat.reduceLeDiff, Nat.reduceSub, Int.reduceEq, h0, h1, h5, decide_true, Bool.not_true]
    refine hK _ hlt ?_
    simp -dsimp -implicitDefEqProofs only [go_sem, Nat.reduceBEq, Nat.reduceAdd, Nat.reduceLeDiff, Nat.reduceSub, Int.reduceEq, h0, h1, h5, wrap_succ (show i < 4611686018427387904 by omega), wrap_succ (show k + i < 4611686018427387904 by omega)]
    rfl
  · have : i = n := by omega
    subst this
    simp -dsimp -implicitDefEqProofs only [go_sem, Nat.reduceBEq, Nat.reduceAdd, Nat.reduceLeDiff, Nat.reduceSub, Int.reduceEq, h0, h1, h5]
end Go.Ev
set_option linter.unusedSimpArgs false
set_option linter.unusedVariables false
namespace Go.Ev
open Go Go.RowKit Go.Proofs
theorem c_szByteS (bs : List UInt8) (left : Nat) (hb : bs.length ≤ 140737488355328) (hl : left ≤ 1048576) : Meets Try.prog 92 [rowB bs, .v (.int .i64 left)] (fun r => r = .v (.int .i64 (szR left bs.length))) := by
  refine Meets.intro mixed (hint []) Try.func92 rfl (by decide) res_92 rty_92 (by kernel_rfl) ?_; 
  have e : IntKind.i64.wrap ((left : Int) - bs.length) = (left : Int) - bs.length := wrap_i64_of (by omega) (by omega)
  simp -dsimp -implicitDefEqProofs only [go_sem, Nat.reduceBEq, Nat.reduceAdd, Nat.reduceLeDiff, Nat.reduceSub, Int.reduceEq, e]
  refine ifB'.of (fun h => ?_) (fun h => ?_)
  · simp -dsimp -implicitDefEqProofs only [go_sem, Nat.reduceBEq, Nat.reduceAdd, Nat.reduceLeDiff, Nat.reduceSub, Int.reduceEq]
    rw [szR_no (by omega)]
  · simp -dsimp -implicitDefEqProofs only [go_sem, Nat.reduceBEq, Nat.reduceAdd, Nat.reduceLeDiff, Nat.reduceSub, Int.reduceEq]
    rw [szR_ok (by omega)]; omega
def wBB (xs : List (List UInt8)) : Nat := szL List.length xs
end Go.Ev
set_option linter.unusedSimpArgs false
set_option linter.unusedVariables false
namespace Go.Ev
open Go Go.RowKit Go.Proofs
theorem bleR (n : Nat) : Nat.ble n n = true := by simp
structure Pk where
  a : Int
  b : Int
  c : Int
  d : Int
  e : Bool
  f : List UInt8
def pkC (p : Pk) : List AV := [.v (.int .i64 p.a), .v (.int .i64 p.b), .v (.int .i64 p.c), .v (.int .i64 p.d), .v (.bool p.e), .row 5 1 (bytesA p.f)]
theorem c_szPacket (p : Pk) (left : Nat) (hb : p.f.length ≤ 140737488355328) (hl : left ≤ 1048576) : Meets Try.prog 55 [.agg (pkC p), .v (.int .i64 left)] (fun r => r = .v (.int .i64 (szR left p.f.length))) := by
  refine Meets.intro mixed (hint []) Try.func55 rfl (by decide) res_55 rty_55 (by kernel_rfl) ?_; 
  simp -dsimp -implicitDefEqProofs only [go_sem, Nat.reduceBEq, Nat.reduceAdd, Nat.reduceLeDiff, Nat.reduceSub, Int.reduceEq, pkC]
  repeat with_reducible refine ask.of (by omega) ?_
  refine CallE.of (c_szByteS p.f left hb hl) (by rintro r rfl; (repeat' first | exact trivial | exact pure_rowB _ | exact pure_rowO _ | exact pure_rowI _ | exact pure_rowBB _ | exact pure_rowPk _ _ | exact pure_rowSn _ _ | exact pure_rowFd _ _ | exact pure_rowBBB _ | exact pure_rowCl _ _ | exact pure_rowTb _ _ _ | refine And.intro ?_ ?_)) (by simp -dsimp -implicitDefEqProofs only [go_sem, Nat.reduceBEq, Nat.reduceAdd, Nat.reduceLeDiff, Nat.reduceSub, Int.reduceEq]) ?_
  rintro r rfl
  simp -dsimp -implicitDefEqProofs only [go_sem, Nat.reduceBEq, Nat.reduceAdd, Nat.reduceLeDiff, Nat.reduceSub, Int.reduceEq]
  refine ifB'.of (fun h => ?_) (fun h => ?_)
  · simp -dsimp -implicitDefEqProofs only [go_sem, Nat.reduceBEq, Nat.reduceAdd, Nat.reduceLeDiff, Nat.reduceSub, Int.reduceEq]
    by_cases h2 : p.f.length ≤ left
    · rw [szR_ok h2] at h; omega
    · rw [szR_no h2]
  · simp -dsimp -implicitDefEqProofs only [go_sem, Nat.reduceBEq, Nat.reduceAdd, Nat.reduceLeDiff, Nat.reduceSub, Int.reduceEq]
theorem c_toPacket (p : Pk) (hb : p.f.length ≤ 1048576) : Meets Try.prog 58 [.agg (pkC p)] (fun r => r = .agg (pkC p)) := by
  refine Meets.intro mixed (hint []) Try.func58 rfl (by decide) res_58 rty_58 (by kernel_rfl) ?_; 
  simp -dsimp -implicitDefEqProofs only [go_sem, Nat.reduceBEq, Nat.reduceAdd, Nat.reduceLeDiff, Nat.reduceSub, Int.reduceEq, pkC]
  repeat with_reducible refine ask.of (by omega) ?_
  refine CallE.of (c_toByteS p.f hb) (by rintro r rfl; (repeat' first | exact trivial | exact pure_rowB _ | exact pure_rowO _ | exact pure_rowI _ | exact pure_rowBB _ | exact pure_rowPk _ _ | exact pure_rowSn _ _ | exact pure_rowFd _ _ | exact pure_rowBBB _ | exact pure_rowCl _ _ | exact pure_rowTb _ _ _ | refine And.intro ?_ ?_)) (by simp -dsimp -implicitDefEqProofs only [go_sem, Nat.reduceBEq, Nat.reduceAdd, Nat.reduceLeDiff, Nat.reduceSub, Int.reduceEq]) ?_
  rintro r rfl
  simp -dsimp -implicitDefEqProofs only [go_sem, Nat.reduceBEq, Nat.reduceAdd, Nat.reduceLeDiff, Nat.reduceSub, Int.reduceEq]
  repeat with_reducible refine ask.of (by omega) ?_
  simp -dsimp -implicitDefEqProofs only [go_sem, Nat.reduceBEq, Nat.reduceAdd, Nat.reduceLeDiff, Nat.reduceSub, Int.reduceEq, bleR]
theorem c_eqPacket (p : Pk) (hb : p.f.length ≤ 1048576) : Meets Try.prog 61 [.agg (pkC p), .agg (pkC p)] (fun r => r = .v (.bool true)) := by
  refine Meets.intro mixed (hint []) Try.func61 rfl (by decide) res_61 rty_61 (by kernel_rfl) ?_; 
  simp -dsimp -implicitDefEqProofs only [go_sem, Nat.reduceBEq, Nat.reduceAdd, Nat.reduceLeDiff, Nat.reduceSub, Int.reduceEq, pkC, decide_true]
  repeat with_reducible refine ask.of (by omega) ?_
  refine CallE.of (c_eqByteS p.f (by omega)) (by rintro r rfl; (repeat' first | exact trivial | exact pure_rowB _ | exact pure_rowO _ | exact pure_rowI _ | exact pure_rowBB _ | exact pure_rowPk _ _ | exact pure_rowSn _ _ | exact pure_rowFd _ _ | exact pure_rowBBB _ | exact pure_rowCl _ _ | exact pure_rowTb _ _ _ | refine And.intro ?_ ?_)) (by simp -dsimp -implicitDefEqProofs only [go_sem, Nat.reduceBEq, Nat.reduceAdd, Nat.reduceLeDiff, Nat.reduceSub, Int.reduceEq, Bool.not_true]) ?_
  rintro r rfl
  simp -dsimp -implicitDefEqProofs only [go_sem, Nat.reduceBEq, Nat.reduceAdd, Nat.reduceLeDiff, Nat.reduceSub, Int.reduceEq, Bool.not_true]
def okPk (p : Pk) : Prop := 1 ≤ p.a ∧ p.a ≤ 4 ∧ 1 ≤ p.b ∧ p.b ≤ 1000000000 ∧ 0 ≤ p.c ∧ p.c ≤ 1000000000000 ∧ 0 ≤ p.d ∧ p.d ≤ 1000000000 ∧
  (¬ p.a = 1 ∨ p.d = 0 ∧ p.c < 1000000000000 ∧ 1 ≤ p.f.length ∧ p.f.length ≤ 100) ∧ (p.a = 1 ∨ p.e.toNat = 0 ∧ p.f.length = 0) ∧ (¬ p.a = 3 ∨ p.c = 0) ∧ (¬ p.a = 4 ∨ p.c = 0 ∧ p.d = 0)
instance (p : Pk) : Decidable (okPk p) := by unfold okPk; infer_instance
def okB (p : Pk) : Bool := decide (okPk p)
theorem leaf_f {p : Pk} (h : ¬ okPk p) : false = okB p := by rw [okB, decide_eq_false h]
theorem leaf_t {p : Pk} (h : okPk p) : true = okB p := by rw [okB, decide_eq_true h]
theorem leaf_d {p : Pk} {q : Prop} [Decidable q] (h : q ↔ okPk p) : decide q = okB p := by rw [okB, decide_eq_decide.2 h]
set_option maxHeartbeats 2000000 in
theorem c_l5valid (p : Pk) (hb : p.f.length ≤ 1048576) : Meets Try.prog 168 [.agg (pkC p)] (fun r => r = .v (.bool (okB p))) := by
  refine Meets.intro mixed (hint []) Try.func168 rfl (by decide) res_168 rty_168 (by kernel_rfl) ?_; 
  simp -dsimp -implicitDefEqProofs only [go_sem, Nat.reduceBEq, Nat.reduceAdd, Nat.reduceLeDiff, Nat.reduceSub, Int.reduceEq, pkC]
  cases he : p.e <;> (repeat' (first | with_reducible refine ifB'.of (fun h => ?_) (fun h => ?_) | with_reducible refine ask.of (by omega) ?_ | (with_reducible refine leaf_f ?_; unfold okPk; simp only [he, Bool.toNat_false, Bool.toNat_true, true_and, false_and, or_false, or_true, and_true]; omega) | (with_reducible refine leaf_t ?_; unfold okPk; simp only [he, Bool.toNat_false, Bool.toNat_true, true_and, false_and, or_false, or_true, and_true]; omega) | (with_reducible refine leaf_d ?_; unfold okPk; simp only [he, Bool.toNat_false, Bool.toNat_true, true_and, false_and, or_false, or_true, and_true]; omega) | simp -dsimp -implicitDefEqProofs only [go_sem, Nat.reduceBEq, Nat.reduceAdd, Nat.reduceLeDiff, Nat.reduceSub, Int.reduceEq, he, decide_true]))
set_option maxHeartbeats 2000000 in
theorem c_packetOk (p : Pk) (hb : p.f.length ≤ 1048576) : Meets Try.prog 139 [.agg (pkC p)] (fun r => r = .v (.bool (okB p))) := by
  refine Meets.intro mixed (hint []) Try.func139 rfl (by decide) res_139 rty_139 (by kernel_rfl) ?_; 
  simp -dsimp -implicitDefEqProofs only [go_sem, Nat.reduceBEq, Nat.reduceAdd, Nat.reduceLeDiff, Nat.reduceSub, Int.reduceEq, pkC]
  cases he : p.e <;> (repeat' (first | with_reducible refine ifB'.of (fun h => ?_) (fun h => ?_) | with_reducible refine ask.of (by omega) ?_ | (with_reducible refine leaf_f ?_; unfold okPk; simp only [he, Bool.toNat_false, Bool.toNat_true, true_and, false_and, or_false, or_true, and_true]; omega) | (with_reducible refine leaf_t ?_; unfold okPk; simp only [he, Bool.toNat_false, Bool.toNat_true, true_and, false_and, or_false, or_true, and_true]; omega) | (with_reducible refine leaf_d ?_; unfold okPk; simp only [he, Bool.toNat_false, Bool.toNat_true, true_and, false_and, or_false, or_true, and_true]; omega) | simp -dsimp -implicitDefEqProofs only [go_sem, Nat.reduceBEq, Nat.reduceAdd, Nat.reduceLeDiff, Nat.reduceSub, Int.reduceEq, he, decide_true]))
end Go.Ev
set_option linter.unusedSimpArgs false
set_option linter.unusedVariables false
namespace Go.Ev
open Go Go.RowKit Go.Proofs
structure Sn where
  p : Pk
  q : Int
def snC (s : Sn) : List AV := [.v (.int .i64 s.p.a), .v (.int .i64 s.p.b), .v (.int .i64 s.p.c), .v (.int .i64 s.p.d), .v (.bool s.p.e), .row 5 1 (bytesA s.p.f), .v (.int .i64 s.q)]
def snW (s : Sn) : Nat := s.p.f.length
def pk0 : Pk := ⟨0, 0, 0, 0, false, []⟩
def sn0 : Sn := ⟨pk0, 0⟩
def rowPk (T : Nat) (ps : List Pk) : AV := .row T 6 (ra pkC ps)
def rowSn (T : Nat) (ps : List Sn) : AV := .row T 7 (ra snC ps)
theorem pure_rowPk (T : Nat) (ps : List Pk) : (rowPk T ps).pure := pureEls_ra (enc := pkC) (fun x => ⟨trivial, trivial, trivial, trivial, trivial, pureEls_bytes _, trivial⟩) ps
theorem pure_rowSn (T : Nat) (ps : List Sn) : (rowSn T ps).pure := pureEls_ra (enc := snC) (fun x => ⟨trivial, trivial, trivial, trivial, trivial, pureEls_bytes _, trivial, trivial⟩) ps
theorem c_szSent (s : Sn) (left : Nat) (hb : s.p.f.length ≤ 140737488355328) (hl : left ≤ 1048576) : Meets Try.prog 167 [.agg (snC s), .v (.int .i64 left)] (fun r => r = .v (.int .i64 (szR left s.p.f.length))) := by
  refine Meets.intro mixed (hint []) Try.func167 rfl (by decide) res_167 rty_167 (by kernel_rfl) ?_; 
  simp -dsimp -implicitDefEqProofs only [go_sem, Nat.reduceBEq, Nat.reduceAdd, Nat.reduceLeDiff, Nat.reduceSub, Int.reduceEq, snC]
  repeat with_reducible refine ask.of (by omega) ?_
  simp -dsimp -implicitDefEqProofs only [go_sem, Nat.reduceBEq, Nat.reduceAdd, Nat.reduceLeDiff, Nat.reduceSub, Int.reduceEq, bleR, show Nat.ble 6 7 = true from rfl]
  refine CallE.of (c_szPacket s.p left hb hl) (by rintro r rfl; (repeat' first | exact trivial | exact pure_rowB _ | exact pure_rowO _ | exact pure_rowI _ | exact pure_rowBB _ | exact pure_rowPk _ _ | exact pure_rowSn _ _ | exact pure_rowFd _ _ | exact pure_rowBBB _ | exact pure_rowCl _ _ | exact pure_rowTb _ _ _ | refine And.intro ?_ ?_)) (by simp -dsimp -implicitDefEqProofs only [go_sem, Nat.reduceBEq, Nat.reduceAdd, Nat.reduceLeDiff, Nat.reduceSub, Int.reduceEq, pkC]) ?_
  rintro r rfl
  simp -dsimp -implicitDefEqProofs only [go_sem, Nat.reduceBEq, Nat.reduceAdd, Nat.reduceLeDiff, Nat.reduceSub, Int.reduceEq, pkC]
  refine ifB'.of (fun h => ?_) (fun h => ?_)
  · simp -dsimp -implicitDefEqProofs only [go_sem, Nat.reduceBEq, Nat.reduceAdd, Nat.reduceLeDiff, Nat.reduceSub, Int.reduceEq]
    by_cases h2 : s.p.f.length ≤ left
    · rw [szR_ok h2] at h; omega
    · rw [szR_no h2]
  · simp -dsimp -implicitDefEqProofs only [go_sem, Nat.reduceBEq, Nat.reduceAdd, Nat.reduceLeDiff, Nat.reduceSub, Int.reduceEq]
theorem c_toSent (s : Sn) (hb : s.p.f.length ≤ 1048576) : Meets Try.prog 169 [.agg (snC s)] (fun r => r = .agg (snC s)) := by
  refine Meets.intro mixed (hint []) Try.func169 rfl (by decide) res_169 rty_169 (by kernel_rfl) ?_; 
  simp -dsimp -implicitDefEqProofs only [go_sem, Nat.reduceBEq, Nat.reduceAdd, Nat.reduceLeDiff, Nat.reduceSub, Int.reduceEq, snC]
  repeat with_reducible refine ask.of (by omega) ?_
  simp -dsimp -implicitDefEqProofs only [go_sem, Nat.reduceBEq, Nat.reduceAdd, Nat.reduceLeDiff, Nat.reduceSub, Int.reduceEq, bleR, show Nat.ble 6 7 = true from rfl]
  refine CallE.of (c_toPacket s.p hb) (by rintro r rfl; (repeat' first | exact trivial | exact pure_rowB _ | exact pure_rowO _ | exact pure_rowI _ | exact pure_rowBB _ | exact pure_rowPk _ _ | exact pure_rowSn _ _ | exact pure_rowFd _ _ | exact pure_rowBBB _ | exact pure_rowCl _ _ | exact pure_rowTb _ _ _ | refine And.intro ?_ ?_)) (by simp -dsimp -implicitDefEqProofs only [go_sem, Nat.reduceBEq, Nat.reduceAdd, Nat.reduceLeDiff, Nat.reduceSub, Int.reduceEq, pkC]) ?_
  rintro r rfl
  simp -dsimp -implicitDefEqProofs only [go_sem, Nat.reduceBEq, Nat.reduceAdd, Nat.reduceLeDiff, Nat.reduceSub, Int.reduceEq, pkC]
  repeat with_reducible refine ask.of (by omega) ?_
  simp -dsimp -implicitDefEqProofs only [go_sem, Nat.reduceBEq, Nat.reduceAdd, Nat.reduceLeDiff, Nat.reduceSub, Int.reduceEq, bleR, show Nat.ble 6 7 = true from rfl]
theorem c_eqSent (s : Sn) (hb : s.p.f.length ≤ 1048576) : Meets Try.prog 171 [.agg (snC s), .agg (snC s)] (fun r => r = .v (.bool true)) := by
  refine Meets.intro mixed (hint []) Try.func171 rfl (by decide) res_171 rty_171 (by kernel_rfl) ?_; 
  simp -dsimp -implicitDefEqProofs only [go_sem, Nat.reduceBEq, Nat.reduceAdd, Nat.reduceLeDiff, Nat.reduceSub, Int.reduceEq, snC, decide_true]
  repeat (first | with_reducible refine ask.of (by omega) ?_ | simp -dsimp -implicitDefEqProofs only [go_sem, Nat.reduceBEq, Nat.reduceAdd, Nat.reduceLeDiff, Nat.reduceSub, Int.reduceEq, bleR, show Nat.ble 6 7 = true from rfl])
  refine CallE.of (c_eqPacket s.p hb) (by rintro r rfl; (repeat' first | exact trivial | exact pure_rowB _ | exact pure_rowO _ | exact pure_rowI _ | exact pure_rowBB _ | exact pure_rowPk _ _ | exact pure_rowSn _ _ | exact pure_rowFd _ _ | exact pure_rowBBB _ | exact pure_rowCl _ _ | exact pure_rowTb _ _ _ | refine And.intro ?_ ?_)) (by simp -dsimp -implicitDefEqProofs only [go_sem, Nat.reduceBEq, Nat.reduceAdd, Nat.reduceLeDiff, Nat.reduceSub, Int.reduceEq, pkC, Bool.not_true, decide_true]) ?_
  rintro r rfl
  simp -dsimp -implicitDefEqProofs only [go_sem, Nat.reduceBEq, Nat.reduceAdd, Nat.reduceLeDiff, Nat.reduceSub, Int.reduceEq, pkC, Bool.not_true, decide_true]
  repeat (first | with_reducible refine ask.of (by omega) ?_ | trivial)
theorem Sn_at {xs : List Sn} {i : Nat} (h : i < xs.length) : (ra snC xs)[i]? = some (snC xs[i]) := ra_at h
theorem c_szSentS (xs : List Sn) (left : Nat) (hl : left ≤ 1048576) (hx : xs.length ≤ 140737488355328) (hb : ∀ b ∈ xs, b.p.f.length ≤ 140737488355328) : Meets Try.prog 79 [rowSn 213 xs, .v (.int .i64 left)] (fun r => r = .v (.int .i64 (szR left (xs.length + szL snW xs)))) := by
  refine Meets.intro mixed (hint []) Try.func79 rfl (by decide) res_79 rty_79 (by kernel_rfl) ?_; 
  have e : IntKind.i64.wrap ((left : Int) - xs.length) = (left : Int) - xs.length := wrap_i64_of (by omega) (by omega)
  simp -dsimp -implicitDefEqProofs only [go_sem, Nat.reduceBEq, Nat.reduceAdd, Nat.reduceLeDiff, Nat.reduceSub, Int.reduceEq, e, rowSn]
  refine ifB'.of (fun h => ?_) (fun h => ?_)
  · simp -dsimp -implicitDefEqProofs only [go_sem, Nat.reduceBEq, Nat.reduceAdd, Nat.reduceLeDiff, Nat.reduceSub, Int.reduceEq]
    rw [szR_no (by omega)]
  simp -dsimp -implicitDefEqProofs only [go_sem, Nat.reduceBEq, Nat.reduceAdd, Nat.reduceLeDiff, Nat.reduceSub, Int.reduceEq, e]
  refine LoopE.cnt xs.length (fun i s => s.env 0 = .rd .ent 213 7 (ra snC xs) ∧ s.env 5 = .v (.int .i64 i) ∧ xs.length + szL snW (xs.take i) ≤ left ∧ s.env 1 = .v (.int .i64 ((left - (xs.length + szL snW (xs.take i)) : Nat) : Int))) ⟨by simp -dsimp -implicitDefEqProofs only [go_sem, Nat.reduceBEq, Nat.reduceAdd, Nat.reduceLeDiff, Nat.reduceSub, Int.reduceEq, initE, rowSn], by simp -dsimp -implicitDefEqProofs only [go_sem, Nat.reduceBEq, Nat.reduceAdd, Nat.reduceLeDiff, Nat.reduceSub, Int.reduceEq] <;> simp, by simp [szL]; omega, by simp -dsimp -implicitDefEqProofs only [go_sem, Nat.reduceBEq, Nat.reduceAdd, Nat.reduceLeDiff, Nat.reduceSub, Int.reduceEq] <;> (simp [szL]; omega)⟩ ?_
  rintro i ⟨e, σ⟩ hi ⟨h0, h5, hle, h1⟩ K hK
  simp only at h0 h5 h1
  simp -dsimp -implicitDefEqProofs only [go_sem, Nat.reduceBEq, Nat.reduceAdd, Nat.reduceLeDiff, Nat.reduceSub, Int.reduceEq, h0, h5, h1]
  refine ifB'.of (fun hlt => ?_) (fun hlt => ?_)
  · have hlt : i < xs.length := by omega
    have hs := szL_take_succ snW hlt
    have hw := szL_take_le snW xs (i + 1)
    have hww : snW xs[i] = xs[i].p.f.length := rfl
    simp -dsimp -implicitDefEqProofs only [go_sem, Nat.reduceBEq, Nat.reduceAdd, Nat.reduceLeDiff, Nat.reduceSub, Int.reduceEq, h0, h5, h1, Sn_at hlt, snC]
    repeat with_reducible refine ask.of (by omega) ?_
    simp -dsimp -implicitDefEqProofs only [go_sem, Nat.reduceBEq, Nat.reduceAdd, Nat.reduceLeDiff, Nat.reduceSub, Int.reduceEq, h0, h5, h1, Sn_at hlt, snC, bleR]
    refine CallE.of (c_szSent xs[i] (left - (xs.length + szL snW (xs.take i))) (hb _ (List.getElem_mem _)) (by omega)) (by rintro r rfl; (repeat' first | exact trivial | exact pure_rowB _ | exact pure_rowO _ | exact pure_rowI _ | exact pure_rowBB _ | exact pure_rowPk _ _ | exact pure_rowSn _ _ | exact pure_rowFd _ _ | exact pure_rowBBB _ | exact pure_rowCl _ _ | exact pure_rowTb _ _ _ | refine And.intro ?_ ?_)) (by simp -dsimp -implicitDefEqProofs only [go_sem, Nat.reduceBEq, Nat.reduceAdd, Nat.reduceLeDiff, Nat.reduceSub, Int.reduceEq, h0, h5, h1, snC]) ?_
    rintro r rfl
    simp -dsimp -implicitDefEqProofs only [go_sem, Nat.reduceBEq, Nat.reduceAdd, Nat.reduceLeDiff, Nat.reduceSub, Int.reduceEq, h0, h5, h1, snC]
    refine ifB'.of (fun hn => ?_) (fun hn => ?_)
    · have : ¬ xs[i].p.f.length ≤ left - (xs.length + szL snW (xs.take i)) := fun h => by rw [szR_ok h] at hn; omega
      simp -dsimp -implicitDefEqProofs only [go_sem, Nat.reduceBEq, Nat.reduceAdd, Nat.reduceLeDiff, Nat.reduceSub, Int.reduceEq, h0, h5, h1]
      rw [szR_no (by omega)]
    · have h : xs[i].p.f.length ≤ left - (xs.length + szL snW (xs.take i)) := Classical.byContradiction fun h => by rw [szR_no h] at hn; omega
      simp -dsimp -implicitDefEqProofs only [go_sem, Nat.reduceBEq, Nat.reduceAdd, Nat.reduceLeDiff, Nat.reduceSub, Int.reduceEq, h0, h5, h1]
      refine hK _ hlt ?_
      simp -dsimp -implicitDefEqProofs only [go_sem, Nat.reduceBEq, Nat.reduceAdd, Nat.reduceLeDiff, Nat.reduceSub, Int.reduceEq, h0, h5, h1, wrap_succ (show i < 4611686018427387904 by omega), szR_ok h, hs]
      exact ⟨by omega, by omega⟩
  · have : i = xs.length := by omega
    subst this
    simp -dsimp -implicitDefEqProofs only [go_sem, Nat.reduceBEq, Nat.reduceAdd, Nat.reduceLeDiff, Nat.reduceSub, Int.reduceEq, h0, h5, h1]
    rw [List.take_length] at hle ⊢
    rw [szR_ok (by omega)]
theorem Sn_set (xs : List Sn) (i : Nat) (x : Sn) : (ra snC xs).set i (snC x) = ra snC (xs.set i x) := ra_set xs i x
theorem c_toSentS (xs : List Sn) (hx : xs.length ≤ 1048576) (hb : ∀ b ∈ xs, b.p.f.length ≤ 1048576) : Meets Try.prog 83 [rowSn 213 xs] (fun r => r = rowSn 133 xs) := by
  refine Meets.intro mixed (hint []) Try.func83 rfl (by decide) res_83 rty_83 (by kernel_rfl) ?_; 
  simp -dsimp -implicitDefEqProofs only [go_sem, Nat.reduceBEq, Nat.reduceAdd, Nat.reduceLeDiff, Nat.reduceSub, Int.reduceEq, rowSn]
  refine ask.of (by omega) ?_
  refine LoopE.cnt xs.length (fun i s => s.env 0 = .rd .ent 213 7 (ra snC xs) ∧ s.env 3 = .ref [7] ∧ s.env 4 = .v (.int .i64 i) ∧ s.σ [7] = some (.row 133 7 (ra snC (xs.take i ++ List.replicate (xs.length - i) sn0)))) ⟨by simp -dsimp -implicitDefEqProofs only [go_sem, Nat.reduceBEq, Nat.reduceAdd, Nat.reduceLeDiff, Nat.reduceSub, Int.reduceEq, initE, rowSn], by simp -dsimp -implicitDefEqProofs only [go_sem, Nat.reduceBEq, Nat.reduceAdd, Nat.reduceLeDiff, Nat.reduceSub, Int.reduceEq], by simp -dsimp -implicitDefEqProofs only [go_sem, Nat.reduceBEq, Nat.reduceAdd, Nat.reduceLeDiff, Nat.reduceSub, Int.reduceEq] <;> simp, by simp -dsimp -implicitDefEqProofs only [go_sem, Nat.reduceBEq, Nat.reduceAdd, Nat.reduceLeDiff, Nat.reduceSub, Int.reduceEq] <;> simp [ra, snC, sn0, pk0, bytesA]⟩ ?_
  rintro i ⟨e, σ⟩ hi ⟨h0, h3, h4, hs⟩ K hK
  simp only at h0 h3 h4 hs
  simp -dsimp -implicitDefEqProofs only [go_sem, Nat.reduceBEq, Nat.reduceAdd, Nat.reduceLeDiff, Nat.reduceSub, Int.reduceEq, h0, h3, h4, hs]
  refine ifB'.of (fun hlt => ?_) (fun hlt => ?_)
  · have hlt : i < xs.length := by omega
    have hl : (List.take i xs ++ List.replicate (xs.length - i) sn0).length = xs.length := by simp; omega
    simp -dsimp -implicitDefEqProofs only [go_sem, Nat.reduceBEq, Nat.reduceAdd, Nat.reduceLeDiff, Nat.reduceSub, Int.reduceEq, h0, h3, h4, hs, Sn_at hlt, snC]
    repeat with_reducible refine ask.of (by omega) ?_
    simp -dsimp -implicitDefEqProofs only [go_sem, Nat.reduceBEq, Nat.reduceAdd, Nat.reduceLeDiff, Nat.reduceSub, Int.reduceEq, h0, h3, h4, hs, Sn_at hlt, snC, bleR]
    refine CallE.of (c_toSent xs[i] (hb _ (List.getElem_mem _))) (by rintro r rfl; (repeat' first | exact trivial | exact pure_rowB _ | exact pure_rowO _ | exact pure_rowI _ | exact pure_rowBB _ | exact pure_rowPk _ _ | exact pure_rowSn _ _ | exact pure_rowFd _ _ | exact pure_rowBBB _ | exact pure_rowCl _ _ | exact pure_rowTb _ _ _ | refine And.intro ?_ ?_)) (by simp -dsimp -implicitDefEqProofs only [go_sem, Nat.reduceBEq, Nat.reduceAdd, Nat.reduceLeDiff, Nat.reduceSub, Int.reduceEq, h0, h3, h4, hs, snC]) ?_
    rintro r rfl
    simp -dsimp -implicitDefEqProofs only [go_sem, Nat.reduceBEq, Nat.reduceAdd, Nat.reduceLeDiff, Nat.reduceSub, Int.reduceEq, h0, h3, h4, hs, snC]
    simp -dsimp -implicitDefEqProofs only [go_sem, Nat.reduceBEq, Nat.reduceAdd, Nat.reduceLeDiff, Nat.reduceSub, Int.reduceEq, h0, h3, h4, hs, hl]
    repeat with_reducible refine ask.of (by omega) ?_
    simp -dsimp -implicitDefEqProofs only [go_sem, Nat.reduceBEq, Nat.reduceAdd, Nat.reduceLeDiff, Nat.reduceSub, Int.reduceEq, h0, h3, h4, hs, Sn_at (show i < (List.take i xs ++ List.replicate (xs.length - i) sn0).length by omega), snC, bleR]
    refine hK _ hlt ?_
    simp -dsimp -implicitDefEqProofs only [go_sem, Nat.reduceBEq, Nat.reduceAdd, Nat.reduceLeDiff, Nat.reduceSub, Int.reduceEq, h0, h3, h4, hs, wrap_succ (show i < 4611686018427387904 by omega)]
    exact congrArg (fun l => some (OB.row _ 7 l)) ((Sn_set _ i xs[i]).trans (congrArg (ra snC) (fill_set xs sn0 hlt)))
  · have : i = xs.length := by omega
    subst this
    simp -dsimp -implicitDefEqProofs only [go_sem, Nat.reduceBEq, Nat.reduceAdd, Nat.reduceLeDiff, Nat.reduceSub, Int.reduceEq, h0, h3, h4, hs, rowSn]
    simp
theorem c_eqSentS (xs : List Sn) (hx : xs.length ≤ 1048576) (hb : ∀ b ∈ xs, b.p.f.length ≤ 1048576) : Meets Try.prog 89 [rowSn 133 xs, rowSn 133 xs] (fun r => r = .v (.bool true)) := by
  refine Meets.intro mixed (hint []) Try.func89 rfl (by decide) res_89 rty_89 (by kernel_rfl) ?_; 
  simp -dsimp -implicitDefEqProofs only [go_sem, Nat.reduceBEq, Nat.reduceAdd, Nat.reduceLeDiff, Nat.reduceSub, Int.reduceEq, decide_true, Bool.not_true, rowSn]
  refine LoopE.cnt xs.length (fun i s => s.env 0 = .rd .ent 133 7 (ra snC xs) ∧ s.env 1 = .rd .ent 133 7 (ra snC xs) ∧ s.env 5 = .v (.int .i64 i)) ⟨by simp -dsimp -implicitDefEqProofs only [go_sem, Nat.reduceBEq, Nat.reduceAdd, Nat.reduceLeDiff, Nat.reduceSub, Int.reduceEq, initE, rowSn], by simp -dsimp -implicitDefEqProofs only [go_sem, Nat.reduceBEq, Nat.reduceAdd, Nat.reduceLeDiff, Nat.reduceSub, Int.reduceEq, initE, rowSn], by simp -dsimp -implicitDefEqProofs only [go_sem, Nat.reduceBEq, Nat.reduceAdd, Nat.reduceLeDiff, Nat.reduceSub, Int.reduceEq] <;> simp⟩ ?_
  rintro i ⟨e, σ⟩ hi ⟨h0, h1, h5⟩ K hK
  simp only at h0 h1 h5
  simp -dsimp -implicitDefEqProofs only [go_sem, Nat.reduceBEq, Nat.reduceAdd, Nat.reduceLeDiff, Nat.reduceSub, Int.reduceEq, h0, h1, h5]
  refine ifB'.of (fun hlt => ?_) (fun hlt => ?_)
  · have hlt : i < xs.length := by omega
    simp -dsimp -implicitDefEqProofs only [go_sem, Nat.reduceBEq, Nat.reduceAdd, Nat.reduceLeDiff, Nat.reduceSub, Int.reduceEq, h0, h1, h5, Sn_at hlt, snC]
    repeat (first | with_reducible refine ask.of (by omega) ?_ | simp -dsimp -implicitDefEqProofs only [go_sem, Nat.reduceBEq, Nat.reduceAdd, Nat.reduceLeDiff, Nat.reduceSub, Int.reduceEq, h0, h1, h5, Sn_at hlt, snC, bleR])
    refine CallE.of (c_eqSent xs[i] (hb _ (List.getElem_mem _))) (by rintro r rfl; (repeat' first | exact trivial | exact pure_rowB _ | exact pure_rowO _ | exact pure_rowI _ | exact pure_rowBB _ | exact pure_rowPk _ _ | exact pure_rowSn _ _ | exact pure_rowFd _ _ | exact pure_rowBBB _ | exact pure_rowCl _ _ | exact pure_rowTb _ _ _ | refine And.intro ?_ ?_)) (by simp -dsimp -implicitDefEqProofs only [go_sem, Nat.reduceBEq, Nat.reduceAdd, Nat.reduceLeDiff, Nat.reduceSub, Int.reduceEq, h0, h1, h5, Bool.not_true, snC]) ?_
    rintro r rfl
    simp -dsimp -implicitDefEqProofs only [go_sem, Nat.reduceBEq, Nat.reduceAdd, Nat.reduceLeDiff, Nat.reduceSub, Int.reduceEq, h0, h1, h5, Bool.not_true, snC]
    refine hK _ hlt ?_
    simp -dsimp -implicitDefEqProofs only [go_sem, Nat.reduceBEq, Nat.reduceAdd, Nat.reduceLeDiff, Nat.reduceSub, Int.reduceEq, h0, h1, h5, wrap_succ (show i < 4611686018427387904 by omega)]
  · simp -dsimp -implicitDefEqProofs only [go_sem, Nat.reduceBEq, Nat.reduceAdd, Nat.reduceLeDiff, Nat.reduceSub, Int.reduceEq, h0, h1, h5]
end Go.Ev
set_option linter.unusedSimpArgs false
set_option linter.unusedVariables false
namespace Go.Ev
open Go Go.RowKit Go.Proofs
structure LO where
  a : Int
  b : Int
  c : Int
  h : List Sn
def loC (T : Nat) (x : LO) : List AV := [.v (.int .i64 x.a), .v (.int .i64 x.b), .v (.int .i64 x.c), .row T 7 (ra snC x.h)]
def loW (x : LO) : Nat := x.h.length + szL snW x.h
theorem c_szLinkOut (x : LO) (left : Nat) (hl : left ≤ 1048576) (hx : x.h.length ≤ 140737488355328) (hb : ∀ b ∈ x.h, b.p.f.length ≤ 140737488355328) : Meets Try.prog 12 [.agg (loC 213 x), .v (.int .i64 left)] (fun r => r = .v (.int .i64 (szR left (loW x)))) := by
  refine Meets.intro mixed (hint []) Try.func12 rfl (by decide) res_12 rty_12 (by kernel_rfl) ?_; 
  simp -dsimp -implicitDefEqProofs only [go_sem, Nat.reduceBEq, Nat.reduceAdd, Nat.reduceLeDiff, Nat.reduceSub, Int.reduceEq, loC]
  repeat (first | with_reducible refine ask.of (by omega) ?_ | simp -dsimp -implicitDefEqProofs only [go_sem, Nat.reduceBEq, Nat.reduceAdd, Nat.reduceLeDiff, Nat.reduceSub, Int.reduceEq, bleR])
  refine CallE.of (c_szSentS x.h left hl hx hb) (by rintro r rfl; (repeat' first | exact trivial | exact pure_rowB _ | exact pure_rowO _ | exact pure_rowI _ | exact pure_rowBB _ | exact pure_rowPk _ _ | exact pure_rowSn _ _ | exact pure_rowFd _ _ | exact pure_rowBBB _ | exact pure_rowCl _ _ | exact pure_rowTb _ _ _ | refine And.intro ?_ ?_)) (by simp -dsimp -implicitDefEqProofs only [go_sem, Nat.reduceBEq, Nat.reduceAdd, Nat.reduceLeDiff, Nat.reduceSub, Int.reduceEq, rowSn]) ?_
  rintro r rfl
  simp -dsimp -implicitDefEqProofs only [go_sem, Nat.reduceBEq, Nat.reduceAdd, Nat.reduceLeDiff, Nat.reduceSub, Int.reduceEq, rowSn]
  by_cases h2 : x.h.length + szL snW x.h ≤ left
  · rw [szR_ok h2]
    refine ifB'.of (fun h => by omega) (fun h => ?_)
    simp -dsimp -implicitDefEqProofs only [go_sem, Nat.reduceBEq, Nat.reduceAdd, Nat.reduceLeDiff, Nat.reduceSub, Int.reduceEq]
    rw [szR_ok (by unfold loW; omega), loW]
  · rw [szR_no h2]
    simp -dsimp -implicitDefEqProofs only [go_sem, Nat.reduceBEq, Nat.reduceAdd, Nat.reduceLeDiff, Nat.reduceSub, Int.reduceEq, show decide ((-1 : Int) < 0) = true from rfl]
    rw [szR_no (by unfold loW; omega)]
theorem c_toLinkOut (x : LO) (hx : x.h.length ≤ 1048576) (hb : ∀ b ∈ x.h, b.p.f.length ≤ 1048576) : Meets Try.prog 14 [.agg (loC 213 x)] (fun r => r = .agg (loC 133 x)) := by
  refine Meets.intro mixed (hint []) Try.func14 rfl (by decide) res_14 rty_14 (by kernel_rfl) ?_; 
  simp -dsimp -implicitDefEqProofs only [go_sem, Nat.reduceBEq, Nat.reduceAdd, Nat.reduceLeDiff, Nat.reduceSub, Int.reduceEq, loC]
  repeat (first | with_reducible refine ask.of (by omega) ?_ | simp -dsimp -implicitDefEqProofs only [go_sem, Nat.reduceBEq, Nat.reduceAdd, Nat.reduceLeDiff, Nat.reduceSub, Int.reduceEq, bleR])
  refine CallE.of (c_toSentS x.h hx hb) (by rintro r rfl; (repeat' first | exact trivial | exact pure_rowB _ | exact pure_rowO _ | exact pure_rowI _ | exact pure_rowBB _ | exact pure_rowPk _ _ | exact pure_rowSn _ _ | exact pure_rowFd _ _ | exact pure_rowBBB _ | exact pure_rowCl _ _ | exact pure_rowTb _ _ _ | refine And.intro ?_ ?_)) (by simp -dsimp -implicitDefEqProofs only [go_sem, Nat.reduceBEq, Nat.reduceAdd, Nat.reduceLeDiff, Nat.reduceSub, Int.reduceEq, rowSn]) ?_
  rintro r rfl
  simp -dsimp -implicitDefEqProofs only [go_sem, Nat.reduceBEq, Nat.reduceAdd, Nat.reduceLeDiff, Nat.reduceSub, Int.reduceEq, rowSn]
  repeat (first | with_reducible refine ask.of (by omega) ?_ | simp -dsimp -implicitDefEqProofs only [go_sem, Nat.reduceBEq, Nat.reduceAdd, Nat.reduceLeDiff, Nat.reduceSub, Int.reduceEq, bleR])
theorem c_eqLinkOut (x : LO) (hx : x.h.length ≤ 1048576) (hb : ∀ b ∈ x.h, b.p.f.length ≤ 1048576) : Meets Try.prog 17 [.agg (loC 133 x), .agg (loC 133 x)] (fun r => r = .v (.bool true)) := by
  refine Meets.intro mixed (hint []) Try.func17 rfl (by decide) res_17 rty_17 (by kernel_rfl) ?_; 
  simp -dsimp -implicitDefEqProofs only [go_sem, Nat.reduceBEq, Nat.reduceAdd, Nat.reduceLeDiff, Nat.reduceSub, Int.reduceEq, loC, decide_true]
  repeat (first | with_reducible refine ask.of (by omega) ?_ | simp -dsimp -implicitDefEqProofs only [go_sem, Nat.reduceBEq, Nat.reduceAdd, Nat.reduceLeDiff, Nat.reduceSub, Int.reduceEq, bleR, decide_true])
  refine CallE.of (c_eqSentS x.h hx hb) (by rintro r rfl; (repeat' first | exact trivial | exact pure_rowB _ | exact pure_rowO _ | exact pure_rowI _ | exact pure_rowBB _ | exact pure_rowPk _ _ | exact pure_rowSn _ _ | exact pure_rowFd _ _ | exact pure_rowBBB _ | exact pure_rowCl _ _ | exact pure_rowTb _ _ _ | refine And.intro ?_ ?_)) (by simp -dsimp -implicitDefEqProofs only [go_sem, Nat.reduceBEq, Nat.reduceAdd, Nat.reduceLeDiff, Nat.reduceSub, Int.reduceEq, rowSn, Bool.not_true]) ?_
  rintro r rfl
  simp -dsimp -implicitDefEqProofs only [go_sem, Nat.reduceBEq, Nat.reduceAdd, Nat.reduceLeDiff, Nat.reduceSub, Int.reduceEq, rowSn, Bool.not_true]
def loAt (x : LO) (i : Nat) (h : i < x.h.length) : Prop := okPk x.h[i].p ∧ x.h[i].p.a = 1 ∧ x.h[i].p.b = x.a ∧ x.h[i].p.c = x.b - x.h.length + i ∧ -1 ≤ x.h[i].q ∧ x.h[i].q ≤ x.c
def okLO (x : LO) : Prop := (1 ≤ x.a ∧ x.a ≤ 1000000000 ∧ 0 ≤ x.b ∧ x.b ≤ 1000000000000 ∧ 0 ≤ x.c ∧ x.c ≤ 1000000000 ∧ x.h.length ≤ 300) ∧ ∀ i (h : i < x.h.length), loAt x i h
noncomputable def loB (x : LO) : Bool := @decide (okLO x) (Classical.propDecidable _)
theorem lo_f {x : LO} (h : ¬ okLO x) : false = loB x := (@decide_eq_false _ (Classical.propDecidable _) h).symm
theorem lo_t {x : LO} (h : okLO x) : true = loB x := (@decide_eq_true _ (Classical.propDecidable _) h).symm
set_option maxRecDepth 4000 in
theorem c_specValidOut (x : LO) (hx : x.h.length ≤ 1048576) (hb : ∀ b ∈ x.h, b.p.f.length ≤ 1048576) : Meets Try.prog 80 [.agg (loC 133 x)] (fun r => r = .v (.bool (loB x))) := by
  refine Meets.intro mixed (hint []) Try.func80 rfl (by decide) res_80 rty_80 (by kernel_rfl) ?_; 
  simp -dsimp -implicitDefEqProofs only [go_sem, Nat.reduceBEq, Nat.reduceAdd, Nat.reduceLeDiff, Nat.reduceSub, Int.reduceEq, loC, decide_true]
  repeat' (first | with_reducible refine ifB'.of (fun h => ?_) (fun h => ?_) | with_reducible refine ask.of (by omega) ?_ | ((with_reducible refine lo_f ?_); exact fun (hh : okLO x) => by { have := hh.1; omega }) | simp -dsimp -implicitDefEqProofs only [go_sem, Nat.reduceBEq, Nat.reduceAdd, Nat.reduceLeDiff, Nat.reduceSub, Int.reduceEq, decide_true, bleR])
  refine LoopE.cnt x.h.length (fun i s => s.env 1 = .ptr [1] 0 0 0 ∧ s.env 3 = .v (.int .i64 i) ∧ s.σ [1] = some (.box 29 [.v (.int .i64 x.a), .v (.int .i64 x.b), .v (.int .i64 x.c), .rd .ent 133 7 (ra snC x.h)]) ∧ ∀ j (hj : j < x.h.length), j < i → loAt x j hj) ⟨by simp -dsimp -implicitDefEqProofs only [go_sem, Nat.reduceBEq, Nat.reduceAdd, Nat.reduceLeDiff, Nat.reduceSub, Int.reduceEq], by simp -dsimp -implicitDefEqProofs only [go_sem, Nat.reduceBEq, Nat.reduceAdd, Nat.reduceLeDiff, Nat.reduceSub, Int.reduceEq] <;> simp, by simp -dsimp -implicitDefEqProofs only [go_sem, Nat.reduceBEq, Nat.reduceAdd, Nat.reduceLeDiff, Nat.reduceSub, Int.reduceEq], fun j hj h => absurd h (by omega)⟩ ?_
  rintro i ⟨e, σ⟩ hi ⟨h1, h3, hs, hz⟩ K hK
  simp only at h1 h3 hs
  repeat (first | with_reducible refine ask.of (by omega) ?_ | simp -dsimp -implicitDefEqProofs only [go_sem, Nat.reduceBEq, Nat.reduceAdd, Nat.reduceLeDiff, Nat.reduceSub, Int.reduceEq, h1, h3, hs, bleR])
  refine ifB'.of (fun hlt => ?_) (fun hlt => ?_)
  · have hlt : i < x.h.length := by omega
    repeat (first | with_reducible refine ask.of (by omega) ?_ | simp -dsimp -implicitDefEqProofs only [go_sem, Nat.reduceBEq, Nat.reduceAdd, Nat.reduceLeDiff, Nat.reduceSub, Int.reduceEq, h1, h3, hs, bleR, Sn_at hlt, snC, show Nat.ble 6 7 = true from rfl])
    refine CallE.of (c_l5valid x.h[i].p (hb _ (List.getElem_mem _))) (by rintro r rfl; (repeat' first | exact trivial | exact pure_rowB _ | exact pure_rowO _ | exact pure_rowI _ | exact pure_rowBB _ | exact pure_rowPk _ _ | exact pure_rowSn _ _ | exact pure_rowFd _ _ | exact pure_rowBBB _ | exact pure_rowCl _ _ | exact pure_rowTb _ _ _ | refine And.intro ?_ ?_)) (by simp -dsimp -implicitDefEqProofs only [go_sem, Nat.reduceBEq, Nat.reduceAdd, Nat.reduceLeDiff, Nat.reduceSub, Int.reduceEq, h1, h3, hs, pkC]) ?_
    rintro r rfl
    simp -dsimp -implicitDefEqProofs only [go_sem, Nat.reduceBEq, Nat.reduceAdd, Nat.reduceLeDiff, Nat.reduceSub, Int.reduceEq, h1, h3, hs, pkC]
    have e9 : IntKind.i64.wrap (x.b - (x.h.length : Int)) = x.b - (x.h.length : Int) := wrap_i64_of (by omega) (by omega)
    have e8 : IntKind.i64.wrap (x.b - (x.h.length : Int) + (i : Int)) = x.b - (x.h.length : Int) + (i : Int) := wrap_i64_of (by omega) (by omega)
    cases h5 : okB x.h[i].p
    · repeat (first | with_reducible refine ask.of (by omega) ?_ | simp -dsimp -implicitDefEqProofs only [go_sem, Nat.reduceBEq, Nat.reduceAdd, Nat.reduceLeDiff, Nat.reduceSub, Int.reduceEq, h1, h3, hs, h5, Bool.not_false])
      exact lo_f fun (hh : okLO x) => by
        rw [okB, decide_eq_true (hh.2 i hlt).1] at h5
        cases h5
    · have h6 : okPk x.h[i].p := by simpa [okB] using h5
      repeat' (first | with_reducible refine ifB'.of (fun h => ?_) (fun h => ?_) | with_reducible refine ask.of (by omega) ?_ | ((with_reducible refine lo_f ?_); exact fun (hh : okLO x) => by { have h7 := (hh.2 i hlt).2; omega }) | simp -dsimp -implicitDefEqProofs only [go_sem, Nat.reduceBEq, Nat.reduceAdd, Nat.reduceLeDiff, Nat.reduceSub, Int.reduceEq, h1, h3, hs, h5, Bool.not_true, e9, e8])
      refine hK _ hlt ?_
      simp -dsimp -implicitDefEqProofs only [go_sem, Nat.reduceBEq, Nat.reduceAdd, Nat.reduceLeDiff, Nat.reduceSub, Int.reduceEq, h1, h3, hs, wrap_succ (show i < 4611686018427387904 by omega)]
      exact fun j hj hjt => by
        by_cases hji : j = i
        · subst hji; exact ⟨h6, by omega, by omega, by omega, by omega, by omega⟩
        · exact hz j hj (by omega)
  · have hi : i = x.h.length := by omega
    simp -dsimp -implicitDefEqProofs only [go_sem, Nat.reduceBEq, Nat.reduceAdd, Nat.reduceLeDiff, Nat.reduceSub, Int.reduceEq, h1, h3, hs]
    exact lo_t ⟨by omega, fun j hj => hz j hj (by omega)⟩
set_option maxRecDepth 4000 in
theorem c_implValidOut (x : LO) (hx : x.h.length ≤ 1048576) (hb : ∀ b ∈ x.h, b.p.f.length ≤ 1048576) : Meets Try.prog 84 [.agg (loC 133 x)] (fun r => r = .v (.bool (loB x))) := by
  refine Meets.intro mixed (hint []) Try.func84 rfl (by decide) res_84 rty_84 (by kernel_rfl) ?_; 
  simp -dsimp -implicitDefEqProofs only [go_sem, Nat.reduceBEq, Nat.reduceAdd, Nat.reduceLeDiff, Nat.reduceSub, Int.reduceEq, loC, decide_true]
  repeat' (first | with_reducible refine ifB'.of (fun h => ?_) (fun h => ?_) | with_reducible refine ask.of (by omega) ?_ | ((with_reducible refine lo_f ?_); exact fun (hh : okLO x) => by { have := hh.1; omega }) | simp -dsimp -implicitDefEqProofs only [go_sem, Nat.reduceBEq, Nat.reduceAdd, Nat.reduceLeDiff, Nat.reduceSub, Int.reduceEq, decide_true, bleR])
  refine LoopE.cnt x.h.length (fun i s => s.env 1 = .ptr [1] 0 0 0 ∧ s.env 3 = .v (.int .i64 x.h.length) ∧ s.env 43 = .rd .ent 133 7 (ra snC x.h) ∧ s.env 44 = .v (.int .i64 x.h.length) ∧ s.env 45 = .v (.int .i64 i) ∧ s.σ [1] = some (.box 29 [.v (.int .i64 x.a), .v (.int .i64 x.b), .v (.int .i64 x.c), .rd .ent 133 7 (ra snC x.h)]) ∧ ∀ j (hj : j < x.h.length), j < i → loAt x j hj) ⟨by simp -dsimp -implicitDefEqProofs only [go_sem, Nat.reduceBEq, Nat.reduceAdd, Nat.reduceLeDiff, Nat.reduceSub, Int.reduceEq], by simp -dsimp -implicitDefEqProofs only [go_sem, Nat.reduceBEq, Nat.reduceAdd, Nat.reduceLeDiff, Nat.reduceSub, Int.reduceEq], by simp -dsimp -implicitDefEqProofs only [go_sem, Nat.reduceBEq, Nat.reduceAdd, Nat.reduceLeDiff, Nat.reduceSub, Int.reduceEq], by simp -dsimp -implicitDefEqProofs only [go_sem, Nat.reduceBEq, Nat.reduceAdd, Nat.reduceLeDiff, Nat.reduceSub, Int.reduceEq], by simp -dsimp -implicitDefEqProofs only [go_sem, Nat.reduceBEq, Nat.reduceAdd, Nat.reduceLeDiff, Nat.reduceSub, Int.reduceEq] <;> simp, by simp -dsimp -implicitDefEqProofs only [go_sem, Nat.reduceBEq, Nat.reduceAdd, Nat.reduceLeDiff, Nat.reduceSub, Int.reduceEq], fun j hj h => absurd h (by omega)⟩ ?_
  rintro i ⟨e, σ⟩ hi ⟨h1, h3, h43, h44, h45, hs, hz⟩ K hK
  simp only at h1 h3 h43 h44 h45 hs
  simp -dsimp -implicitDefEqProofs only [go_sem, Nat.reduceBEq, Nat.reduceAdd, Nat.reduceLeDiff, Nat.reduceSub, Int.reduceEq, h1, h3, h43, h44, h45, hs]
  refine ifB'.of (fun hlt => ?_) (fun hlt => ?_)
  · have hlt : i < x.h.length := by omega
    repeat (first | with_reducible refine ask.of (by omega) ?_ | simp -dsimp -implicitDefEqProofs only [go_sem, Nat.reduceBEq, Nat.reduceAdd, Nat.reduceLeDiff, Nat.reduceSub, Int.reduceEq, h1, h3, h43, h44, h45, hs, bleR, Sn_at hlt, snC, show Nat.ble 6 7 = true from rfl])
    refine CallE.of (c_packetOk x.h[i].p (hb _ (List.getElem_mem _))) (by rintro r rfl; (repeat' first | exact trivial | exact pure_rowB _ | exact pure_rowO _ | exact pure_rowI _ | exact pure_rowBB _ | exact pure_rowPk _ _ | exact pure_rowSn _ _ | exact pure_rowFd _ _ | exact pure_rowBBB _ | exact pure_rowCl _ _ | exact pure_rowTb _ _ _ | refine And.intro ?_ ?_)) (by simp -dsimp -implicitDefEqProofs only [go_sem, Nat.reduceBEq, Nat.reduceAdd, Nat.reduceLeDiff, Nat.reduceSub, Int.reduceEq, h1, h3, h43, h44, h45, hs, pkC]) ?_
    rintro r rfl
    simp -dsimp -implicitDefEqProofs only [go_sem, Nat.reduceBEq, Nat.reduceAdd, Nat.reduceLeDiff, Nat.reduceSub, Int.reduceEq, h1, h3, h43, h44, h45, hs, pkC]
    have e9 : IntKind.i64.wrap (x.b - (x.h.length : Int)) = x.b - (x.h.length : Int) := wrap_i64_of (by omega) (by omega)
    have e8 : IntKind.i64.wrap (x.b - (x.h.length : Int) + (i : Int)) = x.b - (x.h.length : Int) + (i : Int) := wrap_i64_of (by omega) (by omega)
    cases h5 : okB x.h[i].p
    · repeat (first | with_reducible refine ask.of (by omega) ?_ | simp -dsimp -implicitDefEqProofs only [go_sem, Nat.reduceBEq, Nat.reduceAdd, Nat.reduceLeDiff, Nat.reduceSub, Int.reduceEq, h1, h3, h43, h44, h45, hs, h5, Bool.not_false])
      exact lo_f fun (hh : okLO x) => by
        rw [okB, decide_eq_true (hh.2 i hlt).1] at h5
        cases h5
    · have h6 : okPk x.h[i].p := by simpa [okB] using h5
      repeat' (first | with_reducible refine ifB'.of (fun h => ?_) (fun h => ?_) | with_reducible refine ask.of (by omega) ?_ | ((with_reducible refine lo_f ?_); exact fun (hh : okLO x) => by { have h7 := (hh.2 i hlt).2; omega }) | simp -dsimp -implicitDefEqProofs only [go_sem, Nat.reduceBEq, Nat.reduceAdd, Nat.reduceLeDiff, Nat.reduceSub, Int.reduceEq, h1, h3, h43, h44, h45, hs, h5, Bool.not_true, e9, e8])
      refine hK _ hlt ?_
      simp -dsimp -implicitDefEqProofs only [go_sem, Nat.reduceBEq, Nat.reduceAdd, Nat.reduceLeDiff, Nat.reduceSub, Int.reduceEq, h1, h3, h43, h44, h45, hs, wrap_succ (show i < 4611686018427387904 by omega)]
      exact fun j hj hjt => by
        by_cases hji : j = i
        · subst hji; exact ⟨h6, by omega, by omega, by omega, by omega, by omega⟩
        · exact hz j hj (by omega)
  · have hi : i = x.h.length := by omega
    simp -dsimp -implicitDefEqProofs only [go_sem, Nat.reduceBEq, Nat.reduceAdd, Nat.reduceLeDiff, Nat.reduceSub, Int.reduceEq, h1, h3, h43, h44, h45, hs]
    exact lo_t ⟨by omega, fun j hj => hz j hj (by omega)⟩
end Go.Ev
set_option linter.unusedSimpArgs false
set_option linter.unusedVariables false
namespace Go.Ev
open Go Go.RowKit Go.Proofs
theorem nilL_one (l : List AV) : nilL [none] l = l := by cases l <;> simp [nilL, nilC]
attribute [go_sem] nilL_one
end Go.Ev
set_option linter.unusedSimpArgs false
set_option linter.unusedVariables false
namespace Go.Ev
open Go Go.RowKit Go.Proofs
def h8 (x0 x1 x2 x3 x4 x5 x6 x7 : Bool) : Nat := (((((((0 * 2 + x7.toNat) * 2 + x6.toNat) * 2 + x5.toNat) * 2 + x4.toNat) * 2 + x3.toNat) * 2 + x2.toNat) * 2 + x1.toNat) * 2 + x0.toNat
end Go.Ev
set_option linter.unusedSimpArgs false
set_option linter.unusedVariables false
namespace Go.Ev
open Go Go.RowKit Go.Proofs
def chunk (b : List UInt8) (w i : Nat) : List UInt8 := (b.drop (w * i)).take w
end Go.Ev
set_option linter.unusedSimpArgs false
set_option linter.unusedVariables false
namespace Go.Ev
open Go Go.RowKit Go.Proofs
def okD (xs : List (List UInt8)) : Prop := xs.length ≤ 40 ∧ wBB xs ≤ 4000 ∧ xs.Nodup
instance (xs : List (List UInt8)) : Decidable (okD xs) := by unfold okD; infer_instance
end Go.Ev
set_option linter.unusedSimpArgs false
set_option linter.unusedVariables false
namespace Go.Ev
open Go Go.RowKit Go.Proofs
theorem c_l1copy (b : List UInt8) (hb : b.length ≤ 8388608) : Meets Try.prog 82 [rowB b] (fun r => r = rowB b) := by
  refine Meets.intro mixed (hint [(3, 125)]) Try.func82 rfl (by decide) res_82 rty_82 (by kernel_rfl) ?_; 
  simp -dsimp -implicitDefEqProofs only [go_sem, Nat.reduceBEq, Nat.reduceAdd, Nat.reduceLeDiff, Nat.reduceSub, Int.reduceEq, initE]
  repeat (first | with_reducible refine ask.of (by first | omega | (simp only [List.length_nil]; omega)) ?_ | simp -dsimp -implicitDefEqProofs only [go_sem, Nat.reduceBEq, Nat.reduceAdd, Nat.reduceLeDiff, Nat.reduceSub, Int.reduceEq, List.nil_append])
end Go.Ev
set_option linter.unusedSimpArgs false
set_option linter.unusedVariables false
namespace Go.Ev
open Go Go.RowKit Go.Proofs
theorem c_bytesClone (b : List UInt8) (hb : b.length ≤ 8388608) : Meets Try.prog 88 [rowB b] (fun r => r = rowB b) := by
  refine Meets.intro mixed (hint []) Try.func88 rfl (by decide) res_88 rty_88 (by kernel_rfl) ?_; 
  simp -dsimp -implicitDefEqProofs only [go_sem, Nat.reduceBEq, Nat.reduceAdd, Nat.reduceLeDiff, Nat.reduceSub, Int.reduceEq, initE]
  refine nilE'.of (fun h => ?_) ?_
  · have h : b = [] := by simpa [bytesA] using h
    subst h
    simp -dsimp -implicitDefEqProofs only [go_sem, Nat.reduceBEq, Nat.reduceAdd, Nat.reduceLeDiff, Nat.reduceSub, Int.reduceEq]
    rfl
  · simp -dsimp -implicitDefEqProofs only [go_sem, Nat.reduceBEq, Nat.reduceAdd, Nat.reduceLeDiff, Nat.reduceSub, Int.reduceEq]
    repeat (first | with_reducible refine ask.of (by first | omega | decide | (simp; omega)) ?_ | simp -dsimp -implicitDefEqProofs only [go_sem, Nat.reduceBEq, Nat.reduceAdd, Nat.reduceLeDiff, Nat.reduceSub, Int.reduceEq, List.nil_append])
end Go.Ev
set_option linter.unusedSimpArgs false
set_option linter.unusedVariables false
namespace Go.Ev
open Go Go.RowKit Go.Proofs
theorem c_l5packet (p : Pk) (hb : p.f.length ≤ 1048576) : Meets Try.prog 136 [.agg (pkC p)] (fun r => r = .agg (pkC p)) := by
  refine Meets.intro mixed (hint []) Try.func136 rfl (by decide) res_136 rty_136 (by kernel_rfl) ?_; 
  simp -dsimp -implicitDefEqProofs only [go_sem, Nat.reduceBEq, Nat.reduceAdd, Nat.reduceLeDiff, Nat.reduceSub, Int.reduceEq, pkC]
  repeat (first | with_reducible refine ask.of (by omega) ?_ | simp -dsimp -implicitDefEqProofs only [go_sem, Nat.reduceBEq, Nat.reduceAdd, Nat.reduceLeDiff, Nat.reduceSub, Int.reduceEq, bleR])
  refine CallE.of (c_l1copy p.f (by omega)) (by rintro r rfl; (repeat' first | exact trivial | exact pure_rowB _ | exact pure_rowO _ | exact pure_rowI _ | exact pure_rowBB _ | exact pure_rowPk _ _ | exact pure_rowSn _ _ | exact pure_rowFd _ _ | exact pure_rowBBB _ | exact pure_rowCl _ _ | exact pure_rowTb _ _ _ | refine And.intro ?_ ?_)) (by simp -dsimp -implicitDefEqProofs only [go_sem, Nat.reduceBEq, Nat.reduceAdd, Nat.reduceLeDiff, Nat.reduceSub, Int.reduceEq]) ?_
  rintro r rfl
  simp -dsimp -implicitDefEqProofs only [go_sem, Nat.reduceBEq, Nat.reduceAdd, Nat.reduceLeDiff, Nat.reduceSub, Int.reduceEq]
  repeat (first | with_reducible refine ask.of (by omega) ?_ | simp -dsimp -implicitDefEqProofs only [go_sem, Nat.reduceBEq, Nat.reduceAdd, Nat.reduceLeDiff, Nat.reduceSub, Int.reduceEq, bleR])
theorem c_packetCopy (p : Pk) (hb : p.f.length ≤ 1048576) : Meets Try.prog 141 [.agg (pkC p)] (fun r => r = .agg (pkC p)) := by
  refine Meets.intro mixed (hint []) Try.func141 rfl (by decide) res_141 rty_141 (by kernel_rfl) ?_; 
  simp -dsimp -implicitDefEqProofs only [go_sem, Nat.reduceBEq, Nat.reduceAdd, Nat.reduceLeDiff, Nat.reduceSub, Int.reduceEq, pkC]
  repeat (first | with_reducible refine ask.of (by omega) ?_ | simp -dsimp -implicitDefEqProofs only [go_sem, Nat.reduceBEq, Nat.reduceAdd, Nat.reduceLeDiff, Nat.reduceSub, Int.reduceEq, bleR])
  refine CallE.of (c_bytesClone p.f (by omega)) (by rintro r rfl; (repeat' first | exact trivial | exact pure_rowB _ | exact pure_rowO _ | exact pure_rowI _ | exact pure_rowBB _ | exact pure_rowPk _ _ | exact pure_rowSn _ _ | exact pure_rowFd _ _ | exact pure_rowBBB _ | exact pure_rowCl _ _ | exact pure_rowTb _ _ _ | refine And.intro ?_ ?_)) (by simp -dsimp -implicitDefEqProofs only [go_sem, Nat.reduceBEq, Nat.reduceAdd, Nat.reduceLeDiff, Nat.reduceSub, Int.reduceEq]) ?_
  rintro r rfl
  simp -dsimp -implicitDefEqProofs only [go_sem, Nat.reduceBEq, Nat.reduceAdd, Nat.reduceLeDiff, Nat.reduceSub, Int.reduceEq]
  repeat (first | with_reducible refine ask.of (by omega) ?_ | simp -dsimp -implicitDefEqProofs only [go_sem, Nat.reduceBEq, Nat.reduceAdd, Nat.reduceLeDiff, Nat.reduceSub, Int.reduceEq, bleR])
theorem bl4 : Nat.ble 1 4 = true ∧ Nat.ble 2 4 = true ∧ Nat.ble 3 4 = true ∧ Nat.ble 1 1 = true ∧ Nat.ble 1 7 = true := ⟨rfl, rfl, rfl, rfl, rfl⟩
theorem cty_q : cty Try.prog 136 = [some (133, 7)] := by kernel_rfl
theorem ble67 : Nat.ble 6 7 = true := rfl
theorem sn_snoc {xs : List Sn} {s : Sn} : ra snC xs ++ [[.v (.int .i64 s.p.a), .v (.int .i64 s.p.b), .v (.int .i64 s.p.c), .v (.int .i64 s.p.d), .v (.bool s.p.e), .row 5 1 (bytesA s.p.f), .v (.int .i64 s.q)]] = ra snC (xs ++ [s]) := by simp [ra, snC]
theorem sn_take {xs : List Sn} {i : Nat} (h : i < xs.length) : xs.take i ++ [xs[i]] = xs.take (i + 1) := by simp
set_option maxRecDepth 8000 in
set_option maxHeartbeats 1000000 in
theorem c_l5out (x : LO) (hx : x.h.length ≤ 1048576) (hb : ∀ b ∈ x.h, b.p.f.length ≤ 1048576) : Meets Try.prog 81 [.agg (loC 133 x)] (fun r => r = .agg (loC 133 x)) := by
  refine Meets.introO mixed (hint []) (fun k => (sel (k == 5) [0,1,2,3,4,5,6,7,9,10,11,12,13,14,8,15,16,17,18,19] [])) Try.func81 rfl (by decide) res_81 rty_81 (by kernel_rfl) ?_; 
  simp -dsimp -implicitDefEqProofs only [go_sem, Nat.reduceBEq, Nat.reduceAdd, Nat.reduceLeDiff, Nat.reduceSub, Int.reduceEq, loC]
  repeat (first | with_reducible refine ask.of (by omega) ?_ | simp -dsimp -implicitDefEqProofs only [go_sem, Nat.reduceBEq, Nat.reduceAdd, Nat.reduceLeDiff, Nat.reduceSub, Int.reduceEq, bleR, bl4])
  refine LoopE.cntW x.h.length (fun i s => s.env 1 = .ptr [1] 0 0 0 ∧ s.env 2 = .ptr [2] 0 0 0 ∧ s.env 3 = .ptr [3] 0 0 0 ∧ s.env 4 = .v (.int .i64 i) ∧ s.σ [1] = some (.box 29 [.v (.int .i64 x.a), .v (.int .i64 x.b), .v (.int .i64 x.c), .rd .ent 133 7 (ra snC x.h)])
    ∧ s.σ [2] = some (.box 29 [.v (.int .i64 0), .v (.int .i64 0), .v (.int .i64 0), .v (.slice none 0 0)]) ∧ s.σ [3] = some (.box 29 [.v (.int .i64 x.a), .v (.int .i64 x.b), .v (.int .i64 x.c), .ref [50]]) ∧ s.σ [50] = some (.row 133 7 (ra snC (x.h.take i))))
    (Wk.box [3] 3 [50] 133 7 29 [.v (.int .i64 x.a), .v (.int .i64 x.b), .v (.int .i64 x.c), .v (.slice none 0 0)] ?_ rfl rfl (Wk.refl _)) ?_ ?_
  · simp -dsimp -implicitDefEqProofs only [go_sem, Nat.reduceBEq, Nat.reduceAdd, Nat.reduceLeDiff, Nat.reduceSub, Int.reduceEq]
  · refine ⟨by simp -dsimp -implicitDefEqProofs only [go_sem, Nat.reduceBEq, Nat.reduceAdd, Nat.reduceLeDiff, Nat.reduceSub, Int.reduceEq], by simp -dsimp -implicitDefEqProofs only [go_sem, Nat.reduceBEq, Nat.reduceAdd, Nat.reduceLeDiff, Nat.reduceSub, Int.reduceEq], by simp -dsimp -implicitDefEqProofs only [go_sem, Nat.reduceBEq, Nat.reduceAdd, Nat.reduceLeDiff, Nat.reduceSub, Int.reduceEq], by simp -dsimp -implicitDefEqProofs only [go_sem, Nat.reduceBEq, Nat.reduceAdd, Nat.reduceLeDiff, Nat.reduceSub, Int.reduceEq] <;> rfl, by simp -dsimp -implicitDefEqProofs only [go_sem, Nat.reduceBEq, Nat.reduceAdd, Nat.reduceLeDiff, Nat.reduceSub, Int.reduceEq], by simp -dsimp -implicitDefEqProofs only [go_sem, Nat.reduceBEq, Nat.reduceAdd, Nat.reduceLeDiff, Nat.reduceSub, Int.reduceEq], by simp -dsimp -implicitDefEqProofs only [go_sem, Nat.reduceBEq, Nat.reduceAdd, Nat.reduceLeDiff, Nat.reduceSub, Int.reduceEq] <;> rfl, by simp -dsimp -implicitDefEqProofs only [go_sem, Nat.reduceBEq, Nat.reduceAdd, Nat.reduceLeDiff, Nat.reduceSub, Int.reduceEq] <;> rfl⟩
  rintro i ⟨e, σ⟩ hi ⟨h1, h2, h3, h4, hs1, hs2, hs3, hs50⟩ K hK
  simp only at h1 h2 h3 h4 hs1 hs2 hs3 hs50
  simp -dsimp -implicitDefEqProofs only [go_sem, Nat.reduceBEq, Nat.reduceAdd, Nat.reduceLeDiff, Nat.reduceSub, Int.reduceEq, h1, h2, h3, h4, hs1, hs2, hs3, hs50]
  repeat (first | with_reducible refine ask.of (by omega) ?_ | simp -dsimp -implicitDefEqProofs only [go_sem, Nat.reduceBEq, Nat.reduceAdd, Nat.reduceLeDiff, Nat.reduceSub, Int.reduceEq, h1, h2, h3, h4, hs1, hs2, hs3, hs50, bleR])
  refine ifB'.of (fun hlt => ?_) (fun hlt => ?_)
  · have hlt : i < x.h.length := by omega
    have hp := hb _ (List.getElem_mem hlt)
    have htl : (x.h.take i).length = i := by simp; omega
    repeat (first | with_reducible refine ask.of (by omega) ?_ | simp -dsimp -implicitDefEqProofs only [go_sem, Nat.reduceBEq, Nat.reduceAdd, Nat.reduceLeDiff, Nat.reduceSub, Int.reduceEq, h1, h2, h3, h4, hs1, hs2, hs3, hs50, bleR, Sn_at hlt, snC, ble67])
    refine CallE.of (c_l5packet x.h[i].p hp) (by rintro r rfl; (repeat' first | exact trivial | exact pure_rowB _ | exact pure_rowO _ | exact pure_rowI _ | exact pure_rowBB _ | exact pure_rowPk _ _ | exact pure_rowSn _ _ | exact pure_rowFd _ _ | exact pure_rowBBB _ | exact pure_rowCl _ _ | exact pure_rowTb _ _ _ | refine And.intro ?_ ?_)) (by simp -dsimp -implicitDefEqProofs only [go_sem, Nat.reduceBEq, Nat.reduceAdd, Nat.reduceLeDiff, Nat.reduceSub, Int.reduceEq, h1, h2, h3, h4, hs1, hs2, hs3, hs50, pkC]) ?_
    rintro r rfl
    simp -dsimp -implicitDefEqProofs only [go_sem, Nat.reduceBEq, Nat.reduceAdd, Nat.reduceLeDiff, Nat.reduceSub, Int.reduceEq, h1, h2, h3, h4, hs1, hs2, hs3, hs50, pkC]
    repeat (first | with_reducible refine ask.of (by first | omega | decide | (simp only [ra_length, htl, List.length_cons, List.length_nil]; omega)) ?_ | simp -dsimp -implicitDefEqProofs only [go_sem, Nat.reduceBEq, Nat.reduceAdd, Nat.reduceLeDiff, Nat.reduceSub, Int.reduceEq, h1, h2, h3, h4, hs1, hs2, hs3, hs50, bleR, snC, ble67, sn_snoc, cty_q])
    refine hK _ _ hlt (Wk.refl _) ?_
    simp -dsimp -implicitDefEqProofs only [go_sem, Nat.reduceBEq, Nat.reduceAdd, Nat.reduceLeDiff, Nat.reduceSub, Int.reduceEq, h1, h2, h3, h4, hs1, hs2, hs3, hs50, wrap_succ (show i < 4611686018427387904 by omega), sn_snoc, sn_take hlt]
  · have : i = x.h.length := by omega
    subst this
    rw [List.take_length] at hs50
    simp -dsimp -implicitDefEqProofs only [go_sem, Nat.reduceBEq, Nat.reduceAdd, Nat.reduceLeDiff, Nat.reduceSub, Int.reduceEq, h1, h2, h3, h4, hs1, hs2, hs3, hs50]
    repeat (first | with_reducible refine ask.of (by omega) ?_ | simp -dsimp -implicitDefEqProofs only [go_sem, Nat.reduceBEq, Nat.reduceAdd, Nat.reduceLeDiff, Nat.reduceSub, Int.reduceEq, h1, h2, h3, h4, hs1, hs2, hs3, hs50, bleR, show Nat.ble 4 4 = true from rfl])
theorem c_put (xs : List Sn) (s : Sn) (hx : xs.length ≤ 1048576) (hb : s.p.f.length ≤ 1048576) : MeetsM Try.prog 87 [.mu (.bx 136 [.row 133 7 (ra snC xs)]), .mu (.agg (snC s))] (fun r rs => r = .tup [] ∧ rs = [.bx 136 [.row 133 7 (ra snC (xs ++ [s]))], .agg [.v (.int .i64 s.p.a), .v (.int .i64 s.p.b), .v (.int .i64 s.p.c), .v (.int .i64 s.p.d), .v (.bool s.p.e), .any, .v (.int .i64 s.q)]]) := by
  refine MeetsM.introO mixed (hint []) (fun k => (sel (k == 1) [0,1,2,3,4,5,6,7,8,9,10] [])) Try.func87 rfl (by decide) res_87 rty_87 (pts := parTys Try.prog 87) (by rw [par_87]; rfl) (by kernel_rfl) ?_; rw [par_87]; intro vals; 
  simp -dsimp -implicitDefEqProofs only [go_sem, Nat.reduceBEq, Nat.reduceAdd, Nat.reduceLeDiff, Nat.reduceSub, Int.reduceEq, snC]
  repeat (first | with_reducible refine ask.of (by first | omega | decide | (simp only [ra_length, List.length_cons, List.length_nil]; omega)) ?_ | simp -dsimp -implicitDefEqProofs only [go_sem, Nat.reduceBEq, Nat.reduceAdd, Nat.reduceLeDiff, Nat.reduceSub, Int.reduceEq, bleR, snC, ble67, sn_snoc, cty_q])
set_option maxRecDepth 8000 in
set_option maxHeartbeats 1000000 in
theorem c_outCopy (x : LO) (hx : x.h.length ≤ 1048576) (hb : ∀ b ∈ x.h, b.p.f.length ≤ 1048576) : Meets Try.prog 85 [.agg (loC 133 x)] (fun r => r = .agg (loC 133 x)) := by
  refine Meets.introO mixed (hint []) (fun k => (sel (k == 5) [998,0,1,3,4,2,5,2006] [])) Try.func85 rfl (by decide) res_85 rty_85 (by kernel_rfl) ?_; 
  simp -dsimp -implicitDefEqProofs only [go_sem, Nat.reduceBEq, Nat.reduceAdd, Nat.reduceLeDiff, Nat.reduceSub, Int.reduceEq, loC]
  repeat (first | with_reducible refine ask.of (by omega) ?_ | simp -dsimp -implicitDefEqProofs only [go_sem, Nat.reduceBEq, Nat.reduceAdd, Nat.reduceLeDiff, Nat.reduceSub, Int.reduceEq, bleR, bl4])
  refine LoopE.cntW x.h.length (fun i s => s.env 1 = .ptr [1] 0 0 0 ∧ s.env 2 = .ptr [2] 0 0 0 ∧ s.env 3 = .ptr [3] 0 0 0 ∧ s.env 8 = .rd .ent 133 7 (ra snC x.h) ∧ s.env 9 = .v (.int .i64 (x.h.length : Nat)) ∧ s.env 10 = .v (.int .i64 i) ∧ s.σ [1] = some (.box 29 [.v (.int .i64 x.a), .v (.int .i64 x.b), .v (.int .i64 x.c), .rd .ent 133 7 (ra snC x.h)])
    ∧ s.σ [2] = some (.box 29 [.v (.int .i64 0), .v (.int .i64 0), .v (.int .i64 0), .v (.slice none 0 0)]) ∧ s.σ [3] = some (.box 136 [.ref [1000002, 3, 0]]) ∧ s.σ [1000002, 3, 0] = some (.row 133 7 (ra snC (x.h.take i))))
    (Wk.box [3] 0 [1000002, 3, 0] 133 7 136 [.v (.slice none 0 0)] ?_ rfl rfl (Wk.refl _)) ?_ ?_
  · simp -dsimp -implicitDefEqProofs only [go_sem, Nat.reduceBEq, Nat.reduceAdd, Nat.reduceLeDiff, Nat.reduceSub, Int.reduceEq]
  · refine ⟨by simp -dsimp -implicitDefEqProofs only [go_sem, Nat.reduceBEq, Nat.reduceAdd, Nat.reduceLeDiff, Nat.reduceSub, Int.reduceEq], by simp -dsimp -implicitDefEqProofs only [go_sem, Nat.reduceBEq, Nat.reduceAdd, Nat.reduceLeDiff, Nat.reduceSub, Int.reduceEq], by simp -dsimp -implicitDefEqProofs only [go_sem, Nat.reduceBEq, Nat.reduceAdd, Nat.reduceLeDiff, Nat.reduceSub, Int.reduceEq], by simp -dsimp -implicitDefEqProofs only [go_sem, Nat.reduceBEq, Nat.reduceAdd, Nat.reduceLeDiff, Nat.reduceSub, Int.reduceEq], by simp -dsimp -implicitDefEqProofs only [go_sem, Nat.reduceBEq, Nat.reduceAdd, Nat.reduceLeDiff, Nat.reduceSub, Int.reduceEq], by simp -dsimp -implicitDefEqProofs only [go_sem, Nat.reduceBEq, Nat.reduceAdd, Nat.reduceLeDiff, Nat.reduceSub, Int.reduceEq] <;> rfl, by simp -dsimp -implicitDefEqProofs only [go_sem, Nat.reduceBEq, Nat.reduceAdd, Nat.reduceLeDiff, Nat.reduceSub, Int.reduceEq], by simp -dsimp -implicitDefEqProofs only [go_sem, Nat.reduceBEq, Nat.reduceAdd, Nat.reduceLeDiff, Nat.reduceSub, Int.reduceEq], by simp -dsimp -implicitDefEqProofs only [go_sem, Nat.reduceBEq, Nat.reduceAdd, Nat.reduceLeDiff, Nat.reduceSub, Int.reduceEq] <;> rfl, by simp -dsimp -implicitDefEqProofs only [go_sem, Nat.reduceBEq, Nat.reduceAdd, Nat.reduceLeDiff, Nat.reduceSub, Int.reduceEq] <;> rfl⟩
  rintro i ⟨e, σ⟩ hi ⟨h1, h2, h3, h8, h9, h10, hs1, hs2, hs3, hs50⟩ K hK
  simp only at h1 h2 h3 h8 h9 h10 hs1 hs2 hs3 hs50
  simp -dsimp -implicitDefEqProofs only [go_sem, Nat.reduceBEq, Nat.reduceAdd, Nat.reduceLeDiff, Nat.reduceSub, Int.reduceEq, h1, h2, h3, h8, h9, h10, hs1, hs2, hs3, hs50]
  refine ifB'.of (fun hlt => ?_) (fun hlt => ?_)
  · have hlt : i < x.h.length := by omega
    have hp := hb _ (List.getElem_mem hlt)
    have htl : (x.h.take i).length = i := by simp; omega
    repeat (first | with_reducible refine ask.of (by omega) ?_ | simp -dsimp -implicitDefEqProofs only [go_sem, Nat.reduceBEq, Nat.reduceAdd, Nat.reduceLeDiff, Nat.reduceSub, Int.reduceEq, h1, h2, h3, h8, h9, h10, hs1, hs2, hs3, hs50, bleR, Sn_at hlt, snC, ble67, bl4])
    refine CallE.of (c_packetCopy x.h[i].p hp) (by rintro r rfl; (repeat' first | exact trivial | exact pure_rowB _ | exact pure_rowO _ | exact pure_rowI _ | exact pure_rowBB _ | exact pure_rowPk _ _ | exact pure_rowSn _ _ | exact pure_rowFd _ _ | exact pure_rowBBB _ | exact pure_rowCl _ _ | exact pure_rowTb _ _ _ | refine And.intro ?_ ?_)) (by simp -dsimp -implicitDefEqProofs only [go_sem, Nat.reduceBEq, Nat.reduceAdd, Nat.reduceLeDiff, Nat.reduceSub, Int.reduceEq, h1, h2, h3, h8, h9, h10, hs1, hs2, hs3, hs50, pkC]) ?_
    rintro r rfl
    simp -dsimp -implicitDefEqProofs only [go_sem, Nat.reduceBEq, Nat.reduceAdd, Nat.reduceLeDiff, Nat.reduceSub, Int.reduceEq, h1, h2, h3, h8, h9, h10, hs1, hs2, hs3, hs50, pkC]
    repeat (first | with_reducible refine ask.of (by first | omega | decide) ?_ | simp -dsimp -implicitDefEqProofs only [go_sem, Nat.reduceBEq, Nat.reduceAdd, Nat.reduceLeDiff, Nat.reduceSub, Int.reduceEq, h1, h2, h3, h8, h9, h10, hs1, hs2, hs3, hs50, bleR, snC, ble67, bl4])
    refine CallE.mutLend (c_put (x.h.take i) x.h[i] (by omega) hp) (by simp -dsimp -implicitDefEqProofs only [go_sem, Nat.reduceBEq, Nat.reduceAdd, Nat.reduceLeDiff, Nat.reduceSub, Int.reduceEq, h1, h2, h3, h8, h9, h10, hs1, hs2, hs3, hs50]) (by simp -dsimp -implicitDefEqProofs only [go_sem, Nat.reduceBEq, Nat.reduceAdd, Nat.reduceLeDiff, Nat.reduceSub, Int.reduceEq, h1, h2, h3, h8, h9, h10, hs1, hs2, hs3, hs50, snC]) (by simp -dsimp -implicitDefEqProofs only [go_sem, Nat.reduceBEq, Nat.reduceAdd, Nat.reduceLeDiff, Nat.reduceSub, Int.reduceEq, h1, h2, h3, h8, h9, h10, hs1, hs2, hs3, hs50, snC]) ?_
    rintro r rs ⟨rfl, rfl⟩
    simp -dsimp -implicitDefEqProofs only [go_sem, Nat.reduceBEq, Nat.reduceAdd, Nat.reduceLeDiff, Nat.reduceSub, Int.reduceEq, h1, h2, h3, h8, h9, h10, hs1, hs2, hs3, hs50, snC]
    repeat (first | with_reducible refine ask.of (by first | omega | decide) ?_ | simp -dsimp -implicitDefEqProofs only [go_sem, Nat.reduceBEq, Nat.reduceAdd, Nat.reduceLeDiff, Nat.reduceSub, Int.reduceEq, h1, h2, h3, h8, h9, h10, hs1, hs2, hs3, hs50, bleR, snC, ble67, bl4])
    refine hK _ _ hlt (Wk.refl _) ?_
    simp -dsimp -implicitDefEqProofs only [go_sem, Nat.reduceBEq, Nat.reduceAdd, Nat.reduceLeDiff, Nat.reduceSub, Int.reduceEq, h1, h2, h3, h8, h9, h10, hs1, hs2, hs3, hs50, wrap_succ (show i < 4611686018427387904 by omega), sn_take hlt]
  · have : i = x.h.length := by omega
    subst this
    rw [List.take_length] at hs50
    simp -dsimp -implicitDefEqProofs only [go_sem, Nat.reduceBEq, Nat.reduceAdd, Nat.reduceLeDiff, Nat.reduceSub, Int.reduceEq, h1, h2, h3, h8, h9, h10, hs1, hs2, hs3, hs50]
    repeat (first | with_reducible refine ask.of (by omega) ?_ | simp -dsimp -implicitDefEqProofs only [go_sem, Nat.reduceBEq, Nat.reduceAdd, Nat.reduceLeDiff, Nat.reduceSub, Int.reduceEq, h1, h2, h3, h8, h9, h10, hs1, hs2, hs3, hs50, bleR, bl4])
end Go.Ev
set_option linter.unusedSimpArgs false
set_option linter.unusedVariables false
namespace Go.Ev
open Go Go.RowKit Go.Proofs
def lo0 : LO := ⟨0, 0, 0, []⟩
noncomputable def resL (xc : LO × Int) : AV := .tup [.agg (loC 133 xc.1), .v (.int .i64 xc.2)]
theorem loB_t {x : LO} (h : loB x = true) : okLO x := of_decide_eq_true (inst := Classical.propDecidable _) h
theorem loB_f {x : LO} (h : loB x = false) : ¬ okLO x := of_decide_eq_false (inst := Classical.propDecidable _) h
end Go.Ev
set_option linter.unusedSimpArgs false
set_option linter.unusedVariables false
namespace Go.Ev
open Go Go.RowKit Go.Proofs
def mkSn (k : Nat) (s : Sn) : Sn := ⟨⟨(k : Nat), ((k + 1 : Nat) : Int), ((k + 2 : Nat) : Int), ((k + 3 : Nat) : Int), decide (((k + 4 : Nat) : Int).tmod 3 = 0), mkB (k + 5) s.p.f.length⟩, ((k + 5 + s.p.f.length : Nat) : Int)⟩
def szSn (s : Sn) : Nat := 6 + s.p.f.length
def mkSnS (k : Nat) (xs : List Sn) : List Sn := mkL mkSn szSn k xs
theorem Sn_at' {xs : List Sn} {i : Nat} {s : Sn} (h : xs[i]? = some s) : (ra snC xs)[i]? = some (snC s) := ra_at' h
theorem sn_set (xs : List Sn) (i : Nat) (s : Sn) : (ra snC xs).set i [.v (.int .i64 s.p.a), .v (.int .i64 s.p.b), .v (.int .i64 s.p.c), .v (.int .i64 s.p.d), .v (.bool s.p.e), .row 5 1 (bytesA s.p.f), .v (.int .i64 s.q)] = ra snC (xs.set i s) := ra_set xs i s
theorem wrapA (m j : Nat) (h : m + j < 4611686018427387904) : IntKind.i64.wrap (((m + j : Nat) : Int) + 1) = ((m + (j + 1) : Nat) : Int) := by rw [wrap_i64_of (by omega) (by omega)]; omega
theorem bl7 : Nat.ble 1 7 = true ∧ Nat.ble 2 7 = true ∧ Nat.ble 3 7 = true ∧ Nat.ble 4 7 = true ∧ Nat.ble 5 7 = true ∧ Nat.ble 6 7 = true ∧ Nat.ble 7 7 = true := ⟨rfl, rfl, rfl, rfl, rfl, rfl, rfl⟩
set_option maxHeartbeats 4000000 in
set_option maxRecDepth 8000 in
theorem c_markSentS (xs : List Sn) (k : Nat) (hk : k + szL szSn xs ≤ 4611686018427387904) (hx : xs.length ≤ 1048576) (hb : ∀ b ∈ xs, b.p.f.length ≤ 1048576) : MeetsM Try.prog 90 [.mu (rowSn 133 xs), .rd (.v (.int .i64 k))] (fun r rs => r = .v (.int .i64 ((k + szL szSn xs : Nat) : Int)) ∧ rs = [rowSn 133 (mkSnS k xs), .any]) := by
  refine MeetsM.intro mixed (hint []) Try.func90 rfl (by decide) res_90 rty_90 (pts := parTys Try.prog 90) (by rw [par_90]; rfl) (by kernel_rfl) ?_; rw [par_90]; intro vals; 
  simp -dsimp -implicitDefEqProofs only [go_sem, Nat.reduceBEq, Nat.reduceAdd, Nat.reduceLeDiff, Nat.reduceSub, Int.reduceEq, rowSn]
  refine LoopE.cnt xs.length (fun i s => s.env 0 = .ref [1000000, 0] ∧ s.env 1 = .v (.int .i64 ((k + szL szSn (xs.take i) : Nat) : Int)) ∧ s.env 5 = .v (.int .i64 i) ∧ s.σ [1000000, 0] = some (.row 133 7 (ra snC (mkLP mkSn szSn k xs i))) ∧ s.σ [1000001, 0] = some (.pin (.ref [1000000, 0]) (vals 0))) ⟨by simp -dsimp -implicitDefEqProofs only [go_sem, Nat.reduceBEq, Nat.reduceAdd, Nat.reduceLeDiff, Nat.reduceSub, Int.reduceEq], by simp -dsimp -implicitDefEqProofs only [go_sem, Nat.reduceBEq, Nat.reduceAdd, Nat.reduceLeDiff, Nat.reduceSub, Int.reduceEq] <;> simp [szL], by simp -dsimp -implicitDefEqProofs only [go_sem, Nat.reduceBEq, Nat.reduceAdd, Nat.reduceLeDiff, Nat.reduceSub, Int.reduceEq] <;> simp, by simp -dsimp -implicitDefEqProofs only [go_sem, Nat.reduceBEq, Nat.reduceAdd, Nat.reduceLeDiff, Nat.reduceSub, Int.reduceEq, mkLP_zero], by simp -dsimp -implicitDefEqProofs only [go_sem, Nat.reduceBEq, Nat.reduceAdd, Nat.reduceLeDiff, Nat.reduceSub, Int.reduceEq]⟩ ?_
  rintro i ⟨e, σ⟩ hi ⟨h0, h1, h5, hs, hp⟩ K hK
  simp only at h0 h1 h5 hs hp
  have hl := mkLP_length mkSn szSn k hi
  simp -dsimp -implicitDefEqProofs only [go_sem, Nat.reduceBEq, Nat.reduceAdd, Nat.reduceLeDiff, Nat.reduceSub, Int.reduceEq, h0, h1, h5, hs, hp, hl]
  refine ifB'.of (fun hlt => ?_) (fun hlt => ?_)
  · have hlt : i < xs.length := by omega
    have hw := szL_at_le szSn hlt
    have hpb := hb _ (List.getElem_mem hlt)
    have hat := Sn_at' (mkLP_at mkSn szSn k hlt)
    have hgs : ∀ c : List AV, ((ra snC (mkLP mkSn szSn k xs i)).set i c)[i]? = some c := fun c => by rw [List.getElem?_set_self]; rw [ra_length]; omega
    obtain ⟨m, hm⟩ : ∃ m, k + szL szSn (xs.take i) = m := ⟨_, rfl⟩
    rw [hm] at h1
    have hwm : m + (6 + xs[i].p.f.length) ≤ 4611686018427387904 := by unfold szSn at hw hk hm; omega
    have e0 : IntKind.i64.wrap ((m : Int) + 1) = ((m + 1 : Nat) : Int) := wrapA m 0 (by omega)
    have e1 := wrapA m 1 (by omega)
    have e2 := wrapA m 2 (by omega)
    have e3 := wrapA m 3 (by omega)
    have e4 := wrapA m 4 (by omega)
    repeat (first | with_reducible refine ask.of (by first | omega | decide | (simp [hl]; omega)) ?_ | simp -dsimp -implicitDefEqProofs only [go_sem, Nat.reduceBEq, Nat.reduceAdd, Nat.reduceLeDiff, Nat.reduceSub, Int.reduceEq, h0, h1, h5, hs, hp, hl, hat, snC, hgs, List.set_set, List.length_set, bl7, e0, e1, e2, e3, e4])
    refine CallE.mut (c_markByteS xs[i].p.f (m + 5) (by omega) (by omega)) (by simp -dsimp -implicitDefEqProofs only [go_sem, Nat.reduceBEq, Nat.reduceAdd, Nat.reduceLeDiff, Nat.reduceSub, Int.reduceEq, h0, h1, h5, hs, hp]) (by rintro r rs ⟨rfl, rfl⟩; exact ⟨by (repeat' first | exact trivial | exact pure_rowB _ | exact pure_rowO _ | exact pure_rowI _ | exact pure_rowBB _ | exact pure_rowPk _ _ | exact pure_rowSn _ _ | exact pure_rowFd _ _ | exact pure_rowBBB _ | exact pure_rowCl _ _ | exact pure_rowTb _ _ _ | refine And.intro ?_ ?_), by first | exact ⟨by (repeat' first | exact trivial | exact pure_rowB _ | exact pure_rowO _ | exact pure_rowI _ | exact pure_rowBB _ | exact pure_rowPk _ _ | exact pure_rowSn _ _ | exact pure_rowFd _ _ | exact pure_rowBBB _ | exact pure_rowCl _ _ | exact pure_rowTb _ _ _ | refine And.intro ?_ ?_), trivial⟩ | exact ⟨by (repeat' first | exact trivial | exact pure_rowB _ | exact pure_rowO _ | exact pure_rowI _ | exact pure_rowBB _ | exact pure_rowPk _ _ | exact pure_rowSn _ _ | exact pure_rowFd _ _ | exact pure_rowBBB _ | exact pure_rowCl _ _ | exact pure_rowTb _ _ _ | refine And.intro ?_ ?_), trivial, trivial⟩⟩) (by simp -dsimp -implicitDefEqProofs only [go_sem, Nat.reduceBEq, Nat.reduceAdd, Nat.reduceLeDiff, Nat.reduceSub, Int.reduceEq, h0, h1, h5, hs, hp, hgs, List.set_set]) (by simp -dsimp -implicitDefEqProofs only [go_sem, Nat.reduceBEq, Nat.reduceAdd, Nat.reduceLeDiff, Nat.reduceSub, Int.reduceEq, h0, h1, h5, hs, hp, hgs, List.set_set]) ?_
    rintro r rs ⟨rfl, rfl⟩
    simp -dsimp -implicitDefEqProofs only [go_sem, Nat.reduceBEq, Nat.reduceAdd, Nat.reduceLeDiff, Nat.reduceSub, Int.reduceEq, h0, h1, h5, hs, hp, hgs, List.set_set]
    have e5 : IntKind.i64.wrap (((m + 5 + xs[i].p.f.length : Nat) : Int) + 1) = ((m + 5 + xs[i].p.f.length + 1 : Nat) : Int) := by rw [wrap_i64_of (by omega) (by omega)]; omega
    repeat (first | with_reducible refine ask.of (by first | omega | decide | (simp [hl]; omega)) ?_ | simp -dsimp -implicitDefEqProofs only [go_sem, Nat.reduceBEq, Nat.reduceAdd, Nat.reduceLeDiff, Nat.reduceSub, Int.reduceEq, h0, h1, h5, hs, hp, hl, hgs, List.set_set, List.length_set, bl7, e5])
    refine hK _ hlt ?_
    simp -dsimp -implicitDefEqProofs only [go_sem, Nat.reduceBEq, Nat.reduceAdd, Nat.reduceLeDiff, Nat.reduceSub, Int.reduceEq, h0, h1, h5, hs, hp, hgs, List.set_set, wrap_succ (show i < 4611686018427387904 by omega), szL_take_succ szSn hlt]
    refine ⟨by rw [← hm]; unfold szSn; omega, ?_⟩
    rw [← mkLP_set mkSn szSn k hlt (y := mkSn m xs[i]) (by rw [hm]), ← sn_set]
    rfl
  · have : i = xs.length := by omega
    subst this
    simp -dsimp -implicitDefEqProofs only [go_sem, Nat.reduceBEq, Nat.reduceAdd, Nat.reduceLeDiff, Nat.reduceSub, Int.reduceEq, h0, h1, h5, hs, hp, mkLP_full, List.take_length]
    rfl
set_option maxHeartbeats 4000000 in
set_option maxRecDepth 8000 in
theorem c_heldSentS (xs : List Sn) (k : Nat) (hk : k + szL szSn xs ≤ 4611686018427387904) (hx : xs.length ≤ 1048576) (hb : ∀ b ∈ xs, b.p.f.length ≤ 1048576) : Meets Try.prog 91 [rowSn 133 (mkSnS k xs), .v (.int .i64 k)] (fun r => r = .v (.int .i64 ((k + szL szSn xs : Nat) : Int))) := by
  refine Meets.intro mixed (hint []) Try.func91 rfl (by decide) res_91 rty_91 (by kernel_rfl) ?_; 
  simp -dsimp -implicitDefEqProofs only [go_sem, Nat.reduceBEq, Nat.reduceAdd, Nat.reduceLeDiff, Nat.reduceSub, Int.reduceEq, rowSn]
  refine LoopE.cnt xs.length (fun i s => s.env 0 = .rd .ent 133 7 (ra snC (mkSnS k xs)) ∧ s.env 1 = .v (.int .i64 ((k + szL szSn (xs.take i) : Nat) : Int)) ∧ s.env 5 = .v (.int .i64 i)) ⟨by simp -dsimp -implicitDefEqProofs only [go_sem, Nat.reduceBEq, Nat.reduceAdd, Nat.reduceLeDiff, Nat.reduceSub, Int.reduceEq, initE, rowSn], by simp -dsimp -implicitDefEqProofs only [go_sem, Nat.reduceBEq, Nat.reduceAdd, Nat.reduceLeDiff, Nat.reduceSub, Int.reduceEq, initE] <;> simp [szL], by simp -dsimp -implicitDefEqProofs only [go_sem, Nat.reduceBEq, Nat.reduceAdd, Nat.reduceLeDiff, Nat.reduceSub, Int.reduceEq] <;> simp⟩ ?_
  rintro i ⟨e, σ⟩ hi ⟨h0, h1, h5⟩ K hK
  simp only at h0 h1 h5
  have hl : (mkSnS k xs).length = xs.length := mkL_length mkSn szSn k xs
  simp -dsimp -implicitDefEqProofs only [go_sem, Nat.reduceBEq, Nat.reduceAdd, Nat.reduceLeDiff, Nat.reduceSub, Int.reduceEq, h0, h1, h5, hl]
  refine ifB'.of (fun hlt => ?_) (fun hlt => ?_)
  · have hlt : i < xs.length := by omega
    have hw := szL_at_le szSn hlt
    have hpb := hb _ (List.getElem_mem hlt)
    have hat := Sn_at' (mkL_at mkSn szSn k hlt)
    obtain ⟨m, hm⟩ : ∃ m, k + szL szSn (xs.take i) = m := ⟨_, rfl⟩
    rw [hm] at h1 hat
    have hat : (ra snC (mkSnS k xs))[i]? = some (snC (mkSn m xs[i])) := hat
    have hwm : m + (6 + xs[i].p.f.length) ≤ 4611686018427387904 := by unfold szSn at hw hk hm; omega
    have e0 : IntKind.i64.wrap ((m : Int) + 1) = ((m + 1 : Nat) : Int) := wrapA m 0 (by omega)
    have e1 := wrapA m 1 (by omega)
    have e2 := wrapA m 2 (by omega)
    have e3 := wrapA m 3 (by omega)
    have e4 := wrapA m 4 (by omega)
    have e5 : IntKind.i64.wrap (((m + 5 + xs[i].p.f.length : Nat) : Int) + 1) = ((m + 5 + xs[i].p.f.length + 1 : Nat) : Int) := by rw [wrap_i64_of (by omega) (by omega)]; omega
    repeat (first | with_reducible refine ask.of (by first | omega | decide | (simp [hl]; omega)) ?_ | simp -dsimp -implicitDefEqProofs only [go_sem, Nat.reduceBEq, Nat.reduceAdd, Nat.reduceLeDiff, Nat.reduceSub, Int.reduceEq, h0, h1, h5, hl, hat, snC, mkSn, bl7, e0, e1, e2, e3, e4, decide_true, Bool.not_true])
    refine CallE.of (c_heldByteS (m + 5) xs[i].p.f.length (by omega) (by omega)) (by rintro r rfl; (repeat' first | exact trivial | exact pure_rowB _ | exact pure_rowO _ | exact pure_rowI _ | exact pure_rowBB _ | exact pure_rowPk _ _ | exact pure_rowSn _ _ | exact pure_rowFd _ _ | exact pure_rowBBB _ | exact pure_rowCl _ _ | exact pure_rowTb _ _ _ | refine And.intro ?_ ?_)) (by simp -dsimp -implicitDefEqProofs only [go_sem, Nat.reduceBEq, Nat.reduceAdd, Nat.reduceLeDiff, Nat.reduceSub, Int.reduceEq, h0, h1, h5, mkB]) ?_
    rintro r rfl
    simp -dsimp -implicitDefEqProofs only [go_sem, Nat.reduceBEq, Nat.reduceAdd, Nat.reduceLeDiff, Nat.reduceSub, Int.reduceEq, h0, h1, h5, mkB]
    refine ifB'.of (fun h => by omega) (fun h => ?_)
    repeat (first | with_reducible refine ask.of (by first | omega | decide | (simp [hl]; omega)) ?_ | simp -dsimp -implicitDefEqProofs only [go_sem, Nat.reduceBEq, Nat.reduceAdd, Nat.reduceLeDiff, Nat.reduceSub, Int.reduceEq, h0, h1, h5, hl, hat, snC, mkSn, bl7, e5, decide_true, Bool.not_true])
    refine hK _ hlt ?_
    simp -dsimp -implicitDefEqProofs only [go_sem, Nat.reduceBEq, Nat.reduceAdd, Nat.reduceLeDiff, Nat.reduceSub, Int.reduceEq, h0, h1, h5, wrap_succ (show i < 4611686018427387904 by omega), szL_take_succ szSn hlt]
    rw [← hm]; unfold szSn; omega
  · have : i = xs.length := by omega
    subst this
    simp -dsimp -implicitDefEqProofs only [go_sem, Nat.reduceBEq, Nat.reduceAdd, Nat.reduceLeDiff, Nat.reduceSub, Int.reduceEq, h0, h1, h5, List.take_length]
theorem c_markLinkOut (x : LO) (k : Nat) (hk : k + szL szSn x.h ≤ 4611686018427387904) (hx : x.h.length ≤ 1048576) (hb : ∀ b ∈ x.h, b.p.f.length ≤ 1048576) : MeetsM Try.prog 19 [.mu (.agg (loC 133 x)), .rd (.v (.int .i64 k))] (fun r rs => r = .v (.int .i64 ((k + szL szSn x.h : Nat) : Int)) ∧ rs = [.agg (loC 133 { x with h := mkSnS k x.h }), .any]) := by
  refine MeetsM.intro mixed (hint []) Try.func19 rfl (by decide) res_19 rty_19 (pts := parTys Try.prog 19) (by rw [par_19]; rfl) (by kernel_rfl) ?_; rw [par_19]; intro vals; 
  simp -dsimp -implicitDefEqProofs only [go_sem, Nat.reduceBEq, Nat.reduceAdd, Nat.reduceLeDiff, Nat.reduceSub, Int.reduceEq, loC]
  repeat (first | with_reducible refine ask.of (by omega) ?_ | simp -dsimp -implicitDefEqProofs only [go_sem, Nat.reduceBEq, Nat.reduceAdd, Nat.reduceLeDiff, Nat.reduceSub, Int.reduceEq, bleR, bl4])
  refine CallE.mut (c_markSentS x.h k hk hx hb) (by simp -dsimp -implicitDefEqProofs only [go_sem, Nat.reduceBEq, Nat.reduceAdd, Nat.reduceLeDiff, Nat.reduceSub, Int.reduceEq]) (by rintro r rs ⟨rfl, rfl⟩; exact ⟨by (repeat' first | exact trivial | exact pure_rowB _ | exact pure_rowO _ | exact pure_rowI _ | exact pure_rowBB _ | exact pure_rowPk _ _ | exact pure_rowSn _ _ | exact pure_rowFd _ _ | exact pure_rowBBB _ | exact pure_rowCl _ _ | exact pure_rowTb _ _ _ | refine And.intro ?_ ?_), by first | exact ⟨by (repeat' first | exact trivial | exact pure_rowB _ | exact pure_rowO _ | exact pure_rowI _ | exact pure_rowBB _ | exact pure_rowPk _ _ | exact pure_rowSn _ _ | exact pure_rowFd _ _ | exact pure_rowBBB _ | exact pure_rowCl _ _ | exact pure_rowTb _ _ _ | refine And.intro ?_ ?_), trivial⟩ | exact ⟨by (repeat' first | exact trivial | exact pure_rowB _ | exact pure_rowO _ | exact pure_rowI _ | exact pure_rowBB _ | exact pure_rowPk _ _ | exact pure_rowSn _ _ | exact pure_rowFd _ _ | exact pure_rowBBB _ | exact pure_rowCl _ _ | exact pure_rowTb _ _ _ | refine And.intro ?_ ?_), trivial, trivial⟩⟩) (by simp -dsimp -implicitDefEqProofs only [go_sem, Nat.reduceBEq, Nat.reduceAdd, Nat.reduceLeDiff, Nat.reduceSub, Int.reduceEq, rowSn]) (by simp -dsimp -implicitDefEqProofs only [go_sem, Nat.reduceBEq, Nat.reduceAdd, Nat.reduceLeDiff, Nat.reduceSub, Int.reduceEq, rowSn]) ?_
  rintro r rs ⟨rfl, rfl⟩
  simp -dsimp -implicitDefEqProofs only [go_sem, Nat.reduceBEq, Nat.reduceAdd, Nat.reduceLeDiff, Nat.reduceSub, Int.reduceEq, rowSn]
theorem c_heldLinkOut (x : LO) (k : Nat) (hk : k + szL szSn x.h ≤ 4611686018427387904) (hx : x.h.length ≤ 1048576) (hb : ∀ b ∈ x.h, b.p.f.length ≤ 1048576) : Meets Try.prog 21 [.agg (loC 133 { x with h := mkSnS k x.h }), .v (.int .i64 k)] (fun r => r = .v (.int .i64 ((k + szL szSn x.h : Nat) : Int))) := by
  refine Meets.intro mixed (hint []) Try.func21 rfl (by decide) res_21 rty_21 (by kernel_rfl) ?_; 
  simp -dsimp -implicitDefEqProofs only [go_sem, Nat.reduceBEq, Nat.reduceAdd, Nat.reduceLeDiff, Nat.reduceSub, Int.reduceEq, loC]
  repeat (first | with_reducible refine ask.of (by omega) ?_ | simp -dsimp -implicitDefEqProofs only [go_sem, Nat.reduceBEq, Nat.reduceAdd, Nat.reduceLeDiff, Nat.reduceSub, Int.reduceEq, bleR, bl4])
  refine CallE.of (c_heldSentS x.h k hk hx hb) (by rintro r rfl; (repeat' first | exact trivial | exact pure_rowB _ | exact pure_rowO _ | exact pure_rowI _ | exact pure_rowBB _ | exact pure_rowPk _ _ | exact pure_rowSn _ _ | exact pure_rowFd _ _ | exact pure_rowBBB _ | exact pure_rowCl _ _ | exact pure_rowTb _ _ _ | refine And.intro ?_ ?_)) (by simp -dsimp -implicitDefEqProofs only [go_sem, Nat.reduceBEq, Nat.reduceAdd, Nat.reduceLeDiff, Nat.reduceSub, Int.reduceEq, rowSn]) ?_
  rintro r rfl
  simp -dsimp -implicitDefEqProofs only [go_sem, Nat.reduceBEq, Nat.reduceAdd, Nat.reduceLeDiff, Nat.reduceSub, Int.reduceEq, rowSn]
  refine ifB'.of (fun h => by omega) (fun h => ?_)
  simp -dsimp -implicitDefEqProofs only [go_sem, Nat.reduceBEq, Nat.reduceAdd, Nat.reduceLeDiff, Nat.reduceSub, Int.reduceEq]
end Go.Ev
