/- Part 11 of what the row leans on: the evaluator, words, contracts of functions; pruned by a program of ours. -/
import Derived.Test.YtijmbcnhkdhkeaaPd10
import Derived.Test.YtijmbcnhkdhkeaaProg
import Derived.KernelRfl
namespace Go.Ev
open Go Go.Proofs
theorem mixed : Try.prog.follows .mixedOrders = true := by kernel_rfl
theorem elTy_25 : elTy Try.prog 25 = some (5, 1, 1) := by kernel_rfl
theorem cty_3 : cty Try.prog 3 = [none] := by kernel_rfl
theorem par_15 : parTys Try.prog 15 = [25] := by kernel_rfl
theorem cty_25 : cty Try.prog 25 = [some (5, 1)] := by kernel_rfl
theorem par_18 : parTys Try.prog 18 = [25, 25] := by kernel_rfl
theorem par_20 : parTys Try.prog 20 = [25, 3] := by kernel_rfl
theorem cty_4 : cty Try.prog 4 = [none] := by kernel_rfl
theorem par_22 : parTys Try.prog 22 = [39, 3] := by kernel_rfl
theorem cty_39 : cty Try.prog 39 = [some (25, 1)] := by kernel_rfl
theorem par_23 : parTys Try.prog 23 = [40, 3] := by kernel_rfl
theorem cty_40 : cty Try.prog 40 = [some (145, 3)] := by kernel_rfl
theorem par_25 : parTys Try.prog 25 = [39] := by kernel_rfl
theorem par_26 : parTys Try.prog 26 = [40] := by kernel_rfl
theorem par_24 : parTys Try.prog 24 = [39, 48] := by kernel_rfl
theorem cty_48 : cty Try.prog 48 = [some (151, 3)] := by kernel_rfl
theorem zeroC_44 : zeroC Try.prog 44 = some [.v (.int .i64 0), .v (.slice none 0 0), .v (.slice none 0 0)] := by kernel_rfl
theorem tySz_44 : tySz Try.prog 44 = some (3, true) := by kernel_rfl
theorem par_27 : parTys Try.prog 27 = [39, 48] := by kernel_rfl
theorem par_28 : parTys Try.prog 28 = [44, 44] := by kernel_rfl
theorem cty_44 : cty Try.prog 44 = [none, some (25, 1), some (25, 1)] := by kernel_rfl
theorem par_29 : parTys Try.prog 29 = [39, 39] := by kernel_rfl
theorem par_30 : parTys Try.prog 30 = [48, 48] := by kernel_rfl
theorem par_31 : parTys Try.prog 31 = [39, 3] := by kernel_rfl
theorem par_32 : parTys Try.prog 32 = [48, 3] := by kernel_rfl
theorem par_33 : parTys Try.prog 33 = [44, 3] := by kernel_rfl
theorem par_34 : parTys Try.prog 34 = [44, 3] := by kernel_rfl
theorem par_44 : parTys Try.prog 44 = [25, 3] := by kernel_rfl
theorem par_47 : parTys Try.prog 47 = [39, 3] := by kernel_rfl
theorem cty_78 : cty Try.prog 78 = [some (5, 1), none, none] := by kernel_rfl
theorem zeroC_78 : zeroC Try.prog 78 = some [.v (.slice none 0 0), .v (.int .i64 0), .v (.int .i64 0)] := by kernel_rfl
theorem tySz_78 : tySz Try.prog 78 = some (3, true) := by kernel_rfl
theorem boolTy_4 : boolTy Try.prog 4 = some () := by kernel_rfl
theorem tySz_3 : tySz Try.prog 3 = some (1, false) := by kernel_rfl
theorem par_82 : parTys Try.prog 82 = [25] := by kernel_rfl
theorem zeroC_5 : zeroC Try.prog 5 = some [.v (.int .u8 0)] := by kernel_rfl
theorem cty_5 : cty Try.prog 5 = [none] := by kernel_rfl
theorem ixTy_25 : ixTy Try.prog 25 = some (.sl (5, 1, 1)) := by kernel_rfl
theorem tySz_5 : tySz Try.prog 5 = some (1, false) := by kernel_rfl
theorem cvTy_3_5 : cvTy Try.prog 3 5 = some (.int .u8) := by kernel_rfl
theorem elTy_39 : elTy Try.prog 39 = some (25, 1, 24) := by kernel_rfl
theorem ixTy_39 : ixTy Try.prog 39 = some (.sl (25, 1, 24)) := by kernel_rfl
theorem tySz_25 : tySz Try.prog 25 = some (1, false) := by kernel_rfl
theorem par_92 : parTys Try.prog 92 = [25, 3] := by kernel_rfl
theorem elTy_40 : elTy Try.prog 40 = some (145, 3, 40) := by kernel_rfl
theorem ixTy_40 : ixTy Try.prog 40 = some (.sl (145, 3, 40)) := by kernel_rfl
theorem tySz_145 : tySz Try.prog 145 = some (3, true) := by kernel_rfl
theorem par_93 : parTys Try.prog 93 = [145, 3] := by kernel_rfl
theorem cty_145 : cty Try.prog 145 = [none, none, some (5, 1)] := by kernel_rfl
theorem cvTy_25_25 : cvTy Try.prog 25 25 = some .same := by kernel_rfl
theorem bldTy_78 : bldTy Try.prog 78 = some (.st [(0, 1), (1, 1), (2, 1)]) := by kernel_rfl
theorem par_94 : parTys Try.prog 94 = [39] := by kernel_rfl
theorem par_95 : parTys Try.prog 95 = [78, 48] := by kernel_rfl
theorem bldTy_44 : bldTy Try.prog 44 = some (.st [(0, 1), (1, 1), (2, 1)]) := by kernel_rfl
theorem par_96 : parTys Try.prog 96 = [48, 3] := by kernel_rfl
theorem par_97 : parTys Try.prog 97 = [39, 25] := by kernel_rfl
theorem zeroC_25 : zeroC Try.prog 25 = some [.v (.slice none 0 0)] := by kernel_rfl
theorem par_98 : parTys Try.prog 98 = [39] := by kernel_rfl
theorem par_99 : parTys Try.prog 99 = [39, 39] := by kernel_rfl
theorem elTy_48 : elTy Try.prog 48 = some (151, 3, 40) := by kernel_rfl
theorem zeroC_151 : zeroC Try.prog 151 = some [.v (.bool false), .v (.int .i64 0), .v (.slice none 0 0)] := by kernel_rfl
theorem cty_151 : cty Try.prog 151 = [none, none, some (5, 1)] := by kernel_rfl
theorem par_100 : parTys Try.prog 100 = [145] := by kernel_rfl
theorem ixTy_48 : ixTy Try.prog 48 = some (.sl (151, 3, 40)) := by kernel_rfl
theorem tySz_151 : tySz Try.prog 151 = some (3, true) := by kernel_rfl
theorem par_101 : parTys Try.prog 101 = [39] := by kernel_rfl
theorem par_102 : parTys Try.prog 102 = [48, 155] := by kernel_rfl
theorem cty_155 : cty Try.prog 155 = [none] := by kernel_rfl
theorem mapTy_156 : mapTy Try.prog 156 = some (.string, 3) := by kernel_rfl
theorem cvTy_25_9 : cvTy Try.prog 25 9 = some .bytes := by kernel_rfl
theorem fldTy_151_0 : fldTy Try.prog 151 0 = some (0, 1, false) := by kernel_rfl
theorem tySz_4 : tySz Try.prog 4 = some (1, false) := by kernel_rfl
theorem fldTy_151_2 : fldTy Try.prog 151 2 = some (2, 1, false) := by kernel_rfl
theorem par_105 : parTys Try.prog 105 = [25, 25] := by kernel_rfl
theorem zeroV_3 : zeroV Try.prog 3 = some (.int .i64 0) := by kernel_rfl
theorem par_106 : parTys Try.prog 106 = [39] := by kernel_rfl
theorem elTy_59 : elTy Try.prog 59 = some (39, 1, 24) := by kernel_rfl
theorem zeroC_39 : zeroC Try.prog 39 = some [.v (.slice none 0 0)] := by kernel_rfl
theorem par_108 : parTys Try.prog 108 = [39, 39] := by kernel_rfl
theorem fldTy_44_0 : fldTy Try.prog 44 0 = some (0, 1, false) := by kernel_rfl
theorem fldTy_44_1 : fldTy Try.prog 44 1 = some (1, 1, false) := by kernel_rfl
theorem tySz_39 : tySz Try.prog 39 = some (1, false) := by kernel_rfl
theorem fldTy_44_2 : fldTy Try.prog 44 2 = some (2, 1, false) := by kernel_rfl
theorem par_109 : parTys Try.prog 109 = [151, 151] := by kernel_rfl
theorem fldTy_151_1 : fldTy Try.prog 151 1 = some (1, 1, false) := by kernel_rfl
theorem fldTy_78_1 : fldTy Try.prog 78 1 = some (1, 1, false) := by kernel_rfl
theorem fldTy_78_2 : fldTy Try.prog 78 2 = some (2, 1, false) := by kernel_rfl
theorem fldTy_78_0 : fldTy Try.prog 78 0 = some (0, 1, false) := by kernel_rfl
theorem par_104 : parTys Try.prog 104 = [78, 151] := by kernel_rfl
theorem fldTy_145_2 : fldTy Try.prog 145 2 = some (2, 1, false) := by kernel_rfl
theorem par_172 : parTys Try.prog 172 = [78] := by kernel_rfl
theorem par_173 : parTys Try.prog 173 = [78, 151] := by kernel_rfl
theorem par_174 : parTys Try.prog 174 = [25, 25] := by kernel_rfl
theorem fldTy_145_0 : fldTy Try.prog 145 0 = some (0, 1, false) := by kernel_rfl
theorem fldTy_145_1 : fldTy Try.prog 145 1 = some (1, 1, false) := by kernel_rfl
theorem par_175 : parTys Try.prog 175 = [48, 155] := by kernel_rfl
theorem ixTy_59 : ixTy Try.prog 59 = some (.sl (39, 1, 24)) := by kernel_rfl
theorem par_177 : parTys Try.prog 177 = [39, 3] := by kernel_rfl
theorem par_184 : parTys Try.prog 184 = [3] := by kernel_rfl
theorem par_185 : parTys Try.prog 185 = [3, 3] := by kernel_rfl
theorem cvTy_3_225 : cvTy Try.prog 3 225 = some (.int .u64) := by kernel_rfl
theorem par_203 : parTys Try.prog 203 = [25] := by kernel_rfl
theorem intTy_3 : intTy Try.prog 3 = some () := by kernel_rfl
theorem res_4 : Try.f4.results.toList = [.tmp 4] := rfl
theorem rty_4 : Try.f4.resultTypes.toList = [4] := rfl
theorem res_15 : Try.f15.results.toList = [.tmp 2] := rfl
theorem rty_15 : Try.f15.resultTypes.toList = [25] := rfl
theorem res_18 : Try.f18.results.toList = [.tmp 4] := rfl
theorem rty_18 : Try.f18.resultTypes.toList = [4] := rfl
theorem res_20 : Try.f20.results.toList = [.tmp 4] := rfl
theorem rty_20 : Try.f20.resultTypes.toList = [3] := rfl
theorem res_22 : Try.f22.results.toList = [.tmp 4] := rfl
theorem rty_22 : Try.f22.resultTypes.toList = [3] := rfl
theorem res_23 : Try.f23.results.toList = [.tmp 4] := rfl
theorem rty_23 : Try.f23.resultTypes.toList = [3] := rfl
theorem res_24 : Try.f24.results.toList = [.cell 4 44, .tmp 5] := rfl
theorem rty_24 : Try.f24.resultTypes.toList = [44, 3] := rfl
theorem res_25 : Try.f25.results.toList = [.tmp 2] := rfl
theorem rty_25 : Try.f25.resultTypes.toList = [39] := rfl
theorem res_26 : Try.f26.results.toList = [.tmp 2] := rfl
theorem rty_26 : Try.f26.resultTypes.toList = [48] := rfl
theorem res_27 : Try.f27.results.toList = [.cell 4 44, .tmp 5] := rfl
theorem rty_27 : Try.f27.resultTypes.toList = [44, 3] := rfl
theorem res_28 : Try.f28.results.toList = [.tmp 4] := rfl
theorem rty_28 : Try.f28.resultTypes.toList = [4] := rfl
theorem res_29 : Try.f29.results.toList = [.tmp 4] := rfl
theorem rty_29 : Try.f29.resultTypes.toList = [4] := rfl
theorem res_30 : Try.f30.results.toList = [.tmp 4] := rfl
theorem rty_30 : Try.f30.resultTypes.toList = [4] := rfl
theorem res_31 : Try.f31.results.toList = [.tmp 4] := rfl
theorem rty_31 : Try.f31.resultTypes.toList = [3] := rfl
theorem res_32 : Try.f32.results.toList = [.tmp 4] := rfl
theorem rty_32 : Try.f32.resultTypes.toList = [3] := rfl
theorem res_33 : Try.f33.results.toList = [.tmp 4] := rfl
theorem rty_33 : Try.f33.resultTypes.toList = [3] := rfl
theorem res_34 : Try.f34.results.toList = [.tmp 4] := rfl
theorem rty_34 : Try.f34.resultTypes.toList = [3] := rfl
theorem res_44 : Try.f44.results.toList = [.tmp 4] := rfl
theorem rty_44 : Try.f44.resultTypes.toList = [3] := rfl
theorem res_47 : Try.f47.results.toList = [.tmp 4] := rfl
theorem rty_47 : Try.f47.resultTypes.toList = [3] := rfl
theorem res_82 : Try.f82.results.toList = [.tmp 2] := rfl
theorem rty_82 : Try.f82.resultTypes.toList = [25] := rfl
theorem res_92 : Try.f92.results.toList = [.tmp 4] := rfl
theorem rty_92 : Try.f92.resultTypes.toList = [3] := rfl
theorem res_93 : Try.f93.results.toList = [.tmp 4] := rfl
theorem rty_93 : Try.f93.resultTypes.toList = [3] := rfl
theorem res_94 : Try.f94.results.toList = [.tmp 2] := rfl
theorem rty_94 : Try.f94.resultTypes.toList = [4] := rfl
theorem res_95 : Try.f95.results.toList = [.tmp 4] := rfl
theorem rty_95 : Try.f95.resultTypes.toList = [4] := rfl
theorem res_96 : Try.f96.results.toList = [.tmp 4] := rfl
theorem rty_96 : Try.f96.resultTypes.toList = [39] := rfl
theorem res_97 : Try.f97.results.toList = [.tmp 4] := rfl
theorem rty_97 : Try.f97.resultTypes.toList = [3] := rfl
theorem res_98 : Try.f98.results.toList = [.tmp 2] := rfl
theorem rty_98 : Try.f98.resultTypes.toList = [39] := rfl
theorem res_99 : Try.f99.results.toList = [.tmp 4] := rfl
theorem rty_99 : Try.f99.resultTypes.toList = [39] := rfl
theorem res_100 : Try.f100.results.toList = [.cell 2 151] := rfl
theorem rty_100 : Try.f100.resultTypes.toList = [151] := rfl
theorem res_101 : Try.f101.results.toList = [.tmp 2] := rfl
theorem rty_101 : Try.f101.resultTypes.toList = [4] := rfl
theorem res_102 : Try.f102.results.toList = [.tmp 4] := rfl
theorem rty_102 : Try.f102.resultTypes.toList = [4] := rfl
theorem res_103 : Try.f103.results.toList = [.tmp 2] := rfl
theorem rty_103 : Try.f103.resultTypes.toList = [4] := rfl
theorem res_104 : Try.f104.results.toList = [.tmp 4] := rfl
theorem rty_104 : Try.f104.resultTypes.toList = [4] := rfl
theorem res_105 : Try.f105.results.toList = [.tmp 4] := rfl
theorem rty_105 : Try.f105.resultTypes.toList = [4] := rfl
theorem res_106 : Try.f106.results.toList = [.tmp 2] := rfl
theorem rty_106 : Try.f106.resultTypes.toList = [39] := rfl
theorem res_107 : Try.f107.results.toList = [.tmp 2] := rfl
theorem rty_107 : Try.f107.resultTypes.toList = [39] := rfl
theorem res_108 : Try.f108.results.toList = [.tmp 4] := rfl
theorem rty_108 : Try.f108.resultTypes.toList = [39] := rfl
theorem res_109 : Try.f109.results.toList = [.tmp 4] := rfl
theorem rty_109 : Try.f109.resultTypes.toList = [4] := rfl
theorem res_172 : Try.f172.results.toList = [.tmp 2] := rfl
theorem rty_172 : Try.f172.resultTypes.toList = [4] := rfl
theorem res_173 : Try.f173.results.toList = [.tmp 4] := rfl
theorem rty_173 : Try.f173.resultTypes.toList = [4] := rfl
theorem res_174 : Try.f174.results.toList = [.tmp 4] := rfl
theorem rty_174 : Try.f174.resultTypes.toList = [4] := rfl
theorem res_175 : Try.f175.results.toList = [.tmp 4] := rfl
theorem rty_175 : Try.f175.resultTypes.toList = [3] := rfl
theorem res_177 : Try.f177.results.toList = [.tmp 4] := rfl
theorem rty_177 : Try.f177.resultTypes.toList = [39] := rfl
theorem res_184 : Try.f184.results.toList = [.tmp 2] := rfl
theorem rty_184 : Try.f184.resultTypes.toList = [4] := rfl
theorem res_185 : Try.f185.results.toList = [.tmp 4] := rfl
theorem rty_185 : Try.f185.resultTypes.toList = [4] := rfl
theorem res_203 : Try.f203.results.toList = [.tmp 2] := rfl
theorem rty_203 : Try.f203.resultTypes.toList = [4] := rfl
attribute [go_sem] elTy_25 cty_3 par_15 cty_25 par_18 par_20 cty_4 par_22 cty_39 par_23 cty_40 par_25 par_26 par_24 cty_48 zeroC_44 tySz_44 par_27 par_28 cty_44 par_29 par_30 par_31 par_32 par_33 par_34 par_44 par_47 cty_78 zeroC_78 tySz_78 boolTy_4 tySz_3 par_82 zeroC_5 cty_5 ixTy_25 tySz_5 cvTy_3_5 elTy_39 ixTy_39 tySz_25 par_92 elTy_40 ixTy_40 tySz_145 par_93 cty_145 cvTy_25_25 bldTy_78 par_94 par_95 bldTy_44 par_96 par_97 zeroC_25 par_98 par_99 elTy_48 zeroC_151 cty_151 par_100 ixTy_48 tySz_151 par_101 par_102 cty_155 mapTy_156 cvTy_25_9 fldTy_151_0 tySz_4 fldTy_151_2 par_105 zeroV_3 par_106 elTy_59 zeroC_39 par_108 fldTy_44_0 fldTy_44_1 tySz_39 fldTy_44_2 par_109 fldTy_151_1 fldTy_78_1 fldTy_78_2 fldTy_78_0 par_104 fldTy_145_2 par_172 par_173 par_174 fldTy_145_0 fldTy_145_1 par_175 ixTy_59 par_177 par_184 par_185 cvTy_3_225 par_203 intTy_3
end Go.Ev
set_option linter.unusedSimpArgs false
set_option linter.unusedVariables false
namespace Go.Ev
open Go Go.RowKit Go.Proofs
def mkB (k n : Nat) : List UInt8 := (List.range n).map fun j => UInt8.ofNat (k + j)
theorem mkB_length (k n : Nat) : (mkB k n).length = n := by simp [mkB]
theorem mkB_at (k n : Nat) {i : Nat} (h : i < n) : (mkB k n)[i]? = some ((fun j => UInt8.ofNat (k + j)) i) := by simp [mkB, h]
theorem c_toByteS (bs : List UInt8) (hb : bs.length ≤ 1048576) : Meets Try.prog 15 [rowB bs] (fun r => r = rowB bs) := by
  refine Meets.intro mixed (hint []) Try.func15 rfl (by decide) res_15 rty_15 (by kernel_rfl) ?_; 
  simp -dsimp -implicitDefEqProofs only [go_sem, Nat.reduceBEq, Nat.reduceAdd, Nat.reduceLeDiff, Nat.reduceSub, Int.reduceEq]
  refine ask.of (by omega) ?_
  refine LoopE.cnt bs.length (fun i s => s.env 0 = .rd .ent 5 1 (bytesA bs) ∧ s.env 3 = .ref [7] ∧ s.env 4 = .v (.int .i64 i) ∧ s.σ [7] = some (.row 5 1 (bytesA (bs.take i ++ List.replicate (bs.length - i) 0)))) ⟨by simp -dsimp -implicitDefEqProofs only [go_sem, Nat.reduceBEq, Nat.reduceAdd, Nat.reduceLeDiff, Nat.reduceSub, Int.reduceEq, initE], by simp -dsimp -implicitDefEqProofs only [go_sem, Nat.reduceBEq, Nat.reduceAdd, Nat.reduceLeDiff, Nat.reduceSub, Int.reduceEq], by simp -dsimp -implicitDefEqProofs only [go_sem, Nat.reduceBEq, Nat.reduceAdd, Nat.reduceLeDiff, Nat.reduceSub, Int.reduceEq] <;> simp, by simp -dsimp -implicitDefEqProofs only [go_sem, Nat.reduceBEq, Nat.reduceAdd, Nat.reduceLeDiff, Nat.reduceSub, Int.reduceEq] <;> simp⟩ ?_
  rintro i ⟨e, σ⟩ hi ⟨h0, h3, h4, hs⟩ K hK
  simp only at h0 h3 h4 hs
  simp -dsimp -implicitDefEqProofs only [go_sem, Nat.reduceBEq, Nat.reduceAdd, Nat.reduceLeDiff, Nat.reduceSub, Int.reduceEq, h0, h3, h4, hs]
  refine ifB'.of (fun hlt => ?_) (fun hlt => ?_)
  · have hlt : i < bs.length := by omega
    simp -dsimp -implicitDefEqProofs only [go_sem, Nat.reduceBEq, Nat.reduceAdd, Nat.reduceLeDiff, Nat.reduceSub, Int.reduceEq, h0, h3, h4, hs, bytesA_at hlt]
    repeat with_reducible refine ask.of (by omega) ?_
    have hl : (List.take i bs ++ List.replicate (bs.length - i) 0).length = bs.length := by simp; omega
    simp -dsimp -implicitDefEqProofs only [go_sem, Nat.reduceBEq, Nat.reduceAdd, Nat.reduceLeDiff, Nat.reduceSub, Int.reduceEq, h0, h3, h4, hs, hl]
    repeat with_reducible refine ask.of (by omega) ?_
    simp -dsimp -implicitDefEqProofs only [go_sem, Nat.reduceBEq, Nat.reduceAdd, Nat.reduceLeDiff, Nat.reduceSub, Int.reduceEq, h0, h3, h4, hs, bytesA_at (show i < (List.take i bs ++ List.replicate (bs.length - i) 0).length by omega)]
    refine hK _ hlt ?_
    simp -dsimp -implicitDefEqProofs only [go_sem, Nat.reduceBEq, Nat.reduceAdd, Nat.reduceLeDiff, Nat.reduceSub, Int.reduceEq, h0, h3, h4, hs, wrap_succ (show i < 4611686018427387904 by omega), fill_set bs 0 hlt]
  · have : i = bs.length := by omega
    subst this
    simp -dsimp -implicitDefEqProofs only [go_sem, Nat.reduceBEq, Nat.reduceAdd, Nat.reduceLeDiff, Nat.reduceSub, Int.reduceEq, h0, h3, h4, hs]
    simp
theorem c_eqByteS (bs : List UInt8) (hb : bs.length ≤ 8388608) : Meets Try.prog 18 [rowB bs, rowB bs] (fun r => r = .v (.bool true)) := by
  refine Meets.intro mixed (hint []) Try.func18 rfl (by decide) res_18 rty_18 (by kernel_rfl) ?_; 
  simp -dsimp -implicitDefEqProofs only [go_sem, Nat.reduceBEq, Nat.reduceAdd, Nat.reduceLeDiff, Nat.reduceSub, Int.reduceEq, decide_true, Bool.not_true]
  refine LoopE.cnt bs.length (fun i s => s.env 0 = .rd .ent 5 1 (bytesA bs) ∧ s.env 1 = .rd .ent 5 1 (bytesA bs) ∧ s.env 5 = .v (.int .i64 i)) ⟨by simp -dsimp -implicitDefEqProofs only [go_sem, Nat.reduceBEq, Nat.reduceAdd, Nat.reduceLeDiff, Nat.reduceSub, Int.reduceEq, initE], by simp -dsimp -implicitDefEqProofs only [go_sem, Nat.reduceBEq, Nat.reduceAdd, Nat.reduceLeDiff, Nat.reduceSub, Int.reduceEq, initE], by simp -dsimp -implicitDefEqProofs only [go_sem, Nat.reduceBEq, Nat.reduceAdd, Nat.reduceLeDiff, Nat.reduceSub, Int.reduceEq] <;> simp⟩ ?_
  rintro i ⟨e, σ⟩ hi ⟨h0, h1, h5⟩ K hK
  simp only at h0 h1 h5
  simp -dsimp -implicitDefEqProofs only [go_sem, Nat.reduceBEq, Nat.reduceAdd, Nat.reduceLeDiff, Nat.reduceSub, Int.reduceEq, h0, h1, h5]
  refine ifB'.of (fun hlt => ?_) (fun hlt => ?_)
  · have hlt : i < bs.length := by omega
    simp -dsimp -implicitDefEqProofs only [go_sem, Nat.reduceBEq, Nat.reduceAdd, Nat.reduceLeDiff, Nat.reduceSub, Int.reduceEq, h0, h1, h5, bytesA_at hlt]
    repeat with_reducible refine ask.of (by omega) ?_
    simp -dsimp -implicitDefEqProofs only [go_sem, Nat.reduceBEq, Nat.reduceAdd, Nat.reduceLeDiff, Nat.reduceSub, Int.reduceEq, h0, h1, h5, decide_true, Bool.not_true]
    refine hK _ hlt ?_
    simp -dsimp -implicitDefEqProofs only [go_sem, Nat.reduceBEq, Nat.reduceAdd, Nat.reduceLeDiff, Nat.reduceSub, Int.reduceEq, h0, h1, h5, wrap_succ (show i < 4611686018427387904 by omega)]
  · simp -dsimp -implicitDefEqProofs only [go_sem, Nat.reduceBEq, Nat.reduceAdd, Nat.reduceLeDiff, Nat.reduceSub, Int.reduceEq, h0, h1, h5]
theorem c_markByteS (bs : List UInt8) (k : Nat) (hk : k + bs.length ≤ 4611686018427387904) (hb : bs.length ≤ 8388608) : MeetsM Try.prog 20 [.mu (rowB bs), .rd (.v (.int .i64 k))] (fun r rs => r = .v (.int .i64 ((k + bs.length : Nat) : Int)) ∧ rs = [rowB (mkB k bs.length), .any]) := by
  refine MeetsM.intro mixed (hint []) Try.func20 rfl (by decide) res_20 rty_20 (pts := parTys Try.prog 20) (by rw [par_20]; rfl) (by kernel_rfl) ?_; rw [par_20]; intro vals; 
  simp -dsimp -implicitDefEqProofs only [go_sem, Nat.reduceBEq, Nat.reduceAdd, Nat.reduceLeDiff, Nat.reduceSub, Int.reduceEq]
  refine LoopE.cnt bs.length (fun i s => s.env 0 = .ref [1000000, 0] ∧ s.env 1 = .v (.int .i64 ((k + i : Nat) : Int)) ∧ s.env 5 = .v (.int .i64 i) ∧ s.σ [1000000, 0] = some (.row 5 1 (bytesA (mkPre (fun j => UInt8.ofNat (k + j)) bs i))) ∧ s.σ [1000001, 0] = some (.pin (.ref [1000000, 0]) (vals 0))) ⟨by simp -dsimp -implicitDefEqProofs only [go_sem, Nat.reduceBEq, Nat.reduceAdd, Nat.reduceLeDiff, Nat.reduceSub, Int.reduceEq], by simp -dsimp -implicitDefEqProofs only [go_sem, Nat.reduceBEq, Nat.reduceAdd, Nat.reduceLeDiff, Nat.reduceSub, Int.reduceEq] <;> simp, by simp -dsimp -implicitDefEqProofs only [go_sem, Nat.reduceBEq, Nat.reduceAdd, Nat.reduceLeDiff, Nat.reduceSub, Int.reduceEq] <;> simp, by simp -dsimp -implicitDefEqProofs only [go_sem, Nat.reduceBEq, Nat.reduceAdd, Nat.reduceLeDiff, Nat.reduceSub, Int.reduceEq, mkPre_zero], by simp -dsimp -implicitDefEqProofs only [go_sem, Nat.reduceBEq, Nat.reduceAdd, Nat.reduceLeDiff, Nat.reduceSub, Int.reduceEq]⟩ ?_
  rintro i ⟨e, σ⟩ hi ⟨h0, h1, h5, hs, hp⟩ K hK
  simp only at h0 h1 h5 hs hp
  have hl := mkPre_length (fun j => UInt8.ofNat (k + j)) hi
  simp -dsimp -implicitDefEqProofs only [go_sem, Nat.reduceBEq, Nat.reduceAdd, Nat.reduceLeDiff, Nat.reduceSub, Int.reduceEq, h0, h1, h5, hs, hp, hl]
  refine ifB'.of (fun hlt => ?_) (fun hlt => ?_)
  · have hlt : i < bs.length := by omega
    have hk' : k + i ≤ 4611686018427387904 := by omega
    simp -dsimp -implicitDefEqProofs only [go_sem, Nat.reduceBEq, Nat.reduceAdd, Nat.reduceLeDiff, Nat.reduceSub, Int.reduceEq, h0, h1, h5, hs, hp, hl]
    repeat with_reducible refine ask.of (by omega) ?_
    simp -dsimp -implicitDefEqProofs only [go_sem, Nat.reduceBEq, Nat.reduceAdd, Nat.reduceLeDiff, Nat.reduceSub, Int.reduceEq, h0, h1, h5, hs, hp, hl, bytesA_at (show i < (mkPre (fun j => UInt8.ofNat (k + j)) bs i).length by omega)]
    repeat with_reducible refine ask.of (by omega) ?_
    try simp -dsimp -implicitDefEqProofs only [go_sem, Nat.reduceBEq, Nat.reduceAdd, Nat.reduceLeDiff, Nat.reduceSub, Int.reduceEq, h0, h1, h5, hs, hp, u8_of_nat]
    refine hK _ hlt ?_
    simp -dsimp -implicitDefEqProofs only [go_sem, Nat.reduceBEq, Nat.reduceAdd, Nat.reduceLeDiff, Nat.reduceSub, Int.reduceEq, h0, h1, h5, hs, hp, wrap_succ (show i < 4611686018427387904 by omega), wrap_succ (show k + i < 4611686018427387904 by omega), mkPre_set (fun j => UInt8.ofNat (k + j)) bs hlt rfl]
    rfl
  · have : i = bs.length := by omega
    subst this
    simp -dsimp -implicitDefEqProofs only [go_sem, Nat.reduceBEq, Nat.reduceAdd, Nat.reduceLeDiff, Nat.reduceSub, Int.reduceEq, h0, h1, h5, hs, hp, mkPre_full]
    rfl
theorem c_heldByteS (k n : Nat) (hk : k + n ≤ 4611686018427387904) (hn : n ≤ 8388608) : Meets Try.prog 44 [rowB (mkB k n), .v (.int .i64 k)] (fun r => r = .v (.int .i64 ((k + n : Nat) : Int))) := by
  refine Meets.intro mixed (hint []) Try.func44 rfl (by decide) res_44 rty_44 (by kernel_rfl) ?_; 
  simp -dsimp -implicitDefEqProofs only [go_sem, Nat.reduceBEq, Nat.reduceAdd, Nat.reduceLeDiff, Nat.reduceSub, Int.reduceEq]
  refine LoopE.cnt n (fun i s => s.env 0 = .rd .ent 5 1 (bytesA (mkB k n)) ∧ s.env 1 = .v (.int .i64 ((k + i : Nat) : Int)) ∧ s.env 5 = .v (.int .i64 i)) ⟨by simp -dsimp -implicitDefEqProofs only [go_sem, Nat.reduceBEq, Nat.reduceAdd, Nat.reduceLeDiff, Nat.reduceSub, Int.reduceEq, initE], by simp -dsimp -implicitDefEqProofs only [go_sem, Nat.reduceBEq, Nat.reduceAdd, Nat.reduceLeDiff, Nat.reduceSub, Int.reduceEq, initE] <;> simp, by simp -dsimp -implicitDefEqProofs only [go_sem, Nat.reduceBEq, Nat.reduceAdd, Nat.reduceLeDiff, Nat.reduceSub, Int.reduceEq] <;> simp⟩ ?_
  rintro i ⟨e, σ⟩ hi ⟨h0, h1, h5⟩ K hK
  simp only at h0 h1 h5
  simp -dsimp -implicitDefEqProofs only [go_sem, Nat.reduceBEq, Nat.reduceAdd, Nat.reduceLeDiff, Nat.reduceSub, Int.reduceEq, h0, h1, h5, mkB_length]
  refine ifB'.of (fun hlt => ?_) (fun hlt => ?_)
  · have hlt : i < n := by omega
    have hk' : k + i ≤ 4611686018427387904 := by omega
    simp -dsimp -implicitDefEqProofs only [go_sem, Nat.reduceBEq, Nat.reduceAdd, Nat.reduceLeDiff, Nat.reduceSub, Int.reduceEq, h0, h1, h5, mkB_length, bytesA_at' (mkB_at k n hlt), u8_of_nat]
    repeat with_reducible refine ask.of (by omega) ?_
    simp -dsimp -implicitDefEqProofs only [go_sem, Nat.reduceBEq, Nat.reduceAdd, Nat.reduceLeDiff, Nat.reduceSub, Int.reduceEq, h0, h1, h5, decide_true, Bool.not_true]
    refine hK _ hlt ?_
    simp -dsimp -implicitDefEqProofs only [go_sem, Nat.reduceBEq, Nat.reduceAdd, Nat.reduceLeDiff, Nat.reduceSub, Int.reduceEq, h0, h1, h5, wrap_succ (show i < 4611686018427387904 by omega), wrap_succ (show k + i < 4611686018427387904 by omega)]
    rfl
  · have : i = n := by omega
    subst this
    simp -dsimp -implicitDefEqProofs only [go_sem, Nat.reduceBEq, Nat.reduceAdd, Nat.reduceLeDiff, Nat.reduceSub, Int.reduceEq, h0, h1, h5]
end Go.Ev
set_option linter.unusedSimpArgs false
set_option linter.unusedVariables false
namespace Go.Ev
open Go Go.RowKit Go.Proofs
theorem c_szByteS (bs : List UInt8) (left : Nat) (hb : bs.length ≤ 140737488355328) (hl : left ≤ 1048576) : Meets Try.prog 92 [rowB bs, .v (.int .i64 left)] (fun r => r = .v (.int .i64 (szR left bs.length))) := by
  refine Meets.intro mixed (hint []) Try.func92 rfl (by decide) res_92 rty_92 (by kernel_rfl) ?_; 
  have e : IntKind.i64.wrap ((left : Int) - bs.length) = (left : Int) - bs.length := wrap_i64_of (by omega) (by omega)
  simp -dsimp -implicitDefEqProofs only [go_sem, Nat.reduceBEq, Nat.reduceAdd, Nat.reduceLeDiff, Nat.reduceSub, Int.reduceEq, e]
  refine ifB'.of (fun h => ?_) (fun h => ?_)
  · simp -dsimp -implicitDefEqProofs only [go_sem, Nat.reduceBEq, Nat.reduceAdd, Nat.reduceLeDiff, Nat.reduceSub, Int.reduceEq]
    rw [szR_no (by omega)]
  · simp -dsimp -implicitDefEqProofs only [go_sem, Nat.reduceBEq, Nat.reduceAdd, Nat.reduceLeDiff, Nat.reduceSub, Int.reduceEq]
    rw [szR_ok (by omega)]; omega
def wBB (xs : List (List UInt8)) : Nat := szL List.length xs
theorem mem_wBB {xs : List (List UInt8)} {b : List UInt8} (h : b ∈ xs) : b.length ≤ wBB xs := by
  obtain ⟨i, hi, rfl⟩ := List.mem_iff_getElem.1 h
  have := szL_at_le List.length hi
  unfold wBB; omega
theorem c_szByteSS (xs : List (List UInt8)) (left : Nat) (hl : left ≤ 1048576) (hx : xs.length ≤ 140737488355328) (hb : ∀ b ∈ xs, b.length ≤ 140737488355328) : Meets Try.prog 22 [rowBB xs, .v (.int .i64 left)] (fun r => r = .v (.int .i64 (szR left (xs.length + wBB xs)))) := by
  refine Meets.intro mixed (hint []) Try.func22 rfl (by decide) res_22 rty_22 (by kernel_rfl) ?_; 
  have e : IntKind.i64.wrap ((left : Int) - xs.length) = (left : Int) - xs.length := wrap_i64_of (by omega) (by omega)
  simp -dsimp -implicitDefEqProofs only [go_sem, Nat.reduceBEq, Nat.reduceAdd, Nat.reduceLeDiff, Nat.reduceSub, Int.reduceEq, e]
  refine ifB'.of (fun h => ?_) (fun h => ?_)
  · simp -dsimp -implicitDefEqProofs only [go_sem, Nat.reduceBEq, Nat.reduceAdd, Nat.reduceLeDiff, Nat.reduceSub, Int.reduceEq]
    rw [szR_no (by omega)]
  simp -dsimp -implicitDefEqProofs only [go_sem, Nat.reduceBEq, Nat.reduceAdd, Nat.reduceLeDiff, Nat.reduceSub, Int.reduceEq, e]
  refine LoopE.cnt xs.length (fun i s => s.env 0 = .rd .ent 25 1 (ra byC xs) ∧ s.env 5 = .v (.int .i64 i) ∧ xs.length + szL List.length (xs.take i) ≤ left ∧ s.env 1 = .v (.int .i64 ((left - (xs.length + szL List.length (xs.take i)) : Nat) : Int))) ⟨by simp -dsimp -implicitDefEqProofs only [go_sem, Nat.reduceBEq, Nat.reduceAdd, Nat.reduceLeDiff, Nat.reduceSub, Int.reduceEq, initE], by simp -dsimp -implicitDefEqProofs only [go_sem, Nat.reduceBEq, Nat.reduceAdd, Nat.reduceLeDiff, Nat.reduceSub, Int.reduceEq] <;> simp, by simp [szL]; omega, by simp -dsimp -implicitDefEqProofs only [go_sem, Nat.reduceBEq, Nat.reduceAdd, Nat.reduceLeDiff, Nat.reduceSub, Int.reduceEq] <;> (simp [szL]; omega)⟩ ?_
  rintro i ⟨e, σ⟩ hi ⟨h0, h5, hle, h1⟩ K hK
  simp only at h0 h5 h1
  simp -dsimp -implicitDefEqProofs only [go_sem, Nat.reduceBEq, Nat.reduceAdd, Nat.reduceLeDiff, Nat.reduceSub, Int.reduceEq, h0, h5, h1]
  refine ifB'.of (fun hlt => ?_) (fun hlt => ?_)
  · have hlt : i < xs.length := by omega
    have hs := szL_take_succ List.length hlt
    have hw := szL_take_le List.length xs (i + 1)
    simp -dsimp -implicitDefEqProofs only [go_sem, Nat.reduceBEq, Nat.reduceAdd, Nat.reduceLeDiff, Nat.reduceSub, Int.reduceEq, h0, h5, h1, byA_at hlt]
    repeat with_reducible refine ask.of (by omega) ?_
    refine CallE.of (c_szByteS xs[i] (left - (xs.length + szL List.length (xs.take i))) (hb _ (List.getElem_mem _)) (by omega)) (by rintro r rfl; (repeat' first | exact trivial | exact pure_rowB _ | exact pure_rowO _ | exact pure_rowI _ | exact pure_rowBB _ | exact pure_rowPk _ _ | exact pure_rowSn _ _ | exact pure_rowFd _ _ | exact pure_rowBBB _ | exact pure_rowCl _ _ | exact pure_rowTb _ _ _ | refine And.intro ?_ ?_)) (by simp -dsimp -implicitDefEqProofs only [go_sem, Nat.reduceBEq, Nat.reduceAdd, Nat.reduceLeDiff, Nat.reduceSub, Int.reduceEq, h0, h5, h1]) ?_
    rintro r rfl
    simp -dsimp -implicitDefEqProofs only [go_sem, Nat.reduceBEq, Nat.reduceAdd, Nat.reduceLeDiff, Nat.reduceSub, Int.reduceEq, h0, h5, h1]
    refine ifB'.of (fun hn => ?_) (fun hn => ?_)
    · have : ¬ xs[i].length ≤ left - (xs.length + szL List.length (xs.take i)) := fun h => by rw [szR_ok h] at hn; omega
      simp -dsimp -implicitDefEqProofs only [go_sem, Nat.reduceBEq, Nat.reduceAdd, Nat.reduceLeDiff, Nat.reduceSub, Int.reduceEq, h0, h5, h1]
      rw [szR_no (by unfold wBB; omega)]
    · have h : xs[i].length ≤ left - (xs.length + szL List.length (xs.take i)) := Classical.byContradiction fun h => by rw [szR_no h] at hn; omega
      simp -dsimp -implicitDefEqProofs only [go_sem, Nat.reduceBEq, Nat.reduceAdd, Nat.reduceLeDiff, Nat.reduceSub, Int.reduceEq, h0, h5, h1]
      refine hK _ hlt ?_
      simp -dsimp -implicitDefEqProofs only [go_sem, Nat.reduceBEq, Nat.reduceAdd, Nat.reduceLeDiff, Nat.reduceSub, Int.reduceEq, h0, h5, h1, wrap_succ (show i < 4611686018427387904 by omega), szR_ok h, hs]
      exact ⟨by omega, by omega⟩
  · have : i = xs.length := by omega
    subst this
    simp -dsimp -implicitDefEqProofs only [go_sem, Nat.reduceBEq, Nat.reduceAdd, Nat.reduceLeDiff, Nat.reduceSub, Int.reduceEq, h0, h5, h1]
    rw [List.take_length] at hle ⊢
    rw [szR_ok (by unfold wBB; omega)]
    rfl
theorem c_toByteSS (xs : List (List UInt8)) (hx : xs.length ≤ 1048576) (hb : ∀ b ∈ xs, b.length ≤ 1048576) : Meets Try.prog 25 [rowBB xs] (fun r => r = rowBB xs) := by
  refine Meets.intro mixed (hint []) Try.func25 rfl (by decide) res_25 rty_25 (by kernel_rfl) ?_; 
  simp -dsimp -implicitDefEqProofs only [go_sem, Nat.reduceBEq, Nat.reduceAdd, Nat.reduceLeDiff, Nat.reduceSub, Int.reduceEq]
  refine ask.of (by omega) ?_
  refine LoopE.cnt xs.length (fun i s => s.env 0 = .rd .ent 25 1 (ra byC xs) ∧ s.env 3 = .ref [7] ∧ s.env 4 = .v (.int .i64 i) ∧ s.σ [7] = some (.row 25 1 (ra byC (xs.take i ++ List.replicate (xs.length - i) [])))) ⟨by simp -dsimp -implicitDefEqProofs only [go_sem, Nat.reduceBEq, Nat.reduceAdd, Nat.reduceLeDiff, Nat.reduceSub, Int.reduceEq, initE], by simp -dsimp -implicitDefEqProofs only [go_sem, Nat.reduceBEq, Nat.reduceAdd, Nat.reduceLeDiff, Nat.reduceSub, Int.reduceEq], by simp -dsimp -implicitDefEqProofs only [go_sem, Nat.reduceBEq, Nat.reduceAdd, Nat.reduceLeDiff, Nat.reduceSub, Int.reduceEq] <;> simp, by simp -dsimp -implicitDefEqProofs only [go_sem, Nat.reduceBEq, Nat.reduceAdd, Nat.reduceLeDiff, Nat.reduceSub, Int.reduceEq] <;> simp⟩ ?_
  rintro i ⟨e, σ⟩ hi ⟨h0, h3, h4, hs⟩ K hK
  simp only at h0 h3 h4 hs
  simp -dsimp -implicitDefEqProofs only [go_sem, Nat.reduceBEq, Nat.reduceAdd, Nat.reduceLeDiff, Nat.reduceSub, Int.reduceEq, h0, h3, h4, hs]
  refine ifB'.of (fun hlt => ?_) (fun hlt => ?_)
  · have hlt : i < xs.length := by omega
    simp -dsimp -implicitDefEqProofs only [go_sem, Nat.reduceBEq, Nat.reduceAdd, Nat.reduceLeDiff, Nat.reduceSub, Int.reduceEq, h0, h3, h4, hs, byA_at hlt]
    repeat with_reducible refine ask.of (by omega) ?_
    refine CallE.of (c_toByteS xs[i] (hb _ (List.getElem_mem _))) (by rintro r rfl; (repeat' first | exact trivial | exact pure_rowB _ | exact pure_rowO _ | exact pure_rowI _ | exact pure_rowBB _ | exact pure_rowPk _ _ | exact pure_rowSn _ _ | exact pure_rowFd _ _ | exact pure_rowBBB _ | exact pure_rowCl _ _ | exact pure_rowTb _ _ _ | refine And.intro ?_ ?_)) (by simp -dsimp -implicitDefEqProofs only [go_sem, Nat.reduceBEq, Nat.reduceAdd, Nat.reduceLeDiff, Nat.reduceSub, Int.reduceEq, h0, h3, h4, hs]) ?_
    rintro r rfl
    simp -dsimp -implicitDefEqProofs only [go_sem, Nat.reduceBEq, Nat.reduceAdd, Nat.reduceLeDiff, Nat.reduceSub, Int.reduceEq, h0, h3, h4, hs]
    have hl : (List.take i xs ++ List.replicate (xs.length - i) []).length = xs.length := by simp; omega
    simp -dsimp -implicitDefEqProofs only [go_sem, Nat.reduceBEq, Nat.reduceAdd, Nat.reduceLeDiff, Nat.reduceSub, Int.reduceEq, h0, h3, h4, hs, hl]
    repeat with_reducible refine ask.of (by omega) ?_
    simp -dsimp -implicitDefEqProofs only [go_sem, Nat.reduceBEq, Nat.reduceAdd, Nat.reduceLeDiff, Nat.reduceSub, Int.reduceEq, h0, h3, h4, hs, byA_at (show i < (List.take i xs ++ List.replicate (xs.length - i) []).length by omega)]
    refine hK _ hlt ?_
    simp -dsimp -implicitDefEqProofs only [go_sem, Nat.reduceBEq, Nat.reduceAdd, Nat.reduceLeDiff, Nat.reduceSub, Int.reduceEq, h0, h3, h4, hs, wrap_succ (show i < 4611686018427387904 by omega), fill_set xs [] hlt]
  · have : i = xs.length := by omega
    subst this
    simp -dsimp -implicitDefEqProofs only [go_sem, Nat.reduceBEq, Nat.reduceAdd, Nat.reduceLeDiff, Nat.reduceSub, Int.reduceEq, h0, h3, h4, hs]
    simp
theorem c_eqByteSS (xs : List (List UInt8)) (hx : xs.length ≤ 8388608) (hb : ∀ b ∈ xs, b.length ≤ 8388608) : Meets Try.prog 29 [rowBB xs, rowBB xs] (fun r => r = .v (.bool true)) := by
  refine Meets.intro mixed (hint []) Try.func29 rfl (by decide) res_29 rty_29 (by kernel_rfl) ?_; 
  simp -dsimp -implicitDefEqProofs only [go_sem, Nat.reduceBEq, Nat.reduceAdd, Nat.reduceLeDiff, Nat.reduceSub, Int.reduceEq, decide_true, Bool.not_true]
  refine LoopE.cnt xs.length (fun i s => s.env 0 = .rd .ent 25 1 (ra byC xs) ∧ s.env 1 = .rd .ent 25 1 (ra byC xs) ∧ s.env 5 = .v (.int .i64 i)) ⟨by simp -dsimp -implicitDefEqProofs only [go_sem, Nat.reduceBEq, Nat.reduceAdd, Nat.reduceLeDiff, Nat.reduceSub, Int.reduceEq, initE], by simp -dsimp -implicitDefEqProofs only [go_sem, Nat.reduceBEq, Nat.reduceAdd, Nat.reduceLeDiff, Nat.reduceSub, Int.reduceEq, initE], by simp -dsimp -implicitDefEqProofs only [go_sem, Nat.reduceBEq, Nat.reduceAdd, Nat.reduceLeDiff, Nat.reduceSub, Int.reduceEq] <;> simp⟩ ?_
  rintro i ⟨e, σ⟩ hi ⟨h0, h1, h5⟩ K hK
  simp only at h0 h1 h5
  simp -dsimp -implicitDefEqProofs only [go_sem, Nat.reduceBEq, Nat.reduceAdd, Nat.reduceLeDiff, Nat.reduceSub, Int.reduceEq, h0, h1, h5]
  refine ifB'.of (fun hlt => ?_) (fun hlt => ?_)
  · have hlt : i < xs.length := by omega
    simp -dsimp -implicitDefEqProofs only [go_sem, Nat.reduceBEq, Nat.reduceAdd, Nat.reduceLeDiff, Nat.reduceSub, Int.reduceEq, h0, h1, h5, byA_at hlt]
    repeat with_reducible refine ask.of (by omega) ?_
    refine CallE.of (c_eqByteS xs[i] (hb _ (List.getElem_mem _))) (by rintro r rfl; (repeat' first | exact trivial | exact pure_rowB _ | exact pure_rowO _ | exact pure_rowI _ | exact pure_rowBB _ | exact pure_rowPk _ _ | exact pure_rowSn _ _ | exact pure_rowFd _ _ | exact pure_rowBBB _ | exact pure_rowCl _ _ | exact pure_rowTb _ _ _ | refine And.intro ?_ ?_)) (by simp -dsimp -implicitDefEqProofs only [go_sem, Nat.reduceBEq, Nat.reduceAdd, Nat.reduceLeDiff, Nat.reduceSub, Int.reduceEq, h0, h1, h5, Bool.not_true]) ?_
    rintro r rfl
    simp -dsimp -implicitDefEqProofs only [go_sem, Nat.reduceBEq, Nat.reduceAdd, Nat.reduceLeDiff, Nat.reduceSub, Int.reduceEq, h0, h1, h5, Bool.not_true]
    refine hK _ hlt ?_
    simp -dsimp -implicitDefEqProofs only [go_sem, Nat.reduceBEq, Nat.reduceAdd, Nat.reduceLeDiff, Nat.reduceSub, Int.reduceEq, h0, h1, h5, wrap_succ (show i < 4611686018427387904 by omega)]
  · simp -dsimp -implicitDefEqProofs only [go_sem, Nat.reduceBEq, Nat.reduceAdd, Nat.reduceLeDiff, Nat.reduceSub, Int.reduceEq, h0, h1, h5]
def mkBB (k : Nat) (xs : List (List UInt8)) : List (List UInt8) := mkL (fun k x => mkB k x.length) List.length k xs
theorem c_markByteSS (xs : List (List UInt8)) (k : Nat) (hk : k + wBB xs ≤ 4611686018427387904) (hx : xs.length ≤ 8388608) (hb : ∀ b ∈ xs, b.length ≤ 8388608) : MeetsM Try.prog 31 [.mu (rowBB xs), .rd (.v (.int .i64 k))] (fun r rs => r = .v (.int .i64 ((k + wBB xs : Nat) : Int)) ∧ rs = [rowBB (mkBB k xs), .any]) := by
  refine MeetsM.intro mixed (hint []) Try.func31 rfl (by decide) res_31 rty_31 (pts := parTys Try.prog 31) (by rw [par_31]; rfl) (by kernel_rfl) ?_; rw [par_31]; intro vals; 
  simp -dsimp -implicitDefEqProofs only [go_sem, Nat.reduceBEq, Nat.reduceAdd, Nat.reduceLeDiff, Nat.reduceSub, Int.reduceEq]
  refine LoopE.cnt xs.length (fun i s => s.env 0 = .ref [1000000, 0] ∧ s.env 1 = .v (.int .i64 ((k + szL List.length (xs.take i) : Nat) : Int)) ∧ s.env 5 = .v (.int .i64 i) ∧ s.σ [1000000, 0] = some (.row 25 1 (ra byC (mkLP (fun k x => mkB k x.length) List.length k xs i))) ∧ s.σ [1000001, 0] = some (.pin (.ref [1000000, 0]) (vals 0))) ⟨by simp -dsimp -implicitDefEqProofs only [go_sem, Nat.reduceBEq, Nat.reduceAdd, Nat.reduceLeDiff, Nat.reduceSub, Int.reduceEq], by simp -dsimp -implicitDefEqProofs only [go_sem, Nat.reduceBEq, Nat.reduceAdd, Nat.reduceLeDiff, Nat.reduceSub, Int.reduceEq] <;> simp [szL], by simp -dsimp -implicitDefEqProofs only [go_sem, Nat.reduceBEq, Nat.reduceAdd, Nat.reduceLeDiff, Nat.reduceSub, Int.reduceEq] <;> simp, by simp -dsimp -implicitDefEqProofs only [go_sem, Nat.reduceBEq, Nat.reduceAdd, Nat.reduceLeDiff, Nat.reduceSub, Int.reduceEq, mkLP_zero], by simp -dsimp -implicitDefEqProofs only [go_sem, Nat.reduceBEq, Nat.reduceAdd, Nat.reduceLeDiff, Nat.reduceSub, Int.reduceEq]⟩ ?_
  rintro i ⟨e, σ⟩ hi ⟨h0, h1, h5, hs, hp⟩ K hK
  simp only at h0 h1 h5 hs hp
  have hl := mkLP_length (fun k x => mkB k x.length) List.length k hi
  simp -dsimp -implicitDefEqProofs only [go_sem, Nat.reduceBEq, Nat.reduceAdd, Nat.reduceLeDiff, Nat.reduceSub, Int.reduceEq, h0, h1, h5, hs, hp, hl]
  refine ifB'.of (fun hlt => ?_) (fun hlt => ?_)
  · have hlt : i < xs.length := by omega
    have hw := szL_at_le List.length hlt
    simp -dsimp -implicitDefEqProofs only [go_sem, Nat.reduceBEq, Nat.reduceAdd, Nat.reduceLeDiff, Nat.reduceSub, Int.reduceEq, h0, h1, h5, hs, hp, hl]
    repeat with_reducible refine ask.of (by omega) ?_
    simp -dsimp -implicitDefEqProofs only [go_sem, Nat.reduceBEq, Nat.reduceAdd, Nat.reduceLeDiff, Nat.reduceSub, Int.reduceEq, h0, h1, h5, hs, hp, byA_at' (mkLP_at (fun k x => mkB k x.length) List.length k hlt)]
    refine CallE.mut (c_markByteS xs[i] (k + szL List.length (xs.take i)) (by unfold wBB at hk; omega) (hb _ (List.getElem_mem _))) (by simp -dsimp -implicitDefEqProofs only [go_sem, Nat.reduceBEq, Nat.reduceAdd, Nat.reduceLeDiff, Nat.reduceSub, Int.reduceEq, h0, h1, h5, hs, hp]) (by rintro r rs ⟨rfl, rfl⟩; exact ⟨by (repeat' first | exact trivial | exact pure_rowB _ | exact pure_rowO _ | exact pure_rowI _ | exact pure_rowBB _ | exact pure_rowPk _ _ | exact pure_rowSn _ _ | exact pure_rowFd _ _ | exact pure_rowBBB _ | exact pure_rowCl _ _ | exact pure_rowTb _ _ _ | refine And.intro ?_ ?_), by first | exact ⟨by (repeat' first | exact trivial | exact pure_rowB _ | exact pure_rowO _ | exact pure_rowI _ | exact pure_rowBB _ | exact pure_rowPk _ _ | exact pure_rowSn _ _ | exact pure_rowFd _ _ | exact pure_rowBBB _ | exact pure_rowCl _ _ | exact pure_rowTb _ _ _ | refine And.intro ?_ ?_), trivial⟩ | exact ⟨by (repeat' first | exact trivial | exact pure_rowB _ | exact pure_rowO _ | exact pure_rowI _ | exact pure_rowBB _ | exact pure_rowPk _ _ | exact pure_rowSn _ _ | exact pure_rowFd _ _ | exact pure_rowBBB _ | exact pure_rowCl _ _ | exact pure_rowTb _ _ _ | refine And.intro ?_ ?_), trivial, trivial⟩⟩) (by simp -dsimp -implicitDefEqProofs only [go_sem, Nat.reduceBEq, Nat.reduceAdd, Nat.reduceLeDiff, Nat.reduceSub, Int.reduceEq, h0, h1, h5, hs, hp, byA_at' (mkLP_at (fun k x => mkB k x.length) List.length k hlt)]) (by simp -dsimp -implicitDefEqProofs only [go_sem, Nat.reduceBEq, Nat.reduceAdd, Nat.reduceLeDiff, Nat.reduceSub, Int.reduceEq, h0, h1, h5, hs, hp, byA_at' (mkLP_at (fun k x => mkB k x.length) List.length k hlt)]) ?_
    rintro r rs ⟨rfl, rfl⟩
    simp -dsimp -implicitDefEqProofs only [go_sem, Nat.reduceBEq, Nat.reduceAdd, Nat.reduceLeDiff, Nat.reduceSub, Int.reduceEq, h0, h1, h5, hs, hp, byA_at' (mkLP_at (fun k x => mkB k x.length) List.length k hlt)]
    refine hK _ hlt ?_
    simp -dsimp -implicitDefEqProofs only [go_sem, Nat.reduceBEq, Nat.reduceAdd, Nat.reduceLeDiff, Nat.reduceSub, Int.reduceEq, h0, h1, h5, hs, hp, byA_at' (mkLP_at (fun k x => mkB k x.length) List.length k hlt), wrap_succ (show i < 4611686018427387904 by omega), mkLP_set (fun k x => mkB k x.length) List.length k hlt rfl, szL_take_succ List.length hlt, Nat.add_assoc]
  · have : i = xs.length := by omega
    subst this
    simp -dsimp -implicitDefEqProofs only [go_sem, Nat.reduceBEq, Nat.reduceAdd, Nat.reduceLeDiff, Nat.reduceSub, Int.reduceEq, h0, h1, h5, hs, hp, mkLP_full, List.take_length]
    exact ⟨rfl, rfl⟩
theorem c_heldByteSS (xs : List (List UInt8)) (k : Nat) (hk : k + wBB xs ≤ 4611686018427387904) (hx : xs.length ≤ 8388608) (hb : ∀ b ∈ xs, b.length ≤ 8388608) : Meets Try.prog 47 [rowBB (mkBB k xs), .v (.int .i64 k)] (fun r => r = .v (.int .i64 ((k + wBB xs : Nat) : Int))) := by
  refine Meets.intro mixed (hint []) Try.func47 rfl (by decide) res_47 rty_47 (by kernel_rfl) ?_; 
  simp -dsimp -implicitDefEqProofs only [go_sem, Nat.reduceBEq, Nat.reduceAdd, Nat.reduceLeDiff, Nat.reduceSub, Int.reduceEq]
  refine LoopE.cnt xs.length (fun i s => s.env 0 = .rd .ent 25 1 (ra byC (mkBB k xs)) ∧ s.env 1 = .v (.int .i64 ((k + szL List.length (xs.take i) : Nat) : Int)) ∧ s.env 5 = .v (.int .i64 i)) ⟨by simp -dsimp -implicitDefEqProofs only [go_sem, Nat.reduceBEq, Nat.reduceAdd, Nat.reduceLeDiff, Nat.reduceSub, Int.reduceEq, initE], by simp -dsimp -implicitDefEqProofs only [go_sem, Nat.reduceBEq, Nat.reduceAdd, Nat.reduceLeDiff, Nat.reduceSub, Int.reduceEq, initE] <;> simp [szL], by simp -dsimp -implicitDefEqProofs only [go_sem, Nat.reduceBEq, Nat.reduceAdd, Nat.reduceLeDiff, Nat.reduceSub, Int.reduceEq] <;> simp⟩ ?_
  rintro i ⟨e, σ⟩ hi ⟨h0, h1, h5⟩ K hK
  simp only at h0 h1 h5
  simp -dsimp -implicitDefEqProofs only [go_sem, Nat.reduceBEq, Nat.reduceAdd, Nat.reduceLeDiff, Nat.reduceSub, Int.reduceEq, h0, h1, h5, mkBB, mkL_length]
  refine ifB'.of (fun hlt => ?_) (fun hlt => ?_)
  · have hlt : i < xs.length := by omega
    have hw := szL_at_le List.length hlt
    simp -dsimp -implicitDefEqProofs only [go_sem, Nat.reduceBEq, Nat.reduceAdd, Nat.reduceLeDiff, Nat.reduceSub, Int.reduceEq, h0, h1, h5, mkBB, mkL_length, byA_at' (mkL_at (fun k x => mkB k x.length) List.length k hlt)]
    repeat with_reducible refine ask.of (by omega) ?_
    refine CallE.of (c_heldByteS (k + szL List.length (xs.take i)) xs[i].length (by unfold wBB at hk; omega) (hb _ (List.getElem_mem _))) (by rintro r rfl; (repeat' first | exact trivial | exact pure_rowB _ | exact pure_rowO _ | exact pure_rowI _ | exact pure_rowBB _ | exact pure_rowPk _ _ | exact pure_rowSn _ _ | exact pure_rowFd _ _ | exact pure_rowBBB _ | exact pure_rowCl _ _ | exact pure_rowTb _ _ _ | refine And.intro ?_ ?_)) (by simp -dsimp -implicitDefEqProofs only [go_sem, Nat.reduceBEq, Nat.reduceAdd, Nat.reduceLeDiff, Nat.reduceSub, Int.reduceEq, h0, h1, h5]) ?_
    rintro r rfl
    simp -dsimp -implicitDefEqProofs only [go_sem, Nat.reduceBEq, Nat.reduceAdd, Nat.reduceLeDiff, Nat.reduceSub, Int.reduceEq, h0, h1, h5]
    refine ifB'.of (fun hn => by omega) (fun hn => ?_)
    simp -dsimp -implicitDefEqProofs only [go_sem, Nat.reduceBEq, Nat.reduceAdd, Nat.reduceLeDiff, Nat.reduceSub, Int.reduceEq, h0, h1, h5]
    refine hK _ hlt ?_
    simp -dsimp -implicitDefEqProofs only [go_sem, Nat.reduceBEq, Nat.reduceAdd, Nat.reduceLeDiff, Nat.reduceSub, Int.reduceEq, h0, h1, h5, wrap_succ (show i < 4611686018427387904 by omega), szL_take_succ List.length hlt, Nat.add_assoc, mkBB]
  · have : i = xs.length := by omega
    subst this
    simp -dsimp -implicitDefEqProofs only [go_sem, Nat.reduceBEq, Nat.reduceAdd, Nat.reduceLeDiff, Nat.reduceSub, Int.reduceEq, h0, h1, h5, List.take_length]
    rfl
end Go.Ev
set_option linter.unusedSimpArgs false
set_option linter.unusedVariables false
namespace Go.Ev
open Go Go.RowKit Go.Proofs
structure Fd where
  f : List UInt8
  k : Int
  w : Int
structure Cl where
  z : Bool
  i : Int
  f : List UInt8
def fdC (x : Fd) : List AV := [.row 5 1 (bytesA x.f), .v (.int .i64 x.k), .v (.int .i64 x.w)]
def clC (x : Cl) : List AV := [.v (.bool x.z), .v (.int .i64 x.i), .row 5 1 (bytesA x.f)]
def clW (x : Cl) : Nat := x.f.length
def cl0 : Cl := ⟨false, 0, []⟩
def rowFd (T : Nat) (ps : List Fd) : AV := .row T 3 (ra fdC ps)
def rowCl (T : Nat) (ps : List Cl) : AV := .row T 3 (ra clC ps)
theorem bleF (n : Nat) : Nat.ble n n = true := by simp
theorem pure_rowFd (T : Nat) (ps : List Fd) : (rowFd T ps).pure := pureEls_ra (enc := fdC) (fun x => ⟨pureEls_bytes _, trivial, trivial, trivial⟩) ps
theorem pure_rowCl (T : Nat) (ps : List Cl) : (rowCl T ps).pure := pureEls_ra (enc := clC) (fun x => ⟨trivial, trivial, pureEls_bytes _, trivial⟩) ps
theorem c_szCell (p : Cl) (left : Nat) (hb : p.f.length ≤ 140737488355328) (hl : left ≤ 1048576) : Meets Try.prog 93 [.agg (clC p), .v (.int .i64 left)] (fun r => r = .v (.int .i64 (szR left p.f.length))) := by
  refine Meets.intro mixed (hint []) Try.func93 rfl (by decide) res_93 rty_93 (by kernel_rfl) ?_; 
  simp -dsimp -implicitDefEqProofs only [go_sem, Nat.reduceBEq, Nat.reduceAdd, Nat.reduceLeDiff, Nat.reduceSub, Int.reduceEq, clC]
  repeat with_reducible refine ask.of (by omega) ?_
  refine CallE.of (c_szByteS p.f left hb hl) (by rintro r rfl; (repeat' first | exact trivial | exact pure_rowB _ | exact pure_rowO _ | exact pure_rowI _ | exact pure_rowBB _ | exact pure_rowPk _ _ | exact pure_rowSn _ _ | exact pure_rowFd _ _ | exact pure_rowBBB _ | exact pure_rowCl _ _ | exact pure_rowTb _ _ _ | refine And.intro ?_ ?_)) (by simp -dsimp -implicitDefEqProofs only [go_sem, Nat.reduceBEq, Nat.reduceAdd, Nat.reduceLeDiff, Nat.reduceSub, Int.reduceEq]) ?_
  rintro r rfl
  simp -dsimp -implicitDefEqProofs only [go_sem, Nat.reduceBEq, Nat.reduceAdd, Nat.reduceLeDiff, Nat.reduceSub, Int.reduceEq]
  refine ifB'.of (fun h => ?_) (fun h => ?_)
  · simp -dsimp -implicitDefEqProofs only [go_sem, Nat.reduceBEq, Nat.reduceAdd, Nat.reduceLeDiff, Nat.reduceSub, Int.reduceEq]
    by_cases h2 : p.f.length ≤ left
    · rw [szR_ok h2] at h; omega
    · rw [szR_no h2]
  · simp -dsimp -implicitDefEqProofs only [go_sem, Nat.reduceBEq, Nat.reduceAdd, Nat.reduceLeDiff, Nat.reduceSub, Int.reduceEq]
theorem c_toCell (p : Cl) (hb : p.f.length ≤ 1048576) : Meets Try.prog 100 [.agg (clC p)] (fun r => r = .agg (clC p)) := by
  refine Meets.intro mixed (hint []) Try.func100 rfl (by decide) res_100 rty_100 (by kernel_rfl) ?_; 
  simp -dsimp -implicitDefEqProofs only [go_sem, Nat.reduceBEq, Nat.reduceAdd, Nat.reduceLeDiff, Nat.reduceSub, Int.reduceEq, clC]
  repeat (first | with_reducible refine ask.of (by omega) ?_ | simp -dsimp -implicitDefEqProofs only [go_sem, Nat.reduceBEq, Nat.reduceAdd, Nat.reduceLeDiff, Nat.reduceSub, Int.reduceEq, bleF])
  refine CallE.of (c_toByteS p.f hb) (by rintro r rfl; (repeat' first | exact trivial | exact pure_rowB _ | exact pure_rowO _ | exact pure_rowI _ | exact pure_rowBB _ | exact pure_rowPk _ _ | exact pure_rowSn _ _ | exact pure_rowFd _ _ | exact pure_rowBBB _ | exact pure_rowCl _ _ | exact pure_rowTb _ _ _ | refine And.intro ?_ ?_)) (by simp -dsimp -implicitDefEqProofs only [go_sem, Nat.reduceBEq, Nat.reduceAdd, Nat.reduceLeDiff, Nat.reduceSub, Int.reduceEq]) ?_
  rintro r rfl
  simp -dsimp -implicitDefEqProofs only [go_sem, Nat.reduceBEq, Nat.reduceAdd, Nat.reduceLeDiff, Nat.reduceSub, Int.reduceEq]
  repeat (first | with_reducible refine ask.of (by omega) ?_ | simp -dsimp -implicitDefEqProofs only [go_sem, Nat.reduceBEq, Nat.reduceAdd, Nat.reduceLeDiff, Nat.reduceSub, Int.reduceEq, bleF])
theorem c_eqCell (p : Cl) (hb : p.f.length ≤ 1048576) : Meets Try.prog 109 [.agg (clC p), .agg (clC p)] (fun r => r = .v (.bool true)) := by
  refine Meets.intro mixed (hint []) Try.func109 rfl (by decide) res_109 rty_109 (by kernel_rfl) ?_; 
  simp -dsimp -implicitDefEqProofs only [go_sem, Nat.reduceBEq, Nat.reduceAdd, Nat.reduceLeDiff, Nat.reduceSub, Int.reduceEq, clC, decide_true]
  repeat (first | with_reducible refine ask.of (by omega) ?_ | simp -dsimp -implicitDefEqProofs only [go_sem, Nat.reduceBEq, Nat.reduceAdd, Nat.reduceLeDiff, Nat.reduceSub, Int.reduceEq, bleF, decide_true])
  refine CallE.of (c_eqByteS p.f (by omega)) (by rintro r rfl; (repeat' first | exact trivial | exact pure_rowB _ | exact pure_rowO _ | exact pure_rowI _ | exact pure_rowBB _ | exact pure_rowPk _ _ | exact pure_rowSn _ _ | exact pure_rowFd _ _ | exact pure_rowBBB _ | exact pure_rowCl _ _ | exact pure_rowTb _ _ _ | refine And.intro ?_ ?_)) (by simp -dsimp -implicitDefEqProofs only [go_sem, Nat.reduceBEq, Nat.reduceAdd, Nat.reduceLeDiff, Nat.reduceSub, Int.reduceEq, Bool.not_true, decide_true]) ?_
  rintro r rfl
  simp -dsimp -implicitDefEqProofs only [go_sem, Nat.reduceBEq, Nat.reduceAdd, Nat.reduceLeDiff, Nat.reduceSub, Int.reduceEq, Bool.not_true, decide_true]
  repeat (first | with_reducible refine ask.of (by omega) ?_ | trivial)
theorem Cl_at {xs : List Cl} {i : Nat} (h : i < xs.length) : (ra clC xs)[i]? = some (clC xs[i]) := ra_at h
theorem mem_clW {xs : List Cl} {b : Cl} (h : b ∈ xs) : b.f.length ≤ szL clW xs := by
  obtain ⟨i, hi, rfl⟩ := List.mem_iff_getElem.1 h
  have := szL_at_le clW hi
  have : clW xs[i] = xs[i].f.length := rfl
  omega
theorem c_szCellS (xs : List Cl) (left : Nat) (hl : left ≤ 1048576) (hx : xs.length ≤ 140737488355328) (hb : ∀ b ∈ xs, b.f.length ≤ 140737488355328) : Meets Try.prog 23 [rowCl 145 xs, .v (.int .i64 left)] (fun r => r = .v (.int .i64 (szR left (xs.length + szL clW xs)))) := by
  refine Meets.intro mixed (hint []) Try.func23 rfl (by decide) res_23 rty_23 (by kernel_rfl) ?_; 
  have e : IntKind.i64.wrap ((left : Int) - xs.length) = (left : Int) - xs.length := wrap_i64_of (by omega) (by omega)
  simp -dsimp -implicitDefEqProofs only [go_sem, Nat.reduceBEq, Nat.reduceAdd, Nat.reduceLeDiff, Nat.reduceSub, Int.reduceEq, e, rowCl]
  refine ifB'.of (fun h => ?_) (fun h => ?_)
  · simp -dsimp -implicitDefEqProofs only [go_sem, Nat.reduceBEq, Nat.reduceAdd, Nat.reduceLeDiff, Nat.reduceSub, Int.reduceEq]
    rw [szR_no (by omega)]
  simp -dsimp -implicitDefEqProofs only [go_sem, Nat.reduceBEq, Nat.reduceAdd, Nat.reduceLeDiff, Nat.reduceSub, Int.reduceEq, e]
  refine LoopE.cnt xs.length (fun i s => s.env 0 = .rd .ent 145 3 (ra clC xs) ∧ s.env 5 = .v (.int .i64 i) ∧ xs.length + szL clW (xs.take i) ≤ left ∧ s.env 1 = .v (.int .i64 ((left - (xs.length + szL clW (xs.take i)) : Nat) : Int))) ⟨by simp -dsimp -implicitDefEqProofs only [go_sem, Nat.reduceBEq, Nat.reduceAdd, Nat.reduceLeDiff, Nat.reduceSub, Int.reduceEq, initE, rowCl], by simp -dsimp -implicitDefEqProofs only [go_sem, Nat.reduceBEq, Nat.reduceAdd, Nat.reduceLeDiff, Nat.reduceSub, Int.reduceEq] <;> simp, by simp [szL]; omega, by simp -dsimp -implicitDefEqProofs only [go_sem, Nat.reduceBEq, Nat.reduceAdd, Nat.reduceLeDiff, Nat.reduceSub, Int.reduceEq] <;> (simp [szL]; omega)⟩ ?_
  rintro i ⟨e, σ⟩ hi ⟨h0, h5, hle, h1⟩ K hK
  simp only at h0 h5 h1
  simp -dsimp -implicitDefEqProofs only [go_sem, Nat.reduceBEq, Nat.reduceAdd, Nat.reduceLeDiff, Nat.reduceSub, Int.reduceEq, h0, h5, h1]
  refine ifB'.of (fun hlt => ?_) (fun hlt => ?_)
  · have hlt : i < xs.length := by omega
    have hs := szL_take_succ clW hlt
    have hw := szL_take_le clW xs (i + 1)
    have hww : clW xs[i] = xs[i].f.length := rfl
    simp -dsimp -implicitDefEqProofs only [go_sem, Nat.reduceBEq, Nat.reduceAdd, Nat.reduceLeDiff, Nat.reduceSub, Int.reduceEq, h0, h5, h1, Cl_at hlt, clC]
    repeat with_reducible refine ask.of (by omega) ?_
    simp -dsimp -implicitDefEqProofs only [go_sem, Nat.reduceBEq, Nat.reduceAdd, Nat.reduceLeDiff, Nat.reduceSub, Int.reduceEq, h0, h5, h1, Cl_at hlt, clC, bleF]
    refine CallE.of (c_szCell xs[i] (left - (xs.length + szL clW (xs.take i))) (hb _ (List.getElem_mem _)) (by omega)) (by rintro r rfl; (repeat' first | exact trivial | exact pure_rowB _ | exact pure_rowO _ | exact pure_rowI _ | exact pure_rowBB _ | exact pure_rowPk _ _ | exact pure_rowSn _ _ | exact pure_rowFd _ _ | exact pure_rowBBB _ | exact pure_rowCl _ _ | exact pure_rowTb _ _ _ | refine And.intro ?_ ?_)) (by simp -dsimp -implicitDefEqProofs only [go_sem, Nat.reduceBEq, Nat.reduceAdd, Nat.reduceLeDiff, Nat.reduceSub, Int.reduceEq, h0, h5, h1, clC]) ?_
    rintro r rfl
    simp -dsimp -implicitDefEqProofs only [go_sem, Nat.reduceBEq, Nat.reduceAdd, Nat.reduceLeDiff, Nat.reduceSub, Int.reduceEq, h0, h5, h1, clC]
    refine ifB'.of (fun hn => ?_) (fun hn => ?_)
    · have : ¬ xs[i].f.length ≤ left - (xs.length + szL clW (xs.take i)) := fun h => by rw [szR_ok h] at hn; omega
      simp -dsimp -implicitDefEqProofs only [go_sem, Nat.reduceBEq, Nat.reduceAdd, Nat.reduceLeDiff, Nat.reduceSub, Int.reduceEq, h0, h5, h1]
      rw [szR_no (by omega)]
    · have h : xs[i].f.length ≤ left - (xs.length + szL clW (xs.take i)) := Classical.byContradiction fun h => by rw [szR_no h] at hn; omega
      simp -dsimp -implicitDefEqProofs only [go_sem, Nat.reduceBEq, Nat.reduceAdd, Nat.reduceLeDiff, Nat.reduceSub, Int.reduceEq, h0, h5, h1]
      refine hK _ hlt ?_
      simp -dsimp -implicitDefEqProofs only [go_sem, Nat.reduceBEq, Nat.reduceAdd, Nat.reduceLeDiff, Nat.reduceSub, Int.reduceEq, h0, h5, h1, wrap_succ (show i < 4611686018427387904 by omega), szR_ok h, hs]
      exact ⟨by omega, by omega⟩
  · have : i = xs.length := by omega
    subst this
    simp -dsimp -implicitDefEqProofs only [go_sem, Nat.reduceBEq, Nat.reduceAdd, Nat.reduceLeDiff, Nat.reduceSub, Int.reduceEq, h0, h5, h1]
    rw [List.take_length] at hle ⊢
    rw [szR_ok (by omega)]
theorem Cl_set (xs : List Cl) (i : Nat) (x : Cl) : (ra clC xs).set i (clC x) = ra clC (xs.set i x) := ra_set xs i x
theorem c_toCellS (xs : List Cl) (hx : xs.length ≤ 1048576) (hb : ∀ b ∈ xs, b.f.length ≤ 1048576) : Meets Try.prog 26 [rowCl 145 xs] (fun r => r = rowCl 151 xs) := by
  refine Meets.intro mixed (hint []) Try.func26 rfl (by decide) res_26 rty_26 (by kernel_rfl) ?_; 
  simp -dsimp -implicitDefEqProofs only [go_sem, Nat.reduceBEq, Nat.reduceAdd, Nat.reduceLeDiff, Nat.reduceSub, Int.reduceEq, rowCl]
  refine ask.of (by omega) ?_
  refine LoopE.cnt xs.length (fun i s => s.env 0 = .rd .ent 145 3 (ra clC xs) ∧ s.env 3 = .ref [7] ∧ s.env 4 = .v (.int .i64 i) ∧ s.σ [7] = some (.row 151 3 (ra clC (xs.take i ++ List.replicate (xs.length - i) cl0)))) ⟨by simp -dsimp -implicitDefEqProofs only [go_sem, Nat.reduceBEq, Nat.reduceAdd, Nat.reduceLeDiff, Nat.reduceSub, Int.reduceEq, initE, rowCl], by simp -dsimp -implicitDefEqProofs only [go_sem, Nat.reduceBEq, Nat.reduceAdd, Nat.reduceLeDiff, Nat.reduceSub, Int.reduceEq], by simp -dsimp -implicitDefEqProofs only [go_sem, Nat.reduceBEq, Nat.reduceAdd, Nat.reduceLeDiff, Nat.reduceSub, Int.reduceEq] <;> simp, by simp -dsimp -implicitDefEqProofs only [go_sem, Nat.reduceBEq, Nat.reduceAdd, Nat.reduceLeDiff, Nat.reduceSub, Int.reduceEq] <;> simp [ra, clC, cl0, bytesA]⟩ ?_
  rintro i ⟨e, σ⟩ hi ⟨h0, h3, h4, hs⟩ K hK
  simp only at h0 h3 h4 hs
  simp -dsimp -implicitDefEqProofs only [go_sem, Nat.reduceBEq, Nat.reduceAdd, Nat.reduceLeDiff, Nat.reduceSub, Int.reduceEq, h0, h3, h4, hs]
  refine ifB'.of (fun hlt => ?_) (fun hlt => ?_)
  · have hlt : i < xs.length := by omega
    have hl : (List.take i xs ++ List.replicate (xs.length - i) cl0).length = xs.length := by simp; omega
    simp -dsimp -implicitDefEqProofs only [go_sem, Nat.reduceBEq, Nat.reduceAdd, Nat.reduceLeDiff, Nat.reduceSub, Int.reduceEq, h0, h3, h4, hs, Cl_at hlt, clC]
    repeat with_reducible refine ask.of (by omega) ?_
    simp -dsimp -implicitDefEqProofs only [go_sem, Nat.reduceBEq, Nat.reduceAdd, Nat.reduceLeDiff, Nat.reduceSub, Int.reduceEq, h0, h3, h4, hs, Cl_at hlt, clC, bleF]
    refine CallE.of (c_toCell xs[i] (hb _ (List.getElem_mem _))) (by rintro r rfl; (repeat' first | exact trivial | exact pure_rowB _ | exact pure_rowO _ | exact pure_rowI _ | exact pure_rowBB _ | exact pure_rowPk _ _ | exact pure_rowSn _ _ | exact pure_rowFd _ _ | exact pure_rowBBB _ | exact pure_rowCl _ _ | exact pure_rowTb _ _ _ | refine And.intro ?_ ?_)) (by simp -dsimp -implicitDefEqProofs only [go_sem, Nat.reduceBEq, Nat.reduceAdd, Nat.reduceLeDiff, Nat.reduceSub, Int.reduceEq, h0, h3, h4, hs, clC]) ?_
    rintro r rfl
    simp -dsimp -implicitDefEqProofs only [go_sem, Nat.reduceBEq, Nat.reduceAdd, Nat.reduceLeDiff, Nat.reduceSub, Int.reduceEq, h0, h3, h4, hs, clC]
    simp -dsimp -implicitDefEqProofs only [go_sem, Nat.reduceBEq, Nat.reduceAdd, Nat.reduceLeDiff, Nat.reduceSub, Int.reduceEq, h0, h3, h4, hs, hl]
    repeat with_reducible refine ask.of (by omega) ?_
    simp -dsimp -implicitDefEqProofs only [go_sem, Nat.reduceBEq, Nat.reduceAdd, Nat.reduceLeDiff, Nat.reduceSub, Int.reduceEq, h0, h3, h4, hs, Cl_at (show i < (List.take i xs ++ List.replicate (xs.length - i) cl0).length by omega), clC, bleF]
    refine hK _ hlt ?_
    simp -dsimp -implicitDefEqProofs only [go_sem, Nat.reduceBEq, Nat.reduceAdd, Nat.reduceLeDiff, Nat.reduceSub, Int.reduceEq, h0, h3, h4, hs, wrap_succ (show i < 4611686018427387904 by omega)]
    exact congrArg (fun l => some (OB.row _ 3 l)) ((Cl_set _ i xs[i]).trans (congrArg (ra clC) (fill_set xs cl0 hlt)))
  · have : i = xs.length := by omega
    subst this
    simp -dsimp -implicitDefEqProofs only [go_sem, Nat.reduceBEq, Nat.reduceAdd, Nat.reduceLeDiff, Nat.reduceSub, Int.reduceEq, h0, h3, h4, hs, rowCl]
    simp
theorem c_eqCellS (xs : List Cl) (hx : xs.length ≤ 1048576) (hb : ∀ b ∈ xs, b.f.length ≤ 1048576) : Meets Try.prog 30 [rowCl 151 xs, rowCl 151 xs] (fun r => r = .v (.bool true)) := by
  refine Meets.intro mixed (hint []) Try.func30 rfl (by decide) res_30 rty_30 (by kernel_rfl) ?_; 
  simp -dsimp -implicitDefEqProofs only [go_sem, Nat.reduceBEq, Nat.reduceAdd, Nat.reduceLeDiff, Nat.reduceSub, Int.reduceEq, decide_true, Bool.not_true, rowCl]
  refine LoopE.cnt xs.length (fun i s => s.env 0 = .rd .ent 151 3 (ra clC xs) ∧ s.env 1 = .rd .ent 151 3 (ra clC xs) ∧ s.env 5 = .v (.int .i64 i)) ⟨by simp -dsimp -implicitDefEqProofs only [go_sem, Nat.reduceBEq, Nat.reduceAdd, Nat.reduceLeDiff, Nat.reduceSub, Int.reduceEq, initE, rowCl], by simp -dsimp -implicitDefEqProofs only [go_sem, Nat.reduceBEq, Nat.reduceAdd, Nat.reduceLeDiff, Nat.reduceSub, Int.reduceEq, initE, rowCl], by simp -dsimp -implicitDefEqProofs only [go_sem, Nat.reduceBEq, Nat.reduceAdd, Nat.reduceLeDiff, Nat.reduceSub, Int.reduceEq] <;> simp⟩ ?_
  rintro i ⟨e, σ⟩ hi ⟨h0, h1, h5⟩ K hK
  simp only at h0 h1 h5
  simp -dsimp -implicitDefEqProofs only [go_sem, Nat.reduceBEq, Nat.reduceAdd, Nat.reduceLeDiff, Nat.reduceSub, Int.reduceEq, h0, h1, h5]
  refine ifB'.of (fun hlt => ?_) (fun hlt => ?_)
  · have hlt : i < xs.length := by omega
    simp -dsimp -implicitDefEqProofs only [go_sem, Nat.reduceBEq, Nat.reduceAdd, Nat.reduceLeDiff, Nat.reduceSub, Int.reduceEq, h0, h1, h5, Cl_at hlt, clC]
    repeat (first | with_reducible refine ask.of (by omega) ?_ | simp -dsimp -implicitDefEqProofs only [go_sem, Nat.reduceBEq, Nat.reduceAdd, Nat.reduceLeDiff, Nat.reduceSub, Int.reduceEq, h0, h1, h5, Cl_at hlt, clC, bleF])
    refine CallE.of (c_eqCell xs[i] (hb _ (List.getElem_mem _))) (by rintro r rfl; (repeat' first | exact trivial | exact pure_rowB _ | exact pure_rowO _ | exact pure_rowI _ | exact pure_rowBB _ | exact pure_rowPk _ _ | exact pure_rowSn _ _ | exact pure_rowFd _ _ | exact pure_rowBBB _ | exact pure_rowCl _ _ | exact pure_rowTb _ _ _ | refine And.intro ?_ ?_)) (by simp -dsimp -implicitDefEqProofs only [go_sem, Nat.reduceBEq, Nat.reduceAdd, Nat.reduceLeDiff, Nat.reduceSub, Int.reduceEq, h0, h1, h5, Bool.not_true, clC]) ?_
    rintro r rfl
    simp -dsimp -implicitDefEqProofs only [go_sem, Nat.reduceBEq, Nat.reduceAdd, Nat.reduceLeDiff, Nat.reduceSub, Int.reduceEq, h0, h1, h5, Bool.not_true, clC]
    refine hK _ hlt ?_
    simp -dsimp -implicitDefEqProofs only [go_sem, Nat.reduceBEq, Nat.reduceAdd, Nat.reduceLeDiff, Nat.reduceSub, Int.reduceEq, h0, h1, h5, wrap_succ (show i < 4611686018427387904 by omega)]
  · simp -dsimp -implicitDefEqProofs only [go_sem, Nat.reduceBEq, Nat.reduceAdd, Nat.reduceLeDiff, Nat.reduceSub, Int.reduceEq, h0, h1, h5]
end Go.Ev
set_option linter.unusedSimpArgs false
set_option linter.unusedVariables false
namespace Go.Ev
open Go Go.RowKit Go.Proofs
def mpS (l : List (List UInt8 × Value)) : List (Value × Value) := l.map fun p => (.string ⟨p.1.toArray⟩, p.2)
theorem kEq_str (a b : List UInt8) : kEq (.string ⟨a.toArray⟩) (.string ⟨b.toArray⟩) = decide (a = b) := by
  show ((⟨a.toArray⟩ : ByteArray) == ⟨b.toArray⟩) = _
  by_cases h : a = b
  · rw [decide_eq_true h, h]; exact (MapKept.bytes_beq _ _).2 rfl
  · rw [decide_eq_false h]
    cases h2 : ((⟨a.toArray⟩ : ByteArray) == ⟨b.toArray⟩) with
    | false => rfl
    | true => exact absurd (by simpa using (MapKept.bytes_beq _ _).1 h2) h
theorem mgetS_some (t : List UInt8) : ∀ l : List (List UInt8 × Value), (mget (mpS l) (.string ⟨t.toArray⟩)).isSome = decide (t ∈ l.map (·.1))
  | [] => rfl
  | p :: l => by
    show (sel (kEq (.string ⟨p.1.toArray⟩) (.string ⟨t.toArray⟩)) (some p.2) (mget (mpS l) _)).isSome = _
    rw [kEq_str]
    by_cases h : p.1 = t
    · rw [decide_eq_true h]; simp [sel, h]
    · rw [decide_eq_false h]
      show (mget (mpS l) _).isSome = _
      rw [mgetS_some t l]
      simp [Ne.symm h]
theorem mputS_new (t : List UInt8) (v : Value) : ∀ l : List (List UInt8 × Value), t ∉ l.map (·.1) → mput (mpS l) (.string ⟨t.toArray⟩) v = mpS (l ++ [(t, v)])
  | [], _ => rfl
  | p :: l, h => by
    show sel (kEq (.string ⟨p.1.toArray⟩) (.string ⟨t.toArray⟩)) _ ((.string ⟨p.1.toArray⟩, p.2) :: mput (mpS l) _ v) = _
    have h1 : p.1 ≠ t := fun e => h (by simp [e])
    rw [kEq_str, decide_eq_false h1, mputS_new t v l (fun h2 => h (by simp at h2 ⊢; exact .inr h2))]
    rfl
def ixP (xs : List (List UInt8)) : List (List UInt8 × Value) := xs.zipIdx.map fun p => (p.1, .int .i64 p.2)
theorem ixP_keys (xs : List (List UInt8)) : (ixP xs).map (·.1) = xs := by
  rw [ixP, List.map_map]
  exact List.zipIdx_map_fst 0 xs
theorem ixP_snoc (xs : List (List UInt8)) (t : List UInt8) : ixP xs ++ [(t, .int .i64 (xs.length : Int))] = ixP (xs ++ [t]) := by
  simp [ixP, List.zipIdx_append]
theorem ixP_has (xs : List (List UInt8)) (t : List UInt8) : (mget (mpS (ixP xs)) (.string ⟨t.toArray⟩)).isSome = decide (t ∈ xs) := by rw [mgetS_some, ixP_keys]
theorem ixP_put {xs : List (List UInt8)} {t : List UInt8} (h : t ∉ xs) : mput (mpS (ixP xs)) (.string ⟨t.toArray⟩) (.int .i64 (xs.length : Int)) = mpS (ixP (xs ++ [t])) := by
  rw [mputS_new _ _ _ (by rw [ixP_keys]; exact h), ixP_snoc]
theorem c_l1same (a b : List UInt8) (ha : a.length ≤ 140737488355328) (hb : b.length ≤ 140737488355328) : Meets Try.prog 174 [rowB a, rowB b] (fun r => r = .v (.bool (decide (a = b)))) := by
  refine Meets.intro mixed (hint []) Try.func174 rfl (by decide) res_174 rty_174 (by kernel_rfl) ?_; 
  simp -dsimp -implicitDefEqProofs only [go_sem, Nat.reduceBEq, Nat.reduceAdd, Nat.reduceLeDiff, Nat.reduceSub, Int.reduceEq, initE]
  exact decide_eq_decide.2 ⟨fun h => by simpa using h, fun h => by rw [h]⟩
def plI (xs : List (List UInt8)) (t : List UInt8) : Int := if t ∈ xs then ((xs.idxOf t : Nat) : Int) else -1
theorem plI_at {xs : List (List UInt8)} {t : List UInt8} {i : Nat} (h : i < xs.length) (he : xs[i] = t) (hn : t ∉ xs.take i) : plI xs t = (i : Int) := by
  have hm : t ∈ xs := by rw [← he]; exact List.getElem_mem _
  rw [plI, if_pos hm]
  congr 1
  have e : xs = xs.take i ++ t :: xs.drop (i + 1) := by rw [← he, ← List.drop_eq_getElem_cons h, List.take_append_drop]
  rw [e, List.idxOf_append, if_neg hn]
  simp
  omega
theorem plI_no {xs : List (List UInt8)} {t : List UInt8} (h : t ∉ xs) : plI xs t = -1 := if_neg h
theorem plI_nonneg (xs : List (List UInt8)) (t : List UInt8) : 0 ≤ plI xs t ↔ t ∈ xs := by
  unfold plI
  split
  · rename_i h; exact ⟨fun _ => h, fun _ => by omega⟩
  · rename_i h; exact ⟨fun h' => by omega, fun h' => absurd h' h⟩
theorem not_mem_take_succ {α : Type} {xs : List α} {t : α} {i : Nat} (h : i < xs.length) (hn : t ∉ xs.take i) (he : xs[i] ≠ t) : t ∉ xs.take (i + 1) := by
  rw [List.take_succ_eq_append_getElem h]
  simp only [List.mem_append, List.mem_singleton, not_or]
  exact ⟨hn, fun e => he e.symm⟩
theorem c_l2place (xs : List (List UInt8)) (t : List UInt8) (hx : xs.length ≤ 1048576) (hb : ∀ b ∈ xs, b.length ≤ 140737488355328) (ht : t.length ≤ 140737488355328) : Meets Try.prog 97 [rowBB xs, rowB t] (fun r => r = .v (.int .i64 (plI xs t))) := by
  refine Meets.intro mixed (hint []) Try.func97 rfl (by decide) res_97 rty_97 (by kernel_rfl) ?_; 
  simp -dsimp -implicitDefEqProofs only [go_sem, Nat.reduceBEq, Nat.reduceAdd, Nat.reduceLeDiff, Nat.reduceSub, Int.reduceEq]
  refine LoopE.cnt xs.length (fun i s => s.env 0 = .rd .ent 25 1 (ra byC xs) ∧ s.env 1 = .rd .ent 5 1 (bytesA t) ∧ s.env 5 = .v (.int .i64 i) ∧ t ∉ xs.take i) ⟨by simp -dsimp -implicitDefEqProofs only [go_sem, Nat.reduceBEq, Nat.reduceAdd, Nat.reduceLeDiff, Nat.reduceSub, Int.reduceEq, initE], by simp -dsimp -implicitDefEqProofs only [go_sem, Nat.reduceBEq, Nat.reduceAdd, Nat.reduceLeDiff, Nat.reduceSub, Int.reduceEq, initE], by simp -dsimp -implicitDefEqProofs only [go_sem, Nat.reduceBEq, Nat.reduceAdd, Nat.reduceLeDiff, Nat.reduceSub, Int.reduceEq], by simp⟩ ?_
  rintro i ⟨e, σ⟩ hi ⟨h0, h1, h5, hn⟩ K hK
  simp only at h0 h1 h5
  simp -dsimp -implicitDefEqProofs only [go_sem, Nat.reduceBEq, Nat.reduceAdd, Nat.reduceLeDiff, Nat.reduceSub, Int.reduceEq, h0, h1, h5]
  refine ifB'.of (fun hlt => ?_) (fun hlt => ?_)
  · have hlt : i < xs.length := by omega
    simp -dsimp -implicitDefEqProofs only [go_sem, Nat.reduceBEq, Nat.reduceAdd, Nat.reduceLeDiff, Nat.reduceSub, Int.reduceEq, h0, h1, h5, byA_at hlt]
    repeat with_reducible refine ask.of (by omega) ?_
    refine CallE.of (c_l1same xs[i] t (hb _ (List.getElem_mem _)) ht) (by rintro r rfl; (repeat' first | exact trivial | exact pure_rowB _ | exact pure_rowO _ | exact pure_rowI _ | exact pure_rowBB _ | exact pure_rowPk _ _ | exact pure_rowSn _ _ | exact pure_rowFd _ _ | exact pure_rowBBB _ | exact pure_rowCl _ _ | exact pure_rowTb _ _ _ | refine And.intro ?_ ?_)) (by simp -dsimp -implicitDefEqProofs only [go_sem, Nat.reduceBEq, Nat.reduceAdd, Nat.reduceLeDiff, Nat.reduceSub, Int.reduceEq, h0, h1, h5]) ?_
    rintro r rfl
    simp -dsimp -implicitDefEqProofs only [go_sem, Nat.reduceBEq, Nat.reduceAdd, Nat.reduceLeDiff, Nat.reduceSub, Int.reduceEq, h0, h1, h5]
    refine ifB'.of (fun hq => ?_) (fun hq => ?_)
    · simp -dsimp -implicitDefEqProofs only [go_sem, Nat.reduceBEq, Nat.reduceAdd, Nat.reduceLeDiff, Nat.reduceSub, Int.reduceEq, h0, h1, h5]
      rw [plI_at hlt hq hn]
    · simp -dsimp -implicitDefEqProofs only [go_sem, Nat.reduceBEq, Nat.reduceAdd, Nat.reduceLeDiff, Nat.reduceSub, Int.reduceEq, h0, h1, h5]
      refine hK _ hlt ?_
      simp -dsimp -implicitDefEqProofs only [go_sem, Nat.reduceBEq, Nat.reduceAdd, Nat.reduceLeDiff, Nat.reduceSub, Int.reduceEq, h0, h1, h5, wrap_succ (show i < 4611686018427387904 by omega)]
      exact not_mem_take_succ hlt hn hq
  · have : i = xs.length := by omega
    subst this
    simp -dsimp -implicitDefEqProofs only [go_sem, Nat.reduceBEq, Nat.reduceAdd, Nat.reduceLeDiff, Nat.reduceSub, Int.reduceEq, h0, h1, h5]
    rw [plI_no (by rwa [List.take_length] at hn)]
def okD (xs : List (List UInt8)) : Prop := xs.length ≤ 40 ∧ wBB xs ≤ 4000 ∧ xs.Nodup
instance (xs : List (List UInt8)) : Decidable (okD xs) := by unfold okD; infer_instance
theorem okD_f {xs : List (List UInt8)} (h : ¬ okD xs) : false = decide (okD xs) := (decide_eq_false h).symm
theorem okD_t {xs : List (List UInt8)} (h : okD xs) : true = decide (okD xs) := (decide_eq_true h).symm
theorem nodup_take {α : Type} {xs : List α} (h : xs.Nodup) (i : Nat) : (xs.take i).Nodup := List.Nodup.sublist (List.take_sublist _ _) h
theorem nodup_take_succ {α : Type} {xs : List α} {i : Nat} (h : i < xs.length) : (xs.take (i + 1)).Nodup ↔ (xs.take i).Nodup ∧ xs[i] ∉ xs.take i := by
  rw [List.take_succ_eq_append_getElem h, List.nodup_append]
  simp
  intro _
  constructor
  · intro h1 h2; exact h1 _ h2 rfl
  · intro h1 a h2 h3; exact h1 (h3 ▸ h2)
theorem c_sValidDict (xs : List (List UInt8)) (hx : xs.length + wBB xs ≤ 1048576) : Meets Try.prog 94 [rowBB xs] (fun r => r = .v (.bool (decide (okD xs)))) := by
  refine Meets.introO mixed (hint []) (fun k => (sel (k == 8) [0,1,2,3,4,5,6,7,8,9,10,11,12] [])) Try.func94 rfl (by decide) res_94 rty_94 (by kernel_rfl) ?_; 
  have hb : ∀ b ∈ xs, b.length ≤ 140737488355328 := fun b hb => by have : b.length ≤ wBB xs := mem_wBB hb; omega
  simp -dsimp -implicitDefEqProofs only [go_sem, Nat.reduceBEq, Nat.reduceAdd, Nat.reduceLeDiff, Nat.reduceSub, Int.reduceEq]
  refine ifB'.of (fun h => ?_) (fun h => ?_)
  · simp -dsimp -implicitDefEqProofs only [go_sem, Nat.reduceBEq, Nat.reduceAdd, Nat.reduceLeDiff, Nat.reduceSub, Int.reduceEq]
    exact okD_f (fun h' => by have := h'.1; omega)
  simp -dsimp -implicitDefEqProofs only [go_sem, Nat.reduceBEq, Nat.reduceAdd, Nat.reduceLeDiff, Nat.reduceSub, Int.reduceEq]
  refine LoopE.cnt xs.length (fun i s => s.env 0 = .rd .ent 25 1 (ra byC xs) ∧ s.env 4 = .v (.int .i64 i) ∧ s.env 3 = .v (.int .i64 (wBB (xs.take i) : Nat)) ∧ wBB (xs.take i) ≤ 4000 ∧ (xs.take i).Nodup) ⟨by simp -dsimp -implicitDefEqProofs only [go_sem, Nat.reduceBEq, Nat.reduceAdd, Nat.reduceLeDiff, Nat.reduceSub, Int.reduceEq, initE], by simp -dsimp -implicitDefEqProofs only [go_sem, Nat.reduceBEq, Nat.reduceAdd, Nat.reduceLeDiff, Nat.reduceSub, Int.reduceEq], by simp -dsimp -implicitDefEqProofs only [go_sem, Nat.reduceBEq, Nat.reduceAdd, Nat.reduceLeDiff, Nat.reduceSub, Int.reduceEq] <;> rfl, by simp [wBB, szL], by simp⟩ ?_
  rintro i ⟨e, σ⟩ hi ⟨h0, h4, h3, hw, hnd⟩ K hK
  simp only at h0 h4 h3
  simp -dsimp -implicitDefEqProofs only [go_sem, Nat.reduceBEq, Nat.reduceAdd, Nat.reduceLeDiff, Nat.reduceSub, Int.reduceEq, h0, h4, h3]
  refine ifB'.of (fun hlt => ?_) (fun hlt => ?_)
  · have hlt : i < xs.length := by omega
    have hs : wBB (xs.take (i + 1)) = wBB (xs.take i) + xs[i].length := szL_take_succ List.length hlt
    have hsl : wBB (xs.take (i + 1)) ≤ wBB xs := szL_take_le List.length xs (i + 1)
    have e1 : IntKind.i64.wrap ((wBB (xs.take i) : Int) + xs[i].length) = (wBB (xs.take (i + 1)) : Nat) := by rw [wrap_i64_of (by omega) (by omega), hs]; omega
    simp -dsimp -implicitDefEqProofs only [go_sem, Nat.reduceBEq, Nat.reduceAdd, Nat.reduceLeDiff, Nat.reduceSub, Int.reduceEq, h0, h4, h3, byA_at hlt]
    repeat with_reducible refine ask.of (by omega) ?_
    simp -dsimp -implicitDefEqProofs only [go_sem, Nat.reduceBEq, Nat.reduceAdd, Nat.reduceLeDiff, Nat.reduceSub, Int.reduceEq, h0, h4, h3, byA_at hlt, e1]
    refine ifB'.of (fun hg => ?_) (fun hg => ?_)
    · simp -dsimp -implicitDefEqProofs only [go_sem, Nat.reduceBEq, Nat.reduceAdd, Nat.reduceLeDiff, Nat.reduceSub, Int.reduceEq, h0, h4, h3]
      exact okD_f (fun h' => by have := h'.2.1; omega)
    · simp -dsimp -implicitDefEqProofs only [go_sem, Nat.reduceBEq, Nat.reduceAdd, Nat.reduceLeDiff, Nat.reduceSub, Int.reduceEq, h0, h4, h3, byA_at hlt, Int.toNat_natCast]
      repeat with_reducible refine ask.of (by omega) ?_
      refine CallE.of (c_l2place (xs.take i) xs[i] (by simp; omega) (fun b h => hb b (List.mem_of_mem_take h)) (hb _ (List.getElem_mem _))) (by rintro r rfl; (repeat' first | exact trivial | exact pure_rowB _ | exact pure_rowO _ | exact pure_rowI _ | exact pure_rowBB _ | exact pure_rowPk _ _ | exact pure_rowSn _ _ | exact pure_rowFd _ _ | exact pure_rowBBB _ | exact pure_rowCl _ _ | exact pure_rowTb _ _ _ | refine And.intro ?_ ?_)) (by simp -dsimp -implicitDefEqProofs only [go_sem, Nat.reduceBEq, Nat.reduceAdd, Nat.reduceLeDiff, Nat.reduceSub, Int.reduceEq, h0, h4, h3, Int.toNat_zero]) ?_
      rintro r rfl
      simp -dsimp -implicitDefEqProofs only [go_sem, Nat.reduceBEq, Nat.reduceAdd, Nat.reduceLeDiff, Nat.reduceSub, Int.reduceEq, h0, h4, h3, Int.toNat_zero]
      refine ifB'.of (fun hq => ?_) (fun hq => ?_)
      · simp -dsimp -implicitDefEqProofs only [go_sem, Nat.reduceBEq, Nat.reduceAdd, Nat.reduceLeDiff, Nat.reduceSub, Int.reduceEq, h0, h4, h3]
        have hq := (plI_nonneg _ _).1 hq
        exact okD_f (fun h' => ((nodup_take_succ hlt).1 (nodup_take h'.2.2 (i + 1))).2 hq)
      · simp -dsimp -implicitDefEqProofs only [go_sem, Nat.reduceBEq, Nat.reduceAdd, Nat.reduceLeDiff, Nat.reduceSub, Int.reduceEq, h0, h4, h3]
        refine hK _ hlt ?_
        simp -dsimp -implicitDefEqProofs only [go_sem, Nat.reduceBEq, Nat.reduceAdd, Nat.reduceLeDiff, Nat.reduceSub, Int.reduceEq, h0, h4, h3, wrap_succ (show i < 4611686018427387904 by omega)]
        exact ⟨by omega, by omega, (nodup_take_succ hlt).2 ⟨hnd, fun h' => hq ((plI_nonneg _ _).2 h')⟩⟩
  · have : i = xs.length := by omega
    subst this
    simp -dsimp -implicitDefEqProofs only [go_sem, Nat.reduceBEq, Nat.reduceAdd, Nat.reduceLeDiff, Nat.reduceSub, Int.reduceEq, h0, h4, h3]
    rw [List.take_length] at hw hnd
    exact okD_t ⟨by omega, hw, hnd⟩
theorem c_iValidDict (xs : List (List UInt8)) (hx : xs.length + wBB xs ≤ 1048576) : Meets Try.prog 101 [rowBB xs] (fun r => r = .v (.bool (decide (okD xs)))) := by
  refine Meets.intro mixed (hint []) Try.func101 rfl (by decide) res_101 rty_101 (by kernel_rfl) ?_; 
  simp -dsimp -implicitDefEqProofs only [go_sem, Nat.reduceBEq, Nat.reduceAdd, Nat.reduceLeDiff, Nat.reduceSub, Int.reduceEq]
  refine ifB'.of (fun h => ?_) (fun h => ?_)
  · simp -dsimp -implicitDefEqProofs only [go_sem, Nat.reduceBEq, Nat.reduceAdd, Nat.reduceLeDiff, Nat.reduceSub, Int.reduceEq]
    exact okD_f (fun h' => by have := h'.1; omega)
  simp -dsimp -implicitDefEqProofs only [go_sem, Nat.reduceBEq, Nat.reduceAdd, Nat.reduceLeDiff, Nat.reduceSub, Int.reduceEq]
  refine LoopE.cnt xs.length (fun i s => s.env 13 = .rd .ent 25 1 (ra byC xs) ∧ s.env 14 = .v (.int .i64 xs.length) ∧ s.env 15 = .v (.int .i64 i) ∧ s.env 3 = .ref [12] ∧ s.env 4 = .v (.int .i64 (wBB (xs.take i) : Nat)) ∧ s.σ [12] = some (.mp .string 3 (mpS (ixP (xs.take i)))) ∧ (xs.take i).Nodup) ⟨by simp -dsimp -implicitDefEqProofs only [go_sem, Nat.reduceBEq, Nat.reduceAdd, Nat.reduceLeDiff, Nat.reduceSub, Int.reduceEq, initE], by simp -dsimp -implicitDefEqProofs only [go_sem, Nat.reduceBEq, Nat.reduceAdd, Nat.reduceLeDiff, Nat.reduceSub, Int.reduceEq, initE], by simp -dsimp -implicitDefEqProofs only [go_sem, Nat.reduceBEq, Nat.reduceAdd, Nat.reduceLeDiff, Nat.reduceSub, Int.reduceEq], by simp -dsimp -implicitDefEqProofs only [go_sem, Nat.reduceBEq, Nat.reduceAdd, Nat.reduceLeDiff, Nat.reduceSub, Int.reduceEq], by simp -dsimp -implicitDefEqProofs only [go_sem, Nat.reduceBEq, Nat.reduceAdd, Nat.reduceLeDiff, Nat.reduceSub, Int.reduceEq] <;> rfl, by simp -dsimp -implicitDefEqProofs only [go_sem, Nat.reduceBEq, Nat.reduceAdd, Nat.reduceLeDiff, Nat.reduceSub, Int.reduceEq] <;> rfl, by simp⟩ ?_
  rintro i ⟨e, σ⟩ hi ⟨h13, h14, h15, h3, h4, hs, hnd⟩ K hK
  simp only at h13 h14 h15 h3 h4 hs
  simp -dsimp -implicitDefEqProofs only [go_sem, Nat.reduceBEq, Nat.reduceAdd, Nat.reduceLeDiff, Nat.reduceSub, Int.reduceEq, h13, h14, h15, h3, h4, hs]
  refine ifB'.of (fun hlt => ?_) (fun hlt => ?_)
  · have hlt : i < xs.length := by omega
    have hw : wBB (xs.take (i + 1)) = wBB (xs.take i) + xs[i].length := szL_take_succ List.length hlt
    have hsl : wBB (xs.take (i + 1)) ≤ wBB xs := szL_take_le List.length xs (i + 1)
    have e1 : IntKind.i64.wrap ((wBB (xs.take i) : Int) + xs[i].length) = (wBB (xs.take (i + 1)) : Nat) := by rw [wrap_i64_of (by omega) (by omega), hw]; omega
    simp -dsimp -implicitDefEqProofs only [go_sem, Nat.reduceBEq, Nat.reduceAdd, Nat.reduceLeDiff, Nat.reduceSub, Int.reduceEq, h13, h14, h15, h3, h4, hs, byA_at hlt]
    repeat with_reducible refine ask.of (by omega) ?_
    simp -dsimp -implicitDefEqProofs only [go_sem, Nat.reduceBEq, Nat.reduceAdd, Nat.reduceLeDiff, Nat.reduceSub, Int.reduceEq, h13, h14, h15, h3, h4, hs, byA_at hlt, ixP_has]
    refine ifB'.of (fun hq => ?_) (fun hq => ?_)
    · simp -dsimp -implicitDefEqProofs only [go_sem, Nat.reduceBEq, Nat.reduceAdd, Nat.reduceLeDiff, Nat.reduceSub, Int.reduceEq, h13, h14, h15, h3, h4, hs]
      exact okD_f (fun h' => ((nodup_take_succ hlt).1 (nodup_take h'.2.2 (i + 1))).2 hq)
    · have hp := ixP_put hq
      rw [show (xs.take i).length = i by simp; omega, ← take_succ hlt] at hp
      simp -dsimp -implicitDefEqProofs only [go_sem, Nat.reduceBEq, Nat.reduceAdd, Nat.reduceLeDiff, Nat.reduceSub, Int.reduceEq, h13, h14, h15, h3, h4, hs, e1, hp]
      refine hK _ hlt ?_
      simp -dsimp -implicitDefEqProofs only [go_sem, Nat.reduceBEq, Nat.reduceAdd, Nat.reduceLeDiff, Nat.reduceSub, Int.reduceEq, h13, h14, h15, h3, h4, hs, wrap_succ (show i < 4611686018427387904 by omega)]
      exact (nodup_take_succ hlt).2 ⟨hnd, hq⟩
  · have : i = xs.length := by omega
    subst this
    simp -dsimp -implicitDefEqProofs only [go_sem, Nat.reduceBEq, Nat.reduceAdd, Nat.reduceLeDiff, Nat.reduceSub, Int.reduceEq, h13, h14, h15, h3, h4, hs]
    rw [List.take_length] at hnd ⊢
    exact decide_eq_decide.2 ⟨fun h' => ⟨by omega, by omega, hnd⟩, fun h' => by have := h'.2.1; omega⟩
end Go.Ev
set_option linter.unusedSimpArgs false
set_option linter.unusedVariables false
namespace Go.Ev
open Go Go.RowKit Go.Proofs
def h8 (x0 x1 x2 x3 x4 x5 x6 x7 : Bool) : Nat := (((((((0 * 2 + x7.toNat) * 2 + x6.toNat) * 2 + x5.toNat) * 2 + x4.toNat) * 2 + x3.toNat) * 2 + x2.toNat) * 2 + x1.toNat) * 2 + x0.toNat
end Go.Ev
set_option linter.unusedSimpArgs false
set_option linter.unusedVariables false
namespace Go.Ev
open Go Go.RowKit Go.Proofs
theorem c_bytesEqual (a b : List UInt8) (ha : a.length ≤ 140737488355328) (hb : b.length ≤ 140737488355328) : Meets Try.prog 105 [rowB a, rowB b] (fun r => r = .v (.bool (decide (a = b)))) := by
  refine Meets.intro mixed (hint []) Try.func105 rfl (by decide) res_105 rty_105 (by kernel_rfl) ?_; 
  simp -dsimp -implicitDefEqProofs only [go_sem, Nat.reduceBEq, Nat.reduceAdd, Nat.reduceLeDiff, Nat.reduceSub, Int.reduceEq, initE]
  exact decide_eq_decide.2 ⟨fun h => by simpa using h, fun h => by rw [h]⟩
end Go.Ev
set_option linter.unusedSimpArgs false
set_option linter.unusedVariables false
namespace Go.Ev
open Go Go.RowKit Go.Proofs
def isW (n : Int) : Bool := decide (n = 1 ∨ n = 2 ∨ n = 4 ∨ n = 8)
theorem c_l1width (n : Int) : Meets Try.prog 184 [.v (.int .i64 n)] (fun r => r = .v (.bool (isW n))) := by
  refine Meets.intro mixed (hint []) Try.func184 rfl (by decide) res_184 rty_184 (by kernel_rfl) ?_; 
  by_cases h1 : n = 1
  · simp -dsimp -implicitDefEqProofs only [go_sem, Nat.reduceBEq, Nat.reduceAdd, Nat.reduceLeDiff, Nat.reduceSub, Int.reduceEq, initE, h1, decide_true, decide_false, show isW 1 = true from rfl]
  by_cases h2 : n = 2
  · simp -dsimp -implicitDefEqProofs only [go_sem, Nat.reduceBEq, Nat.reduceAdd, Nat.reduceLeDiff, Nat.reduceSub, Int.reduceEq, initE, h1, h2, decide_true, decide_false, show isW 2 = true from rfl, show ¬ (2 : Int) = 1 by decide]
  by_cases h4 : n = 4
  · simp -dsimp -implicitDefEqProofs only [go_sem, Nat.reduceBEq, Nat.reduceAdd, Nat.reduceLeDiff, Nat.reduceSub, Int.reduceEq, initE, h1, h2, h4, decide_true, decide_false, show isW 4 = true from rfl, show ¬ (4 : Int) = 1 by decide, show ¬ (4 : Int) = 2 by decide]
  by_cases h8 : n = 8
  · simp -dsimp -implicitDefEqProofs only [go_sem, Nat.reduceBEq, Nat.reduceAdd, Nat.reduceLeDiff, Nat.reduceSub, Int.reduceEq, initE, h1, h2, h4, h8, decide_true, decide_false, show isW 8 = true from rfl, show ¬ (8 : Int) = 1 by decide, show ¬ (8 : Int) = 2 by decide, show ¬ (8 : Int) = 4 by decide]
  have e : isW n = false := by simp [isW, h1, h2, h4, h8]
  simp -dsimp -implicitDefEqProofs only [go_sem, Nat.reduceBEq, Nat.reduceAdd, Nat.reduceLeDiff, Nat.reduceSub, Int.reduceEq, initE, h1, h2, h4, h8, e, decide_true, decide_false]
end Go.Ev
set_option linter.unusedSimpArgs false
set_option linter.unusedVariables false
namespace Go.Ev
open Go Go.RowKit Go.Proofs
def chOk (c : UInt8) : Prop := (97 ≤ c.toNat ∧ c.toNat ≤ 122) ∨ (65 ≤ c.toNat ∧ c.toNat ≤ 90) ∨ (48 ≤ c.toNat ∧ c.toNat ≤ 57) ∨ c.toNat = 95
instance (c : UInt8) : Decidable (chOk c) := by unfold chOk; infer_instance
def nmOk (b : List UInt8) : Prop := 1 ≤ b.length ∧ b.length ≤ 20 ∧ ∀ c ∈ b, chOk c
instance (b : List UInt8) : Decidable (nmOk b) := by unfold nmOk; infer_instance
theorem nm_len {b : List UInt8} (h : ¬ (1 ≤ b.length ∧ b.length ≤ 20)) : false = decide (nmOk b) := (decide_eq_false (fun h' => h ⟨h'.1, h'.2.1⟩)).symm
theorem nm_ch {b : List UInt8} {i : Nat} (hi : i < b.length) (h : ¬ chOk b[i]) : false = decide (nmOk b) := (decide_eq_false (fun h' => h (h'.2.2 _ (List.getElem_mem _)))).symm
theorem all_take_succ {α : Type} {q : α → Prop} {xs : List α} {i : Nat} (h : i < xs.length) (ha : ∀ c ∈ xs.take i, q c) (hc : q xs[i]) : ∀ c ∈ xs.take (i + 1), q c := by
  rw [List.take_succ_eq_append_getElem h]
  intro c hm
  rcases List.mem_append.1 hm with hm | hm
  · exact ha c hm
  · rw [List.mem_singleton.1 hm]; exact hc
set_option maxRecDepth 4000 in
theorem c_l2nameOK (b : List UInt8) (hb : b.length ≤ 140737488355328) : Meets Try.prog 203 [rowB b] (fun r => r = .v (.bool (decide (nmOk b)))) := by
  refine Meets.intro mixed (hint []) Try.func203 rfl (by decide) res_203 rty_203 (by kernel_rfl) ?_; 
  simp -dsimp -implicitDefEqProofs only [go_sem, Nat.reduceBEq, Nat.reduceAdd, Nat.reduceLeDiff, Nat.reduceSub, Int.reduceEq]
  refine ifB'.of (fun h => ?_) (fun h => ?_)
  · simp -dsimp -implicitDefEqProofs only [go_sem, Nat.reduceBEq, Nat.reduceAdd, Nat.reduceLeDiff, Nat.reduceSub, Int.reduceEq]
    exact nm_len (by omega)
  simp -dsimp -implicitDefEqProofs only [go_sem, Nat.reduceBEq, Nat.reduceAdd, Nat.reduceLeDiff, Nat.reduceSub, Int.reduceEq]
  refine ifB'.of (fun h2 => ?_) (fun h2 => ?_)
  · simp -dsimp -implicitDefEqProofs only [go_sem, Nat.reduceBEq, Nat.reduceAdd, Nat.reduceLeDiff, Nat.reduceSub, Int.reduceEq]
    exact nm_len (by omega)
  simp -dsimp -implicitDefEqProofs only [go_sem, Nat.reduceBEq, Nat.reduceAdd, Nat.reduceLeDiff, Nat.reduceSub, Int.reduceEq]
  refine LoopE.cnt b.length (fun i s => s.env 0 = .rd .ent 5 1 (bytesA b) ∧ s.env 3 = .v (.int .i64 i) ∧ ∀ c ∈ b.take i, chOk c) ⟨by simp -dsimp -implicitDefEqProofs only [go_sem, Nat.reduceBEq, Nat.reduceAdd, Nat.reduceLeDiff, Nat.reduceSub, Int.reduceEq, initE], by simp -dsimp -implicitDefEqProofs only [go_sem, Nat.reduceBEq, Nat.reduceAdd, Nat.reduceLeDiff, Nat.reduceSub, Int.reduceEq], by simp⟩ ?_
  rintro i ⟨e, σ⟩ hi ⟨h0, h3, ha⟩ K hK
  simp only at h0 h3
  simp -dsimp -implicitDefEqProofs only [go_sem, Nat.reduceBEq, Nat.reduceAdd, Nat.reduceLeDiff, Nat.reduceSub, Int.reduceEq, h0, h3]
  refine ifB'.of (fun hlt => ?_) (fun hlt => ?_)
  · have hlt : i < b.length := by omega
    simp -dsimp -implicitDefEqProofs only [go_sem, Nat.reduceBEq, Nat.reduceAdd, Nat.reduceLeDiff, Nat.reduceSub, Int.reduceEq, h0, h3, bytesA_at hlt]
    repeat' (first | with_reducible refine ifB'.of (fun h => ?_) (fun h => ?_) | with_reducible refine ask.of (by omega) ?_ | ((with_reducible refine nm_ch hlt ?_); unfold chOk; omega) | simp -dsimp -implicitDefEqProofs only [go_sem, Nat.reduceBEq, Nat.reduceAdd, Nat.reduceLeDiff, Nat.reduceSub, Int.reduceEq, h0, h3, Bool.not_true, Bool.not_false])
    all_goals (refine hK _ hlt ?_; simp -dsimp -implicitDefEqProofs only [go_sem, Nat.reduceBEq, Nat.reduceAdd, Nat.reduceLeDiff, Nat.reduceSub, Int.reduceEq, h0, h3, wrap_succ (show i < 4611686018427387904 by omega)]; exact all_take_succ hlt ha (by unfold chOk; omega))
  · have : i = b.length := by omega
    subst this
    simp -dsimp -implicitDefEqProofs only [go_sem, Nat.reduceBEq, Nat.reduceAdd, Nat.reduceLeDiff, Nat.reduceSub, Int.reduceEq, h0, h3]
    rw [List.take_length] at ha
    exact (decide_eq_true (show nmOk b from ⟨by omega, by omega, ha⟩)).symm
def fdOk (x : Fd) : Prop := nmOk x.f ∧ ((x.k = 1 ∧ (x.w = 1 ∨ x.w = 2 ∨ x.w = 4 ∨ x.w = 8)) ∨ ((x.k = 0 ∨ x.k = 2 ∨ x.k = 3) ∧ x.w = 0))
instance (x : Fd) : Decidable (fdOk x) := by unfold fdOk; infer_instance
theorem fd_f {x : Fd} (h : ¬ fdOk x) : false = decide (fdOk x) := by rw [decide_eq_false h]
theorem fd_t {x : Fd} (h : fdOk x) : true = decide (fdOk x) := by rw [decide_eq_true h]
theorem fd_d {x : Fd} {q : Prop} [Decidable q] (h : q ↔ fdOk x) : decide q = decide (fdOk x) := by rw [decide_eq_decide.2 h]
theorem isW_iff (n : Int) : isW n = decide (n = 1 ∨ n = 2 ∨ n = 4 ∨ n = 8) := by
  unfold isW
  simp only [Bool.decide_or, Bool.or_assoc]
theorem c_l2fieldOK (x : Fd) (hb : x.f.length ≤ 1048576) : Meets Try.prog 172 [.agg (fdC x)] (fun r => r = .v (.bool (decide (fdOk x)))) := by
  refine Meets.intro mixed (hint []) Try.func172 rfl (by decide) res_172 rty_172 (by kernel_rfl) ?_; 
  simp -dsimp -implicitDefEqProofs only [go_sem, Nat.reduceBEq, Nat.reduceAdd, Nat.reduceLeDiff, Nat.reduceSub, Int.reduceEq, fdC]
  repeat (first | with_reducible refine ask.of (by omega) ?_ | simp -dsimp -implicitDefEqProofs only [go_sem, Nat.reduceBEq, Nat.reduceAdd, Nat.reduceLeDiff, Nat.reduceSub, Int.reduceEq, bleF])
  refine CallE.of (c_l2nameOK x.f (by omega)) (by rintro r rfl; (repeat' first | exact trivial | exact pure_rowB _ | exact pure_rowO _ | exact pure_rowI _ | exact pure_rowBB _ | exact pure_rowPk _ _ | exact pure_rowSn _ _ | exact pure_rowFd _ _ | exact pure_rowBBB _ | exact pure_rowCl _ _ | exact pure_rowTb _ _ _ | refine And.intro ?_ ?_)) (by simp -dsimp -implicitDefEqProofs only [go_sem, Nat.reduceBEq, Nat.reduceAdd, Nat.reduceLeDiff, Nat.reduceSub, Int.reduceEq]) ?_
  rintro r rfl
  simp -dsimp -implicitDefEqProofs only [go_sem, Nat.reduceBEq, Nat.reduceAdd, Nat.reduceLeDiff, Nat.reduceSub, Int.reduceEq]
  by_cases hn : nmOk x.f
  · simp -dsimp -implicitDefEqProofs only [go_sem, Nat.reduceBEq, Nat.reduceAdd, Nat.reduceLeDiff, Nat.reduceSub, Int.reduceEq, decide_eq_true hn]
    repeat' (first | with_reducible refine ifB'.of (fun h => ?_) (fun h => ?_) | with_reducible refine ask.of (by omega) ?_ | ((with_reducible refine fd_f ?_); unfold fdOk; simp only [hn, true_and]; omega) | ((with_reducible refine fd_t ?_); unfold fdOk; simp only [hn, true_and]; omega) | ((with_reducible refine fd_d ?_); unfold fdOk; simp only [hn, true_and]; omega) | simp -dsimp -implicitDefEqProofs only [go_sem, Nat.reduceBEq, Nat.reduceAdd, Nat.reduceLeDiff, Nat.reduceSub, Int.reduceEq, decide_true])
    all_goals
      refine CallE.of (c_l1width x.w) (by rintro r rfl; (repeat' first | exact trivial | exact pure_rowB _ | exact pure_rowO _ | exact pure_rowI _ | exact pure_rowBB _ | exact pure_rowPk _ _ | exact pure_rowSn _ _ | exact pure_rowFd _ _ | exact pure_rowBBB _ | exact pure_rowCl _ _ | exact pure_rowTb _ _ _ | refine And.intro ?_ ?_)) (by simp -dsimp -implicitDefEqProofs only [go_sem, Nat.reduceBEq, Nat.reduceAdd, Nat.reduceLeDiff, Nat.reduceSub, Int.reduceEq, isW_iff]) ?_
      rintro r rfl
      simp -dsimp -implicitDefEqProofs only [go_sem, Nat.reduceBEq, Nat.reduceAdd, Nat.reduceLeDiff, Nat.reduceSub, Int.reduceEq, isW_iff]
      refine fd_d ?_
      unfold fdOk
      simp only [hn, true_and]
      omega
  · simp -dsimp -implicitDefEqProofs only [go_sem, Nat.reduceBEq, Nat.reduceAdd, Nat.reduceLeDiff, Nat.reduceSub, Int.reduceEq, decide_eq_false hn]
    repeat' (first | with_reducible refine ask.of (by omega) ?_ | ((with_reducible refine fd_f ?_); exact fun h => hn h.1) | simp -dsimp -implicitDefEqProofs only [go_sem, Nat.reduceBEq, Nat.reduceAdd, Nat.reduceLeDiff, Nat.reduceSub, Int.reduceEq, decide_true])
end Go.Ev
set_option linter.unusedSimpArgs false
set_option linter.unusedVariables false
namespace Go.Ev
open Go Go.RowKit Go.Proofs
def fitsB (w : Nat) (x : Int) : Bool := decide (w = 8 ∨ (-(2 ^ (8 * w - 1) : Int) ≤ x ∧ x < 2 ^ (8 * w - 1)))
theorem sh_f {w : Nat} (h : w = 1 ∨ w = 2 ∨ w = 4) : IntKind.i64.wrap (1 * 2 ^ min (IntKind.u64.wrap (IntKind.i64.wrap (IntKind.i64.wrap (8 * (w : Int)) - 1))).toNat 64) = 2 ^ (8 * w - 1) := by
  rcases h with rfl | rfl | rfl <;> decide
theorem ng_f {w : Nat} (h : w = 1 ∨ w = 2 ∨ w = 4) : IntKind.i64.wrap (0 - (2 ^ (8 * w - 1) : Int)) = -(2 ^ (8 * w - 1) : Int) := by
  rcases h with rfl | rfl | rfl <;> decide
theorem c_l1fits (x : Int) (w : Nat) (hw : w = 1 ∨ w = 2 ∨ w = 4 ∨ w = 8) : Meets Try.prog 185 [.v (.int .i64 x), .v (.int .i64 w)] (fun r => r = .v (.bool (fitsB w x))) := by
  refine Meets.intro mixed (hint []) Try.func185 rfl (by decide) res_185 rty_185 (by kernel_rfl) ?_; 
  simp -dsimp -implicitDefEqProofs only [go_sem, Nat.reduceBEq, Nat.reduceAdd, Nat.reduceLeDiff, Nat.reduceSub, Int.reduceEq]
  refine ifB'.of (fun h8 => ?_) (fun h8 => ?_)
  · obtain rfl : w = 8 := by omega
    simp -dsimp -implicitDefEqProofs only [go_sem, Nat.reduceBEq, Nat.reduceAdd, Nat.reduceLeDiff, Nat.reduceSub, Int.reduceEq, show fitsB 8 x = true from rfl]
  have hw : w = 1 ∨ w = 2 ∨ w = 4 := by omega
  have e : fitsB w x = (decide (-(2 ^ (8 * w - 1) : Int) ≤ x) && decide (x < 2 ^ (8 * w - 1))) := by
    unfold fitsB
    rw [← Bool.decide_and]
    exact decide_eq_decide.2 ⟨fun h => h.resolve_left (by omega), .inr⟩
  simp -dsimp -implicitDefEqProofs only [go_sem, Nat.reduceBEq, Nat.reduceAdd, Nat.reduceLeDiff, Nat.reduceSub, Int.reduceEq, sh_f hw, ng_f hw, e]
  refine ifB'.of (fun h1 => ?_) (fun h1 => ?_)
  · simp -dsimp -implicitDefEqProofs only [go_sem, Nat.reduceBEq, Nat.reduceAdd, Nat.reduceLeDiff, Nat.reduceSub, Int.reduceEq, sh_f hw, decide_eq_true h1, Bool.true_and]
  · simp -dsimp -implicitDefEqProofs only [go_sem, Nat.reduceBEq, Nat.reduceAdd, Nat.reduceLeDiff, Nat.reduceSub, Int.reduceEq, decide_eq_false h1, Bool.false_and]
end Go.Ev
set_option linter.unusedSimpArgs false
set_option linter.unusedVariables false
namespace Go.Ev
open Go Go.RowKit Go.Proofs
def clOk (f : Fd) (c : Cl) : Prop := if c.z = true then c.i = 0 ∧ c.f.length = 0 else if f.k = 0 then (c.i = 0 ∨ c.i = 1) ∧ c.f.length = 0 else if f.k = 1 then fitsB f.w.toNat c.i = true ∧ c.f.length = 0 else c.i = 0
instance (f : Fd) (c : Cl) : Decidable (clOk f c) := by unfold clOk; infer_instance
theorem cl_d {f : Fd} {c : Cl} {q : Prop} [Decidable q] (h : q ↔ clOk f c) : decide q = decide (clOk f c) := decide_eq_decide.2 h
theorem cl_f {f : Fd} {c : Cl} (h : ¬ clOk f c) : false = decide (clOk f c) := (decide_eq_false h).symm
theorem cl_t {f : Fd} {c : Cl} (h : clOk f c) : true = decide (clOk f c) := (decide_eq_true h).symm
theorem fd_w {f : Fd} (h : fdOk f) (h1 : f.k = 1) : ∃ w : Nat, f.w = w ∧ (w = 1 ∨ w = 2 ∨ w = 4 ∨ w = 8) := by
  have := h.2
  exact ⟨f.w.toNat, by omega, by omega⟩
set_option maxRecDepth 4000 in
theorem c_l2cellOK (f : Fd) (c : Cl) (hf : fdOk f) (hb : c.f.length ≤ 1048576) : Meets Try.prog 173 [.agg (fdC f), .agg (clC c)] (fun r => r = .v (.bool (decide (clOk f c)))) := by
  refine Meets.intro mixed (hint []) Try.func173 rfl (by decide) res_173 rty_173 (by kernel_rfl) ?_; 
  simp -dsimp -implicitDefEqProofs only [go_sem, Nat.reduceBEq, Nat.reduceAdd, Nat.reduceLeDiff, Nat.reduceSub, Int.reduceEq, fdC, clC]
  cases hz : c.z
  · by_cases h1 : f.k = 1
    · obtain ⟨w, hw, hww⟩ := fd_w hf h1
      simp -dsimp -implicitDefEqProofs only [go_sem, Nat.reduceBEq, Nat.reduceAdd, Nat.reduceLeDiff, Nat.reduceSub, Int.reduceEq, hz, h1, hw, decide_false, decide_true]
      repeat (first | with_reducible refine ask.of (by omega) ?_ | simp -dsimp -implicitDefEqProofs only [go_sem, Nat.reduceBEq, Nat.reduceAdd, Nat.reduceLeDiff, Nat.reduceSub, Int.reduceEq, hz, h1, hw, decide_false, decide_true])
      refine CallE.of (c_l1fits c.i w hww) (by rintro r rfl; (repeat' first | exact trivial | exact pure_rowB _ | exact pure_rowO _ | exact pure_rowI _ | exact pure_rowBB _ | exact pure_rowPk _ _ | exact pure_rowSn _ _ | exact pure_rowFd _ _ | exact pure_rowBBB _ | exact pure_rowCl _ _ | exact pure_rowTb _ _ _ | refine And.intro ?_ ?_)) (by simp -dsimp -implicitDefEqProofs only [go_sem, Nat.reduceBEq, Nat.reduceAdd, Nat.reduceLeDiff, Nat.reduceSub, Int.reduceEq]) ?_
      rintro r rfl
      simp -dsimp -implicitDefEqProofs only [go_sem, Nat.reduceBEq, Nat.reduceAdd, Nat.reduceLeDiff, Nat.reduceSub, Int.reduceEq]
      have e : clOk f c ↔ fitsB w c.i = true ∧ c.f.length = 0 := by
        unfold clOk
        rw [hz, if_neg (by decide), if_neg (by omega), if_pos h1, hw]; simp
      cases hq : fitsB w c.i
      · simp -dsimp -implicitDefEqProofs only [go_sem, Nat.reduceBEq, Nat.reduceAdd, Nat.reduceLeDiff, Nat.reduceSub, Int.reduceEq, hq]
        exact cl_f (by rw [e, hq]; simp)
      · simp -dsimp -implicitDefEqProofs only [go_sem, Nat.reduceBEq, Nat.reduceAdd, Nat.reduceLeDiff, Nat.reduceSub, Int.reduceEq, hq]
        repeat (first | with_reducible refine ask.of (by omega) ?_ | simp -dsimp -implicitDefEqProofs only [go_sem, Nat.reduceBEq, Nat.reduceAdd, Nat.reduceLeDiff, Nat.reduceSub, Int.reduceEq, hq])
        exact cl_d (by rw [e, hq]; simp)
    · repeat' (first | with_reducible refine ifB'.of (fun h => ?_) (fun h => ?_) | with_reducible refine ask.of (by omega) ?_ | omega | ((with_reducible refine cl_f ?_); unfold clOk; simp only [hz, h1, if_false, Bool.false_eq_true]; split <;> omega) | ((with_reducible refine cl_t ?_); unfold clOk; simp only [hz, h1, if_false, Bool.false_eq_true]; split <;> omega) | ((with_reducible refine cl_d ?_); unfold clOk; simp only [hz, h1, if_false, Bool.false_eq_true]; split <;> omega) | simp -dsimp -implicitDefEqProofs only [go_sem, Nat.reduceBEq, Nat.reduceAdd, Nat.reduceLeDiff, Nat.reduceSub, Int.reduceEq, hz, decide_true])
  · repeat' (first | with_reducible refine ifB'.of (fun h => ?_) (fun h => ?_) | with_reducible refine ask.of (by omega) ?_ | ((with_reducible refine cl_f ?_); unfold clOk; simp only [hz, if_true]; omega) | ((with_reducible refine cl_t ?_); unfold clOk; simp only [hz, if_true]; omega) | ((with_reducible refine cl_d ?_); unfold clOk; simp only [hz, if_true]; omega) | simp -dsimp -implicitDefEqProofs only [go_sem, Nat.reduceBEq, Nat.reduceAdd, Nat.reduceLeDiff, Nat.reduceSub, Int.reduceEq, hz, decide_true])
end Go.Ev
set_option linter.unusedSimpArgs false
set_option linter.unusedVariables false
namespace Go.Ev
open Go Go.RowKit
def Look (a b : AV) : Prop := ∀ (C : Cx) (x : Value), Rep C true (.read .ent) a x → Rep C true (.read .ent) b x
theorem Look.refl (a : AV) : Look a a := fun _ _ h => h
def Looks : List AV → List AV → Prop
  | [], [] => True
  | a :: us, b :: bs => Look a b ∧ Looks us bs
  | _, _ => False
def LookEls : List (List AV) → List (List AV) → Prop
  | [], [] => True
  | a :: us, b :: bs => Looks a b ∧ LookEls us bs
  | _, _ => False
theorem Looks.len : ∀ {us bs : List AV}, Looks us bs → us.length = bs.length
  | [], [], _ => rfl
  | a :: us, b :: bs, h => by simp [Looks.len h.2]
  | [], _ :: _, h => h.elim
  | _ :: _, [], h => h.elim
theorem LookEls.len : ∀ {us bs : List (List AV)}, LookEls us bs → us.length = bs.length
  | [], [], _ => rfl
  | a :: us, b :: bs, h => by simp [LookEls.len h.2]
  | [], _ :: _, h => h.elim
  | _ :: _, [], h => h.elim
theorem RepVs.look {C : Cx} : ∀ {us bs : List AV} {vs : List Value} {q : Nat}, Looks us bs → RepVs C true (.read .ent) q us vs → RepVs C true (.read .ent) q bs vs
  | [], [], vs, q, _, h => h
  | a :: us, b :: bs, vs, q, hl, h => by
    obtain ⟨y, ys, rfl, h1, h2⟩ := h
    exact ⟨y, ys, rfl, hl.1 _ _ h1, RepVs.look hl.2 h2⟩
  | [], _ :: _, _, _, h, _ => h.elim
  | _ :: _, [], _, _, h, _ => h.elim
theorem RepCs.look {C : Cx} {b : Nat} : ∀ {us bs : List AV} {off q : Nat}, Looks us bs → RepCs C true (.read .ent) b off q us → RepCs C true (.read .ent) b off q bs
  | [], [], _, _, _, h => h
  | a :: us, c :: bs, off, q, hl, h => by
    obtain ⟨⟨y, h0, h1, h2⟩, h3⟩ := h
    exact ⟨⟨y, h0, h1, hl.1 _ _ h2⟩, RepCs.look hl.2 h3⟩
  | [], _ :: _, _, _, h, _ => h.elim
  | _ :: _, [], _, _, h, _ => h.elim
theorem RepEls.look {C : Cx} {b sz : Nat} : ∀ {us bs : List (List AV)} {off q : Nat}, LookEls us bs → RepEls C (.read .ent) b off q sz us → RepEls C (.read .ent) b off q sz bs
  | [], [], _, _, _, h => h
  | a :: us, c :: bs, off, q, hl, h => by
    obtain ⟨h1, h2, h3⟩ := h
    exact ⟨by rw [← Looks.len hl.1]; exact h1, RepCs.look hl.1 h2, RepEls.look hl.2 h3⟩
  | [], _ :: _, _, _, h, _ => h.elim
  | _ :: _, [], _, _, h, _ => h.elim
theorem Look.row {e sz : Nat} {us bs : List (List AV)} (h : LookEls us bs) : Look (.row e sz us) (.row e sz bs) := fun C x hr => by
  obtain ⟨ha, A, c, rfl, h1, h2, h3⟩ := hr
  have hl := h.len
  refine ⟨ha, A, c, by rw [hl], by omega, by omega, ?_⟩
  rcases h3 with h3 | ⟨b, off, h4, h5, h6⟩
  · left
    rw [h3] at hl
    exact List.eq_nil_of_length_eq_zero (by simpa using hl.symm)
  · exact .inr ⟨b, off, h4, h5, RepEls.look h h6⟩
theorem Look.rd (e sz : Nat) (els : List (List AV)) : Look (.rd .ent e sz els) (.row e sz els) := fun C x hr => by
  obtain ⟨_, _, A, c, rfl, h1, h2, h3⟩ := hr
  exact ⟨trivial, A, c, rfl, h1, h2, h3⟩
theorem Meets.look {P : Program} {f : FuncId} {us bs : List AV} {post : AV → Prop} (hl : Looks us bs) (h : Meets P f bs post) : Meets P f us post :=
  ⟨h.enters, fun w S F base vals hS hr => h.runs w S F base vals hS (hr.look hl)⟩
def byE (bs : List UInt8) : List AV := [.rd .ent 5 1 (bytesA bs)]
def rowBE (xs : List (List UInt8)) : AV := .row 25 1 (ra byE xs)
theorem look_byE : ∀ xs : List (List UInt8), LookEls (ra byE xs) (ra byC xs)
  | [] => trivial
  | x :: xs => ⟨⟨Look.rd _ _ _, trivial⟩, look_byE xs⟩
theorem look_rowBE (xs : List (List UInt8)) : Look (rowBE xs) (rowBB xs) := Look.row (look_byE xs)
theorem byE_snoc (xs : List (List UInt8)) (b : List UInt8) : ra byE xs ++ [[.rd .ent 5 1 (bytesA b)]] = ra byE (xs ++ [b]) := by simp [ra, byE]
theorem byE_at {xs : List (List UInt8)} {i : Nat} (h : i < xs.length) : (ra byE xs)[i]? = some [.rd .ent 5 1 (bytesA xs[i])] := ra_at h
theorem byE_asrw (xs : List (List UInt8)) : (ra byC xs).map (List.map (AV.asrw .ent)) = ra byE xs := by simp [ra, byC, byE, AV.asrw, Org.base]
theorem nf_byE : ∀ xs : List (List UInt8), nfEls (ra byE xs)
  | [] => trivial
  | x :: xs => ⟨⟨⟨rfl, nf_bytes x⟩, trivial⟩, nf_byE xs⟩
where nf_bytes : ∀ bs : List UInt8, nfEls (bytesA bs)
  | [] => trivial
  | b :: bs => ⟨⟨trivial, trivial⟩, nf_bytes bs⟩
attribute [go_sem] byE_snoc rowBE
end Go.Ev
set_option linter.unusedSimpArgs false
set_option linter.unusedVariables false
namespace Go.Ev
open Go Go.RowKit Go.Proofs
structure Tb where
  r : Int
  c : List Cl
def tbC (T : Nat) (x : Tb) : List AV := [.v (.int .i64 x.r), .row T 3 (ra clC x.c)]
def dstep (acc : List (List UInt8)) (c : Cl) : List (List UInt8) := if c.z = false ∧ c.f ∉ acc then acc ++ [c.f] else acc
def dst (xs : List Cl) : List (List UInt8) := xs.foldl dstep []
theorem dst_succ {xs : List Cl} {i : Nat} (h : i < xs.length) : dst (xs.take (i + 1)) = dstep (dst (xs.take i)) xs[i] := by
  rw [List.take_succ_eq_append_getElem h, dst, List.foldl_append]; rfl
theorem dst_len (xs : List Cl) : ∀ i, i ≤ xs.length → (dst (xs.take i)).length ≤ i
  | 0, _ => by simp [dst]
  | i + 1, h => by
    rw [dst_succ (by omega)]
    have := dst_len xs i (by omega)
    unfold dstep; split <;> simp <;> omega
theorem dst_mem {xs : List Cl} : ∀ {i : Nat} {b : List UInt8}, i ≤ xs.length → b ∈ dst (xs.take i) → ∃ c ∈ xs, c.f = b
  | 0, b, _, h => by simp [dst] at h
  | i + 1, b, hi, h => by
    rw [dst_succ (by omega)] at h
    unfold dstep at h
    split at h
    · rcases List.mem_append.1 h with h | h
      · exact dst_mem (by omega) h
      · exact ⟨_, List.getElem_mem (by omega), (List.mem_singleton.1 h).symm⟩
    · exact dst_mem (by omega) h
theorem dstep_no {acc : List (List UInt8)} {c : Cl} (h : ¬ (c.z = false ∧ c.f ∉ acc)) : dstep acc c = acc := if_neg h
theorem dstep_yes {acc : List (List UInt8)} {c : Cl} (h : c.z = false ∧ c.f ∉ acc) : dstep acc c = acc ++ [c.f] := if_pos h
theorem c_l2placeE (xs : List (List UInt8)) (t : List UInt8) (hx : xs.length ≤ 1048576) (hb : ∀ b ∈ xs, b.length ≤ 140737488355328) (ht : t.length ≤ 140737488355328) : Meets Try.prog 97 [rowBE xs, rowB t] (fun r => r = .v (.int .i64 (plI xs t))) :=
  Meets.look (bs := [rowBB xs, rowB t]) ⟨look_rowBE xs, Look.refl _, trivial⟩ (c_l2place xs t hx hb ht)
end Go.Ev
set_option linter.unusedSimpArgs false
set_option linter.unusedVariables false
namespace Go.Ev
open Go Go.RowKit Go.Proofs
structure Pk where
  a : Int
  b : Int
  c : Int
  d : Int
  e : Bool
  f : List UInt8
def pkC (p : Pk) : List AV := [.v (.int .i64 p.a), .v (.int .i64 p.b), .v (.int .i64 p.c), .v (.int .i64 p.d), .v (.bool p.e), .row 5 1 (bytesA p.f)]
end Go.Ev
set_option linter.unusedSimpArgs false
set_option linter.unusedVariables false
namespace Go.Ev
open Go Go.RowKit Go.Proofs
def bbC (xs : List (List UInt8)) : List AV := [.row 25 1 (ra byC xs)]
def rowBBB (xs : List (List (List UInt8))) : AV := .row 39 1 (ra bbC xs)
theorem pure_rowBBB (xs : List (List (List UInt8))) : (rowBBB xs).pure := pureEls_ra (enc := bbC) (fun x => ⟨pureEls_ra (enc := byC) pure_byC x, trivial⟩) xs
end Go.Ev
set_option linter.unusedSimpArgs false
set_option linter.unusedVariables false
namespace Go.Ev
open Go Go.RowKit Go.Proofs
theorem c_l1copy (b : List UInt8) (hb : b.length ≤ 8388608) : Meets Try.prog 82 [rowB b] (fun r => r = rowB b) := by
  refine Meets.intro mixed (hint [(3, 125)]) Try.func82 rfl (by decide) res_82 rty_82 (by kernel_rfl) ?_; 
  simp -dsimp -implicitDefEqProofs only [go_sem, Nat.reduceBEq, Nat.reduceAdd, Nat.reduceLeDiff, Nat.reduceSub, Int.reduceEq, initE]
  repeat (first | with_reducible refine ask.of (by first | omega | (simp only [List.length_nil]; omega)) ?_ | simp -dsimp -implicitDefEqProofs only [go_sem, Nat.reduceBEq, Nat.reduceAdd, Nat.reduceLeDiff, Nat.reduceSub, Int.reduceEq, List.nil_append])
theorem c_l3texts (xs : List (List UInt8)) (hx : xs.length ≤ 1048576) (hb : ∀ b ∈ xs, b.length ≤ 8388608) : Meets Try.prog 98 [rowBB xs] (fun r => r = rowBB xs) := by
  refine Meets.intro mixed (hint [(3, 139)]) Try.func98 rfl (by decide) res_98 rty_98 (by kernel_rfl) ?_; 
  simp -dsimp -implicitDefEqProofs only [go_sem, Nat.reduceBEq, Nat.reduceAdd, Nat.reduceLeDiff, Nat.reduceSub, Int.reduceEq]
  refine LoopE.cnt xs.length (fun i s => s.env 0 = .rd .ent 25 1 (ra byC xs) ∧ s.env 3 = .ref [3] ∧ s.env 4 = .v (.int .i64 i) ∧ s.σ [3] = some (.row 25 1 (ra byC (xs.take i)))) ⟨by simp -dsimp -implicitDefEqProofs only [go_sem, Nat.reduceBEq, Nat.reduceAdd, Nat.reduceLeDiff, Nat.reduceSub, Int.reduceEq, initE], by simp -dsimp -implicitDefEqProofs only [go_sem, Nat.reduceBEq, Nat.reduceAdd, Nat.reduceLeDiff, Nat.reduceSub, Int.reduceEq], by simp -dsimp -implicitDefEqProofs only [go_sem, Nat.reduceBEq, Nat.reduceAdd, Nat.reduceLeDiff, Nat.reduceSub, Int.reduceEq], by simp -dsimp -implicitDefEqProofs only [go_sem, Nat.reduceBEq, Nat.reduceAdd, Nat.reduceLeDiff, Nat.reduceSub, Int.reduceEq] <;> rfl⟩ ?_
  rintro i ⟨e, σ⟩ hi ⟨h0, h3, h4, hs⟩ K hK
  simp only at h0 h3 h4 hs
  simp -dsimp -implicitDefEqProofs only [go_sem, Nat.reduceBEq, Nat.reduceAdd, Nat.reduceLeDiff, Nat.reduceSub, Int.reduceEq, h0, h3, h4, hs]
  refine ifB'.of (fun hlt => ?_) (fun hlt => ?_)
  · have hlt : i < xs.length := by omega
    simp -dsimp -implicitDefEqProofs only [go_sem, Nat.reduceBEq, Nat.reduceAdd, Nat.reduceLeDiff, Nat.reduceSub, Int.reduceEq, h0, h3, h4, hs, byA_at hlt]
    repeat with_reducible refine ask.of (by omega) ?_
    refine CallE.of (c_l1copy xs[i] (hb _ (List.getElem_mem _))) (by rintro r rfl; (repeat' first | exact trivial | exact pure_rowB _ | exact pure_rowO _ | exact pure_rowI _ | exact pure_rowBB _ | exact pure_rowPk _ _ | exact pure_rowSn _ _ | exact pure_rowFd _ _ | exact pure_rowBBB _ | exact pure_rowCl _ _ | exact pure_rowTb _ _ _ | refine And.intro ?_ ?_)) (by simp -dsimp -implicitDefEqProofs only [go_sem, Nat.reduceBEq, Nat.reduceAdd, Nat.reduceLeDiff, Nat.reduceSub, Int.reduceEq, h0, h3, h4, hs]) ?_
    rintro r rfl
    simp -dsimp -implicitDefEqProofs only [go_sem, Nat.reduceBEq, Nat.reduceAdd, Nat.reduceLeDiff, Nat.reduceSub, Int.reduceEq, h0, h3, h4, hs]
    repeat (first | with_reducible refine ask.of (by first | omega | decide | (simp; omega)) ?_ | simp -dsimp -implicitDefEqProofs only [go_sem, Nat.reduceBEq, Nat.reduceAdd, Nat.reduceLeDiff, Nat.reduceSub, Int.reduceEq, h0, h3, h4, hs, byA_at hlt])
    refine hK _ hlt ?_
    simp -dsimp -implicitDefEqProofs only [go_sem, Nat.reduceBEq, Nat.reduceAdd, Nat.reduceLeDiff, Nat.reduceSub, Int.reduceEq, h0, h3, h4, hs, wrap_succ (show i < 4611686018427387904 by omega), take_succ hlt]
  · have : i = xs.length := by omega
    subst this
    simp -dsimp -implicitDefEqProofs only [go_sem, Nat.reduceBEq, Nat.reduceAdd, Nat.reduceLeDiff, Nat.reduceSub, Int.reduceEq, h0, h3, h4, hs, List.take_length]
theorem c_l3join (xs ys : List (List UInt8)) (hx : xs.length + wBB xs ≤ 1048576) (hy : ys.length + wBB ys ≤ 1048576) : Meets Try.prog 99 [rowBB xs, rowBB ys] (fun r => r = rowBB (xs ++ ys)) := by
  refine Meets.intro mixed (hint []) Try.func99 rfl (by decide) res_99 rty_99 (by kernel_rfl) ?_; 
  simp -dsimp -implicitDefEqProofs only [go_sem, Nat.reduceBEq, Nat.reduceAdd, Nat.reduceLeDiff, Nat.reduceSub, Int.reduceEq]
  refine CallE.of (c_l3texts xs (by omega) (fun b h => by have := mem_wBB h; omega)) (by rintro r rfl; (repeat' first | exact trivial | exact pure_rowB _ | exact pure_rowO _ | exact pure_rowI _ | exact pure_rowBB _ | exact pure_rowPk _ _ | exact pure_rowSn _ _ | exact pure_rowFd _ _ | exact pure_rowBBB _ | exact pure_rowCl _ _ | exact pure_rowTb _ _ _ | refine And.intro ?_ ?_)) (by simp -dsimp -implicitDefEqProofs only [go_sem, Nat.reduceBEq, Nat.reduceAdd, Nat.reduceLeDiff, Nat.reduceSub, Int.reduceEq]) ?_
  rintro r rfl
  simp -dsimp -implicitDefEqProofs only [go_sem, Nat.reduceBEq, Nat.reduceAdd, Nat.reduceLeDiff, Nat.reduceSub, Int.reduceEq]
  refine CallE.of (c_l3texts ys (by omega) (fun b h => by have := mem_wBB h; omega)) (by rintro r rfl; (repeat' first | exact trivial | exact pure_rowB _ | exact pure_rowO _ | exact pure_rowI _ | exact pure_rowBB _ | exact pure_rowPk _ _ | exact pure_rowSn _ _ | exact pure_rowFd _ _ | exact pure_rowBBB _ | exact pure_rowCl _ _ | exact pure_rowTb _ _ _ | refine And.intro ?_ ?_)) (by simp -dsimp -implicitDefEqProofs only [go_sem, Nat.reduceBEq, Nat.reduceAdd, Nat.reduceLeDiff, Nat.reduceSub, Int.reduceEq]) ?_
  rintro r rfl
  simp -dsimp -implicitDefEqProofs only [go_sem, Nat.reduceBEq, Nat.reduceAdd, Nat.reduceLeDiff, Nat.reduceSub, Int.reduceEq]
  repeat (first | with_reducible refine ask.of (by first | omega | decide) ?_ | simp -dsimp -implicitDefEqProofs only [go_sem, Nat.reduceBEq, Nat.reduceAdd, Nat.reduceLeDiff, Nat.reduceSub, Int.reduceEq])
theorem c_textsCopy (xs : List (List UInt8)) (hx : xs.length + wBB xs ≤ 1048576) : Meets Try.prog 106 [rowBB xs] (fun r => r = rowBB xs) := by
  refine Meets.intro mixed (hint []) Try.func106 rfl (by decide) res_106 rty_106 (by kernel_rfl) ?_; 
  simp -dsimp -implicitDefEqProofs only [go_sem, Nat.reduceBEq, Nat.reduceAdd, Nat.reduceLeDiff, Nat.reduceSub, Int.reduceEq]
  repeat (first | with_reducible refine ask.of (by first | omega | decide) ?_ | simp -dsimp -implicitDefEqProofs only [go_sem, Nat.reduceBEq, Nat.reduceAdd, Nat.reduceLeDiff, Nat.reduceSub, Int.reduceEq])
  refine LoopE.cnt xs.length (fun i s => s.env 7 = .rd .ent 25 1 (ra byC xs) ∧ s.env 8 = .v (.int .i64 xs.length) ∧ s.env 9 = .v (.int .i64 i) ∧ s.env 3 = .ref [6] ∧ s.σ [6] = some (.row 25 1 (ra byC (xs.take i)))) ⟨by simp -dsimp -implicitDefEqProofs only [go_sem, Nat.reduceBEq, Nat.reduceAdd, Nat.reduceLeDiff, Nat.reduceSub, Int.reduceEq, initE], by simp -dsimp -implicitDefEqProofs only [go_sem, Nat.reduceBEq, Nat.reduceAdd, Nat.reduceLeDiff, Nat.reduceSub, Int.reduceEq, initE], by simp -dsimp -implicitDefEqProofs only [go_sem, Nat.reduceBEq, Nat.reduceAdd, Nat.reduceLeDiff, Nat.reduceSub, Int.reduceEq], by simp -dsimp -implicitDefEqProofs only [go_sem, Nat.reduceBEq, Nat.reduceAdd, Nat.reduceLeDiff, Nat.reduceSub, Int.reduceEq], by simp -dsimp -implicitDefEqProofs only [go_sem, Nat.reduceBEq, Nat.reduceAdd, Nat.reduceLeDiff, Nat.reduceSub, Int.reduceEq] <;> rfl⟩ ?_
  rintro i ⟨e, σ⟩ hi ⟨h7, h8, h9, h3, hs⟩ K hK
  simp only at h7 h8 h9 h3 hs
  simp -dsimp -implicitDefEqProofs only [go_sem, Nat.reduceBEq, Nat.reduceAdd, Nat.reduceLeDiff, Nat.reduceSub, Int.reduceEq, h7, h8, h9, h3, hs]
  refine ifB'.of (fun hlt => ?_) (fun hlt => ?_)
  · have hlt : i < xs.length := by omega
    have hb : xs[i].length ≤ 1048576 := by have := mem_wBB (List.getElem_mem hlt); omega
    simp -dsimp -implicitDefEqProofs only [go_sem, Nat.reduceBEq, Nat.reduceAdd, Nat.reduceLeDiff, Nat.reduceSub, Int.reduceEq, h7, h8, h9, h3, hs, byA_at hlt]
    repeat (first | with_reducible refine ask.of (by first | omega | decide | (simp; omega)) ?_ | simp -dsimp -implicitDefEqProofs only [go_sem, Nat.reduceBEq, Nat.reduceAdd, Nat.reduceLeDiff, Nat.reduceSub, Int.reduceEq, h7, h8, h9, h3, hs, byA_at hlt, List.nil_append])
    refine hK _ hlt ?_
    simp -dsimp -implicitDefEqProofs only [go_sem, Nat.reduceBEq, Nat.reduceAdd, Nat.reduceLeDiff, Nat.reduceSub, Int.reduceEq, h7, h8, h9, h3, hs, wrap_succ (show i < 4611686018427387904 by omega), take_succ hlt]
  · have : i = xs.length := by omega
    subst this
    simp -dsimp -implicitDefEqProofs only [go_sem, Nat.reduceBEq, Nat.reduceAdd, Nat.reduceLeDiff, Nat.reduceSub, Int.reduceEq, h7, h8, h9, h3, hs, List.take_length]
theorem c_growBB (n : Nat) (hn : n ≤ 4194304) : Meets Try.prog 177 [.v (.slice none 0 0), .v (.int .i64 n)] (fun r => r = rowBB []) := by
  refine Meets.intro mixed (hint [(25, 1)]) Try.func177 rfl (by decide) res_177 rty_177 (by kernel_rfl) ?_; 
  simp -dsimp -implicitDefEqProofs only [go_sem, Nat.reduceBEq, Nat.reduceAdd, Nat.reduceLeDiff, Nat.reduceSub, Int.reduceEq, initE]
  with_reducible refine ifB'.no (by omega) ?_
  have e : IntKind.i64.wrap ((n : Int) - IntKind.i64.wrap 0) = n := by rw [show IntKind.i64.wrap 0 = 0 from rfl, wrap_i64_of (by omega) (by omega)]; omega
  simp -dsimp -implicitDefEqProofs only [go_sem, Nat.reduceBEq, Nat.reduceAdd, Nat.reduceLeDiff, Nat.reduceSub, Int.reduceEq, e, show IntKind.i64.wrap (0 - 0) = 0 from rfl, Int.sub_zero, wrap_nat (show n ≤ 9223372036854775807 by omega)]
  refine ifB'.of (fun h => ?_) (fun h => ?_)
  · simp -dsimp -implicitDefEqProofs only [go_sem, Nat.reduceBEq, Nat.reduceAdd, Nat.reduceLeDiff, Nat.reduceSub, Int.reduceEq, e]
    repeat (first | with_reducible refine ask.of (by omega) ?_ | simp -dsimp -implicitDefEqProofs only [go_sem, Nat.reduceBEq, Nat.reduceAdd, Nat.reduceLeDiff, Nat.reduceSub, Int.reduceEq, e, Int.toNat_zero, List.take_zero, List.drop_nil])
    try rfl
  · simp -dsimp -implicitDefEqProofs only [go_sem, Nat.reduceBEq, Nat.reduceAdd, Nat.reduceLeDiff, Nat.reduceSub, Int.reduceEq, e]
    rfl
def rdC (xs : List (List UInt8)) : List AV := [.rd .ent 25 1 (ra byC xs)]
theorem rdC2 (a b : List (List UInt8)) : ra rdC [a, b] = [[.rd .ent 25 1 (ra byC a)], [.rd .ent 25 1 (ra byC b)]] := rfl
theorem rdC_at {xs : List (List (List UInt8))} {i : Nat} (h : i < xs.length) : (ra rdC xs)[i]? = some [.rd .ent 25 1 (ra byC xs[i])] := ra_at h
def lenS (xs : List (List (List UInt8))) : Nat := szL List.length xs
theorem flat_takeS {xs : List (List (List UInt8))} {i : Nat} (h : i < xs.length) : (xs.take i).flatten ++ xs[i] = (xs.take (i + 1)).flatten := by
  rw [List.take_succ_eq_append_getElem h, List.flatten_append, List.flatten_singleton]
theorem flat_lenS (xs : List (List (List UInt8))) : xs.flatten.length = lenS xs := by
  induction xs with
  | nil => rfl
  | cons x xs ih => rw [List.flatten_cons, List.length_append, ih]; simp [lenS, szL]
theorem c_concatBB (xs : List (List (List UInt8))) (hx : xs.length + lenS xs ≤ 4194304) : Meets Try.prog 107 [.rd .frz 39 1 (ra rdC xs)] (fun r => r = rowBE xs.flatten) := by
  refine Meets.intro mixed (hint []) Try.func107 rfl (by decide) res_107 rty_107 (by kernel_rfl) ?_; 
  simp -dsimp -implicitDefEqProofs only [go_sem, Nat.reduceBEq, Nat.reduceAdd, Nat.reduceLeDiff, Nat.reduceSub, Int.reduceEq]
  refine LoopE.cnt xs.length (fun i s => s.env 0 = .rd .frz 39 1 (ra rdC xs) ∧ s.env 3 = .v (.int .i64 (lenS (xs.take i) : Nat)) ∧ s.env 9 = .rd .frz 39 1 (ra rdC xs) ∧ s.env 10 = .v (.int .i64 xs.length) ∧ s.env 11 = .v (.int .i64 i)) ⟨by simp -dsimp -implicitDefEqProofs only [go_sem, Nat.reduceBEq, Nat.reduceAdd, Nat.reduceLeDiff, Nat.reduceSub, Int.reduceEq, initE], by simp -dsimp -implicitDefEqProofs only [go_sem, Nat.reduceBEq, Nat.reduceAdd, Nat.reduceLeDiff, Nat.reduceSub, Int.reduceEq] <;> rfl, by simp -dsimp -implicitDefEqProofs only [go_sem, Nat.reduceBEq, Nat.reduceAdd, Nat.reduceLeDiff, Nat.reduceSub, Int.reduceEq, initE], by simp -dsimp -implicitDefEqProofs only [go_sem, Nat.reduceBEq, Nat.reduceAdd, Nat.reduceLeDiff, Nat.reduceSub, Int.reduceEq, initE], by simp -dsimp -implicitDefEqProofs only [go_sem, Nat.reduceBEq, Nat.reduceAdd, Nat.reduceLeDiff, Nat.reduceSub, Int.reduceEq]⟩ ?_
  rintro i ⟨e, σ⟩ hi ⟨h0, h3, h9, h10, h11⟩ K hK
  simp only at h0 h3 h9 h10 h11
  simp -dsimp -implicitDefEqProofs only [go_sem, Nat.reduceBEq, Nat.reduceAdd, Nat.reduceLeDiff, Nat.reduceSub, Int.reduceEq, h0, h3, h9, h10, h11]
  refine ifB'.of (fun hlt => ?_) (fun hlt => ?_)
  · have hlt : i < xs.length := by omega
    have hs : lenS (xs.take (i + 1)) = lenS (xs.take i) + xs[i].length := szL_take_succ List.length hlt
    have hsl : lenS (xs.take (i + 1)) ≤ lenS xs := szL_take_le List.length xs (i + 1)
    have e1 : IntKind.i64.wrap ((lenS (xs.take i) : Int) + xs[i].length) = (lenS (xs.take (i + 1)) : Nat) := by rw [wrap_i64_of (by omega) (by omega), hs]; omega
    simp -dsimp -implicitDefEqProofs only [go_sem, Nat.reduceBEq, Nat.reduceAdd, Nat.reduceLeDiff, Nat.reduceSub, Int.reduceEq, h0, h3, h9, h10, h11, rdC_at hlt, e1]
    repeat (first | with_reducible refine ask.of (by omega) ?_ | simp -dsimp -implicitDefEqProofs only [go_sem, Nat.reduceBEq, Nat.reduceAdd, Nat.reduceLeDiff, Nat.reduceSub, Int.reduceEq, h0, h3, h9, h10, h11, rdC_at hlt, e1])
    with_reducible refine ifB'.no (by omega) ?_
    simp -dsimp -implicitDefEqProofs only [go_sem, Nat.reduceBEq, Nat.reduceAdd, Nat.reduceLeDiff, Nat.reduceSub, Int.reduceEq, h0, h3, h9, h10, h11]
    refine hK _ hlt ?_
    simp -dsimp -implicitDefEqProofs only [go_sem, Nat.reduceBEq, Nat.reduceAdd, Nat.reduceLeDiff, Nat.reduceSub, Int.reduceEq, h0, h3, h9, h10, h11, wrap_succ (show i < 4611686018427387904 by omega)]
  · have : i = xs.length := by omega
    subst this
    have hw : lenS xs ≤ 4194304 := by omega
    rw [List.take_length] at h3
    simp -dsimp -implicitDefEqProofs only [go_sem, Nat.reduceBEq, Nat.reduceAdd, Nat.reduceLeDiff, Nat.reduceSub, Int.reduceEq, h0, h3, h9, h10, h11]
    refine CallE.lend (c_growBB (lenS xs) hw) (by simp -dsimp -implicitDefEqProofs only [go_sem, Nat.reduceBEq, Nat.reduceAdd, Nat.reduceLeDiff, Nat.reduceSub, Int.reduceEq, h0, h3, h9, h10, h11]) ?_
    rintro r rfl
    simp -dsimp -implicitDefEqProofs only [go_sem, Nat.reduceBEq, Nat.reduceAdd, Nat.reduceLeDiff, Nat.reduceSub, Int.reduceEq, h0, h3, h9, h10, h11]
    refine LoopE.cnt xs.length (fun i s => s.env 6 = .ref [24] ∧ s.env 25 = .rd .frz 39 1 (ra rdC xs) ∧ s.env 26 = .v (.int .i64 xs.length) ∧ s.env 27 = .v (.int .i64 i) ∧ s.σ [24] = some (.row 25 1 (ra byE (xs.take i).flatten))) ⟨by simp -dsimp -implicitDefEqProofs only [go_sem, Nat.reduceBEq, Nat.reduceAdd, Nat.reduceLeDiff, Nat.reduceSub, Int.reduceEq, h0, h3, h9, h10, h11], by simp -dsimp -implicitDefEqProofs only [go_sem, Nat.reduceBEq, Nat.reduceAdd, Nat.reduceLeDiff, Nat.reduceSub, Int.reduceEq, h0, h3, h9, h10, h11], by simp -dsimp -implicitDefEqProofs only [go_sem, Nat.reduceBEq, Nat.reduceAdd, Nat.reduceLeDiff, Nat.reduceSub, Int.reduceEq, h0, h3, h9, h10, h11], by simp -dsimp -implicitDefEqProofs only [go_sem, Nat.reduceBEq, Nat.reduceAdd, Nat.reduceLeDiff, Nat.reduceSub, Int.reduceEq, h0, h3, h9, h10, h11], by simp -dsimp -implicitDefEqProofs only [go_sem, Nat.reduceBEq, Nat.reduceAdd, Nat.reduceLeDiff, Nat.reduceSub, Int.reduceEq, h0, h3, h9, h10, h11] <;> rfl⟩ ?_
    rintro i ⟨e, σ⟩ hi ⟨h6, h25, h26, h27, hs⟩ K' hK'
    simp only at h6 h25 h26 h27 hs
    simp -dsimp -implicitDefEqProofs only [go_sem, Nat.reduceBEq, Nat.reduceAdd, Nat.reduceLeDiff, Nat.reduceSub, Int.reduceEq, h6, h25, h26, h27, hs]
    refine ifB'.of (fun hlt => ?_) (fun hlt => ?_)
    · have hlt : i < xs.length := by omega
      have hsl : lenS (xs.take (i + 1)) ≤ lenS xs := szL_take_le List.length xs (i + 1)
      have hfl : (xs.take i).flatten.length + xs[i].length = lenS (xs.take (i + 1)) := by rw [← flat_lenS, ← flat_takeS hlt, List.length_append]
      simp -dsimp -implicitDefEqProofs only [go_sem, Nat.reduceBEq, Nat.reduceAdd, Nat.reduceLeDiff, Nat.reduceSub, Int.reduceEq, h6, h25, h26, h27, hs, rdC_at hlt]
      repeat (first | with_reducible refine ask.of (by omega) ?_ | simp -dsimp -implicitDefEqProofs only [go_sem, Nat.reduceBEq, Nat.reduceAdd, Nat.reduceLeDiff, Nat.reduceSub, Int.reduceEq, h6, h25, h26, h27, hs, rdC_at hlt, byE_asrw])
      refine hK' _ hlt ?_
      simp -dsimp -implicitDefEqProofs only [go_sem, Nat.reduceBEq, Nat.reduceAdd, Nat.reduceLeDiff, Nat.reduceSub, Int.reduceEq, h6, h25, h26, h27, hs, wrap_succ (show i < 4611686018427387904 by omega), byE_asrw, flat_takeS hlt]
    · have : i = xs.length := by omega
      subst this
      simp -dsimp -implicitDefEqProofs only [go_sem, Nat.reduceBEq, Nat.reduceAdd, Nat.reduceLeDiff, Nat.reduceSub, Int.reduceEq, h6, h25, h26, h27, hs, List.take_length]
theorem c_iValidDictE (xs : List (List UInt8)) (hx : xs.length + wBB xs ≤ 1048576) : Meets Try.prog 101 [rowBE xs] (fun r => r = .v (.bool (decide (okD xs)))) :=
  Meets.look (bs := [rowBB xs]) ⟨look_rowBE xs, trivial⟩ (c_iValidDict xs hx)
theorem c_textsCopyE (xs : List (List UInt8)) (hx : xs.length + wBB xs ≤ 1048576) : Meets Try.prog 106 [rowBE xs] (fun r => r = rowBB xs) :=
  Meets.look (bs := [rowBB xs]) ⟨look_rowBE xs, trivial⟩ (c_textsCopy xs hx)
end Go.Ev
set_option linter.unusedSimpArgs false
set_option linter.unusedVariables false
namespace Go.Ev
open Go Go.RowKit Go.Proofs
theorem bl3 : Nat.ble 1 3 = true ∧ Nat.ble 2 3 = true ∧ Nat.ble 3 3 = true ∧ Nat.ble 1 4 = true ∧ Nat.ble 2 4 = true ∧ Nat.ble 3 4 = true ∧ Nat.ble 4 4 = true := ⟨rfl, rfl, rfl, rfl, rfl, rfl, rfl⟩
end Go.Ev
set_option linter.unusedSimpArgs false
set_option linter.unusedVariables false
namespace Go.Ev
open Go Go.RowKit Go.Proofs
def rowTb (T C : Nat) (xs : List Tb) : AV := .row T 2 (ra (tbC C) xs)
theorem pure_rowTb (T C : Nat) (xs : List Tb) : (rowTb T C xs).pure := pureEls_ra (enc := tbC C) (fun x => ⟨trivial, pureEls_ra (enc := clC) (fun x => ⟨trivial, trivial, pureEls_bytes _, trivial⟩) x.c, trivial⟩) xs
theorem clW_mem {xs : List Cl} {b : Cl} (h : b ∈ xs) : b.f.length ≤ szL clW xs := mem_clW h
end Go.Ev
set_option linter.unusedVariables false
namespace Go.Ev
open Go Go.RowKit
theorem CallV.ofE {P : Program} {f : FuncId} {args cs : List AV} {s : St} {d : Option Nat} {K : St → Prop} {all cargs ccs : List AV} {post : AV → Prop} (h : Meets P f all post) (hp : ∀ r, post r → r.pure)
    (ha : argsE P s false (parTys P f) args = some cargs) (hc : s.coeKL cs = some ccs) (he : cargs ++ ccs = all) (hk : ∀ r, post r → K (s.ret d r)) : CallV P f args cs s d K := by
  subst he
  exact CallV.of h hp ha hc hk
end Go.Ev
set_option linter.unusedSimpArgs false
set_option linter.unusedVariables false
namespace Go.Ev
open Go Go.RowKit Go.Proofs
structure Sn where
  p : Pk
  q : Int
def snC (s : Sn) : List AV := [.v (.int .i64 s.p.a), .v (.int .i64 s.p.b), .v (.int .i64 s.p.c), .v (.int .i64 s.p.d), .v (.bool s.p.e), .row 5 1 (bytesA s.p.f), .v (.int .i64 s.q)]
def rowPk (T : Nat) (ps : List Pk) : AV := .row T 6 (ra pkC ps)
def rowSn (T : Nat) (ps : List Sn) : AV := .row T 7 (ra snC ps)
theorem pure_rowPk (T : Nat) (ps : List Pk) : (rowPk T ps).pure := pureEls_ra (enc := pkC) (fun x => ⟨trivial, trivial, trivial, trivial, trivial, pureEls_bytes _, trivial⟩) ps
theorem pure_rowSn (T : Nat) (ps : List Sn) : (rowSn T ps).pure := pureEls_ra (enc := snC) (fun x => ⟨trivial, trivial, trivial, trivial, trivial, pureEls_bytes _, trivial, trivial⟩) ps
end Go.Ev
set_option linter.unusedSimpArgs false
set_option linter.unusedVariables false
namespace Go.Ev
open Go Go.RowKit Go.Proofs
theorem mem_szL {α : Type} (W : α → Nat) {xs : List α} {b : α} (h : b ∈ xs) : W b ≤ szL W xs := by
  obtain ⟨i, hi, rfl⟩ := List.mem_iff_getElem.1 h
  have := szL_at_le W hi
  omega
end Go.Ev
set_option linter.unusedSimpArgs false
set_option linter.unusedVariables false
namespace Go.Ev
open Go Go.RowKit Go.Proofs
def cellsB (f : Fd) (cs : List Cl) : Prop := fdOk f ∧ cs.length ≤ 100 ∧ ∀ c ∈ cs, clOk f c
instance (f : Fd) (cs : List Cl) : Decidable (cellsB f cs) := by unfold cellsB; infer_instance
theorem cs_f {f : Fd} {cs : List Cl} [Decidable (cellsB f cs)] (h : ¬ cellsB f cs) : false = decide (cellsB f cs) := (decide_eq_false h).symm
set_option maxRecDepth 8000 in
theorem c_l2cellsOK (f : Fd) (cs : List Cl) (hf : f.f.length ≤ 1048576) (hx : cs.length ≤ 1048576) (hb : ∀ c ∈ cs, c.f.length ≤ 1048576) : Meets Try.prog 95 [.agg (fdC f), rowCl 151 cs] (fun r => r = .v (.bool (decide (cellsB f cs)))) := by
  refine Meets.introO mixed (hint []) (fun k => (sel (k == 6) [0,1,2,3,4,5,6] [])) Try.func95 rfl (by decide) res_95 rty_95 (by kernel_rfl) ?_; 
  simp -dsimp -implicitDefEqProofs only [go_sem, Nat.reduceBEq, Nat.reduceAdd, Nat.reduceLeDiff, Nat.reduceSub, Int.reduceEq, fdC, rowCl]
  repeat (first | with_reducible refine ask.of (by first | omega | decide) ?_ | simp -dsimp -implicitDefEqProofs only [go_sem, Nat.reduceBEq, Nat.reduceAdd, Nat.reduceLeDiff, Nat.reduceSub, Int.reduceEq, initE, rowCl, bl3])
  refine CallE.of (c_l2fieldOK f hf) (by rintro r rfl; (repeat' first | exact trivial | exact pure_rowB _ | exact pure_rowO _ | exact pure_rowI _ | exact pure_rowBB _ | exact pure_rowPk _ _ | exact pure_rowSn _ _ | exact pure_rowFd _ _ | exact pure_rowBBB _ | exact pure_rowCl _ _ | exact pure_rowTb _ _ _ | refine And.intro ?_ ?_)) (by simp -dsimp -implicitDefEqProofs only [go_sem, Nat.reduceBEq, Nat.reduceAdd, Nat.reduceLeDiff, Nat.reduceSub, Int.reduceEq, fdC]) ?_
  rintro r rfl
  simp -dsimp -implicitDefEqProofs only [go_sem, Nat.reduceBEq, Nat.reduceAdd, Nat.reduceLeDiff, Nat.reduceSub, Int.reduceEq, fdC]
  by_cases h1 : fdOk f
  · repeat (first | with_reducible refine ask.of (by first | omega | decide) ?_ | simp -dsimp -implicitDefEqProofs only [go_sem, Nat.reduceBEq, Nat.reduceAdd, Nat.reduceLeDiff, Nat.reduceSub, Int.reduceEq, decide_eq_true h1, Bool.not_true, initE, rowCl, bl3])
    refine ifB'.of (fun h2 => ?_) (fun h2 => ?_)
    · simp -dsimp -implicitDefEqProofs only [go_sem, Nat.reduceBEq, Nat.reduceAdd, Nat.reduceLeDiff, Nat.reduceSub, Int.reduceEq]
      exact cs_f fun h => by have := h.2.1; omega
    repeat (first | with_reducible refine ask.of (by first | omega | decide) ?_ | simp -dsimp -implicitDefEqProofs only [go_sem, Nat.reduceBEq, Nat.reduceAdd, Nat.reduceLeDiff, Nat.reduceSub, Int.reduceEq, initE, rowCl, bl3])
    refine LoopE.cnt cs.length (fun i s => s.env 1 = .rd .ent 151 3 (ra clC cs) ∧ s.env 2 = .ptr [2] 0 0 0 ∧ s.env 5 = .v (.int .i64 i) ∧ s.σ [2] = some (.box 78 [.rd .ent 5 1 (bytesA f.f), .v (.int .i64 f.k), .v (.int .i64 f.w)]) ∧ ∀ c ∈ cs.take i, clOk f c) ⟨by simp -dsimp -implicitDefEqProofs only [go_sem, Nat.reduceBEq, Nat.reduceAdd, Nat.reduceLeDiff, Nat.reduceSub, Int.reduceEq, initE, rowCl], by simp -dsimp -implicitDefEqProofs only [go_sem, Nat.reduceBEq, Nat.reduceAdd, Nat.reduceLeDiff, Nat.reduceSub, Int.reduceEq], by simp -dsimp -implicitDefEqProofs only [go_sem, Nat.reduceBEq, Nat.reduceAdd, Nat.reduceLeDiff, Nat.reduceSub, Int.reduceEq] <;> rfl, by simp -dsimp -implicitDefEqProofs only [go_sem, Nat.reduceBEq, Nat.reduceAdd, Nat.reduceLeDiff, Nat.reduceSub, Int.reduceEq, initE], by simp⟩ ?_
    rintro i ⟨e, σ⟩ hi ⟨g1, g2, g5, s2, hall⟩ K hK
    simp only at g1 g2 g5 s2
    simp -dsimp -implicitDefEqProofs only [go_sem, Nat.reduceBEq, Nat.reduceAdd, Nat.reduceLeDiff, Nat.reduceSub, Int.reduceEq, g1, g2, g5, s2]
    refine ifB'.of (fun hlt => ?_) (fun hlt => ?_)
    · have hlt : i < cs.length := by omega
      repeat (first | with_reducible refine ask.of (by first | omega | decide) ?_ | simp -dsimp -implicitDefEqProofs only [go_sem, Nat.reduceBEq, Nat.reduceAdd, Nat.reduceLeDiff, Nat.reduceSub, Int.reduceEq, g1, g2, g5, s2, Cl_at hlt, clC, bl3])
      refine CallE.of (c_l2cellOK f cs[i] h1 (hb _ (List.getElem_mem hlt))) (by rintro r rfl; (repeat' first | exact trivial | exact pure_rowB _ | exact pure_rowO _ | exact pure_rowI _ | exact pure_rowBB _ | exact pure_rowPk _ _ | exact pure_rowSn _ _ | exact pure_rowFd _ _ | exact pure_rowBBB _ | exact pure_rowCl _ _ | exact pure_rowTb _ _ _ | refine And.intro ?_ ?_)) (by simp -dsimp -implicitDefEqProofs only [go_sem, Nat.reduceBEq, Nat.reduceAdd, Nat.reduceLeDiff, Nat.reduceSub, Int.reduceEq, g1, g2, g5, s2, fdC, clC]) ?_
      rintro r rfl
      simp -dsimp -implicitDefEqProofs only [go_sem, Nat.reduceBEq, Nat.reduceAdd, Nat.reduceLeDiff, Nat.reduceSub, Int.reduceEq, g1, g2, g5, s2, fdC, clC]
      by_cases hc : clOk f cs[i]
      · repeat (first | with_reducible refine ask.of (by first | omega | decide) ?_ | simp -dsimp -implicitDefEqProofs only [go_sem, Nat.reduceBEq, Nat.reduceAdd, Nat.reduceLeDiff, Nat.reduceSub, Int.reduceEq, g1, g2, g5, s2, decide_eq_true hc, Bool.not_true, bl3])
        refine hK _ hlt ?_
        simp -dsimp -implicitDefEqProofs only [go_sem, Nat.reduceBEq, Nat.reduceAdd, Nat.reduceLeDiff, Nat.reduceSub, Int.reduceEq, g1, g2, g5, s2, wrap_succ (show i < 4611686018427387904 by omega)]
        intro c hcm
        rw [List.take_succ_eq_append_getElem hlt] at hcm
        rcases List.mem_append.1 hcm with hcm | hcm
        · exact hall c hcm
        · rw [List.mem_singleton.1 hcm]; exact hc
      · simp -dsimp -implicitDefEqProofs only [go_sem, Nat.reduceBEq, Nat.reduceAdd, Nat.reduceLeDiff, Nat.reduceSub, Int.reduceEq, g1, g2, g5, s2, decide_eq_false hc, Bool.not_false]
        exact cs_f fun h => hc (h.2.2 _ (List.getElem_mem hlt))
    · have : i = cs.length := by omega
      subst this
      rw [List.take_length] at hall
      simp -dsimp -implicitDefEqProofs only [go_sem, Nat.reduceBEq, Nat.reduceAdd, Nat.reduceLeDiff, Nat.reduceSub, Int.reduceEq, g1, g2, g5, s2]
      exact (decide_eq_true (show cellsB f cs from ⟨h1, by omega, hall⟩)).symm
  · simp -dsimp -implicitDefEqProofs only [go_sem, Nat.reduceBEq, Nat.reduceAdd, Nat.reduceLeDiff, Nat.reduceSub, Int.reduceEq, decide_eq_false h1, Bool.not_false]
    exact cs_f fun h => h1 h.1
end Go.Ev
set_option linter.unusedSimpArgs false
set_option linter.unusedVariables false
namespace Go.Ev
open Go Go.RowKit Go.Proofs
def fdD : Fd := ⟨[100], 3, 0⟩
def frD (vs ds : List (List UInt8)) : List (List UInt8) := ds.filter fun t => t ∉ vs
structure Pln where
  k : Int
  n : List (List UInt8)
  v : List (List UInt8)
def plnC (x : Pln) : List AV := [.v (.int .i64 x.k), .row 25 1 (ra byC x.n), .row 25 1 (ra byC x.v)]
def resPl (xc : Pln × Int) : AV := .tup [.agg (plnC xc.1), .v (.int .i64 xc.2)]
def pln0 : Pln := ⟨0, [], []⟩
def planL (vs : List (List UInt8)) (cs : List Cl) : Pln × Int :=
  if ¬ (okD vs ∧ cellsB fdD cs) then (pln0, 1)
  else if frD vs (dst cs) = [] then (⟨0, [], vs⟩, 0)
  else if okD (vs ++ frD vs (dst cs)) then (⟨1, frD vs (dst cs), vs ++ frD vs (dst cs)⟩, 0)
  else if okD (dst cs) then (⟨2, dst cs, dst cs⟩, 0)
  else (pln0, 2)
theorem frD_snoc (vs ds : List (List UInt8)) {i : Nat} (h : i < ds.length) : frD vs (ds.take (i + 1)) = if ds[i] ∉ vs then frD vs (ds.take i) ++ [ds[i]] else frD vs (ds.take i) := by
  unfold frD
  rw [List.take_succ_eq_append_getElem h, List.filter_append]
  by_cases hm : ds[i] ∈ vs <;> simp [hm]
theorem frD_len (vs ds : List (List UInt8)) : (frD vs ds).length ≤ ds.length := List.length_filter_le _ _
theorem c_l2textsA (xs : List Cl) (hx : xs.length ≤ 100) (hb : ∀ b ∈ xs, b.f.length ≤ 1048576) : Meets Try.prog 96 [.rd .ent 151 3 (ra clC xs), .v (.int .i64 100)] (fun r => r = rowBE (dst xs)) := by
  refine Meets.intro mixed (hint [(5, 139)]) Try.func96 rfl (by decide) res_96 rty_96 (by kernel_rfl) ?_; 
  simp -dsimp -implicitDefEqProofs only [go_sem, Nat.reduceBEq, Nat.reduceAdd, Nat.reduceLeDiff, Nat.reduceSub, Int.reduceEq]
  refine LoopE.cnt xs.length (fun i s => s.env 0 = .rd .ent 151 3 (ra clC xs) ∧ s.env 1 = .v (.int .i64 100) ∧ s.env 5 = .ref [5] ∧ s.env 6 = .v (.int .i64 i) ∧ s.σ [5] = some (.row 25 1 (ra byE (dst (xs.take i))))) ⟨by simp -dsimp -implicitDefEqProofs only [go_sem, Nat.reduceBEq, Nat.reduceAdd, Nat.reduceLeDiff, Nat.reduceSub, Int.reduceEq, initE], by simp -dsimp -implicitDefEqProofs only [go_sem, Nat.reduceBEq, Nat.reduceAdd, Nat.reduceLeDiff, Nat.reduceSub, Int.reduceEq, initE], by simp -dsimp -implicitDefEqProofs only [go_sem, Nat.reduceBEq, Nat.reduceAdd, Nat.reduceLeDiff, Nat.reduceSub, Int.reduceEq], by simp -dsimp -implicitDefEqProofs only [go_sem, Nat.reduceBEq, Nat.reduceAdd, Nat.reduceLeDiff, Nat.reduceSub, Int.reduceEq], by simp -dsimp -implicitDefEqProofs only [go_sem, Nat.reduceBEq, Nat.reduceAdd, Nat.reduceLeDiff, Nat.reduceSub, Int.reduceEq] <;> rfl⟩ ?_
  rintro i ⟨e, σ⟩ hi ⟨h0, h1, h5, h6, hs⟩ K hK
  simp only at h0 h1 h5 h6 hs
  simp -dsimp -implicitDefEqProofs only [go_sem, Nat.reduceBEq, Nat.reduceAdd, Nat.reduceLeDiff, Nat.reduceSub, Int.reduceEq, h0, h1, h5, h6, hs]
  refine ifB'.of (fun hlt => ?_) (fun hlt => ?_)
  · have hlt : i < xs.length := by omega
    simp -dsimp -implicitDefEqProofs only [go_sem, Nat.reduceBEq, Nat.reduceAdd, Nat.reduceLeDiff, Nat.reduceSub, Int.reduceEq, h0, h1, h5, h6, hs]
    refine ifB'.of (fun hle => ?_) (fun hle => ?_)
    · have hdl := dst_len xs i hi
      have hdb : ∀ b ∈ dst (xs.take i), b.length ≤ 140737488355328 := fun b h => by
        obtain ⟨c, hc, rfl⟩ := dst_mem hi h
        have := hb c hc; omega
      simp -dsimp -implicitDefEqProofs only [go_sem, Nat.reduceBEq, Nat.reduceAdd, Nat.reduceLeDiff, Nat.reduceSub, Int.reduceEq, h0, h1, h5, h6, hs, Cl_at hlt, clC]
      repeat (first | with_reducible refine ask.of (by omega) ?_ | simp -dsimp -implicitDefEqProofs only [go_sem, Nat.reduceBEq, Nat.reduceAdd, Nat.reduceLeDiff, Nat.reduceSub, Int.reduceEq, h0, h1, h5, h6, hs, Cl_at hlt, clC, bleF])
      cases hz : xs[i].z
      · simp -dsimp -implicitDefEqProofs only [go_sem, Nat.reduceBEq, Nat.reduceAdd, Nat.reduceLeDiff, Nat.reduceSub, Int.reduceEq, h0, h1, h5, h6, hs, hz, Bool.not_false]
        repeat (first | with_reducible refine ask.of (by omega) ?_ | simp -dsimp -implicitDefEqProofs only [go_sem, Nat.reduceBEq, Nat.reduceAdd, Nat.reduceLeDiff, Nat.reduceSub, Int.reduceEq, h0, h1, h5, h6, hs, hz, Cl_at hlt, clC, bleF, Bool.not_false])
        refine CallE.of (c_l2placeE (dst (xs.take i)) xs[i].f (by omega) hdb (by have := hb _ (List.getElem_mem hlt); omega)) (by rintro r rfl; (repeat' first | exact trivial | exact pure_rowB _ | exact pure_rowO _ | exact pure_rowI _ | exact pure_rowBB _ | exact pure_rowPk _ _ | exact pure_rowSn _ _ | exact pure_rowFd _ _ | exact pure_rowBBB _ | exact pure_rowCl _ _ | exact pure_rowTb _ _ _ | refine And.intro ?_ ?_)) (by simp -dsimp -implicitDefEqProofs only [go_sem, Nat.reduceBEq, Nat.reduceAdd, Nat.reduceLeDiff, Nat.reduceSub, Int.reduceEq, h0, h1, h5, h6, hs, hz, Bool.not_false]) ?_
        rintro r rfl
        simp -dsimp -implicitDefEqProofs only [go_sem, Nat.reduceBEq, Nat.reduceAdd, Nat.reduceLeDiff, Nat.reduceSub, Int.reduceEq, h0, h1, h5, h6, hs, hz, Bool.not_false]
        have hp := plI_nonneg (dst (xs.take i)) xs[i].f
        refine ifB'.of (fun hq => ?_) (fun hq => ?_)
        · have hnew : xs[i].f ∉ dst (xs.take i) := fun h => by have := hp.2 h; omega
          simp -dsimp -implicitDefEqProofs only [go_sem, Nat.reduceBEq, Nat.reduceAdd, Nat.reduceLeDiff, Nat.reduceSub, Int.reduceEq, h0, h1, h5, h6, hs, Cl_at hlt, clC]
          repeat (first | with_reducible refine ask.of (by first | omega | (simp; omega)) ?_ | simp -dsimp -implicitDefEqProofs only [go_sem, Nat.reduceBEq, Nat.reduceAdd, Nat.reduceLeDiff, Nat.reduceSub, Int.reduceEq, h0, h1, h5, h6, hs, hz, Cl_at hlt, clC, bleF, Bool.not_false])
          refine hK _ hlt ?_
          simp -dsimp -implicitDefEqProofs only [go_sem, Nat.reduceBEq, Nat.reduceAdd, Nat.reduceLeDiff, Nat.reduceSub, Int.reduceEq, h0, h1, h5, h6, hs, wrap_succ (show i < 4611686018427387904 by omega), dst_succ hlt, dstep_yes ⟨hz, hnew⟩]
        · have hold : xs[i].f ∈ dst (xs.take i) := hp.1 (by omega)
          simp -dsimp -implicitDefEqProofs only [go_sem, Nat.reduceBEq, Nat.reduceAdd, Nat.reduceLeDiff, Nat.reduceSub, Int.reduceEq, h0, h1, h5, h6, hs]
          refine hK _ hlt ?_
          simp -dsimp -implicitDefEqProofs only [go_sem, Nat.reduceBEq, Nat.reduceAdd, Nat.reduceLeDiff, Nat.reduceSub, Int.reduceEq, h0, h1, h5, h6, hs, wrap_succ (show i < 4611686018427387904 by omega), dst_succ hlt, dstep_no (fun h => h.2 hold)]
      · have hno : dstep (dst (xs.take i)) xs[i] = dst (xs.take i) := dstep_no (fun h => by rw [hz] at h; cases h.1)
        simp -dsimp -implicitDefEqProofs only [go_sem, Nat.reduceBEq, Nat.reduceAdd, Nat.reduceLeDiff, Nat.reduceSub, Int.reduceEq, h0, h1, h5, h6, hs, hz, Bool.not_true]
        refine hK _ hlt ?_
        simp -dsimp -implicitDefEqProofs only [go_sem, Nat.reduceBEq, Nat.reduceAdd, Nat.reduceLeDiff, Nat.reduceSub, Int.reduceEq, h0, h1, h5, h6, hs, wrap_succ (show i < 4611686018427387904 by omega), dst_succ hlt, hno]
    · have := dst_len xs i hi
      omega
  · have : i = xs.length := by omega
    subst this
    simp -dsimp -implicitDefEqProofs only [go_sem, Nat.reduceBEq, Nat.reduceAdd, Nat.reduceLeDiff, Nat.reduceSub, Int.reduceEq, h0, h1, h5, h6, hs]
    rw [List.take_length]
end Go.Ev
