/- What the given program's table of types and functions says, by reckoning. (Printed by wip/gen.) -/
import Derived.Test.YtjmmdlifljlogaaEvm
import Derived.Test.YtjmmdlifljlogaaProg
import Derived.KernelRfl
namespace Go.Ev
open Go Go.Proofs
theorem mixed : Try.prog.follows .mixedOrders = true := by kernel_rfl
theorem elTy_23 : elTy Try.prog 23 = some (5, 1, 1) := by kernel_rfl
theorem par_16 : parTys Try.prog 16 = [23] := by kernel_rfl
theorem cty_23 : cty Try.prog 23 = [some (5, 1)] := by kernel_rfl
theorem par_15 : parTys Try.prog 15 = [23] := by kernel_rfl
theorem par_17 : parTys Try.prog 17 = [23] := by kernel_rfl
theorem par_18 : parTys Try.prog 18 = [23, 23] := by kernel_rfl
theorem cty_4 : cty Try.prog 4 = [none] := by kernel_rfl
theorem ixTy_23 : ixTy Try.prog 23 = some (.sl (5, 1, 1)) := by kernel_rfl
theorem tySz_5 : tySz Try.prog 5 = some (1, false) := by kernel_rfl
theorem cvTy_5_24 : cvTy Try.prog 5 24 = some (.int .u32) := by kernel_rfl
theorem cty_24 : cty Try.prog 24 = [none] := by kernel_rfl
theorem zeroC_5 : zeroC Try.prog 5 = some [.v (.int .u8 0)] := by kernel_rfl
theorem cty_5 : cty Try.prog 5 = [none] := by kernel_rfl
theorem par_63 : parTys Try.prog 63 = [] := by kernel_rfl
theorem zeroC_86 : zeroC Try.prog 86 = some (List.replicate 256 (.v (.int .u32 0))) := by kernel_rfl
theorem tySz_86 : tySz Try.prog 86 = some (256, true) := by kernel_rfl
theorem cvTy_24_5 : cvTy Try.prog 24 5 = some (.int .u8) := by kernel_rfl
theorem ixTy_86 : ixTy Try.prog 86 = some (.ar 256 1) := by kernel_rfl
theorem tySz_24 : tySz Try.prog 24 = some (1, false) := by kernel_rfl
theorem bldTy_86 : bldTy Try.prog 86 = some (.ar 1) := by kernel_rfl
theorem cvTy_3_24 : cvTy Try.prog 3 24 = some (.int .u32) := by kernel_rfl
theorem cty_86 : cty Try.prog 86 = [none] := by kernel_rfl
theorem res_4 : Try.f4.results.toList = [.tmp 2] := rfl
theorem rty_4 : Try.f4.resultTypes.toList = [4] := rfl
theorem res_15 : Try.f15.results.toList = [.tmp 2] := rfl
theorem rty_15 : Try.f15.resultTypes.toList = [24] := rfl
theorem res_16 : Try.f16.results.toList = [.tmp 2] := rfl
theorem rty_16 : Try.f16.resultTypes.toList = [23] := rfl
theorem res_17 : Try.f17.results.toList = [.tmp 2] := rfl
theorem rty_17 : Try.f17.resultTypes.toList = [24] := rfl
theorem res_18 : Try.f18.results.toList = [.tmp 4] := rfl
theorem rty_18 : Try.f18.resultTypes.toList = [4] := rfl
theorem res_63 : Try.f63.results.toList = [.cell 0 86] := rfl
theorem rty_63 : Try.f63.resultTypes.toList = [86] := rfl
attribute [go_sem] elTy_23 par_16 cty_23 par_15 par_17 par_18 cty_4 ixTy_23 tySz_5 cvTy_5_24 cty_24 zeroC_5 cty_5 par_63 zeroC_86 tySz_86 cvTy_24_5 ixTy_86 tySz_24 bldTy_86 cvTy_3_24 cty_86
end Go.Ev
