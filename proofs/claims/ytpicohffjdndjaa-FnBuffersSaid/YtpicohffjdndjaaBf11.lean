/- Part 11 of what the row leans on: the evaluator, words, contracts of functions; pruned by a program of ours. -/
import Derived.Test.YtpicohffjdndjaaBf10
import Derived.Test.YtpicohffjdndjaaProg
import Derived.KernelRfl
namespace Go.Ev
open Go Go.Proofs
theorem mixed : Try.prog.follows .mixedOrders = true := by kernel_rfl
theorem cty_22 : cty Try.prog 22 = [some (37, 1)] := by kernel_rfl
theorem cty_3 : cty Try.prog 3 = [none] := by kernel_rfl
theorem boolTy_4 : boolTy Try.prog 4 = some () := by kernel_rfl
theorem cty_4 : cty Try.prog 4 = [none] := by kernel_rfl
theorem cty_37 : cty Try.prog 37 = [some (5, 1)] := by kernel_rfl
theorem elTy_37 : elTy Try.prog 37 = some (5, 1, 1) := by kernel_rfl
theorem par_38 : parTys Try.prog 38 = [37] := by kernel_rfl
theorem par_40 : parTys Try.prog 40 = [49] := by kernel_rfl
theorem cty_49 : cty Try.prog 49 = [some (4, 1)] := by kernel_rfl
theorem elTy_49 : elTy Try.prog 49 = some (4, 1, 1) := by kernel_rfl
theorem par_39 : parTys Try.prog 39 = [37, 3] := by kernel_rfl
theorem ixTy_49 : ixTy Try.prog 49 = some (.sl (4, 1, 1)) := by kernel_rfl
theorem tySz_4 : tySz Try.prog 4 = some (1, false) := by kernel_rfl
theorem par_41 : parTys Try.prog 41 = [37] := by kernel_rfl
theorem par_42 : parTys Try.prog 42 = [37, 3] := by kernel_rfl
theorem zeroC_5 : zeroC Try.prog 5 = some [.v (.int .u8 0)] := by kernel_rfl
theorem cty_5 : cty Try.prog 5 = [none] := by kernel_rfl
theorem par_43 : parTys Try.prog 43 = [37, 37] := by kernel_rfl
theorem par_44 : parTys Try.prog 44 = [37] := by kernel_rfl
theorem par_45 : parTys Try.prog 45 = [56, 3] := by kernel_rfl
theorem cty_56 : cty Try.prog 56 = [some (3, 1)] := by kernel_rfl
theorem elTy_56 : elTy Try.prog 56 = some (3, 1, 8) := by kernel_rfl
theorem zeroC_3 : zeroC Try.prog 3 = some [.v (.int .i64 0)] := by kernel_rfl
theorem par_46 : parTys Try.prog 46 = [56, 3] := by kernel_rfl
theorem par_47 : parTys Try.prog 47 = [37, 3] := by kernel_rfl
theorem par_48 : parTys Try.prog 48 = [56, 56] := by kernel_rfl
theorem par_49 : parTys Try.prog 49 = [37] := by kernel_rfl
theorem par_50 : parTys Try.prog 50 = [22] := by kernel_rfl
theorem elTy_22 : elTy Try.prog 22 = some (37, 1, 24) := by kernel_rfl
theorem ixTy_22 : ixTy Try.prog 22 = some (.sl (37, 1, 24)) := by kernel_rfl
theorem tySz_37 : tySz Try.prog 37 = some (1, false) := by kernel_rfl
theorem ixTy_37 : ixTy Try.prog 37 = some (.sl (5, 1, 1)) := by kernel_rfl
theorem tySz_5 : tySz Try.prog 5 = some (1, false) := by kernel_rfl
theorem zeroC_37 : zeroC Try.prog 37 = some [.v (.slice none 0 0)] := by kernel_rfl
theorem cvTy_3_5 : cvTy Try.prog 3 5 = some (.int .u8) := by kernel_rfl
theorem cvTy_37_9 : cvTy Try.prog 37 9 = some .bytes := by kernel_rfl
theorem tySz_3 : tySz Try.prog 3 = some (1, false) := by kernel_rfl
theorem par_97 : parTys Try.prog 97 = [3, 3] := by kernel_rfl
theorem par_102 : parTys Try.prog 102 = [37] := by kernel_rfl
theorem par_103 : parTys Try.prog 103 = [131] := by kernel_rfl
theorem cty_131 : cty Try.prog 131 = [none] := by kernel_rfl
theorem zeroC_4 : zeroC Try.prog 4 = some [.v (.bool false)] := by kernel_rfl
theorem par_104 : parTys Try.prog 104 = [37, 37] := by kernel_rfl
theorem par_105 : parTys Try.prog 105 = [131, 3] := by kernel_rfl
theorem cvTy_3_135 : cvTy Try.prog 3 135 = some (.int .u64) := by kernel_rfl
theorem par_106 : parTys Try.prog 106 = [131] := by kernel_rfl
theorem par_107 : parTys Try.prog 107 = [131] := by kernel_rfl
theorem par_108 : parTys Try.prog 108 = [3, 3] := by kernel_rfl
theorem par_109 : parTys Try.prog 109 = [3] := by kernel_rfl
theorem ixTy_56 : ixTy Try.prog 56 = some (.sl (3, 1, 8)) := by kernel_rfl
theorem par_110 : parTys Try.prog 110 = [56, 3] := by kernel_rfl
theorem par_111 : parTys Try.prog 111 = [56, 3] := by kernel_rfl
theorem par_112 : parTys Try.prog 112 = [56, 3] := by kernel_rfl
theorem par_113 : parTys Try.prog 113 = [56, 3] := by kernel_rfl
theorem par_114 : parTys Try.prog 114 = [37, 3] := by kernel_rfl
theorem par_115 : parTys Try.prog 115 = [37, 3] := by kernel_rfl
theorem par_116 : parTys Try.prog 116 = [37, 3] := by kernel_rfl
theorem par_117 : parTys Try.prog 117 = [37, 3] := by kernel_rfl
theorem cvTy_5_3 : cvTy Try.prog 5 3 = some (.int .i64) := by kernel_rfl
theorem par_120 : parTys Try.prog 120 = [37] := by kernel_rfl
theorem cvTy_3_174 : cvTy Try.prog 3 174 = some (.int .u64) := by kernel_rfl
theorem cvTy_174_5 : cvTy Try.prog 174 5 = some (.int .u8) := by kernel_rfl
theorem bldTy_176 : bldTy Try.prog 176 = some (.st [(0, 1), (1, 1)]) := by kernel_rfl
theorem zeroC_176 : zeroC Try.prog 176 = some [.v (.slice none 0 0), .v (.int .i64 0)] := by kernel_rfl
theorem tySz_176 : tySz Try.prog 176 = some (2, true) := by kernel_rfl
theorem fldTy_176_1 : fldTy Try.prog 176 1 = some (1, 1, false) := by kernel_rfl
theorem fldTy_176_0 : fldTy Try.prog 176 0 = some (0, 1, false) := by kernel_rfl
theorem cvTy_3_139 : cvTy Try.prog 3 139 = some (.int .i8) := by kernel_rfl
theorem cvTy_139_3 : cvTy Try.prog 139 3 = some (.int .i64) := by kernel_rfl
theorem cvTy_3_140 : cvTy Try.prog 3 140 = some (.int .i16) := by kernel_rfl
theorem cvTy_140_3 : cvTy Try.prog 140 3 = some (.int .i64) := by kernel_rfl
theorem cvTy_3_21 : cvTy Try.prog 3 21 = some (.int .i32) := by kernel_rfl
theorem cvTy_21_3 : cvTy Try.prog 21 3 = some (.int .i64) := by kernel_rfl
theorem cvTy_2_139 : cvTy Try.prog 2 139 = some (.int .i8) := by kernel_rfl
theorem cvTy_2_140 : cvTy Try.prog 2 140 = some (.int .i16) := by kernel_rfl
theorem cvTy_2_21 : cvTy Try.prog 2 21 = some (.int .i32) := by kernel_rfl
theorem cvTy_5_2 : cvTy Try.prog 5 2 = some (.int .i64) := by kernel_rfl
theorem cty_2 : cty Try.prog 2 = [none] := by kernel_rfl
theorem res_7 : Try.f7.results.toList = [.tmp 2] := rfl
theorem rty_7 : Try.f7.resultTypes.toList = [4] := rfl
theorem res_38 : Try.f38.results.toList = [.tmp 2] := rfl
theorem rty_38 : Try.f38.resultTypes.toList = [49] := rfl
theorem res_39 : Try.f39.results.toList = [.tmp 4, .tmp 5] := rfl
theorem rty_39 : Try.f39.resultTypes.toList = [49, 3] := rfl
theorem res_40 : Try.f40.results.toList = [.tmp 2] := rfl
theorem rty_40 : Try.f40.resultTypes.toList = [37] := rfl
theorem res_41 : Try.f41.results.toList = [.tmp 2, .tmp 3] := rfl
theorem rty_41 : Try.f41.resultTypes.toList = [37, 3] := rfl
theorem res_42 : Try.f42.results.toList = [.tmp 4, .tmp 5] := rfl
theorem rty_42 : Try.f42.resultTypes.toList = [49, 3] := rfl
theorem res_43 : Try.f43.results.toList = [.tmp 4] := rfl
theorem rty_43 : Try.f43.resultTypes.toList = [4] := rfl
theorem res_44 : Try.f44.results.toList = [.tmp 2, .tmp 3] := rfl
theorem rty_44 : Try.f44.resultTypes.toList = [56, 3] := rfl
theorem res_45 : Try.f45.results.toList = [.tmp 4, .tmp 5] := rfl
theorem rty_45 : Try.f45.resultTypes.toList = [37, 3] := rfl
theorem res_46 : Try.f46.results.toList = [.tmp 4, .tmp 5] := rfl
theorem rty_46 : Try.f46.resultTypes.toList = [37, 3] := rfl
theorem res_47 : Try.f47.results.toList = [.tmp 4, .tmp 5] := rfl
theorem rty_47 : Try.f47.resultTypes.toList = [56, 3] := rfl
theorem res_48 : Try.f48.results.toList = [.tmp 4] := rfl
theorem rty_48 : Try.f48.resultTypes.toList = [4] := rfl
theorem res_49 : Try.f49.results.toList = [.tmp 2] := rfl
theorem rty_49 : Try.f49.resultTypes.toList = [22] := rfl
theorem res_50 : Try.f50.results.toList = [.tmp 2] := rfl
theorem rty_50 : Try.f50.resultTypes.toList = [37] := rfl
theorem res_97 : Try.f97.results.toList = [.tmp 4] := rfl
theorem rty_97 : Try.f97.resultTypes.toList = [37] := rfl
theorem res_102 : Try.f102.results.toList = [.tmp 2] := rfl
theorem rty_102 : Try.f102.resultTypes.toList = [131] := rfl
theorem res_103 : Try.f103.results.toList = [.tmp 2] := rfl
theorem rty_103 : Try.f103.resultTypes.toList = [3] := rfl
theorem res_104 : Try.f104.results.toList = [.tmp 4] := rfl
theorem rty_104 : Try.f104.resultTypes.toList = [4] := rfl
theorem res_105 : Try.f105.results.toList = [.tmp 4] := rfl
theorem rty_105 : Try.f105.resultTypes.toList = [37] := rfl
theorem res_106 : Try.f106.results.toList = [.tmp 2] := rfl
theorem rty_106 : Try.f106.resultTypes.toList = [3] := rfl
theorem res_107 : Try.f107.results.toList = [.tmp 2] := rfl
theorem rty_107 : Try.f107.resultTypes.toList = [3] := rfl
theorem res_108 : Try.f108.results.toList = [.tmp 4] := rfl
theorem rty_108 : Try.f108.resultTypes.toList = [4] := rfl
theorem res_109 : Try.f109.results.toList = [.tmp 2] := rfl
theorem rty_109 : Try.f109.resultTypes.toList = [4] := rfl
theorem res_110 : Try.f110.results.toList = [.tmp 4, .tmp 5] := rfl
theorem rty_110 : Try.f110.resultTypes.toList = [37, 3] := rfl
theorem res_111 : Try.f111.results.toList = [.tmp 4, .tmp 5] := rfl
theorem rty_111 : Try.f111.resultTypes.toList = [37, 3] := rfl
theorem res_112 : Try.f112.results.toList = [.tmp 4, .tmp 5] := rfl
theorem rty_112 : Try.f112.resultTypes.toList = [37, 3] := rfl
theorem res_113 : Try.f113.results.toList = [.tmp 4, .tmp 5] := rfl
theorem rty_113 : Try.f113.resultTypes.toList = [37, 3] := rfl
theorem res_114 : Try.f114.results.toList = [.tmp 4, .tmp 5] := rfl
theorem rty_114 : Try.f114.resultTypes.toList = [56, 3] := rfl
theorem res_115 : Try.f115.results.toList = [.tmp 4, .tmp 5] := rfl
theorem rty_115 : Try.f115.resultTypes.toList = [56, 3] := rfl
theorem res_116 : Try.f116.results.toList = [.tmp 4, .tmp 5] := rfl
theorem rty_116 : Try.f116.resultTypes.toList = [56, 3] := rfl
theorem res_117 : Try.f117.results.toList = [.tmp 4, .tmp 5] := rfl
theorem rty_117 : Try.f117.resultTypes.toList = [56, 3] := rfl
theorem res_118 : Try.f118.results.toList = [.tmp 2] := rfl
theorem rty_118 : Try.f118.resultTypes.toList = [3] := rfl
theorem res_120 : Try.f120.results.toList = [.tmp 2] := rfl
theorem rty_120 : Try.f120.resultTypes.toList = [2] := rfl
theorem res_157 : Try.f157.results.toList = [.tmp 2] := rfl
theorem rty_157 : Try.f157.resultTypes.toList = [37] := rfl
attribute [go_sem] cty_22 cty_3 boolTy_4 cty_4 cty_37 elTy_37 par_38 par_40 cty_49 elTy_49 par_39 ixTy_49 tySz_4 par_41 par_42 zeroC_5 cty_5 par_43 par_44 par_45 cty_56 elTy_56 zeroC_3 par_46 par_47 par_48 par_49 par_50 elTy_22 ixTy_22 tySz_37 ixTy_37 tySz_5 zeroC_37 cvTy_3_5 cvTy_37_9 tySz_3 par_97 par_102 par_103 cty_131 zeroC_4 par_104 par_105 cvTy_3_135 par_106 par_107 par_108 par_109 ixTy_56 par_110 par_111 par_112 par_113 par_114 par_115 par_116 par_117 cvTy_5_3 par_120 cvTy_3_174 cvTy_174_5 bldTy_176 zeroC_176 tySz_176 fldTy_176_1 fldTy_176_0 cvTy_3_139 cvTy_139_3 cvTy_3_140 cvTy_140_3 cvTy_3_21 cvTy_21_3 cvTy_2_139 cvTy_2_140 cvTy_2_21 cvTy_5_2 cty_2
end Go.Ev
set_option linter.unusedSimpArgs false
set_option linter.unusedVariables false
namespace Go.Ev
open Go Go.RowKit Go.Proofs
def wBB (xs : List (List UInt8)) : Nat := szL List.length xs
end Go.Ev
set_option linter.unusedSimpArgs false
set_option linter.unusedVariables false
namespace Go.Ev
open Go Go.RowKit Go.Proofs
def bitAt (l : List Bool) (j : Nat) : Nat := (l[j]?.getD false).toNat
def hvS (l : List Bool) (b : Nat) : Nat → Nat
  | 0 => 0
  | m + 1 => hvS l b m * 2 + bitAt l (b + (7 - m))
def packN (l : List Bool) : Nat := (l.length + 7) / 8
def packB (l : List Bool) : List UInt8 := (List.range (packN l)).map fun b => UInt8.ofNat (hvS l (8 * b) 8)
theorem packB_length (l : List Bool) : (packB l).length = packN l := by simp [packB]
theorem bitAt_le (l : List Bool) (j : Nat) : bitAt l j ≤ 1 := by unfold bitAt; cases l[j]?.getD false <;> decide
theorem hvS_lt (l : List Bool) (b : Nat) : ∀ m, hvS l b m < 2 ^ m
  | 0 => by simp [hvS]
  | m + 1 => by
    have := hvS_lt l b m
    have := bitAt_le l (b + (7 - m))
    rw [hvS, Nat.pow_succ]; omega
theorem hvS_256 (l : List Bool) (b m : Nat) (hm : m ≤ 8) : hvS l b m < 256 := Nat.lt_of_lt_of_le (hvS_lt l b m) (Nat.pow_le_pow_right (by decide) hm)
theorem bit_or (b : UInt8) (k : Nat) (hk : k < 8) : IntKind.u8.wrap (((BitVec.ofInt IntKind.u8.bits (b.toNat : Int) ||| BitVec.ofInt IntKind.u8.bits (IntKind.u8.wrap (1 * 2 ^ min k 8))).toNat : Nat) : Int) = ((b ||| UInt8.ofNat (2 ^ k)).toNat : Int) := by
  have bv8 : ∀ a : UInt8, BitVec.ofInt 8 (a.toNat : Int) = a.toBitVec := fun a => by apply BitVec.eq_of_toNat_eq; simp
  have e : IntKind.u8.wrap (1 * 2 ^ min k 8) = ((UInt8.ofNat (2 ^ k)).toNat : Int) := by
    match k, hk with
    | 0, _ => rfl
    | 1, _ => rfl
    | 2, _ => rfl
    | 3, _ => rfl
    | 4, _ => rfl
    | 5, _ => rfl
    | 6, _ => rfl
    | 7, _ => rfl
  rw [e]
  show IntKind.u8.wrap (((BitVec.ofInt 8 (b.toNat : Int) ||| BitVec.ofInt 8 ((UInt8.ofNat (2 ^ k)).toNat : Int)).toNat : Nat) : Int) = _
  rw [bv8, bv8, wrap_u8, Nat.mod_eq_of_lt (BitVec.isLt _)]
  rfl
def h8 (x0 x1 x2 x3 x4 x5 x6 x7 : Bool) : Nat := (((((((0 * 2 + x7.toNat) * 2 + x6.toNat) * 2 + x5.toNat) * 2 + x4.toNat) * 2 + x3.toNat) * 2 + x2.toNat) * 2 + x1.toNat) * 2 + x0.toNat
theorem bits_or : ∀ (x0 x1 x2 x3 x4 x5 x6 x7 : Bool), (x0 = false → UInt8.ofNat (h8 x0 x1 x2 x3 x4 x5 x6 x7) ||| 1 = UInt8.ofNat (h8 true x1 x2 x3 x4 x5 x6 x7)) ∧ (x1 = false → UInt8.ofNat (h8 x0 x1 x2 x3 x4 x5 x6 x7) ||| 2 = UInt8.ofNat (h8 x0 true x2 x3 x4 x5 x6 x7)) ∧ (x2 = false → UInt8.ofNat (h8 x0 x1 x2 x3 x4 x5 x6 x7) ||| 4 = UInt8.ofNat (h8 x0 x1 true x3 x4 x5 x6 x7)) ∧ (x3 = false → UInt8.ofNat (h8 x0 x1 x2 x3 x4 x5 x6 x7) ||| 8 = UInt8.ofNat (h8 x0 x1 x2 true x4 x5 x6 x7)) ∧ (x4 = false → UInt8.ofNat (h8 x0 x1 x2 x3 x4 x5 x6 x7) ||| 16 = UInt8.ofNat (h8 x0 x1 x2 x3 true x5 x6 x7)) ∧ (x5 = false → UInt8.ofNat (h8 x0 x1 x2 x3 x4 x5 x6 x7) ||| 32 = UInt8.ofNat (h8 x0 x1 x2 x3 x4 true x6 x7)) ∧ (x6 = false → UInt8.ofNat (h8 x0 x1 x2 x3 x4 x5 x6 x7) ||| 64 = UInt8.ofNat (h8 x0 x1 x2 x3 x4 x5 true x7)) ∧ (x7 = false → UInt8.ofNat (h8 x0 x1 x2 x3 x4 x5 x6 x7) ||| 128 = UInt8.ofNat (h8 x0 x1 x2 x3 x4 x5 x6 true)) := by decide
theorem bits_set (f g : Nat → Bool) (b k : Nat) (hk : k < 8) (hg : ∀ j, j ≠ 8 * b + k → g j = f j) (h0 : f (8 * b + k) = false) (h1 : g (8 * b + k) = true) :
    UInt8.ofNat (h8 (f (8 * b + 0)) (f (8 * b + 1)) (f (8 * b + 2)) (f (8 * b + 3)) (f (8 * b + 4)) (f (8 * b + 5)) (f (8 * b + 6)) (f (8 * b + 7))) ||| UInt8.ofNat (2 ^ k) = UInt8.ofNat (h8 (g (8 * b + 0)) (g (8 * b + 1)) (g (8 * b + 2)) (g (8 * b + 3)) (g (8 * b + 4)) (g (8 * b + 5)) (g (8 * b + 6)) (g (8 * b + 7))) := match k, hk with
  | 0, _ => by rw [hg (8 * b + 1) (by omega), hg (8 * b + 2) (by omega), hg (8 * b + 3) (by omega), hg (8 * b + 4) (by omega), hg (8 * b + 5) (by omega), hg (8 * b + 6) (by omega), hg (8 * b + 7) (by omega), h1]; exact (bits_or (f (8 * b + 0)) (f (8 * b + 1)) (f (8 * b + 2)) (f (8 * b + 3)) (f (8 * b + 4)) (f (8 * b + 5)) (f (8 * b + 6)) (f (8 * b + 7))).1 h0
  | 1, _ => by rw [hg (8 * b + 0) (by omega), hg (8 * b + 2) (by omega), hg (8 * b + 3) (by omega), hg (8 * b + 4) (by omega), hg (8 * b + 5) (by omega), hg (8 * b + 6) (by omega), hg (8 * b + 7) (by omega), h1]; exact (bits_or (f (8 * b + 0)) (f (8 * b + 1)) (f (8 * b + 2)) (f (8 * b + 3)) (f (8 * b + 4)) (f (8 * b + 5)) (f (8 * b + 6)) (f (8 * b + 7))).2.1 h0
  | 2, _ => by rw [hg (8 * b + 0) (by omega), hg (8 * b + 1) (by omega), hg (8 * b + 3) (by omega), hg (8 * b + 4) (by omega), hg (8 * b + 5) (by omega), hg (8 * b + 6) (by omega), hg (8 * b + 7) (by omega), h1]; exact (bits_or (f (8 * b + 0)) (f (8 * b + 1)) (f (8 * b + 2)) (f (8 * b + 3)) (f (8 * b + 4)) (f (8 * b + 5)) (f (8 * b + 6)) (f (8 * b + 7))).2.2.1 h0
  | 3, _ => by rw [hg (8 * b + 0) (by omega), hg (8 * b + 1) (by omega), hg (8 * b + 2) (by omega), hg (8 * b + 4) (by omega), hg (8 * b + 5) (by omega), hg (8 * b + 6) (by omega), hg (8 * b + 7) (by omega), h1]; exact (bits_or (f (8 * b + 0)) (f (8 * b + 1)) (f (8 * b + 2)) (f (8 * b + 3)) (f (8 * b + 4)) (f (8 * b + 5)) (f (8 * b + 6)) (f (8 * b + 7))).2.2.2.1 h0
  | 4, _ => by rw [hg (8 * b + 0) (by omega), hg (8 * b + 1) (by omega), hg (8 * b + 2) (by omega), hg (8 * b + 3) (by omega), hg (8 * b + 5) (by omega), hg (8 * b + 6) (by omega), hg (8 * b + 7) (by omega), h1]; exact (bits_or (f (8 * b + 0)) (f (8 * b + 1)) (f (8 * b + 2)) (f (8 * b + 3)) (f (8 * b + 4)) (f (8 * b + 5)) (f (8 * b + 6)) (f (8 * b + 7))).2.2.2.2.1 h0
  | 5, _ => by rw [hg (8 * b + 0) (by omega), hg (8 * b + 1) (by omega), hg (8 * b + 2) (by omega), hg (8 * b + 3) (by omega), hg (8 * b + 4) (by omega), hg (8 * b + 6) (by omega), hg (8 * b + 7) (by omega), h1]; exact (bits_or (f (8 * b + 0)) (f (8 * b + 1)) (f (8 * b + 2)) (f (8 * b + 3)) (f (8 * b + 4)) (f (8 * b + 5)) (f (8 * b + 6)) (f (8 * b + 7))).2.2.2.2.2.1 h0
  | 6, _ => by rw [hg (8 * b + 0) (by omega), hg (8 * b + 1) (by omega), hg (8 * b + 2) (by omega), hg (8 * b + 3) (by omega), hg (8 * b + 4) (by omega), hg (8 * b + 5) (by omega), hg (8 * b + 7) (by omega), h1]; exact (bits_or (f (8 * b + 0)) (f (8 * b + 1)) (f (8 * b + 2)) (f (8 * b + 3)) (f (8 * b + 4)) (f (8 * b + 5)) (f (8 * b + 6)) (f (8 * b + 7))).2.2.2.2.2.2.1 h0
  | 7, _ => by rw [hg (8 * b + 0) (by omega), hg (8 * b + 1) (by omega), hg (8 * b + 2) (by omega), hg (8 * b + 3) (by omega), hg (8 * b + 4) (by omega), hg (8 * b + 5) (by omega), hg (8 * b + 6) (by omega), h1]; exact (bits_or (f (8 * b + 0)) (f (8 * b + 1)) (f (8 * b + 2)) (f (8 * b + 3)) (f (8 * b + 4)) (f (8 * b + 5)) (f (8 * b + 6)) (f (8 * b + 7))).2.2.2.2.2.2.2 h0
def packT (l : List Bool) (i : Nat) : List UInt8 := (List.range (packN l)).map fun b => UInt8.ofNat (hvS (l.take i) (8 * b) 8)
theorem packT_length (l : List Bool) (i : Nat) : (packT l i).length = packN l := by simp [packT]
theorem packT_zero (l : List Bool) : packT l 0 = List.replicate (packN l) 0 := by
  apply List.ext_getElem (by simp [packT])
  intro i h1 h2
  simp [packT, hvS, bitAt]
theorem packT_full (l : List Bool) : packT l l.length = packB l := by simp [packT, packB]
theorem packT_false (l : List Bool) {i : Nat} (h : i < l.length) (hb : l[i] = false) : packT l (i + 1) = packT l i := by
  have e : ∀ j, bitAt (l.take (i + 1)) j = bitAt (l.take i) j := fun j => by
    unfold bitAt
    rw [List.getElem?_take, List.getElem?_take]
    by_cases h1 : j < i
    · rw [if_pos h1, if_pos (by omega)]
    · rw [if_neg h1]
      by_cases h2 : j = i
      · subst h2; simp [h, hb]
      · rw [if_neg (by omega)]
  have e2 : ∀ b m, hvS (l.take (i + 1)) b m = hvS (l.take i) b m := fun b m => by
    induction m with
    | zero => rfl
    | succ m ih => rw [hvS, hvS, ih, e]
  simp [packT, e2]
theorem packT_true (l : List Bool) {i : Nat} (h : i < l.length) (hb : l[i] = true) {x : UInt8} (hx : (packT l i)[i / 8]? = some x) : (packT l i).set (i / 8) (x ||| UInt8.ofNat (2 ^ (i % 8))) = packT l (i + 1) := by
  have hN : i / 8 < packN l := by unfold packN; omega
  have hx : x = UInt8.ofNat (hvS (l.take i) (8 * (i / 8)) 8) := by simpa [packT, hN, eq_comm] using hx
  have e : ∀ j, j ≠ i → (l.take (i + 1))[j]?.getD false = (l.take i)[j]?.getD false := fun j hj => by
    rw [List.getElem?_take, List.getElem?_take]
    by_cases h1 : j < i
    · rw [if_pos h1, if_pos (by omega)]
    · rw [if_neg h1, if_neg (by omega)]
  have ei : 8 * (i / 8) + i % 8 = i := by omega
  apply List.ext_getElem (by simp [packT])
  intro j h1 h2
  rw [List.getElem_set]
  split
  · rename_i hj
    subst hj
    have := bits_set (fun j => (l.take i)[j]?.getD false) (fun j => (l.take (i + 1))[j]?.getD false) (i / 8) (i % 8) (by omega) (fun j hj => e j (by omega)) (by show (l.take i)[8 * (i / 8) + i % 8]?.getD false = false; rw [ei, List.getElem?_take, if_neg (by omega)]; rfl) (by show (l.take (i + 1))[8 * (i / 8) + i % 8]?.getD false = true; rw [ei]; simp [h, hb])
    rw [hx]
    simp only [packT, List.getElem_map, List.getElem_range]
    exact this
  · rename_i hj
    have e2 : ∀ m, m ≤ 8 → hvS (l.take (i + 1)) (8 * j) m = hvS (l.take i) (8 * j) m := fun m hm => by
      induction m with
      | zero => rfl
      | succ m ih =>
        rw [hvS, hvS, ih (by omega)]
        congr 1
        unfold bitAt
        rw [e _ (by omega)]
    simp [packT, e2 8 (by omega)]
theorem c_iPackBits (bs : List Bool) (hb : bs.length ≤ 8388608) : Meets Try.prog 40 [rowO bs] (fun r => r = rowB (packB bs)) := by
  have eN : IntKind.i64.wrap ((IntKind.i64.wrap ((bs.length : Int) + 7)).tdiv 8) = ((packN bs : Nat) : Int) := by
    rw [wrap_i64_of (n := (bs.length : Int) + 7) (by omega) (by omega), Int.tdiv_eq_ediv_of_nonneg (by omega), wrap_i64_of (by omega) (by omega)]
    unfold packN; omega
  refine Meets.intro mixed (hint [(2, 137)]) Try.func40 rfl (by decide) res_40 rty_40 (by kernel_rfl) ?_; 
  simp -dsimp -implicitDefEqProofs only [go_sem, Nat.reduceBEq, Nat.reduceAdd, Nat.reduceLeDiff, Nat.reduceSub, Int.reduceEq, eN]
  refine ask.of (by unfold packN; omega) ?_
  refine LoopE.cnt bs.length (fun i s => s.env 11 = .rd .ent 4 1 (ra boolC bs) ∧ s.env 12 = .v (.int .i64 bs.length) ∧ s.env 13 = .v (.int .i64 i) ∧ s.env 3 = .ref [10] ∧ s.σ [10] = some (.row 5 1 (bytesA (packT bs i)))) ⟨by simp -dsimp -implicitDefEqProofs only [go_sem, Nat.reduceBEq, Nat.reduceAdd, Nat.reduceLeDiff, Nat.reduceSub, Int.reduceEq, initE], by simp -dsimp -implicitDefEqProofs only [go_sem, Nat.reduceBEq, Nat.reduceAdd, Nat.reduceLeDiff, Nat.reduceSub, Int.reduceEq, initE], by simp -dsimp -implicitDefEqProofs only [go_sem, Nat.reduceBEq, Nat.reduceAdd, Nat.reduceLeDiff, Nat.reduceSub, Int.reduceEq] <;> simp, by simp -dsimp -implicitDefEqProofs only [go_sem, Nat.reduceBEq, Nat.reduceAdd, Nat.reduceLeDiff, Nat.reduceSub, Int.reduceEq], by simp -dsimp -implicitDefEqProofs only [go_sem, Nat.reduceBEq, Nat.reduceAdd, Nat.reduceLeDiff, Nat.reduceSub, Int.reduceEq, packT_zero]⟩ ?_
  rintro i ⟨e, σ⟩ hi ⟨h11, h12, h13, h3, hs⟩ K hK
  simp only at h11 h12 h13 h3 hs
  simp -dsimp -implicitDefEqProofs only [go_sem, Nat.reduceBEq, Nat.reduceAdd, Nat.reduceLeDiff, Nat.reduceSub, Int.reduceEq, h11, h12, h13, h3, hs]
  refine ifB'.of (fun hlt => ?_) (fun hlt => ?_)
  · have hlt : i < bs.length := by omega
    simp -dsimp -implicitDefEqProofs only [go_sem, Nat.reduceBEq, Nat.reduceAdd, Nat.reduceLeDiff, Nat.reduceSub, Int.reduceEq, h11, h12, h13, h3, hs, boolA_at hlt]
    repeat with_reducible refine ask.of (by omega) ?_
    cases hb : bs[i]
    · simp -dsimp -implicitDefEqProofs only [go_sem, Nat.reduceBEq, Nat.reduceAdd, Nat.reduceLeDiff, Nat.reduceSub, Int.reduceEq, h11, h12, h13, h3, hs, hb]
      refine hK _ hlt ?_
      simp -dsimp -implicitDefEqProofs only [go_sem, Nat.reduceBEq, Nat.reduceAdd, Nat.reduceLeDiff, Nat.reduceSub, Int.reduceEq, h11, h12, h13, h3, hs, wrap_succ (show i < 4611686018427387904 by omega), packT_false bs hlt hb]
    · have e1 : IntKind.i64.wrap ((i : Int).tdiv 8) = ((i / 8 : Nat) : Int) := by rw [Int.tdiv_eq_ediv_of_nonneg (by omega), wrap_i64_of (by omega) (by omega)]; omega
      have e2 : (i : Int).tmod 8 = ((i % 8 : Nat) : Int) := rfl
      have hi8 : i / 8 < packN bs := by unfold packN; omega
      obtain ⟨x, hx⟩ : ∃ x, (packT bs i)[i / 8]? = some x := ⟨_, List.getElem?_eq_getElem (by rw [packT_length]; exact hi8)⟩
      simp -dsimp -implicitDefEqProofs only [go_sem, Nat.reduceBEq, Nat.reduceAdd, Nat.reduceLeDiff, Nat.reduceSub, Int.reduceEq, h11, h12, h13, h3, hs, hb, e1, e2, packT_length, bytesA_at' hx]
      repeat with_reducible refine ask.of (by omega) ?_
      refine hK _ hlt ?_
      simp -dsimp -implicitDefEqProofs only [go_sem, Nat.reduceBEq, Nat.reduceAdd, Nat.reduceLeDiff, Nat.reduceSub, Int.reduceEq, h11, h12, h13, h3, hs, wrap_succ (show i < 4611686018427387904 by omega), bit_or x (i % 8) (by omega), packT_true bs hlt hb hx]
  · have : i = bs.length := by omega
    subst this
    simp -dsimp -implicitDefEqProofs only [go_sem, Nat.reduceBEq, Nat.reduceAdd, Nat.reduceLeDiff, Nat.reduceSub, Int.reduceEq, h11, h12, h13, h3, hs, packT_full]
end Go.Ev
set_option linter.unusedSimpArgs false
set_option linter.unusedVariables false
namespace Go.Ev
open Go Go.RowKit Go.Proofs
def bitOf (c : UInt8) (k : Nat) : Bool := decide (c.toNat / 2 ^ k % 2 = 1)
def bitB (b : List UInt8) (i : Nat) : Bool := bitOf (b[i / 8]?.getD 0) (i % 8)
def bitsB (b : List UInt8) (n : Nat) : List Bool := (List.range n).map (bitB b)
theorem bitsB_length (b : List UInt8) (n : Nat) : (bitsB b n).length = n := by simp [bitsB]
theorem bitsB_succ (b : List UInt8) (n : Nat) : bitsB b n ++ [bitB b n] = bitsB b (n + 1) := by simp [bitsB, List.range_succ]
def padOk (b : List UInt8) (n : Nat) : Prop := ∀ j, n ≤ j → j < 8 * b.length → bitB b j = false
instance (b : List UInt8) (n : Nat) : Decidable (padOk b n) :=
  if h : ((List.range (8 * b.length)).all fun j => decide (j < n) || !bitB b j) = true then .isTrue (fun j h1 h2 => by
    have := List.all_eq_true.1 h j (List.mem_range.2 h2)
    have h3 : ¬ j < n := by omega
    simpa [h3] using this)
  else .isFalse (fun hp => h (List.all_eq_true.2 fun j hj => by
    by_cases h1 : j < n
    · simp [h1]
    · have := hp j (by omega) (List.mem_range.1 hj)
      simp [this]))
def unpackC (b : List UInt8) (n : Int) : List Bool × Nat :=
  if n < 0 then ([], 1) else if n > 8 * b.length ∨ n ≤ 8 * ((b.length : Int) - 1) then ([], 3) else if padOk b n.toNat then (bitsB b n.toNat, 0) else ([], 3)
theorem u8_shr (c : UInt8) (k : Nat) (hk : k < 8) : (c.toNat : Int).fdiv (2 ^ (min k 8)) = ((c.toNat / 2 ^ k : Nat) : Int) := by
  rw [Nat.min_eq_left (by omega), Int.fdiv_eq_ediv_of_nonneg _ (Int.le_of_lt (Int.pow_pos (by decide))), Int.natCast_ediv]; simp
theorem u8_and1 (n : Nat) (hn : n < 256) : IntKind.u8.wrap (((BitVec.ofInt IntKind.u8.bits (n : Int) &&& BitVec.ofInt IntKind.u8.bits 1).toNat : Nat) : Int) = ((n % 2 : Nat) : Int) := by
  show IntKind.u8.wrap (((BitVec.ofInt 8 (n : Int) &&& BitVec.ofInt 8 1).toNat : Nat) : Int) = _
  have e : BitVec.ofInt 8 (n : Int) &&& BitVec.ofInt 8 1 = BitVec.ofNat 8 (n % 2) := by
    apply BitVec.eq_of_toNat_eq
    simp [Nat.mod_eq_of_lt hn, Nat.and_one_is_mod]
    omega
  rw [e, wrap_u8]
  simp only [BitVec.toNat_ofNat]
  omega
theorem bit_eq (c : UInt8) (k : Nat) : decide (((c.toNat / 2 ^ k % 2 : Nat) : Int) = 1) = bitOf c k := by
  unfold bitOf
  congr 1
  exact propext ⟨fun h => by omega, fun h => by omega⟩
theorem bit_eq' {b : List UInt8} {i : Nat} (h : i / 8 < b.length) : decide (((b[i / 8].toNat / 2 ^ (i % 8) % 2 : Nat) : Int) = 1) = bitB b i := by rw [bit_eq]; simp [bitB, h]
theorem tmod8' (n : Nat) : (n : Int).tmod 8 = ((n % 8 : Nat) : Int) := rfl
theorem tmod2' (n : Nat) : (n : Int).tmod 2 = ((n % 2 : Nat) : Int) := rfl
theorem bitB_at {b : List UInt8} {i : Nat} (h : i / 8 < b.length) : bitB b i = bitOf b[i / 8] (i % 8) := by simp [bitB, h]
theorem tdiv8 {i : Nat} (hi : i < 4611686018427387904) : IntKind.i64.wrap ((i : Int).tdiv 8) = ((i / 8 : Nat) : Int) := by rw [Int.tdiv_eq_ediv_of_nonneg (by omega), wrap_i64_of (by omega) (by omega)]; omega
theorem wrap_u64 {n : Nat} (h : n < 18446744073709551616) : IntKind.u64.wrap (n : Int) = (n : Int) := by
  simp [IntKind.wrap, IntKind.bits, IntKind.signed]; omega
theorem c_specUnpackBits (b : List UInt8) (n : Int) (hb : b.length ≤ 1048576) (hn : -9223372036854775808 ≤ n) (hn' : n ≤ 9223372036854775807) : Meets Try.prog 42 [rowB b, .v (.int .i64 n)] (fun r => r = .tup [rowO (unpackC b n).1, .v (.int .i64 (unpackC b n).2)]) := by
  have e8 : IntKind.i64.wrap (8 * (b.length : Int)) = ((8 * b.length : Nat) : Int) := by rw [wrap_i64_of (by omega) (by omega)]; omega
  have e9 : IntKind.i64.wrap ((b.length : Int) - 1) = (b.length : Int) - 1 := wrap_i64_of (by omega) (by omega)
  have e10 : IntKind.i64.wrap (8 * ((b.length : Int) - 1)) = 8 * ((b.length : Int) - 1) := wrap_i64_of (by omega) (by omega)
  refine Meets.intro mixed (hint [(6, 149)]) Try.func42 rfl (by decide) res_42 rty_42 (by kernel_rfl) ?_; 
  simp -dsimp -implicitDefEqProofs only [go_sem, Nat.reduceBEq, Nat.reduceAdd, Nat.reduceLeDiff, Nat.reduceSub, Int.reduceEq]
  refine ifB'.of (fun h => ?_) (fun h => ?_)
  · simp -dsimp -implicitDefEqProofs only [go_sem, Nat.reduceBEq, Nat.reduceAdd, Nat.reduceLeDiff, Nat.reduceSub, Int.reduceEq]
    rw [unpackC, if_pos h]; rfl
  simp -dsimp -implicitDefEqProofs only [go_sem, Nat.reduceBEq, Nat.reduceAdd, Nat.reduceLeDiff, Nat.reduceSub, Int.reduceEq, e8]
  have fin3 : n > 8 * b.length ∨ n ≤ 8 * ((b.length : Int) - 1) → unpackC b n = ([], 3) := fun h2 => by rw [unpackC, if_neg h, if_pos h2]
  refine ifB'.of (fun h2 => ?_) (fun h2 => ?_)
  · simp -dsimp -implicitDefEqProofs only [go_sem, Nat.reduceBEq, Nat.reduceAdd, Nat.reduceLeDiff, Nat.reduceSub, Int.reduceEq, fin3 (.inl (by omega))]
    rfl
  simp -dsimp -implicitDefEqProofs only [go_sem, Nat.reduceBEq, Nat.reduceAdd, Nat.reduceLeDiff, Nat.reduceSub, Int.reduceEq, e8, e9, e10]
  refine ifB'.of (fun h3 => ?_) (fun h3 => ?_)
  · simp -dsimp -implicitDefEqProofs only [go_sem, Nat.reduceBEq, Nat.reduceAdd, Nat.reduceLeDiff, Nat.reduceSub, Int.reduceEq, fin3 (.inr (by omega))]
    rfl
  simp -dsimp -implicitDefEqProofs only [go_sem, Nat.reduceBEq, Nat.reduceAdd, Nat.reduceLeDiff, Nat.reduceSub, Int.reduceEq, e8]
  have fin : unpackC b n = if padOk b n.toNat then (bitsB b n.toNat, 0) else ([], 3) := by rw [unpackC, if_neg h, if_neg (by omega)]
  obtain ⟨m, rfl⟩ : ∃ m : Nat, n = m := ⟨n.toNat, by omega⟩
  rw [Int.toNat_natCast] at fin
  refine LoopE.cnt (8 * b.length) (fun i s => s.env 0 = .rd .ent 5 1 (bytesA b) ∧ s.env 1 = .v (.int .i64 m) ∧ s.env 7 = .v (.int .i64 i) ∧ s.env 6 = .ref [6] ∧ s.σ [6] = some (.row 4 1 (ra boolC (bitsB b (min i m)))) ∧ (∀ j, m ≤ j → j < i → bitB b j = false)) ⟨by simp -dsimp -implicitDefEqProofs only [go_sem, Nat.reduceBEq, Nat.reduceAdd, Nat.reduceLeDiff, Nat.reduceSub, Int.reduceEq, initE], by simp -dsimp -implicitDefEqProofs only [go_sem, Nat.reduceBEq, Nat.reduceAdd, Nat.reduceLeDiff, Nat.reduceSub, Int.reduceEq, initE], by simp -dsimp -implicitDefEqProofs only [go_sem, Nat.reduceBEq, Nat.reduceAdd, Nat.reduceLeDiff, Nat.reduceSub, Int.reduceEq], by simp -dsimp -implicitDefEqProofs only [go_sem, Nat.reduceBEq, Nat.reduceAdd, Nat.reduceLeDiff, Nat.reduceSub, Int.reduceEq], by simp -dsimp -implicitDefEqProofs only [go_sem, Nat.reduceBEq, Nat.reduceAdd, Nat.reduceLeDiff, Nat.reduceSub, Int.reduceEq] <;> simp [bitsB] <;> rfl, fun j h1 h2 => by omega⟩ ?_
  rintro i ⟨e, σ⟩ hi ⟨h0, h1, h7, h6, hs, hz⟩ K hK
  simp only at h0 h1 h7 h6 hs
  simp -dsimp -implicitDefEqProofs only [go_sem, Nat.reduceBEq, Nat.reduceAdd, Nat.reduceLeDiff, Nat.reduceSub, Int.reduceEq, h0, h1, h7, h6, hs, e8]
  refine ifB'.of (fun hlt => ?_) (fun hlt => ?_)
  · have hlt : i < 8 * b.length := by omega
    have hd : i / 8 < b.length := by omega
    have e7 : i % 8 < 8 := by omega
    simp -dsimp -implicitDefEqProofs only [go_sem, Nat.reduceBEq, Nat.reduceAdd, Nat.reduceLeDiff, Nat.reduceSub, Int.reduceEq, h0, h1, h7, h6, hs, tdiv8 (show i < 4611686018427387904 by omega), bytesA_at hd, tmod8', wrap_u64 (show i % 8 < 18446744073709551616 by omega), Int.toNat_natCast, u8_shr (b[i / 8]'hd) (i % 8) e7, tmod2', bit_eq' hd]
    repeat with_reducible refine ask.of (by omega) ?_
    refine ifB'.of (fun hin => ?_) (fun hin => ?_)
    · have hin : i < m := by omega
      have e1 : min i m = i := by omega
      have e2 : min (i + 1) m = i + 1 := by omega
      simp -dsimp -implicitDefEqProofs only [go_sem, Nat.reduceBEq, Nat.reduceAdd, Nat.reduceLeDiff, Nat.reduceSub, Int.reduceEq, h0, h1, h7, h6, hs, e1, bitsB_length]
      repeat with_reducible refine ask.of (by omega) ?_
      refine hK _ hlt ?_
      simp -dsimp -implicitDefEqProofs only [go_sem, Nat.reduceBEq, Nat.reduceAdd, Nat.reduceLeDiff, Nat.reduceSub, Int.reduceEq, h0, h1, h7, h6, hs, wrap_succ (show i < 4611686018427387904 by omega), bitsB_succ, e1, e2]
      exact fun j h1 h2 => by omega
    · simp -dsimp -implicitDefEqProofs only [go_sem, Nat.reduceBEq, Nat.reduceAdd, Nat.reduceLeDiff, Nat.reduceSub, Int.reduceEq, h0, h1, h7, h6, hs]
      cases hbit : bitB b i
      · simp -dsimp -implicitDefEqProofs only [go_sem, Nat.reduceBEq, Nat.reduceAdd, Nat.reduceLeDiff, Nat.reduceSub, Int.reduceEq, h0, h1, h7, h6, hs, hbit]
        refine hK _ hlt ?_
        have e1 : min i m = m := by omega
        have e2 : min (i + 1) m = m := by omega
        simp -dsimp -implicitDefEqProofs only [go_sem, Nat.reduceBEq, Nat.reduceAdd, Nat.reduceLeDiff, Nat.reduceSub, Int.reduceEq, h0, h1, h7, h6, hs, wrap_succ (show i < 4611686018427387904 by omega), e1, e2]
        exact fun j h1 h2 => by
          rcases Nat.lt_or_ge j i with h3 | h3
          · exact hz j h1 h3
          · obtain rfl : j = i := by omega
            exact hbit
      · simp -dsimp -implicitDefEqProofs only [go_sem, Nat.reduceBEq, Nat.reduceAdd, Nat.reduceLeDiff, Nat.reduceSub, Int.reduceEq, h0, h1, h7, h6, hs, hbit]
        rw [fin, if_neg (fun hp => by have := hp i (by omega) hlt; rw [hbit] at this; cases this)]
        rfl
  · have : i = 8 * b.length := by omega
    subst this
    have hm : min (8 * b.length) m = m := by omega
    have hpad : padOk b m := fun j h1 h2 => hz j h1 h2
    simp -dsimp -implicitDefEqProofs only [go_sem, Nat.reduceBEq, Nat.reduceAdd, Nat.reduceLeDiff, Nat.reduceSub, Int.reduceEq, h0, h1, h7, h6, hs, fin, if_pos hpad, hm]
end Go.Ev
set_option linter.unusedSimpArgs false
set_option linter.unusedVariables false
namespace Go.Ev
open Go Go.RowKit Go.Proofs
theorem c_bytesEqual (a b : List UInt8) (ha : a.length ≤ 140737488355328) (hb : b.length ≤ 140737488355328) : Meets Try.prog 104 [rowB a, rowB b] (fun r => r = .v (.bool (decide (a = b)))) := by
  refine Meets.intro mixed (hint []) Try.func104 rfl (by decide) res_104 rty_104 (by kernel_rfl) ?_; 
  simp -dsimp -implicitDefEqProofs only [go_sem, Nat.reduceBEq, Nat.reduceAdd, Nat.reduceLeDiff, Nat.reduceSub, Int.reduceEq, initE]
  exact decide_eq_decide.2 ⟨fun h => by simpa using h, fun h => by rw [h]⟩
def bitT (b : List UInt8) (n i : Nat) : List Bool := (List.range n).map fun j => decide (j < i) && bitB b j
theorem bitT_length (b : List UInt8) (n i : Nat) : (bitT b n i).length = n := by simp [bitT]
theorem bitT_zero (b : List UInt8) (n : Nat) : bitT b n 0 = List.replicate n false := by
  apply List.ext_getElem (by simp [bitT])
  intro i h1 h2
  simp [bitT]
theorem bitT_full (b : List UInt8) (n : Nat) : bitT b n n = bitsB b n := by
  apply List.ext_getElem (by simp [bitT, bitsB])
  intro i h1 h2
  simp [bitT, bitsB]
  simp [bitT] at h1
  omega
theorem bitT_set (b : List UInt8) {n i : Nat} (h : i < n) : (bitT b n i).set i (bitB b i) = bitT b n (i + 1) := by
  apply List.ext_getElem (by simp [bitT])
  intro j h1 h2
  rw [List.getElem_set]
  split
  · rename_i hj; subst hj; simp [bitT]
  · rename_i hj
    simp only [bitT, List.getElem_map, List.getElem_range]
    congr 1
    exact decide_eq_decide.2 ⟨fun h => by omega, fun h => by omega⟩
theorem bitsB_get (b : List UInt8) (n j : Nat) : (bitsB b n)[j]?.getD false = (decide (j < n) && bitB b j) := by
  by_cases h : j < n
  · simp [bitsB, h]
  · simp [bitsB, h]
theorem hvS_bit (l : List Bool) (q k : Nat) (hk : k < 8) : bitOf (UInt8.ofNat (hvS l (8 * q) 8)) k = l[8 * q + k]?.getD false := by
  have e : (UInt8.ofNat (hvS l (8 * q) 8)).toNat = hvS l (8 * q) 8 := by
    have := hvS_256 l (8 * q) 8 (by omega)
    simp; omega
  have e2 : hvS l (8 * q) 8 / 2 ^ k % 2 = bitAt l (8 * q + k) := by
    simp only [hvS, Nat.sub_zero, Nat.add_zero]
    have h0 := bitAt_le l (8 * q)
    have h1 := bitAt_le l (8 * q + 1)
    have h2 := bitAt_le l (8 * q + 2)
    have h3 := bitAt_le l (8 * q + 3)
    have h4 := bitAt_le l (8 * q + 4)
    have h5 := bitAt_le l (8 * q + 5)
    have h6 := bitAt_le l (8 * q + 6)
    have h7 := bitAt_le l (8 * q + 7)
    match k, hk with
    | 0, _ => simp; omega
    | 1, _ => simp; omega
    | 2, _ => simp; omega
    | 3, _ => simp; omega
    | 4, _ => simp; omega
    | 5, _ => simp; omega
    | 6, _ => simp; omega
    | 7, _ => simp; omega
  unfold bitOf
  rw [e, e2]
  unfold bitAt
  cases l[8 * q + k]?.getD false <;> rfl
theorem bits_ext (c d : UInt8) (h : ∀ k, k < 8 → bitOf c k = bitOf d k) : c = d := by
  have e : ∀ k, k < 8 → c.toNat / 2 ^ k % 2 = d.toNat / 2 ^ k % 2 := fun k hk => by
    have := h k hk
    unfold bitOf at this
    have := decide_eq_decide.1 this
    omega
  have h0 := e 0 (by omega)
  have h1 := e 1 (by omega)
  have h2 := e 2 (by omega)
  have h3 := e 3 (by omega)
  have h4 := e 4 (by omega)
  have h5 := e 5 (by omega)
  have h6 := e 6 (by omega)
  have h7 := e 7 (by omega)
  have hc := c.toNat_lt
  have hd := d.toNat_lt
  simp at h0 h1 h2 h3 h4 h5 h6 h7
  exact UInt8.toNat_inj.1 (by omega)
theorem pack_unpack (b : List UInt8) (n : Nat) (h : packN (bitsB b n) = b.length) : packB (bitsB b n) = b ↔ padOk b n := by
  have hg : ∀ q (hq : q < b.length) k, k < 8 → bitOf ((packB (bitsB b n))[q]'(by rw [packB_length, h]; exact hq)) k = (decide (8 * q + k < n) && bitB b (8 * q + k)) := fun q hq k hk => by
    simp only [packB, List.getElem_map, List.getElem_range]
    rw [hvS_bit _ _ _ hk, bitsB_get]
  have hB : ∀ q (hq : q < b.length) k, k < 8 → bitB b (8 * q + k) = bitOf b[q] k := fun q hq k hk => by
    have e1 : (8 * q + k) / 8 = q := by omega
    have e2 : (8 * q + k) % 8 = k := by omega
    rw [bitB, e1, e2]; simp [hq]
  constructor
  · intro he j h1 h2
    have hq : j / 8 < b.length := by omega
    have := hg (j / 8) hq (j % 8) (by omega)
    simp only [he] at this
    rw [← hB _ hq _ (by omega), show 8 * (j / 8) + j % 8 = j by omega, decide_eq_false (by omega)] at this
    exact this
  · intro hp
    apply List.ext_getElem (by rw [packB_length, h])
    intro q h1 h2
    refine bits_ext _ _ fun k hk => ?_
    rw [hg q h2 k hk, ← hB q h2 k hk]
    by_cases hj : 8 * q + k < n
    · simp [hj]
    · simp [hj, hp (8 * q + k) (by omega) (by omega)]
theorem c_implUnpackBits (b : List UInt8) (n : Int) (hb : b.length ≤ 1048576) (hn : -9223372036854775808 ≤ n) (hn' : n ≤ 9223372036854775807) : Meets Try.prog 39 [rowB b, .v (.int .i64 n)] (fun r => r = .tup [rowO (unpackC b n).1, .v (.int .i64 (unpackC b n).2)]) := by
  refine Meets.intro mixed (hint []) Try.func39 rfl (by decide) res_39 rty_39 (by kernel_rfl) ?_; 
  simp -dsimp -implicitDefEqProofs only [go_sem, Nat.reduceBEq, Nat.reduceAdd, Nat.reduceLeDiff, Nat.reduceSub, Int.reduceEq]
  refine ifB'.of (fun h => ?_) (fun h => ?_)
  · simp -dsimp -implicitDefEqProofs only [go_sem, Nat.reduceBEq, Nat.reduceAdd, Nat.reduceLeDiff, Nat.reduceSub, Int.reduceEq]
    rw [unpackC, if_pos h]; rfl
  obtain ⟨m, rfl⟩ : ∃ m : Nat, n = m := ⟨n.toNat, by omega⟩
  have e1 : IntKind.i64.wrap ((m : Int).tdiv 8) = ((m / 8 : Nat) : Int) := by rw [Int.tdiv_eq_ediv_of_nonneg (by omega), wrap_i64_of (by omega) (by omega)]; omega
  have e2 : IntKind.i64.wrap (((m / 8 : Nat) : Int) + 1) = ((m / 8 + 1 : Nat) : Int) := by rw [wrap_i64_of (by omega) (by omega)]; omega
  have fin3 : (b.length : Int) ≠ ((m + 7) / 8 : Nat) → unpackC b m = ([], 3) := fun h2 => by rw [unpackC, if_neg h, if_pos (by omega)]
  have fin : (b.length : Int) = ((m + 7) / 8 : Nat) → unpackC b m = if padOk b m then (bitsB b m, 0) else ([], 3) := fun h2 => by rw [unpackC, if_neg h, if_neg (by omega)]; rfl
  have pw : (b.length : Int) = ((m + 7) / 8 : Nat) → packN (bitsB b m) = b.length := fun h2 => by unfold packN; rw [bitsB_length]; omega
  simp -dsimp -implicitDefEqProofs only [go_sem, Nat.reduceBEq, Nat.reduceAdd, Nat.reduceLeDiff, Nat.reduceSub, Int.reduceEq, e1, tmod8']
  refine ifB'.of (fun hr => ?_) (fun hr => ?_)
  · have ez : m / 8 + 1 = (m + 7) / 8 := by omega
    simp -dsimp -implicitDefEqProofs only [go_sem, Nat.reduceBEq, Nat.reduceAdd, Nat.reduceLeDiff, Nat.reduceSub, Int.reduceEq, e2]
    refine ifB'.of (fun h2 => ?_) (fun h2 => ?_)
    rotate_left
    · simp -dsimp -implicitDefEqProofs only [go_sem, Nat.reduceBEq, Nat.reduceAdd, Nat.reduceLeDiff, Nat.reduceSub, Int.reduceEq, fin3 (by omega)]
      rfl
    have h2 : (b.length : Int) = ((m + 7) / 8 : Nat) := by omega
    simp -dsimp -implicitDefEqProofs only [go_sem, Nat.reduceBEq, Nat.reduceAdd, Nat.reduceLeDiff, Nat.reduceSub, Int.reduceEq]
    repeat with_reducible refine ask.of (by omega) ?_
    refine LoopE.cnt m (fun i s => s.env 0 = .rd .ent 5 1 (bytesA b) ∧ s.env 25 = .v (.int .i64 m) ∧ s.env 26 = .v (.int .i64 i) ∧ s.env 7 = .ref [23] ∧ s.σ [23] = some (.row 4 1 (ra boolC (bitT b m i)))) ⟨by simp -dsimp -implicitDefEqProofs only [go_sem, Nat.reduceBEq, Nat.reduceAdd, Nat.reduceLeDiff, Nat.reduceSub, Int.reduceEq, initE], by simp -dsimp -implicitDefEqProofs only [go_sem, Nat.reduceBEq, Nat.reduceAdd, Nat.reduceLeDiff, Nat.reduceSub, Int.reduceEq, initE], by simp -dsimp -implicitDefEqProofs only [go_sem, Nat.reduceBEq, Nat.reduceAdd, Nat.reduceLeDiff, Nat.reduceSub, Int.reduceEq] <;> simp, by simp -dsimp -implicitDefEqProofs only [go_sem, Nat.reduceBEq, Nat.reduceAdd, Nat.reduceLeDiff, Nat.reduceSub, Int.reduceEq], by simp -dsimp -implicitDefEqProofs only [go_sem, Nat.reduceBEq, Nat.reduceAdd, Nat.reduceLeDiff, Nat.reduceSub, Int.reduceEq, bitT_zero]⟩ ?_
    rintro i ⟨e, σ⟩ hi ⟨h0, h25, h26, h7, hs⟩ K hK
    simp only at h0 h25 h26 h7 hs
    simp -dsimp -implicitDefEqProofs only [go_sem, Nat.reduceBEq, Nat.reduceAdd, Nat.reduceLeDiff, Nat.reduceSub, Int.reduceEq, h0, h25, h26, h7, hs]
    refine ifB'.of (fun hlt => ?_) (fun hlt => ?_)
    · have hlt : i < m := by omega
      have hd : i / 8 < b.length := by omega
      have e7 : i % 8 < 8 := by omega
      obtain ⟨x, hx⟩ : ∃ x, (bitT b m i)[i]? = some x := ⟨_, List.getElem?_eq_getElem (by rw [bitT_length]; exact hlt)⟩
      simp -dsimp -implicitDefEqProofs only [go_sem, Nat.reduceBEq, Nat.reduceAdd, Nat.reduceLeDiff, Nat.reduceSub, Int.reduceEq, h0, h25, h26, h7, hs, tdiv8 (show i < 4611686018427387904 by omega), bytesA_at hd, tmod8', u8_shr (b[i / 8]'hd) (i % 8) e7, bit_eq' hd, bitT_length, boolA_at' hx]
      repeat with_reducible refine ask.of (by omega) ?_
      refine hK _ hlt ?_
      simp -dsimp -implicitDefEqProofs only [go_sem, Nat.reduceBEq, Nat.reduceAdd, Nat.reduceLeDiff, Nat.reduceSub, Int.reduceEq, h0, h25, h26, h7, hs, wrap_succ (show i < 4611686018427387904 by omega), u8_and1 _ (show b[i / 8].toNat / 2 ^ (i % 8) < 256 from Nat.lt_of_le_of_lt (Nat.div_le_self _ _) (UInt8.toNat_lt _)), bit_eq' hd, bitT_set b hlt]
    · obtain rfl : i = m := by omega
      rw [bitT_full] at hs
      simp -dsimp -implicitDefEqProofs only [go_sem, Nat.reduceBEq, Nat.reduceAdd, Nat.reduceLeDiff, Nat.reduceSub, Int.reduceEq, h0, h25, h26, h7, hs]
      refine CallE.of (c_iPackBits (bitsB b i) (by rw [bitsB_length]; omega)) (by rintro r rfl; (repeat' first | exact trivial | exact pure_rowB _ | exact pure_rowO _ | exact pure_rowI _ | exact pure_rowBB _ | exact pure_rowPk _ _ | exact pure_rowSn _ _ | exact pure_rowFd _ _ | exact pure_rowBBB _ | exact pure_rowCl _ _ | exact pure_rowTb _ _ _ | refine And.intro ?_ ?_)) (by simp -dsimp -implicitDefEqProofs only [go_sem, Nat.reduceBEq, Nat.reduceAdd, Nat.reduceLeDiff, Nat.reduceSub, Int.reduceEq, h0, h25, h26, h7, hs]) ?_
      rintro r rfl
      simp -dsimp -implicitDefEqProofs only [go_sem, Nat.reduceBEq, Nat.reduceAdd, Nat.reduceLeDiff, Nat.reduceSub, Int.reduceEq, h0, h25, h26, h7, hs]
      refine CallE.of (c_bytesEqual (packB (bitsB b i)) b (by rw [packB_length, pw h2]; omega) (by omega)) (by rintro r rfl; (repeat' first | exact trivial | exact pure_rowB _ | exact pure_rowO _ | exact pure_rowI _ | exact pure_rowBB _ | exact pure_rowPk _ _ | exact pure_rowSn _ _ | exact pure_rowFd _ _ | exact pure_rowBBB _ | exact pure_rowCl _ _ | exact pure_rowTb _ _ _ | refine And.intro ?_ ?_)) (by simp -dsimp -implicitDefEqProofs only [go_sem, Nat.reduceBEq, Nat.reduceAdd, Nat.reduceLeDiff, Nat.reduceSub, Int.reduceEq, h0, h25, h26, h7, hs]) ?_
      rintro r rfl
      simp -dsimp -implicitDefEqProofs only [go_sem, Nat.reduceBEq, Nat.reduceAdd, Nat.reduceLeDiff, Nat.reduceSub, Int.reduceEq, h0, h25, h26, h7, hs]
      refine ifB'.of (fun hp => ?_) (fun hp => ?_)
      · simp -dsimp -implicitDefEqProofs only [go_sem, Nat.reduceBEq, Nat.reduceAdd, Nat.reduceLeDiff, Nat.reduceSub, Int.reduceEq, h0, h25, h26, h7, hs]
        rw [fin h2, if_pos ((pack_unpack b i (pw h2)).1 hp)]
        rfl
      · simp -dsimp -implicitDefEqProofs only [go_sem, Nat.reduceBEq, Nat.reduceAdd, Nat.reduceLeDiff, Nat.reduceSub, Int.reduceEq, h0, h25, h26, h7, hs]
        rw [fin h2, if_neg (fun hq => hp ((pack_unpack b i (pw h2)).2 hq))]
        rfl
  · have ez : m / 8 = (m + 7) / 8 := by omega
    simp -dsimp -implicitDefEqProofs only [go_sem, Nat.reduceBEq, Nat.reduceAdd, Nat.reduceLeDiff, Nat.reduceSub, Int.reduceEq, e1]
    refine ifB'.of (fun h2 => ?_) (fun h2 => ?_)
    rotate_left
    · simp -dsimp -implicitDefEqProofs only [go_sem, Nat.reduceBEq, Nat.reduceAdd, Nat.reduceLeDiff, Nat.reduceSub, Int.reduceEq, fin3 (by omega)]
      rfl
    have h2 : (b.length : Int) = ((m + 7) / 8 : Nat) := by omega
    simp -dsimp -implicitDefEqProofs only [go_sem, Nat.reduceBEq, Nat.reduceAdd, Nat.reduceLeDiff, Nat.reduceSub, Int.reduceEq]
    repeat with_reducible refine ask.of (by omega) ?_
    refine LoopE.cnt m (fun i s => s.env 0 = .rd .ent 5 1 (bytesA b) ∧ s.env 25 = .v (.int .i64 m) ∧ s.env 26 = .v (.int .i64 i) ∧ s.env 7 = .ref [23] ∧ s.σ [23] = some (.row 4 1 (ra boolC (bitT b m i)))) ⟨by simp -dsimp -implicitDefEqProofs only [go_sem, Nat.reduceBEq, Nat.reduceAdd, Nat.reduceLeDiff, Nat.reduceSub, Int.reduceEq, initE], by simp -dsimp -implicitDefEqProofs only [go_sem, Nat.reduceBEq, Nat.reduceAdd, Nat.reduceLeDiff, Nat.reduceSub, Int.reduceEq, initE], by simp -dsimp -implicitDefEqProofs only [go_sem, Nat.reduceBEq, Nat.reduceAdd, Nat.reduceLeDiff, Nat.reduceSub, Int.reduceEq] <;> simp, by simp -dsimp -implicitDefEqProofs only [go_sem, Nat.reduceBEq, Nat.reduceAdd, Nat.reduceLeDiff, Nat.reduceSub, Int.reduceEq], by simp -dsimp -implicitDefEqProofs only [go_sem, Nat.reduceBEq, Nat.reduceAdd, Nat.reduceLeDiff, Nat.reduceSub, Int.reduceEq, bitT_zero]⟩ ?_
    rintro i ⟨e, σ⟩ hi ⟨h0, h25, h26, h7, hs⟩ K hK
    simp only at h0 h25 h26 h7 hs
    simp -dsimp -implicitDefEqProofs only [go_sem, Nat.reduceBEq, Nat.reduceAdd, Nat.reduceLeDiff, Nat.reduceSub, Int.reduceEq, h0, h25, h26, h7, hs]
    refine ifB'.of (fun hlt => ?_) (fun hlt => ?_)
    · have hlt : i < m := by omega
      have hd : i / 8 < b.length := by omega
      have e7 : i % 8 < 8 := by omega
      obtain ⟨x, hx⟩ : ∃ x, (bitT b m i)[i]? = some x := ⟨_, List.getElem?_eq_getElem (by rw [bitT_length]; exact hlt)⟩
      simp -dsimp -implicitDefEqProofs only [go_sem, Nat.reduceBEq, Nat.reduceAdd, Nat.reduceLeDiff, Nat.reduceSub, Int.reduceEq, h0, h25, h26, h7, hs, tdiv8 (show i < 4611686018427387904 by omega), bytesA_at hd, tmod8', u8_shr (b[i / 8]'hd) (i % 8) e7, bit_eq' hd, bitT_length, boolA_at' hx]
      repeat with_reducible refine ask.of (by omega) ?_
      refine hK _ hlt ?_
      simp -dsimp -implicitDefEqProofs only [go_sem, Nat.reduceBEq, Nat.reduceAdd, Nat.reduceLeDiff, Nat.reduceSub, Int.reduceEq, h0, h25, h26, h7, hs, wrap_succ (show i < 4611686018427387904 by omega), u8_and1 _ (show b[i / 8].toNat / 2 ^ (i % 8) < 256 from Nat.lt_of_le_of_lt (Nat.div_le_self _ _) (UInt8.toNat_lt _)), bit_eq' hd, bitT_set b hlt]
    · obtain rfl : i = m := by omega
      rw [bitT_full] at hs
      simp -dsimp -implicitDefEqProofs only [go_sem, Nat.reduceBEq, Nat.reduceAdd, Nat.reduceLeDiff, Nat.reduceSub, Int.reduceEq, h0, h25, h26, h7, hs]
      refine CallE.of (c_iPackBits (bitsB b i) (by rw [bitsB_length]; omega)) (by rintro r rfl; (repeat' first | exact trivial | exact pure_rowB _ | exact pure_rowO _ | exact pure_rowI _ | exact pure_rowBB _ | exact pure_rowPk _ _ | exact pure_rowSn _ _ | exact pure_rowFd _ _ | exact pure_rowBBB _ | exact pure_rowCl _ _ | exact pure_rowTb _ _ _ | refine And.intro ?_ ?_)) (by simp -dsimp -implicitDefEqProofs only [go_sem, Nat.reduceBEq, Nat.reduceAdd, Nat.reduceLeDiff, Nat.reduceSub, Int.reduceEq, h0, h25, h26, h7, hs]) ?_
      rintro r rfl
      simp -dsimp -implicitDefEqProofs only [go_sem, Nat.reduceBEq, Nat.reduceAdd, Nat.reduceLeDiff, Nat.reduceSub, Int.reduceEq, h0, h25, h26, h7, hs]
      refine CallE.of (c_bytesEqual (packB (bitsB b i)) b (by rw [packB_length, pw h2]; omega) (by omega)) (by rintro r rfl; (repeat' first | exact trivial | exact pure_rowB _ | exact pure_rowO _ | exact pure_rowI _ | exact pure_rowBB _ | exact pure_rowPk _ _ | exact pure_rowSn _ _ | exact pure_rowFd _ _ | exact pure_rowBBB _ | exact pure_rowCl _ _ | exact pure_rowTb _ _ _ | refine And.intro ?_ ?_)) (by simp -dsimp -implicitDefEqProofs only [go_sem, Nat.reduceBEq, Nat.reduceAdd, Nat.reduceLeDiff, Nat.reduceSub, Int.reduceEq, h0, h25, h26, h7, hs]) ?_
      rintro r rfl
      simp -dsimp -implicitDefEqProofs only [go_sem, Nat.reduceBEq, Nat.reduceAdd, Nat.reduceLeDiff, Nat.reduceSub, Int.reduceEq, h0, h25, h26, h7, hs]
      refine ifB'.of (fun hp => ?_) (fun hp => ?_)
      · simp -dsimp -implicitDefEqProofs only [go_sem, Nat.reduceBEq, Nat.reduceAdd, Nat.reduceLeDiff, Nat.reduceSub, Int.reduceEq, h0, h25, h26, h7, hs]
        rw [fin h2, if_pos ((pack_unpack b i (pw h2)).1 hp)]
        rfl
      · simp -dsimp -implicitDefEqProofs only [go_sem, Nat.reduceBEq, Nat.reduceAdd, Nat.reduceLeDiff, Nat.reduceSub, Int.reduceEq, h0, h25, h26, h7, hs]
        rw [fin h2, if_neg (fun hq => hp ((pack_unpack b i (pw h2)).2 hq))]
        rfl
end Go.Ev
set_option linter.unusedSimpArgs false
set_option linter.unusedVariables false
namespace Go.Ev
open Go Go.RowKit Go.Proofs
def leN : List UInt8 → Nat
  | [] => 0
  | c :: cs => c.toNat + 256 * leN cs
theorem leN_drop {b : List UInt8} {i : Nat} (h : i < b.length) : leN (b.drop i) = b[i].toNat + 256 * leN (b.drop (i + 1)) := by
  rw [List.drop_eq_getElem_cons h, leN]
theorem wrap_ex (x : Int) : ∃ k : Int, IntKind.i64.wrap x = x + 18446744073709551616 * k := by
  rw [IntKind.wrap_i64]
  exact ⟨-((x + 9223372036854775808) / 18446744073709551616), by omega⟩
theorem wrap_more (x k : Int) : IntKind.i64.wrap (x + 18446744073709551616 * k) = IntKind.i64.wrap x := by
  rw [IntKind.wrap_i64, IntKind.wrap_i64]; omega
theorem wrap_step (n c : Int) : IntKind.i64.wrap (IntKind.i64.wrap (IntKind.i64.wrap n * 256) + c) = IntKind.i64.wrap (c + 256 * n) := by
  obtain ⟨k, hk⟩ := wrap_ex n
  obtain ⟨k2, hk2⟩ := wrap_ex (IntKind.i64.wrap n * 256)
  rw [hk2, hk, show (n + 18446744073709551616 * k) * 256 + 18446744073709551616 * k2 + c = c + 256 * n + 18446744073709551616 * (256 * k + k2) by omega, wrap_more]
theorem or_byte (n : Nat) (c : UInt8) : IntKind.i64.wrap (((BitVec.ofInt IntKind.i64.bits (IntKind.i64.wrap (IntKind.i64.wrap (n : Int) * 2 ^ min (Int.toNat 8) 64)) ||| BitVec.ofInt IntKind.i64.bits (c.toNat : Int)).toNat : Nat) : Int) = IntKind.i64.wrap ((c.toNat + 256 * n : Nat) : Int) := by
  show IntKind.i64.wrap (((BitVec.ofInt 64 (IntKind.i64.wrap (IntKind.i64.wrap (n : Int) * 256)) ||| BitVec.ofInt 64 (c.toNat : Int)).toNat : Nat) : Int) = _
  have hc := c.toNat_lt
  have e : (BitVec.ofInt 64 (IntKind.i64.wrap (IntKind.i64.wrap (n : Int) * 256)) ||| BitVec.ofInt 64 (c.toNat : Int)).toNat = (c.toNat + 256 * n) % 18446744073709551616 := by
    have e1 : (BitVec.ofInt 64 (IntKind.i64.wrap (IntKind.i64.wrap (n : Int) * 256))).toNat = (n % 72057594037927936) <<< 8 := by
      simp only [BitVec.toNat_ofInt, Nat.shiftLeft_eq, IntKind.wrap_i64]
      omega
    have e2 : (BitVec.ofInt 64 (c.toNat : Int)).toNat = c.toNat := by
      simp only [BitVec.toNat_ofInt]
      omega
    rw [BitVec.toNat_or, e1, e2, ← Nat.shiftLeft_add_eq_or_of_lt (by omega), Nat.shiftLeft_eq]
    omega
  rw [e, IntKind.wrap_i64, IntKind.wrap_i64]
  omega
theorem c_l1number (b : List UInt8) (hb : b.length ≤ 1048576) : Meets Try.prog 118 [rowB b] (fun r => r = .v (.int .i64 (IntKind.i64.wrap (leN b)))) := by
  have e1 : IntKind.i64.wrap ((b.length : Int) - 1) = (b.length : Int) - 1 := wrap_i64_of (by omega) (by omega)
  refine Meets.intro mixed (hint []) Try.func118 rfl (by decide) res_118 rty_118 (by kernel_rfl) ?_; 
  simp -dsimp -implicitDefEqProofs only [go_sem, Nat.reduceBEq, Nat.reduceAdd, Nat.reduceLeDiff, Nat.reduceSub, Int.reduceEq, e1]
  refine LoopE.cnt b.length (fun i s => s.env 0 = .rd .ent 5 1 (bytesA b) ∧ s.env 4 = .v (.int .i64 ((b.length : Int) - 1 - i)) ∧ s.env 3 = .v (.int .i64 (IntKind.i64.wrap (leN (b.drop (b.length - i)))))) ⟨by simp -dsimp -implicitDefEqProofs only [go_sem, Nat.reduceBEq, Nat.reduceAdd, Nat.reduceLeDiff, Nat.reduceSub, Int.reduceEq, initE], by simp -dsimp -implicitDefEqProofs only [go_sem, Nat.reduceBEq, Nat.reduceAdd, Nat.reduceLeDiff, Nat.reduceSub, Int.reduceEq] <;> simp, by simp -dsimp -implicitDefEqProofs only [go_sem, Nat.reduceBEq, Nat.reduceAdd, Nat.reduceLeDiff, Nat.reduceSub, Int.reduceEq] <;> simp [leN] <;> rfl⟩ ?_
  rintro i ⟨e, σ⟩ hi ⟨h0, h4, h3⟩ K hK
  simp only at h0 h4 h3
  simp -dsimp -implicitDefEqProofs only [go_sem, Nat.reduceBEq, Nat.reduceAdd, Nat.reduceLeDiff, Nat.reduceSub, Int.reduceEq, h0, h4, h3]
  refine ifB'.of (fun hlt => ?_) (fun hlt => ?_)
  · have hlt : i < b.length := by omega
    obtain ⟨j, hj⟩ : ∃ j : Nat, b.length - 1 - i = j := ⟨_, rfl⟩
    have hj1 : (b.length : Int) - 1 - i = (j : Nat) := by omega
    have hj2 : b.length - i = j + 1 := by omega
    have hj3 : j < b.length := by omega
    have e2 : IntKind.i64.wrap (IntKind.i64.wrap (IntKind.i64.wrap (leN (b.drop (j + 1)) : Int) * 256) + (b[j].toNat : Int)) = IntKind.i64.wrap (leN (b.drop j) : Int) := by
      rw [leN_drop hj3, wrap_step]
      congr 1
    have e3 : IntKind.i64.wrap ((j : Int) - 1) = (b.length : Int) - 1 - ((i + 1 : Nat) : Int) := by rw [wrap_i64_of (by omega) (by omega)]; omega
    have e5 : IntKind.i64.wrap (b[j].toNat : Int) = b[j].toNat := wrap_nat (by have := b[j].toNat_lt; omega)
    simp -dsimp -implicitDefEqProofs only [go_sem, Nat.reduceBEq, Nat.reduceAdd, Nat.reduceLeDiff, Nat.reduceSub, Int.reduceEq, h0, h4, h3, hj1, hj2, bytesA_at hj3, e5]
    repeat with_reducible refine ask.of (by omega) ?_
    refine hK _ hlt ?_
    simp -dsimp -implicitDefEqProofs only [go_sem, Nat.reduceBEq, Nat.reduceAdd, Nat.reduceLeDiff, Nat.reduceSub, Int.reduceEq, h0, h4, h3, e2, e3, show b.length - (i + 1) = j by omega]
  · obtain rfl : i = b.length := by omega
    simp -dsimp -implicitDefEqProofs only [go_sem, Nat.reduceBEq, Nat.reduceAdd, Nat.reduceLeDiff, Nat.reduceSub, Int.reduceEq, h0, h4, h3, show b.length - b.length = 0 by omega, List.drop_zero]
theorem c_low (b : List UInt8) (hb : b.length ≤ 1048576) : Meets Try.prog 120 [rowB b] (fun r => r = .v (.int .i64 (IntKind.i64.wrap (leN b)))) := by
  have e1 : IntKind.i64.wrap ((b.length : Int) - 1) = (b.length : Int) - 1 := wrap_i64_of (by omega) (by omega)
  refine Meets.intro mixed (hint []) Try.func120 rfl (by decide) res_120 rty_120 (by kernel_rfl) ?_; 
  simp -dsimp -implicitDefEqProofs only [go_sem, Nat.reduceBEq, Nat.reduceAdd, Nat.reduceLeDiff, Nat.reduceSub, Int.reduceEq, e1]
  refine LoopE.cnt b.length (fun i s => s.env 0 = .rd .ent 5 1 (bytesA b) ∧ s.env 4 = .v (.int .i64 ((b.length : Int) - 1 - i)) ∧ s.env 3 = .v (.int .i64 (IntKind.i64.wrap (leN (b.drop (b.length - i)))))) ⟨by simp -dsimp -implicitDefEqProofs only [go_sem, Nat.reduceBEq, Nat.reduceAdd, Nat.reduceLeDiff, Nat.reduceSub, Int.reduceEq, initE], by simp -dsimp -implicitDefEqProofs only [go_sem, Nat.reduceBEq, Nat.reduceAdd, Nat.reduceLeDiff, Nat.reduceSub, Int.reduceEq] <;> simp, by simp -dsimp -implicitDefEqProofs only [go_sem, Nat.reduceBEq, Nat.reduceAdd, Nat.reduceLeDiff, Nat.reduceSub, Int.reduceEq] <;> simp [leN] <;> rfl⟩ ?_
  rintro i ⟨e, σ⟩ hi ⟨h0, h4, h3⟩ K hK
  simp only at h0 h4 h3
  simp -dsimp -implicitDefEqProofs only [go_sem, Nat.reduceBEq, Nat.reduceAdd, Nat.reduceLeDiff, Nat.reduceSub, Int.reduceEq, h0, h4, h3]
  refine ifB'.of (fun hlt => ?_) (fun hlt => ?_)
  · have hlt : i < b.length := by omega
    obtain ⟨j, hj⟩ : ∃ j : Nat, b.length - 1 - i = j := ⟨_, rfl⟩
    have hj1 : (b.length : Int) - 1 - i = (j : Nat) := by omega
    have hj2 : b.length - i = j + 1 := by omega
    have hj3 : j < b.length := by omega
    have e3 : IntKind.i64.wrap ((j : Int) - 1) = (b.length : Int) - 1 - ((i + 1 : Nat) : Int) := by rw [wrap_i64_of (by omega) (by omega)]; omega
    have e5 : IntKind.i64.wrap (b[j].toNat : Int) = b[j].toNat := wrap_nat (by have := b[j].toNat_lt; omega)
    simp -dsimp -implicitDefEqProofs only [go_sem, Nat.reduceBEq, Nat.reduceAdd, Nat.reduceLeDiff, Nat.reduceSub, Int.reduceEq, h0, h4, h3, hj1, hj2, bytesA_at hj3, e5]
    repeat with_reducible refine ask.of (by omega) ?_
    refine hK _ hlt ?_
    simp -dsimp -implicitDefEqProofs only [go_sem, Nat.reduceBEq, Nat.reduceAdd, Nat.reduceLeDiff, Nat.reduceSub, Int.reduceEq, h0, h4, h3, or_byte, e3, show b.length - (i + 1) = j by omega, leN_drop hj3]
  · obtain rfl : i = b.length := by omega
    simp -dsimp -implicitDefEqProofs only [go_sem, Nat.reduceBEq, Nat.reduceAdd, Nat.reduceLeDiff, Nat.reduceSub, Int.reduceEq, h0, h4, h3, show b.length - b.length = 0 by omega, List.drop_zero]
end Go.Ev
set_option linter.unusedSimpArgs false
set_option linter.unusedVariables false
namespace Go.Ev
open Go Go.RowKit Go.Proofs
def isW (n : Int) : Bool := decide (n = 1 ∨ n = 2 ∨ n = 4 ∨ n = 8)
theorem isW_nat {n : Int} (h : isW n = true) : ∃ w : Nat, n = w ∧ (w = 1 ∨ w = 2 ∨ w = 4 ∨ w = 8) := by
  have h : n = 1 ∨ n = 2 ∨ n = 4 ∨ n = 8 := by simpa [isW] using h
  exact ⟨n.toNat, by omega, by omega⟩
theorem c_l1width (n : Int) : Meets Try.prog 109 [.v (.int .i64 n)] (fun r => r = .v (.bool (isW n))) := by
  refine Meets.intro mixed (hint []) Try.func109 rfl (by decide) res_109 rty_109 (by kernel_rfl) ?_; 
  by_cases h1 : n = 1
  · simp -dsimp -implicitDefEqProofs only [go_sem, Nat.reduceBEq, Nat.reduceAdd, Nat.reduceLeDiff, Nat.reduceSub, Int.reduceEq, initE, h1, decide_true, decide_false, show isW 1 = true from rfl]
  by_cases h2 : n = 2
  · simp -dsimp -implicitDefEqProofs only [go_sem, Nat.reduceBEq, Nat.reduceAdd, Nat.reduceLeDiff, Nat.reduceSub, Int.reduceEq, initE, h1, h2, decide_true, decide_false, show isW 2 = true from rfl, show ¬ (2 : Int) = 1 by decide]
  by_cases h4 : n = 4
  · simp -dsimp -implicitDefEqProofs only [go_sem, Nat.reduceBEq, Nat.reduceAdd, Nat.reduceLeDiff, Nat.reduceSub, Int.reduceEq, initE, h1, h2, h4, decide_true, decide_false, show isW 4 = true from rfl, show ¬ (4 : Int) = 1 by decide, show ¬ (4 : Int) = 2 by decide]
  by_cases h8 : n = 8
  · simp -dsimp -implicitDefEqProofs only [go_sem, Nat.reduceBEq, Nat.reduceAdd, Nat.reduceLeDiff, Nat.reduceSub, Int.reduceEq, initE, h1, h2, h4, h8, decide_true, decide_false, show isW 8 = true from rfl, show ¬ (8 : Int) = 1 by decide, show ¬ (8 : Int) = 2 by decide, show ¬ (8 : Int) = 4 by decide]
  have e : isW n = false := by simp [isW, h1, h2, h4, h8]
  simp -dsimp -implicitDefEqProofs only [go_sem, Nat.reduceBEq, Nat.reduceAdd, Nat.reduceLeDiff, Nat.reduceSub, Int.reduceEq, initE, h1, h2, h4, h8, e, decide_true, decide_false]
def chunk (b : List UInt8) (w i : Nat) : List UInt8 := (b.drop (w * i)).take w
theorem chunk_length {b : List UInt8} {w i : Nat} (h : w * i + w ≤ b.length) : (chunk b w i).length = w := by simp [chunk]; omega
def sval (c : List UInt8) : Int := if 2 * leN c < 256 ^ c.length then (leN c : Int) else (leN c : Int) - (256 ^ c.length : Nat)
def unpackI (b : List UInt8) (w k : Nat) : List Int := (List.range k).map fun i => sval (chunk b w i)
theorem unpackI_length (b : List UInt8) (w k : Nat) : (unpackI b w k).length = k := by simp [unpackI]
theorem unpackI_succ (b : List UInt8) (w k : Nat) : unpackI b w k ++ [sval (chunk b w k)] = unpackI b w (k + 1) := by simp [unpackI, List.range_succ]
def unpackIC (b : List UInt8) (n : Int) : List Int × Nat :=
  if isW n = true then (if b.length % n.toNat = 0 then (unpackI b n.toNat (b.length / n.toNat), 0) else ([], 3)) else ([], 1)
theorem leN_lt : ∀ c : List UInt8, leN c < 256 ^ c.length
  | [] => by simp [leN]
  | c :: cs => by
    have := leN_lt cs
    have := c.toNat_lt
    rw [leN, List.length_cons, Nat.pow_succ]; omega
theorem sval_wrap {c : List UInt8} (h : c.length = 8) : IntKind.i64.wrap (leN c) = sval c := by
  have := leN_lt c
  rw [sval, IntKind.wrap_i64]
  simp only [h] at this ⊢
  split <;> omega
theorem leN_snoc : ∀ (c : List UInt8) (x : UInt8), leN (c ++ [x]) = leN c + 256 ^ c.length * x.toNat
  | [], x => by simp [leN]
  | c :: cs, x => by
    rw [List.cons_append, leN, leN, leN_snoc cs x, List.length_cons, Nat.pow_succ, Nat.mul_add, Nat.mul_comm (256 ^ cs.length) 256, Nat.mul_assoc]; omega
end Go.Ev
set_option linter.unusedSimpArgs false
set_option linter.unusedVariables false
namespace Go.Ev
open Go Go.RowKit Go.Proofs
def fitsB (w : Nat) (x : Int) : Bool := decide (w = 8 ∨ (-(2 ^ (8 * w - 1) : Int) ≤ x ∧ x < 2 ^ (8 * w - 1)))
def uN (x : Int) : Nat := (x % 18446744073709551616).toNat
def leB (w : Nat) (x : Int) : List UInt8 := (List.range w).map fun j => UInt8.ofNat (uN x / 256 ^ j % 256)
theorem leB_length (w : Nat) (x : Int) : (leB w x).length = w := by simp [leB]
theorem leB_succ (w : Nat) (x : Int) : leB w x ++ [UInt8.ofNat (uN x / 256 ^ w % 256)] = leB (w + 1) x := by simp [leB, List.range_succ]
def packI (xs : List Int) (w : Nat) : List UInt8 := xs.flatMap (leB w)
theorem packI_length (xs : List Int) (w : Nat) : (packI xs w).length = w * xs.length := by
  induction xs with
  | nil => rfl
  | cons x xs ih => rw [packI, List.flatMap_cons, List.length_append, leB_length, List.length_cons, Nat.mul_add, ← ih]; simp [packI]; omega
theorem packI_succ {xs : List Int} (w : Nat) {i : Nat} (h : i < xs.length) : packI (xs.take i) w ++ leB w xs[i] = packI (xs.take (i + 1)) w := by
  rw [List.take_add_one, List.getElem?_eq_getElem h, packI, packI, List.flatMap_append]
  simp
theorem all_succ {xs : List Int} (w : Nat) {i : Nat} (h : i < xs.length) (h1 : (xs.take i).all (fitsB w) = true) (h2 : fitsB w xs[i] = true) : (xs.take (i + 1)).all (fitsB w) = true := by
  rw [List.take_add_one, List.getElem?_eq_getElem h, List.all_append, h1]
  simpa using h2
theorem all_not {xs : List Int} (w : Nat) {i : Nat} (h : i < xs.length) (h2 : fitsB w xs[i] = false) : xs.all (fitsB w) = false := by
  rw [List.all_eq_false]
  exact ⟨xs[i], List.getElem_mem h, by rw [h2]; decide⟩
def packIC (xs : List Int) (n : Int) : List UInt8 × Nat :=
  if isW n = true then (if xs.all (fitsB n.toNat) = true then (packI xs n.toNat, 0) else ([], 1)) else ([], 1)
theorem wrap_u64_eq (x : Int) : IntKind.u64.wrap x = (uN x : Int) := by
  rw [IntKind.wrap_u64, uN]; omega
theorem uN_lt (x : Int) : uN x < 18446744073709551616 := by unfold uN; omega
theorem sh_f {w : Nat} (h : w = 1 ∨ w = 2 ∨ w = 4) : IntKind.i64.wrap (1 * 2 ^ min (IntKind.u64.wrap (IntKind.i64.wrap (IntKind.i64.wrap (8 * (w : Int)) - 1))).toNat 64) = 2 ^ (8 * w - 1) := by
  rcases h with rfl | rfl | rfl <;> decide
theorem ng_f {w : Nat} (h : w = 1 ∨ w = 2 ∨ w = 4) : IntKind.i64.wrap (0 - (2 ^ (8 * w - 1) : Int)) = -(2 ^ (8 * w - 1) : Int) := by
  rcases h with rfl | rfl | rfl <;> decide
theorem c_l1fits (x : Int) (w : Nat) (hw : w = 1 ∨ w = 2 ∨ w = 4 ∨ w = 8) : Meets Try.prog 108 [.v (.int .i64 x), .v (.int .i64 w)] (fun r => r = .v (.bool (fitsB w x))) := by
  refine Meets.intro mixed (hint []) Try.func108 rfl (by decide) res_108 rty_108 (by kernel_rfl) ?_; 
  simp -dsimp -implicitDefEqProofs only [go_sem, Nat.reduceBEq, Nat.reduceAdd, Nat.reduceLeDiff, Nat.reduceSub, Int.reduceEq]
  refine ifB'.of (fun h8 => ?_) (fun h8 => ?_)
  · obtain rfl : w = 8 := by omega
    simp -dsimp -implicitDefEqProofs only [go_sem, Nat.reduceBEq, Nat.reduceAdd, Nat.reduceLeDiff, Nat.reduceSub, Int.reduceEq, show fitsB 8 x = true from rfl]
  have hw : w = 1 ∨ w = 2 ∨ w = 4 := by omega
  have e : fitsB w x = (decide (-(2 ^ (8 * w - 1) : Int) ≤ x) && decide (x < 2 ^ (8 * w - 1))) := by
    unfold fitsB
    rw [← Bool.decide_and]
    exact decide_eq_decide.2 ⟨fun h => h.resolve_left (by omega), .inr⟩
  simp -dsimp -implicitDefEqProofs only [go_sem, Nat.reduceBEq, Nat.reduceAdd, Nat.reduceLeDiff, Nat.reduceSub, Int.reduceEq, sh_f hw, ng_f hw, e]
  refine ifB'.of (fun h1 => ?_) (fun h1 => ?_)
  · simp -dsimp -implicitDefEqProofs only [go_sem, Nat.reduceBEq, Nat.reduceAdd, Nat.reduceLeDiff, Nat.reduceSub, Int.reduceEq, sh_f hw, decide_eq_true h1, Bool.true_and]
  · simp -dsimp -implicitDefEqProofs only [go_sem, Nat.reduceBEq, Nat.reduceAdd, Nat.reduceLeDiff, Nat.reduceSub, Int.reduceEq, decide_eq_false h1, Bool.false_and]
theorem c_l1little (x : Int) (w : Nat) (hw : w ≤ 8) : Meets Try.prog 97 [.v (.int .i64 x), .v (.int .i64 w)] (fun r => r = rowB (leB w x)) := by
  refine Meets.intro mixed (hint [(6, 137)]) Try.func97 rfl (by decide) res_97 rty_97 (by kernel_rfl) ?_; 
  simp -dsimp -implicitDefEqProofs only [go_sem, Nat.reduceBEq, Nat.reduceAdd, Nat.reduceLeDiff, Nat.reduceSub, Int.reduceEq]
  refine LoopE.cnt w (fun i s => s.env 1 = .v (.int .i64 w) ∧ s.env 5 = .v (.int .u64 ((uN x / 256 ^ i : Nat) : Int)) ∧ s.env 7 = .v (.int .i64 i) ∧ s.env 6 = .ref [6] ∧ s.σ [6] = some (.row 5 1 (bytesA (leB i x)))) ⟨by simp -dsimp -implicitDefEqProofs only [go_sem, Nat.reduceBEq, Nat.reduceAdd, Nat.reduceLeDiff, Nat.reduceSub, Int.reduceEq, initE], by simp -dsimp -implicitDefEqProofs only [go_sem, Nat.reduceBEq, Nat.reduceAdd, Nat.reduceLeDiff, Nat.reduceSub, Int.reduceEq, wrap_u64_eq] <;> simp, by simp -dsimp -implicitDefEqProofs only [go_sem, Nat.reduceBEq, Nat.reduceAdd, Nat.reduceLeDiff, Nat.reduceSub, Int.reduceEq] <;> simp, by simp -dsimp -implicitDefEqProofs only [go_sem, Nat.reduceBEq, Nat.reduceAdd, Nat.reduceLeDiff, Nat.reduceSub, Int.reduceEq], by simp -dsimp -implicitDefEqProofs only [go_sem, Nat.reduceBEq, Nat.reduceAdd, Nat.reduceLeDiff, Nat.reduceSub, Int.reduceEq]; rfl⟩ ?_
  rintro i ⟨e, σ⟩ hi ⟨h1, h5, h7, h6, hs⟩ K hK
  simp only at h1 h5 h7 h6 hs
  simp -dsimp -implicitDefEqProofs only [go_sem, Nat.reduceBEq, Nat.reduceAdd, Nat.reduceLeDiff, Nat.reduceSub, Int.reduceEq, h1, h5, h7, h6, hs]
  refine ifB'.of (fun hlt => ?_) (fun hlt => ?_)
  · have hlt : i < w := by omega
    have hu := uN_lt x
    have hu2 : uN x / 256 ^ i ≤ uN x := Nat.div_le_self _ _
    have e1 : ((uN x / 256 ^ i : Nat) : Int).tmod 256 = ((uN x / 256 ^ i % 256 : Nat) : Int) := rfl
    have e2 : IntKind.u64.wrap (((uN x / 256 ^ i : Nat) : Int).tdiv 256) = ((uN x / 256 ^ (i + 1) : Nat) : Int) := by
      rw [Nat.pow_succ, ← Nat.div_div_eq_div_mul]
      generalize uN x / 256 ^ i = y at *
      rw [IntKind.wrap_u64, Int.tdiv_eq_ediv_of_nonneg (by omega)]; omega
    simp -dsimp -implicitDefEqProofs only [go_sem, Nat.reduceBEq, Nat.reduceAdd, Nat.reduceLeDiff, Nat.reduceSub, Int.reduceEq, h1, h5, h7, h6, hs, e1, e2, u8_of_nat, leB_length]
    repeat with_reducible refine ask.of (by omega) ?_
    refine hK _ hlt ?_
    simp -dsimp -implicitDefEqProofs only [go_sem, Nat.reduceBEq, Nat.reduceAdd, Nat.reduceLeDiff, Nat.reduceSub, Int.reduceEq, h1, h5, h7, h6, hs, wrap_succ (show i < 4611686018427387904 by omega), e2, leB_succ]
  · obtain rfl : i = w := by omega
    simp -dsimp -implicitDefEqProofs only [go_sem, Nat.reduceBEq, Nat.reduceAdd, Nat.reduceLeDiff, Nat.reduceSub, Int.reduceEq, h1, h5, h7, h6, hs]
theorem c_specPackInts (xs : List Int) (n : Int) (hx : xs.length ≤ 1048576) : Meets Try.prog 45 [rowI xs, .v (.int .i64 n)] (fun r => r = .tup [rowB (packIC xs n).1, .v (.int .i64 (packIC xs n).2)]) := by
  refine Meets.intro mixed (hint [(6, 137)]) Try.func45 rfl (by decide) res_45 rty_45 (by kernel_rfl) ?_; 
  simp -dsimp -implicitDefEqProofs only [go_sem, Nat.reduceBEq, Nat.reduceAdd, Nat.reduceLeDiff, Nat.reduceSub, Int.reduceEq]
  refine CallE.of (c_l1width n) (by rintro r rfl; (repeat' first | exact trivial | exact pure_rowB _ | exact pure_rowO _ | exact pure_rowI _ | exact pure_rowBB _ | exact pure_rowPk _ _ | exact pure_rowSn _ _ | exact pure_rowFd _ _ | exact pure_rowBBB _ | exact pure_rowCl _ _ | exact pure_rowTb _ _ _ | refine And.intro ?_ ?_)) (by simp -dsimp -implicitDefEqProofs only [go_sem, Nat.reduceBEq, Nat.reduceAdd, Nat.reduceLeDiff, Nat.reduceSub, Int.reduceEq]) ?_
  rintro r rfl
  simp -dsimp -implicitDefEqProofs only [go_sem, Nat.reduceBEq, Nat.reduceAdd, Nat.reduceLeDiff, Nat.reduceSub, Int.reduceEq]
  cases hw : isW n
  · simp -dsimp -implicitDefEqProofs only [go_sem, Nat.reduceBEq, Nat.reduceAdd, Nat.reduceLeDiff, Nat.reduceSub, Int.reduceEq, hw, Bool.not_false]
    rw [packIC, hw]; rfl
  obtain ⟨w, rfl, hW⟩ := isW_nat hw
  have fin := packIC.eq_1 xs w
  rw [if_pos hw, Int.toNat_natCast] at fin
  simp -dsimp -implicitDefEqProofs only [go_sem, Nat.reduceBEq, Nat.reduceAdd, Nat.reduceLeDiff, Nat.reduceSub, Int.reduceEq, hw, Bool.not_true]
  refine LoopE.cnt xs.length (fun i s => s.env 0 = .rd .ent 3 1 (ra intC xs) ∧ s.env 1 = .v (.int .i64 w) ∧ s.env 7 = .v (.int .i64 i) ∧ s.env 6 = .ref [6] ∧ s.σ [6] = some (.row 5 1 (bytesA (packI (xs.take i) w))) ∧ (xs.take i).all (fitsB w) = true) ⟨by simp -dsimp -implicitDefEqProofs only [go_sem, Nat.reduceBEq, Nat.reduceAdd, Nat.reduceLeDiff, Nat.reduceSub, Int.reduceEq, initE], by simp -dsimp -implicitDefEqProofs only [go_sem, Nat.reduceBEq, Nat.reduceAdd, Nat.reduceLeDiff, Nat.reduceSub, Int.reduceEq, initE], by simp -dsimp -implicitDefEqProofs only [go_sem, Nat.reduceBEq, Nat.reduceAdd, Nat.reduceLeDiff, Nat.reduceSub, Int.reduceEq] <;> simp, by simp -dsimp -implicitDefEqProofs only [go_sem, Nat.reduceBEq, Nat.reduceAdd, Nat.reduceLeDiff, Nat.reduceSub, Int.reduceEq], by simp -dsimp -implicitDefEqProofs only [go_sem, Nat.reduceBEq, Nat.reduceAdd, Nat.reduceLeDiff, Nat.reduceSub, Int.reduceEq]; rfl, by simp⟩ ?_
  rintro i ⟨e, σ⟩ hi ⟨h0, h1, h7, h6, hs, hz⟩ K hK
  simp only at h0 h1 h7 h6 hs
  simp -dsimp -implicitDefEqProofs only [go_sem, Nat.reduceBEq, Nat.reduceAdd, Nat.reduceLeDiff, Nat.reduceSub, Int.reduceEq, h0, h1, h7, h6, hs]
  refine ifB'.of (fun hlt => ?_) (fun hlt => ?_)
  · have hlt : i < xs.length := by omega
    simp -dsimp -implicitDefEqProofs only [go_sem, Nat.reduceBEq, Nat.reduceAdd, Nat.reduceLeDiff, Nat.reduceSub, Int.reduceEq, h0, h1, h7, h6, hs, intA_at hlt]
    repeat with_reducible refine ask.of (by omega) ?_
    refine CallE.of (c_l1fits xs[i] w hW) (by rintro r rfl; (repeat' first | exact trivial | exact pure_rowB _ | exact pure_rowO _ | exact pure_rowI _ | exact pure_rowBB _ | exact pure_rowPk _ _ | exact pure_rowSn _ _ | exact pure_rowFd _ _ | exact pure_rowBBB _ | exact pure_rowCl _ _ | exact pure_rowTb _ _ _ | refine And.intro ?_ ?_)) (by simp -dsimp -implicitDefEqProofs only [go_sem, Nat.reduceBEq, Nat.reduceAdd, Nat.reduceLeDiff, Nat.reduceSub, Int.reduceEq, h0, h1, h7, h6, hs, intA_at hlt]) ?_
    rintro r rfl
    simp -dsimp -implicitDefEqProofs only [go_sem, Nat.reduceBEq, Nat.reduceAdd, Nat.reduceLeDiff, Nat.reduceSub, Int.reduceEq, h0, h1, h7, h6, hs, intA_at hlt]
    cases hf : fitsB w xs[i]
    · simp -dsimp -implicitDefEqProofs only [go_sem, Nat.reduceBEq, Nat.reduceAdd, Nat.reduceLeDiff, Nat.reduceSub, Int.reduceEq, h0, h1, h7, h6, hs, hf, Bool.not_false]
      rw [fin, all_not w hlt hf]; rfl
    simp -dsimp -implicitDefEqProofs only [go_sem, Nat.reduceBEq, Nat.reduceAdd, Nat.reduceLeDiff, Nat.reduceSub, Int.reduceEq, h0, h1, h7, h6, hs, hf, Bool.not_true, intA_at hlt]
    repeat with_reducible refine ask.of (by omega) ?_
    refine CallE.of (c_l1little xs[i] w (by omega)) (by rintro r rfl; (repeat' first | exact trivial | exact pure_rowB _ | exact pure_rowO _ | exact pure_rowI _ | exact pure_rowBB _ | exact pure_rowPk _ _ | exact pure_rowSn _ _ | exact pure_rowFd _ _ | exact pure_rowBBB _ | exact pure_rowCl _ _ | exact pure_rowTb _ _ _ | refine And.intro ?_ ?_)) (by simp -dsimp -implicitDefEqProofs only [go_sem, Nat.reduceBEq, Nat.reduceAdd, Nat.reduceLeDiff, Nat.reduceSub, Int.reduceEq, h0, h1, h7, h6, hs]) ?_
    rintro r rfl
    simp -dsimp -implicitDefEqProofs only [go_sem, Nat.reduceBEq, Nat.reduceAdd, Nat.reduceLeDiff, Nat.reduceSub, Int.reduceEq, h0, h1, h7, h6, hs]
    have hq : w * i ≤ 8 * i := Nat.mul_le_mul_right i (by omega)
    simp -dsimp -implicitDefEqProofs only [go_sem, Nat.reduceBEq, Nat.reduceAdd, Nat.reduceLeDiff, Nat.reduceSub, Int.reduceEq, h0, h1, h7, h6, hs, packI_length, leB_length, List.length_take, Nat.min_eq_left hi]
    repeat with_reducible refine ask.of (by omega) ?_
    refine hK _ hlt ?_
    simp -dsimp -implicitDefEqProofs only [go_sem, Nat.reduceBEq, Nat.reduceAdd, Nat.reduceLeDiff, Nat.reduceSub, Int.reduceEq, h0, h1, h7, h6, hs, wrap_succ (show i < 4611686018427387904 by omega), packI_succ w hlt, all_succ w hlt hz hf]
  · obtain rfl : i = xs.length := by omega
    rw [List.take_length] at hz hs
    rw [if_pos hz] at fin
    simp -dsimp -implicitDefEqProofs only [go_sem, Nat.reduceBEq, Nat.reduceAdd, Nat.reduceLeDiff, Nat.reduceSub, Int.reduceEq, h0, h1, h7, h6, hs, fin]
end Go.Ev
set_option linter.unusedSimpArgs false
set_option linter.unusedVariables false
namespace Go.Ev
open Go Go.RowKit Go.Proofs
theorem shr_byte (x : Int) (j : Nat) : (x / 256 ^ j).fdiv (2 ^ min (Int.toNat 8) 64) = x / 256 ^ (j + 1) := by
  have e : (2 : Int) ^ min (Int.toNat 8) 64 = 256 := rfl
  rw [e, Int.fdiv_eq_ediv_of_nonneg _ (by decide), Int.pow_succ, Int.ediv_ediv_of_nonneg (Int.le_of_lt (Int.pow_pos (by decide)))]
theorem u8_byte (x : Int) {j : Nat} (hj : j < 8) : IntKind.u8.wrap (x / 256 ^ j) = ((UInt8.ofNat (uN x / 256 ^ j % 256)).toNat : Int) := by
  have e : IntKind.u8.wrap (x / 256 ^ j) = x / 256 ^ j % 256 := by
    simp [IntKind.wrap, IntKind.bits, IntKind.signed]
  have e2 : ((UInt8.ofNat (uN x / 256 ^ j % 256)).toNat : Int) = ((uN x / 256 ^ j % 256 : Nat) : Int) := by simp
  rw [e, e2, uN]
  match j, hj with
  | 0, _ => simp only [Nat.pow_zero, Int.pow_zero, Nat.div_one, Int.ediv_one]; omega
  | 1, _ => simp only [Nat.reducePow, Int.reducePow]; omega
  | 2, _ => simp only [Nat.reducePow, Int.reducePow]; omega
  | 3, _ => simp only [Nat.reducePow, Int.reducePow]; omega
  | 4, _ => simp only [Nat.reducePow, Int.reducePow]; omega
  | 5, _ => simp only [Nat.reducePow, Int.reducePow]; omega
  | 6, _ => simp only [Nat.reducePow, Int.reducePow]; omega
  | 7, _ => simp only [Nat.reducePow, Int.reducePow]; omega
theorem back_i8 {x : Int} (hx : -9223372036854775808 ≤ x ∧ x ≤ 9223372036854775807) : decide (IntKind.i64.wrap (IntKind.i8.wrap x) = x) = fitsB 1 x := by
  have e0 : -128 ≤ IntKind.i8.wrap x ∧ IntKind.i8.wrap x ≤ 127 ∧ (IntKind.i8.wrap x = x ↔ -128 ≤ x ∧ x ≤ 127) := by
    simp [IntKind.wrap, IntKind.bits, IntKind.signed]
    split <;> omega
  rw [wrap_i64_of (by omega) (by omega)]
  unfold fitsB
  refine decide_eq_decide.2 ?_
  rw [e0.2.2]
  simp
  omega
theorem back_i16 {x : Int} (hx : -9223372036854775808 ≤ x ∧ x ≤ 9223372036854775807) : decide (IntKind.i64.wrap (IntKind.i16.wrap x) = x) = fitsB 2 x := by
  have e0 : -32768 ≤ IntKind.i16.wrap x ∧ IntKind.i16.wrap x ≤ 32767 ∧ (IntKind.i16.wrap x = x ↔ -32768 ≤ x ∧ x ≤ 32767) := by
    simp [IntKind.wrap, IntKind.bits, IntKind.signed]
    split <;> omega
  rw [wrap_i64_of (by omega) (by omega)]
  unfold fitsB
  refine decide_eq_decide.2 ?_
  rw [e0.2.2]
  simp
  omega
theorem back_i32 {x : Int} (hx : -9223372036854775808 ≤ x ∧ x ≤ 9223372036854775807) : decide (IntKind.i64.wrap (IntKind.i32.wrap x) = x) = fitsB 4 x := by
  have e0 : -2147483648 ≤ IntKind.i32.wrap x ∧ IntKind.i32.wrap x ≤ 2147483647 ∧ (IntKind.i32.wrap x = x ↔ -2147483648 ≤ x ∧ x ≤ 2147483647) := by
    simp [IntKind.wrap, IntKind.bits, IntKind.signed]
    split <;> omega
  rw [wrap_i64_of (by omega) (by omega)]
  unfold fitsB
  refine decide_eq_decide.2 ?_
  rw [e0.2.2]
  simp
  omega
theorem c_packed_i8 (xs : List Int) (hx : xs.length ≤ 1048576) (hr : ∀ x ∈ xs, -9223372036854775808 ≤ x ∧ x ≤ 9223372036854775807) : Meets Try.prog 110 [rowI xs, .v (.int .i64 1)] (fun r => r = .tup [rowB (packIC xs 1).1, .v (.int .i64 (packIC xs 1).2)]) := by
  have hw : isW 1 = true := rfl
  have fin := packIC.eq_1 xs 1
  rw [if_pos hw, show (1 : Int).toNat = 1 from rfl] at fin
  have em : IntKind.i64.wrap ((xs.length : Int) * 1) = ((1 * xs.length : Nat) : Int) := by rw [wrap_i64_of (by omega) (by omega)]; omega
  refine Meets.intro mixed (hint []) Try.func110 rfl (by decide) res_110 rty_110 (by kernel_rfl) ?_; 
  simp -dsimp -implicitDefEqProofs only [go_sem, Nat.reduceBEq, Nat.reduceAdd, Nat.reduceLeDiff, Nat.reduceSub, Int.reduceEq, em]
  repeat with_reducible refine ask.of (by omega) ?_
  refine LoopE.cnt xs.length (fun i s => s.env 15 = .rd .ent 3 1 (ra intC xs) ∧ s.env 1 = .v (.int .i64 1) ∧ s.env 16 = .v (.int .i64 xs.length) ∧ s.env 17 = .v (.int .i64 i) ∧ s.env 6 = .ref [14] ∧ s.σ [14] = some (.row 5 1 (bytesA (packI (xs.take i) 1))) ∧ (xs.take i).all (fitsB 1) = true) ⟨by simp -dsimp -implicitDefEqProofs only [go_sem, Nat.reduceBEq, Nat.reduceAdd, Nat.reduceLeDiff, Nat.reduceSub, Int.reduceEq, initE], by simp -dsimp -implicitDefEqProofs only [go_sem, Nat.reduceBEq, Nat.reduceAdd, Nat.reduceLeDiff, Nat.reduceSub, Int.reduceEq, initE], by simp -dsimp -implicitDefEqProofs only [go_sem, Nat.reduceBEq, Nat.reduceAdd, Nat.reduceLeDiff, Nat.reduceSub, Int.reduceEq], by simp -dsimp -implicitDefEqProofs only [go_sem, Nat.reduceBEq, Nat.reduceAdd, Nat.reduceLeDiff, Nat.reduceSub, Int.reduceEq] <;> simp, by simp -dsimp -implicitDefEqProofs only [go_sem, Nat.reduceBEq, Nat.reduceAdd, Nat.reduceLeDiff, Nat.reduceSub, Int.reduceEq], by simp -dsimp -implicitDefEqProofs only [go_sem, Nat.reduceBEq, Nat.reduceAdd, Nat.reduceLeDiff, Nat.reduceSub, Int.reduceEq]; rfl, by simp⟩ ?_
  rintro i ⟨e, σ⟩ hi ⟨h15, h1, h16, h17, h6, hs, hz⟩ K hK
  simp only at h15 h1 h16 h17 h6 hs
  simp -dsimp -implicitDefEqProofs only [go_sem, Nat.reduceBEq, Nat.reduceAdd, Nat.reduceLeDiff, Nat.reduceSub, Int.reduceEq, h15, h1, h16, h17, h6, hs]
  refine ifB'.of (fun hlt => ?_) (fun hlt => ?_)
  · have hlt : i < xs.length := by omega
    have hv := hr xs[i] (List.getElem_mem hlt)
    have hd : decide (IntKind.i64.wrap (IntKind.i8.wrap xs[i]) = xs[i]) = fitsB 1 xs[i] := back_i8 hv
    simp -dsimp -implicitDefEqProofs only [go_sem, Nat.reduceBEq, Nat.reduceAdd, Nat.reduceLeDiff, Nat.reduceSub, Int.reduceEq, h15, h1, h16, h17, h6, hs, intA_at hlt, hd]
    repeat with_reducible refine ask.of (by omega) ?_
    cases hf : fitsB 1 xs[i]
    · simp -dsimp -implicitDefEqProofs only [go_sem, Nat.reduceBEq, Nat.reduceAdd, Nat.reduceLeDiff, Nat.reduceSub, Int.reduceEq, h15, h1, h16, h17, h6, hs, hf]
      rw [fin, all_not 1 hlt hf]; rfl
    simp -dsimp -implicitDefEqProofs only [go_sem, Nat.reduceBEq, Nat.reduceAdd, Nat.reduceLeDiff, Nat.reduceSub, Int.reduceEq, h15, h1, h16, h17, h6, hs, hf]
    refine LoopE.cnt 1 (fun j s => s.env 15 = .rd .ent 3 1 (ra intC xs) ∧ s.env 1 = .v (.int .i64 1) ∧ s.env 16 = .v (.int .i64 xs.length) ∧ s.env 17 = .v (.int .i64 i) ∧ s.env 27 = .v (.int .i64 1) ∧ s.env 28 = .v (.int .i64 j) ∧ s.env 8 = .v (.int .i64 (xs[i] / 256 ^ j)) ∧ s.env 6 = .ref [14] ∧ s.σ [14] = some (.row 5 1 (bytesA (packI (xs.take i) 1 ++ leB j xs[i])))) ⟨by simp -dsimp -implicitDefEqProofs only [go_sem, Nat.reduceBEq, Nat.reduceAdd, Nat.reduceLeDiff, Nat.reduceSub, Int.reduceEq, h15, h1, h16, h17, h6, hs], by simp -dsimp -implicitDefEqProofs only [go_sem, Nat.reduceBEq, Nat.reduceAdd, Nat.reduceLeDiff, Nat.reduceSub, Int.reduceEq, h15, h1, h16, h17, h6, hs], by simp -dsimp -implicitDefEqProofs only [go_sem, Nat.reduceBEq, Nat.reduceAdd, Nat.reduceLeDiff, Nat.reduceSub, Int.reduceEq, h15, h1, h16, h17, h6, hs], by simp -dsimp -implicitDefEqProofs only [go_sem, Nat.reduceBEq, Nat.reduceAdd, Nat.reduceLeDiff, Nat.reduceSub, Int.reduceEq, h15, h1, h16, h17, h6, hs], by simp -dsimp -implicitDefEqProofs only [go_sem, Nat.reduceBEq, Nat.reduceAdd, Nat.reduceLeDiff, Nat.reduceSub, Int.reduceEq, h15, h1, h16, h17, h6, hs], by simp -dsimp -implicitDefEqProofs only [go_sem, Nat.reduceBEq, Nat.reduceAdd, Nat.reduceLeDiff, Nat.reduceSub, Int.reduceEq, h15, h1, h16, h17, h6, hs] <;> simp, by simp -dsimp -implicitDefEqProofs only [go_sem, Nat.reduceBEq, Nat.reduceAdd, Nat.reduceLeDiff, Nat.reduceSub, Int.reduceEq, h15, h1, h16, h17, h6, hs] <;> simp, by simp -dsimp -implicitDefEqProofs only [go_sem, Nat.reduceBEq, Nat.reduceAdd, Nat.reduceLeDiff, Nat.reduceSub, Int.reduceEq, h15, h1, h16, h17, h6, hs], by simp -dsimp -implicitDefEqProofs only [go_sem, Nat.reduceBEq, Nat.reduceAdd, Nat.reduceLeDiff, Nat.reduceSub, Int.reduceEq, h15, h1, h16, h17, h6, hs] <;> simp [leB]⟩ ?_
    rintro j ⟨e, σ⟩ hj ⟨h15, h1, h16, h17, ha, hb, h8, h6, hs⟩ K' hK'
    simp only at h15 h1 h16 h17 ha hb h8 h6 hs
    simp -dsimp -implicitDefEqProofs only [go_sem, Nat.reduceBEq, Nat.reduceAdd, Nat.reduceLeDiff, Nat.reduceSub, Int.reduceEq, h15, h1, h16, h17, ha, hb, h8, h6, hs]
    refine ifB'.of (fun hjt => ?_) (fun hjt => ?_)
    · have hjt : j < 1 := by omega
      simp -dsimp -implicitDefEqProofs only [go_sem, Nat.reduceBEq, Nat.reduceAdd, Nat.reduceLeDiff, Nat.reduceSub, Int.reduceEq, h15, h1, h16, h17, ha, hb, h8, h6, hs, u8_byte xs[i] (show j < 8 by omega), List.length_append, packI_length, leB_length, List.length_take, Nat.min_eq_left hi]
      repeat with_reducible refine ask.of (by omega) ?_
      refine hK' _ hjt ?_
      simp -dsimp -implicitDefEqProofs only [go_sem, Nat.reduceBEq, Nat.reduceAdd, Nat.reduceLeDiff, Nat.reduceSub, Int.reduceEq, h15, h1, h16, h17, ha, hb, h8, h6, hs, wrap_succ (show j < 4611686018427387904 by omega), shr_byte, List.append_assoc, leB_succ]
    · obtain rfl : j = 1 := by omega
      simp -dsimp -implicitDefEqProofs only [go_sem, Nat.reduceBEq, Nat.reduceAdd, Nat.reduceLeDiff, Nat.reduceSub, Int.reduceEq, h15, h1, h16, h17, ha, hb, h8, h6, hs]
      refine hK _ hlt ?_
      simp -dsimp -implicitDefEqProofs only [go_sem, Nat.reduceBEq, Nat.reduceAdd, Nat.reduceLeDiff, Nat.reduceSub, Int.reduceEq, h15, h1, h16, h17, ha, hb, h8, h6, hs, wrap_succ (show i < 4611686018427387904 by omega), packI_succ 1 hlt, all_succ 1 hlt hz hf]
  · obtain rfl : i = xs.length := by omega
    rw [List.take_length] at hz hs
    rw [if_pos hz] at fin
    simp -dsimp -implicitDefEqProofs only [go_sem, Nat.reduceBEq, Nat.reduceAdd, Nat.reduceLeDiff, Nat.reduceSub, Int.reduceEq, h15, h1, h16, h17, h6, hs, fin]
theorem c_packed_i16 (xs : List Int) (hx : xs.length ≤ 1048576) (hr : ∀ x ∈ xs, -9223372036854775808 ≤ x ∧ x ≤ 9223372036854775807) : Meets Try.prog 111 [rowI xs, .v (.int .i64 2)] (fun r => r = .tup [rowB (packIC xs 2).1, .v (.int .i64 (packIC xs 2).2)]) := by
  have hw : isW 2 = true := rfl
  have fin := packIC.eq_1 xs 2
  rw [if_pos hw, show (2 : Int).toNat = 2 from rfl] at fin
  have em : IntKind.i64.wrap ((xs.length : Int) * 2) = ((2 * xs.length : Nat) : Int) := by rw [wrap_i64_of (by omega) (by omega)]; omega
  refine Meets.intro mixed (hint []) Try.func111 rfl (by decide) res_111 rty_111 (by kernel_rfl) ?_; 
  simp -dsimp -implicitDefEqProofs only [go_sem, Nat.reduceBEq, Nat.reduceAdd, Nat.reduceLeDiff, Nat.reduceSub, Int.reduceEq, em]
  repeat with_reducible refine ask.of (by omega) ?_
  refine LoopE.cnt xs.length (fun i s => s.env 15 = .rd .ent 3 1 (ra intC xs) ∧ s.env 1 = .v (.int .i64 2) ∧ s.env 16 = .v (.int .i64 xs.length) ∧ s.env 17 = .v (.int .i64 i) ∧ s.env 6 = .ref [14] ∧ s.σ [14] = some (.row 5 1 (bytesA (packI (xs.take i) 2))) ∧ (xs.take i).all (fitsB 2) = true) ⟨by simp -dsimp -implicitDefEqProofs only [go_sem, Nat.reduceBEq, Nat.reduceAdd, Nat.reduceLeDiff, Nat.reduceSub, Int.reduceEq, initE], by simp -dsimp -implicitDefEqProofs only [go_sem, Nat.reduceBEq, Nat.reduceAdd, Nat.reduceLeDiff, Nat.reduceSub, Int.reduceEq, initE], by simp -dsimp -implicitDefEqProofs only [go_sem, Nat.reduceBEq, Nat.reduceAdd, Nat.reduceLeDiff, Nat.reduceSub, Int.reduceEq], by simp -dsimp -implicitDefEqProofs only [go_sem, Nat.reduceBEq, Nat.reduceAdd, Nat.reduceLeDiff, Nat.reduceSub, Int.reduceEq] <;> simp, by simp -dsimp -implicitDefEqProofs only [go_sem, Nat.reduceBEq, Nat.reduceAdd, Nat.reduceLeDiff, Nat.reduceSub, Int.reduceEq], by simp -dsimp -implicitDefEqProofs only [go_sem, Nat.reduceBEq, Nat.reduceAdd, Nat.reduceLeDiff, Nat.reduceSub, Int.reduceEq]; rfl, by simp⟩ ?_
  rintro i ⟨e, σ⟩ hi ⟨h15, h1, h16, h17, h6, hs, hz⟩ K hK
  simp only at h15 h1 h16 h17 h6 hs
  simp -dsimp -implicitDefEqProofs only [go_sem, Nat.reduceBEq, Nat.reduceAdd, Nat.reduceLeDiff, Nat.reduceSub, Int.reduceEq, h15, h1, h16, h17, h6, hs]
  refine ifB'.of (fun hlt => ?_) (fun hlt => ?_)
  · have hlt : i < xs.length := by omega
    have hv := hr xs[i] (List.getElem_mem hlt)
    have hd : decide (IntKind.i64.wrap (IntKind.i16.wrap xs[i]) = xs[i]) = fitsB 2 xs[i] := back_i16 hv
    simp -dsimp -implicitDefEqProofs only [go_sem, Nat.reduceBEq, Nat.reduceAdd, Nat.reduceLeDiff, Nat.reduceSub, Int.reduceEq, h15, h1, h16, h17, h6, hs, intA_at hlt, hd]
    repeat with_reducible refine ask.of (by omega) ?_
    cases hf : fitsB 2 xs[i]
    · simp -dsimp -implicitDefEqProofs only [go_sem, Nat.reduceBEq, Nat.reduceAdd, Nat.reduceLeDiff, Nat.reduceSub, Int.reduceEq, h15, h1, h16, h17, h6, hs, hf]
      rw [fin, all_not 2 hlt hf]; rfl
    simp -dsimp -implicitDefEqProofs only [go_sem, Nat.reduceBEq, Nat.reduceAdd, Nat.reduceLeDiff, Nat.reduceSub, Int.reduceEq, h15, h1, h16, h17, h6, hs, hf]
    refine LoopE.cnt 2 (fun j s => s.env 15 = .rd .ent 3 1 (ra intC xs) ∧ s.env 1 = .v (.int .i64 2) ∧ s.env 16 = .v (.int .i64 xs.length) ∧ s.env 17 = .v (.int .i64 i) ∧ s.env 27 = .v (.int .i64 2) ∧ s.env 28 = .v (.int .i64 j) ∧ s.env 8 = .v (.int .i64 (xs[i] / 256 ^ j)) ∧ s.env 6 = .ref [14] ∧ s.σ [14] = some (.row 5 1 (bytesA (packI (xs.take i) 2 ++ leB j xs[i])))) ⟨by simp -dsimp -implicitDefEqProofs only [go_sem, Nat.reduceBEq, Nat.reduceAdd, Nat.reduceLeDiff, Nat.reduceSub, Int.reduceEq, h15, h1, h16, h17, h6, hs], by simp -dsimp -implicitDefEqProofs only [go_sem, Nat.reduceBEq, Nat.reduceAdd, Nat.reduceLeDiff, Nat.reduceSub, Int.reduceEq, h15, h1, h16, h17, h6, hs], by simp -dsimp -implicitDefEqProofs only [go_sem, Nat.reduceBEq, Nat.reduceAdd, Nat.reduceLeDiff, Nat.reduceSub, Int.reduceEq, h15, h1, h16, h17, h6, hs], by simp -dsimp -implicitDefEqProofs only [go_sem, Nat.reduceBEq, Nat.reduceAdd, Nat.reduceLeDiff, Nat.reduceSub, Int.reduceEq, h15, h1, h16, h17, h6, hs], by simp -dsimp -implicitDefEqProofs only [go_sem, Nat.reduceBEq, Nat.reduceAdd, Nat.reduceLeDiff, Nat.reduceSub, Int.reduceEq, h15, h1, h16, h17, h6, hs], by simp -dsimp -implicitDefEqProofs only [go_sem, Nat.reduceBEq, Nat.reduceAdd, Nat.reduceLeDiff, Nat.reduceSub, Int.reduceEq, h15, h1, h16, h17, h6, hs] <;> simp, by simp -dsimp -implicitDefEqProofs only [go_sem, Nat.reduceBEq, Nat.reduceAdd, Nat.reduceLeDiff, Nat.reduceSub, Int.reduceEq, h15, h1, h16, h17, h6, hs] <;> simp, by simp -dsimp -implicitDefEqProofs only [go_sem, Nat.reduceBEq, Nat.reduceAdd, Nat.reduceLeDiff, Nat.reduceSub, Int.reduceEq, h15, h1, h16, h17, h6, hs], by simp -dsimp -implicitDefEqProofs only [go_sem, Nat.reduceBEq, Nat.reduceAdd, Nat.reduceLeDiff, Nat.reduceSub, Int.reduceEq, h15, h1, h16, h17, h6, hs] <;> simp [leB]⟩ ?_
    rintro j ⟨e, σ⟩ hj ⟨h15, h1, h16, h17, ha, hb, h8, h6, hs⟩ K' hK'
    simp only at h15 h1 h16 h17 ha hb h8 h6 hs
    simp -dsimp -implicitDefEqProofs only [go_sem, Nat.reduceBEq, Nat.reduceAdd, Nat.reduceLeDiff, Nat.reduceSub, Int.reduceEq, h15, h1, h16, h17, ha, hb, h8, h6, hs]
    refine ifB'.of (fun hjt => ?_) (fun hjt => ?_)
    · have hjt : j < 2 := by omega
      simp -dsimp -implicitDefEqProofs only [go_sem, Nat.reduceBEq, Nat.reduceAdd, Nat.reduceLeDiff, Nat.reduceSub, Int.reduceEq, h15, h1, h16, h17, ha, hb, h8, h6, hs, u8_byte xs[i] (show j < 8 by omega), List.length_append, packI_length, leB_length, List.length_take, Nat.min_eq_left hi]
      repeat with_reducible refine ask.of (by omega) ?_
      refine hK' _ hjt ?_
      simp -dsimp -implicitDefEqProofs only [go_sem, Nat.reduceBEq, Nat.reduceAdd, Nat.reduceLeDiff, Nat.reduceSub, Int.reduceEq, h15, h1, h16, h17, ha, hb, h8, h6, hs, wrap_succ (show j < 4611686018427387904 by omega), shr_byte, List.append_assoc, leB_succ]
    · obtain rfl : j = 2 := by omega
      simp -dsimp -implicitDefEqProofs only [go_sem, Nat.reduceBEq, Nat.reduceAdd, Nat.reduceLeDiff, Nat.reduceSub, Int.reduceEq, h15, h1, h16, h17, ha, hb, h8, h6, hs]
      refine hK _ hlt ?_
      simp -dsimp -implicitDefEqProofs only [go_sem, Nat.reduceBEq, Nat.reduceAdd, Nat.reduceLeDiff, Nat.reduceSub, Int.reduceEq, h15, h1, h16, h17, ha, hb, h8, h6, hs, wrap_succ (show i < 4611686018427387904 by omega), packI_succ 2 hlt, all_succ 2 hlt hz hf]
  · obtain rfl : i = xs.length := by omega
    rw [List.take_length] at hz hs
    rw [if_pos hz] at fin
    simp -dsimp -implicitDefEqProofs only [go_sem, Nat.reduceBEq, Nat.reduceAdd, Nat.reduceLeDiff, Nat.reduceSub, Int.reduceEq, h15, h1, h16, h17, h6, hs, fin]
theorem c_packed_i32 (xs : List Int) (hx : xs.length ≤ 1048576) (hr : ∀ x ∈ xs, -9223372036854775808 ≤ x ∧ x ≤ 9223372036854775807) : Meets Try.prog 112 [rowI xs, .v (.int .i64 4)] (fun r => r = .tup [rowB (packIC xs 4).1, .v (.int .i64 (packIC xs 4).2)]) := by
  have hw : isW 4 = true := rfl
  have fin := packIC.eq_1 xs 4
  rw [if_pos hw, show (4 : Int).toNat = 4 from rfl] at fin
  have em : IntKind.i64.wrap ((xs.length : Int) * 4) = ((4 * xs.length : Nat) : Int) := by rw [wrap_i64_of (by omega) (by omega)]; omega
  refine Meets.intro mixed (hint []) Try.func112 rfl (by decide) res_112 rty_112 (by kernel_rfl) ?_; 
  simp -dsimp -implicitDefEqProofs only [go_sem, Nat.reduceBEq, Nat.reduceAdd, Nat.reduceLeDiff, Nat.reduceSub, Int.reduceEq, em]
  repeat with_reducible refine ask.of (by omega) ?_
  refine LoopE.cnt xs.length (fun i s => s.env 15 = .rd .ent 3 1 (ra intC xs) ∧ s.env 1 = .v (.int .i64 4) ∧ s.env 16 = .v (.int .i64 xs.length) ∧ s.env 17 = .v (.int .i64 i) ∧ s.env 6 = .ref [14] ∧ s.σ [14] = some (.row 5 1 (bytesA (packI (xs.take i) 4))) ∧ (xs.take i).all (fitsB 4) = true) ⟨by simp -dsimp -implicitDefEqProofs only [go_sem, Nat.reduceBEq, Nat.reduceAdd, Nat.reduceLeDiff, Nat.reduceSub, Int.reduceEq, initE], by simp -dsimp -implicitDefEqProofs only [go_sem, Nat.reduceBEq, Nat.reduceAdd, Nat.reduceLeDiff, Nat.reduceSub, Int.reduceEq, initE], by simp -dsimp -implicitDefEqProofs only [go_sem, Nat.reduceBEq, Nat.reduceAdd, Nat.reduceLeDiff, Nat.reduceSub, Int.reduceEq], by simp -dsimp -implicitDefEqProofs only [go_sem, Nat.reduceBEq, Nat.reduceAdd, Nat.reduceLeDiff, Nat.reduceSub, Int.reduceEq] <;> simp, by simp -dsimp -implicitDefEqProofs only [go_sem, Nat.reduceBEq, Nat.reduceAdd, Nat.reduceLeDiff, Nat.reduceSub, Int.reduceEq], by simp -dsimp -implicitDefEqProofs only [go_sem, Nat.reduceBEq, Nat.reduceAdd, Nat.reduceLeDiff, Nat.reduceSub, Int.reduceEq]; rfl, by simp⟩ ?_
  rintro i ⟨e, σ⟩ hi ⟨h15, h1, h16, h17, h6, hs, hz⟩ K hK
  simp only at h15 h1 h16 h17 h6 hs
  simp -dsimp -implicitDefEqProofs only [go_sem, Nat.reduceBEq, Nat.reduceAdd, Nat.reduceLeDiff, Nat.reduceSub, Int.reduceEq, h15, h1, h16, h17, h6, hs]
  refine ifB'.of (fun hlt => ?_) (fun hlt => ?_)
  · have hlt : i < xs.length := by omega
    have hv := hr xs[i] (List.getElem_mem hlt)
    have hd : decide (IntKind.i64.wrap (IntKind.i32.wrap xs[i]) = xs[i]) = fitsB 4 xs[i] := back_i32 hv
    simp -dsimp -implicitDefEqProofs only [go_sem, Nat.reduceBEq, Nat.reduceAdd, Nat.reduceLeDiff, Nat.reduceSub, Int.reduceEq, h15, h1, h16, h17, h6, hs, intA_at hlt, hd]
    repeat with_reducible refine ask.of (by omega) ?_
    cases hf : fitsB 4 xs[i]
    · simp -dsimp -implicitDefEqProofs only [go_sem, Nat.reduceBEq, Nat.reduceAdd, Nat.reduceLeDiff, Nat.reduceSub, Int.reduceEq, h15, h1, h16, h17, h6, hs, hf]
      rw [fin, all_not 4 hlt hf]; rfl
    simp -dsimp -implicitDefEqProofs only [go_sem, Nat.reduceBEq, Nat.reduceAdd, Nat.reduceLeDiff, Nat.reduceSub, Int.reduceEq, h15, h1, h16, h17, h6, hs, hf]
    refine LoopE.cnt 4 (fun j s => s.env 15 = .rd .ent 3 1 (ra intC xs) ∧ s.env 1 = .v (.int .i64 4) ∧ s.env 16 = .v (.int .i64 xs.length) ∧ s.env 17 = .v (.int .i64 i) ∧ s.env 27 = .v (.int .i64 4) ∧ s.env 28 = .v (.int .i64 j) ∧ s.env 8 = .v (.int .i64 (xs[i] / 256 ^ j)) ∧ s.env 6 = .ref [14] ∧ s.σ [14] = some (.row 5 1 (bytesA (packI (xs.take i) 4 ++ leB j xs[i])))) ⟨by simp -dsimp -implicitDefEqProofs only [go_sem, Nat.reduceBEq, Nat.reduceAdd, Nat.reduceLeDiff, Nat.reduceSub, Int.reduceEq, h15, h1, h16, h17, h6, hs], by simp -dsimp -implicitDefEqProofs only [go_sem, Nat.reduceBEq, Nat.reduceAdd, Nat.reduceLeDiff, Nat.reduceSub, Int.reduceEq, h15, h1, h16, h17, h6, hs], by simp -dsimp -implicitDefEqProofs only [go_sem, Nat.reduceBEq, Nat.reduceAdd, Nat.reduceLeDiff, Nat.reduceSub, Int.reduceEq, h15, h1, h16, h17, h6, hs], by simp -dsimp -implicitDefEqProofs only [go_sem, Nat.reduceBEq, Nat.reduceAdd, Nat.reduceLeDiff, Nat.reduceSub, Int.reduceEq, h15, h1, h16, h17, h6, hs], by simp -dsimp -implicitDefEqProofs only [go_sem, Nat.reduceBEq, Nat.reduceAdd, Nat.reduceLeDiff, Nat.reduceSub, Int.reduceEq, h15, h1, h16, h17, h6, hs], by simp -dsimp -implicitDefEqProofs only [go_sem, Nat.reduceBEq, Nat.reduceAdd, Nat.reduceLeDiff, Nat.reduceSub, Int.reduceEq, h15, h1, h16, h17, h6, hs] <;> simp, by simp -dsimp -implicitDefEqProofs only [go_sem, Nat.reduceBEq, Nat.reduceAdd, Nat.reduceLeDiff, Nat.reduceSub, Int.reduceEq, h15, h1, h16, h17, h6, hs] <;> simp, by simp -dsimp -implicitDefEqProofs only [go_sem, Nat.reduceBEq, Nat.reduceAdd, Nat.reduceLeDiff, Nat.reduceSub, Int.reduceEq, h15, h1, h16, h17, h6, hs], by simp -dsimp -implicitDefEqProofs only [go_sem, Nat.reduceBEq, Nat.reduceAdd, Nat.reduceLeDiff, Nat.reduceSub, Int.reduceEq, h15, h1, h16, h17, h6, hs] <;> simp [leB]⟩ ?_
    rintro j ⟨e, σ⟩ hj ⟨h15, h1, h16, h17, ha, hb, h8, h6, hs⟩ K' hK'
    simp only at h15 h1 h16 h17 ha hb h8 h6 hs
    simp -dsimp -implicitDefEqProofs only [go_sem, Nat.reduceBEq, Nat.reduceAdd, Nat.reduceLeDiff, Nat.reduceSub, Int.reduceEq, h15, h1, h16, h17, ha, hb, h8, h6, hs]
    refine ifB'.of (fun hjt => ?_) (fun hjt => ?_)
    · have hjt : j < 4 := by omega
      simp -dsimp -implicitDefEqProofs only [go_sem, Nat.reduceBEq, Nat.reduceAdd, Nat.reduceLeDiff, Nat.reduceSub, Int.reduceEq, h15, h1, h16, h17, ha, hb, h8, h6, hs, u8_byte xs[i] (show j < 8 by omega), List.length_append, packI_length, leB_length, List.length_take, Nat.min_eq_left hi]
      repeat with_reducible refine ask.of (by omega) ?_
      refine hK' _ hjt ?_
      simp -dsimp -implicitDefEqProofs only [go_sem, Nat.reduceBEq, Nat.reduceAdd, Nat.reduceLeDiff, Nat.reduceSub, Int.reduceEq, h15, h1, h16, h17, ha, hb, h8, h6, hs, wrap_succ (show j < 4611686018427387904 by omega), shr_byte, List.append_assoc, leB_succ]
    · obtain rfl : j = 4 := by omega
      simp -dsimp -implicitDefEqProofs only [go_sem, Nat.reduceBEq, Nat.reduceAdd, Nat.reduceLeDiff, Nat.reduceSub, Int.reduceEq, h15, h1, h16, h17, ha, hb, h8, h6, hs]
      refine hK _ hlt ?_
      simp -dsimp -implicitDefEqProofs only [go_sem, Nat.reduceBEq, Nat.reduceAdd, Nat.reduceLeDiff, Nat.reduceSub, Int.reduceEq, h15, h1, h16, h17, ha, hb, h8, h6, hs, wrap_succ (show i < 4611686018427387904 by omega), packI_succ 4 hlt, all_succ 4 hlt hz hf]
  · obtain rfl : i = xs.length := by omega
    rw [List.take_length] at hz hs
    rw [if_pos hz] at fin
    simp -dsimp -implicitDefEqProofs only [go_sem, Nat.reduceBEq, Nat.reduceAdd, Nat.reduceLeDiff, Nat.reduceSub, Int.reduceEq, h15, h1, h16, h17, h6, hs, fin]
theorem c_packed_i64 (xs : List Int) (hx : xs.length ≤ 1048576) (hr : ∀ x ∈ xs, -9223372036854775808 ≤ x ∧ x ≤ 9223372036854775807) : Meets Try.prog 113 [rowI xs, .v (.int .i64 8)] (fun r => r = .tup [rowB (packIC xs 8).1, .v (.int .i64 (packIC xs 8).2)]) := by
  have hw : isW 8 = true := rfl
  have fin := packIC.eq_1 xs 8
  rw [if_pos hw, show (8 : Int).toNat = 8 from rfl] at fin
  have em : IntKind.i64.wrap ((xs.length : Int) * 8) = ((8 * xs.length : Nat) : Int) := by rw [wrap_i64_of (by omega) (by omega)]; omega
  refine Meets.intro mixed (hint []) Try.func113 rfl (by decide) res_113 rty_113 (by kernel_rfl) ?_; 
  simp -dsimp -implicitDefEqProofs only [go_sem, Nat.reduceBEq, Nat.reduceAdd, Nat.reduceLeDiff, Nat.reduceSub, Int.reduceEq, em]
  repeat with_reducible refine ask.of (by omega) ?_
  refine LoopE.cnt xs.length (fun i s => s.env 15 = .rd .ent 3 1 (ra intC xs) ∧ s.env 1 = .v (.int .i64 8) ∧ s.env 16 = .v (.int .i64 xs.length) ∧ s.env 17 = .v (.int .i64 i) ∧ s.env 6 = .ref [14] ∧ s.σ [14] = some (.row 5 1 (bytesA (packI (xs.take i) 8))) ∧ (xs.take i).all (fitsB 8) = true) ⟨by simp -dsimp -implicitDefEqProofs only [go_sem, Nat.reduceBEq, Nat.reduceAdd, Nat.reduceLeDiff, Nat.reduceSub, Int.reduceEq, initE], by simp -dsimp -implicitDefEqProofs only [go_sem, Nat.reduceBEq, Nat.reduceAdd, Nat.reduceLeDiff, Nat.reduceSub, Int.reduceEq, initE], by simp -dsimp -implicitDefEqProofs only [go_sem, Nat.reduceBEq, Nat.reduceAdd, Nat.reduceLeDiff, Nat.reduceSub, Int.reduceEq], by simp -dsimp -implicitDefEqProofs only [go_sem, Nat.reduceBEq, Nat.reduceAdd, Nat.reduceLeDiff, Nat.reduceSub, Int.reduceEq] <;> simp, by simp -dsimp -implicitDefEqProofs only [go_sem, Nat.reduceBEq, Nat.reduceAdd, Nat.reduceLeDiff, Nat.reduceSub, Int.reduceEq], by simp -dsimp -implicitDefEqProofs only [go_sem, Nat.reduceBEq, Nat.reduceAdd, Nat.reduceLeDiff, Nat.reduceSub, Int.reduceEq]; rfl, by simp⟩ ?_
  rintro i ⟨e, σ⟩ hi ⟨h15, h1, h16, h17, h6, hs, hz⟩ K hK
  simp only at h15 h1 h16 h17 h6 hs
  simp -dsimp -implicitDefEqProofs only [go_sem, Nat.reduceBEq, Nat.reduceAdd, Nat.reduceLeDiff, Nat.reduceSub, Int.reduceEq, h15, h1, h16, h17, h6, hs]
  refine ifB'.of (fun hlt => ?_) (fun hlt => ?_)
  · have hlt : i < xs.length := by omega
    have hv := hr xs[i] (List.getElem_mem hlt)
    have hd : decide (True) = fitsB 8 xs[i] := show decide True = fitsB 8 xs[i] from rfl
    simp -dsimp -implicitDefEqProofs only [go_sem, Nat.reduceBEq, Nat.reduceAdd, Nat.reduceLeDiff, Nat.reduceSub, Int.reduceEq, h15, h1, h16, h17, h6, hs, intA_at hlt, hd]
    repeat with_reducible refine ask.of (by omega) ?_
    cases hf : fitsB 8 xs[i]
    · simp -dsimp -implicitDefEqProofs only [go_sem, Nat.reduceBEq, Nat.reduceAdd, Nat.reduceLeDiff, Nat.reduceSub, Int.reduceEq, h15, h1, h16, h17, h6, hs, hf]
      rw [fin, all_not 8 hlt hf]; rfl
    simp -dsimp -implicitDefEqProofs only [go_sem, Nat.reduceBEq, Nat.reduceAdd, Nat.reduceLeDiff, Nat.reduceSub, Int.reduceEq, h15, h1, h16, h17, h6, hs, hf]
    refine LoopE.cnt 8 (fun j s => s.env 15 = .rd .ent 3 1 (ra intC xs) ∧ s.env 1 = .v (.int .i64 8) ∧ s.env 16 = .v (.int .i64 xs.length) ∧ s.env 17 = .v (.int .i64 i) ∧ s.env 25 = .v (.int .i64 8) ∧ s.env 26 = .v (.int .i64 j) ∧ s.env 8 = .v (.int .i64 (xs[i] / 256 ^ j)) ∧ s.env 6 = .ref [14] ∧ s.σ [14] = some (.row 5 1 (bytesA (packI (xs.take i) 8 ++ leB j xs[i])))) ⟨by simp -dsimp -implicitDefEqProofs only [go_sem, Nat.reduceBEq, Nat.reduceAdd, Nat.reduceLeDiff, Nat.reduceSub, Int.reduceEq, h15, h1, h16, h17, h6, hs], by simp -dsimp -implicitDefEqProofs only [go_sem, Nat.reduceBEq, Nat.reduceAdd, Nat.reduceLeDiff, Nat.reduceSub, Int.reduceEq, h15, h1, h16, h17, h6, hs], by simp -dsimp -implicitDefEqProofs only [go_sem, Nat.reduceBEq, Nat.reduceAdd, Nat.reduceLeDiff, Nat.reduceSub, Int.reduceEq, h15, h1, h16, h17, h6, hs], by simp -dsimp -implicitDefEqProofs only [go_sem, Nat.reduceBEq, Nat.reduceAdd, Nat.reduceLeDiff, Nat.reduceSub, Int.reduceEq, h15, h1, h16, h17, h6, hs], by simp -dsimp -implicitDefEqProofs only [go_sem, Nat.reduceBEq, Nat.reduceAdd, Nat.reduceLeDiff, Nat.reduceSub, Int.reduceEq, h15, h1, h16, h17, h6, hs], by simp -dsimp -implicitDefEqProofs only [go_sem, Nat.reduceBEq, Nat.reduceAdd, Nat.reduceLeDiff, Nat.reduceSub, Int.reduceEq, h15, h1, h16, h17, h6, hs] <;> simp, by simp -dsimp -implicitDefEqProofs only [go_sem, Nat.reduceBEq, Nat.reduceAdd, Nat.reduceLeDiff, Nat.reduceSub, Int.reduceEq, h15, h1, h16, h17, h6, hs] <;> simp, by simp -dsimp -implicitDefEqProofs only [go_sem, Nat.reduceBEq, Nat.reduceAdd, Nat.reduceLeDiff, Nat.reduceSub, Int.reduceEq, h15, h1, h16, h17, h6, hs], by simp -dsimp -implicitDefEqProofs only [go_sem, Nat.reduceBEq, Nat.reduceAdd, Nat.reduceLeDiff, Nat.reduceSub, Int.reduceEq, h15, h1, h16, h17, h6, hs] <;> simp [leB]⟩ ?_
    rintro j ⟨e, σ⟩ hj ⟨h15, h1, h16, h17, ha, hb, h8, h6, hs⟩ K' hK'
    simp only at h15 h1 h16 h17 ha hb h8 h6 hs
    simp -dsimp -implicitDefEqProofs only [go_sem, Nat.reduceBEq, Nat.reduceAdd, Nat.reduceLeDiff, Nat.reduceSub, Int.reduceEq, h15, h1, h16, h17, ha, hb, h8, h6, hs]
    refine ifB'.of (fun hjt => ?_) (fun hjt => ?_)
    · have hjt : j < 8 := by omega
      simp -dsimp -implicitDefEqProofs only [go_sem, Nat.reduceBEq, Nat.reduceAdd, Nat.reduceLeDiff, Nat.reduceSub, Int.reduceEq, h15, h1, h16, h17, ha, hb, h8, h6, hs, u8_byte xs[i] (show j < 8 by omega), List.length_append, packI_length, leB_length, List.length_take, Nat.min_eq_left hi]
      repeat with_reducible refine ask.of (by omega) ?_
      refine hK' _ hjt ?_
      simp -dsimp -implicitDefEqProofs only [go_sem, Nat.reduceBEq, Nat.reduceAdd, Nat.reduceLeDiff, Nat.reduceSub, Int.reduceEq, h15, h1, h16, h17, ha, hb, h8, h6, hs, wrap_succ (show j < 4611686018427387904 by omega), shr_byte, List.append_assoc, leB_succ]
    · obtain rfl : j = 8 := by omega
      simp -dsimp -implicitDefEqProofs only [go_sem, Nat.reduceBEq, Nat.reduceAdd, Nat.reduceLeDiff, Nat.reduceSub, Int.reduceEq, h15, h1, h16, h17, ha, hb, h8, h6, hs]
      refine hK _ hlt ?_
      simp -dsimp -implicitDefEqProofs only [go_sem, Nat.reduceBEq, Nat.reduceAdd, Nat.reduceLeDiff, Nat.reduceSub, Int.reduceEq, h15, h1, h16, h17, ha, hb, h8, h6, hs, wrap_succ (show i < 4611686018427387904 by omega), packI_succ 8 hlt, all_succ 8 hlt hz hf]
  · obtain rfl : i = xs.length := by omega
    rw [List.take_length] at hz hs
    rw [if_pos hz] at fin
    simp -dsimp -implicitDefEqProofs only [go_sem, Nat.reduceBEq, Nat.reduceAdd, Nat.reduceLeDiff, Nat.reduceSub, Int.reduceEq, h15, h1, h16, h17, h6, hs, fin]
theorem c_implPackInts (xs : List Int) (n : Int) (hx : xs.length ≤ 1048576) (hr : ∀ x ∈ xs, -9223372036854775808 ≤ x ∧ x ≤ 9223372036854775807) : Meets Try.prog 46 [rowI xs, .v (.int .i64 n)] (fun r => r = .tup [rowB (packIC xs n).1, .v (.int .i64 (packIC xs n).2)]) := by
  refine Meets.intro mixed (hint []) Try.func46 rfl (by decide) res_46 rty_46 (by kernel_rfl) ?_; 
  simp -dsimp -implicitDefEqProofs only [go_sem, Nat.reduceBEq, Nat.reduceAdd, Nat.reduceLeDiff, Nat.reduceSub, Int.reduceEq]
  refine ifB'.of (fun h1 => ?_) (fun h1 => ?_)
  · subst h1
    simp -dsimp -implicitDefEqProofs only [go_sem, Nat.reduceBEq, Nat.reduceAdd, Nat.reduceLeDiff, Nat.reduceSub, Int.reduceEq]
    refine CallE.of (c_packed_i8 xs hx hr) (by rintro r rfl; (repeat' first | exact trivial | exact pure_rowB _ | exact pure_rowO _ | exact pure_rowI _ | exact pure_rowBB _ | exact pure_rowPk _ _ | exact pure_rowSn _ _ | exact pure_rowFd _ _ | exact pure_rowBBB _ | exact pure_rowCl _ _ | exact pure_rowTb _ _ _ | refine And.intro ?_ ?_)) (by simp -dsimp -implicitDefEqProofs only [go_sem, Nat.reduceBEq, Nat.reduceAdd, Nat.reduceLeDiff, Nat.reduceSub, Int.reduceEq]) ?_
    rintro r rfl
    simp -dsimp -implicitDefEqProofs only [go_sem, Nat.reduceBEq, Nat.reduceAdd, Nat.reduceLeDiff, Nat.reduceSub, Int.reduceEq]
  simp -dsimp -implicitDefEqProofs only [go_sem, Nat.reduceBEq, Nat.reduceAdd, Nat.reduceLeDiff, Nat.reduceSub, Int.reduceEq]
  refine ifB'.of (fun h2 => ?_) (fun h2 => ?_)
  · subst h2
    simp -dsimp -implicitDefEqProofs only [go_sem, Nat.reduceBEq, Nat.reduceAdd, Nat.reduceLeDiff, Nat.reduceSub, Int.reduceEq]
    refine CallE.of (c_packed_i16 xs hx hr) (by rintro r rfl; (repeat' first | exact trivial | exact pure_rowB _ | exact pure_rowO _ | exact pure_rowI _ | exact pure_rowBB _ | exact pure_rowPk _ _ | exact pure_rowSn _ _ | exact pure_rowFd _ _ | exact pure_rowBBB _ | exact pure_rowCl _ _ | exact pure_rowTb _ _ _ | refine And.intro ?_ ?_)) (by simp -dsimp -implicitDefEqProofs only [go_sem, Nat.reduceBEq, Nat.reduceAdd, Nat.reduceLeDiff, Nat.reduceSub, Int.reduceEq]) ?_
    rintro r rfl
    simp -dsimp -implicitDefEqProofs only [go_sem, Nat.reduceBEq, Nat.reduceAdd, Nat.reduceLeDiff, Nat.reduceSub, Int.reduceEq]
  simp -dsimp -implicitDefEqProofs only [go_sem, Nat.reduceBEq, Nat.reduceAdd, Nat.reduceLeDiff, Nat.reduceSub, Int.reduceEq]
  refine ifB'.of (fun h4 => ?_) (fun h4 => ?_)
  · subst h4
    simp -dsimp -implicitDefEqProofs only [go_sem, Nat.reduceBEq, Nat.reduceAdd, Nat.reduceLeDiff, Nat.reduceSub, Int.reduceEq]
    refine CallE.of (c_packed_i32 xs hx hr) (by rintro r rfl; (repeat' first | exact trivial | exact pure_rowB _ | exact pure_rowO _ | exact pure_rowI _ | exact pure_rowBB _ | exact pure_rowPk _ _ | exact pure_rowSn _ _ | exact pure_rowFd _ _ | exact pure_rowBBB _ | exact pure_rowCl _ _ | exact pure_rowTb _ _ _ | refine And.intro ?_ ?_)) (by simp -dsimp -implicitDefEqProofs only [go_sem, Nat.reduceBEq, Nat.reduceAdd, Nat.reduceLeDiff, Nat.reduceSub, Int.reduceEq]) ?_
    rintro r rfl
    simp -dsimp -implicitDefEqProofs only [go_sem, Nat.reduceBEq, Nat.reduceAdd, Nat.reduceLeDiff, Nat.reduceSub, Int.reduceEq]
  simp -dsimp -implicitDefEqProofs only [go_sem, Nat.reduceBEq, Nat.reduceAdd, Nat.reduceLeDiff, Nat.reduceSub, Int.reduceEq]
  refine ifB'.of (fun h8 => ?_) (fun h8 => ?_)
  · subst h8
    simp -dsimp -implicitDefEqProofs only [go_sem, Nat.reduceBEq, Nat.reduceAdd, Nat.reduceLeDiff, Nat.reduceSub, Int.reduceEq]
    refine CallE.of (c_packed_i64 xs hx hr) (by rintro r rfl; (repeat' first | exact trivial | exact pure_rowB _ | exact pure_rowO _ | exact pure_rowI _ | exact pure_rowBB _ | exact pure_rowPk _ _ | exact pure_rowSn _ _ | exact pure_rowFd _ _ | exact pure_rowBBB _ | exact pure_rowCl _ _ | exact pure_rowTb _ _ _ | refine And.intro ?_ ?_)) (by simp -dsimp -implicitDefEqProofs only [go_sem, Nat.reduceBEq, Nat.reduceAdd, Nat.reduceLeDiff, Nat.reduceSub, Int.reduceEq]) ?_
    rintro r rfl
    simp -dsimp -implicitDefEqProofs only [go_sem, Nat.reduceBEq, Nat.reduceAdd, Nat.reduceLeDiff, Nat.reduceSub, Int.reduceEq]
  simp -dsimp -implicitDefEqProofs only [go_sem, Nat.reduceBEq, Nat.reduceAdd, Nat.reduceLeDiff, Nat.reduceSub, Int.reduceEq]
  rw [packIC, if_neg (by simp [isW, h1, h2, h4, h8])]
  rfl
end Go.Ev
set_option linter.unusedSimpArgs false
set_option linter.unusedVariables false
namespace Go.Ev
open Go Go.RowKit Go.Proofs
theorem i64_u8 (b : UInt8) : IntKind.i64.wrap (b.toNat : Int) = (b.toNat : Int) := by have := b.toNat_lt; rw [wrap_i64_of (by omega) (by omega)]
end Go.Ev
set_option linter.unusedSimpArgs false
set_option linter.unusedVariables false
namespace Go.Ev
open Go Go.RowKit Go.Proofs
theorem cty_rd : cty Try.prog 176 = [some (5, 1), none] := by kernel_rfl
def rdAt (c : List UInt8) (p : Nat) : AV := .bx 176 [.rd .ent 5 1 (bytesA c), .v (.int .i64 p)]
def cd (code : List UInt8) : List UInt8 := code.take 600
theorem cd_len (code : List UInt8) : (cd code).length ≤ 600 := by simp [cd]; omega
theorem bl2 : Nat.ble 1 2 = true ∧ Nat.ble 2 2 = true ∧ Int.toNat 600 = 600 ∧ Int.toNat 0 = 0 ∧ Int.toNat 1 = 1 := ⟨rfl, rfl, rfl, rfl, rfl⟩
set_option maxRecDepth 8000 in
theorem c_l1open (code : List UInt8) (hb : code.length ≤ 1048576) : Meets Try.prog 102 [.rd .ent 5 1 (bytesA code)] (fun r => r = rdAt (cd code) 0) := by
  refine Meets.intro mixed (hint []) Try.func102 rfl (by decide) res_102 rty_102 (by kernel_rfl) ?_; 
  simp -dsimp -implicitDefEqProofs only [go_sem, Nat.reduceBEq, Nat.reduceAdd, Nat.reduceLeDiff, Nat.reduceSub, Int.reduceEq, initE]
  refine ifB'.of (fun h => ?_) (fun h => ?_)
  · simp -dsimp -implicitDefEqProofs only [go_sem, Nat.reduceBEq, Nat.reduceAdd, Nat.reduceLeDiff, Nat.reduceSub, Int.reduceEq, initE]
    repeat (first | with_reducible refine ask.of (by first | omega | decide) ?_ | simp -dsimp -implicitDefEqProofs only [go_sem, Nat.reduceBEq, Nat.reduceAdd, Nat.reduceLeDiff, Nat.reduceSub, Int.reduceEq, initE, bl2])
    rfl
  · simp -dsimp -implicitDefEqProofs only [go_sem, Nat.reduceBEq, Nat.reduceAdd, Nat.reduceLeDiff, Nat.reduceSub, Int.reduceEq, initE]
    repeat (first | with_reducible refine ask.of (by first | omega | decide) ?_ | simp -dsimp -implicitDefEqProofs only [go_sem, Nat.reduceBEq, Nat.reduceAdd, Nat.reduceLeDiff, Nat.reduceSub, Int.reduceEq, initE, bl2])
    have e : code.take 600 = code.take code.length := by rw [List.take_length, List.take_of_length_le (by omega)]
    rw [cd, e]
    rfl
def nxV (c : List UInt8) (p : Nat) : Nat := (c.getD p 0).toNat
def nxP (c : List UInt8) (p : Nat) : Nat := if p < c.length then p + 1 else p
theorem nxV_at {c : List UInt8} {p : Nat} (h : p < c.length) : nxV c p = c[p].toNat := by simp [nxV, h]
theorem nxV_end {c : List UInt8} {p : Nat} (h : ¬ p < c.length) : nxV c p = 0 := by simp [nxV, h]
theorem nxP_at {c : List UInt8} {p : Nat} (h : p < c.length) : nxP c p = p + 1 := if_pos h
theorem nxP_end {c : List UInt8} {p : Nat} (h : ¬ p < c.length) : nxP c p = p := if_neg h
theorem nxV_lt (c : List UInt8) (p : Nat) : nxV c p < 256 := (c.getD p 0).toNat_lt
theorem nxP_le (c : List UInt8) {p : Nat} (h : p ≤ c.length) : nxP c p ≤ c.length := by unfold nxP; split <;> omega
theorem c_next (c : List UInt8) (p : Nat) (hp : p ≤ 1048576) : MeetsM Try.prog 103 [.mu (rdAt c p)] (fun r rs => r = .v (.int .i64 (nxV c p)) ∧ rs = [rdAt c (nxP c p)]) := by
  refine MeetsM.intro mixed (hint []) Try.func103 rfl (by decide) res_103 rty_103 (pts := parTys Try.prog 103) (by rw [par_103]; rfl) (by kernel_rfl) ?_; rw [par_103]; intro vals; 
  simp -dsimp -implicitDefEqProofs only [go_sem, Nat.reduceBEq, Nat.reduceAdd, Nat.reduceLeDiff, Nat.reduceSub, Int.reduceEq, rdAt]
  repeat (first | with_reducible refine ask.of (by first | omega | decide) ?_ | simp -dsimp -implicitDefEqProofs only [go_sem, Nat.reduceBEq, Nat.reduceAdd, Nat.reduceLeDiff, Nat.reduceSub, Int.reduceEq, bl2])
  refine ifB'.of (fun h => ?_) (fun h => ?_)
  · have hn : ¬ p < c.length := by omega
    repeat (first | with_reducible refine ask.of (by first | omega | decide) ?_ | simp -dsimp -implicitDefEqProofs only [go_sem, Nat.reduceBEq, Nat.reduceAdd, Nat.reduceLeDiff, Nat.reduceSub, Int.reduceEq, bl2, cty_rd])
    rw [nxV_end hn, nxP_end hn]
    exact ⟨rfl, rfl⟩
  · have hn : p < c.length := by omega
    repeat (first | with_reducible refine ask.of (by first | omega | decide) ?_ | simp -dsimp -implicitDefEqProofs only [go_sem, Nat.reduceBEq, Nat.reduceAdd, Nat.reduceLeDiff, Nat.reduceSub, Int.reduceEq, bl2, cty_rd, bytesA_at hn, i64_u8, wrap_succ (show p < 4611686018427387904 by omega)])
    rw [nxV_at hn, nxP_at hn]
    exact ⟨rfl, rfl⟩
def drP (c : List UInt8) (p : Nat) : Nat → Nat
  | 0 => p
  | i + 1 => nxP c (drP c p i)
theorem drP_le (c : List UInt8) {p : Nat} (h : p ≤ c.length) : ∀ i, drP c p i ≤ c.length
  | 0 => h
  | i + 1 => nxP_le c (drP_le c h i)
def drL (c : List UInt8) (p i : Nat) : List UInt8 := (List.range i).map fun j => UInt8.ofNat (nxV c (drP c p j))
theorem drL_snoc (c : List UInt8) (p i : Nat) : drL c p i ++ [UInt8.ofNat (nxV c (drP c p i))] = drL c p (i + 1) := by simp [drL, List.range_succ]
theorem drL_length (c : List UInt8) (p i : Nat) : (drL c p i).length = i := by simp [drL]
def dbN (c : List UInt8) (p m : Nat) : Nat := nxV c p % m
def db (c : List UInt8) (p m : Nat) : List UInt8 := drL c (nxP c p) (dbN c p m)
def dbP (c : List UInt8) (p m : Nat) : Nat := drP c (nxP c p) (dbN c p m)
theorem db_length (c : List UInt8) (p : Nat) {m : Nat} (h : 0 < m) : (db c p m).length < m := by rw [db, drL_length]; exact Nat.mod_lt _ h
theorem dbP_le (c : List UInt8) {p m : Nat} (h : p ≤ c.length) : dbP c p m ≤ c.length := drP_le c (nxP_le c h) _
theorem rem_nat (a b : Nat) : (a : Int).tmod (b : Int) = ((a % b : Nat) : Int) := rfl
theorem u8_nx (n : Nat) (h : n < 256) : IntKind.u8.wrap (n : Int) = ((UInt8.ofNat n).toNat : Int) := by
  have e : (UInt8.ofNat n).toNat = n := by simp; omega
  rw [e]
  have h1 : IntKind.u8.wrap (n : Int) = (n : Int) % 256 := rfl
  rw [h1]; omega
set_option maxRecDepth 8000 in
theorem c_l1drawBytes (c : List UInt8) (p m : Nat) (hp : p ≤ c.length) (hc : c.length ≤ 600) (hm : 0 < m) (hm2 : m ≤ 1000) : MeetsM Try.prog 105 [.mu (rdAt c p), .rd (.v (.int .i64 m))] (fun r rs => r = rowB (db c p m) ∧ rs = [rdAt c (dbP c p m), .any]) := by
  refine MeetsM.intro mixed (hint [(6, 137)]) Try.func105 rfl (by decide) res_105 rty_105 (pts := parTys Try.prog 105) (by rw [par_105]; rfl) (by kernel_rfl) ?_; rw [par_105]; intro vals; 
  have hv := nxV_lt c p
  have hq := nxP_le c hp
  have e1 : ((nxV c p : Nat) : Int).tmod (m : Int) = ((dbN c p m : Nat) : Int) := rem_nat _ _
  have hn : dbN c p m < m := Nat.mod_lt _ hm
  simp -dsimp -implicitDefEqProofs only [go_sem, Nat.reduceBEq, Nat.reduceAdd, Nat.reduceLeDiff, Nat.reduceSub, Int.reduceEq, rdAt]
  refine CallE.mutLend (c_next c p (by omega)) (by simp -dsimp -implicitDefEqProofs only [go_sem, Nat.reduceBEq, Nat.reduceAdd, Nat.reduceLeDiff, Nat.reduceSub, Int.reduceEq]) (by simp -dsimp -implicitDefEqProofs only [go_sem, Nat.reduceBEq, Nat.reduceAdd, Nat.reduceLeDiff, Nat.reduceSub, Int.reduceEq, rdAt]) (by simp -dsimp -implicitDefEqProofs only [go_sem, Nat.reduceBEq, Nat.reduceAdd, Nat.reduceLeDiff, Nat.reduceSub, Int.reduceEq, rdAt]) ?_
  rintro r rs ⟨rfl, rfl⟩
  simp -dsimp -implicitDefEqProofs only [go_sem, Nat.reduceBEq, Nat.reduceAdd, Nat.reduceLeDiff, Nat.reduceSub, Int.reduceEq, rdAt]
  repeat (first | with_reducible refine ask.of (by first | omega | decide) ?_ | simp -dsimp -implicitDefEqProofs only [go_sem, Nat.reduceBEq, Nat.reduceAdd, Nat.reduceLeDiff, Nat.reduceSub, Int.reduceEq, e1])
  refine LoopE.cnt (dbN c p m) (fun i s => s.env 0 = .ptr [1000000, 0, 0] 0 0 0 ∧ s.env 5 = .v (.int .i64 (dbN c p m : Nat)) ∧ s.env 6 = .ref [6] ∧ s.env 7 = .v (.int .i64 i) ∧ s.σ [1000000, 0, 0] = some (.box 176 [.rd .ent 5 1 (bytesA c), .v (.int .i64 (drP c (nxP c p) i : Nat))]) ∧ s.σ [6] = some (.row 5 1 (bytesA (drL c (nxP c p) i))) ∧ s.σ [1000001, 0] = some (.pin (.ptr [1000000, 0, 0] 0 0 0) (vals 0))) ⟨by simp -dsimp -implicitDefEqProofs only [go_sem, Nat.reduceBEq, Nat.reduceAdd, Nat.reduceLeDiff, Nat.reduceSub, Int.reduceEq], by simp -dsimp -implicitDefEqProofs only [go_sem, Nat.reduceBEq, Nat.reduceAdd, Nat.reduceLeDiff, Nat.reduceSub, Int.reduceEq], by simp -dsimp -implicitDefEqProofs only [go_sem, Nat.reduceBEq, Nat.reduceAdd, Nat.reduceLeDiff, Nat.reduceSub, Int.reduceEq], by simp -dsimp -implicitDefEqProofs only [go_sem, Nat.reduceBEq, Nat.reduceAdd, Nat.reduceLeDiff, Nat.reduceSub, Int.reduceEq] <;> rfl, by simp -dsimp -implicitDefEqProofs only [go_sem, Nat.reduceBEq, Nat.reduceAdd, Nat.reduceLeDiff, Nat.reduceSub, Int.reduceEq] <;> rfl, by simp -dsimp -implicitDefEqProofs only [go_sem, Nat.reduceBEq, Nat.reduceAdd, Nat.reduceLeDiff, Nat.reduceSub, Int.reduceEq] <;> rfl, by simp -dsimp -implicitDefEqProofs only [go_sem, Nat.reduceBEq, Nat.reduceAdd, Nat.reduceLeDiff, Nat.reduceSub, Int.reduceEq]⟩ ?_
  rintro i ⟨e, σ⟩ hi ⟨h0, h5, h6, h7, hs0, hs6, hs1⟩ K hK
  simp only at h0 h5 h6 h7 hs0 hs6 hs1
  simp -dsimp -implicitDefEqProofs only [go_sem, Nat.reduceBEq, Nat.reduceAdd, Nat.reduceLeDiff, Nat.reduceSub, Int.reduceEq, h0, h5, h6, h7, hs0, hs6, hs1]
  refine ifB'.of (fun hlt => ?_) (fun hlt => ?_)
  · have hlt : i < dbN c p m := by omega
    have hq2 := drP_le c hq i
    have hl := drL_length c (nxP c p) i
    simp -dsimp -implicitDefEqProofs only [go_sem, Nat.reduceBEq, Nat.reduceAdd, Nat.reduceLeDiff, Nat.reduceSub, Int.reduceEq, h0, h5, h6, h7, hs0, hs6, hs1]
    refine CallE.mutLend (c_next c (drP c (nxP c p) i) (by omega)) (by simp -dsimp -implicitDefEqProofs only [go_sem, Nat.reduceBEq, Nat.reduceAdd, Nat.reduceLeDiff, Nat.reduceSub, Int.reduceEq, h0, h5, h6, h7, hs0, hs6, hs1]) (by simp -dsimp -implicitDefEqProofs only [go_sem, Nat.reduceBEq, Nat.reduceAdd, Nat.reduceLeDiff, Nat.reduceSub, Int.reduceEq, h0, h5, h6, h7, hs0, hs6, hs1, rdAt]) (by simp -dsimp -implicitDefEqProofs only [go_sem, Nat.reduceBEq, Nat.reduceAdd, Nat.reduceLeDiff, Nat.reduceSub, Int.reduceEq, h0, h5, h6, h7, hs0, hs6, hs1, rdAt]) ?_
    rintro r rs ⟨rfl, rfl⟩
    simp -dsimp -implicitDefEqProofs only [go_sem, Nat.reduceBEq, Nat.reduceAdd, Nat.reduceLeDiff, Nat.reduceSub, Int.reduceEq, h0, h5, h6, h7, hs0, hs6, hs1, rdAt]
    repeat (first | with_reducible refine ask.of (by first | omega | decide | (simp only [bytesA_length, hl, List.length_cons, List.length_nil]; omega)) ?_ | simp -dsimp -implicitDefEqProofs only [go_sem, Nat.reduceBEq, Nat.reduceAdd, Nat.reduceLeDiff, Nat.reduceSub, Int.reduceEq, h0, h5, h6, h7, hs0, hs6, hs1, u8_nx _ (nxV_lt c (drP c (nxP c p) i)), bytesA_snoc, drL_snoc])
    refine hK _ hlt ?_
    simp -dsimp -implicitDefEqProofs only [go_sem, Nat.reduceBEq, Nat.reduceAdd, Nat.reduceLeDiff, Nat.reduceSub, Int.reduceEq, h0, h5, h6, h7, hs0, hs6, hs1, wrap_succ (show i < 4611686018427387904 by omega), drP]
  · have : i = dbN c p m := by omega
    subst this
    simp -dsimp -implicitDefEqProofs only [go_sem, Nat.reduceBEq, Nat.reduceAdd, Nat.reduceLeDiff, Nat.reduceSub, Int.reduceEq, h0, h5, h6, h7, hs0, hs6, hs1, cty_rd]
    exact ⟨rfl, rfl⟩
end Go.Ev
set_option linter.unusedSimpArgs false
set_option linter.unusedVariables false
namespace Go.Ev
open Go Go.RowKit Go.Proofs
def bdL (c : List UInt8) (p i : Nat) : List Bool := (List.range i).map fun j => decide (nxV c (drP c p j) % 2 = 1)
theorem bdL_snoc (c : List UInt8) (p i : Nat) : bdL c p i ++ [decide (nxV c (drP c p i) % 2 = 1)] = bdL c p (i + 1) := by simp [bdL, List.range_succ]
theorem bdL_length (c : List UInt8) (p i : Nat) : (bdL c p i).length = i := by simp [bdL]
def drawBits (code : List UInt8) : List Bool := bdL (cd code) (nxP (cd code) 0) (nxV (cd code) 0 % 40)
theorem drawBits_length (code : List UInt8) : (drawBits code).length < 40 := by rw [drawBits, bdL_length]; exact Nat.mod_lt _ (by decide)
theorem odd_eq (n : Nat) : decide (((n : Nat) : Int).tmod 2 = 1) = decide (n % 2 = 1) := by
  have e : ((n : Nat) : Int).tmod 2 = ((n % 2 : Nat) : Int) := rfl
  rw [e]
  congr 1
  exact propext ⟨fun h => by omega, fun h => by omega⟩
theorem boolA_snoc1 {xs : List Bool} {x : Bool} : ra boolC xs ++ [[AV.v (.bool x)]] = ra boolC (xs ++ [x]) := by simp [ra, boolC]
theorem intA_snoc1 {xs : List Int} {x : Int} : ra intC xs ++ [[AV.v (.int .i64 x)]] = ra intC (xs ++ [x]) := by simp [ra, intC]
set_option maxRecDepth 8000 in
theorem c_DrawPackBits (code : List UInt8) (hb : code.length ≤ 1048576) : Meets Try.prog 38 [rowB code] (fun r => r = rowO (drawBits code)) := by
  refine Meets.intro mixed (hint [(5, 149)]) Try.func38 rfl (by decide) res_38 rty_38 (by kernel_rfl) ?_; 
  have hc := cd_len code
  have hv := nxV_lt (cd code) 0
  have hq := nxP_le (cd code) (Nat.zero_le _)
  have e1 : ((nxV (cd code) 0 : Nat) : Int).tmod 40 = ((nxV (cd code) 0 % 40 : Nat) : Int) := rfl
  have hn : nxV (cd code) 0 % 40 < 40 := Nat.mod_lt _ (by decide)
  simp -dsimp -implicitDefEqProofs only [go_sem, Nat.reduceBEq, Nat.reduceAdd, Nat.reduceLeDiff, Nat.reduceSub, Int.reduceEq, initE]
  refine CallE.lend (c_l1open code hb) (by simp -dsimp -implicitDefEqProofs only [go_sem, Nat.reduceBEq, Nat.reduceAdd, Nat.reduceLeDiff, Nat.reduceSub, Int.reduceEq, rdAt]) ?_
  rintro r rfl
  simp -dsimp -implicitDefEqProofs only [go_sem, Nat.reduceBEq, Nat.reduceAdd, Nat.reduceLeDiff, Nat.reduceSub, Int.reduceEq, rdAt]
  refine CallE.mutLend (c_next (cd code) 0 (by omega)) (by simp -dsimp -implicitDefEqProofs only [go_sem, Nat.reduceBEq, Nat.reduceAdd, Nat.reduceLeDiff, Nat.reduceSub, Int.reduceEq]) (by simp -dsimp -implicitDefEqProofs only [go_sem, Nat.reduceBEq, Nat.reduceAdd, Nat.reduceLeDiff, Nat.reduceSub, Int.reduceEq, rdAt]) (by simp -dsimp -implicitDefEqProofs only [go_sem, Nat.reduceBEq, Nat.reduceAdd, Nat.reduceLeDiff, Nat.reduceSub, Int.reduceEq, rdAt]) ?_
  rintro r rs ⟨rfl, rfl⟩
  simp -dsimp -implicitDefEqProofs only [go_sem, Nat.reduceBEq, Nat.reduceAdd, Nat.reduceLeDiff, Nat.reduceSub, Int.reduceEq, rdAt]
  repeat (first | with_reducible refine ask.of (by first | omega | decide) ?_ | simp -dsimp -implicitDefEqProofs only [go_sem, Nat.reduceBEq, Nat.reduceAdd, Nat.reduceLeDiff, Nat.reduceSub, Int.reduceEq, e1])
  refine LoopE.cnt (nxV (cd code) 0 % 40) (fun i s => s.env 3 = .ptr [8, 0] 0 0 0 ∧ s.env 4 = .v (.int .i64 (nxV (cd code) 0 % 40 : Nat)) ∧ s.env 5 = .ref [5] ∧ s.env 6 = .v (.int .i64 i) ∧ s.σ [8, 0] = some (.box 176 [.rd .ent 5 1 (bytesA (cd code)), .v (.int .i64 (drP (cd code) (nxP (cd code) 0) i : Nat))]) ∧ s.σ [5] = some (.row 4 1 (ra boolC (bdL (cd code) (nxP (cd code) 0) i)))) ⟨by simp -dsimp -implicitDefEqProofs only [go_sem, Nat.reduceBEq, Nat.reduceAdd, Nat.reduceLeDiff, Nat.reduceSub, Int.reduceEq], by simp -dsimp -implicitDefEqProofs only [go_sem, Nat.reduceBEq, Nat.reduceAdd, Nat.reduceLeDiff, Nat.reduceSub, Int.reduceEq], by simp -dsimp -implicitDefEqProofs only [go_sem, Nat.reduceBEq, Nat.reduceAdd, Nat.reduceLeDiff, Nat.reduceSub, Int.reduceEq], by simp -dsimp -implicitDefEqProofs only [go_sem, Nat.reduceBEq, Nat.reduceAdd, Nat.reduceLeDiff, Nat.reduceSub, Int.reduceEq] <;> rfl, by simp -dsimp -implicitDefEqProofs only [go_sem, Nat.reduceBEq, Nat.reduceAdd, Nat.reduceLeDiff, Nat.reduceSub, Int.reduceEq] <;> rfl, by simp -dsimp -implicitDefEqProofs only [go_sem, Nat.reduceBEq, Nat.reduceAdd, Nat.reduceLeDiff, Nat.reduceSub, Int.reduceEq] <;> rfl⟩ ?_
  rintro i ⟨e, σ⟩ hi ⟨h3, h4, h5, h6, hs8, hs5⟩ K hK
  simp only at h3 h4 h5 h6 hs8 hs5
  simp -dsimp -implicitDefEqProofs only [go_sem, Nat.reduceBEq, Nat.reduceAdd, Nat.reduceLeDiff, Nat.reduceSub, Int.reduceEq, h3, h4, h5, h6, hs8, hs5]
  refine ifB'.of (fun hlt => ?_) (fun hlt => ?_)
  · have hlt : i < nxV (cd code) 0 % 40 := by omega
    have hq2 := drP_le (cd code) hq i
    have hl := bdL_length (cd code) (nxP (cd code) 0) i
    simp -dsimp -implicitDefEqProofs only [go_sem, Nat.reduceBEq, Nat.reduceAdd, Nat.reduceLeDiff, Nat.reduceSub, Int.reduceEq, h3, h4, h5, h6, hs8, hs5]
    refine CallE.mutLend (c_next (cd code) (drP (cd code) (nxP (cd code) 0) i) (by omega)) (by simp -dsimp -implicitDefEqProofs only [go_sem, Nat.reduceBEq, Nat.reduceAdd, Nat.reduceLeDiff, Nat.reduceSub, Int.reduceEq, h3, h4, h5, h6, hs8, hs5]) (by simp -dsimp -implicitDefEqProofs only [go_sem, Nat.reduceBEq, Nat.reduceAdd, Nat.reduceLeDiff, Nat.reduceSub, Int.reduceEq, h3, h4, h5, h6, hs8, hs5, rdAt]) (by simp -dsimp -implicitDefEqProofs only [go_sem, Nat.reduceBEq, Nat.reduceAdd, Nat.reduceLeDiff, Nat.reduceSub, Int.reduceEq, h3, h4, h5, h6, hs8, hs5, rdAt]) ?_
    rintro r rs ⟨rfl, rfl⟩
    simp -dsimp -implicitDefEqProofs only [go_sem, Nat.reduceBEq, Nat.reduceAdd, Nat.reduceLeDiff, Nat.reduceSub, Int.reduceEq, h3, h4, h5, h6, hs8, hs5, rdAt]
    repeat (first | with_reducible refine ask.of (by first | omega | decide | (simp only [ra_length, hl, List.length_cons, List.length_nil]; omega)) ?_ | simp -dsimp -implicitDefEqProofs only [go_sem, Nat.reduceBEq, Nat.reduceAdd, Nat.reduceLeDiff, Nat.reduceSub, Int.reduceEq, h3, h4, h5, h6, hs8, hs5, odd_eq, boolA_snoc1, bdL_snoc])
    refine hK _ hlt ?_
    simp -dsimp -implicitDefEqProofs only [go_sem, Nat.reduceBEq, Nat.reduceAdd, Nat.reduceLeDiff, Nat.reduceSub, Int.reduceEq, h3, h4, h5, h6, hs8, hs5, wrap_succ (show i < 4611686018427387904 by omega), drP]
  · have : i = nxV (cd code) 0 % 40 := by omega
    subst this
    simp -dsimp -implicitDefEqProofs only [go_sem, Nat.reduceBEq, Nat.reduceAdd, Nat.reduceLeDiff, Nat.reduceSub, Int.reduceEq, h3, h4, h5, h6, hs8, hs5]
    rfl
def wTab : List Int := [1, 2, 4, 8, 3, 0, -1, 16]
def oTab : List Int := [0, 1, -1, 127, 128, -128, -129, 32767, 32768, -32768, 2147483647, 2147483648, -2147483648, -2147483649, 9223372036854775807, -9223372036854775808]
def dW (c : List UInt8) (p : Nat) : Int := if nxV c p < 240 then wTab.getD (nxV c p % 4) 0 else wTab.getD (nxV c p % 8) 0
def dV (c : List UInt8) (p : Nat) : Int := if nxV c p < 60 then oTab.getD (nxV c p % 16) 0 else (nxV c p : Int) - 150
theorem tab_at {t : List Int} {i : Nat} (h : i < t.length) : (ra intC t)[i]? = some (intC (t.getD i 0)) := by rw [ra_at h]; simp [h]
set_option maxRecDepth 8000 in
theorem c_l1drawWidth (c : List UInt8) (p : Nat) (hp : p ≤ c.length) (hc : c.length ≤ 600) : MeetsM Try.prog 106 [.mu (rdAt c p)] (fun r rs => r = .v (.int .i64 (dW c p)) ∧ rs = [rdAt c (nxP c p)]) := by
  refine MeetsM.intro mixed (hint []) Try.func106 rfl (by decide) res_106 rty_106 (pts := parTys Try.prog 106) (by rw [par_106]; rfl) (by kernel_rfl) ?_; rw [par_106]; intro vals; 
  have hv := nxV_lt c p
  have e4 : ((nxV c p : Nat) : Int).tmod 4 = ((nxV c p % 4 : Nat) : Int) := rfl
  have e8 : ((nxV c p : Nat) : Int).tmod 8 = ((nxV c p % 8 : Nat) : Int) := rfl
  have ht : [[AV.v (.int .i64 1)], [AV.v (.int .i64 2)], [AV.v (.int .i64 4)], [AV.v (.int .i64 8)], [AV.v (.int .i64 3)], [AV.v (.int .i64 0)], [AV.v (.int .i64 (-1))], [AV.v (.int .i64 16)]] = ra intC wTab := rfl
  simp -dsimp -implicitDefEqProofs only [go_sem, Nat.reduceBEq, Nat.reduceAdd, Nat.reduceLeDiff, Nat.reduceSub, Int.reduceEq, rdAt]
  refine CallE.mutLend (c_next c p (by omega)) (by simp -dsimp -implicitDefEqProofs only [go_sem, Nat.reduceBEq, Nat.reduceAdd, Nat.reduceLeDiff, Nat.reduceSub, Int.reduceEq]) (by simp -dsimp -implicitDefEqProofs only [go_sem, Nat.reduceBEq, Nat.reduceAdd, Nat.reduceLeDiff, Nat.reduceSub, Int.reduceEq, rdAt]) (by simp -dsimp -implicitDefEqProofs only [go_sem, Nat.reduceBEq, Nat.reduceAdd, Nat.reduceLeDiff, Nat.reduceSub, Int.reduceEq, rdAt]) ?_
  rintro r rs ⟨rfl, rfl⟩
  simp -dsimp -implicitDefEqProofs only [go_sem, Nat.reduceBEq, Nat.reduceAdd, Nat.reduceLeDiff, Nat.reduceSub, Int.reduceEq, rdAt]
  repeat (first | with_reducible refine ask.of (by first | omega | decide) ?_ | simp -dsimp -implicitDefEqProofs only [go_sem, Nat.reduceBEq, Nat.reduceAdd, Nat.reduceLeDiff, Nat.reduceSub, Int.reduceEq, ht, e4, e8])
  refine ifB'.of (fun h => ?_) (fun h => ?_)
  · have h : nxV c p < 240 := by omega
    repeat (first | with_reducible refine ask.of (by first | omega | decide) ?_ | simp -dsimp -implicitDefEqProofs only [go_sem, Nat.reduceBEq, Nat.reduceAdd, Nat.reduceLeDiff, Nat.reduceSub, Int.reduceEq, ht, e4, e8, ra_length, tab_at (t := wTab) (show nxV c p % 4 < 8 by omega), intC, cty_rd, show wTab.length = 8 from rfl])
    rw [dW, if_pos h]
  · have h : ¬ nxV c p < 240 := by omega
    repeat (first | with_reducible refine ask.of (by first | omega | decide) ?_ | simp -dsimp -implicitDefEqProofs only [go_sem, Nat.reduceBEq, Nat.reduceAdd, Nat.reduceLeDiff, Nat.reduceSub, Int.reduceEq, ht, e4, e8, ra_length, tab_at (t := wTab) (show nxV c p % 8 < 8 by omega), intC, cty_rd, show wTab.length = 8 from rfl])
    rw [dW, if_neg h]
set_option maxRecDepth 8000 in
theorem c_l1drawValue (c : List UInt8) (p : Nat) (hp : p ≤ c.length) (hc : c.length ≤ 600) : MeetsM Try.prog 107 [.mu (rdAt c p)] (fun r rs => r = .v (.int .i64 (dV c p)) ∧ rs = [rdAt c (nxP c p)]) := by
  refine MeetsM.intro mixed (hint []) Try.func107 rfl (by decide) res_107 rty_107 (pts := parTys Try.prog 107) (by rw [par_107]; rfl) (by kernel_rfl) ?_; rw [par_107]; intro vals; 
  have hv := nxV_lt c p
  have e4 : ((nxV c p : Nat) : Int).tmod 16 = ((nxV c p % 16 : Nat) : Int) := rfl
  have e8 : IntKind.i64.wrap ((nxV c p : Int) - 150) = (nxV c p : Int) - 150 := wrap_i64_of (by omega) (by omega)
  have ht : [[AV.v (.int .i64 0)], [AV.v (.int .i64 1)], [AV.v (.int .i64 (-1))], [AV.v (.int .i64 127)], [AV.v (.int .i64 128)], [AV.v (.int .i64 (-128))], [AV.v (.int .i64 (-129))], [AV.v (.int .i64 32767)], [AV.v (.int .i64 32768)], [AV.v (.int .i64 (-32768))], [AV.v (.int .i64 2147483647)], [AV.v (.int .i64 2147483648)], [AV.v (.int .i64 (-2147483648))], [AV.v (.int .i64 (-2147483649))], [AV.v (.int .i64 9223372036854775807)], [AV.v (.int .i64 (-9223372036854775808))]] = ra intC oTab := rfl
  simp -dsimp -implicitDefEqProofs only [go_sem, Nat.reduceBEq, Nat.reduceAdd, Nat.reduceLeDiff, Nat.reduceSub, Int.reduceEq, rdAt]
  refine CallE.mutLend (c_next c p (by omega)) (by simp -dsimp -implicitDefEqProofs only [go_sem, Nat.reduceBEq, Nat.reduceAdd, Nat.reduceLeDiff, Nat.reduceSub, Int.reduceEq]) (by simp -dsimp -implicitDefEqProofs only [go_sem, Nat.reduceBEq, Nat.reduceAdd, Nat.reduceLeDiff, Nat.reduceSub, Int.reduceEq, rdAt]) (by simp -dsimp -implicitDefEqProofs only [go_sem, Nat.reduceBEq, Nat.reduceAdd, Nat.reduceLeDiff, Nat.reduceSub, Int.reduceEq, rdAt]) ?_
  rintro r rs ⟨rfl, rfl⟩
  simp -dsimp -implicitDefEqProofs only [go_sem, Nat.reduceBEq, Nat.reduceAdd, Nat.reduceLeDiff, Nat.reduceSub, Int.reduceEq, rdAt]
  repeat (first | with_reducible refine ask.of (by first | omega | decide) ?_ | simp -dsimp -implicitDefEqProofs only [go_sem, Nat.reduceBEq, Nat.reduceAdd, Nat.reduceLeDiff, Nat.reduceSub, Int.reduceEq, ht, e4, e8])
  refine ifB'.of (fun h => ?_) (fun h => ?_)
  · have h : nxV c p < 60 := by omega
    repeat (first | with_reducible refine ask.of (by first | omega | decide) ?_ | simp -dsimp -implicitDefEqProofs only [go_sem, Nat.reduceBEq, Nat.reduceAdd, Nat.reduceLeDiff, Nat.reduceSub, Int.reduceEq, ht, e4, e8, ra_length, tab_at (t := oTab) (show nxV c p % 16 < 16 by omega), intC, cty_rd, show oTab.length = 16 from rfl])
    rw [dV, if_pos h]
  · have h : ¬ nxV c p < 60 := by omega
    repeat (first | with_reducible refine ask.of (by first | omega | decide) ?_ | simp -dsimp -implicitDefEqProofs only [go_sem, Nat.reduceBEq, Nat.reduceAdd, Nat.reduceLeDiff, Nat.reduceSub, Int.reduceEq, ht, e4, e8, cty_rd])
    rw [dV, if_neg h]
def pS (c : List UInt8) (p : Nat) : Int × Nat := if fitsB 1 (dV c p) = true then (dV c p, nxP c p) else (if 0 < nxV c (nxP c p) % 3 then 7 else dV c p, nxP c (nxP c p))
def pP (c : List UInt8) (p : Nat) : Nat → Nat
  | 0 => p
  | i + 1 => (pS c (pP c p i)).2
theorem pS_le (c : List UInt8) {p : Nat} (h : p ≤ c.length) : (pS c p).2 ≤ c.length := by
  unfold pS
  split
  · exact nxP_le c h
  · exact nxP_le c (nxP_le c h)
theorem pP_le (c : List UInt8) {p : Nat} (h : p ≤ c.length) : ∀ i, pP c p i ≤ c.length
  | 0 => h
  | i + 1 => pS_le c (pP_le c h i)
def pL (c : List UInt8) (p i : Nat) : List Int := (List.range i).map fun j => (pS c (pP c p j)).1
theorem pL_snoc (c : List UInt8) (p i : Nat) : pL c p i ++ [(pS c (pP c p i)).1] = pL c p (i + 1) := by simp [pL, List.range_succ]
theorem pL_length (c : List UInt8) (p i : Nat) : (pL c p i).length = i := by simp [pL]
def dpN (code : List UInt8) : Nat := nxV (cd code) (nxP (cd code) 0) % 8
def drawInts (code : List UInt8) : List Int × Int := (pL (cd code) (nxP (cd code) (nxP (cd code) 0)) (dpN code), dW (cd code) 0)
set_option maxRecDepth 8000 in
set_option maxHeartbeats 1000000 in
theorem c_DrawPackInts (code : List UInt8) (hb : code.length ≤ 1048576) : Meets Try.prog 44 [rowB code] (fun r => r = .tup [rowI (drawInts code).1, .v (.int .i64 (drawInts code).2)]) := by
  refine Meets.intro mixed (hint [(7, 156)]) Try.func44 rfl (by decide) res_44 rty_44 (by kernel_rfl) ?_; 
  have hc := cd_len code
  have hq := nxP_le (cd code) (Nat.zero_le _)
  have hq1 := nxP_le (cd code) hq
  have hv := nxV_lt (cd code) (nxP (cd code) 0)
  have e1 : ((nxV (cd code) (nxP (cd code) 0) : Nat) : Int).tmod 8 = ((dpN code : Nat) : Int) := rfl
  have hn : dpN code < 8 := Nat.mod_lt _ (by decide)
  simp -dsimp -implicitDefEqProofs only [go_sem, Nat.reduceBEq, Nat.reduceAdd, Nat.reduceLeDiff, Nat.reduceSub, Int.reduceEq, initE]
  refine CallE.lend (c_l1open code hb) (by simp -dsimp -implicitDefEqProofs only [go_sem, Nat.reduceBEq, Nat.reduceAdd, Nat.reduceLeDiff, Nat.reduceSub, Int.reduceEq, rdAt]) ?_
  rintro r rfl
  simp -dsimp -implicitDefEqProofs only [go_sem, Nat.reduceBEq, Nat.reduceAdd, Nat.reduceLeDiff, Nat.reduceSub, Int.reduceEq, rdAt]
  refine CallE.mutLend (c_l1drawWidth (cd code) 0 (by omega) hc) (by simp -dsimp -implicitDefEqProofs only [go_sem, Nat.reduceBEq, Nat.reduceAdd, Nat.reduceLeDiff, Nat.reduceSub, Int.reduceEq]) (by simp -dsimp -implicitDefEqProofs only [go_sem, Nat.reduceBEq, Nat.reduceAdd, Nat.reduceLeDiff, Nat.reduceSub, Int.reduceEq, rdAt]) (by simp -dsimp -implicitDefEqProofs only [go_sem, Nat.reduceBEq, Nat.reduceAdd, Nat.reduceLeDiff, Nat.reduceSub, Int.reduceEq, rdAt]) ?_
  rintro r rs ⟨rfl, rfl⟩
  simp -dsimp -implicitDefEqProofs only [go_sem, Nat.reduceBEq, Nat.reduceAdd, Nat.reduceLeDiff, Nat.reduceSub, Int.reduceEq, rdAt]
  refine CallE.mutLend (c_next (cd code) (nxP (cd code) 0) (by omega)) (by simp -dsimp -implicitDefEqProofs only [go_sem, Nat.reduceBEq, Nat.reduceAdd, Nat.reduceLeDiff, Nat.reduceSub, Int.reduceEq]) (by simp -dsimp -implicitDefEqProofs only [go_sem, Nat.reduceBEq, Nat.reduceAdd, Nat.reduceLeDiff, Nat.reduceSub, Int.reduceEq, rdAt]) (by simp -dsimp -implicitDefEqProofs only [go_sem, Nat.reduceBEq, Nat.reduceAdd, Nat.reduceLeDiff, Nat.reduceSub, Int.reduceEq, rdAt]) ?_
  rintro r rs ⟨rfl, rfl⟩
  simp -dsimp -implicitDefEqProofs only [go_sem, Nat.reduceBEq, Nat.reduceAdd, Nat.reduceLeDiff, Nat.reduceSub, Int.reduceEq, rdAt]
  repeat (first | with_reducible refine ask.of (by first | omega | decide) ?_ | simp -dsimp -implicitDefEqProofs only [go_sem, Nat.reduceBEq, Nat.reduceAdd, Nat.reduceLeDiff, Nat.reduceSub, Int.reduceEq, e1])
  refine LoopE.cnt (dpN code) (fun i s => s.env 4 = .ptr [11, 0] 0 0 0 ∧ s.env 5 = .v (.int .i64 (dW (cd code) 0)) ∧ s.env 6 = .v (.int .i64 (dpN code : Nat)) ∧ s.env 7 = .ref [7] ∧ s.env 8 = .v (.int .i64 i) ∧ s.σ [11, 0] = some (.box 176 [.rd .ent 5 1 (bytesA (cd code)), .v (.int .i64 (pP (cd code) (nxP (cd code) (nxP (cd code) 0)) i : Nat))]) ∧ s.σ [7] = some (.row 3 1 (ra intC (pL (cd code) (nxP (cd code) (nxP (cd code) 0)) i)))) ⟨by simp -dsimp -implicitDefEqProofs only [go_sem, Nat.reduceBEq, Nat.reduceAdd, Nat.reduceLeDiff, Nat.reduceSub, Int.reduceEq], by simp -dsimp -implicitDefEqProofs only [go_sem, Nat.reduceBEq, Nat.reduceAdd, Nat.reduceLeDiff, Nat.reduceSub, Int.reduceEq], by simp -dsimp -implicitDefEqProofs only [go_sem, Nat.reduceBEq, Nat.reduceAdd, Nat.reduceLeDiff, Nat.reduceSub, Int.reduceEq], by simp -dsimp -implicitDefEqProofs only [go_sem, Nat.reduceBEq, Nat.reduceAdd, Nat.reduceLeDiff, Nat.reduceSub, Int.reduceEq], by simp -dsimp -implicitDefEqProofs only [go_sem, Nat.reduceBEq, Nat.reduceAdd, Nat.reduceLeDiff, Nat.reduceSub, Int.reduceEq] <;> rfl, by simp -dsimp -implicitDefEqProofs only [go_sem, Nat.reduceBEq, Nat.reduceAdd, Nat.reduceLeDiff, Nat.reduceSub, Int.reduceEq] <;> rfl, by simp -dsimp -implicitDefEqProofs only [go_sem, Nat.reduceBEq, Nat.reduceAdd, Nat.reduceLeDiff, Nat.reduceSub, Int.reduceEq] <;> rfl⟩ ?_
  rintro i ⟨e, σ⟩ hi ⟨h4, h5, h6, h7, h8, hs11, hs7⟩ K hK
  simp only at h4 h5 h6 h7 h8 hs11 hs7
  simp -dsimp -implicitDefEqProofs only [go_sem, Nat.reduceBEq, Nat.reduceAdd, Nat.reduceLeDiff, Nat.reduceSub, Int.reduceEq, h4, h5, h6, h7, h8, hs11, hs7]
  refine ifB'.of (fun hlt => ?_) (fun hlt => ?_)
  · have hlt : i < dpN code := by omega
    have hq2 := pP_le (cd code) hq1 i
    have hq3 := nxP_le (cd code) hq2
    have hl := pL_length (cd code) (nxP (cd code) (nxP (cd code) 0)) i
    have hsn := pL_snoc (cd code) (nxP (cd code) (nxP (cd code) 0)) i
    have hpp : pP (cd code) (nxP (cd code) (nxP (cd code) 0)) (i + 1) = (pS (cd code) (pP (cd code) (nxP (cd code) (nxP (cd code) 0)) i)).2 := rfl
    generalize pP (cd code) (nxP (cd code) (nxP (cd code) 0)) i = p at *
    simp -dsimp -implicitDefEqProofs only [go_sem, Nat.reduceBEq, Nat.reduceAdd, Nat.reduceLeDiff, Nat.reduceSub, Int.reduceEq, h4, h5, h6, h7, h8, hs11, hs7]
    refine CallE.mutLend (c_l1drawValue (cd code) p hq2 hc) (by simp -dsimp -implicitDefEqProofs only [go_sem, Nat.reduceBEq, Nat.reduceAdd, Nat.reduceLeDiff, Nat.reduceSub, Int.reduceEq, h4, h5, h6, h7, h8, hs11, hs7]) (by simp -dsimp -implicitDefEqProofs only [go_sem, Nat.reduceBEq, Nat.reduceAdd, Nat.reduceLeDiff, Nat.reduceSub, Int.reduceEq, h4, h5, h6, h7, h8, hs11, hs7, rdAt]) (by simp -dsimp -implicitDefEqProofs only [go_sem, Nat.reduceBEq, Nat.reduceAdd, Nat.reduceLeDiff, Nat.reduceSub, Int.reduceEq, h4, h5, h6, h7, h8, hs11, hs7, rdAt]) ?_
    rintro r rs ⟨rfl, rfl⟩
    simp -dsimp -implicitDefEqProofs only [go_sem, Nat.reduceBEq, Nat.reduceAdd, Nat.reduceLeDiff, Nat.reduceSub, Int.reduceEq, h4, h5, h6, h7, h8, hs11, hs7, rdAt]
    refine CallE.of (c_l1fits (dV (cd code) p) 1 (.inl rfl)) (by rintro r rfl; (repeat' first | exact trivial | exact pure_rowB _ | exact pure_rowO _ | exact pure_rowI _ | exact pure_rowBB _ | exact pure_rowPk _ _ | exact pure_rowSn _ _ | exact pure_rowFd _ _ | exact pure_rowBBB _ | exact pure_rowCl _ _ | exact pure_rowTb _ _ _ | refine And.intro ?_ ?_)) (by simp -dsimp -implicitDefEqProofs only [go_sem, Nat.reduceBEq, Nat.reduceAdd, Nat.reduceLeDiff, Nat.reduceSub, Int.reduceEq, h4, h5, h6, h7, h8, hs11, hs7]) ?_
    rintro r rfl
    simp -dsimp -implicitDefEqProofs only [go_sem, Nat.reduceBEq, Nat.reduceAdd, Nat.reduceLeDiff, Nat.reduceSub, Int.reduceEq, h4, h5, h6, h7, h8, hs11, hs7]
    cases hf : fitsB 1 (dV (cd code) p)
    · simp -dsimp -implicitDefEqProofs only [go_sem, Nat.reduceBEq, Nat.reduceAdd, Nat.reduceLeDiff, Nat.reduceSub, Int.reduceEq, h4, h5, h6, h7, h8, hs11, hs7, hf, Bool.not_false]
      have e3 : ((nxV (cd code) (nxP (cd code) p) : Nat) : Int).tmod 3 = ((nxV (cd code) (nxP (cd code) p) % 3 : Nat) : Int) := rfl
      refine CallE.mutLend (c_next (cd code) (nxP (cd code) p) (by omega)) (by simp -dsimp -implicitDefEqProofs only [go_sem, Nat.reduceBEq, Nat.reduceAdd, Nat.reduceLeDiff, Nat.reduceSub, Int.reduceEq, h4, h5, h6, h7, h8, hs11, hs7]) (by simp -dsimp -implicitDefEqProofs only [go_sem, Nat.reduceBEq, Nat.reduceAdd, Nat.reduceLeDiff, Nat.reduceSub, Int.reduceEq, h4, h5, h6, h7, h8, hs11, hs7, rdAt]) (by simp -dsimp -implicitDefEqProofs only [go_sem, Nat.reduceBEq, Nat.reduceAdd, Nat.reduceLeDiff, Nat.reduceSub, Int.reduceEq, h4, h5, h6, h7, h8, hs11, hs7, rdAt]) ?_
      rintro r rs ⟨rfl, rfl⟩
      simp -dsimp -implicitDefEqProofs only [go_sem, Nat.reduceBEq, Nat.reduceAdd, Nat.reduceLeDiff, Nat.reduceSub, Int.reduceEq, h4, h5, h6, h7, h8, hs11, hs7, rdAt]
      repeat (first | with_reducible refine ask.of (by first | omega | decide) ?_ | simp -dsimp -implicitDefEqProofs only [go_sem, Nat.reduceBEq, Nat.reduceAdd, Nat.reduceLeDiff, Nat.reduceSub, Int.reduceEq, h4, h5, h6, h7, h8, hs11, hs7, e3])
      refine ifB'.of (fun h3 => ?_) (fun h3 => ?_)
      · have hps : pS (cd code) p = (7, nxP (cd code) (nxP (cd code) p)) := by rw [pS, hf, if_neg (by decide), if_pos (by omega)]
        rw [hps] at hsn hpp
        repeat (first | with_reducible refine ask.of (by first | omega | decide | (simp only [ra_length, hl, List.length_cons, List.length_nil]; omega)) ?_ | simp -dsimp -implicitDefEqProofs only [go_sem, Nat.reduceBEq, Nat.reduceAdd, Nat.reduceLeDiff, Nat.reduceSub, Int.reduceEq, h4, h5, h6, h7, h8, hs11, hs7, intA_snoc1])
        refine hK _ hlt ?_
        simp -dsimp -implicitDefEqProofs only [go_sem, Nat.reduceBEq, Nat.reduceAdd, Nat.reduceLeDiff, Nat.reduceSub, Int.reduceEq, h4, h5, h6, h7, h8, hs11, hs7, wrap_succ (show i < 4611686018427387904 by omega), intA_snoc1, hsn, hpp]
      · have hps : pS (cd code) p = (dV (cd code) p, nxP (cd code) (nxP (cd code) p)) := by rw [pS, hf, if_neg (by decide), if_neg (by omega)]
        rw [hps] at hsn hpp
        repeat (first | with_reducible refine ask.of (by first | omega | decide | (simp only [ra_length, hl, List.length_cons, List.length_nil]; omega)) ?_ | simp -dsimp -implicitDefEqProofs only [go_sem, Nat.reduceBEq, Nat.reduceAdd, Nat.reduceLeDiff, Nat.reduceSub, Int.reduceEq, h4, h5, h6, h7, h8, hs11, hs7, intA_snoc1])
        refine hK _ hlt ?_
        simp -dsimp -implicitDefEqProofs only [go_sem, Nat.reduceBEq, Nat.reduceAdd, Nat.reduceLeDiff, Nat.reduceSub, Int.reduceEq, h4, h5, h6, h7, h8, hs11, hs7, wrap_succ (show i < 4611686018427387904 by omega), intA_snoc1, hsn, hpp]
    · have hps : pS (cd code) p = (dV (cd code) p, nxP (cd code) p) := by rw [pS, hf, if_pos rfl]
      rw [hps] at hsn hpp
      simp -dsimp -implicitDefEqProofs only [go_sem, Nat.reduceBEq, Nat.reduceAdd, Nat.reduceLeDiff, Nat.reduceSub, Int.reduceEq, h4, h5, h6, h7, h8, hs11, hs7, hf, Bool.not_true]
      repeat (first | with_reducible refine ask.of (by first | omega | decide | (simp only [ra_length, hl, List.length_cons, List.length_nil]; omega)) ?_ | simp -dsimp -implicitDefEqProofs only [go_sem, Nat.reduceBEq, Nat.reduceAdd, Nat.reduceLeDiff, Nat.reduceSub, Int.reduceEq, h4, h5, h6, h7, h8, hs11, hs7, intA_snoc1])
      refine hK _ hlt ?_
      simp -dsimp -implicitDefEqProofs only [go_sem, Nat.reduceBEq, Nat.reduceAdd, Nat.reduceLeDiff, Nat.reduceSub, Int.reduceEq, h4, h5, h6, h7, h8, hs11, hs7, wrap_succ (show i < 4611686018427387904 by omega), intA_snoc1, hsn, hpp]
  · have : i = dpN code := by omega
    subst this
    simp -dsimp -implicitDefEqProofs only [go_sem, Nat.reduceBEq, Nat.reduceAdd, Nat.reduceLeDiff, Nat.reduceSub, Int.reduceEq, h4, h5, h6, h7, h8, hs11, hs7]
    rfl
def jP (c : List UInt8) (p : Nat) : Nat → Nat
  | 0 => p
  | i + 1 => dbP c (jP c p i) 20
theorem jP_le (c : List UInt8) {p : Nat} (h : p ≤ c.length) : ∀ i, jP c p i ≤ c.length
  | 0 => h
  | i + 1 => dbP_le c (jP_le c h i)
def jL (c : List UInt8) (p i : Nat) : List (List UInt8) := (List.range i).map fun j => db c (jP c p j) 20
theorem jL_snoc (c : List UInt8) (p i : Nat) : jL c p i ++ [db c (jP c p i) 20] = jL c p (i + 1) := by simp [jL, List.range_succ]
theorem jL_length (c : List UInt8) (p i : Nat) : (jL c p i).length = i := by simp [jL]
theorem jL_mem {c : List UInt8} {p i : Nat} {b : List UInt8} (h : b ∈ jL c p i) : b.length < 20 := by
  obtain ⟨j, _, rfl⟩ := List.mem_map.1 h
  exact db_length c _ (by decide)
def drawParts (code : List UInt8) : List (List UInt8) := jL (cd code) (nxP (cd code) 0) (nxV (cd code) 0 % 6)
theorem byC_snoc1 {xs : List (List UInt8)} {x : List UInt8} : ra byC xs ++ [[AV.row 5 1 (bytesA x)]] = ra byC (xs ++ [x]) := by simp [ra, byC]
set_option maxRecDepth 8000 in
set_option maxHeartbeats 1000000 in
theorem c_DrawJoinAligned (code : List UInt8) (hb : code.length ≤ 1048576) : Meets Try.prog 49 [rowB code] (fun r => r = rowBB (drawParts code)) := by
  refine Meets.intro mixed (hint [(5, 122)]) Try.func49 rfl (by decide) res_49 rty_49 (by kernel_rfl) ?_; 
  have hc := cd_len code
  have hv := nxV_lt (cd code) 0
  have hq := nxP_le (cd code) (Nat.zero_le _)
  have e1 : ((nxV (cd code) 0 : Nat) : Int).tmod 6 = ((nxV (cd code) 0 % 6 : Nat) : Int) := rfl
  have hn : nxV (cd code) 0 % 6 < 6 := Nat.mod_lt _ (by decide)
  simp -dsimp -implicitDefEqProofs only [go_sem, Nat.reduceBEq, Nat.reduceAdd, Nat.reduceLeDiff, Nat.reduceSub, Int.reduceEq, initE]
  refine CallE.lend (c_l1open code hb) (by simp -dsimp -implicitDefEqProofs only [go_sem, Nat.reduceBEq, Nat.reduceAdd, Nat.reduceLeDiff, Nat.reduceSub, Int.reduceEq, rdAt]) ?_
  rintro r rfl
  simp -dsimp -implicitDefEqProofs only [go_sem, Nat.reduceBEq, Nat.reduceAdd, Nat.reduceLeDiff, Nat.reduceSub, Int.reduceEq, rdAt]
  refine CallE.mutLend (c_next (cd code) 0 (by omega)) (by simp -dsimp -implicitDefEqProofs only [go_sem, Nat.reduceBEq, Nat.reduceAdd, Nat.reduceLeDiff, Nat.reduceSub, Int.reduceEq]) (by simp -dsimp -implicitDefEqProofs only [go_sem, Nat.reduceBEq, Nat.reduceAdd, Nat.reduceLeDiff, Nat.reduceSub, Int.reduceEq, rdAt]) (by simp -dsimp -implicitDefEqProofs only [go_sem, Nat.reduceBEq, Nat.reduceAdd, Nat.reduceLeDiff, Nat.reduceSub, Int.reduceEq, rdAt]) ?_
  rintro r rs ⟨rfl, rfl⟩
  simp -dsimp -implicitDefEqProofs only [go_sem, Nat.reduceBEq, Nat.reduceAdd, Nat.reduceLeDiff, Nat.reduceSub, Int.reduceEq, rdAt]
  repeat (first | with_reducible refine ask.of (by first | omega | decide) ?_ | simp -dsimp -implicitDefEqProofs only [go_sem, Nat.reduceBEq, Nat.reduceAdd, Nat.reduceLeDiff, Nat.reduceSub, Int.reduceEq, e1])
  refine LoopE.cnt (nxV (cd code) 0 % 6) (fun i s => s.env 3 = .ptr [8, 0] 0 0 0 ∧ s.env 4 = .v (.int .i64 (nxV (cd code) 0 % 6 : Nat)) ∧ s.env 5 = .ref [5] ∧ s.env 6 = .v (.int .i64 i) ∧ s.σ [8, 0] = some (.box 176 [.rd .ent 5 1 (bytesA (cd code)), .v (.int .i64 (jP (cd code) (nxP (cd code) 0) i : Nat))]) ∧ s.σ [5] = some (.row 37 1 (ra byC (jL (cd code) (nxP (cd code) 0) i)))) ⟨by simp -dsimp -implicitDefEqProofs only [go_sem, Nat.reduceBEq, Nat.reduceAdd, Nat.reduceLeDiff, Nat.reduceSub, Int.reduceEq], by simp -dsimp -implicitDefEqProofs only [go_sem, Nat.reduceBEq, Nat.reduceAdd, Nat.reduceLeDiff, Nat.reduceSub, Int.reduceEq], by simp -dsimp -implicitDefEqProofs only [go_sem, Nat.reduceBEq, Nat.reduceAdd, Nat.reduceLeDiff, Nat.reduceSub, Int.reduceEq], by simp -dsimp -implicitDefEqProofs only [go_sem, Nat.reduceBEq, Nat.reduceAdd, Nat.reduceLeDiff, Nat.reduceSub, Int.reduceEq] <;> rfl, by simp -dsimp -implicitDefEqProofs only [go_sem, Nat.reduceBEq, Nat.reduceAdd, Nat.reduceLeDiff, Nat.reduceSub, Int.reduceEq] <;> rfl, by simp -dsimp -implicitDefEqProofs only [go_sem, Nat.reduceBEq, Nat.reduceAdd, Nat.reduceLeDiff, Nat.reduceSub, Int.reduceEq] <;> rfl⟩ ?_
  rintro i ⟨e, σ⟩ hi ⟨h3, h4, h5, h6, hs8, hs5⟩ K hK
  simp only at h3 h4 h5 h6 hs8 hs5
  simp -dsimp -implicitDefEqProofs only [go_sem, Nat.reduceBEq, Nat.reduceAdd, Nat.reduceLeDiff, Nat.reduceSub, Int.reduceEq, h3, h4, h5, h6, hs8, hs5]
  refine ifB'.of (fun hlt => ?_) (fun hlt => ?_)
  · have hlt : i < nxV (cd code) 0 % 6 := by omega
    have hq2 := jP_le (cd code) hq i
    have hl := jL_length (cd code) (nxP (cd code) 0) i
    simp -dsimp -implicitDefEqProofs only [go_sem, Nat.reduceBEq, Nat.reduceAdd, Nat.reduceLeDiff, Nat.reduceSub, Int.reduceEq, h3, h4, h5, h6, hs8, hs5]
    refine CallE.mutLend (c_l1drawBytes (cd code) (jP (cd code) (nxP (cd code) 0) i) 20 hq2 hc (by decide) (by decide)) (by simp -dsimp -implicitDefEqProofs only [go_sem, Nat.reduceBEq, Nat.reduceAdd, Nat.reduceLeDiff, Nat.reduceSub, Int.reduceEq, h3, h4, h5, h6, hs8, hs5]) (by simp -dsimp -implicitDefEqProofs only [go_sem, Nat.reduceBEq, Nat.reduceAdd, Nat.reduceLeDiff, Nat.reduceSub, Int.reduceEq, h3, h4, h5, h6, hs8, hs5, rdAt, show ((20 : Nat) : Int) = 20 from rfl]) (by simp -dsimp -implicitDefEqProofs only [go_sem, Nat.reduceBEq, Nat.reduceAdd, Nat.reduceLeDiff, Nat.reduceSub, Int.reduceEq, h3, h4, h5, h6, hs8, hs5, rdAt, show ((20 : Nat) : Int) = 20 from rfl]) ?_
    rintro r rs ⟨rfl, rfl⟩
    simp -dsimp -implicitDefEqProofs only [go_sem, Nat.reduceBEq, Nat.reduceAdd, Nat.reduceLeDiff, Nat.reduceSub, Int.reduceEq, h3, h4, h5, h6, hs8, hs5, rdAt, show ((20 : Nat) : Int) = 20 from rfl]
    repeat (first | with_reducible refine ask.of (by first | omega | decide | (simp only [ra_length, hl, List.length_cons, List.length_nil]; omega)) ?_ | simp -dsimp -implicitDefEqProofs only [go_sem, Nat.reduceBEq, Nat.reduceAdd, Nat.reduceLeDiff, Nat.reduceSub, Int.reduceEq, h3, h4, h5, h6, hs8, hs5, byC_snoc1, jL_snoc])
    refine hK _ hlt ?_
    simp -dsimp -implicitDefEqProofs only [go_sem, Nat.reduceBEq, Nat.reduceAdd, Nat.reduceLeDiff, Nat.reduceSub, Int.reduceEq, h3, h4, h5, h6, hs8, hs5, wrap_succ (show i < 4611686018427387904 by omega), jP, byC_snoc1, jL_snoc]
  · have : i = nxV (cd code) 0 % 6 := by omega
    subst this
    simp -dsimp -implicitDefEqProofs only [go_sem, Nat.reduceBEq, Nat.reduceAdd, Nat.reduceLeDiff, Nat.reduceSub, Int.reduceEq, h3, h4, h5, h6, hs8, hs5]
    rfl
end Go.Ev
