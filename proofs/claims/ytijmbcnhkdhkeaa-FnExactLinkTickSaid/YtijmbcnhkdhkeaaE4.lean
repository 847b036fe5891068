/- Contracts: packets out of bytes. -/
import Derived.Test.YtijmbcnhkdhkeaaE3
import Derived.Test.YtijmbcnhkdhkeaaA1
import Derived.Test.YtijmbcnhkdhkeaaP4
import Derived.Test.YtijmbcnhkdhkeaaP5
set_option linter.unusedSimpArgs false
set_option linter.unusedVariables false
namespace Go.Ev
open Go Go.RowKit Go.Proofs
def cutB (b : List UInt8) (l h : Nat) : List UInt8 := (b.take h).drop l
theorem cutB_length {b : List UInt8} {l h : Nat} (hh : h ≤ b.length) : (cutB b l h).length = h - l := by simp [cutB]; omega
def numAt (b : List UInt8) (l h : Nat) : Int := IntKind.i64.wrap (leN (cutB b l h))
def pkOf (b : List UInt8) : Pk := ⟨((b.getD 1 0).toNat : Int), numAt b 2 6, numAt b 6 14, numAt b 14 18, decide ((b.getD 18 0).toNat = 1), cutB b 21 (b.length - 4)⟩
def decP (b : List UInt8) : Pk × Int := if 25 ≤ b.length ∧ encP (pkOf b) = b then (pkOf b, 0) else (⟨0, 0, 0, 0, false, []⟩, 3)
theorem decP_no {b : List UInt8} (h : ¬ (25 ≤ b.length ∧ encP (pkOf b) = b)) : decP b = (⟨0, 0, 0, 0, false, []⟩, 3) := if_neg h
theorem decP_yes {b : List UInt8} (h : 25 ≤ b.length ∧ encP (pkOf b) = b) : decP b = (pkOf b, 0) := if_pos h
def decRes (b : List UInt8) : AV := .tup [.agg (pkC (decP b).1), .v (.int .i64 (decP b).2)]
theorem encP_long {b : List UInt8} (h : 125 < b.length) : encP (pkOf b) = [] := by
  unfold encP
  rw [if_neg]
  intro h'
  have h' : okPk (pkOf b) := of_decide_eq_true h'
  have hl : (pkOf b).f.length = b.length - 25 := by
    show (cutB b 21 (b.length - 4)).length = _
    rw [cutB_length (by omega)]; omega
  unfold okPk at h'
  omega
theorem at_getD {b : List UInt8} {i : Nat} (h : i < b.length) : b[i] = b.getD i 0 := by simp [h]
theorem c_bytesClone (b : List UInt8) (hb : b.length ≤ 8388608) : Meets Try.prog 88 [rowB b] (fun r => r = rowB b) := by
  refine Meets.intro mixed (hint []) Try.func88 rfl (by decide) res_88 rty_88 (by kernel_rfl) ?_; 
  simp -dsimp -implicitDefEqProofs only [go_sem, Nat.reduceBEq, Nat.reduceAdd, Nat.reduceLeDiff, Nat.reduceSub, Int.reduceEq, initE]
  refine nilE'.of (fun h => ?_) ?_
  · have h : b = [] := by simpa [bytesA] using h
    subst h
    simp -dsimp -implicitDefEqProofs only [go_sem, Nat.reduceBEq, Nat.reduceAdd, Nat.reduceLeDiff, Nat.reduceSub, Int.reduceEq]
    rfl
  · simp -dsimp -implicitDefEqProofs only [go_sem, Nat.reduceBEq, Nat.reduceAdd, Nat.reduceLeDiff, Nat.reduceSub, Int.reduceEq]
    repeat (first | with_reducible refine ask.of (by first | omega | decide | (simp; omega)) ?_ | simp -dsimp -implicitDefEqProofs only [go_sem, Nat.reduceBEq, Nat.reduceAdd, Nat.reduceLeDiff, Nat.reduceSub, Int.reduceEq, List.nil_append])
theorem u8_eq1 (b : UInt8) : decide ((b.toNat : Int) = 1) = decide (b.toNat = 1) := decide_eq_decide.2 (by omega)
theorem i64_u8 (b : UInt8) : IntKind.i64.wrap (b.toNat : Int) = (b.toNat : Int) := by have := b.toNat_lt; rw [wrap_i64_of (by omega) (by omega)]
theorem pkC_of (b : List UInt8) : pkC (pkOf b) = [.v (.int .i64 ((b.getD 1 0).toNat : Int)), .v (.int .i64 (IntKind.i64.wrap (leN (cutB b 2 6)))), .v (.int .i64 (IntKind.i64.wrap (leN (cutB b 6 14)))), .v (.int .i64 (IntKind.i64.wrap (leN (cutB b 14 18)))), .v (.bool (decide ((b.getD 18 0).toNat = 1))), .row 5 1 (bytesA (cutB b 21 (b.length - 4)))] := rfl
theorem ble6_1 : Nat.ble 1 6 = true := rfl
theorem ble6_2 : Nat.ble 2 6 = true := rfl
theorem ble6_3 : Nat.ble 3 6 = true := rfl
theorem ble6_4 : Nat.ble 4 6 = true := rfl
theorem ble6_5 : Nat.ble 5 6 = true := rfl
end Go.Ev
