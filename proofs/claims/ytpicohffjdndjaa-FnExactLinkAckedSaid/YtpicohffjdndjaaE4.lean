/- Contracts: packets out of bytes. -/
import Derived.Test.YtpicohffjdndjaaE3
import Derived.Test.YtpicohffjdndjaaA1
import Derived.Test.YtpicohffjdndjaaP4
import Derived.Test.YtpicohffjdndjaaP5
set_option linter.unusedSimpArgs false
set_option linter.unusedVariables false
namespace Go.Ev
open Go Go.RowKit Go.Proofs
def cutB (b : List UInt8) (l h : Nat) : List UInt8 := (b.take h).drop l
theorem cutB_length {b : List UInt8} {l h : Nat} (hh : h ≤ b.length) : (cutB b l h).length = h - l := by simp [cutB]; omega
def numAt (b : List UInt8) (l h : Nat) : Int := IntKind.i64.wrap (leN (cutB b l h))
def pkOf (b : List UInt8) : Pk := ⟨((b.getD 1 0).toNat : Int), numAt b 2 6, numAt b 6 14, numAt b 14 18, decide ((b.getD 18 0).toNat = 1), cutB b 21 (b.length - 4)⟩
def decP (b : List UInt8) : Pk × Int := if 25 ≤ b.length ∧ encP (pkOf b) = b then (pkOf b, 0) else (⟨0, 0, 0, 0, false, []⟩, 3)
theorem decP_no {b : List UInt8} (h : ¬ (25 ≤ b.length ∧ encP (pkOf b) = b)) : decP b = (⟨0, 0, 0, 0, false, []⟩, 3) := if_neg h
theorem decP_yes {b : List UInt8} (h : 25 ≤ b.length ∧ encP (pkOf b) = b) : decP b = (pkOf b, 0) := if_pos h
def decRes (b : List UInt8) : AV := .tup [.agg (pkC (decP b).1), .v (.int .i64 (decP b).2)]
theorem encP_long {b : List UInt8} (h : 125 < b.length) : encP (pkOf b) = [] := by
  unfold encP
  rw [if_neg]
  intro h'
  have h' : okPk (pkOf b) := of_decide_eq_true h'
  have hl : (pkOf b).f.length = b.length - 25 := by
    show (cutB b 21 (b.length - 4)).length = _
    rw [cutB_length (by omega)]; omega
  unfold okPk at h'
  omega
theorem at_getD {b : List UInt8} {i : Nat} (h : i < b.length) : b[i] = b.getD i 0 := by simp [h]
theorem c_bytesClone (b : List UInt8) (hb : b.length ≤ 8388608) : Meets Try.prog 121 [rowB b] (fun r => r = rowB b) := by
  refine Meets.intro mixed (hint []) Try.func121 rfl (by decide) res_121 rty_121 (by kernel_rfl) ?_; 
  simp -dsimp -implicitDefEqProofs only [go_sem, Nat.reduceBEq, Nat.reduceAdd, Nat.reduceLeDiff, Nat.reduceSub, Int.reduceEq, initE]
  refine nilE'.of (fun h => ?_) ?_
  · have h : b = [] := by simpa [bytesA] using h
    subst h
    simp -dsimp -implicitDefEqProofs only [go_sem, Nat.reduceBEq, Nat.reduceAdd, Nat.reduceLeDiff, Nat.reduceSub, Int.reduceEq]
    rfl
  · simp -dsimp -implicitDefEqProofs only [go_sem, Nat.reduceBEq, Nat.reduceAdd, Nat.reduceLeDiff, Nat.reduceSub, Int.reduceEq]
    repeat (first | with_reducible refine ask.of (by first | omega | decide | (simp; omega)) ?_ | simp -dsimp -implicitDefEqProofs only [go_sem, Nat.reduceBEq, Nat.reduceAdd, Nat.reduceLeDiff, Nat.reduceSub, Int.reduceEq, List.nil_append])
theorem u8_eq1 (b : UInt8) : decide ((b.toNat : Int) = 1) = decide (b.toNat = 1) := decide_eq_decide.2 (by omega)
theorem i64_u8 (b : UInt8) : IntKind.i64.wrap (b.toNat : Int) = (b.toNat : Int) := by have := b.toNat_lt; rw [wrap_i64_of (by omega) (by omega)]
theorem pkC_of (b : List UInt8) : pkC (pkOf b) = [.v (.int .i64 ((b.getD 1 0).toNat : Int)), .v (.int .i64 (IntKind.i64.wrap (leN (cutB b 2 6)))), .v (.int .i64 (IntKind.i64.wrap (leN (cutB b 6 14)))), .v (.int .i64 (IntKind.i64.wrap (leN (cutB b 14 18)))), .v (.bool (decide ((b.getD 18 0).toNat = 1))), .row 5 1 (bytesA (cutB b 21 (b.length - 4)))] := rfl
theorem ble6_1 : Nat.ble 1 6 = true := rfl
theorem ble6_2 : Nat.ble 2 6 = true := rfl
theorem ble6_3 : Nat.ble 3 6 = true := rfl
theorem ble6_4 : Nat.ble 4 6 = true := rfl
theorem ble6_5 : Nat.ble 5 6 = true := rfl
set_option maxHeartbeats 1000000 in
theorem c_specDecodePacket (b : List UInt8) (hb : b.length ≤ 1048576) : Meets Try.prog 51 [rowB b] (fun r => r = decRes b) := by
  refine Meets.introO mixed (hint []) (fun k => (sel (k == 3) [999,0,1,2,3,4,5,7,8,10,11,13,14,15,16,17,18,19,20,21,1024,6,9,12,22,23,24,25] [])) Try.func51 rfl (by decide) res_51 rty_51 (by kernel_rfl) ?_; 
  simp -dsimp -implicitDefEqProofs only [go_sem, Nat.reduceBEq, Nat.reduceAdd, Nat.reduceLeDiff, Nat.reduceSub, Int.reduceEq]
  repeat (first | with_reducible refine ask.of (by omega) ?_ | simp -dsimp -implicitDefEqProofs only [go_sem, Nat.reduceBEq, Nat.reduceAdd, Nat.reduceLeDiff, Nat.reduceSub, Int.reduceEq])
  refine ifB'.of (fun h => ?_) (fun h => ?_)
  · simp -dsimp -implicitDefEqProofs only [go_sem, Nat.reduceBEq, Nat.reduceAdd, Nat.reduceLeDiff, Nat.reduceSub, Int.reduceEq]
    repeat (first | with_reducible refine ask.of (by omega) ?_ | simp -dsimp -implicitDefEqProofs only [go_sem, Nat.reduceBEq, Nat.reduceAdd, Nat.reduceLeDiff, Nat.reduceSub, Int.reduceEq, bleR])
    rw [decRes, decP_no (by omega)]; rfl
  simp -dsimp -implicitDefEqProofs only [go_sem, Nat.reduceBEq, Nat.reduceAdd, Nat.reduceLeDiff, Nat.reduceSub, Int.reduceEq]
  refine ifB'.of (fun h2 => ?_) (fun h2 => ?_)
  · simp -dsimp -implicitDefEqProofs only [go_sem, Nat.reduceBEq, Nat.reduceAdd, Nat.reduceLeDiff, Nat.reduceSub, Int.reduceEq]
    repeat (first | with_reducible refine ask.of (by omega) ?_ | simp -dsimp -implicitDefEqProofs only [go_sem, Nat.reduceBEq, Nat.reduceAdd, Nat.reduceLeDiff, Nat.reduceSub, Int.reduceEq, bleR])
    rw [decRes, decP_no (by rw [encP_long (by omega)]; rintro ⟨h3, h4⟩; rw [← h4] at h3; simp at h3)]; rfl
  have n1 : 1 < b.length := by omega
  have n18 : 18 < b.length := by omega
  have e4 : IntKind.i64.wrap ((b.length : Int) - 4) = ((b.length - 4 : Nat) : Int) := by rw [wrap_i64_of (by omega) (by omega)]; omega
  simp -dsimp -implicitDefEqProofs only [go_sem, Nat.reduceBEq, Nat.reduceAdd, Nat.reduceLeDiff, Nat.reduceSub, Int.reduceEq, bytesA_at n1, bytesA_at n18, e4, show Int.toNat 1 = 1 from rfl, show Int.toNat 18 = 18 from rfl]
  repeat (first | with_reducible refine ask.of (by omega) ?_ | simp -dsimp -implicitDefEqProofs only [go_sem, Nat.reduceBEq, Nat.reduceAdd, Nat.reduceLeDiff, Nat.reduceSub, Int.reduceEq, bytesA_at n1, bytesA_at n18, e4, show Int.toNat 1 = 1 from rfl, show Int.toNat 18 = 18 from rfl, i64_u8, u8_eq1])
  have c1 : List.drop (Int.toNat 2) (List.take (Int.toNat 6) b) = cutB b 2 6 := rfl
  have c2 : List.drop (Int.toNat 6) (List.take (Int.toNat 14) b) = cutB b 6 14 := rfl
  have c3 : List.drop (Int.toNat 14) (List.take 18 b) = cutB b 14 18 := rfl
  have c4 : List.drop (Int.toNat 21) (List.take (b.length - 4) b) = cutB b 21 (b.length - 4) := rfl
  have l1 : (cutB b 2 6).length = 4 := cutB_length (by omega)
  have l2 : (cutB b 6 14).length = 8 := cutB_length (by omega)
  have l3 : (cutB b 14 18).length = 4 := cutB_length (by omega)
  have l4 : (cutB b 21 (b.length - 4)).length = b.length - 25 := by rw [cutB_length (by omega)]; omega
  refine CallE.of (c_l1number (cutB b 2 6) (by omega)) (by rintro r rfl; (repeat' first | exact trivial | exact pure_rowB _ | exact pure_rowO _ | exact pure_rowI _ | exact pure_rowBB _ | exact pure_rowPk _ _ | exact pure_rowSn _ _ | exact pure_rowFd _ _ | exact pure_rowBBB _ | exact pure_rowCl _ _ | refine And.intro ?_ ?_)) (by simp -dsimp -implicitDefEqProofs only [go_sem, Nat.reduceBEq, Nat.reduceAdd, Nat.reduceLeDiff, Nat.reduceSub, Int.reduceEq, c1, c2, c3, c4]) ?_
  rintro r rfl
  simp -dsimp -implicitDefEqProofs only [go_sem, Nat.reduceBEq, Nat.reduceAdd, Nat.reduceLeDiff, Nat.reduceSub, Int.reduceEq, c1, c2, c3, c4]
  refine CallE.of (c_l1number (cutB b 6 14) (by omega)) (by rintro r rfl; (repeat' first | exact trivial | exact pure_rowB _ | exact pure_rowO _ | exact pure_rowI _ | exact pure_rowBB _ | exact pure_rowPk _ _ | exact pure_rowSn _ _ | exact pure_rowFd _ _ | exact pure_rowBBB _ | exact pure_rowCl _ _ | refine And.intro ?_ ?_)) (by simp -dsimp -implicitDefEqProofs only [go_sem, Nat.reduceBEq, Nat.reduceAdd, Nat.reduceLeDiff, Nat.reduceSub, Int.reduceEq, c1, c2, c3, c4]) ?_
  rintro r rfl
  simp -dsimp -implicitDefEqProofs only [go_sem, Nat.reduceBEq, Nat.reduceAdd, Nat.reduceLeDiff, Nat.reduceSub, Int.reduceEq, c1, c2, c3, c4]
  refine CallE.of (c_l1number (cutB b 14 18) (by omega)) (by rintro r rfl; (repeat' first | exact trivial | exact pure_rowB _ | exact pure_rowO _ | exact pure_rowI _ | exact pure_rowBB _ | exact pure_rowPk _ _ | exact pure_rowSn _ _ | exact pure_rowFd _ _ | exact pure_rowBBB _ | exact pure_rowCl _ _ | refine And.intro ?_ ?_)) (by simp -dsimp -implicitDefEqProofs only [go_sem, Nat.reduceBEq, Nat.reduceAdd, Nat.reduceLeDiff, Nat.reduceSub, Int.reduceEq, c1, c2, c3, c4]) ?_
  rintro r rfl
  simp -dsimp -implicitDefEqProofs only [go_sem, Nat.reduceBEq, Nat.reduceAdd, Nat.reduceLeDiff, Nat.reduceSub, Int.reduceEq, c1, c2, c3, c4]
  refine CallE.of (c_l1copy (cutB b 21 (b.length - 4)) (by omega)) (by rintro r rfl; (repeat' first | exact trivial | exact pure_rowB _ | exact pure_rowO _ | exact pure_rowI _ | exact pure_rowBB _ | exact pure_rowPk _ _ | exact pure_rowSn _ _ | exact pure_rowFd _ _ | exact pure_rowBBB _ | exact pure_rowCl _ _ | refine And.intro ?_ ?_)) (by simp -dsimp -implicitDefEqProofs only [go_sem, Nat.reduceBEq, Nat.reduceAdd, Nat.reduceLeDiff, Nat.reduceSub, Int.reduceEq, c1, c2, c3, c4]) ?_
  rintro r rfl
  simp -dsimp -implicitDefEqProofs only [go_sem, Nat.reduceBEq, Nat.reduceAdd, Nat.reduceLeDiff, Nat.reduceSub, Int.reduceEq, c1, c2, c3, c4]
  repeat (first | with_reducible refine ask.of (by omega) ?_ | simp -dsimp -implicitDefEqProofs only [go_sem, Nat.reduceBEq, Nat.reduceAdd, Nat.reduceLeDiff, Nat.reduceSub, Int.reduceEq, bleR, ble6_1, ble6_2, ble6_3, ble6_4, ble6_5])
  refine CallE.of (c_specEncodePacket (pkOf b) (by show (cutB b 21 (b.length - 4)).length ≤ _; omega)) (by rintro r rfl; (repeat' first | exact trivial | exact pure_rowB _ | exact pure_rowO _ | exact pure_rowI _ | exact pure_rowBB _ | exact pure_rowPk _ _ | exact pure_rowSn _ _ | exact pure_rowFd _ _ | exact pure_rowBBB _ | exact pure_rowCl _ _ | refine And.intro ?_ ?_)) (by simp -dsimp -implicitDefEqProofs only [go_sem, Nat.reduceBEq, Nat.reduceAdd, Nat.reduceLeDiff, Nat.reduceSub, Int.reduceEq, pkC_of b, at_getD n1, at_getD n18]) ?_
  rintro r rfl
  simp -dsimp -implicitDefEqProofs only [go_sem, Nat.reduceBEq, Nat.reduceAdd, Nat.reduceLeDiff, Nat.reduceSub, Int.reduceEq, pkC_of b, at_getD n1, at_getD n18]
  have he := encP_le (pkOf b)
  have hf : (pkOf b).f.length = b.length - 25 := l4
  refine CallE.of (c_l1same (encP (pkOf b)) b (by omega) (by omega)) (by rintro r rfl; (repeat' first | exact trivial | exact pure_rowB _ | exact pure_rowO _ | exact pure_rowI _ | exact pure_rowBB _ | exact pure_rowPk _ _ | exact pure_rowSn _ _ | exact pure_rowFd _ _ | exact pure_rowBBB _ | exact pure_rowCl _ _ | refine And.intro ?_ ?_)) (by simp -dsimp -implicitDefEqProofs only [go_sem, Nat.reduceBEq, Nat.reduceAdd, Nat.reduceLeDiff, Nat.reduceSub, Int.reduceEq]) ?_
  rintro r rfl
  simp -dsimp -implicitDefEqProofs only [go_sem, Nat.reduceBEq, Nat.reduceAdd, Nat.reduceLeDiff, Nat.reduceSub, Int.reduceEq]
  refine ifB'.of (fun h3 => ?_) (fun h3 => ?_)
  · simp -dsimp -implicitDefEqProofs only [go_sem, Nat.reduceBEq, Nat.reduceAdd, Nat.reduceLeDiff, Nat.reduceSub, Int.reduceEq]
    repeat (first | with_reducible refine ask.of (by omega) ?_ | simp -dsimp -implicitDefEqProofs only [go_sem, Nat.reduceBEq, Nat.reduceAdd, Nat.reduceLeDiff, Nat.reduceSub, Int.reduceEq, bleR, ble6_1, ble6_2, ble6_3, ble6_4, ble6_5])
    rw [decRes, decP_yes ⟨by omega, h3⟩, pkC_of]
  · simp -dsimp -implicitDefEqProofs only [go_sem, Nat.reduceBEq, Nat.reduceAdd, Nat.reduceLeDiff, Nat.reduceSub, Int.reduceEq]
    repeat (first | with_reducible refine ask.of (by omega) ?_ | simp -dsimp -implicitDefEqProofs only [go_sem, Nat.reduceBEq, Nat.reduceAdd, Nat.reduceLeDiff, Nat.reduceSub, Int.reduceEq, bleR, ble6_1, ble6_2, ble6_3, ble6_4, ble6_5])
    rw [decRes, decP_no (fun h => h3 h.2)]; rfl
set_option maxHeartbeats 1000000 in
theorem c_implDecodePacket (b : List UInt8) (hb : b.length ≤ 1048576) : Meets Try.prog 53 [rowB b] (fun r => r = decRes b) := by
  refine Meets.introO mixed (hint []) (fun k => (sel (k == 3) [999,0,1,2,3,4,5,7,8,10,11,13,14,15,16,17,18,19,20,21,1024,6,9,12,22,23,24,25] [])) Try.func53 rfl (by decide) res_53 rty_53 (by kernel_rfl) ?_; 
  simp -dsimp -implicitDefEqProofs only [go_sem, Nat.reduceBEq, Nat.reduceAdd, Nat.reduceLeDiff, Nat.reduceSub, Int.reduceEq]
  repeat (first | with_reducible refine ask.of (by omega) ?_ | simp -dsimp -implicitDefEqProofs only [go_sem, Nat.reduceBEq, Nat.reduceAdd, Nat.reduceLeDiff, Nat.reduceSub, Int.reduceEq])
  refine ifB'.of (fun h => ?_) (fun h => ?_)
  · simp -dsimp -implicitDefEqProofs only [go_sem, Nat.reduceBEq, Nat.reduceAdd, Nat.reduceLeDiff, Nat.reduceSub, Int.reduceEq]
    repeat (first | with_reducible refine ask.of (by omega) ?_ | simp -dsimp -implicitDefEqProofs only [go_sem, Nat.reduceBEq, Nat.reduceAdd, Nat.reduceLeDiff, Nat.reduceSub, Int.reduceEq, bleR])
    rw [decRes, decP_no (by omega)]; rfl
  have n1 : 1 < b.length := by omega
  have n18 : 18 < b.length := by omega
  have e4 : IntKind.i64.wrap ((b.length : Int) - 4) = ((b.length - 4 : Nat) : Int) := by rw [wrap_i64_of (by omega) (by omega)]; omega
  simp -dsimp -implicitDefEqProofs only [go_sem, Nat.reduceBEq, Nat.reduceAdd, Nat.reduceLeDiff, Nat.reduceSub, Int.reduceEq, bytesA_at n1, bytesA_at n18, e4, show Int.toNat 1 = 1 from rfl, show Int.toNat 18 = 18 from rfl]
  repeat (first | with_reducible refine ask.of (by omega) ?_ | simp -dsimp -implicitDefEqProofs only [go_sem, Nat.reduceBEq, Nat.reduceAdd, Nat.reduceLeDiff, Nat.reduceSub, Int.reduceEq, bytesA_at n1, bytesA_at n18, e4, show Int.toNat 1 = 1 from rfl, show Int.toNat 18 = 18 from rfl, i64_u8, u8_eq1])
  have c1 : List.drop (Int.toNat 2) (List.take (Int.toNat 6) b) = cutB b 2 6 := rfl
  have c2 : List.drop (Int.toNat 6) (List.take (Int.toNat 14) b) = cutB b 6 14 := rfl
  have c3 : List.drop (Int.toNat 14) (List.take 18 b) = cutB b 14 18 := rfl
  have c4 : List.drop (Int.toNat 21) (List.take (b.length - 4) b) = cutB b 21 (b.length - 4) := rfl
  have l1 : (cutB b 2 6).length = 4 := cutB_length (by omega)
  have l2 : (cutB b 6 14).length = 8 := cutB_length (by omega)
  have l3 : (cutB b 14 18).length = 4 := cutB_length (by omega)
  have l4 : (cutB b 21 (b.length - 4)).length = b.length - 25 := by rw [cutB_length (by omega)]; omega
  refine CallE.of (c_low (cutB b 2 6) (by omega)) (by rintro r rfl; (repeat' first | exact trivial | exact pure_rowB _ | exact pure_rowO _ | exact pure_rowI _ | exact pure_rowBB _ | exact pure_rowPk _ _ | exact pure_rowSn _ _ | exact pure_rowFd _ _ | exact pure_rowBBB _ | exact pure_rowCl _ _ | refine And.intro ?_ ?_)) (by simp -dsimp -implicitDefEqProofs only [go_sem, Nat.reduceBEq, Nat.reduceAdd, Nat.reduceLeDiff, Nat.reduceSub, Int.reduceEq, c1, c2, c3, c4]) ?_
  rintro r rfl
  simp -dsimp -implicitDefEqProofs only [go_sem, Nat.reduceBEq, Nat.reduceAdd, Nat.reduceLeDiff, Nat.reduceSub, Int.reduceEq, c1, c2, c3, c4]
  refine CallE.of (c_low (cutB b 6 14) (by omega)) (by rintro r rfl; (repeat' first | exact trivial | exact pure_rowB _ | exact pure_rowO _ | exact pure_rowI _ | exact pure_rowBB _ | exact pure_rowPk _ _ | exact pure_rowSn _ _ | exact pure_rowFd _ _ | exact pure_rowBBB _ | exact pure_rowCl _ _ | refine And.intro ?_ ?_)) (by simp -dsimp -implicitDefEqProofs only [go_sem, Nat.reduceBEq, Nat.reduceAdd, Nat.reduceLeDiff, Nat.reduceSub, Int.reduceEq, c1, c2, c3, c4]) ?_
  rintro r rfl
  simp -dsimp -implicitDefEqProofs only [go_sem, Nat.reduceBEq, Nat.reduceAdd, Nat.reduceLeDiff, Nat.reduceSub, Int.reduceEq, c1, c2, c3, c4]
  refine CallE.of (c_low (cutB b 14 18) (by omega)) (by rintro r rfl; (repeat' first | exact trivial | exact pure_rowB _ | exact pure_rowO _ | exact pure_rowI _ | exact pure_rowBB _ | exact pure_rowPk _ _ | exact pure_rowSn _ _ | exact pure_rowFd _ _ | exact pure_rowBBB _ | exact pure_rowCl _ _ | refine And.intro ?_ ?_)) (by simp -dsimp -implicitDefEqProofs only [go_sem, Nat.reduceBEq, Nat.reduceAdd, Nat.reduceLeDiff, Nat.reduceSub, Int.reduceEq, c1, c2, c3, c4]) ?_
  rintro r rfl
  simp -dsimp -implicitDefEqProofs only [go_sem, Nat.reduceBEq, Nat.reduceAdd, Nat.reduceLeDiff, Nat.reduceSub, Int.reduceEq, c1, c2, c3, c4]
  refine CallE.of (c_bytesClone (cutB b 21 (b.length - 4)) (by omega)) (by rintro r rfl; (repeat' first | exact trivial | exact pure_rowB _ | exact pure_rowO _ | exact pure_rowI _ | exact pure_rowBB _ | exact pure_rowPk _ _ | exact pure_rowSn _ _ | exact pure_rowFd _ _ | exact pure_rowBBB _ | exact pure_rowCl _ _ | refine And.intro ?_ ?_)) (by simp -dsimp -implicitDefEqProofs only [go_sem, Nat.reduceBEq, Nat.reduceAdd, Nat.reduceLeDiff, Nat.reduceSub, Int.reduceEq, c1, c2, c3, c4]) ?_
  rintro r rfl
  simp -dsimp -implicitDefEqProofs only [go_sem, Nat.reduceBEq, Nat.reduceAdd, Nat.reduceLeDiff, Nat.reduceSub, Int.reduceEq, c1, c2, c3, c4]
  repeat (first | with_reducible refine ask.of (by omega) ?_ | simp -dsimp -implicitDefEqProofs only [go_sem, Nat.reduceBEq, Nat.reduceAdd, Nat.reduceLeDiff, Nat.reduceSub, Int.reduceEq, bleR, ble6_1, ble6_2, ble6_3, ble6_4, ble6_5])
  refine CallE.of (c_implEncodePacket (pkOf b) (by show (cutB b 21 (b.length - 4)).length ≤ _; omega)) (by rintro r rfl; (repeat' first | exact trivial | exact pure_rowB _ | exact pure_rowO _ | exact pure_rowI _ | exact pure_rowBB _ | exact pure_rowPk _ _ | exact pure_rowSn _ _ | exact pure_rowFd _ _ | exact pure_rowBBB _ | exact pure_rowCl _ _ | refine And.intro ?_ ?_)) (by simp -dsimp -implicitDefEqProofs only [go_sem, Nat.reduceBEq, Nat.reduceAdd, Nat.reduceLeDiff, Nat.reduceSub, Int.reduceEq, pkC_of b, at_getD n1, at_getD n18]) ?_
  rintro r rfl
  simp -dsimp -implicitDefEqProofs only [go_sem, Nat.reduceBEq, Nat.reduceAdd, Nat.reduceLeDiff, Nat.reduceSub, Int.reduceEq, pkC_of b, at_getD n1, at_getD n18]
  have he := encP_le (pkOf b)
  have hf : (pkOf b).f.length = b.length - 25 := l4
  refine ifB'.of (fun h3 => ?_) (fun h3 => ?_)
  · simp -dsimp -implicitDefEqProofs only [go_sem, Nat.reduceBEq, Nat.reduceAdd, Nat.reduceLeDiff, Nat.reduceSub, Int.reduceEq]
    repeat (first | with_reducible refine ask.of (by omega) ?_ | simp -dsimp -implicitDefEqProofs only [go_sem, Nat.reduceBEq, Nat.reduceAdd, Nat.reduceLeDiff, Nat.reduceSub, Int.reduceEq, bleR, ble6_1, ble6_2, ble6_3, ble6_4, ble6_5])
    rw [decRes, decP_no (by rintro ⟨h4, h5⟩; rw [h5] at h3; omega)]; rfl
  simp -dsimp -implicitDefEqProofs only [go_sem, Nat.reduceBEq, Nat.reduceAdd, Nat.reduceLeDiff, Nat.reduceSub, Int.reduceEq]
  refine CallE.of (c_bytesEqual (encP (pkOf b)) b (by omega) (by omega)) (by rintro r rfl; (repeat' first | exact trivial | exact pure_rowB _ | exact pure_rowO _ | exact pure_rowI _ | exact pure_rowBB _ | exact pure_rowPk _ _ | exact pure_rowSn _ _ | exact pure_rowFd _ _ | exact pure_rowBBB _ | exact pure_rowCl _ _ | refine And.intro ?_ ?_)) (by simp -dsimp -implicitDefEqProofs only [go_sem, Nat.reduceBEq, Nat.reduceAdd, Nat.reduceLeDiff, Nat.reduceSub, Int.reduceEq]) ?_
  rintro r rfl
  simp -dsimp -implicitDefEqProofs only [go_sem, Nat.reduceBEq, Nat.reduceAdd, Nat.reduceLeDiff, Nat.reduceSub, Int.reduceEq]
  refine ifB'.of (fun h3 => ?_) (fun h3 => ?_)
  · simp -dsimp -implicitDefEqProofs only [go_sem, Nat.reduceBEq, Nat.reduceAdd, Nat.reduceLeDiff, Nat.reduceSub, Int.reduceEq]
    repeat (first | with_reducible refine ask.of (by omega) ?_ | simp -dsimp -implicitDefEqProofs only [go_sem, Nat.reduceBEq, Nat.reduceAdd, Nat.reduceLeDiff, Nat.reduceSub, Int.reduceEq, bleR, ble6_1, ble6_2, ble6_3, ble6_4, ble6_5])
    rw [decRes, decP_yes ⟨by omega, h3⟩, pkC_of]
  · simp -dsimp -implicitDefEqProofs only [go_sem, Nat.reduceBEq, Nat.reduceAdd, Nat.reduceLeDiff, Nat.reduceSub, Int.reduceEq]
    repeat (first | with_reducible refine ask.of (by omega) ?_ | simp -dsimp -implicitDefEqProofs only [go_sem, Nat.reduceBEq, Nat.reduceAdd, Nat.reduceLeDiff, Nat.reduceSub, Int.reduceEq, bleR, ble6_1, ble6_2, ble6_3, ble6_4, ble6_5])
    rw [decRes, decP_no (fun h => h3 h.2)]; rfl
end Go.Ev
