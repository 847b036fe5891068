/- Contracts: packets. -/
import Derived.Test.YtijmbcnhkdhkeaaLc
set_option linter.unusedSimpArgs false
set_option linter.unusedVariables false
namespace Go.Ev
open Go Go.RowKit Go.Proofs
theorem bleR (n : Nat) : Nat.ble n n = true := by simp
structure Pk where
  a : Int
  b : Int
  c : Int
  d : Int
  e : Bool
  f : List UInt8
def pkC (p : Pk) : List AV := [.v (.int .i64 p.a), .v (.int .i64 p.b), .v (.int .i64 p.c), .v (.int .i64 p.d), .v (.bool p.e), .row 5 1 (bytesA p.f)]
theorem c_szPacket (p : Pk) (left : Nat) (hb : p.f.length ≤ 140737488355328) (hl : left ≤ 1048576) : Meets Try.prog 55 [.agg (pkC p), .v (.int .i64 left)] (fun r => r = .v (.int .i64 (szR left p.f.length))) := by
  refine Meets.intro mixed (hint []) Try.func55 rfl (by decide) res_55 rty_55 (by kernel_rfl) ?_; 
  simp -dsimp -implicitDefEqProofs only [go_sem, Nat.reduceBEq, Nat.reduceAdd, Nat.reduceLeDiff, Nat.reduceSub, Int.reduceEq, pkC]
  repeat with_reducible refine ask.of (by omega) ?_
  refine CallE.of (c_szByteS p.f left hb hl) (by rintro r rfl; (repeat' first | exact trivial | exact pure_rowB _ | exact pure_rowO _ | exact pure_rowI _ | exact pure_rowBB _ | exact pure_rowPk _ _ | exact pure_rowSn _ _ | exact pure_rowFd _ _ | exact pure_rowBBB _ | exact pure_rowCl _ _ | refine And.intro ?_ ?_)) (by simp -dsimp -implicitDefEqProofs only [go_sem, Nat.reduceBEq, Nat.reduceAdd, Nat.reduceLeDiff, Nat.reduceSub, Int.reduceEq]) ?_
  rintro r rfl
  simp -dsimp -implicitDefEqProofs only [go_sem, Nat.reduceBEq, Nat.reduceAdd, Nat.reduceLeDiff, Nat.reduceSub, Int.reduceEq]
  refine ifB'.of (fun h => ?_) (fun h => ?_)
  · simp -dsimp -implicitDefEqProofs only [go_sem, Nat.reduceBEq, Nat.reduceAdd, Nat.reduceLeDiff, Nat.reduceSub, Int.reduceEq]
    by_cases h2 : p.f.length ≤ left
    · rw [szR_ok h2] at h; omega
    · rw [szR_no h2]
  · simp -dsimp -implicitDefEqProofs only [go_sem, Nat.reduceBEq, Nat.reduceAdd, Nat.reduceLeDiff, Nat.reduceSub, Int.reduceEq]
theorem c_toPacket (p : Pk) (hb : p.f.length ≤ 1048576) : Meets Try.prog 58 [.agg (pkC p)] (fun r => r = .agg (pkC p)) := by
  refine Meets.intro mixed (hint []) Try.func58 rfl (by decide) res_58 rty_58 (by kernel_rfl) ?_; 
  simp -dsimp -implicitDefEqProofs only [go_sem, Nat.reduceBEq, Nat.reduceAdd, Nat.reduceLeDiff, Nat.reduceSub, Int.reduceEq, pkC]
  repeat with_reducible refine ask.of (by omega) ?_
  refine CallE.of (c_toByteS p.f hb) (by rintro r rfl; (repeat' first | exact trivial | exact pure_rowB _ | exact pure_rowO _ | exact pure_rowI _ | exact pure_rowBB _ | exact pure_rowPk _ _ | exact pure_rowSn _ _ | exact pure_rowFd _ _ | exact pure_rowBBB _ | exact pure_rowCl _ _ | refine And.intro ?_ ?_)) (by simp -dsimp -implicitDefEqProofs only [go_sem, Nat.reduceBEq, Nat.reduceAdd, Nat.reduceLeDiff, Nat.reduceSub, Int.reduceEq]) ?_
  rintro r rfl
  simp -dsimp -implicitDefEqProofs only [go_sem, Nat.reduceBEq, Nat.reduceAdd, Nat.reduceLeDiff, Nat.reduceSub, Int.reduceEq]
  repeat with_reducible refine ask.of (by omega) ?_
  simp -dsimp -implicitDefEqProofs only [go_sem, Nat.reduceBEq, Nat.reduceAdd, Nat.reduceLeDiff, Nat.reduceSub, Int.reduceEq, bleR]
theorem c_eqPacket (p : Pk) (hb : p.f.length ≤ 1048576) : Meets Try.prog 61 [.agg (pkC p), .agg (pkC p)] (fun r => r = .v (.bool true)) := by
  refine Meets.intro mixed (hint []) Try.func61 rfl (by decide) res_61 rty_61 (by kernel_rfl) ?_; 
  simp -dsimp -implicitDefEqProofs only [go_sem, Nat.reduceBEq, Nat.reduceAdd, Nat.reduceLeDiff, Nat.reduceSub, Int.reduceEq, pkC, decide_true]
  repeat with_reducible refine ask.of (by omega) ?_
  refine CallE.of (c_eqByteS p.f (by omega)) (by rintro r rfl; (repeat' first | exact trivial | exact pure_rowB _ | exact pure_rowO _ | exact pure_rowI _ | exact pure_rowBB _ | exact pure_rowPk _ _ | exact pure_rowSn _ _ | exact pure_rowFd _ _ | exact pure_rowBBB _ | exact pure_rowCl _ _ | refine And.intro ?_ ?_)) (by simp -dsimp -implicitDefEqProofs only [go_sem, Nat.reduceBEq, Nat.reduceAdd, Nat.reduceLeDiff, Nat.reduceSub, Int.reduceEq, Bool.not_true]) ?_
  rintro r rfl
  simp -dsimp -implicitDefEqProofs only [go_sem, Nat.reduceBEq, Nat.reduceAdd, Nat.reduceLeDiff, Nat.reduceSub, Int.reduceEq, Bool.not_true]
def okPk (p : Pk) : Prop := 1 ≤ p.a ∧ p.a ≤ 4 ∧ 1 ≤ p.b ∧ p.b ≤ 1000000000 ∧ 0 ≤ p.c ∧ p.c ≤ 1000000000000 ∧ 0 ≤ p.d ∧ p.d ≤ 1000000000 ∧
  (¬ p.a = 1 ∨ p.d = 0 ∧ p.c < 1000000000000 ∧ 1 ≤ p.f.length ∧ p.f.length ≤ 100) ∧ (p.a = 1 ∨ p.e.toNat = 0 ∧ p.f.length = 0) ∧ (¬ p.a = 3 ∨ p.c = 0) ∧ (¬ p.a = 4 ∨ p.c = 0 ∧ p.d = 0)
instance (p : Pk) : Decidable (okPk p) := by unfold okPk; infer_instance
def okB (p : Pk) : Bool := decide (okPk p)
theorem leaf_f {p : Pk} (h : ¬ okPk p) : false = okB p := by rw [okB, decide_eq_false h]
theorem leaf_t {p : Pk} (h : okPk p) : true = okB p := by rw [okB, decide_eq_true h]
theorem leaf_d {p : Pk} {q : Prop} [Decidable q] (h : q ↔ okPk p) : decide q = okB p := by rw [okB, decide_eq_decide.2 h]
set_option maxHeartbeats 2000000 in
theorem c_l5valid (p : Pk) (hb : p.f.length ≤ 1048576) : Meets Try.prog 168 [.agg (pkC p)] (fun r => r = .v (.bool (okB p))) := by
  refine Meets.intro mixed (hint []) Try.func168 rfl (by decide) res_168 rty_168 (by kernel_rfl) ?_; 
  simp -dsimp -implicitDefEqProofs only [go_sem, Nat.reduceBEq, Nat.reduceAdd, Nat.reduceLeDiff, Nat.reduceSub, Int.reduceEq, pkC]
  cases he : p.e <;> (repeat' (first | with_reducible refine ifB'.of (fun h => ?_) (fun h => ?_) | with_reducible refine ask.of (by omega) ?_ | (with_reducible refine leaf_f ?_; unfold okPk; simp only [he, Bool.toNat_false, Bool.toNat_true, true_and, false_and, or_false, or_true, and_true]; omega) | (with_reducible refine leaf_t ?_; unfold okPk; simp only [he, Bool.toNat_false, Bool.toNat_true, true_and, false_and, or_false, or_true, and_true]; omega) | (with_reducible refine leaf_d ?_; unfold okPk; simp only [he, Bool.toNat_false, Bool.toNat_true, true_and, false_and, or_false, or_true, and_true]; omega) | simp -dsimp -implicitDefEqProofs only [go_sem, Nat.reduceBEq, Nat.reduceAdd, Nat.reduceLeDiff, Nat.reduceSub, Int.reduceEq, he, decide_true]))
set_option maxHeartbeats 2000000 in
theorem c_packetOk (p : Pk) (hb : p.f.length ≤ 1048576) : Meets Try.prog 139 [.agg (pkC p)] (fun r => r = .v (.bool (okB p))) := by
  refine Meets.intro mixed (hint []) Try.func139 rfl (by decide) res_139 rty_139 (by kernel_rfl) ?_; 
  simp -dsimp -implicitDefEqProofs only [go_sem, Nat.reduceBEq, Nat.reduceAdd, Nat.reduceLeDiff, Nat.reduceSub, Int.reduceEq, pkC]
  cases he : p.e <;> (repeat' (first | with_reducible refine ifB'.of (fun h => ?_) (fun h => ?_) | with_reducible refine ask.of (by omega) ?_ | (with_reducible refine leaf_f ?_; unfold okPk; simp only [he, Bool.toNat_false, Bool.toNat_true, true_and, false_and, or_false, or_true, and_true]; omega) | (with_reducible refine leaf_t ?_; unfold okPk; simp only [he, Bool.toNat_false, Bool.toNat_true, true_and, false_and, or_false, or_true, and_true]; omega) | (with_reducible refine leaf_d ?_; unfold okPk; simp only [he, Bool.toNat_false, Bool.toNat_true, true_and, false_and, or_false, or_true, and_true]; omega) | simp -dsimp -implicitDefEqProofs only [go_sem, Nat.reduceBEq, Nat.reduceAdd, Nat.reduceLeDiff, Nat.reduceSub, Int.reduceEq, he, decide_true]))
end Go.Ev
