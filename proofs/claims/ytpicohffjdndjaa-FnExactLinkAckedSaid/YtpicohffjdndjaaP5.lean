/- Contracts: whole numbers out of bytes. -/
import Derived.Test.YtpicohffjdndjaaP4
set_option linter.unusedSimpArgs false
set_option linter.unusedVariables false
namespace Go.Ev
open Go Go.RowKit Go.Proofs
def leN : List UInt8 → Nat
  | [] => 0
  | c :: cs => c.toNat + 256 * leN cs
theorem leN_drop {b : List UInt8} {i : Nat} (h : i < b.length) : leN (b.drop i) = b[i].toNat + 256 * leN (b.drop (i + 1)) := by
  rw [List.drop_eq_getElem_cons h, leN]
theorem wrap_ex (x : Int) : ∃ k : Int, IntKind.i64.wrap x = x + 18446744073709551616 * k := by
  rw [IntKind.wrap_i64]
  exact ⟨-((x + 9223372036854775808) / 18446744073709551616), by omega⟩
theorem wrap_more (x k : Int) : IntKind.i64.wrap (x + 18446744073709551616 * k) = IntKind.i64.wrap x := by
  rw [IntKind.wrap_i64, IntKind.wrap_i64]; omega
theorem wrap_step (n c : Int) : IntKind.i64.wrap (IntKind.i64.wrap (IntKind.i64.wrap n * 256) + c) = IntKind.i64.wrap (c + 256 * n) := by
  obtain ⟨k, hk⟩ := wrap_ex n
  obtain ⟨k2, hk2⟩ := wrap_ex (IntKind.i64.wrap n * 256)
  rw [hk2, hk, show (n + 18446744073709551616 * k) * 256 + 18446744073709551616 * k2 + c = c + 256 * n + 18446744073709551616 * (256 * k + k2) by omega, wrap_more]
theorem bv_byte (a : UInt8) : BitVec.ofInt 64 (a.toNat : Int) = BitVec.ofNat 64 a.toNat := by simp
theorem or_byte (n : Nat) (c : UInt8) : IntKind.i64.wrap (((BitVec.ofInt IntKind.i64.bits (IntKind.i64.wrap (IntKind.i64.wrap (n : Int) * 2 ^ min (Int.toNat 8) 64)) ||| BitVec.ofInt IntKind.i64.bits (c.toNat : Int)).toNat : Nat) : Int) = IntKind.i64.wrap ((c.toNat + 256 * n : Nat) : Int) := by
  show IntKind.i64.wrap (((BitVec.ofInt 64 (IntKind.i64.wrap (IntKind.i64.wrap (n : Int) * 256)) ||| BitVec.ofInt 64 (c.toNat : Int)).toNat : Nat) : Int) = _
  have hc := c.toNat_lt
  have e : (BitVec.ofInt 64 (IntKind.i64.wrap (IntKind.i64.wrap (n : Int) * 256)) ||| BitVec.ofInt 64 (c.toNat : Int)).toNat = (c.toNat + 256 * n) % 18446744073709551616 := by
    have e1 : (BitVec.ofInt 64 (IntKind.i64.wrap (IntKind.i64.wrap (n : Int) * 256))).toNat = (n % 72057594037927936) <<< 8 := by
      simp only [BitVec.toNat_ofInt, Nat.shiftLeft_eq, IntKind.wrap_i64]
      omega
    have e2 : (BitVec.ofInt 64 (c.toNat : Int)).toNat = c.toNat := by
      simp only [BitVec.toNat_ofInt]
      omega
    rw [BitVec.toNat_or, e1, e2, ← Nat.shiftLeft_add_eq_or_of_lt (by omega), Nat.shiftLeft_eq]
    omega
  rw [e, IntKind.wrap_i64, IntKind.wrap_i64]
  omega
theorem c_l1number (b : List UInt8) (hb : b.length ≤ 1048576) : Meets Try.prog 118 [rowB b] (fun r => r = .v (.int .i64 (IntKind.i64.wrap (leN b)))) := by
  have e1 : IntKind.i64.wrap ((b.length : Int) - 1) = (b.length : Int) - 1 := wrap_i64_of (by omega) (by omega)
  refine Meets.intro mixed (hint []) Try.func118 rfl (by decide) res_118 rty_118 (by kernel_rfl) ?_; 
  simp -dsimp -implicitDefEqProofs only [go_sem, Nat.reduceBEq, Nat.reduceAdd, Nat.reduceLeDiff, Nat.reduceSub, Int.reduceEq, e1]
  refine LoopE.cnt b.length (fun i s => s.env 0 = .rd .ent 5 1 (bytesA b) ∧ s.env 4 = .v (.int .i64 ((b.length : Int) - 1 - i)) ∧ s.env 3 = .v (.int .i64 (IntKind.i64.wrap (leN (b.drop (b.length - i)))))) ⟨by simp -dsimp -implicitDefEqProofs only [go_sem, Nat.reduceBEq, Nat.reduceAdd, Nat.reduceLeDiff, Nat.reduceSub, Int.reduceEq, initE], by simp -dsimp -implicitDefEqProofs only [go_sem, Nat.reduceBEq, Nat.reduceAdd, Nat.reduceLeDiff, Nat.reduceSub, Int.reduceEq] <;> simp, by simp -dsimp -implicitDefEqProofs only [go_sem, Nat.reduceBEq, Nat.reduceAdd, Nat.reduceLeDiff, Nat.reduceSub, Int.reduceEq] <;> simp [leN] <;> rfl⟩ ?_
  rintro i ⟨e, σ⟩ hi ⟨h0, h4, h3⟩ K hK
  simp only at h0 h4 h3
  simp -dsimp -implicitDefEqProofs only [go_sem, Nat.reduceBEq, Nat.reduceAdd, Nat.reduceLeDiff, Nat.reduceSub, Int.reduceEq, h0, h4, h3]
  refine ifB'.of (fun hlt => ?_) (fun hlt => ?_)
  · have hlt : i < b.length := by omega
    obtain ⟨j, hj⟩ : ∃ j : Nat, b.length - 1 - i = j := ⟨_, rfl⟩
    have hj1 : (b.length : Int) - 1 - i = (j : Nat) := by omega
    have hj2 : b.length - i = j + 1 := by omega
    have hj3 : j < b.length := by omega
    have e2 : IntKind.i64.wrap (IntKind.i64.wrap (IntKind.i64.wrap (leN (b.drop (j + 1)) : Int) * 256) + (b[j].toNat : Int)) = IntKind.i64.wrap (leN (b.drop j) : Int) := by
      rw [leN_drop hj3, wrap_step]
      congr 1
    have e3 : IntKind.i64.wrap ((j : Int) - 1) = (b.length : Int) - 1 - ((i + 1 : Nat) : Int) := by rw [wrap_i64_of (by omega) (by omega)]; omega
    have e5 : IntKind.i64.wrap (b[j].toNat : Int) = b[j].toNat := wrap_nat (by have := b[j].toNat_lt; omega)
    simp -dsimp -implicitDefEqProofs only [go_sem, Nat.reduceBEq, Nat.reduceAdd, Nat.reduceLeDiff, Nat.reduceSub, Int.reduceEq, h0, h4, h3, hj1, hj2, bytesA_at hj3, e5]
    repeat with_reducible refine ask.of (by omega) ?_
    refine hK _ hlt ?_
    simp -dsimp -implicitDefEqProofs only [go_sem, Nat.reduceBEq, Nat.reduceAdd, Nat.reduceLeDiff, Nat.reduceSub, Int.reduceEq, h0, h4, h3, e2, e3, show b.length - (i + 1) = j by omega]
  · obtain rfl : i = b.length := by omega
    simp -dsimp -implicitDefEqProofs only [go_sem, Nat.reduceBEq, Nat.reduceAdd, Nat.reduceLeDiff, Nat.reduceSub, Int.reduceEq, h0, h4, h3, show b.length - b.length = 0 by omega, List.drop_zero]
theorem c_low (b : List UInt8) (hb : b.length ≤ 1048576) : Meets Try.prog 120 [rowB b] (fun r => r = .v (.int .i64 (IntKind.i64.wrap (leN b)))) := by
  have e1 : IntKind.i64.wrap ((b.length : Int) - 1) = (b.length : Int) - 1 := wrap_i64_of (by omega) (by omega)
  refine Meets.intro mixed (hint []) Try.func120 rfl (by decide) res_120 rty_120 (by kernel_rfl) ?_; 
  simp -dsimp -implicitDefEqProofs only [go_sem, Nat.reduceBEq, Nat.reduceAdd, Nat.reduceLeDiff, Nat.reduceSub, Int.reduceEq, e1]
  refine LoopE.cnt b.length (fun i s => s.env 0 = .rd .ent 5 1 (bytesA b) ∧ s.env 4 = .v (.int .i64 ((b.length : Int) - 1 - i)) ∧ s.env 3 = .v (.int .i64 (IntKind.i64.wrap (leN (b.drop (b.length - i)))))) ⟨by simp -dsimp -implicitDefEqProofs only [go_sem, Nat.reduceBEq, Nat.reduceAdd, Nat.reduceLeDiff, Nat.reduceSub, Int.reduceEq, initE], by simp -dsimp -implicitDefEqProofs only [go_sem, Nat.reduceBEq, Nat.reduceAdd, Nat.reduceLeDiff, Nat.reduceSub, Int.reduceEq] <;> simp, by simp -dsimp -implicitDefEqProofs only [go_sem, Nat.reduceBEq, Nat.reduceAdd, Nat.reduceLeDiff, Nat.reduceSub, Int.reduceEq] <;> simp [leN] <;> rfl⟩ ?_
  rintro i ⟨e, σ⟩ hi ⟨h0, h4, h3⟩ K hK
  simp only at h0 h4 h3
  simp -dsimp -implicitDefEqProofs only [go_sem, Nat.reduceBEq, Nat.reduceAdd, Nat.reduceLeDiff, Nat.reduceSub, Int.reduceEq, h0, h4, h3]
  refine ifB'.of (fun hlt => ?_) (fun hlt => ?_)
  · have hlt : i < b.length := by omega
    obtain ⟨j, hj⟩ : ∃ j : Nat, b.length - 1 - i = j := ⟨_, rfl⟩
    have hj1 : (b.length : Int) - 1 - i = (j : Nat) := by omega
    have hj2 : b.length - i = j + 1 := by omega
    have hj3 : j < b.length := by omega
    have e3 : IntKind.i64.wrap ((j : Int) - 1) = (b.length : Int) - 1 - ((i + 1 : Nat) : Int) := by rw [wrap_i64_of (by omega) (by omega)]; omega
    have e5 : IntKind.i64.wrap (b[j].toNat : Int) = b[j].toNat := wrap_nat (by have := b[j].toNat_lt; omega)
    simp -dsimp -implicitDefEqProofs only [go_sem, Nat.reduceBEq, Nat.reduceAdd, Nat.reduceLeDiff, Nat.reduceSub, Int.reduceEq, h0, h4, h3, hj1, hj2, bytesA_at hj3, e5]
    repeat with_reducible refine ask.of (by omega) ?_
    refine hK _ hlt ?_
    simp -dsimp -implicitDefEqProofs only [go_sem, Nat.reduceBEq, Nat.reduceAdd, Nat.reduceLeDiff, Nat.reduceSub, Int.reduceEq, h0, h4, h3, or_byte, e3, show b.length - (i + 1) = j by omega, leN_drop hj3]
  · obtain rfl : i = b.length := by omega
    simp -dsimp -implicitDefEqProofs only [go_sem, Nat.reduceBEq, Nat.reduceAdd, Nat.reduceLeDiff, Nat.reduceSub, Int.reduceEq, h0, h4, h3, show b.length - b.length = 0 by omega, List.drop_zero]
end Go.Ev
