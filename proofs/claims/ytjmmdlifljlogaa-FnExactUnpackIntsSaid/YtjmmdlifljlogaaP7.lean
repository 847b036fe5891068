/- Contracts: rows of whole numbers out of bytes, the program's own way. -/
import Derived.Test.YtjmmdlifljlogaaP6
set_option linter.unusedSimpArgs false
set_option linter.unusedVariables false
namespace Go.Ev
open Go Go.RowKit Go.Proofs
theorem sval_lt {c : List UInt8} {w : Nat} (h : c.length = w) (hw : w = 1 ∨ w = 2 ∨ w = 4 ∨ w = 8) : -9223372036854775808 ≤ sval c ∧ sval c ≤ 9223372036854775807 := by
  have := leN_lt c
  rcases hw with rfl | rfl | rfl | rfl <;> rw [sval] <;> simp only [h] at this ⊢ <;> split <;> omega
theorem sval_i8 {c : List UInt8} (h : c.length = 1) : IntKind.i64.wrap (IntKind.i8.wrap (IntKind.i64.wrap (leN c))) = sval c := by
  have := leN_lt c
  rw [h] at this
  have e : IntKind.i8.wrap (leN c : Int) = sval c := by
    rw [sval]
    simp only [h] at this ⊢
    simp [IntKind.wrap, IntKind.bits, IntKind.signed]
    split <;> split <;> omega
  rw [wrap_nat (by omega), e]
  have := sval_lt h (by omega)
  exact wrap_i64_of this.1 this.2
theorem sval_i16 {c : List UInt8} (h : c.length = 2) : IntKind.i64.wrap (IntKind.i16.wrap (IntKind.i64.wrap (leN c))) = sval c := by
  have := leN_lt c
  rw [h] at this
  have e : IntKind.i16.wrap (leN c : Int) = sval c := by
    rw [sval]
    simp only [h] at this ⊢
    simp [IntKind.wrap, IntKind.bits, IntKind.signed]
    split <;> split <;> omega
  rw [wrap_nat (by omega), e]
  have := sval_lt h (by omega)
  exact wrap_i64_of this.1 this.2
theorem sval_i32 {c : List UInt8} (h : c.length = 4) : IntKind.i64.wrap (IntKind.i32.wrap (IntKind.i64.wrap (leN c))) = sval c := by
  have := leN_lt c
  rw [h] at this
  have e : IntKind.i32.wrap (leN c : Int) = sval c := by
    rw [sval]
    simp only [h] at this ⊢
    simp [IntKind.wrap, IntKind.bits, IntKind.signed]
    split <;> split <;> omega
  rw [wrap_nat (by omega), e]
  have := sval_lt h (by omega)
  exact wrap_i64_of this.1 this.2
theorem drop_drop (b : List UInt8) (w i : Nat) : (b.drop (w * i)).drop w = b.drop (w * (i + 1)) := by
  rw [List.drop_drop, Nat.mul_add, Nat.mul_one]
theorem impl_chunk (b : List UInt8) (w i : Nat) : (b.drop (w * i)).take w = chunk b w i := rfl
theorem c_unpacked_i8 (b : List UInt8) (hb : b.length ≤ 1048576) : Meets Try.prog 69 [rowB b, .v (.int .i64 1)] (fun r => r = .tup [rowI (unpackIC b 1).1, .v (.int .i64 (unpackIC b 1).2)]) := by
  have hw : isW 1 = true := rfl
  have fin := unpackIC.eq_1 b 1
  rw [if_pos hw, show (1 : Int).toNat = 1 from rfl] at fin
  have em : (b.length : Int).tmod 1 = ((b.length % 1 : Nat) : Int) := rfl
  refine Meets.intro mixed (hint []) Try.func69 rfl (by decide) res_69 rty_69 (by kernel_rfl) ?_; 
  simp -dsimp -implicitDefEqProofs only [go_sem, Nat.reduceBEq, Nat.reduceAdd, Nat.reduceLeDiff, Nat.reduceSub, Int.reduceEq, em]
  refine ifB'.of (fun hr => ?_) (fun hr => ?_)
  rotate_left
  · simp -dsimp -implicitDefEqProofs only [go_sem, Nat.reduceBEq, Nat.reduceAdd, Nat.reduceLeDiff, Nat.reduceSub, Int.reduceEq]
    rw [fin, if_neg (by omega)]; rfl
  have hk := Nat.mul_div_cancel' (Nat.dvd_of_mod_eq_zero (show b.length % 1 = 0 by omega))
  have fin : unpackIC b 1 = (unpackI b 1 (b.length / 1), 0) := by rw [fin, if_pos (by omega)]
  have ed : IntKind.i64.wrap ((b.length : Int).tdiv 1) = ((b.length / 1 : Nat) : Int) := by rw [Int.tdiv_eq_ediv_of_nonneg (by omega), wrap_i64_of (by omega) (by omega)]; omega
  simp -dsimp -implicitDefEqProofs only [go_sem, Nat.reduceBEq, Nat.reduceAdd, Nat.reduceLeDiff, Nat.reduceSub, Int.reduceEq, ed]
  generalize b.length / 1 = k at hk fin
  repeat with_reducible refine ask.of (by omega) ?_
  refine LoopE.cnt k (fun i s => s.env 0 = .rd .ent 5 1 (bytesA (b.drop (1 * i))) ∧ s.env 1 = .v (.int .i64 1) ∧ s.env 6 = .ref [16] ∧ s.σ [16] = some (.row 3 1 (ra intC (unpackI b 1 i)))) ⟨by simp -dsimp -implicitDefEqProofs only [go_sem, Nat.reduceBEq, Nat.reduceAdd, Nat.reduceLeDiff, Nat.reduceSub, Int.reduceEq, initE, Nat.mul_zero, List.drop_zero], by simp -dsimp -implicitDefEqProofs only [go_sem, Nat.reduceBEq, Nat.reduceAdd, Nat.reduceLeDiff, Nat.reduceSub, Int.reduceEq, initE], by simp -dsimp -implicitDefEqProofs only [go_sem, Nat.reduceBEq, Nat.reduceAdd, Nat.reduceLeDiff, Nat.reduceSub, Int.reduceEq], by simp -dsimp -implicitDefEqProofs only [go_sem, Nat.reduceBEq, Nat.reduceAdd, Nat.reduceLeDiff, Nat.reduceSub, Int.reduceEq]; rfl⟩ ?_
  rintro i ⟨e, σ⟩ hi ⟨h0, h1, h6, hs⟩ K hK
  simp only at h0 h1 h6 hs
  have hd : (b.drop (1 * i)).length = b.length - 1 * i := List.length_drop
  simp -dsimp -implicitDefEqProofs only [go_sem, Nat.reduceBEq, Nat.reduceAdd, Nat.reduceLeDiff, Nat.reduceSub, Int.reduceEq, h0, h1, h6, hs, hd]
  refine ifB'.of (fun hlt => ?_) (fun hlt => ?_)
  · have hlt : i < k := by omega
    have hl : 1 * i + 1 ≤ b.length := by omega
    have hcl := chunk_length hl
    have hib : i ≤ 1 * i := by omega
    simp -dsimp -implicitDefEqProofs only [go_sem, Nat.reduceBEq, Nat.reduceAdd, Nat.reduceLeDiff, Nat.reduceSub, Int.reduceEq, h0, h1, h6, hs, hd, bytesA_take, bytesA_drop, impl_chunk, List.drop_zero, show Int.toNat 0 = 0 from rfl, show (1 : Int).toNat = 1 from rfl]
    repeat with_reducible refine ask.of (by omega) ?_
    refine CallE.of (c_low (chunk b 1 i) (by omega)) (by rintro r rfl; (repeat' first | exact trivial | exact pure_rowB _ | exact pure_rowO _ | exact pure_rowI _ | exact pure_rowBB _ | refine And.intro ?_ ?_)) (by simp -dsimp -implicitDefEqProofs only [go_sem, Nat.reduceBEq, Nat.reduceAdd, Nat.reduceLeDiff, Nat.reduceSub, Int.reduceEq, h0, h1, h6, hs]) ?_
    rintro r rfl
    simp -dsimp -implicitDefEqProofs only [go_sem, Nat.reduceBEq, Nat.reduceAdd, Nat.reduceLeDiff, Nat.reduceSub, Int.reduceEq, h0, h1, h6, hs]
    simp -dsimp -implicitDefEqProofs only [go_sem, Nat.reduceBEq, Nat.reduceAdd, Nat.reduceLeDiff, Nat.reduceSub, Int.reduceEq, h0, h1, h6, hs, hd, sval_i8 hcl, unpackI_length]
    repeat with_reducible refine ask.of (by omega) ?_
    simp -dsimp -implicitDefEqProofs only [go_sem, Nat.reduceBEq, Nat.reduceAdd, Nat.reduceLeDiff, Nat.reduceSub, Int.reduceEq, h0, h1, h6, hs, hd, bytesA_take, bytesA_drop, show (1 : Int).toNat = 1 from rfl]
    repeat with_reducible refine ask.of (by omega) ?_
    refine hK _ hlt ?_
    simp -dsimp -implicitDefEqProofs only [go_sem, Nat.reduceBEq, Nat.reduceAdd, Nat.reduceLeDiff, Nat.reduceSub, Int.reduceEq, h0, h1, h6, hs, sval_i8 hcl, unpackI_succ, show (b.drop (1 * i)).take (b.length - 1 * i) = b.drop (1 * i) by rw [← hd, List.take_length], drop_drop]
  · obtain rfl : i = k := by omega
    simp -dsimp -implicitDefEqProofs only [go_sem, Nat.reduceBEq, Nat.reduceAdd, Nat.reduceLeDiff, Nat.reduceSub, Int.reduceEq, h0, h1, h6, hs, fin]
theorem c_unpacked_i16 (b : List UInt8) (hb : b.length ≤ 1048576) : Meets Try.prog 70 [rowB b, .v (.int .i64 2)] (fun r => r = .tup [rowI (unpackIC b 2).1, .v (.int .i64 (unpackIC b 2).2)]) := by
  have hw : isW 2 = true := rfl
  have fin := unpackIC.eq_1 b 2
  rw [if_pos hw, show (2 : Int).toNat = 2 from rfl] at fin
  have em : (b.length : Int).tmod 2 = ((b.length % 2 : Nat) : Int) := rfl
  refine Meets.intro mixed (hint []) Try.func70 rfl (by decide) res_70 rty_70 (by kernel_rfl) ?_; 
  simp -dsimp -implicitDefEqProofs only [go_sem, Nat.reduceBEq, Nat.reduceAdd, Nat.reduceLeDiff, Nat.reduceSub, Int.reduceEq, em]
  refine ifB'.of (fun hr => ?_) (fun hr => ?_)
  rotate_left
  · simp -dsimp -implicitDefEqProofs only [go_sem, Nat.reduceBEq, Nat.reduceAdd, Nat.reduceLeDiff, Nat.reduceSub, Int.reduceEq]
    rw [fin, if_neg (by omega)]; rfl
  have hk := Nat.mul_div_cancel' (Nat.dvd_of_mod_eq_zero (show b.length % 2 = 0 by omega))
  have fin : unpackIC b 2 = (unpackI b 2 (b.length / 2), 0) := by rw [fin, if_pos (by omega)]
  have ed : IntKind.i64.wrap ((b.length : Int).tdiv 2) = ((b.length / 2 : Nat) : Int) := by rw [Int.tdiv_eq_ediv_of_nonneg (by omega), wrap_i64_of (by omega) (by omega)]; omega
  simp -dsimp -implicitDefEqProofs only [go_sem, Nat.reduceBEq, Nat.reduceAdd, Nat.reduceLeDiff, Nat.reduceSub, Int.reduceEq, ed]
  generalize b.length / 2 = k at hk fin
  repeat with_reducible refine ask.of (by omega) ?_
  refine LoopE.cnt k (fun i s => s.env 0 = .rd .ent 5 1 (bytesA (b.drop (2 * i))) ∧ s.env 1 = .v (.int .i64 2) ∧ s.env 6 = .ref [16] ∧ s.σ [16] = some (.row 3 1 (ra intC (unpackI b 2 i)))) ⟨by simp -dsimp -implicitDefEqProofs only [go_sem, Nat.reduceBEq, Nat.reduceAdd, Nat.reduceLeDiff, Nat.reduceSub, Int.reduceEq, initE, Nat.mul_zero, List.drop_zero], by simp -dsimp -implicitDefEqProofs only [go_sem, Nat.reduceBEq, Nat.reduceAdd, Nat.reduceLeDiff, Nat.reduceSub, Int.reduceEq, initE], by simp -dsimp -implicitDefEqProofs only [go_sem, Nat.reduceBEq, Nat.reduceAdd, Nat.reduceLeDiff, Nat.reduceSub, Int.reduceEq], by simp -dsimp -implicitDefEqProofs only [go_sem, Nat.reduceBEq, Nat.reduceAdd, Nat.reduceLeDiff, Nat.reduceSub, Int.reduceEq]; rfl⟩ ?_
  rintro i ⟨e, σ⟩ hi ⟨h0, h1, h6, hs⟩ K hK
  simp only at h0 h1 h6 hs
  have hd : (b.drop (2 * i)).length = b.length - 2 * i := List.length_drop
  simp -dsimp -implicitDefEqProofs only [go_sem, Nat.reduceBEq, Nat.reduceAdd, Nat.reduceLeDiff, Nat.reduceSub, Int.reduceEq, h0, h1, h6, hs, hd]
  refine ifB'.of (fun hlt => ?_) (fun hlt => ?_)
  · have hlt : i < k := by omega
    have hl : 2 * i + 2 ≤ b.length := by omega
    have hcl := chunk_length hl
    have hib : i ≤ 2 * i := by omega
    simp -dsimp -implicitDefEqProofs only [go_sem, Nat.reduceBEq, Nat.reduceAdd, Nat.reduceLeDiff, Nat.reduceSub, Int.reduceEq, h0, h1, h6, hs, hd, bytesA_take, bytesA_drop, impl_chunk, List.drop_zero, show Int.toNat 0 = 0 from rfl, show (2 : Int).toNat = 2 from rfl]
    repeat with_reducible refine ask.of (by omega) ?_
    refine CallE.of (c_low (chunk b 2 i) (by omega)) (by rintro r rfl; (repeat' first | exact trivial | exact pure_rowB _ | exact pure_rowO _ | exact pure_rowI _ | exact pure_rowBB _ | refine And.intro ?_ ?_)) (by simp -dsimp -implicitDefEqProofs only [go_sem, Nat.reduceBEq, Nat.reduceAdd, Nat.reduceLeDiff, Nat.reduceSub, Int.reduceEq, h0, h1, h6, hs]) ?_
    rintro r rfl
    simp -dsimp -implicitDefEqProofs only [go_sem, Nat.reduceBEq, Nat.reduceAdd, Nat.reduceLeDiff, Nat.reduceSub, Int.reduceEq, h0, h1, h6, hs]
    simp -dsimp -implicitDefEqProofs only [go_sem, Nat.reduceBEq, Nat.reduceAdd, Nat.reduceLeDiff, Nat.reduceSub, Int.reduceEq, h0, h1, h6, hs, hd, sval_i16 hcl, unpackI_length]
    repeat with_reducible refine ask.of (by omega) ?_
    simp -dsimp -implicitDefEqProofs only [go_sem, Nat.reduceBEq, Nat.reduceAdd, Nat.reduceLeDiff, Nat.reduceSub, Int.reduceEq, h0, h1, h6, hs, hd, bytesA_take, bytesA_drop, show (2 : Int).toNat = 2 from rfl]
    repeat with_reducible refine ask.of (by omega) ?_
    refine hK _ hlt ?_
    simp -dsimp -implicitDefEqProofs only [go_sem, Nat.reduceBEq, Nat.reduceAdd, Nat.reduceLeDiff, Nat.reduceSub, Int.reduceEq, h0, h1, h6, hs, sval_i16 hcl, unpackI_succ, show (b.drop (2 * i)).take (b.length - 2 * i) = b.drop (2 * i) by rw [← hd, List.take_length], drop_drop]
  · obtain rfl : i = k := by omega
    simp -dsimp -implicitDefEqProofs only [go_sem, Nat.reduceBEq, Nat.reduceAdd, Nat.reduceLeDiff, Nat.reduceSub, Int.reduceEq, h0, h1, h6, hs, fin]
theorem c_unpacked_i32 (b : List UInt8) (hb : b.length ≤ 1048576) : Meets Try.prog 71 [rowB b, .v (.int .i64 4)] (fun r => r = .tup [rowI (unpackIC b 4).1, .v (.int .i64 (unpackIC b 4).2)]) := by
  have hw : isW 4 = true := rfl
  have fin := unpackIC.eq_1 b 4
  rw [if_pos hw, show (4 : Int).toNat = 4 from rfl] at fin
  have em : (b.length : Int).tmod 4 = ((b.length % 4 : Nat) : Int) := rfl
  refine Meets.intro mixed (hint []) Try.func71 rfl (by decide) res_71 rty_71 (by kernel_rfl) ?_; 
  simp -dsimp -implicitDefEqProofs only [go_sem, Nat.reduceBEq, Nat.reduceAdd, Nat.reduceLeDiff, Nat.reduceSub, Int.reduceEq, em]
  refine ifB'.of (fun hr => ?_) (fun hr => ?_)
  rotate_left
  · simp -dsimp -implicitDefEqProofs only [go_sem, Nat.reduceBEq, Nat.reduceAdd, Nat.reduceLeDiff, Nat.reduceSub, Int.reduceEq]
    rw [fin, if_neg (by omega)]; rfl
  have hk := Nat.mul_div_cancel' (Nat.dvd_of_mod_eq_zero (show b.length % 4 = 0 by omega))
  have fin : unpackIC b 4 = (unpackI b 4 (b.length / 4), 0) := by rw [fin, if_pos (by omega)]
  have ed : IntKind.i64.wrap ((b.length : Int).tdiv 4) = ((b.length / 4 : Nat) : Int) := by rw [Int.tdiv_eq_ediv_of_nonneg (by omega), wrap_i64_of (by omega) (by omega)]; omega
  simp -dsimp -implicitDefEqProofs only [go_sem, Nat.reduceBEq, Nat.reduceAdd, Nat.reduceLeDiff, Nat.reduceSub, Int.reduceEq, ed]
  generalize b.length / 4 = k at hk fin
  repeat with_reducible refine ask.of (by omega) ?_
  refine LoopE.cnt k (fun i s => s.env 0 = .rd .ent 5 1 (bytesA (b.drop (4 * i))) ∧ s.env 1 = .v (.int .i64 4) ∧ s.env 6 = .ref [16] ∧ s.σ [16] = some (.row 3 1 (ra intC (unpackI b 4 i)))) ⟨by simp -dsimp -implicitDefEqProofs only [go_sem, Nat.reduceBEq, Nat.reduceAdd, Nat.reduceLeDiff, Nat.reduceSub, Int.reduceEq, initE, Nat.mul_zero, List.drop_zero], by simp -dsimp -implicitDefEqProofs only [go_sem, Nat.reduceBEq, Nat.reduceAdd, Nat.reduceLeDiff, Nat.reduceSub, Int.reduceEq, initE], by simp -dsimp -implicitDefEqProofs only [go_sem, Nat.reduceBEq, Nat.reduceAdd, Nat.reduceLeDiff, Nat.reduceSub, Int.reduceEq], by simp -dsimp -implicitDefEqProofs only [go_sem, Nat.reduceBEq, Nat.reduceAdd, Nat.reduceLeDiff, Nat.reduceSub, Int.reduceEq]; rfl⟩ ?_
  rintro i ⟨e, σ⟩ hi ⟨h0, h1, h6, hs⟩ K hK
  simp only at h0 h1 h6 hs
  have hd : (b.drop (4 * i)).length = b.length - 4 * i := List.length_drop
  simp -dsimp -implicitDefEqProofs only [go_sem, Nat.reduceBEq, Nat.reduceAdd, Nat.reduceLeDiff, Nat.reduceSub, Int.reduceEq, h0, h1, h6, hs, hd]
  refine ifB'.of (fun hlt => ?_) (fun hlt => ?_)
  · have hlt : i < k := by omega
    have hl : 4 * i + 4 ≤ b.length := by omega
    have hcl := chunk_length hl
    have hib : i ≤ 4 * i := by omega
    simp -dsimp -implicitDefEqProofs only [go_sem, Nat.reduceBEq, Nat.reduceAdd, Nat.reduceLeDiff, Nat.reduceSub, Int.reduceEq, h0, h1, h6, hs, hd, bytesA_take, bytesA_drop, impl_chunk, List.drop_zero, show Int.toNat 0 = 0 from rfl, show (4 : Int).toNat = 4 from rfl]
    repeat with_reducible refine ask.of (by omega) ?_
    refine CallE.of (c_low (chunk b 4 i) (by omega)) (by rintro r rfl; (repeat' first | exact trivial | exact pure_rowB _ | exact pure_rowO _ | exact pure_rowI _ | exact pure_rowBB _ | refine And.intro ?_ ?_)) (by simp -dsimp -implicitDefEqProofs only [go_sem, Nat.reduceBEq, Nat.reduceAdd, Nat.reduceLeDiff, Nat.reduceSub, Int.reduceEq, h0, h1, h6, hs]) ?_
    rintro r rfl
    simp -dsimp -implicitDefEqProofs only [go_sem, Nat.reduceBEq, Nat.reduceAdd, Nat.reduceLeDiff, Nat.reduceSub, Int.reduceEq, h0, h1, h6, hs]
    simp -dsimp -implicitDefEqProofs only [go_sem, Nat.reduceBEq, Nat.reduceAdd, Nat.reduceLeDiff, Nat.reduceSub, Int.reduceEq, h0, h1, h6, hs, hd, sval_i32 hcl, unpackI_length]
    repeat with_reducible refine ask.of (by omega) ?_
    simp -dsimp -implicitDefEqProofs only [go_sem, Nat.reduceBEq, Nat.reduceAdd, Nat.reduceLeDiff, Nat.reduceSub, Int.reduceEq, h0, h1, h6, hs, hd, bytesA_take, bytesA_drop, show (4 : Int).toNat = 4 from rfl]
    repeat with_reducible refine ask.of (by omega) ?_
    refine hK _ hlt ?_
    simp -dsimp -implicitDefEqProofs only [go_sem, Nat.reduceBEq, Nat.reduceAdd, Nat.reduceLeDiff, Nat.reduceSub, Int.reduceEq, h0, h1, h6, hs, sval_i32 hcl, unpackI_succ, show (b.drop (4 * i)).take (b.length - 4 * i) = b.drop (4 * i) by rw [← hd, List.take_length], drop_drop]
  · obtain rfl : i = k := by omega
    simp -dsimp -implicitDefEqProofs only [go_sem, Nat.reduceBEq, Nat.reduceAdd, Nat.reduceLeDiff, Nat.reduceSub, Int.reduceEq, h0, h1, h6, hs, fin]
theorem c_unpacked_i64 (b : List UInt8) (hb : b.length ≤ 1048576) : Meets Try.prog 72 [rowB b, .v (.int .i64 8)] (fun r => r = .tup [rowI (unpackIC b 8).1, .v (.int .i64 (unpackIC b 8).2)]) := by
  have hw : isW 8 = true := rfl
  have fin := unpackIC.eq_1 b 8
  rw [if_pos hw, show (8 : Int).toNat = 8 from rfl] at fin
  have em : (b.length : Int).tmod 8 = ((b.length % 8 : Nat) : Int) := rfl
  refine Meets.intro mixed (hint []) Try.func72 rfl (by decide) res_72 rty_72 (by kernel_rfl) ?_; 
  simp -dsimp -implicitDefEqProofs only [go_sem, Nat.reduceBEq, Nat.reduceAdd, Nat.reduceLeDiff, Nat.reduceSub, Int.reduceEq, em]
  refine ifB'.of (fun hr => ?_) (fun hr => ?_)
  rotate_left
  · simp -dsimp -implicitDefEqProofs only [go_sem, Nat.reduceBEq, Nat.reduceAdd, Nat.reduceLeDiff, Nat.reduceSub, Int.reduceEq]
    rw [fin, if_neg (by omega)]; rfl
  have hk := Nat.mul_div_cancel' (Nat.dvd_of_mod_eq_zero (show b.length % 8 = 0 by omega))
  have fin : unpackIC b 8 = (unpackI b 8 (b.length / 8), 0) := by rw [fin, if_pos (by omega)]
  have ed : IntKind.i64.wrap ((b.length : Int).tdiv 8) = ((b.length / 8 : Nat) : Int) := by rw [Int.tdiv_eq_ediv_of_nonneg (by omega), wrap_i64_of (by omega) (by omega)]; omega
  simp -dsimp -implicitDefEqProofs only [go_sem, Nat.reduceBEq, Nat.reduceAdd, Nat.reduceLeDiff, Nat.reduceSub, Int.reduceEq, ed]
  generalize b.length / 8 = k at hk fin
  repeat with_reducible refine ask.of (by omega) ?_
  refine LoopE.cnt k (fun i s => s.env 0 = .rd .ent 5 1 (bytesA (b.drop (8 * i))) ∧ s.env 1 = .v (.int .i64 8) ∧ s.env 6 = .ref [16] ∧ s.σ [16] = some (.row 3 1 (ra intC (unpackI b 8 i)))) ⟨by simp -dsimp -implicitDefEqProofs only [go_sem, Nat.reduceBEq, Nat.reduceAdd, Nat.reduceLeDiff, Nat.reduceSub, Int.reduceEq, initE, Nat.mul_zero, List.drop_zero], by simp -dsimp -implicitDefEqProofs only [go_sem, Nat.reduceBEq, Nat.reduceAdd, Nat.reduceLeDiff, Nat.reduceSub, Int.reduceEq, initE], by simp -dsimp -implicitDefEqProofs only [go_sem, Nat.reduceBEq, Nat.reduceAdd, Nat.reduceLeDiff, Nat.reduceSub, Int.reduceEq], by simp -dsimp -implicitDefEqProofs only [go_sem, Nat.reduceBEq, Nat.reduceAdd, Nat.reduceLeDiff, Nat.reduceSub, Int.reduceEq]; rfl⟩ ?_
  rintro i ⟨e, σ⟩ hi ⟨h0, h1, h6, hs⟩ K hK
  simp only at h0 h1 h6 hs
  have hd : (b.drop (8 * i)).length = b.length - 8 * i := List.length_drop
  simp -dsimp -implicitDefEqProofs only [go_sem, Nat.reduceBEq, Nat.reduceAdd, Nat.reduceLeDiff, Nat.reduceSub, Int.reduceEq, h0, h1, h6, hs, hd]
  refine ifB'.of (fun hlt => ?_) (fun hlt => ?_)
  · have hlt : i < k := by omega
    have hl : 8 * i + 8 ≤ b.length := by omega
    have hcl := chunk_length hl
    have hib : i ≤ 8 * i := by omega
    simp -dsimp -implicitDefEqProofs only [go_sem, Nat.reduceBEq, Nat.reduceAdd, Nat.reduceLeDiff, Nat.reduceSub, Int.reduceEq, h0, h1, h6, hs, hd, bytesA_take, bytesA_drop, impl_chunk, List.drop_zero, show Int.toNat 0 = 0 from rfl, show (8 : Int).toNat = 8 from rfl]
    repeat with_reducible refine ask.of (by omega) ?_
    refine CallE.of (c_low (chunk b 8 i) (by omega)) (by rintro r rfl; (repeat' first | exact trivial | exact pure_rowB _ | exact pure_rowO _ | exact pure_rowI _ | exact pure_rowBB _ | refine And.intro ?_ ?_)) (by simp -dsimp -implicitDefEqProofs only [go_sem, Nat.reduceBEq, Nat.reduceAdd, Nat.reduceLeDiff, Nat.reduceSub, Int.reduceEq, h0, h1, h6, hs]) ?_
    rintro r rfl
    simp -dsimp -implicitDefEqProofs only [go_sem, Nat.reduceBEq, Nat.reduceAdd, Nat.reduceLeDiff, Nat.reduceSub, Int.reduceEq, h0, h1, h6, hs]
    simp -dsimp -implicitDefEqProofs only [go_sem, Nat.reduceBEq, Nat.reduceAdd, Nat.reduceLeDiff, Nat.reduceSub, Int.reduceEq, h0, h1, h6, hs, hd, sval_wrap hcl, unpackI_length]
    repeat with_reducible refine ask.of (by omega) ?_
    simp -dsimp -implicitDefEqProofs only [go_sem, Nat.reduceBEq, Nat.reduceAdd, Nat.reduceLeDiff, Nat.reduceSub, Int.reduceEq, h0, h1, h6, hs, hd, bytesA_take, bytesA_drop, show (8 : Int).toNat = 8 from rfl]
    repeat with_reducible refine ask.of (by omega) ?_
    refine hK _ hlt ?_
    simp -dsimp -implicitDefEqProofs only [go_sem, Nat.reduceBEq, Nat.reduceAdd, Nat.reduceLeDiff, Nat.reduceSub, Int.reduceEq, h0, h1, h6, hs, sval_wrap hcl, unpackI_succ, show (b.drop (8 * i)).take (b.length - 8 * i) = b.drop (8 * i) by rw [← hd, List.take_length], drop_drop]
  · obtain rfl : i = k := by omega
    simp -dsimp -implicitDefEqProofs only [go_sem, Nat.reduceBEq, Nat.reduceAdd, Nat.reduceLeDiff, Nat.reduceSub, Int.reduceEq, h0, h1, h6, hs, fin]
theorem c_implUnpackInts (b : List UInt8) (n : Int) (hb : b.length ≤ 1048576) : Meets Try.prog 38 [rowB b, .v (.int .i64 n)] (fun r => r = .tup [rowI (unpackIC b n).1, .v (.int .i64 (unpackIC b n).2)]) := by
  refine Meets.intro mixed (hint []) Try.func38 rfl (by decide) res_38 rty_38 (by kernel_rfl) ?_; 
  simp -dsimp -implicitDefEqProofs only [go_sem, Nat.reduceBEq, Nat.reduceAdd, Nat.reduceLeDiff, Nat.reduceSub, Int.reduceEq]
  refine ifB'.of (fun h1 => ?_) (fun h1 => ?_)
  · subst h1
    simp -dsimp -implicitDefEqProofs only [go_sem, Nat.reduceBEq, Nat.reduceAdd, Nat.reduceLeDiff, Nat.reduceSub, Int.reduceEq]
    refine CallE.of (c_unpacked_i8 b hb) (by rintro r rfl; (repeat' first | exact trivial | exact pure_rowB _ | exact pure_rowO _ | exact pure_rowI _ | exact pure_rowBB _ | refine And.intro ?_ ?_)) (by simp -dsimp -implicitDefEqProofs only [go_sem, Nat.reduceBEq, Nat.reduceAdd, Nat.reduceLeDiff, Nat.reduceSub, Int.reduceEq]) ?_
    rintro r rfl
    simp -dsimp -implicitDefEqProofs only [go_sem, Nat.reduceBEq, Nat.reduceAdd, Nat.reduceLeDiff, Nat.reduceSub, Int.reduceEq]
  simp -dsimp -implicitDefEqProofs only [go_sem, Nat.reduceBEq, Nat.reduceAdd, Nat.reduceLeDiff, Nat.reduceSub, Int.reduceEq]
  refine ifB'.of (fun h2 => ?_) (fun h2 => ?_)
  · subst h2
    simp -dsimp -implicitDefEqProofs only [go_sem, Nat.reduceBEq, Nat.reduceAdd, Nat.reduceLeDiff, Nat.reduceSub, Int.reduceEq]
    refine CallE.of (c_unpacked_i16 b hb) (by rintro r rfl; (repeat' first | exact trivial | exact pure_rowB _ | exact pure_rowO _ | exact pure_rowI _ | exact pure_rowBB _ | refine And.intro ?_ ?_)) (by simp -dsimp -implicitDefEqProofs only [go_sem, Nat.reduceBEq, Nat.reduceAdd, Nat.reduceLeDiff, Nat.reduceSub, Int.reduceEq]) ?_
    rintro r rfl
    simp -dsimp -implicitDefEqProofs only [go_sem, Nat.reduceBEq, Nat.reduceAdd, Nat.reduceLeDiff, Nat.reduceSub, Int.reduceEq]
  simp -dsimp -implicitDefEqProofs only [go_sem, Nat.reduceBEq, Nat.reduceAdd, Nat.reduceLeDiff, Nat.reduceSub, Int.reduceEq]
  refine ifB'.of (fun h4 => ?_) (fun h4 => ?_)
  · subst h4
    simp -dsimp -implicitDefEqProofs only [go_sem, Nat.reduceBEq, Nat.reduceAdd, Nat.reduceLeDiff, Nat.reduceSub, Int.reduceEq]
    refine CallE.of (c_unpacked_i32 b hb) (by rintro r rfl; (repeat' first | exact trivial | exact pure_rowB _ | exact pure_rowO _ | exact pure_rowI _ | exact pure_rowBB _ | refine And.intro ?_ ?_)) (by simp -dsimp -implicitDefEqProofs only [go_sem, Nat.reduceBEq, Nat.reduceAdd, Nat.reduceLeDiff, Nat.reduceSub, Int.reduceEq]) ?_
    rintro r rfl
    simp -dsimp -implicitDefEqProofs only [go_sem, Nat.reduceBEq, Nat.reduceAdd, Nat.reduceLeDiff, Nat.reduceSub, Int.reduceEq]
  simp -dsimp -implicitDefEqProofs only [go_sem, Nat.reduceBEq, Nat.reduceAdd, Nat.reduceLeDiff, Nat.reduceSub, Int.reduceEq]
  refine ifB'.of (fun h8 => ?_) (fun h8 => ?_)
  · subst h8
    simp -dsimp -implicitDefEqProofs only [go_sem, Nat.reduceBEq, Nat.reduceAdd, Nat.reduceLeDiff, Nat.reduceSub, Int.reduceEq]
    refine CallE.of (c_unpacked_i64 b hb) (by rintro r rfl; (repeat' first | exact trivial | exact pure_rowB _ | exact pure_rowO _ | exact pure_rowI _ | exact pure_rowBB _ | refine And.intro ?_ ?_)) (by simp -dsimp -implicitDefEqProofs only [go_sem, Nat.reduceBEq, Nat.reduceAdd, Nat.reduceLeDiff, Nat.reduceSub, Int.reduceEq]) ?_
    rintro r rfl
    simp -dsimp -implicitDefEqProofs only [go_sem, Nat.reduceBEq, Nat.reduceAdd, Nat.reduceLeDiff, Nat.reduceSub, Int.reduceEq]
  simp -dsimp -implicitDefEqProofs only [go_sem, Nat.reduceBEq, Nat.reduceAdd, Nat.reduceLeDiff, Nat.reduceSub, Int.reduceEq]
  rw [unpackIC, if_neg (by simp [isW, h1, h2, h4, h8])]
  rfl
end Go.Ev
