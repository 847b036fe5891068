/- Part 12 of what the row leans on: the evaluator, words, contracts of functions; pruned by a program of ours. -/
import Derived.Test.YtpicohffjdndjaaBf11
set_option linter.unusedSimpArgs false
set_option linter.unusedVariables false
namespace Go.Ev
open Go Go.RowKit Go.Proofs
theorem sval_lt {c : List UInt8} {w : Nat} (h : c.length = w) (hw : w = 1 ∨ w = 2 ∨ w = 4 ∨ w = 8) : -9223372036854775808 ≤ sval c ∧ sval c ≤ 9223372036854775807 := by
  have := leN_lt c
  rcases hw with rfl | rfl | rfl | rfl <;> rw [sval] <;> simp only [h] at this ⊢ <;> split <;> omega
theorem sval_i8 {c : List UInt8} (h : c.length = 1) : IntKind.i64.wrap (IntKind.i8.wrap (IntKind.i64.wrap (leN c))) = sval c := by
  have := leN_lt c
  rw [h] at this
  have e : IntKind.i8.wrap (leN c : Int) = sval c := by
    rw [sval]
    simp only [h] at this ⊢
    simp [IntKind.wrap, IntKind.bits, IntKind.signed]
    split <;> split <;> omega
  rw [wrap_nat (by omega), e]
  have := sval_lt h (by omega)
  exact wrap_i64_of this.1 this.2
theorem sval_i16 {c : List UInt8} (h : c.length = 2) : IntKind.i64.wrap (IntKind.i16.wrap (IntKind.i64.wrap (leN c))) = sval c := by
  have := leN_lt c
  rw [h] at this
  have e : IntKind.i16.wrap (leN c : Int) = sval c := by
    rw [sval]
    simp only [h] at this ⊢
    simp [IntKind.wrap, IntKind.bits, IntKind.signed]
    split <;> split <;> omega
  rw [wrap_nat (by omega), e]
  have := sval_lt h (by omega)
  exact wrap_i64_of this.1 this.2
theorem sval_i32 {c : List UInt8} (h : c.length = 4) : IntKind.i64.wrap (IntKind.i32.wrap (IntKind.i64.wrap (leN c))) = sval c := by
  have := leN_lt c
  rw [h] at this
  have e : IntKind.i32.wrap (leN c : Int) = sval c := by
    rw [sval]
    simp only [h] at this ⊢
    simp [IntKind.wrap, IntKind.bits, IntKind.signed]
    split <;> split <;> omega
  rw [wrap_nat (by omega), e]
  have := sval_lt h (by omega)
  exact wrap_i64_of this.1 this.2
theorem drop_drop (b : List UInt8) (w i : Nat) : (b.drop (w * i)).drop w = b.drop (w * (i + 1)) := by
  rw [List.drop_drop, Nat.mul_add, Nat.mul_one]
theorem impl_chunk (b : List UInt8) (w i : Nat) : (b.drop (w * i)).take w = chunk b w i := rfl
theorem c_unpacked_i8 (b : List UInt8) (hb : b.length ≤ 1048576) : Meets Try.prog 114 [rowB b, .v (.int .i64 1)] (fun r => r = .tup [rowI (unpackIC b 1).1, .v (.int .i64 (unpackIC b 1).2)]) := by
  have hw : isW 1 = true := rfl
  have fin := unpackIC.eq_1 b 1
  rw [if_pos hw, show (1 : Int).toNat = 1 from rfl] at fin
  have em : (b.length : Int).tmod 1 = ((b.length % 1 : Nat) : Int) := rfl
  refine Meets.intro mixed (hint []) Try.func114 rfl (by decide) res_114 rty_114 (by kernel_rfl) ?_; 
  simp -dsimp -implicitDefEqProofs only [go_sem, Nat.reduceBEq, Nat.reduceAdd, Nat.reduceLeDiff, Nat.reduceSub, Int.reduceEq, em]
  refine ifB'.of (fun hr => ?_) (fun hr => ?_)
  rotate_left
  · simp -dsimp -implicitDefEqProofs only [go_sem, Nat.reduceBEq, Nat.reduceAdd, Nat.reduceLeDiff, Nat.reduceSub, Int.reduceEq]
    rw [fin, if_neg (by omega)]; rfl
  have hk := Nat.mul_div_cancel' (Nat.dvd_of_mod_eq_zero (show b.length % 1 = 0 by omega))
  have fin : unpackIC b 1 = (unpackI b 1 (b.length / 1), 0) := by rw [fin, if_pos (by omega)]
  have ed : IntKind.i64.wrap ((b.length : Int).tdiv 1) = ((b.length / 1 : Nat) : Int) := by rw [Int.tdiv_eq_ediv_of_nonneg (by omega), wrap_i64_of (by omega) (by omega)]; omega
  simp -dsimp -implicitDefEqProofs only [go_sem, Nat.reduceBEq, Nat.reduceAdd, Nat.reduceLeDiff, Nat.reduceSub, Int.reduceEq, ed]
  generalize b.length / 1 = k at hk fin
  repeat with_reducible refine ask.of (by omega) ?_
  refine LoopE.cnt k (fun i s => s.env 0 = .rd .ent 5 1 (bytesA (b.drop (1 * i))) ∧ s.env 1 = .v (.int .i64 1) ∧ s.env 6 = .ref [16] ∧ s.σ [16] = some (.row 3 1 (ra intC (unpackI b 1 i)))) ⟨by simp -dsimp -implicitDefEqProofs only [go_sem, Nat.reduceBEq, Nat.reduceAdd, Nat.reduceLeDiff, Nat.reduceSub, Int.reduceEq, initE, Nat.mul_zero, List.drop_zero], by simp -dsimp -implicitDefEqProofs only [go_sem, Nat.reduceBEq, Nat.reduceAdd, Nat.reduceLeDiff, Nat.reduceSub, Int.reduceEq, initE], by simp -dsimp -implicitDefEqProofs only [go_sem, Nat.reduceBEq, Nat.reduceAdd, Nat.reduceLeDiff, Nat.reduceSub, Int.reduceEq], by simp -dsimp -implicitDefEqProofs only [go_sem, Nat.reduceBEq, Nat.reduceAdd, Nat.reduceLeDiff, Nat.reduceSub, Int.reduceEq]; rfl⟩ ?_
  rintro i ⟨e, σ⟩ hi ⟨h0, h1, h6, hs⟩ K hK
  simp only at h0 h1 h6 hs
  have hd : (b.drop (1 * i)).length = b.length - 1 * i := List.length_drop
  simp -dsimp -implicitDefEqProofs only [go_sem, Nat.reduceBEq, Nat.reduceAdd, Nat.reduceLeDiff, Nat.reduceSub, Int.reduceEq, h0, h1, h6, hs, hd]
  refine ifB'.of (fun hlt => ?_) (fun hlt => ?_)
  · have hlt : i < k := by omega
    have hl : 1 * i + 1 ≤ b.length := by omega
    have hcl := chunk_length hl
    have hib : i ≤ 1 * i := by omega
    simp -dsimp -implicitDefEqProofs only [go_sem, Nat.reduceBEq, Nat.reduceAdd, Nat.reduceLeDiff, Nat.reduceSub, Int.reduceEq, h0, h1, h6, hs, hd, bytesA_take, bytesA_drop, impl_chunk, List.drop_zero, show Int.toNat 0 = 0 from rfl, show (1 : Int).toNat = 1 from rfl]
    repeat with_reducible refine ask.of (by omega) ?_
    refine CallE.of (c_low (chunk b 1 i) (by omega)) (by rintro r rfl; (repeat' first | exact trivial | exact pure_rowB _ | exact pure_rowO _ | exact pure_rowI _ | exact pure_rowBB _ | exact pure_rowPk _ _ | exact pure_rowSn _ _ | exact pure_rowFd _ _ | exact pure_rowBBB _ | exact pure_rowCl _ _ | exact pure_rowTb _ _ _ | refine And.intro ?_ ?_)) (by simp -dsimp -implicitDefEqProofs only [go_sem, Nat.reduceBEq, Nat.reduceAdd, Nat.reduceLeDiff, Nat.reduceSub, Int.reduceEq, h0, h1, h6, hs]) ?_
    rintro r rfl
    simp -dsimp -implicitDefEqProofs only [go_sem, Nat.reduceBEq, Nat.reduceAdd, Nat.reduceLeDiff, Nat.reduceSub, Int.reduceEq, h0, h1, h6, hs]
    simp -dsimp -implicitDefEqProofs only [go_sem, Nat.reduceBEq, Nat.reduceAdd, Nat.reduceLeDiff, Nat.reduceSub, Int.reduceEq, h0, h1, h6, hs, hd, sval_i8 hcl, unpackI_length]
    repeat with_reducible refine ask.of (by omega) ?_
    simp -dsimp -implicitDefEqProofs only [go_sem, Nat.reduceBEq, Nat.reduceAdd, Nat.reduceLeDiff, Nat.reduceSub, Int.reduceEq, h0, h1, h6, hs, hd, bytesA_take, bytesA_drop, show (1 : Int).toNat = 1 from rfl]
    repeat with_reducible refine ask.of (by omega) ?_
    refine hK _ hlt ?_
    simp -dsimp -implicitDefEqProofs only [go_sem, Nat.reduceBEq, Nat.reduceAdd, Nat.reduceLeDiff, Nat.reduceSub, Int.reduceEq, h0, h1, h6, hs, sval_i8 hcl, unpackI_succ, show (b.drop (1 * i)).take (b.length - 1 * i) = b.drop (1 * i) by rw [← hd, List.take_length], drop_drop]
  · obtain rfl : i = k := by omega
    simp -dsimp -implicitDefEqProofs only [go_sem, Nat.reduceBEq, Nat.reduceAdd, Nat.reduceLeDiff, Nat.reduceSub, Int.reduceEq, h0, h1, h6, hs, fin]
theorem c_unpacked_i16 (b : List UInt8) (hb : b.length ≤ 1048576) : Meets Try.prog 115 [rowB b, .v (.int .i64 2)] (fun r => r = .tup [rowI (unpackIC b 2).1, .v (.int .i64 (unpackIC b 2).2)]) := by
  have hw : isW 2 = true := rfl
  have fin := unpackIC.eq_1 b 2
  rw [if_pos hw, show (2 : Int).toNat = 2 from rfl] at fin
  have em : (b.length : Int).tmod 2 = ((b.length % 2 : Nat) : Int) := rfl
  refine Meets.intro mixed (hint []) Try.func115 rfl (by decide) res_115 rty_115 (by kernel_rfl) ?_; 
  simp -dsimp -implicitDefEqProofs only [go_sem, Nat.reduceBEq, Nat.reduceAdd, Nat.reduceLeDiff, Nat.reduceSub, Int.reduceEq, em]
  refine ifB'.of (fun hr => ?_) (fun hr => ?_)
  rotate_left
  · simp -dsimp -implicitDefEqProofs only [go_sem, Nat.reduceBEq, Nat.reduceAdd, Nat.reduceLeDiff, Nat.reduceSub, Int.reduceEq]
    rw [fin, if_neg (by omega)]; rfl
  have hk := Nat.mul_div_cancel' (Nat.dvd_of_mod_eq_zero (show b.length % 2 = 0 by omega))
  have fin : unpackIC b 2 = (unpackI b 2 (b.length / 2), 0) := by rw [fin, if_pos (by omega)]
  have ed : IntKind.i64.wrap ((b.length : Int).tdiv 2) = ((b.length / 2 : Nat) : Int) := by rw [Int.tdiv_eq_ediv_of_nonneg (by omega), wrap_i64_of (by omega) (by omega)]; omega
  simp -dsimp -implicitDefEqProofs only [go_sem, Nat.reduceBEq, Nat.reduceAdd, Nat.reduceLeDiff, Nat.reduceSub, Int.reduceEq, ed]
  generalize b.length / 2 = k at hk fin
  repeat with_reducible refine ask.of (by omega) ?_
  refine LoopE.cnt k (fun i s => s.env 0 = .rd .ent 5 1 (bytesA (b.drop (2 * i))) ∧ s.env 1 = .v (.int .i64 2) ∧ s.env 6 = .ref [16] ∧ s.σ [16] = some (.row 3 1 (ra intC (unpackI b 2 i)))) ⟨by simp -dsimp -implicitDefEqProofs only [go_sem, Nat.reduceBEq, Nat.reduceAdd, Nat.reduceLeDiff, Nat.reduceSub, Int.reduceEq, initE, Nat.mul_zero, List.drop_zero], by simp -dsimp -implicitDefEqProofs only [go_sem, Nat.reduceBEq, Nat.reduceAdd, Nat.reduceLeDiff, Nat.reduceSub, Int.reduceEq, initE], by simp -dsimp -implicitDefEqProofs only [go_sem, Nat.reduceBEq, Nat.reduceAdd, Nat.reduceLeDiff, Nat.reduceSub, Int.reduceEq], by simp -dsimp -implicitDefEqProofs only [go_sem, Nat.reduceBEq, Nat.reduceAdd, Nat.reduceLeDiff, Nat.reduceSub, Int.reduceEq]; rfl⟩ ?_
  rintro i ⟨e, σ⟩ hi ⟨h0, h1, h6, hs⟩ K hK
  simp only at h0 h1 h6 hs
  have hd : (b.drop (2 * i)).length = b.length - 2 * i := List.length_drop
  simp -dsimp -implicitDefEqProofs only [go_sem, Nat.reduceBEq, Nat.reduceAdd, Nat.reduceLeDiff, Nat.reduceSub, Int.reduceEq, h0, h1, h6, hs, hd]
  refine ifB'.of (fun hlt => ?_) (fun hlt => ?_)
  · have hlt : i < k := by omega
    have hl : 2 * i + 2 ≤ b.length := by omega
    have hcl := chunk_length hl
    have hib : i ≤ 2 * i := by omega
    simp -dsimp -implicitDefEqProofs only [go_sem, Nat.reduceBEq, Nat.reduceAdd, Nat.reduceLeDiff, Nat.reduceSub, Int.reduceEq, h0, h1, h6, hs, hd, bytesA_take, bytesA_drop, impl_chunk, List.drop_zero, show Int.toNat 0 = 0 from rfl, show (2 : Int).toNat = 2 from rfl]
    repeat with_reducible refine ask.of (by omega) ?_
    refine CallE.of (c_low (chunk b 2 i) (by omega)) (by rintro r rfl; (repeat' first | exact trivial | exact pure_rowB _ | exact pure_rowO _ | exact pure_rowI _ | exact pure_rowBB _ | exact pure_rowPk _ _ | exact pure_rowSn _ _ | exact pure_rowFd _ _ | exact pure_rowBBB _ | exact pure_rowCl _ _ | exact pure_rowTb _ _ _ | refine And.intro ?_ ?_)) (by simp -dsimp -implicitDefEqProofs only [go_sem, Nat.reduceBEq, Nat.reduceAdd, Nat.reduceLeDiff, Nat.reduceSub, Int.reduceEq, h0, h1, h6, hs]) ?_
    rintro r rfl
    simp -dsimp -implicitDefEqProofs only [go_sem, Nat.reduceBEq, Nat.reduceAdd, Nat.reduceLeDiff, Nat.reduceSub, Int.reduceEq, h0, h1, h6, hs]
    simp -dsimp -implicitDefEqProofs only [go_sem, Nat.reduceBEq, Nat.reduceAdd, Nat.reduceLeDiff, Nat.reduceSub, Int.reduceEq, h0, h1, h6, hs, hd, sval_i16 hcl, unpackI_length]
    repeat with_reducible refine ask.of (by omega) ?_
    simp -dsimp -implicitDefEqProofs only [go_sem, Nat.reduceBEq, Nat.reduceAdd, Nat.reduceLeDiff, Nat.reduceSub, Int.reduceEq, h0, h1, h6, hs, hd, bytesA_take, bytesA_drop, show (2 : Int).toNat = 2 from rfl]
    repeat with_reducible refine ask.of (by omega) ?_
    refine hK _ hlt ?_
    simp -dsimp -implicitDefEqProofs only [go_sem, Nat.reduceBEq, Nat.reduceAdd, Nat.reduceLeDiff, Nat.reduceSub, Int.reduceEq, h0, h1, h6, hs, sval_i16 hcl, unpackI_succ, show (b.drop (2 * i)).take (b.length - 2 * i) = b.drop (2 * i) by rw [← hd, List.take_length], drop_drop]
  · obtain rfl : i = k := by omega
    simp -dsimp -implicitDefEqProofs only [go_sem, Nat.reduceBEq, Nat.reduceAdd, Nat.reduceLeDiff, Nat.reduceSub, Int.reduceEq, h0, h1, h6, hs, fin]
theorem c_unpacked_i32 (b : List UInt8) (hb : b.length ≤ 1048576) : Meets Try.prog 116 [rowB b, .v (.int .i64 4)] (fun r => r = .tup [rowI (unpackIC b 4).1, .v (.int .i64 (unpackIC b 4).2)]) := by
  have hw : isW 4 = true := rfl
  have fin := unpackIC.eq_1 b 4
  rw [if_pos hw, show (4 : Int).toNat = 4 from rfl] at fin
  have em : (b.length : Int).tmod 4 = ((b.length % 4 : Nat) : Int) := rfl
  refine Meets.intro mixed (hint []) Try.func116 rfl (by decide) res_116 rty_116 (by kernel_rfl) ?_; 
  simp -dsimp -implicitDefEqProofs only [go_sem, Nat.reduceBEq, Nat.reduceAdd, Nat.reduceLeDiff, Nat.reduceSub, Int.reduceEq, em]
  refine ifB'.of (fun hr => ?_) (fun hr => ?_)
  rotate_left
  · simp -dsimp -implicitDefEqProofs only [go_sem, Nat.reduceBEq, Nat.reduceAdd, Nat.reduceLeDiff, Nat.reduceSub, Int.reduceEq]
    rw [fin, if_neg (by omega)]; rfl
  have hk := Nat.mul_div_cancel' (Nat.dvd_of_mod_eq_zero (show b.length % 4 = 0 by omega))
  have fin : unpackIC b 4 = (unpackI b 4 (b.length / 4), 0) := by rw [fin, if_pos (by omega)]
  have ed : IntKind.i64.wrap ((b.length : Int).tdiv 4) = ((b.length / 4 : Nat) : Int) := by rw [Int.tdiv_eq_ediv_of_nonneg (by omega), wrap_i64_of (by omega) (by omega)]; omega
  simp -dsimp -implicitDefEqProofs only [go_sem, Nat.reduceBEq, Nat.reduceAdd, Nat.reduceLeDiff, Nat.reduceSub, Int.reduceEq, ed]
  generalize b.length / 4 = k at hk fin
  repeat with_reducible refine ask.of (by omega) ?_
  refine LoopE.cnt k (fun i s => s.env 0 = .rd .ent 5 1 (bytesA (b.drop (4 * i))) ∧ s.env 1 = .v (.int .i64 4) ∧ s.env 6 = .ref [16] ∧ s.σ [16] = some (.row 3 1 (ra intC (unpackI b 4 i)))) ⟨by simp -dsimp -implicitDefEqProofs only [go_sem, Nat.reduceBEq, Nat.reduceAdd, Nat.reduceLeDiff, Nat.reduceSub, Int.reduceEq, initE, Nat.mul_zero, List.drop_zero], by simp -dsimp -implicitDefEqProofs only [go_sem, Nat.reduceBEq, Nat.reduceAdd, Nat.reduceLeDiff, Nat.reduceSub, Int.reduceEq, initE], by simp -dsimp -implicitDefEqProofs only [go_sem, Nat.reduceBEq, Nat.reduceAdd, Nat.reduceLeDiff, Nat.reduceSub, Int.reduceEq], by simp -dsimp -implicitDefEqProofs only [go_sem, Nat.reduceBEq, Nat.reduceAdd, Nat.reduceLeDiff, Nat.reduceSub, Int.reduceEq]; rfl⟩ ?_
  rintro i ⟨e, σ⟩ hi ⟨h0, h1, h6, hs⟩ K hK
  simp only at h0 h1 h6 hs
  have hd : (b.drop (4 * i)).length = b.length - 4 * i := List.length_drop
  simp -dsimp -implicitDefEqProofs only [go_sem, Nat.reduceBEq, Nat.reduceAdd, Nat.reduceLeDiff, Nat.reduceSub, Int.reduceEq, h0, h1, h6, hs, hd]
  refine ifB'.of (fun hlt => ?_) (fun hlt => ?_)
  · have hlt : i < k := by omega
    have hl : 4 * i + 4 ≤ b.length := by omega
    have hcl := chunk_length hl
    have hib : i ≤ 4 * i := by omega
    simp -dsimp -implicitDefEqProofs only [go_sem, Nat.reduceBEq, Nat.reduceAdd, Nat.reduceLeDiff, Nat.reduceSub, Int.reduceEq, h0, h1, h6, hs, hd, bytesA_take, bytesA_drop, impl_chunk, List.drop_zero, show Int.toNat 0 = 0 from rfl, show (4 : Int).toNat = 4 from rfl]
    repeat with_reducible refine ask.of (by omega) ?_
    refine CallE.of (c_low (chunk b 4 i) (by omega)) (by rintro r rfl; (repeat' first | exact trivial | exact pure_rowB _ | exact pure_rowO _ | exact pure_rowI _ | exact pure_rowBB _ | exact pure_rowPk _ _ | exact pure_rowSn _ _ | exact pure_rowFd _ _ | exact pure_rowBBB _ | exact pure_rowCl _ _ | exact pure_rowTb _ _ _ | refine And.intro ?_ ?_)) (by simp -dsimp -implicitDefEqProofs only [go_sem, Nat.reduceBEq, Nat.reduceAdd, Nat.reduceLeDiff, Nat.reduceSub, Int.reduceEq, h0, h1, h6, hs]) ?_
    rintro r rfl
    simp -dsimp -implicitDefEqProofs only [go_sem, Nat.reduceBEq, Nat.reduceAdd, Nat.reduceLeDiff, Nat.reduceSub, Int.reduceEq, h0, h1, h6, hs]
    simp -dsimp -implicitDefEqProofs only [go_sem, Nat.reduceBEq, Nat.reduceAdd, Nat.reduceLeDiff, Nat.reduceSub, Int.reduceEq, h0, h1, h6, hs, hd, sval_i32 hcl, unpackI_length]
    repeat with_reducible refine ask.of (by omega) ?_
    simp -dsimp -implicitDefEqProofs only [go_sem, Nat.reduceBEq, Nat.reduceAdd, Nat.reduceLeDiff, Nat.reduceSub, Int.reduceEq, h0, h1, h6, hs, hd, bytesA_take, bytesA_drop, show (4 : Int).toNat = 4 from rfl]
    repeat with_reducible refine ask.of (by omega) ?_
    refine hK _ hlt ?_
    simp -dsimp -implicitDefEqProofs only [go_sem, Nat.reduceBEq, Nat.reduceAdd, Nat.reduceLeDiff, Nat.reduceSub, Int.reduceEq, h0, h1, h6, hs, sval_i32 hcl, unpackI_succ, show (b.drop (4 * i)).take (b.length - 4 * i) = b.drop (4 * i) by rw [← hd, List.take_length], drop_drop]
  · obtain rfl : i = k := by omega
    simp -dsimp -implicitDefEqProofs only [go_sem, Nat.reduceBEq, Nat.reduceAdd, Nat.reduceLeDiff, Nat.reduceSub, Int.reduceEq, h0, h1, h6, hs, fin]
theorem c_unpacked_i64 (b : List UInt8) (hb : b.length ≤ 1048576) : Meets Try.prog 117 [rowB b, .v (.int .i64 8)] (fun r => r = .tup [rowI (unpackIC b 8).1, .v (.int .i64 (unpackIC b 8).2)]) := by
  have hw : isW 8 = true := rfl
  have fin := unpackIC.eq_1 b 8
  rw [if_pos hw, show (8 : Int).toNat = 8 from rfl] at fin
  have em : (b.length : Int).tmod 8 = ((b.length % 8 : Nat) : Int) := rfl
  refine Meets.intro mixed (hint []) Try.func117 rfl (by decide) res_117 rty_117 (by kernel_rfl) ?_; 
  simp -dsimp -implicitDefEqProofs only [go_sem, Nat.reduceBEq, Nat.reduceAdd, Nat.reduceLeDiff, Nat.reduceSub, Int.reduceEq, em]
  refine ifB'.of (fun hr => ?_) (fun hr => ?_)
  rotate_left
  · simp -dsimp -implicitDefEqProofs only [go_sem, Nat.reduceBEq, Nat.reduceAdd, Nat.reduceLeDiff, Nat.reduceSub, Int.reduceEq]
    rw [fin, if_neg (by omega)]; rfl
  have hk := Nat.mul_div_cancel' (Nat.dvd_of_mod_eq_zero (show b.length % 8 = 0 by omega))
  have fin : unpackIC b 8 = (unpackI b 8 (b.length / 8), 0) := by rw [fin, if_pos (by omega)]
  have ed : IntKind.i64.wrap ((b.length : Int).tdiv 8) = ((b.length / 8 : Nat) : Int) := by rw [Int.tdiv_eq_ediv_of_nonneg (by omega), wrap_i64_of (by omega) (by omega)]; omega
  simp -dsimp -implicitDefEqProofs only [go_sem, Nat.reduceBEq, Nat.reduceAdd, Nat.reduceLeDiff, Nat.reduceSub, Int.reduceEq, ed]
  generalize b.length / 8 = k at hk fin
  repeat with_reducible refine ask.of (by omega) ?_
  refine LoopE.cnt k (fun i s => s.env 0 = .rd .ent 5 1 (bytesA (b.drop (8 * i))) ∧ s.env 1 = .v (.int .i64 8) ∧ s.env 6 = .ref [16] ∧ s.σ [16] = some (.row 3 1 (ra intC (unpackI b 8 i)))) ⟨by simp -dsimp -implicitDefEqProofs only [go_sem, Nat.reduceBEq, Nat.reduceAdd, Nat.reduceLeDiff, Nat.reduceSub, Int.reduceEq, initE, Nat.mul_zero, List.drop_zero], by simp -dsimp -implicitDefEqProofs only [go_sem, Nat.reduceBEq, Nat.reduceAdd, Nat.reduceLeDiff, Nat.reduceSub, Int.reduceEq, initE], by simp -dsimp -implicitDefEqProofs only [go_sem, Nat.reduceBEq, Nat.reduceAdd, Nat.reduceLeDiff, Nat.reduceSub, Int.reduceEq], by simp -dsimp -implicitDefEqProofs only [go_sem, Nat.reduceBEq, Nat.reduceAdd, Nat.reduceLeDiff, Nat.reduceSub, Int.reduceEq]; rfl⟩ ?_
  rintro i ⟨e, σ⟩ hi ⟨h0, h1, h6, hs⟩ K hK
  simp only at h0 h1 h6 hs
  have hd : (b.drop (8 * i)).length = b.length - 8 * i := List.length_drop
  simp -dsimp -implicitDefEqProofs only [go_sem, Nat.reduceBEq, Nat.reduceAdd, Nat.reduceLeDiff, Nat.reduceSub, Int.reduceEq, h0, h1, h6, hs, hd]
  refine ifB'.of (fun hlt => ?_) (fun hlt => ?_)
  · have hlt : i < k := by omega
    have hl : 8 * i + 8 ≤ b.length := by omega
    have hcl := chunk_length hl
    have hib : i ≤ 8 * i := by omega
    simp -dsimp -implicitDefEqProofs only [go_sem, Nat.reduceBEq, Nat.reduceAdd, Nat.reduceLeDiff, Nat.reduceSub, Int.reduceEq, h0, h1, h6, hs, hd, bytesA_take, bytesA_drop, impl_chunk, List.drop_zero, show Int.toNat 0 = 0 from rfl, show (8 : Int).toNat = 8 from rfl]
    repeat with_reducible refine ask.of (by omega) ?_
    refine CallE.of (c_low (chunk b 8 i) (by omega)) (by rintro r rfl; (repeat' first | exact trivial | exact pure_rowB _ | exact pure_rowO _ | exact pure_rowI _ | exact pure_rowBB _ | exact pure_rowPk _ _ | exact pure_rowSn _ _ | exact pure_rowFd _ _ | exact pure_rowBBB _ | exact pure_rowCl _ _ | exact pure_rowTb _ _ _ | refine And.intro ?_ ?_)) (by simp -dsimp -implicitDefEqProofs only [go_sem, Nat.reduceBEq, Nat.reduceAdd, Nat.reduceLeDiff, Nat.reduceSub, Int.reduceEq, h0, h1, h6, hs]) ?_
    rintro r rfl
    simp -dsimp -implicitDefEqProofs only [go_sem, Nat.reduceBEq, Nat.reduceAdd, Nat.reduceLeDiff, Nat.reduceSub, Int.reduceEq, h0, h1, h6, hs]
    simp -dsimp -implicitDefEqProofs only [go_sem, Nat.reduceBEq, Nat.reduceAdd, Nat.reduceLeDiff, Nat.reduceSub, Int.reduceEq, h0, h1, h6, hs, hd, sval_wrap hcl, unpackI_length]
    repeat with_reducible refine ask.of (by omega) ?_
    simp -dsimp -implicitDefEqProofs only [go_sem, Nat.reduceBEq, Nat.reduceAdd, Nat.reduceLeDiff, Nat.reduceSub, Int.reduceEq, h0, h1, h6, hs, hd, bytesA_take, bytesA_drop, show (8 : Int).toNat = 8 from rfl]
    repeat with_reducible refine ask.of (by omega) ?_
    refine hK _ hlt ?_
    simp -dsimp -implicitDefEqProofs only [go_sem, Nat.reduceBEq, Nat.reduceAdd, Nat.reduceLeDiff, Nat.reduceSub, Int.reduceEq, h0, h1, h6, hs, sval_wrap hcl, unpackI_succ, show (b.drop (8 * i)).take (b.length - 8 * i) = b.drop (8 * i) by rw [← hd, List.take_length], drop_drop]
  · obtain rfl : i = k := by omega
    simp -dsimp -implicitDefEqProofs only [go_sem, Nat.reduceBEq, Nat.reduceAdd, Nat.reduceLeDiff, Nat.reduceSub, Int.reduceEq, h0, h1, h6, hs, fin]
theorem c_implUnpackInts (b : List UInt8) (n : Int) (hb : b.length ≤ 1048576) : Meets Try.prog 47 [rowB b, .v (.int .i64 n)] (fun r => r = .tup [rowI (unpackIC b n).1, .v (.int .i64 (unpackIC b n).2)]) := by
  refine Meets.intro mixed (hint []) Try.func47 rfl (by decide) res_47 rty_47 (by kernel_rfl) ?_; 
  simp -dsimp -implicitDefEqProofs only [go_sem, Nat.reduceBEq, Nat.reduceAdd, Nat.reduceLeDiff, Nat.reduceSub, Int.reduceEq]
  refine ifB'.of (fun h1 => ?_) (fun h1 => ?_)
  · subst h1
    simp -dsimp -implicitDefEqProofs only [go_sem, Nat.reduceBEq, Nat.reduceAdd, Nat.reduceLeDiff, Nat.reduceSub, Int.reduceEq]
    refine CallE.of (c_unpacked_i8 b hb) (by rintro r rfl; (repeat' first | exact trivial | exact pure_rowB _ | exact pure_rowO _ | exact pure_rowI _ | exact pure_rowBB _ | exact pure_rowPk _ _ | exact pure_rowSn _ _ | exact pure_rowFd _ _ | exact pure_rowBBB _ | exact pure_rowCl _ _ | exact pure_rowTb _ _ _ | refine And.intro ?_ ?_)) (by simp -dsimp -implicitDefEqProofs only [go_sem, Nat.reduceBEq, Nat.reduceAdd, Nat.reduceLeDiff, Nat.reduceSub, Int.reduceEq]) ?_
    rintro r rfl
    simp -dsimp -implicitDefEqProofs only [go_sem, Nat.reduceBEq, Nat.reduceAdd, Nat.reduceLeDiff, Nat.reduceSub, Int.reduceEq]
  simp -dsimp -implicitDefEqProofs only [go_sem, Nat.reduceBEq, Nat.reduceAdd, Nat.reduceLeDiff, Nat.reduceSub, Int.reduceEq]
  refine ifB'.of (fun h2 => ?_) (fun h2 => ?_)
  · subst h2
    simp -dsimp -implicitDefEqProofs only [go_sem, Nat.reduceBEq, Nat.reduceAdd, Nat.reduceLeDiff, Nat.reduceSub, Int.reduceEq]
    refine CallE.of (c_unpacked_i16 b hb) (by rintro r rfl; (repeat' first | exact trivial | exact pure_rowB _ | exact pure_rowO _ | exact pure_rowI _ | exact pure_rowBB _ | exact pure_rowPk _ _ | exact pure_rowSn _ _ | exact pure_rowFd _ _ | exact pure_rowBBB _ | exact pure_rowCl _ _ | exact pure_rowTb _ _ _ | refine And.intro ?_ ?_)) (by simp -dsimp -implicitDefEqProofs only [go_sem, Nat.reduceBEq, Nat.reduceAdd, Nat.reduceLeDiff, Nat.reduceSub, Int.reduceEq]) ?_
    rintro r rfl
    simp -dsimp -implicitDefEqProofs only [go_sem, Nat.reduceBEq, Nat.reduceAdd, Nat.reduceLeDiff, Nat.reduceSub, Int.reduceEq]
  simp -dsimp -implicitDefEqProofs only [go_sem, Nat.reduceBEq, Nat.reduceAdd, Nat.reduceLeDiff, Nat.reduceSub, Int.reduceEq]
  refine ifB'.of (fun h4 => ?_) (fun h4 => ?_)
  · subst h4
    simp -dsimp -implicitDefEqProofs only [go_sem, Nat.reduceBEq, Nat.reduceAdd, Nat.reduceLeDiff, Nat.reduceSub, Int.reduceEq]
    refine CallE.of (c_unpacked_i32 b hb) (by rintro r rfl; (repeat' first | exact trivial | exact pure_rowB _ | exact pure_rowO _ | exact pure_rowI _ | exact pure_rowBB _ | exact pure_rowPk _ _ | exact pure_rowSn _ _ | exact pure_rowFd _ _ | exact pure_rowBBB _ | exact pure_rowCl _ _ | exact pure_rowTb _ _ _ | refine And.intro ?_ ?_)) (by simp -dsimp -implicitDefEqProofs only [go_sem, Nat.reduceBEq, Nat.reduceAdd, Nat.reduceLeDiff, Nat.reduceSub, Int.reduceEq]) ?_
    rintro r rfl
    simp -dsimp -implicitDefEqProofs only [go_sem, Nat.reduceBEq, Nat.reduceAdd, Nat.reduceLeDiff, Nat.reduceSub, Int.reduceEq]
  simp -dsimp -implicitDefEqProofs only [go_sem, Nat.reduceBEq, Nat.reduceAdd, Nat.reduceLeDiff, Nat.reduceSub, Int.reduceEq]
  refine ifB'.of (fun h8 => ?_) (fun h8 => ?_)
  · subst h8
    simp -dsimp -implicitDefEqProofs only [go_sem, Nat.reduceBEq, Nat.reduceAdd, Nat.reduceLeDiff, Nat.reduceSub, Int.reduceEq]
    refine CallE.of (c_unpacked_i64 b hb) (by rintro r rfl; (repeat' first | exact trivial | exact pure_rowB _ | exact pure_rowO _ | exact pure_rowI _ | exact pure_rowBB _ | exact pure_rowPk _ _ | exact pure_rowSn _ _ | exact pure_rowFd _ _ | exact pure_rowBBB _ | exact pure_rowCl _ _ | exact pure_rowTb _ _ _ | refine And.intro ?_ ?_)) (by simp -dsimp -implicitDefEqProofs only [go_sem, Nat.reduceBEq, Nat.reduceAdd, Nat.reduceLeDiff, Nat.reduceSub, Int.reduceEq]) ?_
    rintro r rfl
    simp -dsimp -implicitDefEqProofs only [go_sem, Nat.reduceBEq, Nat.reduceAdd, Nat.reduceLeDiff, Nat.reduceSub, Int.reduceEq]
  simp -dsimp -implicitDefEqProofs only [go_sem, Nat.reduceBEq, Nat.reduceAdd, Nat.reduceLeDiff, Nat.reduceSub, Int.reduceEq]
  rw [unpackIC, if_neg (by simp [isW, h1, h2, h4, h8])]
  rfl
end Go.Ev
set_option linter.unusedSimpArgs false
set_option linter.unusedVariables false
namespace Go.Ev
open Go Go.RowKit Go.Proofs
def padN (n : Nat) : Nat := (8 - n % 8) % 8
def pad8 (l : List UInt8) : List UInt8 := l ++ List.replicate (padN l.length) 0
def joinA (xs : List (List UInt8)) : List UInt8 := xs.foldl (fun acc p => pad8 (acc ++ p)) []
theorem pad8_length (l : List UInt8) : (pad8 l).length = l.length + padN l.length := by simp [pad8]
theorem padN_lt (n : Nat) : padN n < 8 := Nat.mod_lt _ (by decide)
theorem joinA_take {xs : List (List UInt8)} {i : Nat} (h : i < xs.length) : joinA (xs.take (i + 1)) = pad8 (joinA (xs.take i) ++ xs[i]) := by
  rw [List.take_succ_eq_append_getElem h, joinA, List.foldl_append]; rfl
theorem joinA_le (xs : List (List UInt8)) : ∀ i, i ≤ xs.length → (joinA (xs.take i)).length ≤ szL List.length (xs.take i) + 7 * i
  | 0, _ => by simp [joinA]
  | i + 1, h => by
    have h1 := joinA_le xs i (by omega)
    have h2 := padN_lt ((joinA (xs.take i) ++ xs[i]).length)
    rw [joinA_take (by omega), pad8_length, szL_take_succ _ (by omega)]
    simp only [List.length_append] at h2 ⊢
    omega
theorem tmod8 (n : Nat) : (n : Int).tmod 8 = ((n % 8 : Nat) : Int) := rfl
theorem pad_more {n j : Nat} (h : j ≤ padN n) : (n + j) % 8 = 0 ↔ j = padN n := by unfold padN at *; omega
theorem rep_snoc {α : Type} (l : List α) (j : Nat) (z : α) : (l ++ List.replicate j z) ++ [z] = l ++ List.replicate (j + 1) z := by
  rw [List.append_assoc, ← List.replicate_succ']
theorem c_specJoinAligned (xs : List (List UInt8)) (hx : xs.length + wBB xs ≤ 1048576) : Meets Try.prog 157 [rowBB xs] (fun r => r = rowB (joinA xs)) := by
  refine Meets.intro mixed (hint [(2, 137), (3, 137)]) Try.func157 rfl (by decide) res_157 rty_157 (by kernel_rfl) ?_; 
  simp -dsimp -implicitDefEqProofs only [go_sem, Nat.reduceBEq, Nat.reduceAdd, Nat.reduceLeDiff, Nat.reduceSub, Int.reduceEq]
  repeat with_reducible refine ask.of (by omega) ?_
  refine LoopE.cnt xs.length (fun i s => s.env 0 = .rd .ent 37 1 (ra byC xs) ∧ s.env 0 = .rd .ent 37 1 (ra byC xs) ∧ s.env 4 = .v (.int .i64 i) ∧ s.env 3 = .ref [3] ∧ s.σ [3] = some (.row 5 1 (bytesA (joinA (xs.take i))))) ⟨by simp -dsimp -implicitDefEqProofs only [go_sem, Nat.reduceBEq, Nat.reduceAdd, Nat.reduceLeDiff, Nat.reduceSub, Int.reduceEq, initE], by simp -dsimp -implicitDefEqProofs only [go_sem, Nat.reduceBEq, Nat.reduceAdd, Nat.reduceLeDiff, Nat.reduceSub, Int.reduceEq, initE], by simp -dsimp -implicitDefEqProofs only [go_sem, Nat.reduceBEq, Nat.reduceAdd, Nat.reduceLeDiff, Nat.reduceSub, Int.reduceEq], by simp -dsimp -implicitDefEqProofs only [go_sem, Nat.reduceBEq, Nat.reduceAdd, Nat.reduceLeDiff, Nat.reduceSub, Int.reduceEq], by simp -dsimp -implicitDefEqProofs only [go_sem, Nat.reduceBEq, Nat.reduceAdd, Nat.reduceLeDiff, Nat.reduceSub, Int.reduceEq, List.take_zero] <;> rfl⟩ ?_
  rintro i ⟨e, σ⟩ hi ⟨h0, hl, h4, h3, hs⟩ K hK
  simp only at h0 hl h4 h3 hs
  simp -dsimp -implicitDefEqProofs only [go_sem, Nat.reduceBEq, Nat.reduceAdd, Nat.reduceLeDiff, Nat.reduceSub, Int.reduceEq, h0, hl, h4, h3, hs]
  refine ifB'.of (fun hlt => ?_) (fun hlt => ?_)
  · have hlt : i < xs.length := by omega
    have hj := joinA_le xs i hi
    have hw := szL_at_le List.length hlt
    unfold wBB at hx
    simp -dsimp -implicitDefEqProofs only [go_sem, Nat.reduceBEq, Nat.reduceAdd, Nat.reduceLeDiff, Nat.reduceSub, Int.reduceEq, h0, hl, h4, h3, hs, byA_at hlt, bytesA_append]
    repeat with_reducible refine ask.of (by omega) ?_
    have hp := padN_lt (joinA (xs.take i) ++ xs[i]).length
    have hlen : (joinA (xs.take i) ++ xs[i]).length ≤ 16777216 := by simp only [List.length_append]; omega
    generalize hb : joinA (xs.take i) ++ xs[i] = b at hp hlen
    refine LoopE.cnt (padN b.length) (fun j s => s.env 0 = .rd .ent 37 1 (ra byC xs) ∧ s.env 0 = .rd .ent 37 1 (ra byC xs) ∧ s.env 4 = .v (.int .i64 i) ∧ s.env 3 = .ref [3] ∧ s.σ [3] = some (.row 5 1 (bytesA (b ++ List.replicate j 0)))) ⟨by simp -dsimp -implicitDefEqProofs only [go_sem, Nat.reduceBEq, Nat.reduceAdd, Nat.reduceLeDiff, Nat.reduceSub, Int.reduceEq, h0, hl, h4, h3, hs, hb], by simp -dsimp -implicitDefEqProofs only [go_sem, Nat.reduceBEq, Nat.reduceAdd, Nat.reduceLeDiff, Nat.reduceSub, Int.reduceEq, h0, hl, h4, h3, hs, hb], by simp -dsimp -implicitDefEqProofs only [go_sem, Nat.reduceBEq, Nat.reduceAdd, Nat.reduceLeDiff, Nat.reduceSub, Int.reduceEq, h0, hl, h4, h3, hs, hb], by simp -dsimp -implicitDefEqProofs only [go_sem, Nat.reduceBEq, Nat.reduceAdd, Nat.reduceLeDiff, Nat.reduceSub, Int.reduceEq, h0, hl, h4, h3, hs, hb], by simp -dsimp -implicitDefEqProofs only [go_sem, Nat.reduceBEq, Nat.reduceAdd, Nat.reduceLeDiff, Nat.reduceSub, Int.reduceEq, h0, hl, h4, h3, hs, hb] <;> simp⟩ ?_
    rintro j ⟨e, σ⟩ hj ⟨h0, hl, h4, h3, hs⟩ K' hK'
    simp only at h0 hl h4 h3 hs
    have hlj : (b ++ List.replicate j (0 : UInt8)).length = b.length + j := by simp
    simp -dsimp -implicitDefEqProofs only [go_sem, Nat.reduceBEq, Nat.reduceAdd, Nat.reduceLeDiff, Nat.reduceSub, Int.reduceEq, h0, hl, h4, h3, hs, hlj, tmod8]
    refine ifB'.of (fun hne => ?_) (fun hne => ?_)
    · have := (pad_more hj)
      simp -dsimp -implicitDefEqProofs only [go_sem, Nat.reduceBEq, Nat.reduceAdd, Nat.reduceLeDiff, Nat.reduceSub, Int.reduceEq, h0, hl, h4, h3, hs, Bool.not_true]
      have : j = padN b.length := this.1 (by omega)
      subst this
      refine hK _ hlt ?_
      simp -dsimp -implicitDefEqProofs only [go_sem, Nat.reduceBEq, Nat.reduceAdd, Nat.reduceLeDiff, Nat.reduceSub, Int.reduceEq, h0, hl, h4, h3, hs, wrap_succ (show i < 4611686018427387904 by omega), joinA_take hlt, hb]
      rfl
    · have := (pad_more hj)
      have hjl : j < padN b.length := by omega
      simp -dsimp -implicitDefEqProofs only [go_sem, Nat.reduceBEq, Nat.reduceAdd, Nat.reduceLeDiff, Nat.reduceSub, Int.reduceEq, h0, hl, h4, h3, hs, Bool.not_false, hlj]
      repeat with_reducible refine ask.of (by omega) ?_
      refine hK' _ hjl ?_
      simp -dsimp -implicitDefEqProofs only [go_sem, Nat.reduceBEq, Nat.reduceAdd, Nat.reduceLeDiff, Nat.reduceSub, Int.reduceEq, h0, hl, h4, h3, hs, rep_snoc]
  · have : i = xs.length := by omega
    subst this
    simp -dsimp -implicitDefEqProofs only [go_sem, Nat.reduceBEq, Nat.reduceAdd, Nat.reduceLeDiff, Nat.reduceSub, Int.reduceEq, h0, hl, h4, h3, hs, List.take_length]
theorem c_implJoinAligned (xs : List (List UInt8)) (hx : xs.length + wBB xs ≤ 1048576) : Meets Try.prog 50 [rowBB xs] (fun r => r = rowB (joinA xs)) := by
  refine Meets.intro mixed (hint [(2, 137)]) Try.func50 rfl (by decide) res_50 rty_50 (by kernel_rfl) ?_; 
  simp -dsimp -implicitDefEqProofs only [go_sem, Nat.reduceBEq, Nat.reduceAdd, Nat.reduceLeDiff, Nat.reduceSub, Int.reduceEq]
  repeat with_reducible refine ask.of (by omega) ?_
  refine LoopE.cnt xs.length (fun i s => s.env 7 = .rd .ent 37 1 (ra byC xs) ∧ s.env 8 = .v (.int .i64 xs.length) ∧ s.env 9 = .v (.int .i64 i) ∧ s.env 3 = .ref [6] ∧ s.σ [6] = some (.row 5 1 (bytesA (joinA (xs.take i))))) ⟨by simp -dsimp -implicitDefEqProofs only [go_sem, Nat.reduceBEq, Nat.reduceAdd, Nat.reduceLeDiff, Nat.reduceSub, Int.reduceEq, initE], by simp -dsimp -implicitDefEqProofs only [go_sem, Nat.reduceBEq, Nat.reduceAdd, Nat.reduceLeDiff, Nat.reduceSub, Int.reduceEq, initE], by simp -dsimp -implicitDefEqProofs only [go_sem, Nat.reduceBEq, Nat.reduceAdd, Nat.reduceLeDiff, Nat.reduceSub, Int.reduceEq], by simp -dsimp -implicitDefEqProofs only [go_sem, Nat.reduceBEq, Nat.reduceAdd, Nat.reduceLeDiff, Nat.reduceSub, Int.reduceEq], by simp -dsimp -implicitDefEqProofs only [go_sem, Nat.reduceBEq, Nat.reduceAdd, Nat.reduceLeDiff, Nat.reduceSub, Int.reduceEq, List.take_zero] <;> rfl⟩ ?_
  rintro i ⟨e, σ⟩ hi ⟨h0, hl, h4, h3, hs⟩ K hK
  simp only at h0 hl h4 h3 hs
  simp -dsimp -implicitDefEqProofs only [go_sem, Nat.reduceBEq, Nat.reduceAdd, Nat.reduceLeDiff, Nat.reduceSub, Int.reduceEq, h0, hl, h4, h3, hs]
  refine ifB'.of (fun hlt => ?_) (fun hlt => ?_)
  · have hlt : i < xs.length := by omega
    have hj := joinA_le xs i hi
    have hw := szL_at_le List.length hlt
    unfold wBB at hx
    simp -dsimp -implicitDefEqProofs only [go_sem, Nat.reduceBEq, Nat.reduceAdd, Nat.reduceLeDiff, Nat.reduceSub, Int.reduceEq, h0, hl, h4, h3, hs, byA_at hlt, bytesA_append]
    repeat with_reducible refine ask.of (by omega) ?_
    have hp := padN_lt (joinA (xs.take i) ++ xs[i]).length
    have hlen : (joinA (xs.take i) ++ xs[i]).length ≤ 16777216 := by simp only [List.length_append]; omega
    generalize hb : joinA (xs.take i) ++ xs[i] = b at hp hlen
    refine LoopE.cnt (padN b.length) (fun j s => s.env 7 = .rd .ent 37 1 (ra byC xs) ∧ s.env 8 = .v (.int .i64 xs.length) ∧ s.env 9 = .v (.int .i64 i) ∧ s.env 3 = .ref [6] ∧ s.σ [6] = some (.row 5 1 (bytesA (b ++ List.replicate j 0)))) ⟨by simp -dsimp -implicitDefEqProofs only [go_sem, Nat.reduceBEq, Nat.reduceAdd, Nat.reduceLeDiff, Nat.reduceSub, Int.reduceEq, h0, hl, h4, h3, hs, hb], by simp -dsimp -implicitDefEqProofs only [go_sem, Nat.reduceBEq, Nat.reduceAdd, Nat.reduceLeDiff, Nat.reduceSub, Int.reduceEq, h0, hl, h4, h3, hs, hb], by simp -dsimp -implicitDefEqProofs only [go_sem, Nat.reduceBEq, Nat.reduceAdd, Nat.reduceLeDiff, Nat.reduceSub, Int.reduceEq, h0, hl, h4, h3, hs, hb], by simp -dsimp -implicitDefEqProofs only [go_sem, Nat.reduceBEq, Nat.reduceAdd, Nat.reduceLeDiff, Nat.reduceSub, Int.reduceEq, h0, hl, h4, h3, hs, hb], by simp -dsimp -implicitDefEqProofs only [go_sem, Nat.reduceBEq, Nat.reduceAdd, Nat.reduceLeDiff, Nat.reduceSub, Int.reduceEq, h0, hl, h4, h3, hs, hb] <;> simp⟩ ?_
    rintro j ⟨e, σ⟩ hj ⟨h0, hl, h4, h3, hs⟩ K' hK'
    simp only at h0 hl h4 h3 hs
    have hlj : (b ++ List.replicate j (0 : UInt8)).length = b.length + j := by simp
    simp -dsimp -implicitDefEqProofs only [go_sem, Nat.reduceBEq, Nat.reduceAdd, Nat.reduceLeDiff, Nat.reduceSub, Int.reduceEq, h0, hl, h4, h3, hs, hlj, tmod8]
    refine ifB'.of (fun hne => ?_) (fun hne => ?_)
    · have := (pad_more hj)
      simp -dsimp -implicitDefEqProofs only [go_sem, Nat.reduceBEq, Nat.reduceAdd, Nat.reduceLeDiff, Nat.reduceSub, Int.reduceEq, h0, hl, h4, h3, hs, Bool.not_true]
      have : j = padN b.length := this.1 (by omega)
      subst this
      refine hK _ hlt ?_
      simp -dsimp -implicitDefEqProofs only [go_sem, Nat.reduceBEq, Nat.reduceAdd, Nat.reduceLeDiff, Nat.reduceSub, Int.reduceEq, h0, hl, h4, h3, hs, wrap_succ (show i < 4611686018427387904 by omega), joinA_take hlt, hb]
      rfl
    · have := (pad_more hj)
      have hjl : j < padN b.length := by omega
      simp -dsimp -implicitDefEqProofs only [go_sem, Nat.reduceBEq, Nat.reduceAdd, Nat.reduceLeDiff, Nat.reduceSub, Int.reduceEq, h0, hl, h4, h3, hs, Bool.not_false, hlj]
      repeat with_reducible refine ask.of (by omega) ?_
      refine hK' _ hjl ?_
      simp -dsimp -implicitDefEqProofs only [go_sem, Nat.reduceBEq, Nat.reduceAdd, Nat.reduceLeDiff, Nat.reduceSub, Int.reduceEq, h0, hl, h4, h3, hs, rep_snoc]
  · have : i = xs.length := by omega
    subst this
    simp -dsimp -implicitDefEqProofs only [go_sem, Nat.reduceBEq, Nat.reduceAdd, Nat.reduceLeDiff, Nat.reduceSub, Int.reduceEq, h0, hl, h4, h3, hs, List.take_length]
end Go.Ev
set_option linter.unusedSimpArgs false
set_option linter.unusedVariables false
namespace Go.Ev
open Go Go.RowKit Go.Proofs
theorem bitB_pack (l : List Bool) (j : Nat) (h : j < 8 * packN l) : bitB (packB l) j = l[j]?.getD false := by
  have hq : j / 8 < packN l := by omega
  rw [bitB_at (by rw [packB_length]; exact hq)]
  have e : (packB l)[j / 8]'(by rw [packB_length]; exact hq) = UInt8.ofNat (hvS l (8 * (j / 8)) 8) := by simp [packB]
  rw [e, hvS_bit _ _ _ (by omega), show 8 * (j / 8) + j % 8 = j by omega]
theorem unpack_pack (l : List Bool) : unpackC (packB l) l.length = (l, 0) := by
  have hl := packB_length l
  have hN : packN l = (l.length + 7) / 8 := rfl
  have hpad : padOk (packB l) l.length := fun j h1 h2 => by
    rw [hl] at h2
    rw [bitB_pack l j h2]
    simp [h1]
  have hb : bitsB (packB l) l.length = l := by
    apply List.ext_getElem (by rw [bitsB_length])
    intro i h1 h2
    have : (bitsB (packB l) l.length)[i] = bitB (packB l) i := by simp [bitsB]
    rw [this, bitB_pack l i (by omega)]
    simp [h2]
  rw [unpackC, if_neg (by omega), if_neg (by rw [hl]; omega), Int.toNat_natCast, if_pos hpad, hb]
theorem pack_back {b : List UInt8} {n : Int} (h : (unpackC b n).2 = 0) : packB (unpackC b n).1 = b ∧ (unpackC b n).1.length ≤ 8 * b.length := by
  unfold unpackC at h ⊢
  split
  · rename_i h1; rw [if_pos h1] at h; cases h
  · rename_i h1
    rw [if_neg h1] at h
    split
    · rename_i h2; rw [if_pos h2] at h; cases h
    · rename_i h2
      rw [if_neg h2] at h
      split
      · rename_i h3
        refine ⟨(pack_unpack b n.toNat (by rw [packN, bitsB_length]; omega)).2 h3, ?_⟩
        show (bitsB b n.toNat).length ≤ _
        rw [bitsB_length]; omega
      · rename_i h3; rw [if_neg h3] at h; cases h
theorem unpackC_len (b : List UInt8) (n : Int) : (unpackC b n).1.length ≤ 8 * b.length := by
  unfold unpackC
  split
  · simp
  · split
    · simp
    · split
      · show (bitsB b n.toNat).length ≤ _
        rw [bitsB_length]; omega
      · simp
theorem leN_leB (x : Int) : ∀ w, leN (leB w x) = uN x % 256 ^ w
  | 0 => by simp [leB, leN, Nat.mod_one]
  | w + 1 => by
    rw [← leB_succ, leN_snoc, leN_leB x w, leB_length, Nat.pow_succ, Nat.mod_mul]
    congr 2
    simp
theorem chunk_pack (w : Nat) : ∀ (xs : List Int) (i : Nat) (h : i < xs.length), chunk (packI xs w) w i = leB w xs[i]
  | x :: xs, 0, _ => by
    have hl := leB_length w x
    simp only [chunk, packI, List.flatMap_cons, Nat.mul_zero, List.drop_zero, List.getElem_cons_zero]
    exact List.take_left' hl
  | x :: xs, i + 1, h => by
    have ih := chunk_pack w xs i (by simpa using h)
    have hl := leB_length w x
    simp only [chunk, packI, List.flatMap_cons, List.getElem_cons_succ] at ih ⊢
    rw [show w * (i + 1) = (leB w x).length + w * i by rw [hl, Nat.mul_succ]; omega, ← List.drop_drop, List.drop_left' rfl]
    exact ih
theorem sval_leB {w : Nat} {x : Int} (hw : w = 1 ∨ w = 2 ∨ w = 4 ∨ w = 8) (hf : fitsB w x = true) (hr : -9223372036854775808 ≤ x ∧ x ≤ 9223372036854775807) : sval (leB w x) = x := by
  rw [sval, leN_leB, leB_length]
  have hf : w = 8 ∨ (-(2 ^ (8 * w - 1) : Int) ≤ x ∧ x < 2 ^ (8 * w - 1)) := by simpa [fitsB] using hf
  unfold uN
  rcases hw with rfl | rfl | rfl | rfl
  · simp only [show ¬ (1 : Nat) = 8 by decide, false_or, show (256 : Nat) ^ 1 = 256 from rfl, show (2 : Int) ^ (8 * 1 - 1) = 128 from rfl] at hf ⊢
    split <;> omega
  · simp only [show ¬ (2 : Nat) = 8 by decide, false_or, show (256 : Nat) ^ 2 = 65536 from rfl, show (2 : Int) ^ (8 * 2 - 1) = 32768 from rfl] at hf ⊢
    split <;> omega
  · simp only [show ¬ (4 : Nat) = 8 by decide, false_or, show (256 : Nat) ^ 4 = 4294967296 from rfl, show (2 : Int) ^ (8 * 4 - 1) = 2147483648 from rfl] at hf ⊢
    split <;> omega
  · simp only [show (256 : Nat) ^ 8 = 18446744073709551616 from rfl] at hf ⊢
    split <;> omega
theorem isW_cases {n : Int} (h : isW n = true) : ∃ w : Nat, n = w ∧ (w = 1 ∨ w = 2 ∨ w = 4 ∨ w = 8) := by
  have h : n = 1 ∨ n = 2 ∨ n = 4 ∨ n = 8 := by simpa [isW] using h
  rcases h with rfl | rfl | rfl | rfl
  · exact ⟨1, rfl, by omega⟩
  · exact ⟨2, rfl, by omega⟩
  · exact ⟨4, rfl, by omega⟩
  · exact ⟨8, rfl, by omega⟩
theorem ints_back {xs : List Int} {n : Int} (h : (packIC xs n).2 = 0) (hr : ∀ x ∈ xs, -9223372036854775808 ≤ x ∧ x ≤ 9223372036854775807) : unpackIC (packIC xs n).1 n = (xs, 0) ∧ (((packIC xs n).1.length : Nat) : Int) = n * xs.length ∧ 1 ≤ n ∧ n ≤ 8 := by
  unfold packIC at h ⊢
  split
  · rename_i h1
    rw [if_pos h1] at h
    split
    · rename_i h2
      obtain ⟨w, rfl, hw⟩ := isW_cases h1
      rw [Int.toNat_natCast] at h2 ⊢
      have hl := packI_length xs w
      have hw0 : 0 < w := by omega
      refine ⟨?_, by show ((packI xs w).length : Int) = _; rw [hl]; simp, by omega, by omega⟩
      rw [unpackIC, if_pos h1, Int.toNat_natCast]
      rw [if_pos (by show (packI xs w).length % w = 0; rw [hl]; exact Nat.mul_mod_right ..)]
      have hk : (packI xs w).length / w = xs.length := by rw [hl]; exact Nat.mul_div_cancel_left _ hw0
      show (unpackI (packI xs w) w ((packI xs w).length / w), 0) = (xs, 0)
      rw [hk]
      congr 1
      apply List.ext_getElem (by rw [unpackI_length])
      intro i h3 h4
      have e : (unpackI (packI xs w) w xs.length)[i] = sval (chunk (packI xs w) w i) := by simp [unpackI]
      rw [e, chunk_pack w xs i h4]
      exact sval_leB hw (List.all_eq_true.1 h2 _ (List.getElem_mem h4)) (hr _ (List.getElem_mem h4))
    · rename_i h2; rw [if_neg h2] at h; cases h
  · rename_i h1; rw [if_neg h1] at h; cases h
theorem dV_range (c : List UInt8) (p : Nat) : -9223372036854775808 ≤ dV c p ∧ dV c p ≤ 9223372036854775807 := by
  have hv := nxV_lt c p
  unfold dV
  split
  · have h1 : ∀ i, i < 16 → -9223372036854775808 ≤ oTab.getD i 0 ∧ oTab.getD i 0 ≤ 9223372036854775807 := by decide
    exact h1 _ (Nat.mod_lt _ (by decide))
  · omega
theorem drawInts_range (code : List UInt8) : ∀ x ∈ (drawInts code).1, -9223372036854775808 ≤ x ∧ x ≤ 9223372036854775807 := by
  intro x hx
  obtain ⟨j, _, rfl⟩ := List.mem_map.1 hx
  unfold pS
  split
  · exact dV_range _ _
  · show -9223372036854775808 ≤ (if _ then (7 : Int) else _) ∧ (if _ then (7 : Int) else _) ≤ _
    split
    · omega
    · exact dV_range _ _
theorem drawInts_length (code : List UInt8) : (drawInts code).1.length < 8 := by
  show (pL _ _ _).length < 8
  rw [pL_length]; exact Nat.mod_lt _ (by decide)
theorem joinA_mod (xs : List (List UInt8)) : ∀ i, i ≤ xs.length → (joinA (xs.take i)).length % 8 = 0
  | 0, _ => by simp [joinA]
  | i + 1, h => by
    rw [joinA_take (by omega), pad8_length]
    generalize (joinA (xs.take i) ++ xs[i]).length = t
    simp only [padN]; omega
theorem joinA_pre (xs : List (List UInt8)) : ∀ k i, i + k = xs.length → ∃ t, joinA xs = joinA (xs.take i) ++ t
  | 0, i, h => ⟨[], by rw [show i = xs.length by omega, List.take_length, List.append_nil]⟩
  | k + 1, i, h => by
    obtain ⟨t, ht⟩ := joinA_pre xs k (i + 1) (by omega)
    refine ⟨xs[i] ++ List.replicate (padN (joinA (xs.take i) ++ xs[i]).length) 0 ++ t, ?_⟩
    rw [ht, joinA_take (by omega), pad8]
    simp
theorem joinA_part {xs : List (List UInt8)} {i : Nat} (h : i < xs.length) : (joinA (xs.take i)).length + xs[i].length + padN ((joinA (xs.take i)).length + xs[i].length) ≤ (joinA xs).length ∧ List.drop (joinA (xs.take i)).length (List.take ((joinA (xs.take i)).length + xs[i].length) (joinA xs)) = xs[i] ∧
    (∀ j, j < padN ((joinA (xs.take i)).length + xs[i].length) → (joinA xs)[(joinA (xs.take i)).length + xs[i].length + j]? = some 0) ∧ (joinA (xs.take (i + 1))).length = (joinA (xs.take i)).length + xs[i].length + padN ((joinA (xs.take i)).length + xs[i].length) := by
  obtain ⟨t, ht⟩ := joinA_pre xs (xs.length - (i + 1)) (i + 1) (by omega)
  rw [joinA_take h, pad8] at ht
  have hll : (joinA (xs.take i) ++ xs[i]).length = (joinA (xs.take i)).length + xs[i].length := List.length_append
  rw [hll] at ht
  refine ⟨?_, ?_, fun j hj => ?_, ?_⟩
  · rw [ht]; simp only [List.length_append, List.length_replicate]; omega
  · rw [ht, List.append_assoc, List.append_assoc, ← List.append_assoc, ← hll, List.take_left' rfl, List.drop_left' rfl]
  · rw [ht, List.append_assoc, List.getElem?_append_right (by rw [hll]; omega), hll, show (joinA (xs.take i)).length + xs[i].length + j - ((joinA (xs.take i)).length + xs[i].length) = j by omega, List.getElem?_append_left (by simpa using hj)]
    simp [hj]
  · rw [joinA_take h, pad8_length, hll]
end Go.Ev
set_option linter.unusedSimpArgs false
set_option linter.unusedVariables false
namespace Go.Ev
open Go Go.RowKit Go.Proofs
theorem c_sameB (bs : List UInt8) (hb : bs.length ≤ 8388608) : Meets Try.prog 43 [rowB bs, rowB bs] (fun r => r = .v (.bool true)) := by
  refine Meets.intro mixed (hint []) Try.func43 rfl (by decide) res_43 rty_43 (by kernel_rfl) ?_; 
  simp -dsimp -implicitDefEqProofs only [go_sem, Nat.reduceBEq, Nat.reduceAdd, Nat.reduceLeDiff, Nat.reduceSub, Int.reduceEq, decide_true, Bool.not_true]
  refine LoopE.cnt bs.length (fun i s => s.env 0 = .rd .ent 5 1 (bytesA bs) ∧ s.env 1 = .rd .ent 5 1 (bytesA bs) ∧ s.env 5 = .v (.int .i64 i)) ⟨by simp -dsimp -implicitDefEqProofs only [go_sem, Nat.reduceBEq, Nat.reduceAdd, Nat.reduceLeDiff, Nat.reduceSub, Int.reduceEq, initE], by simp -dsimp -implicitDefEqProofs only [go_sem, Nat.reduceBEq, Nat.reduceAdd, Nat.reduceLeDiff, Nat.reduceSub, Int.reduceEq, initE], by simp -dsimp -implicitDefEqProofs only [go_sem, Nat.reduceBEq, Nat.reduceAdd, Nat.reduceLeDiff, Nat.reduceSub, Int.reduceEq] <;> simp⟩ ?_
  rintro i ⟨e, σ⟩ hi ⟨h0, h1, h5⟩ K hK
  simp only at h0 h1 h5
  simp -dsimp -implicitDefEqProofs only [go_sem, Nat.reduceBEq, Nat.reduceAdd, Nat.reduceLeDiff, Nat.reduceSub, Int.reduceEq, h0, h1, h5]
  refine ifB'.of (fun hlt => ?_) (fun hlt => ?_)
  · have hlt : i < bs.length := by omega
    repeat (first | with_reducible refine ask.of (by omega) ?_ | simp -dsimp -implicitDefEqProofs only [go_sem, Nat.reduceBEq, Nat.reduceAdd, Nat.reduceLeDiff, Nat.reduceSub, Int.reduceEq, h0, h1, h5, bytesA_at hlt, decide_true, Bool.not_true])
    refine hK _ hlt ?_
    simp -dsimp -implicitDefEqProofs only [go_sem, Nat.reduceBEq, Nat.reduceAdd, Nat.reduceLeDiff, Nat.reduceSub, Int.reduceEq, h0, h1, h5, wrap_succ (show i < 4611686018427387904 by omega)]
  · simp -dsimp -implicitDefEqProofs only [go_sem, Nat.reduceBEq, Nat.reduceAdd, Nat.reduceLeDiff, Nat.reduceSub, Int.reduceEq, h0, h1, h5]
theorem c_sameN (bs : List Int) (hb : bs.length ≤ 8388608) : Meets Try.prog 48 [rowI bs, rowI bs] (fun r => r = .v (.bool true)) := by
  refine Meets.intro mixed (hint []) Try.func48 rfl (by decide) res_48 rty_48 (by kernel_rfl) ?_; 
  simp -dsimp -implicitDefEqProofs only [go_sem, Nat.reduceBEq, Nat.reduceAdd, Nat.reduceLeDiff, Nat.reduceSub, Int.reduceEq, decide_true, Bool.not_true]
  refine LoopE.cnt bs.length (fun i s => s.env 0 = .rd .ent 3 1 (ra intC bs) ∧ s.env 1 = .rd .ent 3 1 (ra intC bs) ∧ s.env 5 = .v (.int .i64 i)) ⟨by simp -dsimp -implicitDefEqProofs only [go_sem, Nat.reduceBEq, Nat.reduceAdd, Nat.reduceLeDiff, Nat.reduceSub, Int.reduceEq, initE], by simp -dsimp -implicitDefEqProofs only [go_sem, Nat.reduceBEq, Nat.reduceAdd, Nat.reduceLeDiff, Nat.reduceSub, Int.reduceEq, initE], by simp -dsimp -implicitDefEqProofs only [go_sem, Nat.reduceBEq, Nat.reduceAdd, Nat.reduceLeDiff, Nat.reduceSub, Int.reduceEq] <;> simp⟩ ?_
  rintro i ⟨e, σ⟩ hi ⟨h0, h1, h5⟩ K hK
  simp only at h0 h1 h5
  simp -dsimp -implicitDefEqProofs only [go_sem, Nat.reduceBEq, Nat.reduceAdd, Nat.reduceLeDiff, Nat.reduceSub, Int.reduceEq, h0, h1, h5]
  refine ifB'.of (fun hlt => ?_) (fun hlt => ?_)
  · have hlt : i < bs.length := by omega
    repeat (first | with_reducible refine ask.of (by omega) ?_ | simp -dsimp -implicitDefEqProofs only [go_sem, Nat.reduceBEq, Nat.reduceAdd, Nat.reduceLeDiff, Nat.reduceSub, Int.reduceEq, h0, h1, h5, intA_at hlt, decide_true, Bool.not_true])
    refine hK _ hlt ?_
    simp -dsimp -implicitDefEqProofs only [go_sem, Nat.reduceBEq, Nat.reduceAdd, Nat.reduceLeDiff, Nat.reduceSub, Int.reduceEq, h0, h1, h5, wrap_succ (show i < 4611686018427387904 by omega)]
  · simp -dsimp -implicitDefEqProofs only [go_sem, Nat.reduceBEq, Nat.reduceAdd, Nat.reduceLeDiff, Nat.reduceSub, Int.reduceEq, h0, h1, h5]
def lowB (x : UInt8) (v : Nat) : UInt8 := UInt8.ofNat (x.toNat % 2 ^ (v % 8))
def cutLast (b : List UInt8) (v : Nat) : List UInt8 := b.set (b.length - 1) (lowB (b.getD (b.length - 1) 0) v)
def drawUB (code : List UInt8) : List UInt8 × Int :=
  let c := cd code
  let k := nxV c 0
  let v := nxV c (nxP c 0)
  let b := db c (nxP c (nxP c 0)) 6
  if k = 250 then ([1], -1) else if k = 251 then ([1], 9223372036854775807) else (if k % 2 = 0 ∧ 0 < b.length then cutLast b v else b, 8 * (b.length : Int) - (k % 3 * 4 : Nat) - (v % 9 : Nat))
theorem shl8 : ∀ v, v < 8 → IntKind.u8.wrap (1 * 2 ^ min (IntKind.u64.wrap ((v : Nat) : Int)).toNat 8) = ((2 ^ v : Nat) : Int) := by decide
theorem lowB_eq (x : UInt8) (v : Nat) : ((x.toNat : Nat) : Int).tmod ((2 ^ (v % 8) : Nat) : Int) = ((lowB x v).toNat : Int) := by
  have h1 : ((x.toNat : Nat) : Int).tmod ((2 ^ (v % 8) : Nat) : Int) = ((x.toNat % 2 ^ (v % 8) : Nat) : Int) := rfl
  rw [h1, lowB]
  have h2 := x.toNat_lt
  have h3 := Nat.mod_le x.toNat (2 ^ (v % 8))
  have h4 : (UInt8.ofNat (x.toNat % 2 ^ (v % 8))).toNat = x.toNat % 2 ^ (v % 8) := by simp; omega
  rw [h4]
set_option maxRecDepth 8000 in
set_option maxHeartbeats 1000000 in
theorem c_DrawUnpackBits (code : List UInt8) (hb : code.length ≤ 1048576) : Meets Try.prog 41 [rowB code] (fun r => r = .tup [rowB (drawUB code).1, .v (.int .i64 (drawUB code).2)]) := by
  refine Meets.intro mixed (hint []) Try.func41 rfl (by decide) res_41 rty_41 (by kernel_rfl) ?_; 
  have hc := cd_len code
  have hq := nxP_le (cd code) (Nat.zero_le _)
  have hq1 := nxP_le (cd code) hq
  have hk := nxV_lt (cd code) 0
  have hv := nxV_lt (cd code) (nxP (cd code) 0)
  have hl := db_length (cd code) (nxP (cd code) (nxP (cd code) 0)) (show 0 < 6 by decide)
  have hd : drawUB code = if nxV (cd code) 0 = 250 then ([1], -1) else if nxV (cd code) 0 = 251 then ([1], 9223372036854775807) else (if nxV (cd code) 0 % 2 = 0 ∧ 0 < (db (cd code) (nxP (cd code) (nxP (cd code) 0)) 6).length then cutLast (db (cd code) (nxP (cd code) (nxP (cd code) 0)) 6) (nxV (cd code) (nxP (cd code) 0)) else db (cd code) (nxP (cd code) (nxP (cd code) 0)) 6, 8 * ((db (cd code) (nxP (cd code) (nxP (cd code) 0)) 6).length : Int) - (nxV (cd code) 0 % 3 * 4 : Nat) - (nxV (cd code) (nxP (cd code) 0) % 9 : Nat)) := rfl
  simp -dsimp -implicitDefEqProofs only [go_sem, Nat.reduceBEq, Nat.reduceAdd, Nat.reduceLeDiff, Nat.reduceSub, Int.reduceEq, initE]
  refine CallE.lend (c_l1open code hb) (by simp -dsimp -implicitDefEqProofs only [go_sem, Nat.reduceBEq, Nat.reduceAdd, Nat.reduceLeDiff, Nat.reduceSub, Int.reduceEq, rdAt]) ?_
  rintro r rfl
  simp -dsimp -implicitDefEqProofs only [go_sem, Nat.reduceBEq, Nat.reduceAdd, Nat.reduceLeDiff, Nat.reduceSub, Int.reduceEq, rdAt]
  refine CallE.mutLend (c_next (cd code) 0 (by omega)) (by simp -dsimp -implicitDefEqProofs only [go_sem, Nat.reduceBEq, Nat.reduceAdd, Nat.reduceLeDiff, Nat.reduceSub, Int.reduceEq]) (by simp -dsimp -implicitDefEqProofs only [go_sem, Nat.reduceBEq, Nat.reduceAdd, Nat.reduceLeDiff, Nat.reduceSub, Int.reduceEq, rdAt]) (by simp -dsimp -implicitDefEqProofs only [go_sem, Nat.reduceBEq, Nat.reduceAdd, Nat.reduceLeDiff, Nat.reduceSub, Int.reduceEq, rdAt]) ?_
  rintro r rs ⟨rfl, rfl⟩
  simp -dsimp -implicitDefEqProofs only [go_sem, Nat.reduceBEq, Nat.reduceAdd, Nat.reduceLeDiff, Nat.reduceSub, Int.reduceEq, rdAt]
  refine CallE.mutLend (c_next (cd code) (nxP (cd code) 0) (by omega)) (by simp -dsimp -implicitDefEqProofs only [go_sem, Nat.reduceBEq, Nat.reduceAdd, Nat.reduceLeDiff, Nat.reduceSub, Int.reduceEq]) (by simp -dsimp -implicitDefEqProofs only [go_sem, Nat.reduceBEq, Nat.reduceAdd, Nat.reduceLeDiff, Nat.reduceSub, Int.reduceEq, rdAt]) (by simp -dsimp -implicitDefEqProofs only [go_sem, Nat.reduceBEq, Nat.reduceAdd, Nat.reduceLeDiff, Nat.reduceSub, Int.reduceEq, rdAt]) ?_
  rintro r rs ⟨rfl, rfl⟩
  simp -dsimp -implicitDefEqProofs only [go_sem, Nat.reduceBEq, Nat.reduceAdd, Nat.reduceLeDiff, Nat.reduceSub, Int.reduceEq, rdAt]
  have hdb := c_l1drawBytes (cd code) (nxP (cd code) (nxP (cd code) 0)) 6 hq1 hc (by decide) (by decide)
  generalize db (cd code) (nxP (cd code) (nxP (cd code) 0)) 6 = b at *
  generalize dbP (cd code) (nxP (cd code) (nxP (cd code) 0)) 6 = p3 at *
  generalize nxV (cd code) (nxP (cd code) 0) = v at *
  generalize nxV (cd code) 0 = k at *
  have ek : ((k : Nat) : Int).tmod 2 = ((k % 2 : Nat) : Int) := rfl
  have ek3 : ((k : Nat) : Int).tmod 3 = ((k % 3 : Nat) : Int) := rfl
  have ev8 : ((v : Nat) : Int).tmod 8 = ((v % 8 : Nat) : Int) := rfl
  have ev9 : ((v : Nat) : Int).tmod 9 = ((v % 9 : Nat) : Int) := rfl
  have el : IntKind.i64.wrap (8 * (b.length : Int)) = 8 * (b.length : Int) := wrap_i64_of (by omega) (by omega)
  have e4 : IntKind.i64.wrap (((k % 3 : Nat) : Int) * 4) = ((k % 3 * 4 : Nat) : Int) := by rw [wrap_i64_of (by omega) (by omega)]; omega
  have e5 : IntKind.i64.wrap (8 * (b.length : Int) - ((k % 3 * 4 : Nat) : Int)) = 8 * (b.length : Int) - ((k % 3 * 4 : Nat) : Int) := wrap_i64_of (by omega) (by omega)
  have e6 : IntKind.i64.wrap (8 * (b.length : Int) - ((k % 3 * 4 : Nat) : Int) - ((v % 9 : Nat) : Int)) = 8 * (b.length : Int) - ((k % 3 * 4 : Nat) : Int) - ((v % 9 : Nat) : Int) := wrap_i64_of (by omega) (by omega)
  refine ifB'.of (fun h => ?_) (fun h => ?_)
  · rw [if_pos (by omega)] at hd
    repeat (first | with_reducible refine ask.of (by first | omega | decide) ?_ | simp -dsimp -implicitDefEqProofs only [go_sem, Nat.reduceBEq, Nat.reduceAdd, Nat.reduceLeDiff, Nat.reduceSub, Int.reduceEq])
    rw [hd]; rfl
  simp -dsimp -implicitDefEqProofs only [go_sem, Nat.reduceBEq, Nat.reduceAdd, Nat.reduceLeDiff, Nat.reduceSub, Int.reduceEq]
  refine ifB'.of (fun h2 => ?_) (fun h2 => ?_)
  · rw [if_neg (by omega), if_pos (by omega)] at hd
    repeat (first | with_reducible refine ask.of (by first | omega | decide) ?_ | simp -dsimp -implicitDefEqProofs only [go_sem, Nat.reduceBEq, Nat.reduceAdd, Nat.reduceLeDiff, Nat.reduceSub, Int.reduceEq])
    rw [hd]; rfl
  rw [if_neg (by omega), if_neg (by omega)] at hd
  simp -dsimp -implicitDefEqProofs only [go_sem, Nat.reduceBEq, Nat.reduceAdd, Nat.reduceLeDiff, Nat.reduceSub, Int.reduceEq]
  refine CallE.mutLend (hdb) (by simp -dsimp -implicitDefEqProofs only [go_sem, Nat.reduceBEq, Nat.reduceAdd, Nat.reduceLeDiff, Nat.reduceSub, Int.reduceEq]) (by simp -dsimp -implicitDefEqProofs only [go_sem, Nat.reduceBEq, Nat.reduceAdd, Nat.reduceLeDiff, Nat.reduceSub, Int.reduceEq, rdAt, show ((6 : Nat) : Int) = 6 from rfl]) (by simp -dsimp -implicitDefEqProofs only [go_sem, Nat.reduceBEq, Nat.reduceAdd, Nat.reduceLeDiff, Nat.reduceSub, Int.reduceEq, rdAt, show ((6 : Nat) : Int) = 6 from rfl]) ?_
  rintro r rs ⟨rfl, rfl⟩
  simp -dsimp -implicitDefEqProofs only [go_sem, Nat.reduceBEq, Nat.reduceAdd, Nat.reduceLeDiff, Nat.reduceSub, Int.reduceEq, rdAt, show ((6 : Nat) : Int) = 6 from rfl]
  repeat (first | with_reducible refine ask.of (by first | omega | decide) ?_ | simp -dsimp -implicitDefEqProofs only [go_sem, Nat.reduceBEq, Nat.reduceAdd, Nat.reduceLeDiff, Nat.reduceSub, Int.reduceEq, ek])
  refine ifB'.of (fun h3 => ?_) (fun h3 => ?_)
  · simp -dsimp -implicitDefEqProofs only [go_sem, Nat.reduceBEq, Nat.reduceAdd, Nat.reduceLeDiff, Nat.reduceSub, Int.reduceEq]
    refine ifB'.of (fun h4 => ?_) (fun h4 => ?_)
    · rw [if_pos ⟨by omega, by omega⟩] at hd
      have en : IntKind.i64.wrap ((b.length : Int) - 1) = ((b.length - 1 : Nat) : Int) := by rw [wrap_i64_of (by omega) (by omega)]; omega
      have hlt : b.length - 1 < b.length := by omega
      repeat (first | with_reducible refine ask.of (by first | omega | decide) ?_ | simp -dsimp -implicitDefEqProofs only [go_sem, Nat.reduceBEq, Nat.reduceAdd, Nat.reduceLeDiff, Nat.reduceSub, Int.reduceEq, en, bytesA_at hlt, ev8, shl8 _ (show v % 8 < 8 by omega)])
      refine ask.of (by have : 0 < 2 ^ (v % 8) := Nat.two_pow_pos _; omega) ?_
      refine ask.of (by omega) ?_
      rw [lowB_eq, bytesA_set, el, ek3, e4, e5, ev9, e6, hd]
      show _ = AV.tup [.row 5 1 (bytesA (cutLast b v)), _]
      rw [cutLast, show b.getD (b.length - 1) 0 = b[b.length - 1] by simp [List.getD, hlt]]
    · rw [if_neg (by omega)] at hd
      repeat (first | with_reducible refine ask.of (by first | omega | decide) ?_ | simp -dsimp -implicitDefEqProofs only [go_sem, Nat.reduceBEq, Nat.reduceAdd, Nat.reduceLeDiff, Nat.reduceSub, Int.reduceEq, ek3, ev9, el, e4, e5, e6])
      rw [hd]
  · rw [if_neg (by omega)] at hd
    repeat (first | with_reducible refine ask.of (by first | omega | decide) ?_ | simp -dsimp -implicitDefEqProofs only [go_sem, Nat.reduceBEq, Nat.reduceAdd, Nat.reduceLeDiff, Nat.reduceSub, Int.reduceEq, ek3, ev9, el, e4, e5, e6])
    rw [hd]
end Go.Ev
set_option linter.unusedSimpArgs false
set_option linter.unusedVariables false
namespace Go.Ev
open Go Go.RowKit Go.Proofs
theorem drawUB_b (code : List UInt8) : (drawUB code).1.length ≤ 6 ∧ -9223372036854775808 ≤ (drawUB code).2 ∧ (drawUB code).2 ≤ 9223372036854775807 := by
  have hl := db_length (cd code) (nxP (cd code) (nxP (cd code) 0)) (show 0 < 6 by decide)
  have hk := nxV_lt (cd code) 0
  unfold drawUB
  simp only
  split
  · exact ⟨by decide, by decide, by decide⟩
  · split
    · exact ⟨by decide, by decide, by decide⟩
    · refine ⟨?_, ?_, ?_⟩
      · show (if _ then cutLast _ _ else _).length ≤ 6
        split
        · unfold cutLast; rw [List.length_set]; omega
        · omega
      · show _ ≤ 8 * (_ : Int) - _ - _; omega
      · show 8 * (_ : Int) - _ - _ ≤ _; omega
theorem drawParts_length (code : List UInt8) : (drawParts code).length < 6 := by rw [drawParts, jL_length]; exact Nat.mod_lt _ (by decide)
theorem szL_bound {α : Type} {sz : α → Nat} {m : Nat} : ∀ xs : List α, (∀ x ∈ xs, sz x ≤ m) → szL sz xs ≤ m * xs.length
  | [], _ => by simp [szL]
  | x :: xs, h => by
    have h1 := szL_bound xs (fun y hy => h y (List.mem_cons_of_mem _ hy))
    have h2 := h x (List.mem_cons_self ..)
    simp only [szL, List.map_cons, List.sum_cons, List.length_cons] at h1 ⊢
    rw [Nat.mul_succ]; omega
theorem drawParts_w (code : List UInt8) : wBB (drawParts code) ≤ 120 := by
  have h1 := szL_bound (sz := List.length) (m := 20) (drawParts code) (fun b hb => Nat.le_of_lt (jL_mem hb))
  have h2 := drawParts_length code
  have : wBB (drawParts code) = szL List.length (drawParts code) := rfl
  omega
set_option maxRecDepth 8000 in
set_option maxHeartbeats 4000000 in
theorem c_FnBuffers (code : List UInt8) : Meets Try.prog 7 [rowB code] (fun r => r = .v (.bool true)) := by
  refine Meets.intro mixed (hint [(77, 2), (110, 2)]) Try.func7 rfl (by decide) res_7 rty_7 (by kernel_rfl) ?_; 
  simp -dsimp -implicitDefEqProofs only [go_sem, Nat.reduceBEq, Nat.reduceAdd, Nat.reduceLeDiff, Nat.reduceSub, Int.reduceEq, initE]
  refine ifB'.of (fun h => ?_) (fun h => ?_)
  · simp -dsimp -implicitDefEqProofs only [go_sem, Nat.reduceBEq, Nat.reduceAdd, Nat.reduceLeDiff, Nat.reduceSub, Int.reduceEq]
  have hb : code.length ≤ 1048576 := by omega
  have hbl := drawBits_length code
  have hup := unpack_pack (drawBits code)
  have hcb := c_implUnpackBits (packB (drawBits code)) (drawBits code).length (by rw [packB_length, packN]; omega) (by omega) (by omega)
  rw [hup] at hcb
  have hdr := c_DrawPackBits code hb
  generalize drawBits code = bits at *
  simp -dsimp -implicitDefEqProofs only [go_sem, Nat.reduceBEq, Nat.reduceAdd, Nat.reduceLeDiff, Nat.reduceSub, Int.reduceEq, initE]
  refine CallE.of (hdr) (by rintro r rfl; (repeat' first | exact trivial | exact pure_rowB _ | exact pure_rowO _ | exact pure_rowI _ | exact pure_rowBB _ | exact pure_rowPk _ _ | exact pure_rowSn _ _ | exact pure_rowFd _ _ | exact pure_rowBBB _ | exact pure_rowCl _ _ | exact pure_rowTb _ _ _ | refine And.intro ?_ ?_)) (by simp -dsimp -implicitDefEqProofs only [go_sem, Nat.reduceBEq, Nat.reduceAdd, Nat.reduceLeDiff, Nat.reduceSub, Int.reduceEq]) ?_
  rintro r rfl
  simp -dsimp -implicitDefEqProofs only [go_sem, Nat.reduceBEq, Nat.reduceAdd, Nat.reduceLeDiff, Nat.reduceSub, Int.reduceEq]
  refine CallE.of (hdr) (by rintro r rfl; (repeat' first | exact trivial | exact pure_rowB _ | exact pure_rowO _ | exact pure_rowI _ | exact pure_rowBB _ | exact pure_rowPk _ _ | exact pure_rowSn _ _ | exact pure_rowFd _ _ | exact pure_rowBBB _ | exact pure_rowCl _ _ | exact pure_rowTb _ _ _ | refine And.intro ?_ ?_)) (by simp -dsimp -implicitDefEqProofs only [go_sem, Nat.reduceBEq, Nat.reduceAdd, Nat.reduceLeDiff, Nat.reduceSub, Int.reduceEq]) ?_
  rintro r rfl
  simp -dsimp -implicitDefEqProofs only [go_sem, Nat.reduceBEq, Nat.reduceAdd, Nat.reduceLeDiff, Nat.reduceSub, Int.reduceEq]
  refine CallE.of (c_iPackBits bits (by omega)) (by rintro r rfl; (repeat' first | exact trivial | exact pure_rowB _ | exact pure_rowO _ | exact pure_rowI _ | exact pure_rowBB _ | exact pure_rowPk _ _ | exact pure_rowSn _ _ | exact pure_rowFd _ _ | exact pure_rowBBB _ | exact pure_rowCl _ _ | exact pure_rowTb _ _ _ | refine And.intro ?_ ?_)) (by simp -dsimp -implicitDefEqProofs only [go_sem, Nat.reduceBEq, Nat.reduceAdd, Nat.reduceLeDiff, Nat.reduceSub, Int.reduceEq]) ?_
  rintro r rfl
  simp -dsimp -implicitDefEqProofs only [go_sem, Nat.reduceBEq, Nat.reduceAdd, Nat.reduceLeDiff, Nat.reduceSub, Int.reduceEq]
  refine CallE.of (hcb) (by rintro r rfl; (repeat' first | exact trivial | exact pure_rowB _ | exact pure_rowO _ | exact pure_rowI _ | exact pure_rowBB _ | exact pure_rowPk _ _ | exact pure_rowSn _ _ | exact pure_rowFd _ _ | exact pure_rowBBB _ | exact pure_rowCl _ _ | exact pure_rowTb _ _ _ | refine And.intro ?_ ?_)) (by simp -dsimp -implicitDefEqProofs only [go_sem, Nat.reduceBEq, Nat.reduceAdd, Nat.reduceLeDiff, Nat.reduceSub, Int.reduceEq]) ?_
  rintro r rfl
  simp -dsimp -implicitDefEqProofs only [go_sem, Nat.reduceBEq, Nat.reduceAdd, Nat.reduceLeDiff, Nat.reduceSub, Int.reduceEq]
  simp -dsimp -implicitDefEqProofs only [go_sem, Nat.reduceBEq, Nat.reduceAdd, Nat.reduceLeDiff, Nat.reduceSub, Int.reduceEq, decide_true, Bool.not_true]
  refine LoopE.cnt bits.length (fun i s => s.env 0 = .rd .ent 5 1 (bytesA code) ∧ s.env 3 = .ref [29] ∧ s.env 4 = .ref [36, 0] ∧ s.env 6 = .v (.int .i64 i) ∧ s.σ [29] = some (.row 4 1 (ra boolC bits)) ∧ s.σ [36, 0] = some (.row 4 1 (ra boolC bits))) ⟨by simp -dsimp -implicitDefEqProofs only [go_sem, Nat.reduceBEq, Nat.reduceAdd, Nat.reduceLeDiff, Nat.reduceSub, Int.reduceEq, initE], by simp -dsimp -implicitDefEqProofs only [go_sem, Nat.reduceBEq, Nat.reduceAdd, Nat.reduceLeDiff, Nat.reduceSub, Int.reduceEq], by simp -dsimp -implicitDefEqProofs only [go_sem, Nat.reduceBEq, Nat.reduceAdd, Nat.reduceLeDiff, Nat.reduceSub, Int.reduceEq], by simp -dsimp -implicitDefEqProofs only [go_sem, Nat.reduceBEq, Nat.reduceAdd, Nat.reduceLeDiff, Nat.reduceSub, Int.reduceEq] <;> rfl, by simp -dsimp -implicitDefEqProofs only [go_sem, Nat.reduceBEq, Nat.reduceAdd, Nat.reduceLeDiff, Nat.reduceSub, Int.reduceEq], by simp -dsimp -implicitDefEqProofs only [go_sem, Nat.reduceBEq, Nat.reduceAdd, Nat.reduceLeDiff, Nat.reduceSub, Int.reduceEq]⟩ ?_
  rintro i ⟨e, σ⟩ hi ⟨h0, h3, h4, h6, hs29, hs36⟩ K hK
  simp only at h0 h3 h4 h6 hs29 hs36
  simp -dsimp -implicitDefEqProofs only [go_sem, Nat.reduceBEq, Nat.reduceAdd, Nat.reduceLeDiff, Nat.reduceSub, Int.reduceEq, h0, h3, h4, h6, hs29, hs36]
  refine ifB'.of (fun hlt => ?_) (fun hlt => ?_)
  · have hlt : i < bits.length := by omega
    repeat (first | with_reducible refine ask.of (by first | omega | decide) ?_ | simp -dsimp -implicitDefEqProofs only [go_sem, Nat.reduceBEq, Nat.reduceAdd, Nat.reduceLeDiff, Nat.reduceSub, Int.reduceEq, h0, h3, h4, h6, hs29, hs36, boolA_at hlt, decide_true, Bool.not_true, ra_length])
    refine hK _ hlt ?_
    simp -dsimp -implicitDefEqProofs only [go_sem, Nat.reduceBEq, Nat.reduceAdd, Nat.reduceLeDiff, Nat.reduceSub, Int.reduceEq, h0, h3, h4, h6, hs29, hs36, wrap_succ (show i < 4611686018427387904 by omega)]
  clear hcb hdr hK hup
  simp -dsimp -implicitDefEqProofs only [go_sem, Nat.reduceBEq, Nat.reduceAdd, Nat.reduceLeDiff, Nat.reduceSub, Int.reduceEq, h0, h3, h4, h6, hs29, hs36, initE]
  have hub := drawUB_b code
  have hul := unpackC_len (drawUB code).1 (drawUB code).2
  have hpb := pack_back (b := (drawUB code).1) (n := (drawUB code).2)
  have hdr := c_DrawUnpackBits code hb
  have hsu := c_specUnpackBits (drawUB code).1 (drawUB code).2 (by omega) hub.2.1 hub.2.2
  have hiu := c_implUnpackBits (drawUB code).1 (drawUB code).2 (by omega) hub.2.1 hub.2.2
  have hpk := c_iPackBits (unpackC (drawUB code).1 (drawUB code).2).1 (by omega)
  have hsb := c_sameB (drawUB code).1 (by omega)
  generalize unpackC (drawUB code).1 (drawUB code).2 = u at *
  generalize (drawUB code).2 = n at *
  generalize (drawUB code).1 = ub at *
  obtain ⟨ux, uc⟩ := u
  simp only at hul hpb hsu hiu hpk
  refine CallE.of (hdr) (by rintro r rfl; (repeat' first | exact trivial | exact pure_rowB _ | exact pure_rowO _ | exact pure_rowI _ | exact pure_rowBB _ | exact pure_rowPk _ _ | exact pure_rowSn _ _ | exact pure_rowFd _ _ | exact pure_rowBBB _ | exact pure_rowCl _ _ | exact pure_rowTb _ _ _ | refine And.intro ?_ ?_)) (by simp -dsimp -implicitDefEqProofs only [go_sem, Nat.reduceBEq, Nat.reduceAdd, Nat.reduceLeDiff, Nat.reduceSub, Int.reduceEq, h0, h3, h4, h6, hs29, hs36]) ?_
  rintro r rfl
  simp -dsimp -implicitDefEqProofs only [go_sem, Nat.reduceBEq, Nat.reduceAdd, Nat.reduceLeDiff, Nat.reduceSub, Int.reduceEq, h0, h3, h4, h6, hs29, hs36]
  refine CallE.of (hsu) (by rintro r rfl; (repeat' first | exact trivial | exact pure_rowB _ | exact pure_rowO _ | exact pure_rowI _ | exact pure_rowBB _ | exact pure_rowPk _ _ | exact pure_rowSn _ _ | exact pure_rowFd _ _ | exact pure_rowBBB _ | exact pure_rowCl _ _ | exact pure_rowTb _ _ _ | refine And.intro ?_ ?_)) (by simp -dsimp -implicitDefEqProofs only [go_sem, Nat.reduceBEq, Nat.reduceAdd, Nat.reduceLeDiff, Nat.reduceSub, Int.reduceEq, h0, h3, h4, h6, hs29, hs36]) ?_
  rintro r rfl
  simp -dsimp -implicitDefEqProofs only [go_sem, Nat.reduceBEq, Nat.reduceAdd, Nat.reduceLeDiff, Nat.reduceSub, Int.reduceEq, h0, h3, h4, h6, hs29, hs36]
  repeat (first | with_reducible refine ask.of (by omega) ?_ | with_reducible refine ask.of (flat_bytes _) ?_)
  refine CallE.of (hiu) (by rintro r rfl; (repeat' first | exact trivial | exact pure_rowB _ | exact pure_rowO _ | exact pure_rowI _ | exact pure_rowBB _ | exact pure_rowPk _ _ | exact pure_rowSn _ _ | exact pure_rowFd _ _ | exact pure_rowBBB _ | exact pure_rowCl _ _ | exact pure_rowTb _ _ _ | refine And.intro ?_ ?_)) (by simp -dsimp -implicitDefEqProofs only [go_sem, Nat.reduceBEq, Nat.reduceAdd, Nat.reduceLeDiff, Nat.reduceSub, Int.reduceEq, h0, h3, h4, h6, hs29, hs36]) ?_
  rintro r rfl
  simp -dsimp -implicitDefEqProofs only [go_sem, Nat.reduceBEq, Nat.reduceAdd, Nat.reduceLeDiff, Nat.reduceSub, Int.reduceEq, h0, h3, h4, h6, hs29, hs36]
  simp -dsimp -implicitDefEqProofs only [go_sem, Nat.reduceBEq, Nat.reduceAdd, Nat.reduceLeDiff, Nat.reduceSub, Int.reduceEq, h0, h3, h4, h6, hs29, hs36, decide_true, decide_false, Bool.not_true, Bool.not_false]
  have hdi := c_DrawPackInts code hb
  have hir := drawInts_range code
  have hil := drawInts_length code
  have hsp := c_specPackInts (drawInts code).1 (drawInts code).2 (by omega)
  have hip := c_implPackInts (drawInts code).1 (drawInts code).2 (by omega) hir
  have hib := fun h => ints_back (xs := (drawInts code).1) (n := (drawInts code).2) h hir
  have hsi := c_sameN (drawInts code).1 (by omega)
  generalize (drawInts code).2 = w at *
  generalize (drawInts code).1 = xs at *
  clear hir
  have hpl : (packIC xs w).1.length ≤ 1048576 := by
    by_cases h0 : (packIC xs w).2 = 0
    · have := hib h0
      have : (packIC xs w).1.length ≤ 8 * 8 := by
        have h1 := this.2.1
        have h2 : w * xs.length ≤ 8 * xs.length := Int.mul_le_mul_of_nonneg_right this.2.2.2 (by omega)
        omega
      omega
    · have : (packIC xs w).1 = [] := by
        unfold packIC at h0 ⊢
        split <;> try rfl
        split <;> try rfl
        simp_all
      rw [this]; decide
  have hiu := c_implUnpackInts (packIC xs w).1 w hpl
  generalize packIC xs w = q at *
  obtain ⟨qb, qc⟩ := q
  simp only at hib hsp hip hpl hiu
  have hdj := c_DrawJoinAligned code hb
  have hppl := drawParts_length code
  have hpw := drawParts_w code
  have hmod := joinA_mod (drawParts code)
  have hpart := fun i h => joinA_part (xs := drawParts code) (i := i) h
  have hij := c_implJoinAligned (drawParts code) (by omega)
  have hjl := joinA_le (drawParts code) (drawParts code).length (Nat.le_refl _)
  rw [List.take_length] at hjl
  have hpm : ∀ x ∈ drawParts code, x.length < 20 := fun x hx => jL_mem hx
  have hjw : szL List.length (drawParts code) ≤ 120 := hpw
  generalize drawParts code = ps at *
  refine ifB'.of (fun hu => ?_) (fun hu => ?_)
  case' refine_1 =>
    have hu0 : uc = 0 := by omega
    rw [(hpb hu0).1] at hpk
    simp -dsimp -implicitDefEqProofs only [go_sem, Nat.reduceBEq, Nat.reduceAdd, Nat.reduceLeDiff, Nat.reduceSub, Int.reduceEq, h0, h3, h4, h6, hs29, hs36]
    refine CallE.of (hpk) (by rintro r rfl; (repeat' first | exact trivial | exact pure_rowB _ | exact pure_rowO _ | exact pure_rowI _ | exact pure_rowBB _ | exact pure_rowPk _ _ | exact pure_rowSn _ _ | exact pure_rowFd _ _ | exact pure_rowBBB _ | exact pure_rowCl _ _ | exact pure_rowTb _ _ _ | refine And.intro ?_ ?_)) (by simp -dsimp -implicitDefEqProofs only [go_sem, Nat.reduceBEq, Nat.reduceAdd, Nat.reduceLeDiff, Nat.reduceSub, Int.reduceEq, h0, h3, h4, h6, hs29, hs36]) ?_
    rintro r rfl
    simp -dsimp -implicitDefEqProofs only [go_sem, Nat.reduceBEq, Nat.reduceAdd, Nat.reduceLeDiff, Nat.reduceSub, Int.reduceEq, h0, h3, h4, h6, hs29, hs36]
    refine CallE.of (hsb) (by rintro r rfl; (repeat' first | exact trivial | exact pure_rowB _ | exact pure_rowO _ | exact pure_rowI _ | exact pure_rowBB _ | exact pure_rowPk _ _ | exact pure_rowSn _ _ | exact pure_rowFd _ _ | exact pure_rowBBB _ | exact pure_rowCl _ _ | exact pure_rowTb _ _ _ | refine And.intro ?_ ?_)) (by simp -dsimp -implicitDefEqProofs only [go_sem, Nat.reduceBEq, Nat.reduceAdd, Nat.reduceLeDiff, Nat.reduceSub, Int.reduceEq, h0, h3, h4, h6, hs29, hs36]) ?_
    rintro r rfl
    simp -dsimp -implicitDefEqProofs only [go_sem, Nat.reduceBEq, Nat.reduceAdd, Nat.reduceLeDiff, Nat.reduceSub, Int.reduceEq, h0, h3, h4, h6, hs29, hs36]
  case' refine_2 => simp -dsimp -implicitDefEqProofs only [go_sem, Nat.reduceBEq, Nat.reduceAdd, Nat.reduceLeDiff, Nat.reduceSub, Int.reduceEq, h0, h3, h4, h6, hs29, hs36]
  all_goals
    clear hpk hsb hpb hsu hdr
    refine CallE.of (hdi) (by rintro r rfl; (repeat' first | exact trivial | exact pure_rowB _ | exact pure_rowO _ | exact pure_rowI _ | exact pure_rowBB _ | exact pure_rowPk _ _ | exact pure_rowSn _ _ | exact pure_rowFd _ _ | exact pure_rowBBB _ | exact pure_rowCl _ _ | exact pure_rowTb _ _ _ | refine And.intro ?_ ?_)) (by simp -dsimp -implicitDefEqProofs only [go_sem, Nat.reduceBEq, Nat.reduceAdd, Nat.reduceLeDiff, Nat.reduceSub, Int.reduceEq, h0, h3, h4, h6, hs29, hs36]) ?_
    rintro r rfl
    simp -dsimp -implicitDefEqProofs only [go_sem, Nat.reduceBEq, Nat.reduceAdd, Nat.reduceLeDiff, Nat.reduceSub, Int.reduceEq, h0, h3, h4, h6, hs29, hs36]
    refine CallE.of (hsp) (by rintro r rfl; (repeat' first | exact trivial | exact pure_rowB _ | exact pure_rowO _ | exact pure_rowI _ | exact pure_rowBB _ | exact pure_rowPk _ _ | exact pure_rowSn _ _ | exact pure_rowFd _ _ | exact pure_rowBBB _ | exact pure_rowCl _ _ | exact pure_rowTb _ _ _ | refine And.intro ?_ ?_)) (by simp -dsimp -implicitDefEqProofs only [go_sem, Nat.reduceBEq, Nat.reduceAdd, Nat.reduceLeDiff, Nat.reduceSub, Int.reduceEq, h0, h3, h4, h6, hs29, hs36]) ?_
    rintro r rfl
    simp -dsimp -implicitDefEqProofs only [go_sem, Nat.reduceBEq, Nat.reduceAdd, Nat.reduceLeDiff, Nat.reduceSub, Int.reduceEq, h0, h3, h4, h6, hs29, hs36]
    repeat (first | with_reducible refine ask.of (by omega) ?_ | with_reducible refine ask.of (flat_ra (enc := intC) (fun b c hc => by simp [intC] at hc; exact ⟨_, hc⟩) _) ?_)
    refine CallE.of (hip) (by rintro r rfl; (repeat' first | exact trivial | exact pure_rowB _ | exact pure_rowO _ | exact pure_rowI _ | exact pure_rowBB _ | exact pure_rowPk _ _ | exact pure_rowSn _ _ | exact pure_rowFd _ _ | exact pure_rowBBB _ | exact pure_rowCl _ _ | exact pure_rowTb _ _ _ | refine And.intro ?_ ?_)) (by simp -dsimp -implicitDefEqProofs only [go_sem, Nat.reduceBEq, Nat.reduceAdd, Nat.reduceLeDiff, Nat.reduceSub, Int.reduceEq, h0, h3, h4, h6, hs29, hs36]) ?_
    rintro r rfl
    simp -dsimp -implicitDefEqProofs only [go_sem, Nat.reduceBEq, Nat.reduceAdd, Nat.reduceLeDiff, Nat.reduceSub, Int.reduceEq, h0, h3, h4, h6, hs29, hs36]
    simp -dsimp -implicitDefEqProofs only [go_sem, Nat.reduceBEq, Nat.reduceAdd, Nat.reduceLeDiff, Nat.reduceSub, Int.reduceEq, h0, h3, h4, h6, hs29, hs36, decide_true, decide_false, Bool.not_true, Bool.not_false]
    clear hdi hsp hip
    refine ifB'.of (fun hq => ?_) (fun hq => ?_)
    case' refine_1 =>
      have hq0 : qc = 0 := by omega
      obtain ⟨hu1, hl1, hw1, hw8⟩ := hib hq0
      rw [hu1] at hiu
      have hmu : IntKind.i64.wrap (w * (xs.length : Int)) = (qb.length : Int) := by
        rw [hl1.symm, wrap_i64_of (by omega) (by omega)]
      simp -dsimp -implicitDefEqProofs only [go_sem, Nat.reduceBEq, Nat.reduceAdd, Nat.reduceLeDiff, Nat.reduceSub, Int.reduceEq, h0, h3, h4, h6, hs29, hs36]
      refine CallE.of (hiu) (by rintro r rfl; (repeat' first | exact trivial | exact pure_rowB _ | exact pure_rowO _ | exact pure_rowI _ | exact pure_rowBB _ | exact pure_rowPk _ _ | exact pure_rowSn _ _ | exact pure_rowFd _ _ | exact pure_rowBBB _ | exact pure_rowCl _ _ | exact pure_rowTb _ _ _ | refine And.intro ?_ ?_)) (by simp -dsimp -implicitDefEqProofs only [go_sem, Nat.reduceBEq, Nat.reduceAdd, Nat.reduceLeDiff, Nat.reduceSub, Int.reduceEq, h0, h3, h4, h6, hs29, hs36]) ?_
      rintro r rfl
      simp -dsimp -implicitDefEqProofs only [go_sem, Nat.reduceBEq, Nat.reduceAdd, Nat.reduceLeDiff, Nat.reduceSub, Int.reduceEq, h0, h3, h4, h6, hs29, hs36]
      simp -dsimp -implicitDefEqProofs only [go_sem, Nat.reduceBEq, Nat.reduceAdd, Nat.reduceLeDiff, Nat.reduceSub, Int.reduceEq, h0, h3, h4, h6, hs29, hs36, hmu, decide_true, decide_false, Bool.not_true, Bool.not_false]
      refine CallE.of (hsi) (by rintro r rfl; (repeat' first | exact trivial | exact pure_rowB _ | exact pure_rowO _ | exact pure_rowI _ | exact pure_rowBB _ | exact pure_rowPk _ _ | exact pure_rowSn _ _ | exact pure_rowFd _ _ | exact pure_rowBBB _ | exact pure_rowCl _ _ | exact pure_rowTb _ _ _ | refine And.intro ?_ ?_)) (by simp -dsimp -implicitDefEqProofs only [go_sem, Nat.reduceBEq, Nat.reduceAdd, Nat.reduceLeDiff, Nat.reduceSub, Int.reduceEq, h0, h3, h4, h6, hs29, hs36]) ?_
      rintro r rfl
      simp -dsimp -implicitDefEqProofs only [go_sem, Nat.reduceBEq, Nat.reduceAdd, Nat.reduceLeDiff, Nat.reduceSub, Int.reduceEq, h0, h3, h4, h6, hs29, hs36]
    case' refine_2 => simp -dsimp -implicitDefEqProofs only [go_sem, Nat.reduceBEq, Nat.reduceAdd, Nat.reduceLeDiff, Nat.reduceSub, Int.reduceEq, h0, h3, h4, h6, hs29, hs36]
  all_goals
    clear hsi hiu hib
    refine CallE.of (hdj) (by rintro r rfl; (repeat' first | exact trivial | exact pure_rowB _ | exact pure_rowO _ | exact pure_rowI _ | exact pure_rowBB _ | exact pure_rowPk _ _ | exact pure_rowSn _ _ | exact pure_rowFd _ _ | exact pure_rowBBB _ | exact pure_rowCl _ _ | exact pure_rowTb _ _ _ | refine And.intro ?_ ?_)) (by simp -dsimp -implicitDefEqProofs only [go_sem, Nat.reduceBEq, Nat.reduceAdd, Nat.reduceLeDiff, Nat.reduceSub, Int.reduceEq, h0, h3, h4, h6, hs29, hs36]) ?_
    rintro r rfl
    simp -dsimp -implicitDefEqProofs only [go_sem, Nat.reduceBEq, Nat.reduceAdd, Nat.reduceLeDiff, Nat.reduceSub, Int.reduceEq, h0, h3, h4, h6, hs29, hs36]
    refine CallE.of (hdj) (by rintro r rfl; (repeat' first | exact trivial | exact pure_rowB _ | exact pure_rowO _ | exact pure_rowI _ | exact pure_rowBB _ | exact pure_rowPk _ _ | exact pure_rowSn _ _ | exact pure_rowFd _ _ | exact pure_rowBBB _ | exact pure_rowCl _ _ | exact pure_rowTb _ _ _ | refine And.intro ?_ ?_)) (by simp -dsimp -implicitDefEqProofs only [go_sem, Nat.reduceBEq, Nat.reduceAdd, Nat.reduceLeDiff, Nat.reduceSub, Int.reduceEq, h0, h3, h4, h6, hs29, hs36]) ?_
    rintro r rfl
    simp -dsimp -implicitDefEqProofs only [go_sem, Nat.reduceBEq, Nat.reduceAdd, Nat.reduceLeDiff, Nat.reduceSub, Int.reduceEq, h0, h3, h4, h6, hs29, hs36]
    refine CallE.of (hij) (by rintro r rfl; (repeat' first | exact trivial | exact pure_rowB _ | exact pure_rowO _ | exact pure_rowI _ | exact pure_rowBB _ | exact pure_rowPk _ _ | exact pure_rowSn _ _ | exact pure_rowFd _ _ | exact pure_rowBBB _ | exact pure_rowCl _ _ | exact pure_rowTb _ _ _ | refine And.intro ?_ ?_)) (by simp -dsimp -implicitDefEqProofs only [go_sem, Nat.reduceBEq, Nat.reduceAdd, Nat.reduceLeDiff, Nat.reduceSub, Int.reduceEq, h0, h3, h4, h6, hs29, hs36]) ?_
    rintro r rfl
    simp -dsimp -implicitDefEqProofs only [go_sem, Nat.reduceBEq, Nat.reduceAdd, Nat.reduceLeDiff, Nat.reduceSub, Int.reduceEq, h0, h3, h4, h6, hs29, hs36]
    refine LoopE.cnt ps.length (fun i s => s.env 0 = .rd .ent 5 1 (bytesA code) ∧ s.env 21 = .ref [144] ∧ s.env 22 = .ref [147] ∧ s.env 23 = .v (.int .i64 (joinA (ps.take i)).length) ∧ s.env 24 = .v (.int .i64 i) ∧ s.σ [144] = some (.row 37 1 (ra byC ps)) ∧ s.σ [147] = some (.row 5 1 (bytesA (joinA ps)))) ⟨by simp -dsimp -implicitDefEqProofs only [go_sem, Nat.reduceBEq, Nat.reduceAdd, Nat.reduceLeDiff, Nat.reduceSub, Int.reduceEq, h0, h3, h4, h6, hs29, hs36, initE], by simp -dsimp -implicitDefEqProofs only [go_sem, Nat.reduceBEq, Nat.reduceAdd, Nat.reduceLeDiff, Nat.reduceSub, Int.reduceEq, h0, h3, h4, h6, hs29, hs36], by simp -dsimp -implicitDefEqProofs only [go_sem, Nat.reduceBEq, Nat.reduceAdd, Nat.reduceLeDiff, Nat.reduceSub, Int.reduceEq, h0, h3, h4, h6, hs29, hs36], by simp -dsimp -implicitDefEqProofs only [go_sem, Nat.reduceBEq, Nat.reduceAdd, Nat.reduceLeDiff, Nat.reduceSub, Int.reduceEq, h0, h3, h4, h6, hs29, hs36] <;> rfl, by simp -dsimp -implicitDefEqProofs only [go_sem, Nat.reduceBEq, Nat.reduceAdd, Nat.reduceLeDiff, Nat.reduceSub, Int.reduceEq, h0, h3, h4, h6, hs29, hs36] <;> rfl, by simp -dsimp -implicitDefEqProofs only [go_sem, Nat.reduceBEq, Nat.reduceAdd, Nat.reduceLeDiff, Nat.reduceSub, Int.reduceEq, h0, h3, h4, h6, hs29, hs36], by simp -dsimp -implicitDefEqProofs only [go_sem, Nat.reduceBEq, Nat.reduceAdd, Nat.reduceLeDiff, Nat.reduceSub, Int.reduceEq, h0, h3, h4, h6, hs29, hs36]⟩ ?_
    clear hs29 hs36
    rintro i ⟨e, σ⟩ hi ⟨h0, h21, h22, h23, h24, hs1, hs2⟩ K hK
    simp only at h0 h21 h22 h23 h24 hs1 hs2
    have hm := hmod i hi
    have em : (((joinA (ps.take i)).length : Nat) : Int).tmod 8 = 0 := by
      show ((_ % 8 : Nat) : Int) = 0
      rw [hm]; rfl
    simp -dsimp -implicitDefEqProofs only [go_sem, Nat.reduceBEq, Nat.reduceAdd, Nat.reduceLeDiff, Nat.reduceSub, Int.reduceEq, h0, h21, h22, h23, h24, hs1, hs2]
    refine ifB'.of (fun hlt => ?_) (fun hlt => ?_)
    · have hlt : i < ps.length := by omega
      obtain ⟨hp1, hp2, hp3, hp4⟩ := hpart i hlt
      have hpx := hpm ps[i] (List.getElem_mem hlt)
      repeat (first | with_reducible refine ask.of (by first | omega | decide) ?_ | simp -dsimp -implicitDefEqProofs only [go_sem, Nat.reduceBEq, Nat.reduceAdd, Nat.reduceLeDiff, Nat.reduceSub, Int.reduceEq, h0, h21, h22, h23, h24, hs1, hs2, byA_at hlt, em, decide_true, decide_false, Bool.not_true, Bool.not_false])
      have ew : IntKind.i64.wrap (((joinA (ps.take i)).length : Int) + ((ps[i]).length : Int)) = (((joinA (ps.take i)).length + (ps[i]).length : Nat) : Int) := by rw [wrap_i64_of (by omega) (by omega)]; omega
      have hsb := c_sameB ps[i] (by omega)
      simp -dsimp -implicitDefEqProofs only [go_sem, Nat.reduceBEq, Nat.reduceAdd, Nat.reduceLeDiff, Nat.reduceSub, Int.reduceEq, h0, h21, h22, h23, h24, hs1, hs2, ew]
      refine ifB'.of (fun hbad => absurd hbad (by omega)) (fun _ => ?_)
      repeat (first | with_reducible refine ask.of (by first | omega | decide) ?_ | simp -dsimp -implicitDefEqProofs only [go_sem, Nat.reduceBEq, Nat.reduceAdd, Nat.reduceLeDiff, Nat.reduceSub, Int.reduceEq, h0, h21, h22, h23, h24, hs1, hs2, byA_at hlt, ew, decide_true, decide_false, Bool.not_true, Bool.not_false])
      rw [hp2]
      refine CallE.of (hsb) (by rintro r rfl; (repeat' first | exact trivial | exact pure_rowB _ | exact pure_rowO _ | exact pure_rowI _ | exact pure_rowBB _ | exact pure_rowPk _ _ | exact pure_rowSn _ _ | exact pure_rowFd _ _ | exact pure_rowBBB _ | exact pure_rowCl _ _ | exact pure_rowTb _ _ _ | refine And.intro ?_ ?_)) (by simp -dsimp -implicitDefEqProofs only [go_sem, Nat.reduceBEq, Nat.reduceAdd, Nat.reduceLeDiff, Nat.reduceSub, Int.reduceEq, h0, h21, h22, h23, h24, hs1, hs2]) ?_
      rintro r rfl
      simp -dsimp -implicitDefEqProofs only [go_sem, Nat.reduceBEq, Nat.reduceAdd, Nat.reduceLeDiff, Nat.reduceSub, Int.reduceEq, h0, h21, h22, h23, h24, hs1, hs2]
      repeat (first | with_reducible refine ask.of (by first | omega | decide) ?_ | simp -dsimp -implicitDefEqProofs only [go_sem, Nat.reduceBEq, Nat.reduceAdd, Nat.reduceLeDiff, Nat.reduceSub, Int.reduceEq, h0, h21, h22, h23, h24, hs1, hs2, byA_at hlt, ew, decide_true, decide_false, Bool.not_true, Bool.not_false])
      generalize hbs : (joinA (ps.take i)).length + (ps[i]).length = bs at *
      clear hsb
      have hpd : (bs + padN bs) % 8 = 0 ∧ padN bs < 8 := by unfold padN; omega
      refine LoopE.cnt (padN bs) (fun j s => s.env 0 = .rd .ent 5 1 (bytesA code) ∧ s.env 21 = .ref [144] ∧ s.env 22 = .ref [147] ∧ s.env 23 = .v (.int .i64 (bs + j : Nat)) ∧ s.env 24 = .v (.int .i64 i) ∧ s.σ [144] = some (.row 37 1 (ra byC ps)) ∧ s.σ [147] = some (.row 5 1 (bytesA (joinA ps)))) ⟨by simp -dsimp -implicitDefEqProofs only [go_sem, Nat.reduceBEq, Nat.reduceAdd, Nat.reduceLeDiff, Nat.reduceSub, Int.reduceEq, h0, h21, h22, h23, h24, hs1, hs2, initE], by simp -dsimp -implicitDefEqProofs only [go_sem, Nat.reduceBEq, Nat.reduceAdd, Nat.reduceLeDiff, Nat.reduceSub, Int.reduceEq, h0, h21, h22, h23, h24, hs1, hs2], by simp -dsimp -implicitDefEqProofs only [go_sem, Nat.reduceBEq, Nat.reduceAdd, Nat.reduceLeDiff, Nat.reduceSub, Int.reduceEq, h0, h21, h22, h23, h24, hs1, hs2], by simp -dsimp -implicitDefEqProofs only [go_sem, Nat.reduceBEq, Nat.reduceAdd, Nat.reduceLeDiff, Nat.reduceSub, Int.reduceEq, h0, h21, h22, h23, h24, hs1, hs2] <;> rfl, by simp -dsimp -implicitDefEqProofs only [go_sem, Nat.reduceBEq, Nat.reduceAdd, Nat.reduceLeDiff, Nat.reduceSub, Int.reduceEq, h0, h21, h22, h23, h24, hs1, hs2] <;> rfl, by simp -dsimp -implicitDefEqProofs only [go_sem, Nat.reduceBEq, Nat.reduceAdd, Nat.reduceLeDiff, Nat.reduceSub, Int.reduceEq, h0, h21, h22, h23, h24, hs1, hs2], by simp -dsimp -implicitDefEqProofs only [go_sem, Nat.reduceBEq, Nat.reduceAdd, Nat.reduceLeDiff, Nat.reduceSub, Int.reduceEq, h0, h21, h22, h23, h24, hs1, hs2]⟩ ?_
      clear h0 h21 h22 h23 h24 hs1 hs2
      rintro j ⟨e, σ⟩ hj ⟨h0, h21, h22, h23, h24, hs1, hs2⟩ K2 hK2
      simp only at h0 h21 h22 h23 h24 hs1 hs2
      have ej : (((bs + j : Nat) : Nat) : Int).tmod 8 = (((bs + j) % 8 : Nat) : Int) := rfl
      simp -dsimp -implicitDefEqProofs only [go_sem, Nat.reduceBEq, Nat.reduceAdd, Nat.reduceLeDiff, Nat.reduceSub, Int.reduceEq, h0, h21, h22, h23, h24, hs1, hs2, ej]
      refine ifB'.of (fun hne => ?_) (fun hne => ?_)
      · have hjl : j = padN bs := by omega
        subst hjl
        clear hK2
        simp -dsimp -implicitDefEqProofs only [go_sem, Nat.reduceBEq, Nat.reduceAdd, Nat.reduceLeDiff, Nat.reduceSub, Int.reduceEq, h0, h21, h22, h23, h24, hs1, hs2]
        refine hK _ hlt ?_
        simp -dsimp -implicitDefEqProofs only [go_sem, Nat.reduceBEq, Nat.reduceAdd, Nat.reduceLeDiff, Nat.reduceSub, Int.reduceEq, h0, h21, h22, h23, h24, hs1, hs2, wrap_succ (show i < 4611686018427387904 by omega), hp4]
      · have hjl : j < padN bs := by omega
        have hz : (bytesA (joinA ps))[bs + j]? = some [.v (.int .u8 0)] := by
          show ((joinA ps).map byteC)[bs + j]? = _
          rw [List.getElem?_map, hp3 j hjl]; rfl
        simp -dsimp -implicitDefEqProofs only [go_sem, Nat.reduceBEq, Nat.reduceAdd, Nat.reduceLeDiff, Nat.reduceSub, Int.reduceEq, h0, h21, h22, h23, h24, hs1, hs2]
        refine ifB'.of (fun hbad => absurd hbad (by omega)) (fun _ => ?_)
        repeat (first | with_reducible refine ask.of (by first | omega | decide) ?_ | simp -dsimp -implicitDefEqProofs only [go_sem, Nat.reduceBEq, Nat.reduceAdd, Nat.reduceLeDiff, Nat.reduceSub, Int.reduceEq, h0, h21, h22, h23, h24, hs1, hs2, hz, decide_true, Bool.not_true])
        refine hK2 _ hjl ?_
        simp -dsimp -implicitDefEqProofs only [go_sem, Nat.reduceBEq, Nat.reduceAdd, Nat.reduceLeDiff, Nat.reduceSub, Int.reduceEq, h0, h21, h22, h23, h24, hs1, hs2, wrap_succ (show bs + j < 4611686018427387904 by omega), Nat.add_assoc]
    · have hlt : i = ps.length := by omega
      subst hlt
      clear hK
      simp -dsimp -implicitDefEqProofs only [go_sem, Nat.reduceBEq, Nat.reduceAdd, Nat.reduceLeDiff, Nat.reduceSub, Int.reduceEq, h0, h21, h22, h23, h24, hs1, hs2, List.take_length, decide_true]
end Go.Ev
