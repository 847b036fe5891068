/- Contracts: bytes out of rows of whole numbers, the program's own way. -/
import Derived.Test.YtijmbcnhkdhkeaaP8
set_option linter.unusedSimpArgs false
set_option linter.unusedVariables false
namespace Go.Ev
open Go Go.RowKit Go.Proofs
theorem shr_byte (x : Int) (j : Nat) : (x / 256 ^ j).fdiv (2 ^ min (Int.toNat 8) 64) = x / 256 ^ (j + 1) := by
  have e : (2 : Int) ^ min (Int.toNat 8) 64 = 256 := rfl
  rw [e, Int.fdiv_eq_ediv_of_nonneg _ (by decide), Int.pow_succ, Int.ediv_ediv_of_nonneg (Int.le_of_lt (Int.pow_pos (by decide)))]
theorem u8_byte (x : Int) {j : Nat} (hj : j < 8) : IntKind.u8.wrap (x / 256 ^ j) = ((UInt8.ofNat (uN x / 256 ^ j % 256)).toNat : Int) := by
  have e : IntKind.u8.wrap (x / 256 ^ j) = x / 256 ^ j % 256 := by
    simp [IntKind.wrap, IntKind.bits, IntKind.signed]
  have e2 : ((UInt8.ofNat (uN x / 256 ^ j % 256)).toNat : Int) = ((uN x / 256 ^ j % 256 : Nat) : Int) := by simp
  rw [e, e2, uN]
  match j, hj with
  | 0, _ => simp only [Nat.pow_zero, Int.pow_zero, Nat.div_one, Int.ediv_one]; omega
  | 1, _ => simp only [Nat.reducePow, Int.reducePow]; omega
  | 2, _ => simp only [Nat.reducePow, Int.reducePow]; omega
  | 3, _ => simp only [Nat.reducePow, Int.reducePow]; omega
  | 4, _ => simp only [Nat.reducePow, Int.reducePow]; omega
  | 5, _ => simp only [Nat.reducePow, Int.reducePow]; omega
  | 6, _ => simp only [Nat.reducePow, Int.reducePow]; omega
  | 7, _ => simp only [Nat.reducePow, Int.reducePow]; omega
theorem back_i8 {x : Int} (hx : -9223372036854775808 ≤ x ∧ x ≤ 9223372036854775807) : decide (IntKind.i64.wrap (IntKind.i8.wrap x) = x) = fitsB 1 x := by
  have e0 : -128 ≤ IntKind.i8.wrap x ∧ IntKind.i8.wrap x ≤ 127 ∧ (IntKind.i8.wrap x = x ↔ -128 ≤ x ∧ x ≤ 127) := by
    simp [IntKind.wrap, IntKind.bits, IntKind.signed]
    split <;> omega
  rw [wrap_i64_of (by omega) (by omega)]
  unfold fitsB
  refine decide_eq_decide.2 ?_
  rw [e0.2.2]
  simp
  omega
theorem back_i16 {x : Int} (hx : -9223372036854775808 ≤ x ∧ x ≤ 9223372036854775807) : decide (IntKind.i64.wrap (IntKind.i16.wrap x) = x) = fitsB 2 x := by
  have e0 : -32768 ≤ IntKind.i16.wrap x ∧ IntKind.i16.wrap x ≤ 32767 ∧ (IntKind.i16.wrap x = x ↔ -32768 ≤ x ∧ x ≤ 32767) := by
    simp [IntKind.wrap, IntKind.bits, IntKind.signed]
    split <;> omega
  rw [wrap_i64_of (by omega) (by omega)]
  unfold fitsB
  refine decide_eq_decide.2 ?_
  rw [e0.2.2]
  simp
  omega
theorem back_i32 {x : Int} (hx : -9223372036854775808 ≤ x ∧ x ≤ 9223372036854775807) : decide (IntKind.i64.wrap (IntKind.i32.wrap x) = x) = fitsB 4 x := by
  have e0 : -2147483648 ≤ IntKind.i32.wrap x ∧ IntKind.i32.wrap x ≤ 2147483647 ∧ (IntKind.i32.wrap x = x ↔ -2147483648 ≤ x ∧ x ≤ 2147483647) := by
    simp [IntKind.wrap, IntKind.bits, IntKind.signed]
    split <;> omega
  rw [wrap_i64_of (by omega) (by omega)]
  unfold fitsB
  refine decide_eq_decide.2 ?_
  rw [e0.2.2]
  simp
  omega
theorem c_packed_i8 (xs : List Int) (hx : xs.length ≤ 1048576) (hr : ∀ x ∈ xs, -9223372036854775808 ≤ x ∧ x ≤ 9223372036854775807) : Meets Try.prog 204 [rowI xs, .v (.int .i64 1)] (fun r => r = .tup [rowB (packIC xs 1).1, .v (.int .i64 (packIC xs 1).2)]) := by
  have hw : isW 1 = true := rfl
  have fin := packIC.eq_1 xs 1
  rw [if_pos hw, show (1 : Int).toNat = 1 from rfl] at fin
  have em : IntKind.i64.wrap ((xs.length : Int) * 1) = ((1 * xs.length : Nat) : Int) := by rw [wrap_i64_of (by omega) (by omega)]; omega
  refine Meets.intro mixed (hint []) Try.func204 rfl (by decide) res_204 rty_204 (by kernel_rfl) ?_; 
  simp -dsimp -implicitDefEqProofs only [go_sem, Nat.reduceBEq, Nat.reduceAdd, Nat.reduceLeDiff, Nat.reduceSub, Int.reduceEq, em]
  repeat with_reducible refine ask.of (by omega) ?_
  refine LoopE.cnt xs.length (fun i s => s.env 15 = .rd .ent 3 1 (ra intC xs) ∧ s.env 1 = .v (.int .i64 1) ∧ s.env 16 = .v (.int .i64 xs.length) ∧ s.env 17 = .v (.int .i64 i) ∧ s.env 6 = .ref [14] ∧ s.σ [14] = some (.row 5 1 (bytesA (packI (xs.take i) 1))) ∧ (xs.take i).all (fitsB 1) = true) ⟨by simp -dsimp -implicitDefEqProofs only [go_sem, Nat.reduceBEq, Nat.reduceAdd, Nat.reduceLeDiff, Nat.reduceSub, Int.reduceEq, initE], by simp -dsimp -implicitDefEqProofs only [go_sem, Nat.reduceBEq, Nat.reduceAdd, Nat.reduceLeDiff, Nat.reduceSub, Int.reduceEq, initE], by simp -dsimp -implicitDefEqProofs only [go_sem, Nat.reduceBEq, Nat.reduceAdd, Nat.reduceLeDiff, Nat.reduceSub, Int.reduceEq], by simp -dsimp -implicitDefEqProofs only [go_sem, Nat.reduceBEq, Nat.reduceAdd, Nat.reduceLeDiff, Nat.reduceSub, Int.reduceEq] <;> simp, by simp -dsimp -implicitDefEqProofs only [go_sem, Nat.reduceBEq, Nat.reduceAdd, Nat.reduceLeDiff, Nat.reduceSub, Int.reduceEq], by simp -dsimp -implicitDefEqProofs only [go_sem, Nat.reduceBEq, Nat.reduceAdd, Nat.reduceLeDiff, Nat.reduceSub, Int.reduceEq]; rfl, by simp⟩ ?_
  rintro i ⟨e, σ⟩ hi ⟨h15, h1, h16, h17, h6, hs, hz⟩ K hK
  simp only at h15 h1 h16 h17 h6 hs
  simp -dsimp -implicitDefEqProofs only [go_sem, Nat.reduceBEq, Nat.reduceAdd, Nat.reduceLeDiff, Nat.reduceSub, Int.reduceEq, h15, h1, h16, h17, h6, hs]
  refine ifB'.of (fun hlt => ?_) (fun hlt => ?_)
  · have hlt : i < xs.length := by omega
    have hv := hr xs[i] (List.getElem_mem hlt)
    have hd : decide (IntKind.i64.wrap (IntKind.i8.wrap xs[i]) = xs[i]) = fitsB 1 xs[i] := back_i8 hv
    simp -dsimp -implicitDefEqProofs only [go_sem, Nat.reduceBEq, Nat.reduceAdd, Nat.reduceLeDiff, Nat.reduceSub, Int.reduceEq, h15, h1, h16, h17, h6, hs, intA_at hlt, hd]
    repeat with_reducible refine ask.of (by omega) ?_
    cases hf : fitsB 1 xs[i]
    · simp -dsimp -implicitDefEqProofs only [go_sem, Nat.reduceBEq, Nat.reduceAdd, Nat.reduceLeDiff, Nat.reduceSub, Int.reduceEq, h15, h1, h16, h17, h6, hs, hf]
      rw [fin, all_not 1 hlt hf]; rfl
    simp -dsimp -implicitDefEqProofs only [go_sem, Nat.reduceBEq, Nat.reduceAdd, Nat.reduceLeDiff, Nat.reduceSub, Int.reduceEq, h15, h1, h16, h17, h6, hs, hf]
    refine LoopE.cnt 1 (fun j s => s.env 15 = .rd .ent 3 1 (ra intC xs) ∧ s.env 1 = .v (.int .i64 1) ∧ s.env 16 = .v (.int .i64 xs.length) ∧ s.env 17 = .v (.int .i64 i) ∧ s.env 27 = .v (.int .i64 1) ∧ s.env 28 = .v (.int .i64 j) ∧ s.env 8 = .v (.int .i64 (xs[i] / 256 ^ j)) ∧ s.env 6 = .ref [14] ∧ s.σ [14] = some (.row 5 1 (bytesA (packI (xs.take i) 1 ++ leB j xs[i])))) ⟨by simp -dsimp -implicitDefEqProofs only [go_sem, Nat.reduceBEq, Nat.reduceAdd, Nat.reduceLeDiff, Nat.reduceSub, Int.reduceEq, h15, h1, h16, h17, h6, hs], by simp -dsimp -implicitDefEqProofs only [go_sem, Nat.reduceBEq, Nat.reduceAdd, Nat.reduceLeDiff, Nat.reduceSub, Int.reduceEq, h15, h1, h16, h17, h6, hs], by simp -dsimp -implicitDefEqProofs only [go_sem, Nat.reduceBEq, Nat.reduceAdd, Nat.reduceLeDiff, Nat.reduceSub, Int.reduceEq, h15, h1, h16, h17, h6, hs], by simp -dsimp -implicitDefEqProofs only [go_sem, Nat.reduceBEq, Nat.reduceAdd, Nat.reduceLeDiff, Nat.reduceSub, Int.reduceEq, h15, h1, h16, h17, h6, hs], by simp -dsimp -implicitDefEqProofs only [go_sem, Nat.reduceBEq, Nat.reduceAdd, Nat.reduceLeDiff, Nat.reduceSub, Int.reduceEq, h15, h1, h16, h17, h6, hs], by simp -dsimp -implicitDefEqProofs only [go_sem, Nat.reduceBEq, Nat.reduceAdd, Nat.reduceLeDiff, Nat.reduceSub, Int.reduceEq, h15, h1, h16, h17, h6, hs] <;> simp, by simp -dsimp -implicitDefEqProofs only [go_sem, Nat.reduceBEq, Nat.reduceAdd, Nat.reduceLeDiff, Nat.reduceSub, Int.reduceEq, h15, h1, h16, h17, h6, hs] <;> simp, by simp -dsimp -implicitDefEqProofs only [go_sem, Nat.reduceBEq, Nat.reduceAdd, Nat.reduceLeDiff, Nat.reduceSub, Int.reduceEq, h15, h1, h16, h17, h6, hs], by simp -dsimp -implicitDefEqProofs only [go_sem, Nat.reduceBEq, Nat.reduceAdd, Nat.reduceLeDiff, Nat.reduceSub, Int.reduceEq, h15, h1, h16, h17, h6, hs] <;> simp [leB]⟩ ?_
    rintro j ⟨e, σ⟩ hj ⟨h15, h1, h16, h17, ha, hb, h8, h6, hs⟩ K' hK'
    simp only at h15 h1 h16 h17 ha hb h8 h6 hs
    simp -dsimp -implicitDefEqProofs only [go_sem, Nat.reduceBEq, Nat.reduceAdd, Nat.reduceLeDiff, Nat.reduceSub, Int.reduceEq, h15, h1, h16, h17, ha, hb, h8, h6, hs]
    refine ifB'.of (fun hjt => ?_) (fun hjt => ?_)
    · have hjt : j < 1 := by omega
      simp -dsimp -implicitDefEqProofs only [go_sem, Nat.reduceBEq, Nat.reduceAdd, Nat.reduceLeDiff, Nat.reduceSub, Int.reduceEq, h15, h1, h16, h17, ha, hb, h8, h6, hs, u8_byte xs[i] (show j < 8 by omega), List.length_append, packI_length, leB_length, List.length_take, Nat.min_eq_left hi]
      repeat with_reducible refine ask.of (by omega) ?_
      refine hK' _ hjt ?_
      simp -dsimp -implicitDefEqProofs only [go_sem, Nat.reduceBEq, Nat.reduceAdd, Nat.reduceLeDiff, Nat.reduceSub, Int.reduceEq, h15, h1, h16, h17, ha, hb, h8, h6, hs, wrap_succ (show j < 4611686018427387904 by omega), shr_byte, List.append_assoc, leB_succ]
    · obtain rfl : j = 1 := by omega
      simp -dsimp -implicitDefEqProofs only [go_sem, Nat.reduceBEq, Nat.reduceAdd, Nat.reduceLeDiff, Nat.reduceSub, Int.reduceEq, h15, h1, h16, h17, ha, hb, h8, h6, hs]
      refine hK _ hlt ?_
      simp -dsimp -implicitDefEqProofs only [go_sem, Nat.reduceBEq, Nat.reduceAdd, Nat.reduceLeDiff, Nat.reduceSub, Int.reduceEq, h15, h1, h16, h17, ha, hb, h8, h6, hs, wrap_succ (show i < 4611686018427387904 by omega), packI_succ 1 hlt, all_succ 1 hlt hz hf]
  · obtain rfl : i = xs.length := by omega
    rw [List.take_length] at hz hs
    rw [if_pos hz] at fin
    simp -dsimp -implicitDefEqProofs only [go_sem, Nat.reduceBEq, Nat.reduceAdd, Nat.reduceLeDiff, Nat.reduceSub, Int.reduceEq, h15, h1, h16, h17, h6, hs, fin]
theorem c_packed_i16 (xs : List Int) (hx : xs.length ≤ 1048576) (hr : ∀ x ∈ xs, -9223372036854775808 ≤ x ∧ x ≤ 9223372036854775807) : Meets Try.prog 205 [rowI xs, .v (.int .i64 2)] (fun r => r = .tup [rowB (packIC xs 2).1, .v (.int .i64 (packIC xs 2).2)]) := by
  have hw : isW 2 = true := rfl
  have fin := packIC.eq_1 xs 2
  rw [if_pos hw, show (2 : Int).toNat = 2 from rfl] at fin
  have em : IntKind.i64.wrap ((xs.length : Int) * 2) = ((2 * xs.length : Nat) : Int) := by rw [wrap_i64_of (by omega) (by omega)]; omega
  refine Meets.intro mixed (hint []) Try.func205 rfl (by decide) res_205 rty_205 (by kernel_rfl) ?_; 
  simp -dsimp -implicitDefEqProofs only [go_sem, Nat.reduceBEq, Nat.reduceAdd, Nat.reduceLeDiff, Nat.reduceSub, Int.reduceEq, em]
  repeat with_reducible refine ask.of (by omega) ?_
  refine LoopE.cnt xs.length (fun i s => s.env 15 = .rd .ent 3 1 (ra intC xs) ∧ s.env 1 = .v (.int .i64 2) ∧ s.env 16 = .v (.int .i64 xs.length) ∧ s.env 17 = .v (.int .i64 i) ∧ s.env 6 = .ref [14] ∧ s.σ [14] = some (.row 5 1 (bytesA (packI (xs.take i) 2))) ∧ (xs.take i).all (fitsB 2) = true) ⟨by simp -dsimp -implicitDefEqProofs only [go_sem, Nat.reduceBEq, Nat.reduceAdd, Nat.reduceLeDiff, Nat.reduceSub, Int.reduceEq, initE], by simp -dsimp -implicitDefEqProofs only [go_sem, Nat.reduceBEq, Nat.reduceAdd, Nat.reduceLeDiff, Nat.reduceSub, Int.reduceEq, initE], by simp -dsimp -implicitDefEqProofs only [go_sem, Nat.reduceBEq, Nat.reduceAdd, Nat.reduceLeDiff, Nat.reduceSub, Int.reduceEq], by simp -dsimp -implicitDefEqProofs only [go_sem, Nat.reduceBEq, Nat.reduceAdd, Nat.reduceLeDiff, Nat.reduceSub, Int.reduceEq] <;> simp, by simp -dsimp -implicitDefEqProofs only [go_sem, Nat.reduceBEq, Nat.reduceAdd, Nat.reduceLeDiff, Nat.reduceSub, Int.reduceEq], by simp -dsimp -implicitDefEqProofs only [go_sem, Nat.reduceBEq, Nat.reduceAdd, Nat.reduceLeDiff, Nat.reduceSub, Int.reduceEq]; rfl, by simp⟩ ?_
  rintro i ⟨e, σ⟩ hi ⟨h15, h1, h16, h17, h6, hs, hz⟩ K hK
  simp only at h15 h1 h16 h17 h6 hs
  simp -dsimp -implicitDefEqProofs only [go_sem, Nat.reduceBEq, Nat.reduceAdd, Nat.reduceLeDiff, Nat.reduceSub, Int.reduceEq, h15, h1, h16, h17, h6, hs]
  refine ifB'.of (fun hlt => ?_) (fun hlt => ?_)
  · have hlt : i < xs.length := by omega
    have hv := hr xs[i] (List.getElem_mem hlt)
    have hd : decide (IntKind.i64.wrap (IntKind.i16.wrap xs[i]) = xs[i]) = fitsB 2 xs[i] := back_i16 hv
    simp -dsimp -implicitDefEqProofs only [go_sem, Nat.reduceBEq, Nat.reduceAdd, Nat.reduceLeDiff, Nat.reduceSub, Int.reduceEq, h15, h1, h16, h17, h6, hs, intA_at hlt, hd]
    repeat with_reducible refine ask.of (by omega) ?_
    cases hf : fitsB 2 xs[i]
    · simp -dsimp -implicitDefEqProofs only [go_sem, Nat.reduceBEq, Nat.reduceAdd, Nat.reduceLeDiff, Nat.reduceSub, Int.reduceEq, h15, h1, h16, h17, h6, hs, hf]
      rw [fin, all_not 2 hlt hf]; rfl
    simp -dsimp -implicitDefEqProofs only [go_sem, Nat.reduceBEq, Nat.reduceAdd, Nat.reduceLeDiff, Nat.reduceSub, Int.reduceEq, h15, h1, h16, h17, h6, hs, hf]
    refine LoopE.cnt 2 (fun j s => s.env 15 = .rd .ent 3 1 (ra intC xs) ∧ s.env 1 = .v (.int .i64 2) ∧ s.env 16 = .v (.int .i64 xs.length) ∧ s.env 17 = .v (.int .i64 i) ∧ s.env 27 = .v (.int .i64 2) ∧ s.env 28 = .v (.int .i64 j) ∧ s.env 8 = .v (.int .i64 (xs[i] / 256 ^ j)) ∧ s.env 6 = .ref [14] ∧ s.σ [14] = some (.row 5 1 (bytesA (packI (xs.take i) 2 ++ leB j xs[i])))) ⟨by simp -dsimp -implicitDefEqProofs only [go_sem, Nat.reduceBEq, Nat.reduceAdd, Nat.reduceLeDiff, Nat.reduceSub, Int.reduceEq, h15, h1, h16, h17, h6, hs], by simp -dsimp -implicitDefEqProofs only [go_sem, Nat.reduceBEq, Nat.reduceAdd, Nat.reduceLeDiff, Nat.reduceSub, Int.reduceEq, h15, h1, h16, h17, h6, hs], by simp -dsimp -implicitDefEqProofs only [go_sem, Nat.reduceBEq, Nat.reduceAdd, Nat.reduceLeDiff, Nat.reduceSub, Int.reduceEq, h15, h1, h16, h17, h6, hs], by simp -dsimp -implicitDefEqProofs only [go_sem, Nat.reduceBEq, Nat.reduceAdd, Nat.reduceLeDiff, Nat.reduceSub, Int.reduceEq, h15, h1, h16, h17, h6, hs], by simp -dsimp -implicitDefEqProofs only [go_sem, Nat.reduceBEq, Nat.reduceAdd, Nat.reduceLeDiff, Nat.reduceSub, Int.reduceEq, h15, h1, h16, h17, h6, hs], by simp -dsimp -implicitDefEqProofs only [go_sem, Nat.reduceBEq, Nat.reduceAdd, Nat.reduceLeDiff, Nat.reduceSub, Int.reduceEq, h15, h1, h16, h17, h6, hs] <;> simp, by simp -dsimp -implicitDefEqProofs only [go_sem, Nat.reduceBEq, Nat.reduceAdd, Nat.reduceLeDiff, Nat.reduceSub, Int.reduceEq, h15, h1, h16, h17, h6, hs] <;> simp, by simp -dsimp -implicitDefEqProofs only [go_sem, Nat.reduceBEq, Nat.reduceAdd, Nat.reduceLeDiff, Nat.reduceSub, Int.reduceEq, h15, h1, h16, h17, h6, hs], by simp -dsimp -implicitDefEqProofs only [go_sem, Nat.reduceBEq, Nat.reduceAdd, Nat.reduceLeDiff, Nat.reduceSub, Int.reduceEq, h15, h1, h16, h17, h6, hs] <;> simp [leB]⟩ ?_
    rintro j ⟨e, σ⟩ hj ⟨h15, h1, h16, h17, ha, hb, h8, h6, hs⟩ K' hK'
    simp only at h15 h1 h16 h17 ha hb h8 h6 hs
    simp -dsimp -implicitDefEqProofs only [go_sem, Nat.reduceBEq, Nat.reduceAdd, Nat.reduceLeDiff, Nat.reduceSub, Int.reduceEq, h15, h1, h16, h17, ha, hb, h8, h6, hs]
    refine ifB'.of (fun hjt => ?_) (fun hjt => ?_)
    · have hjt : j < 2 := by omega
      simp -dsimp -implicitDefEqProofs only [go_sem, Nat.reduceBEq, Nat.reduceAdd, Nat.reduceLeDiff, Nat.reduceSub, Int.reduceEq, h15, h1, h16, h17, ha, hb, h8, h6, hs, u8_byte xs[i] (show j < 8 by omega), List.length_append, packI_length, leB_length, List.length_take, Nat.min_eq_left hi]
      repeat with_reducible refine ask.of (by omega) ?_
      refine hK' _ hjt ?_
      simp -dsimp -implicitDefEqProofs only [go_sem, Nat.reduceBEq, Nat.reduceAdd, Nat.reduceLeDiff, Nat.reduceSub, Int.reduceEq, h15, h1, h16, h17, ha, hb, h8, h6, hs, wrap_succ (show j < 4611686018427387904 by omega), shr_byte, List.append_assoc, leB_succ]
    · obtain rfl : j = 2 := by omega
      simp -dsimp -implicitDefEqProofs only [go_sem, Nat.reduceBEq, Nat.reduceAdd, Nat.reduceLeDiff, Nat.reduceSub, Int.reduceEq, h15, h1, h16, h17, ha, hb, h8, h6, hs]
      refine hK _ hlt ?_
      simp -dsimp -implicitDefEqProofs only [go_sem, Nat.reduceBEq, Nat.reduceAdd, Nat.reduceLeDiff, Nat.reduceSub, Int.reduceEq, h15, h1, h16, h17, ha, hb, h8, h6, hs, wrap_succ (show i < 4611686018427387904 by omega), packI_succ 2 hlt, all_succ 2 hlt hz hf]
  · obtain rfl : i = xs.length := by omega
    rw [List.take_length] at hz hs
    rw [if_pos hz] at fin
    simp -dsimp -implicitDefEqProofs only [go_sem, Nat.reduceBEq, Nat.reduceAdd, Nat.reduceLeDiff, Nat.reduceSub, Int.reduceEq, h15, h1, h16, h17, h6, hs, fin]
theorem c_packed_i32 (xs : List Int) (hx : xs.length ≤ 1048576) (hr : ∀ x ∈ xs, -9223372036854775808 ≤ x ∧ x ≤ 9223372036854775807) : Meets Try.prog 206 [rowI xs, .v (.int .i64 4)] (fun r => r = .tup [rowB (packIC xs 4).1, .v (.int .i64 (packIC xs 4).2)]) := by
  have hw : isW 4 = true := rfl
  have fin := packIC.eq_1 xs 4
  rw [if_pos hw, show (4 : Int).toNat = 4 from rfl] at fin
  have em : IntKind.i64.wrap ((xs.length : Int) * 4) = ((4 * xs.length : Nat) : Int) := by rw [wrap_i64_of (by omega) (by omega)]; omega
  refine Meets.intro mixed (hint []) Try.func206 rfl (by decide) res_206 rty_206 (by kernel_rfl) ?_; 
  simp -dsimp -implicitDefEqProofs only [go_sem, Nat.reduceBEq, Nat.reduceAdd, Nat.reduceLeDiff, Nat.reduceSub, Int.reduceEq, em]
  repeat with_reducible refine ask.of (by omega) ?_
  refine LoopE.cnt xs.length (fun i s => s.env 15 = .rd .ent 3 1 (ra intC xs) ∧ s.env 1 = .v (.int .i64 4) ∧ s.env 16 = .v (.int .i64 xs.length) ∧ s.env 17 = .v (.int .i64 i) ∧ s.env 6 = .ref [14] ∧ s.σ [14] = some (.row 5 1 (bytesA (packI (xs.take i) 4))) ∧ (xs.take i).all (fitsB 4) = true) ⟨by simp -dsimp -implicitDefEqProofs only [go_sem, Nat.reduceBEq, Nat.reduceAdd, Nat.reduceLeDiff, Nat.reduceSub, Int.reduceEq, initE], by simp -dsimp -implicitDefEqProofs only [go_sem, Nat.reduceBEq, Nat.reduceAdd, Nat.reduceLeDiff, Nat.reduceSub, Int.reduceEq, initE], by simp -dsimp -implicitDefEqProofs only [go_sem, Nat.reduceBEq, Nat.reduceAdd, Nat.reduceLeDiff, Nat.reduceSub, Int.reduceEq], by simp -dsimp -implicitDefEqProofs only [go_sem, Nat.reduceBEq, Nat.reduceAdd, Nat.reduceLeDiff, Nat.reduceSub, Int.reduceEq] <;> simp, by simp -dsimp -implicitDefEqProofs only [go_sem, Nat.reduceBEq, Nat.reduceAdd, Nat.reduceLeDiff, Nat.reduceSub, Int.reduceEq], by simp -dsimp -implicitDefEqProofs only [go_sem, Nat.reduceBEq, Nat.reduceAdd, Nat.reduceLeDiff, Nat.reduceSub, Int.reduceEq]; rfl, by simp⟩ ?_
  rintro i ⟨e, σ⟩ hi ⟨h15, h1, h16, h17, h6, hs, hz⟩ K hK
  simp only at h15 h1 h16 h17 h6 hs
  simp -dsimp -implicitDefEqProofs only [go_sem, Nat.reduceBEq, Nat.reduceAdd, Nat.reduceLeDiff, Nat.reduceSub, Int.reduceEq, h15, h1, h16, h17, h6, hs]
  refine ifB'.of (fun hlt => ?_) (fun hlt => ?_)
  · have hlt : i < xs.length := by omega
    have hv := hr xs[i] (List.getElem_mem hlt)
    have hd : decide (IntKind.i64.wrap (IntKind.i32.wrap xs[i]) = xs[i]) = fitsB 4 xs[i] := back_i32 hv
    simp -dsimp -implicitDefEqProofs only [go_sem, Nat.reduceBEq, Nat.reduceAdd, Nat.reduceLeDiff, Nat.reduceSub, Int.reduceEq, h15, h1, h16, h17, h6, hs, intA_at hlt, hd]
    repeat with_reducible refine ask.of (by omega) ?_
    cases hf : fitsB 4 xs[i]
    · simp -dsimp -implicitDefEqProofs only [go_sem, Nat.reduceBEq, Nat.reduceAdd, Nat.reduceLeDiff, Nat.reduceSub, Int.reduceEq, h15, h1, h16, h17, h6, hs, hf]
      rw [fin, all_not 4 hlt hf]; rfl
    simp -dsimp -implicitDefEqProofs only [go_sem, Nat.reduceBEq, Nat.reduceAdd, Nat.reduceLeDiff, Nat.reduceSub, Int.reduceEq, h15, h1, h16, h17, h6, hs, hf]
    refine LoopE.cnt 4 (fun j s => s.env 15 = .rd .ent 3 1 (ra intC xs) ∧ s.env 1 = .v (.int .i64 4) ∧ s.env 16 = .v (.int .i64 xs.length) ∧ s.env 17 = .v (.int .i64 i) ∧ s.env 27 = .v (.int .i64 4) ∧ s.env 28 = .v (.int .i64 j) ∧ s.env 8 = .v (.int .i64 (xs[i] / 256 ^ j)) ∧ s.env 6 = .ref [14] ∧ s.σ [14] = some (.row 5 1 (bytesA (packI (xs.take i) 4 ++ leB j xs[i])))) ⟨by simp -dsimp -implicitDefEqProofs only [go_sem, Nat.reduceBEq, Nat.reduceAdd, Nat.reduceLeDiff, Nat.reduceSub, Int.reduceEq, h15, h1, h16, h17, h6, hs], by simp -dsimp -implicitDefEqProofs only [go_sem, Nat.reduceBEq, Nat.reduceAdd, Nat.reduceLeDiff, Nat.reduceSub, Int.reduceEq, h15, h1, h16, h17, h6, hs], by simp -dsimp -implicitDefEqProofs only [go_sem, Nat.reduceBEq, Nat.reduceAdd, Nat.reduceLeDiff, Nat.reduceSub, Int.reduceEq, h15, h1, h16, h17, h6, hs], by simp -dsimp -implicitDefEqProofs only [go_sem, Nat.reduceBEq, Nat.reduceAdd, Nat.reduceLeDiff, Nat.reduceSub, Int.reduceEq, h15, h1, h16, h17, h6, hs], by simp -dsimp -implicitDefEqProofs only [go_sem, Nat.reduceBEq, Nat.reduceAdd, Nat.reduceLeDiff, Nat.reduceSub, Int.reduceEq, h15, h1, h16, h17, h6, hs], by simp -dsimp -implicitDefEqProofs only [go_sem, Nat.reduceBEq, Nat.reduceAdd, Nat.reduceLeDiff, Nat.reduceSub, Int.reduceEq, h15, h1, h16, h17, h6, hs] <;> simp, by simp -dsimp -implicitDefEqProofs only [go_sem, Nat.reduceBEq, Nat.reduceAdd, Nat.reduceLeDiff, Nat.reduceSub, Int.reduceEq, h15, h1, h16, h17, h6, hs] <;> simp, by simp -dsimp -implicitDefEqProofs only [go_sem, Nat.reduceBEq, Nat.reduceAdd, Nat.reduceLeDiff, Nat.reduceSub, Int.reduceEq, h15, h1, h16, h17, h6, hs], by simp -dsimp -implicitDefEqProofs only [go_sem, Nat.reduceBEq, Nat.reduceAdd, Nat.reduceLeDiff, Nat.reduceSub, Int.reduceEq, h15, h1, h16, h17, h6, hs] <;> simp [leB]⟩ ?_
    rintro j ⟨e, σ⟩ hj ⟨h15, h1, h16, h17, ha, hb, h8, h6, hs⟩ K' hK'
    simp only at h15 h1 h16 h17 ha hb h8 h6 hs
    simp -dsimp -implicitDefEqProofs only [go_sem, Nat.reduceBEq, Nat.reduceAdd, Nat.reduceLeDiff, Nat.reduceSub, Int.reduceEq, h15, h1, h16, h17, ha, hb, h8, h6, hs]
    refine ifB'.of (fun hjt => ?_) (fun hjt => ?_)
    · have hjt : j < 4 := by omega
      simp -dsimp -implicitDefEqProofs only [go_sem, Nat.reduceBEq, Nat.reduceAdd, Nat.reduceLeDiff, Nat.reduceSub, Int.reduceEq, h15, h1, h16, h17, ha, hb, h8, h6, hs, u8_byte xs[i] (show j < 8 by omega), List.length_append, packI_length, leB_length, List.length_take, Nat.min_eq_left hi]
      repeat with_reducible refine ask.of (by omega) ?_
      refine hK' _ hjt ?_
      simp -dsimp -implicitDefEqProofs only [go_sem, Nat.reduceBEq, Nat.reduceAdd, Nat.reduceLeDiff, Nat.reduceSub, Int.reduceEq, h15, h1, h16, h17, ha, hb, h8, h6, hs, wrap_succ (show j < 4611686018427387904 by omega), shr_byte, List.append_assoc, leB_succ]
    · obtain rfl : j = 4 := by omega
      simp -dsimp -implicitDefEqProofs only [go_sem, Nat.reduceBEq, Nat.reduceAdd, Nat.reduceLeDiff, Nat.reduceSub, Int.reduceEq, h15, h1, h16, h17, ha, hb, h8, h6, hs]
      refine hK _ hlt ?_
      simp -dsimp -implicitDefEqProofs only [go_sem, Nat.reduceBEq, Nat.reduceAdd, Nat.reduceLeDiff, Nat.reduceSub, Int.reduceEq, h15, h1, h16, h17, ha, hb, h8, h6, hs, wrap_succ (show i < 4611686018427387904 by omega), packI_succ 4 hlt, all_succ 4 hlt hz hf]
  · obtain rfl : i = xs.length := by omega
    rw [List.take_length] at hz hs
    rw [if_pos hz] at fin
    simp -dsimp -implicitDefEqProofs only [go_sem, Nat.reduceBEq, Nat.reduceAdd, Nat.reduceLeDiff, Nat.reduceSub, Int.reduceEq, h15, h1, h16, h17, h6, hs, fin]
theorem c_packed_i64 (xs : List Int) (hx : xs.length ≤ 1048576) (hr : ∀ x ∈ xs, -9223372036854775808 ≤ x ∧ x ≤ 9223372036854775807) : Meets Try.prog 207 [rowI xs, .v (.int .i64 8)] (fun r => r = .tup [rowB (packIC xs 8).1, .v (.int .i64 (packIC xs 8).2)]) := by
  have hw : isW 8 = true := rfl
  have fin := packIC.eq_1 xs 8
  rw [if_pos hw, show (8 : Int).toNat = 8 from rfl] at fin
  have em : IntKind.i64.wrap ((xs.length : Int) * 8) = ((8 * xs.length : Nat) : Int) := by rw [wrap_i64_of (by omega) (by omega)]; omega
  refine Meets.intro mixed (hint []) Try.func207 rfl (by decide) res_207 rty_207 (by kernel_rfl) ?_; 
  simp -dsimp -implicitDefEqProofs only [go_sem, Nat.reduceBEq, Nat.reduceAdd, Nat.reduceLeDiff, Nat.reduceSub, Int.reduceEq, em]
  repeat with_reducible refine ask.of (by omega) ?_
  refine LoopE.cnt xs.length (fun i s => s.env 15 = .rd .ent 3 1 (ra intC xs) ∧ s.env 1 = .v (.int .i64 8) ∧ s.env 16 = .v (.int .i64 xs.length) ∧ s.env 17 = .v (.int .i64 i) ∧ s.env 6 = .ref [14] ∧ s.σ [14] = some (.row 5 1 (bytesA (packI (xs.take i) 8))) ∧ (xs.take i).all (fitsB 8) = true) ⟨by simp -dsimp -implicitDefEqProofs only [go_sem, Nat.reduceBEq, Nat.reduceAdd, Nat.reduceLeDiff, Nat.reduceSub, Int.reduceEq, initE], by simp -dsimp -implicitDefEqProofs only [go_sem, Nat.reduceBEq, Nat.reduceAdd, Nat.reduceLeDiff, Nat.reduceSub, Int.reduceEq, initE], by simp -dsimp -implicitDefEqProofs only [go_sem, Nat.reduceBEq, Nat.reduceAdd, Nat.reduceLeDiff, Nat.reduceSub, Int.reduceEq], by simp -dsimp -implicitDefEqProofs only [go_sem, Nat.reduceBEq, Nat.reduceAdd, Nat.reduceLeDiff, Nat.reduceSub, Int.reduceEq] <;> simp, by simp -dsimp -implicitDefEqProofs only [go_sem, Nat.reduceBEq, Nat.reduceAdd, Nat.reduceLeDiff, Nat.reduceSub, Int.reduceEq], by simp -dsimp -implicitDefEqProofs only [go_sem, Nat.reduceBEq, Nat.reduceAdd, Nat.reduceLeDiff, Nat.reduceSub, Int.reduceEq]; rfl, by simp⟩ ?_
  rintro i ⟨e, σ⟩ hi ⟨h15, h1, h16, h17, h6, hs, hz⟩ K hK
  simp only at h15 h1 h16 h17 h6 hs
  simp -dsimp -implicitDefEqProofs only [go_sem, Nat.reduceBEq, Nat.reduceAdd, Nat.reduceLeDiff, Nat.reduceSub, Int.reduceEq, h15, h1, h16, h17, h6, hs]
  refine ifB'.of (fun hlt => ?_) (fun hlt => ?_)
  · have hlt : i < xs.length := by omega
    have hv := hr xs[i] (List.getElem_mem hlt)
    have hd : decide (True) = fitsB 8 xs[i] := show decide True = fitsB 8 xs[i] from rfl
    simp -dsimp -implicitDefEqProofs only [go_sem, Nat.reduceBEq, Nat.reduceAdd, Nat.reduceLeDiff, Nat.reduceSub, Int.reduceEq, h15, h1, h16, h17, h6, hs, intA_at hlt, hd]
    repeat with_reducible refine ask.of (by omega) ?_
    cases hf : fitsB 8 xs[i]
    · simp -dsimp -implicitDefEqProofs only [go_sem, Nat.reduceBEq, Nat.reduceAdd, Nat.reduceLeDiff, Nat.reduceSub, Int.reduceEq, h15, h1, h16, h17, h6, hs, hf]
      rw [fin, all_not 8 hlt hf]; rfl
    simp -dsimp -implicitDefEqProofs only [go_sem, Nat.reduceBEq, Nat.reduceAdd, Nat.reduceLeDiff, Nat.reduceSub, Int.reduceEq, h15, h1, h16, h17, h6, hs, hf]
    refine LoopE.cnt 8 (fun j s => s.env 15 = .rd .ent 3 1 (ra intC xs) ∧ s.env 1 = .v (.int .i64 8) ∧ s.env 16 = .v (.int .i64 xs.length) ∧ s.env 17 = .v (.int .i64 i) ∧ s.env 25 = .v (.int .i64 8) ∧ s.env 26 = .v (.int .i64 j) ∧ s.env 8 = .v (.int .i64 (xs[i] / 256 ^ j)) ∧ s.env 6 = .ref [14] ∧ s.σ [14] = some (.row 5 1 (bytesA (packI (xs.take i) 8 ++ leB j xs[i])))) ⟨by simp -dsimp -implicitDefEqProofs only [go_sem, Nat.reduceBEq, Nat.reduceAdd, Nat.reduceLeDiff, Nat.reduceSub, Int.reduceEq, h15, h1, h16, h17, h6, hs], by simp -dsimp -implicitDefEqProofs only [go_sem, Nat.reduceBEq, Nat.reduceAdd, Nat.reduceLeDiff, Nat.reduceSub, Int.reduceEq, h15, h1, h16, h17, h6, hs], by simp -dsimp -implicitDefEqProofs only [go_sem, Nat.reduceBEq, Nat.reduceAdd, Nat.reduceLeDiff, Nat.reduceSub, Int.reduceEq, h15, h1, h16, h17, h6, hs], by simp -dsimp -implicitDefEqProofs only [go_sem, Nat.reduceBEq, Nat.reduceAdd, Nat.reduceLeDiff, Nat.reduceSub, Int.reduceEq, h15, h1, h16, h17, h6, hs], by simp -dsimp -implicitDefEqProofs only [go_sem, Nat.reduceBEq, Nat.reduceAdd, Nat.reduceLeDiff, Nat.reduceSub, Int.reduceEq, h15, h1, h16, h17, h6, hs], by simp -dsimp -implicitDefEqProofs only [go_sem, Nat.reduceBEq, Nat.reduceAdd, Nat.reduceLeDiff, Nat.reduceSub, Int.reduceEq, h15, h1, h16, h17, h6, hs] <;> simp, by simp -dsimp -implicitDefEqProofs only [go_sem, Nat.reduceBEq, Nat.reduceAdd, Nat.reduceLeDiff, Nat.reduceSub, Int.reduceEq, h15, h1, h16, h17, h6, hs] <;> simp, by simp -dsimp -implicitDefEqProofs only [go_sem, Nat.reduceBEq, Nat.reduceAdd, Nat.reduceLeDiff, Nat.reduceSub, Int.reduceEq, h15, h1, h16, h17, h6, hs], by simp -dsimp -implicitDefEqProofs only [go_sem, Nat.reduceBEq, Nat.reduceAdd, Nat.reduceLeDiff, Nat.reduceSub, Int.reduceEq, h15, h1, h16, h17, h6, hs] <;> simp [leB]⟩ ?_
    rintro j ⟨e, σ⟩ hj ⟨h15, h1, h16, h17, ha, hb, h8, h6, hs⟩ K' hK'
    simp only at h15 h1 h16 h17 ha hb h8 h6 hs
    simp -dsimp -implicitDefEqProofs only [go_sem, Nat.reduceBEq, Nat.reduceAdd, Nat.reduceLeDiff, Nat.reduceSub, Int.reduceEq, h15, h1, h16, h17, ha, hb, h8, h6, hs]
    refine ifB'.of (fun hjt => ?_) (fun hjt => ?_)
    · have hjt : j < 8 := by omega
      simp -dsimp -implicitDefEqProofs only [go_sem, Nat.reduceBEq, Nat.reduceAdd, Nat.reduceLeDiff, Nat.reduceSub, Int.reduceEq, h15, h1, h16, h17, ha, hb, h8, h6, hs, u8_byte xs[i] (show j < 8 by omega), List.length_append, packI_length, leB_length, List.length_take, Nat.min_eq_left hi]
      repeat with_reducible refine ask.of (by omega) ?_
      refine hK' _ hjt ?_
      simp -dsimp -implicitDefEqProofs only [go_sem, Nat.reduceBEq, Nat.reduceAdd, Nat.reduceLeDiff, Nat.reduceSub, Int.reduceEq, h15, h1, h16, h17, ha, hb, h8, h6, hs, wrap_succ (show j < 4611686018427387904 by omega), shr_byte, List.append_assoc, leB_succ]
    · obtain rfl : j = 8 := by omega
      simp -dsimp -implicitDefEqProofs only [go_sem, Nat.reduceBEq, Nat.reduceAdd, Nat.reduceLeDiff, Nat.reduceSub, Int.reduceEq, h15, h1, h16, h17, ha, hb, h8, h6, hs]
      refine hK _ hlt ?_
      simp -dsimp -implicitDefEqProofs only [go_sem, Nat.reduceBEq, Nat.reduceAdd, Nat.reduceLeDiff, Nat.reduceSub, Int.reduceEq, h15, h1, h16, h17, ha, hb, h8, h6, hs, wrap_succ (show i < 4611686018427387904 by omega), packI_succ 8 hlt, all_succ 8 hlt hz hf]
  · obtain rfl : i = xs.length := by omega
    rw [List.take_length] at hz hs
    rw [if_pos hz] at fin
    simp -dsimp -implicitDefEqProofs only [go_sem, Nat.reduceBEq, Nat.reduceAdd, Nat.reduceLeDiff, Nat.reduceSub, Int.reduceEq, h15, h1, h16, h17, h6, hs, fin]
theorem c_implPackInts (xs : List Int) (n : Int) (hx : xs.length ≤ 1048576) (hr : ∀ x ∈ xs, -9223372036854775808 ≤ x ∧ x ≤ 9223372036854775807) : Meets Try.prog 176 [rowI xs, .v (.int .i64 n)] (fun r => r = .tup [rowB (packIC xs n).1, .v (.int .i64 (packIC xs n).2)]) := by
  refine Meets.intro mixed (hint []) Try.func176 rfl (by decide) res_176 rty_176 (by kernel_rfl) ?_; 
  simp -dsimp -implicitDefEqProofs only [go_sem, Nat.reduceBEq, Nat.reduceAdd, Nat.reduceLeDiff, Nat.reduceSub, Int.reduceEq]
  refine ifB'.of (fun h1 => ?_) (fun h1 => ?_)
  · subst h1
    simp -dsimp -implicitDefEqProofs only [go_sem, Nat.reduceBEq, Nat.reduceAdd, Nat.reduceLeDiff, Nat.reduceSub, Int.reduceEq]
    refine CallE.of (c_packed_i8 xs hx hr) (by rintro r rfl; (repeat' first | exact trivial | exact pure_rowB _ | exact pure_rowO _ | exact pure_rowI _ | exact pure_rowBB _ | exact pure_rowPk _ _ | exact pure_rowSn _ _ | exact pure_rowFd _ _ | exact pure_rowBBB _ | exact pure_rowCl _ _ | refine And.intro ?_ ?_)) (by simp -dsimp -implicitDefEqProofs only [go_sem, Nat.reduceBEq, Nat.reduceAdd, Nat.reduceLeDiff, Nat.reduceSub, Int.reduceEq]) ?_
    rintro r rfl
    simp -dsimp -implicitDefEqProofs only [go_sem, Nat.reduceBEq, Nat.reduceAdd, Nat.reduceLeDiff, Nat.reduceSub, Int.reduceEq]
  simp -dsimp -implicitDefEqProofs only [go_sem, Nat.reduceBEq, Nat.reduceAdd, Nat.reduceLeDiff, Nat.reduceSub, Int.reduceEq]
  refine ifB'.of (fun h2 => ?_) (fun h2 => ?_)
  · subst h2
    simp -dsimp -implicitDefEqProofs only [go_sem, Nat.reduceBEq, Nat.reduceAdd, Nat.reduceLeDiff, Nat.reduceSub, Int.reduceEq]
    refine CallE.of (c_packed_i16 xs hx hr) (by rintro r rfl; (repeat' first | exact trivial | exact pure_rowB _ | exact pure_rowO _ | exact pure_rowI _ | exact pure_rowBB _ | exact pure_rowPk _ _ | exact pure_rowSn _ _ | exact pure_rowFd _ _ | exact pure_rowBBB _ | exact pure_rowCl _ _ | refine And.intro ?_ ?_)) (by simp -dsimp -implicitDefEqProofs only [go_sem, Nat.reduceBEq, Nat.reduceAdd, Nat.reduceLeDiff, Nat.reduceSub, Int.reduceEq]) ?_
    rintro r rfl
    simp -dsimp -implicitDefEqProofs only [go_sem, Nat.reduceBEq, Nat.reduceAdd, Nat.reduceLeDiff, Nat.reduceSub, Int.reduceEq]
  simp -dsimp -implicitDefEqProofs only [go_sem, Nat.reduceBEq, Nat.reduceAdd, Nat.reduceLeDiff, Nat.reduceSub, Int.reduceEq]
  refine ifB'.of (fun h4 => ?_) (fun h4 => ?_)
  · subst h4
    simp -dsimp -implicitDefEqProofs only [go_sem, Nat.reduceBEq, Nat.reduceAdd, Nat.reduceLeDiff, Nat.reduceSub, Int.reduceEq]
    refine CallE.of (c_packed_i32 xs hx hr) (by rintro r rfl; (repeat' first | exact trivial | exact pure_rowB _ | exact pure_rowO _ | exact pure_rowI _ | exact pure_rowBB _ | exact pure_rowPk _ _ | exact pure_rowSn _ _ | exact pure_rowFd _ _ | exact pure_rowBBB _ | exact pure_rowCl _ _ | refine And.intro ?_ ?_)) (by simp -dsimp -implicitDefEqProofs only [go_sem, Nat.reduceBEq, Nat.reduceAdd, Nat.reduceLeDiff, Nat.reduceSub, Int.reduceEq]) ?_
    rintro r rfl
    simp -dsimp -implicitDefEqProofs only [go_sem, Nat.reduceBEq, Nat.reduceAdd, Nat.reduceLeDiff, Nat.reduceSub, Int.reduceEq]
  simp -dsimp -implicitDefEqProofs only [go_sem, Nat.reduceBEq, Nat.reduceAdd, Nat.reduceLeDiff, Nat.reduceSub, Int.reduceEq]
  refine ifB'.of (fun h8 => ?_) (fun h8 => ?_)
  · subst h8
    simp -dsimp -implicitDefEqProofs only [go_sem, Nat.reduceBEq, Nat.reduceAdd, Nat.reduceLeDiff, Nat.reduceSub, Int.reduceEq]
    refine CallE.of (c_packed_i64 xs hx hr) (by rintro r rfl; (repeat' first | exact trivial | exact pure_rowB _ | exact pure_rowO _ | exact pure_rowI _ | exact pure_rowBB _ | exact pure_rowPk _ _ | exact pure_rowSn _ _ | exact pure_rowFd _ _ | exact pure_rowBBB _ | exact pure_rowCl _ _ | refine And.intro ?_ ?_)) (by simp -dsimp -implicitDefEqProofs only [go_sem, Nat.reduceBEq, Nat.reduceAdd, Nat.reduceLeDiff, Nat.reduceSub, Int.reduceEq]) ?_
    rintro r rfl
    simp -dsimp -implicitDefEqProofs only [go_sem, Nat.reduceBEq, Nat.reduceAdd, Nat.reduceLeDiff, Nat.reduceSub, Int.reduceEq]
  simp -dsimp -implicitDefEqProofs only [go_sem, Nat.reduceBEq, Nat.reduceAdd, Nat.reduceLeDiff, Nat.reduceSub, Int.reduceEq]
  rw [packIC, if_neg (by simp [isW, h1, h2, h4, h8])]
  rfl
end Go.Ev
