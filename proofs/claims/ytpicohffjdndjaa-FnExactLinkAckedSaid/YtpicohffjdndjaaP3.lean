/- Contracts: bits out of bytes. -/
import Derived.Test.YtpicohffjdndjaaP1
set_option linter.unusedSimpArgs false
set_option linter.unusedVariables false
namespace Go.Ev
open Go Go.RowKit Go.Proofs
def bitOf (c : UInt8) (k : Nat) : Bool := decide (c.toNat / 2 ^ k % 2 = 1)
def bitB (b : List UInt8) (i : Nat) : Bool := bitOf (b[i / 8]?.getD 0) (i % 8)
def bitsB (b : List UInt8) (n : Nat) : List Bool := (List.range n).map (bitB b)
theorem bitsB_length (b : List UInt8) (n : Nat) : (bitsB b n).length = n := by simp [bitsB]
theorem bitsB_succ (b : List UInt8) (n : Nat) : bitsB b n ++ [bitB b n] = bitsB b (n + 1) := by simp [bitsB, List.range_succ]
def padOk (b : List UInt8) (n : Nat) : Prop := ∀ j, n ≤ j → j < 8 * b.length → bitB b j = false
instance (b : List UInt8) (n : Nat) : Decidable (padOk b n) :=
  if h : ((List.range (8 * b.length)).all fun j => decide (j < n) || !bitB b j) = true then .isTrue (fun j h1 h2 => by
    have := List.all_eq_true.1 h j (List.mem_range.2 h2)
    have h3 : ¬ j < n := by omega
    simpa [h3] using this)
  else .isFalse (fun hp => h (List.all_eq_true.2 fun j hj => by
    by_cases h1 : j < n
    · simp [h1]
    · have := hp j (by omega) (List.mem_range.1 hj)
      simp [this]))
def unpackC (b : List UInt8) (n : Int) : List Bool × Nat :=
  if n < 0 then ([], 1) else if n > 8 * b.length ∨ n ≤ 8 * ((b.length : Int) - 1) then ([], 3) else if padOk b n.toNat then (bitsB b n.toNat, 0) else ([], 3)
theorem u8_shr (c : UInt8) (k : Nat) (hk : k < 8) : (c.toNat : Int).fdiv (2 ^ (min k 8)) = ((c.toNat / 2 ^ k : Nat) : Int) := by
  rw [Nat.min_eq_left (by omega), Int.fdiv_eq_ediv_of_nonneg _ (Int.le_of_lt (Int.pow_pos (by decide))), Int.natCast_ediv]; simp
theorem u8_and1 (n : Nat) (hn : n < 256) : IntKind.u8.wrap (((BitVec.ofInt IntKind.u8.bits (n : Int) &&& BitVec.ofInt IntKind.u8.bits 1).toNat : Nat) : Int) = ((n % 2 : Nat) : Int) := by
  show IntKind.u8.wrap (((BitVec.ofInt 8 (n : Int) &&& BitVec.ofInt 8 1).toNat : Nat) : Int) = _
  have e : BitVec.ofInt 8 (n : Int) &&& BitVec.ofInt 8 1 = BitVec.ofNat 8 (n % 2) := by
    apply BitVec.eq_of_toNat_eq
    simp [Nat.mod_eq_of_lt hn, Nat.and_one_is_mod]
    omega
  rw [e, wrap_u8]
  simp only [BitVec.toNat_ofNat]
  omega
theorem bit_eq (c : UInt8) (k : Nat) : decide (((c.toNat / 2 ^ k % 2 : Nat) : Int) = 1) = bitOf c k := by
  unfold bitOf
  congr 1
  exact propext ⟨fun h => by omega, fun h => by omega⟩
theorem bit_eq' {b : List UInt8} {i : Nat} (h : i / 8 < b.length) : decide (((b[i / 8].toNat / 2 ^ (i % 8) % 2 : Nat) : Int) = 1) = bitB b i := by rw [bit_eq]; simp [bitB, h]
theorem tmod8' (n : Nat) : (n : Int).tmod 8 = ((n % 8 : Nat) : Int) := rfl
theorem tmod2' (n : Nat) : (n : Int).tmod 2 = ((n % 2 : Nat) : Int) := rfl
theorem bitB_at {b : List UInt8} {i : Nat} (h : i / 8 < b.length) : bitB b i = bitOf b[i / 8] (i % 8) := by simp [bitB, h]
theorem tdiv8 {i : Nat} (hi : i < 4611686018427387904) : IntKind.i64.wrap ((i : Int).tdiv 8) = ((i / 8 : Nat) : Int) := by rw [Int.tdiv_eq_ediv_of_nonneg (by omega), wrap_i64_of (by omega) (by omega)]; omega
theorem wrap_u64 {n : Nat} (h : n < 18446744073709551616) : IntKind.u64.wrap (n : Int) = (n : Int) := by
  simp [IntKind.wrap, IntKind.bits, IntKind.signed]; omega
theorem c_specUnpackBits (b : List UInt8) (n : Int) (hb : b.length ≤ 1048576) (hn : -9223372036854775808 ≤ n) (hn' : n ≤ 9223372036854775807) : Meets Try.prog 42 [rowB b, .v (.int .i64 n)] (fun r => r = .tup [rowO (unpackC b n).1, .v (.int .i64 (unpackC b n).2)]) := by
  have e8 : IntKind.i64.wrap (8 * (b.length : Int)) = ((8 * b.length : Nat) : Int) := by rw [wrap_i64_of (by omega) (by omega)]; omega
  have e9 : IntKind.i64.wrap ((b.length : Int) - 1) = (b.length : Int) - 1 := wrap_i64_of (by omega) (by omega)
  have e10 : IntKind.i64.wrap (8 * ((b.length : Int) - 1)) = 8 * ((b.length : Int) - 1) := wrap_i64_of (by omega) (by omega)
  refine Meets.intro mixed (hint [(6, 149)]) Try.func42 rfl (by decide) res_42 rty_42 (by kernel_rfl) ?_; 
  simp -dsimp -implicitDefEqProofs only [go_sem, Nat.reduceBEq, Nat.reduceAdd, Nat.reduceLeDiff, Nat.reduceSub, Int.reduceEq]
  refine ifB'.of (fun h => ?_) (fun h => ?_)
  · simp -dsimp -implicitDefEqProofs only [go_sem, Nat.reduceBEq, Nat.reduceAdd, Nat.reduceLeDiff, Nat.reduceSub, Int.reduceEq]
    rw [unpackC, if_pos h]; rfl
  simp -dsimp -implicitDefEqProofs only [go_sem, Nat.reduceBEq, Nat.reduceAdd, Nat.reduceLeDiff, Nat.reduceSub, Int.reduceEq, e8]
  have fin3 : n > 8 * b.length ∨ n ≤ 8 * ((b.length : Int) - 1) → unpackC b n = ([], 3) := fun h2 => by rw [unpackC, if_neg h, if_pos h2]
  refine ifB'.of (fun h2 => ?_) (fun h2 => ?_)
  · simp -dsimp -implicitDefEqProofs only [go_sem, Nat.reduceBEq, Nat.reduceAdd, Nat.reduceLeDiff, Nat.reduceSub, Int.reduceEq, fin3 (.inl (by omega))]
    rfl
  simp -dsimp -implicitDefEqProofs only [go_sem, Nat.reduceBEq, Nat.reduceAdd, Nat.reduceLeDiff, Nat.reduceSub, Int.reduceEq, e8, e9, e10]
  refine ifB'.of (fun h3 => ?_) (fun h3 => ?_)
  · simp -dsimp -implicitDefEqProofs only [go_sem, Nat.reduceBEq, Nat.reduceAdd, Nat.reduceLeDiff, Nat.reduceSub, Int.reduceEq, fin3 (.inr (by omega))]
    rfl
  simp -dsimp -implicitDefEqProofs only [go_sem, Nat.reduceBEq, Nat.reduceAdd, Nat.reduceLeDiff, Nat.reduceSub, Int.reduceEq, e8]
  have fin : unpackC b n = if padOk b n.toNat then (bitsB b n.toNat, 0) else ([], 3) := by rw [unpackC, if_neg h, if_neg (by omega)]
  obtain ⟨m, rfl⟩ : ∃ m : Nat, n = m := ⟨n.toNat, by omega⟩
  rw [Int.toNat_natCast] at fin
  refine LoopE.cnt (8 * b.length) (fun i s => s.env 0 = .rd .ent 5 1 (bytesA b) ∧ s.env 1 = .v (.int .i64 m) ∧ s.env 7 = .v (.int .i64 i) ∧ s.env 6 = .ref [6] ∧ s.σ [6] = some (.row 4 1 (ra boolC (bitsB b (min i m)))) ∧ (∀ j, m ≤ j → j < i → bitB b j = false)) ⟨by simp -dsimp -implicitDefEqProofs only [go_sem, Nat.reduceBEq, Nat.reduceAdd, Nat.reduceLeDiff, Nat.reduceSub, Int.reduceEq, initE], by simp -dsimp -implicitDefEqProofs only [go_sem, Nat.reduceBEq, Nat.reduceAdd, Nat.reduceLeDiff, Nat.reduceSub, Int.reduceEq, initE], by simp -dsimp -implicitDefEqProofs only [go_sem, Nat.reduceBEq, Nat.reduceAdd, Nat.reduceLeDiff, Nat.reduceSub, Int.reduceEq], by simp -dsimp -implicitDefEqProofs only [go_sem, Nat.reduceBEq, Nat.reduceAdd, Nat.reduceLeDiff, Nat.reduceSub, Int.reduceEq], by simp -dsimp -implicitDefEqProofs only [go_sem, Nat.reduceBEq, Nat.reduceAdd, Nat.reduceLeDiff, Nat.reduceSub, Int.reduceEq] <;> simp [bitsB] <;> rfl, fun j h1 h2 => by omega⟩ ?_
  rintro i ⟨e, σ⟩ hi ⟨h0, h1, h7, h6, hs, hz⟩ K hK
  simp only at h0 h1 h7 h6 hs
  simp -dsimp -implicitDefEqProofs only [go_sem, Nat.reduceBEq, Nat.reduceAdd, Nat.reduceLeDiff, Nat.reduceSub, Int.reduceEq, h0, h1, h7, h6, hs, e8]
  refine ifB'.of (fun hlt => ?_) (fun hlt => ?_)
  · have hlt : i < 8 * b.length := by omega
    have hd : i / 8 < b.length := by omega
    have e7 : i % 8 < 8 := by omega
    simp -dsimp -implicitDefEqProofs only [go_sem, Nat.reduceBEq, Nat.reduceAdd, Nat.reduceLeDiff, Nat.reduceSub, Int.reduceEq, h0, h1, h7, h6, hs, tdiv8 (show i < 4611686018427387904 by omega), bytesA_at hd, tmod8', wrap_u64 (show i % 8 < 18446744073709551616 by omega), Int.toNat_natCast, u8_shr (b[i / 8]'hd) (i % 8) e7, tmod2', bit_eq' hd]
    repeat with_reducible refine ask.of (by omega) ?_
    refine ifB'.of (fun hin => ?_) (fun hin => ?_)
    · have hin : i < m := by omega
      have e1 : min i m = i := by omega
      have e2 : min (i + 1) m = i + 1 := by omega
      simp -dsimp -implicitDefEqProofs only [go_sem, Nat.reduceBEq, Nat.reduceAdd, Nat.reduceLeDiff, Nat.reduceSub, Int.reduceEq, h0, h1, h7, h6, hs, e1, bitsB_length]
      repeat with_reducible refine ask.of (by omega) ?_
      refine hK _ hlt ?_
      simp -dsimp -implicitDefEqProofs only [go_sem, Nat.reduceBEq, Nat.reduceAdd, Nat.reduceLeDiff, Nat.reduceSub, Int.reduceEq, h0, h1, h7, h6, hs, wrap_succ (show i < 4611686018427387904 by omega), bitsB_succ, e1, e2]
      exact fun j h1 h2 => by omega
    · simp -dsimp -implicitDefEqProofs only [go_sem, Nat.reduceBEq, Nat.reduceAdd, Nat.reduceLeDiff, Nat.reduceSub, Int.reduceEq, h0, h1, h7, h6, hs]
      cases hbit : bitB b i
      · simp -dsimp -implicitDefEqProofs only [go_sem, Nat.reduceBEq, Nat.reduceAdd, Nat.reduceLeDiff, Nat.reduceSub, Int.reduceEq, h0, h1, h7, h6, hs, hbit]
        refine hK _ hlt ?_
        have e1 : min i m = m := by omega
        have e2 : min (i + 1) m = m := by omega
        simp -dsimp -implicitDefEqProofs only [go_sem, Nat.reduceBEq, Nat.reduceAdd, Nat.reduceLeDiff, Nat.reduceSub, Int.reduceEq, h0, h1, h7, h6, hs, wrap_succ (show i < 4611686018427387904 by omega), e1, e2]
        exact fun j h1 h2 => by
          rcases Nat.lt_or_ge j i with h3 | h3
          · exact hz j h1 h3
          · obtain rfl : j = i := by omega
            exact hbit
      · simp -dsimp -implicitDefEqProofs only [go_sem, Nat.reduceBEq, Nat.reduceAdd, Nat.reduceLeDiff, Nat.reduceSub, Int.reduceEq, h0, h1, h7, h6, hs, hbit]
        rw [fin, if_neg (fun hp => by have := hp i (by omega) hlt; rw [hbit] at this; cases this)]
        rfl
  · have : i = 8 * b.length := by omega
    subst this
    have hm : min (8 * b.length) m = m := by omega
    have hpad : padOk b m := fun j h1 h2 => hz j h1 h2
    simp -dsimp -implicitDefEqProofs only [go_sem, Nat.reduceBEq, Nat.reduceAdd, Nat.reduceLeDiff, Nat.reduceSub, Int.reduceEq, h0, h1, h7, h6, hs, fin, if_pos hpad, hm]
end Go.Ev
