/- Contracts: bits out of bytes. -/
import Derived.Test.YtijmbcnhkdhkeaaP1
set_option linter.unusedSimpArgs false
set_option linter.unusedVariables false
namespace Go.Ev
open Go Go.RowKit Go.Proofs
def bitOf (c : UInt8) (k : Nat) : Bool := decide (c.toNat / 2 ^ k % 2 = 1)
def bitB (b : List UInt8) (i : Nat) : Bool := bitOf (b[i / 8]?.getD 0) (i % 8)
def bitsB (b : List UInt8) (n : Nat) : List Bool := (List.range n).map (bitB b)
theorem bitsB_length (b : List UInt8) (n : Nat) : (bitsB b n).length = n := by simp [bitsB]
theorem bitsB_succ (b : List UInt8) (n : Nat) : bitsB b n ++ [bitB b n] = bitsB b (n + 1) := by simp [bitsB, List.range_succ]
def padOk (b : List UInt8) (n : Nat) : Prop := ∀ j, n ≤ j → j < 8 * b.length → bitB b j = false
instance (b : List UInt8) (n : Nat) : Decidable (padOk b n) :=
  if h : ((List.range (8 * b.length)).all fun j => decide (j < n) || !bitB b j) = true then .isTrue (fun j h1 h2 => by
    have := List.all_eq_true.1 h j (List.mem_range.2 h2)
    have h3 : ¬ j < n := by omega
    simpa [h3] using this)
  else .isFalse (fun hp => h (List.all_eq_true.2 fun j hj => by
    by_cases h1 : j < n
    · simp [h1]
    · have := hp j (by omega) (List.mem_range.1 hj)
      simp [this]))
def unpackC (b : List UInt8) (n : Int) : List Bool × Nat :=
  if n < 0 then ([], 1) else if n > 8 * b.length ∨ n ≤ 8 * ((b.length : Int) - 1) then ([], 3) else if padOk b n.toNat then (bitsB b n.toNat, 0) else ([], 3)
theorem u8_shr (c : UInt8) (k : Nat) (hk : k < 8) : (c.toNat : Int).fdiv (2 ^ (min k 8)) = ((c.toNat / 2 ^ k : Nat) : Int) := by
  rw [Nat.min_eq_left (by omega), Int.fdiv_eq_ediv_of_nonneg _ (Int.le_of_lt (Int.pow_pos (by decide))), Int.natCast_ediv]; simp
theorem u8_and1 (n : Nat) (hn : n < 256) : IntKind.u8.wrap (((BitVec.ofInt IntKind.u8.bits (n : Int) &&& BitVec.ofInt IntKind.u8.bits 1).toNat : Nat) : Int) = ((n % 2 : Nat) : Int) := by
  show IntKind.u8.wrap (((BitVec.ofInt 8 (n : Int) &&& BitVec.ofInt 8 1).toNat : Nat) : Int) = _
  have e : BitVec.ofInt 8 (n : Int) &&& BitVec.ofInt 8 1 = BitVec.ofNat 8 (n % 2) := by
    apply BitVec.eq_of_toNat_eq
    simp [Nat.mod_eq_of_lt hn, Nat.and_one_is_mod]
    omega
  rw [e, wrap_u8]
  simp only [BitVec.toNat_ofNat]
  omega
theorem bit_eq (c : UInt8) (k : Nat) : decide (((c.toNat / 2 ^ k % 2 : Nat) : Int) = 1) = bitOf c k := by
  unfold bitOf
  congr 1
  exact propext ⟨fun h => by omega, fun h => by omega⟩
theorem bit_eq' {b : List UInt8} {i : Nat} (h : i / 8 < b.length) : decide (((b[i / 8].toNat / 2 ^ (i % 8) % 2 : Nat) : Int) = 1) = bitB b i := by rw [bit_eq]; simp [bitB, h]
theorem tmod8' (n : Nat) : (n : Int).tmod 8 = ((n % 8 : Nat) : Int) := rfl
theorem tmod2' (n : Nat) : (n : Int).tmod 2 = ((n % 2 : Nat) : Int) := rfl
theorem bitB_at {b : List UInt8} {i : Nat} (h : i / 8 < b.length) : bitB b i = bitOf b[i / 8] (i % 8) := by simp [bitB, h]
theorem tdiv8 {i : Nat} (hi : i < 4611686018427387904) : IntKind.i64.wrap ((i : Int).tdiv 8) = ((i / 8 : Nat) : Int) := by rw [Int.tdiv_eq_ediv_of_nonneg (by omega), wrap_i64_of (by omega) (by omega)]; omega
theorem wrap_u64 {n : Nat} (h : n < 18446744073709551616) : IntKind.u64.wrap (n : Int) = (n : Int) := by
  simp [IntKind.wrap, IntKind.bits, IntKind.signed]; omega
end Go.Ev
