/- Contracts: rows of whole numbers out of bytes. -/
import Derived.Test.YtijmbcnhkdhkeaaP5
set_option linter.unusedSimpArgs false
set_option linter.unusedVariables false
namespace Go.Ev
open Go Go.RowKit Go.Proofs
def isW (n : Int) : Bool := decide (n = 1 ∨ n = 2 ∨ n = 4 ∨ n = 8)
theorem isW_nat {n : Int} (h : isW n = true) : ∃ w : Nat, n = w ∧ (w = 1 ∨ w = 2 ∨ w = 4 ∨ w = 8) := by
  have h : n = 1 ∨ n = 2 ∨ n = 4 ∨ n = 8 := by simpa [isW] using h
  exact ⟨n.toNat, by omega, by omega⟩
theorem isW_of {w : Nat} (h : w = 1 ∨ w = 2 ∨ w = 4 ∨ w = 8) : isW w = true := by
  have : (w : Int) = 1 ∨ (w : Int) = 2 ∨ (w : Int) = 4 ∨ (w : Int) = 8 := by omega
  simpa [isW] using this
theorem c_l1width (n : Int) : Meets Try.prog 184 [.v (.int .i64 n)] (fun r => r = .v (.bool (isW n))) := by
  refine Meets.intro mixed (hint []) Try.func184 rfl (by decide) res_184 rty_184 (by kernel_rfl) ?_; 
  by_cases h1 : n = 1
  · simp -dsimp -implicitDefEqProofs only [go_sem, Nat.reduceBEq, Nat.reduceAdd, Nat.reduceLeDiff, Nat.reduceSub, Int.reduceEq, initE, h1, decide_true, decide_false, show isW 1 = true from rfl]
  by_cases h2 : n = 2
  · simp -dsimp -implicitDefEqProofs only [go_sem, Nat.reduceBEq, Nat.reduceAdd, Nat.reduceLeDiff, Nat.reduceSub, Int.reduceEq, initE, h1, h2, decide_true, decide_false, show isW 2 = true from rfl, show ¬ (2 : Int) = 1 by decide]
  by_cases h4 : n = 4
  · simp -dsimp -implicitDefEqProofs only [go_sem, Nat.reduceBEq, Nat.reduceAdd, Nat.reduceLeDiff, Nat.reduceSub, Int.reduceEq, initE, h1, h2, h4, decide_true, decide_false, show isW 4 = true from rfl, show ¬ (4 : Int) = 1 by decide, show ¬ (4 : Int) = 2 by decide]
  by_cases h8 : n = 8
  · simp -dsimp -implicitDefEqProofs only [go_sem, Nat.reduceBEq, Nat.reduceAdd, Nat.reduceLeDiff, Nat.reduceSub, Int.reduceEq, initE, h1, h2, h4, h8, decide_true, decide_false, show isW 8 = true from rfl, show ¬ (8 : Int) = 1 by decide, show ¬ (8 : Int) = 2 by decide, show ¬ (8 : Int) = 4 by decide]
  have e : isW n = false := by simp [isW, h1, h2, h4, h8]
  simp -dsimp -implicitDefEqProofs only [go_sem, Nat.reduceBEq, Nat.reduceAdd, Nat.reduceLeDiff, Nat.reduceSub, Int.reduceEq, initE, h1, h2, h4, h8, e, decide_true, decide_false]
def chunk (b : List UInt8) (w i : Nat) : List UInt8 := (b.drop (w * i)).take w
theorem chunk_length {b : List UInt8} {w i : Nat} (h : w * i + w ≤ b.length) : (chunk b w i).length = w := by simp [chunk]; omega
theorem spec_chunk (b : List UInt8) (w i : Nat) : (b.take (w * i + w)).drop (w * i) = chunk b w i := by
  rw [List.drop_take, show w * i + w - w * i = w by omega]; rfl
def sval (c : List UInt8) : Int := if 2 * leN c < 256 ^ c.length then (leN c : Int) else (leN c : Int) - (256 ^ c.length : Nat)
def unpackI (b : List UInt8) (w k : Nat) : List Int := (List.range k).map fun i => sval (chunk b w i)
theorem unpackI_length (b : List UInt8) (w k : Nat) : (unpackI b w k).length = k := by simp [unpackI]
theorem unpackI_succ (b : List UInt8) (w k : Nat) : unpackI b w k ++ [sval (chunk b w k)] = unpackI b w (k + 1) := by simp [unpackI, List.range_succ]
def unpackIC (b : List UInt8) (n : Int) : List Int × Nat :=
  if isW n = true then (if b.length % n.toNat = 0 then (unpackI b n.toNat (b.length / n.toNat), 0) else ([], 3)) else ([], 1)
theorem leN_lt : ∀ c : List UInt8, leN c < 256 ^ c.length
  | [] => by simp [leN]
  | c :: cs => by
    have := leN_lt cs
    have := c.toNat_lt
    rw [leN, List.length_cons, Nat.pow_succ]; omega
theorem sval_wrap {c : List UInt8} (h : c.length = 8) : IntKind.i64.wrap (leN c) = sval c := by
  have := leN_lt c
  rw [sval, IntKind.wrap_i64]
  simp only [h] at this ⊢
  split <;> omega
theorem leN_snoc : ∀ (c : List UInt8) (x : UInt8), leN (c ++ [x]) = leN c + 256 ^ c.length * x.toNat
  | [], x => by simp [leN]
  | c :: cs, x => by
    rw [List.cons_append, leN, leN, leN_snoc cs x, List.length_cons, Nat.pow_succ, Nat.mul_add, Nat.mul_comm (256 ^ cs.length) 256, Nat.mul_assoc]; omega
theorem sval_top {c : List UInt8} {w : Nat} (h : c.length = w + 1) : sval c = if 128 ≤ (c[w]'(by omega)).toNat then (leN c : Int) - (256 ^ (w + 1) : Nat) else (leN c : Int) := by
  have e : c = c.take w ++ [c[w]'(by omega)] := by
    rw [List.take_append_getElem, ← h, List.take_length]
  have e2 : leN c = leN (c.take w) + 256 ^ w * (c[w]'(by omega)).toNat := by
    have := leN_snoc (c.take w) (c[w]'(by omega))
    rw [← e, List.length_take, Nat.min_eq_left (by omega)] at this
    exact this
  have h3 := leN_lt (c.take w)
  rw [List.length_take, Nat.min_eq_left (by omega)] at h3
  have e4 : sval c = if 2 * leN c < 256 ^ (w + 1) then (leN c : Int) else (leN c : Int) - (256 ^ (w + 1) : Nat) := by rw [sval, h]
  rw [e4, Nat.pow_succ]
  generalize (c[w]'(by omega)).toNat = t at e2
  generalize 256 ^ w = p at *
  by_cases ht : 128 ≤ t
  · have : p * 128 ≤ p * t := Nat.mul_le_mul_left p ht
    rw [if_pos ht, if_neg (by omega)]
  · have : p * t ≤ p * 127 := Nat.mul_le_mul_left p (by omega)
    rw [if_neg ht, if_pos (by omega)]
theorem chunk_get {b : List UInt8} {w i j : Nat} (h : j < (chunk b w i).length) (h' : w * i + j < b.length) : (chunk b w i)[j] = b[w * i + j] := by simp [chunk]
theorem tmodN (a b : Nat) : (a : Int).tmod b = ((a % b : Nat) : Int) := rfl
theorem sh_w {w : Nat} (h : w = 1 ∨ w = 2 ∨ w = 4) : IntKind.i64.wrap (1 * 2 ^ min (IntKind.u64.wrap (IntKind.i64.wrap (8 * (w : Int)))).toNat 64) = ((256 ^ w : Nat) : Int) := by
  rcases h with rfl | rfl | rfl <;> decide
end Go.Ev
