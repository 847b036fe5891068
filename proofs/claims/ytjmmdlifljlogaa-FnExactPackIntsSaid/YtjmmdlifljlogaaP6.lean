/- Contracts: rows of whole numbers out of bytes. -/
import Derived.Test.YtjmmdlifljlogaaP5
set_option linter.unusedSimpArgs false
set_option linter.unusedVariables false
namespace Go.Ev
open Go Go.RowKit Go.Proofs
def isW (n : Int) : Bool := decide (n = 1 ∨ n = 2 ∨ n = 4 ∨ n = 8)
theorem isW_nat {n : Int} (h : isW n = true) : ∃ w : Nat, n = w ∧ (w = 1 ∨ w = 2 ∨ w = 4 ∨ w = 8) := by
  have h : n = 1 ∨ n = 2 ∨ n = 4 ∨ n = 8 := by simpa [isW] using h
  exact ⟨n.toNat, by omega, by omega⟩
theorem isW_of {w : Nat} (h : w = 1 ∨ w = 2 ∨ w = 4 ∨ w = 8) : isW w = true := by
  have : (w : Int) = 1 ∨ (w : Int) = 2 ∨ (w : Int) = 4 ∨ (w : Int) = 8 := by omega
  simpa [isW] using this
theorem c_l1width (n : Int) : Meets Try.prog 67 [.v (.int .i64 n)] (fun r => r = .v (.bool (isW n))) := by
  refine Meets.intro mixed (hint []) Try.func67 rfl (by decide) res_67 rty_67 (by kernel_rfl) ?_; 
  by_cases h1 : n = 1
  · simp -dsimp -implicitDefEqProofs only [go_sem, Nat.reduceBEq, Nat.reduceAdd, Nat.reduceLeDiff, Nat.reduceSub, Int.reduceEq, initE, h1, decide_true, decide_false, show isW 1 = true from rfl]
  by_cases h2 : n = 2
  · simp -dsimp -implicitDefEqProofs only [go_sem, Nat.reduceBEq, Nat.reduceAdd, Nat.reduceLeDiff, Nat.reduceSub, Int.reduceEq, initE, h1, h2, decide_true, decide_false, show isW 2 = true from rfl, show ¬ (2 : Int) = 1 by decide]
  by_cases h4 : n = 4
  · simp -dsimp -implicitDefEqProofs only [go_sem, Nat.reduceBEq, Nat.reduceAdd, Nat.reduceLeDiff, Nat.reduceSub, Int.reduceEq, initE, h1, h2, h4, decide_true, decide_false, show isW 4 = true from rfl, show ¬ (4 : Int) = 1 by decide, show ¬ (4 : Int) = 2 by decide]
  by_cases h8 : n = 8
  · simp -dsimp -implicitDefEqProofs only [go_sem, Nat.reduceBEq, Nat.reduceAdd, Nat.reduceLeDiff, Nat.reduceSub, Int.reduceEq, initE, h1, h2, h4, h8, decide_true, decide_false, show isW 8 = true from rfl, show ¬ (8 : Int) = 1 by decide, show ¬ (8 : Int) = 2 by decide, show ¬ (8 : Int) = 4 by decide]
  have e : isW n = false := by simp [isW, h1, h2, h4, h8]
  simp -dsimp -implicitDefEqProofs only [go_sem, Nat.reduceBEq, Nat.reduceAdd, Nat.reduceLeDiff, Nat.reduceSub, Int.reduceEq, initE, h1, h2, h4, h8, e, decide_true, decide_false]
def chunk (b : List UInt8) (w i : Nat) : List UInt8 := (b.drop (w * i)).take w
theorem chunk_length {b : List UInt8} {w i : Nat} (h : w * i + w ≤ b.length) : (chunk b w i).length = w := by simp [chunk]; omega
theorem spec_chunk (b : List UInt8) (w i : Nat) : (b.take (w * i + w)).drop (w * i) = chunk b w i := by
  rw [List.drop_take, show w * i + w - w * i = w by omega]; rfl
def sval (c : List UInt8) : Int := if 2 * leN c < 256 ^ c.length then (leN c : Int) else (leN c : Int) - (256 ^ c.length : Nat)
def unpackI (b : List UInt8) (w k : Nat) : List Int := (List.range k).map fun i => sval (chunk b w i)
theorem unpackI_length (b : List UInt8) (w k : Nat) : (unpackI b w k).length = k := by simp [unpackI]
theorem unpackI_succ (b : List UInt8) (w k : Nat) : unpackI b w k ++ [sval (chunk b w k)] = unpackI b w (k + 1) := by simp [unpackI, List.range_succ]
def unpackIC (b : List UInt8) (n : Int) : List Int × Nat :=
  if isW n = true then (if b.length % n.toNat = 0 then (unpackI b n.toNat (b.length / n.toNat), 0) else ([], 3)) else ([], 1)
theorem leN_lt : ∀ c : List UInt8, leN c < 256 ^ c.length
  | [] => by simp [leN]
  | c :: cs => by
    have := leN_lt cs
    have := c.toNat_lt
    rw [leN, List.length_cons, Nat.pow_succ]; omega
theorem sval_wrap {c : List UInt8} (h : c.length = 8) : IntKind.i64.wrap (leN c) = sval c := by
  have := leN_lt c
  rw [sval, IntKind.wrap_i64]
  simp only [h] at this ⊢
  split <;> omega
theorem leN_snoc : ∀ (c : List UInt8) (x : UInt8), leN (c ++ [x]) = leN c + 256 ^ c.length * x.toNat
  | [], x => by simp [leN]
  | c :: cs, x => by
    rw [List.cons_append, leN, leN, leN_snoc cs x, List.length_cons, Nat.pow_succ, Nat.mul_add, Nat.mul_comm (256 ^ cs.length) 256, Nat.mul_assoc]; omega
theorem sval_top {c : List UInt8} {w : Nat} (h : c.length = w + 1) : sval c = if 128 ≤ (c[w]'(by omega)).toNat then (leN c : Int) - (256 ^ (w + 1) : Nat) else (leN c : Int) := by
  have e : c = c.take w ++ [c[w]'(by omega)] := by
    rw [List.take_append_getElem, ← h, List.take_length]
  have e2 : leN c = leN (c.take w) + 256 ^ w * (c[w]'(by omega)).toNat := by
    have := leN_snoc (c.take w) (c[w]'(by omega))
    rw [← e, List.length_take, Nat.min_eq_left (by omega)] at this
    exact this
  have h3 := leN_lt (c.take w)
  rw [List.length_take, Nat.min_eq_left (by omega)] at h3
  have e4 : sval c = if 2 * leN c < 256 ^ (w + 1) then (leN c : Int) else (leN c : Int) - (256 ^ (w + 1) : Nat) := by rw [sval, h]
  rw [e4, Nat.pow_succ]
  generalize (c[w]'(by omega)).toNat = t at e2
  generalize 256 ^ w = p at *
  by_cases ht : 128 ≤ t
  · have : p * 128 ≤ p * t := Nat.mul_le_mul_left p ht
    rw [if_pos ht, if_neg (by omega)]
  · have : p * t ≤ p * 127 := Nat.mul_le_mul_left p (by omega)
    rw [if_neg ht, if_pos (by omega)]
theorem chunk_get {b : List UInt8} {w i j : Nat} (h : j < (chunk b w i).length) (h' : w * i + j < b.length) : (chunk b w i)[j] = b[w * i + j] := by simp [chunk]
theorem tmodN (a b : Nat) : (a : Int).tmod b = ((a % b : Nat) : Int) := rfl
theorem sh_w {w : Nat} (h : w = 1 ∨ w = 2 ∨ w = 4) : IntKind.i64.wrap (1 * 2 ^ min (IntKind.u64.wrap (IntKind.i64.wrap (8 * (w : Int)))).toNat 64) = ((256 ^ w : Nat) : Int) := by
  rcases h with rfl | rfl | rfl <;> decide
theorem c_specUnpackInts (b : List UInt8) (n : Int) (hb : b.length ≤ 1048576) : Meets Try.prog 37 [rowB b, .v (.int .i64 n)] (fun r => r = .tup [rowI (unpackIC b n).1, .v (.int .i64 (unpackIC b n).2)]) := by
  refine Meets.intro mixed (hint [(6, 145)]) Try.func37 rfl (by decide) res_37 rty_37 (by kernel_rfl) ?_; 
  simp -dsimp -implicitDefEqProofs only [go_sem, Nat.reduceBEq, Nat.reduceAdd, Nat.reduceLeDiff, Nat.reduceSub, Int.reduceEq]
  refine CallE.of (c_l1width n) (by rintro r rfl; (repeat' first | exact trivial | exact pure_rowB _ | exact pure_rowO _ | exact pure_rowI _ | exact pure_rowBB _ | refine And.intro ?_ ?_)) (by simp -dsimp -implicitDefEqProofs only [go_sem, Nat.reduceBEq, Nat.reduceAdd, Nat.reduceLeDiff, Nat.reduceSub, Int.reduceEq]) ?_
  rintro r rfl
  simp -dsimp -implicitDefEqProofs only [go_sem, Nat.reduceBEq, Nat.reduceAdd, Nat.reduceLeDiff, Nat.reduceSub, Int.reduceEq]
  cases hw : isW n
  · simp -dsimp -implicitDefEqProofs only [go_sem, Nat.reduceBEq, Nat.reduceAdd, Nat.reduceLeDiff, Nat.reduceSub, Int.reduceEq, hw, Bool.not_false]
    rw [unpackIC, hw]; rfl
  obtain ⟨w, rfl, hW⟩ := isW_nat hw
  have fin := unpackIC.eq_1 b w
  rw [if_pos hw, Int.toNat_natCast] at fin
  simp -dsimp -implicitDefEqProofs only [go_sem, Nat.reduceBEq, Nat.reduceAdd, Nat.reduceLeDiff, Nat.reduceSub, Int.reduceEq, hw, Bool.not_true, tmodN]
  refine ask.of (by omega) ?_
  refine ifB'.of (fun hr => ?_) (fun hr => ?_)
  rotate_left
  · simp -dsimp -implicitDefEqProofs only [go_sem, Nat.reduceBEq, Nat.reduceAdd, Nat.reduceLeDiff, Nat.reduceSub, Int.reduceEq]
    rw [fin, if_neg (by omega)]; rfl
  have hk := Nat.mul_div_cancel' (Nat.dvd_of_mod_eq_zero (show b.length % w = 0 by omega))
  have fin : unpackIC b w = (unpackI b w (b.length / w), 0) := by rw [fin, if_pos (by omega)]
  generalize b.length / w = k at hk fin
  simp -dsimp -implicitDefEqProofs only [go_sem, Nat.reduceBEq, Nat.reduceAdd, Nat.reduceLeDiff, Nat.reduceSub, Int.reduceEq]
  refine LoopE.cnt k (fun i s => s.env 0 = .rd .ent 5 1 (bytesA b) ∧ s.env 1 = .v (.int .i64 w) ∧ s.env 7 = .v (.int .i64 ((w * i : Nat) : Int)) ∧ s.env 6 = .ref [6] ∧ s.σ [6] = some (.row 3 1 (ra intC (unpackI b w i)))) ⟨by simp -dsimp -implicitDefEqProofs only [go_sem, Nat.reduceBEq, Nat.reduceAdd, Nat.reduceLeDiff, Nat.reduceSub, Int.reduceEq, initE], by simp -dsimp -implicitDefEqProofs only [go_sem, Nat.reduceBEq, Nat.reduceAdd, Nat.reduceLeDiff, Nat.reduceSub, Int.reduceEq, initE], by simp -dsimp -implicitDefEqProofs only [go_sem, Nat.reduceBEq, Nat.reduceAdd, Nat.reduceLeDiff, Nat.reduceSub, Int.reduceEq] <;> simp, by simp -dsimp -implicitDefEqProofs only [go_sem, Nat.reduceBEq, Nat.reduceAdd, Nat.reduceLeDiff, Nat.reduceSub, Int.reduceEq], by simp -dsimp -implicitDefEqProofs only [go_sem, Nat.reduceBEq, Nat.reduceAdd, Nat.reduceLeDiff, Nat.reduceSub, Int.reduceEq]; rfl⟩ ?_
  rintro i ⟨e, σ⟩ hi ⟨h0, h1, h7, h6, hs⟩ K hK
  simp only at h0 h1 h7 h6 hs
  simp -dsimp -implicitDefEqProofs only [go_sem, Nat.reduceBEq, Nat.reduceAdd, Nat.reduceLeDiff, Nat.reduceSub, Int.reduceEq, h0, h1, h7, h6, hs]
  have hN : i < k ↔ w * i < b.length := by rw [← hk]; exact (Nat.mul_lt_mul_left (by omega)).symm
  refine ifB'.of (fun hlt => ?_) (fun hlt => ?_)
  · have hlt : i < k := hN.2 (by omega)
    have hl : w * i + w ≤ b.length := by have := Nat.mul_le_mul_left w (show i + 1 ≤ k from hlt); rw [hk, Nat.mul_add] at this; omega
    have e1 : IntKind.i64.wrap (((w * i : Nat) : Int) + (w : Int)) = ((w * i + w : Nat) : Int) := by rw [wrap_i64_of (by omega) (by omega)]; omega
    have hcl := chunk_length hl
    have hib : i ≤ w * i := Nat.le_mul_of_pos_left i (by omega)
    simp -dsimp -implicitDefEqProofs only [go_sem, Nat.reduceBEq, Nat.reduceAdd, Nat.reduceLeDiff, Nat.reduceSub, Int.reduceEq, h0, h1, h7, h6, hs, e1, bytesA_take, bytesA_drop, spec_chunk]
    repeat with_reducible refine ask.of (by omega) ?_
    refine CallE.of (c_l1number (chunk b w i) (by omega)) (by rintro r rfl; (repeat' first | exact trivial | exact pure_rowB _ | exact pure_rowO _ | exact pure_rowI _ | exact pure_rowBB _ | refine And.intro ?_ ?_)) (by simp -dsimp -implicitDefEqProofs only [go_sem, Nat.reduceBEq, Nat.reduceAdd, Nat.reduceLeDiff, Nat.reduceSub, Int.reduceEq, h0, h1, h7, h6, hs]) ?_
    rintro r rfl
    simp -dsimp -implicitDefEqProofs only [go_sem, Nat.reduceBEq, Nat.reduceAdd, Nat.reduceLeDiff, Nat.reduceSub, Int.reduceEq, h0, h1, h7, h6, hs]
    have e4 : IntKind.i64.wrap (((w * i : Nat) : Int) + (w : Int)) = ((w * (i + 1) : Nat) : Int) := by rw [e1, Nat.mul_add, Nat.mul_one]
    rcases (show w = 8 ∨ (w = 1 ∨ w = 2 ∨ w = 4) by omega) with h8 | h8
    · simp -dsimp -implicitDefEqProofs only [go_sem, Nat.reduceBEq, Nat.reduceAdd, Nat.reduceLeDiff, Nat.reduceSub, Int.reduceEq, h0, h1, h7, h6, hs, show ¬ (w : Int) < 8 by omega, decide_false, unpackI_length]
      repeat with_reducible refine ask.of (by omega) ?_
      refine hK _ hlt ?_
      simp -dsimp -implicitDefEqProofs only [go_sem, Nat.reduceBEq, Nat.reduceAdd, Nat.reduceLeDiff, Nat.reduceSub, Int.reduceEq, h0, h1, h7, h6, hs, e4, sval_wrap (show (chunk b w i).length = 8 by omega), unpackI_succ]
    · have hw7 := leN_lt (chunk b w i)
      rw [hcl] at hw7
      have hw8 : 256 ^ w ≤ 4294967296 := by rcases h8 with rfl | rfl | rfl <;> decide
      have e5 : IntKind.i64.wrap (leN (chunk b w i) : Int) = leN (chunk b w i) := wrap_nat (by omega)
      have e6 : IntKind.i64.wrap (((w * i + w : Nat) : Int) - 1) = ((w * i + (w - 1) : Nat) : Int) := by rw [wrap_i64_of (by omega) (by omega)]; omega
      have hj : w * i + (w - 1) < b.length := by omega
      have ht := sval_top (c := chunk b w i) (w := w - 1) (by omega)
      rw [chunk_get (by omega) hj, show w - 1 + 1 = w by omega] at ht
      simp -dsimp -implicitDefEqProofs only [go_sem, Nat.reduceBEq, Nat.reduceAdd, Nat.reduceLeDiff, Nat.reduceSub, Int.reduceEq, h0, h1, h7, h6, hs, show (w : Int) < 8 by omega, decide_true, e1, e5, e6, bytesA_at hj]
      repeat with_reducible refine ask.of (by omega) ?_
      refine ifB'.of (fun hg => ?_) (fun hg => ?_)
      · simp -dsimp -implicitDefEqProofs only [go_sem, Nat.reduceBEq, Nat.reduceAdd, Nat.reduceLeDiff, Nat.reduceSub, Int.reduceEq, h0, h1, h7, h6, hs, sh_w h8, unpackI_length]
        repeat with_reducible refine ask.of (by omega) ?_
        refine hK _ hlt ?_
        rw [if_pos (by omega)] at ht
        have e9 : IntKind.i64.wrap (sval (chunk b w i)) = sval (chunk b w i) := by rw [ht]; exact wrap_i64_of (by omega) (by omega)
        simp -dsimp -implicitDefEqProofs only [go_sem, Nat.reduceBEq, Nat.reduceAdd, Nat.reduceLeDiff, Nat.reduceSub, Int.reduceEq, h0, h1, h7, h6, hs, e4, ← ht, e9, unpackI_succ]
      · simp -dsimp -implicitDefEqProofs only [go_sem, Nat.reduceBEq, Nat.reduceAdd, Nat.reduceLeDiff, Nat.reduceSub, Int.reduceEq, h0, h1, h7, h6, hs, unpackI_length]
        repeat with_reducible refine ask.of (by omega) ?_
        refine hK _ hlt ?_
        rw [if_neg (by omega)] at ht
        simp -dsimp -implicitDefEqProofs only [go_sem, Nat.reduceBEq, Nat.reduceAdd, Nat.reduceLeDiff, Nat.reduceSub, Int.reduceEq, h0, h1, h7, h6, hs, e4, ← ht, unpackI_succ]
  · obtain rfl : i = k := by omega
    simp -dsimp -implicitDefEqProofs only [go_sem, Nat.reduceBEq, Nat.reduceAdd, Nat.reduceLeDiff, Nat.reduceSub, Int.reduceEq, h0, h1, h7, h6, hs, fin]
end Go.Ev
