/- Contracts: parts put together, each filled up to a multiple of 8. -/
import Derived.Test.YtpicohffjdndjaaLc
set_option linter.unusedSimpArgs false
set_option linter.unusedVariables false
namespace Go.Ev
open Go Go.RowKit Go.Proofs
def padN (n : Nat) : Nat := (8 - n % 8) % 8
def pad8 (l : List UInt8) : List UInt8 := l ++ List.replicate (padN l.length) 0
def joinA (xs : List (List UInt8)) : List UInt8 := xs.foldl (fun acc p => pad8 (acc ++ p)) []
theorem pad8_length (l : List UInt8) : (pad8 l).length = l.length + padN l.length := by simp [pad8]
theorem padN_lt (n : Nat) : padN n < 8 := Nat.mod_lt _ (by decide)
theorem joinA_take {xs : List (List UInt8)} {i : Nat} (h : i < xs.length) : joinA (xs.take (i + 1)) = pad8 (joinA (xs.take i) ++ xs[i]) := by
  rw [List.take_succ_eq_append_getElem h, joinA, List.foldl_append]; rfl
theorem joinA_le (xs : List (List UInt8)) : ∀ i, i ≤ xs.length → (joinA (xs.take i)).length ≤ szL List.length (xs.take i) + 7 * i
  | 0, _ => by simp [joinA]
  | i + 1, h => by
    have h1 := joinA_le xs i (by omega)
    have h2 := padN_lt ((joinA (xs.take i) ++ xs[i]).length)
    rw [joinA_take (by omega), pad8_length, szL_take_succ _ (by omega)]
    simp only [List.length_append] at h2 ⊢
    omega
theorem tmod8 (n : Nat) : (n : Int).tmod 8 = ((n % 8 : Nat) : Int) := rfl
theorem pad_more {n j : Nat} (h : j ≤ padN n) : (n + j) % 8 = 0 ↔ j = padN n := by unfold padN at *; omega
theorem rep_snoc {α : Type} (l : List α) (j : Nat) (z : α) : (l ++ List.replicate j z) ++ [z] = l ++ List.replicate (j + 1) z := by
  rw [List.append_assoc, ← List.replicate_succ']
theorem bytesA_one0 : [[AV.v (.int .u8 0)]] = bytesA [0] := rfl
theorem c_specJoinAligned (xs : List (List UInt8)) (hx : xs.length + wBB xs ≤ 1048576) : Meets Try.prog 157 [rowBB xs] (fun r => r = rowB (joinA xs)) := by
  refine Meets.intro mixed (hint [(2, 137), (3, 137)]) Try.func157 rfl (by decide) res_157 rty_157 (by kernel_rfl) ?_; 
  simp -dsimp -implicitDefEqProofs only [go_sem, Nat.reduceBEq, Nat.reduceAdd, Nat.reduceLeDiff, Nat.reduceSub, Int.reduceEq]
  repeat with_reducible refine ask.of (by omega) ?_
  refine LoopE.cnt xs.length (fun i s => s.env 0 = .rd .ent 37 1 (ra byC xs) ∧ s.env 0 = .rd .ent 37 1 (ra byC xs) ∧ s.env 4 = .v (.int .i64 i) ∧ s.env 3 = .ref [3] ∧ s.σ [3] = some (.row 5 1 (bytesA (joinA (xs.take i))))) ⟨by simp -dsimp -implicitDefEqProofs only [go_sem, Nat.reduceBEq, Nat.reduceAdd, Nat.reduceLeDiff, Nat.reduceSub, Int.reduceEq, initE], by simp -dsimp -implicitDefEqProofs only [go_sem, Nat.reduceBEq, Nat.reduceAdd, Nat.reduceLeDiff, Nat.reduceSub, Int.reduceEq, initE], by simp -dsimp -implicitDefEqProofs only [go_sem, Nat.reduceBEq, Nat.reduceAdd, Nat.reduceLeDiff, Nat.reduceSub, Int.reduceEq], by simp -dsimp -implicitDefEqProofs only [go_sem, Nat.reduceBEq, Nat.reduceAdd, Nat.reduceLeDiff, Nat.reduceSub, Int.reduceEq], by simp -dsimp -implicitDefEqProofs only [go_sem, Nat.reduceBEq, Nat.reduceAdd, Nat.reduceLeDiff, Nat.reduceSub, Int.reduceEq, List.take_zero] <;> rfl⟩ ?_
  rintro i ⟨e, σ⟩ hi ⟨h0, hl, h4, h3, hs⟩ K hK
  simp only at h0 hl h4 h3 hs
  simp -dsimp -implicitDefEqProofs only [go_sem, Nat.reduceBEq, Nat.reduceAdd, Nat.reduceLeDiff, Nat.reduceSub, Int.reduceEq, h0, hl, h4, h3, hs]
  refine ifB'.of (fun hlt => ?_) (fun hlt => ?_)
  · have hlt : i < xs.length := by omega
    have hj := joinA_le xs i hi
    have hw := szL_at_le List.length hlt
    unfold wBB at hx
    simp -dsimp -implicitDefEqProofs only [go_sem, Nat.reduceBEq, Nat.reduceAdd, Nat.reduceLeDiff, Nat.reduceSub, Int.reduceEq, h0, hl, h4, h3, hs, byA_at hlt, bytesA_append]
    repeat with_reducible refine ask.of (by omega) ?_
    have hp := padN_lt (joinA (xs.take i) ++ xs[i]).length
    have hlen : (joinA (xs.take i) ++ xs[i]).length ≤ 16777216 := by simp only [List.length_append]; omega
    generalize hb : joinA (xs.take i) ++ xs[i] = b at hp hlen
    refine LoopE.cnt (padN b.length) (fun j s => s.env 0 = .rd .ent 37 1 (ra byC xs) ∧ s.env 0 = .rd .ent 37 1 (ra byC xs) ∧ s.env 4 = .v (.int .i64 i) ∧ s.env 3 = .ref [3] ∧ s.σ [3] = some (.row 5 1 (bytesA (b ++ List.replicate j 0)))) ⟨by simp -dsimp -implicitDefEqProofs only [go_sem, Nat.reduceBEq, Nat.reduceAdd, Nat.reduceLeDiff, Nat.reduceSub, Int.reduceEq, h0, hl, h4, h3, hs, hb], by simp -dsimp -implicitDefEqProofs only [go_sem, Nat.reduceBEq, Nat.reduceAdd, Nat.reduceLeDiff, Nat.reduceSub, Int.reduceEq, h0, hl, h4, h3, hs, hb], by simp -dsimp -implicitDefEqProofs only [go_sem, Nat.reduceBEq, Nat.reduceAdd, Nat.reduceLeDiff, Nat.reduceSub, Int.reduceEq, h0, hl, h4, h3, hs, hb], by simp -dsimp -implicitDefEqProofs only [go_sem, Nat.reduceBEq, Nat.reduceAdd, Nat.reduceLeDiff, Nat.reduceSub, Int.reduceEq, h0, hl, h4, h3, hs, hb], by simp -dsimp -implicitDefEqProofs only [go_sem, Nat.reduceBEq, Nat.reduceAdd, Nat.reduceLeDiff, Nat.reduceSub, Int.reduceEq, h0, hl, h4, h3, hs, hb] <;> simp⟩ ?_
    rintro j ⟨e, σ⟩ hj ⟨h0, hl, h4, h3, hs⟩ K' hK'
    simp only at h0 hl h4 h3 hs
    have hlj : (b ++ List.replicate j (0 : UInt8)).length = b.length + j := by simp
    simp -dsimp -implicitDefEqProofs only [go_sem, Nat.reduceBEq, Nat.reduceAdd, Nat.reduceLeDiff, Nat.reduceSub, Int.reduceEq, h0, hl, h4, h3, hs, hlj, tmod8]
    refine ifB'.of (fun hne => ?_) (fun hne => ?_)
    · have := (pad_more hj)
      simp -dsimp -implicitDefEqProofs only [go_sem, Nat.reduceBEq, Nat.reduceAdd, Nat.reduceLeDiff, Nat.reduceSub, Int.reduceEq, h0, hl, h4, h3, hs, Bool.not_true]
      have : j = padN b.length := this.1 (by omega)
      subst this
      refine hK _ hlt ?_
      simp -dsimp -implicitDefEqProofs only [go_sem, Nat.reduceBEq, Nat.reduceAdd, Nat.reduceLeDiff, Nat.reduceSub, Int.reduceEq, h0, hl, h4, h3, hs, wrap_succ (show i < 4611686018427387904 by omega), joinA_take hlt, hb]
      rfl
    · have := (pad_more hj)
      have hjl : j < padN b.length := by omega
      simp -dsimp -implicitDefEqProofs only [go_sem, Nat.reduceBEq, Nat.reduceAdd, Nat.reduceLeDiff, Nat.reduceSub, Int.reduceEq, h0, hl, h4, h3, hs, Bool.not_false, hlj]
      repeat with_reducible refine ask.of (by omega) ?_
      refine hK' _ hjl ?_
      simp -dsimp -implicitDefEqProofs only [go_sem, Nat.reduceBEq, Nat.reduceAdd, Nat.reduceLeDiff, Nat.reduceSub, Int.reduceEq, h0, hl, h4, h3, hs, rep_snoc]
  · have : i = xs.length := by omega
    subst this
    simp -dsimp -implicitDefEqProofs only [go_sem, Nat.reduceBEq, Nat.reduceAdd, Nat.reduceLeDiff, Nat.reduceSub, Int.reduceEq, h0, hl, h4, h3, hs, List.take_length]
theorem c_implJoinAligned (xs : List (List UInt8)) (hx : xs.length + wBB xs ≤ 1048576) : Meets Try.prog 50 [rowBB xs] (fun r => r = rowB (joinA xs)) := by
  refine Meets.intro mixed (hint [(2, 137)]) Try.func50 rfl (by decide) res_50 rty_50 (by kernel_rfl) ?_; 
  simp -dsimp -implicitDefEqProofs only [go_sem, Nat.reduceBEq, Nat.reduceAdd, Nat.reduceLeDiff, Nat.reduceSub, Int.reduceEq]
  repeat with_reducible refine ask.of (by omega) ?_
  refine LoopE.cnt xs.length (fun i s => s.env 7 = .rd .ent 37 1 (ra byC xs) ∧ s.env 8 = .v (.int .i64 xs.length) ∧ s.env 9 = .v (.int .i64 i) ∧ s.env 3 = .ref [6] ∧ s.σ [6] = some (.row 5 1 (bytesA (joinA (xs.take i))))) ⟨by simp -dsimp -implicitDefEqProofs only [go_sem, Nat.reduceBEq, Nat.reduceAdd, Nat.reduceLeDiff, Nat.reduceSub, Int.reduceEq, initE], by simp -dsimp -implicitDefEqProofs only [go_sem, Nat.reduceBEq, Nat.reduceAdd, Nat.reduceLeDiff, Nat.reduceSub, Int.reduceEq, initE], by simp -dsimp -implicitDefEqProofs only [go_sem, Nat.reduceBEq, Nat.reduceAdd, Nat.reduceLeDiff, Nat.reduceSub, Int.reduceEq], by simp -dsimp -implicitDefEqProofs only [go_sem, Nat.reduceBEq, Nat.reduceAdd, Nat.reduceLeDiff, Nat.reduceSub, Int.reduceEq], by simp -dsimp -implicitDefEqProofs only [go_sem, Nat.reduceBEq, Nat.reduceAdd, Nat.reduceLeDiff, Nat.reduceSub, Int.reduceEq, List.take_zero] <;> rfl⟩ ?_
  rintro i ⟨e, σ⟩ hi ⟨h0, hl, h4, h3, hs⟩ K hK
  simp only at h0 hl h4 h3 hs
  simp -dsimp -implicitDefEqProofs only [go_sem, Nat.reduceBEq, Nat.reduceAdd, Nat.reduceLeDiff, Nat.reduceSub, Int.reduceEq, h0, hl, h4, h3, hs]
  refine ifB'.of (fun hlt => ?_) (fun hlt => ?_)
  · have hlt : i < xs.length := by omega
    have hj := joinA_le xs i hi
    have hw := szL_at_le List.length hlt
    unfold wBB at hx
    simp -dsimp -implicitDefEqProofs only [go_sem, Nat.reduceBEq, Nat.reduceAdd, Nat.reduceLeDiff, Nat.reduceSub, Int.reduceEq, h0, hl, h4, h3, hs, byA_at hlt, bytesA_append]
    repeat with_reducible refine ask.of (by omega) ?_
    have hp := padN_lt (joinA (xs.take i) ++ xs[i]).length
    have hlen : (joinA (xs.take i) ++ xs[i]).length ≤ 16777216 := by simp only [List.length_append]; omega
    generalize hb : joinA (xs.take i) ++ xs[i] = b at hp hlen
    refine LoopE.cnt (padN b.length) (fun j s => s.env 7 = .rd .ent 37 1 (ra byC xs) ∧ s.env 8 = .v (.int .i64 xs.length) ∧ s.env 9 = .v (.int .i64 i) ∧ s.env 3 = .ref [6] ∧ s.σ [6] = some (.row 5 1 (bytesA (b ++ List.replicate j 0)))) ⟨by simp -dsimp -implicitDefEqProofs only [go_sem, Nat.reduceBEq, Nat.reduceAdd, Nat.reduceLeDiff, Nat.reduceSub, Int.reduceEq, h0, hl, h4, h3, hs, hb], by simp -dsimp -implicitDefEqProofs only [go_sem, Nat.reduceBEq, Nat.reduceAdd, Nat.reduceLeDiff, Nat.reduceSub, Int.reduceEq, h0, hl, h4, h3, hs, hb], by simp -dsimp -implicitDefEqProofs only [go_sem, Nat.reduceBEq, Nat.reduceAdd, Nat.reduceLeDiff, Nat.reduceSub, Int.reduceEq, h0, hl, h4, h3, hs, hb], by simp -dsimp -implicitDefEqProofs only [go_sem, Nat.reduceBEq, Nat.reduceAdd, Nat.reduceLeDiff, Nat.reduceSub, Int.reduceEq, h0, hl, h4, h3, hs, hb], by simp -dsimp -implicitDefEqProofs only [go_sem, Nat.reduceBEq, Nat.reduceAdd, Nat.reduceLeDiff, Nat.reduceSub, Int.reduceEq, h0, hl, h4, h3, hs, hb] <;> simp⟩ ?_
    rintro j ⟨e, σ⟩ hj ⟨h0, hl, h4, h3, hs⟩ K' hK'
    simp only at h0 hl h4 h3 hs
    have hlj : (b ++ List.replicate j (0 : UInt8)).length = b.length + j := by simp
    simp -dsimp -implicitDefEqProofs only [go_sem, Nat.reduceBEq, Nat.reduceAdd, Nat.reduceLeDiff, Nat.reduceSub, Int.reduceEq, h0, hl, h4, h3, hs, hlj, tmod8]
    refine ifB'.of (fun hne => ?_) (fun hne => ?_)
    · have := (pad_more hj)
      simp -dsimp -implicitDefEqProofs only [go_sem, Nat.reduceBEq, Nat.reduceAdd, Nat.reduceLeDiff, Nat.reduceSub, Int.reduceEq, h0, hl, h4, h3, hs, Bool.not_true]
      have : j = padN b.length := this.1 (by omega)
      subst this
      refine hK _ hlt ?_
      simp -dsimp -implicitDefEqProofs only [go_sem, Nat.reduceBEq, Nat.reduceAdd, Nat.reduceLeDiff, Nat.reduceSub, Int.reduceEq, h0, hl, h4, h3, hs, wrap_succ (show i < 4611686018427387904 by omega), joinA_take hlt, hb]
      rfl
    · have := (pad_more hj)
      have hjl : j < padN b.length := by omega
      simp -dsimp -implicitDefEqProofs only [go_sem, Nat.reduceBEq, Nat.reduceAdd, Nat.reduceLeDiff, Nat.reduceSub, Int.reduceEq, h0, hl, h4, h3, hs, Bool.not_false, hlj]
      repeat with_reducible refine ask.of (by omega) ?_
      refine hK' _ hjl ?_
      simp -dsimp -implicitDefEqProofs only [go_sem, Nat.reduceBEq, Nat.reduceAdd, Nat.reduceLeDiff, Nat.reduceSub, Int.reduceEq, h0, hl, h4, h3, hs, rep_snoc]
  · have : i = xs.length := by omega
    subst this
    simp -dsimp -implicitDefEqProofs only [go_sem, Nat.reduceBEq, Nat.reduceAdd, Nat.reduceLeDiff, Nat.reduceSub, Int.reduceEq, h0, hl, h4, h3, hs, List.take_length]
end Go.Ev
