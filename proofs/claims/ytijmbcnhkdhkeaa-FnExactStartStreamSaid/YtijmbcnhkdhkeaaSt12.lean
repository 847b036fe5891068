/- Part 12 of what the row leans on: the evaluator, words, contracts of functions; pruned by a program of ours. -/
import Derived.Test.YtijmbcnhkdhkeaaSt11
set_option linter.unusedSimpArgs false
set_option linter.unusedVariables false
namespace Go.Ev
open Go Go.RowKit Go.Proofs
def padN (n : Nat) : Nat := (8 - n % 8) % 8
def pad8 (l : List UInt8) : List UInt8 := l ++ List.replicate (padN l.length) 0
def joinA (xs : List (List UInt8)) : List UInt8 := xs.foldl (fun acc p => pad8 (acc ++ p)) []
theorem pad8_length (l : List UInt8) : (pad8 l).length = l.length + padN l.length := by simp [pad8]
theorem padN_lt (n : Nat) : padN n < 8 := Nat.mod_lt _ (by decide)
theorem joinA_take {xs : List (List UInt8)} {i : Nat} (h : i < xs.length) : joinA (xs.take (i + 1)) = pad8 (joinA (xs.take i) ++ xs[i]) := by
  rw [List.take_succ_eq_append_getElem h, joinA, List.foldl_append]; rfl
theorem joinA_le (xs : List (List UInt8)) : ∀ i, i ≤ xs.length → (joinA (xs.take i)).length ≤ szL List.length (xs.take i) + 7 * i
  | 0, _ => by simp [joinA]
  | i + 1, h => by
    have h1 := joinA_le xs i (by omega)
    have h2 := padN_lt ((joinA (xs.take i) ++ xs[i]).length)
    rw [joinA_take (by omega), pad8_length, szL_take_succ _ (by omega)]
    simp only [List.length_append] at h2 ⊢
    omega
theorem tmod8 (n : Nat) : (n : Int).tmod 8 = ((n % 8 : Nat) : Int) := rfl
theorem pad_more {n j : Nat} (h : j ≤ padN n) : (n + j) % 8 = 0 ↔ j = padN n := by unfold padN at *; omega
theorem rep_snoc {α : Type} (l : List α) (j : Nat) (z : α) : (l ++ List.replicate j z) ++ [z] = l ++ List.replicate (j + 1) z := by
  rw [List.append_assoc, ← List.replicate_succ']
theorem c_specJoinAligned (xs : List (List UInt8)) (hx : xs.length + wBB xs ≤ 1048576) : Meets Try.prog 179 [rowBB xs] (fun r => r = rowB (joinA xs)) := by
  refine Meets.intro mixed (hint [(2, 125), (3, 125)]) Try.func179 rfl (by decide) res_179 rty_179 (by kernel_rfl) ?_; 
  simp -dsimp -implicitDefEqProofs only [go_sem, Nat.reduceBEq, Nat.reduceAdd, Nat.reduceLeDiff, Nat.reduceSub, Int.reduceEq]
  repeat with_reducible refine ask.of (by omega) ?_
  refine LoopE.cnt xs.length (fun i s => s.env 0 = .rd .ent 25 1 (ra byC xs) ∧ s.env 0 = .rd .ent 25 1 (ra byC xs) ∧ s.env 4 = .v (.int .i64 i) ∧ s.env 3 = .ref [3] ∧ s.σ [3] = some (.row 5 1 (bytesA (joinA (xs.take i))))) ⟨by simp -dsimp -implicitDefEqProofs only [go_sem, Nat.reduceBEq, Nat.reduceAdd, Nat.reduceLeDiff, Nat.reduceSub, Int.reduceEq, initE], by simp -dsimp -implicitDefEqProofs only [go_sem, Nat.reduceBEq, Nat.reduceAdd, Nat.reduceLeDiff, Nat.reduceSub, Int.reduceEq, initE], by simp -dsimp -implicitDefEqProofs only [go_sem, Nat.reduceBEq, Nat.reduceAdd, Nat.reduceLeDiff, Nat.reduceSub, Int.reduceEq], by simp -dsimp -implicitDefEqProofs only [go_sem, Nat.reduceBEq, Nat.reduceAdd, Nat.reduceLeDiff, Nat.reduceSub, Int.reduceEq], by simp -dsimp -implicitDefEqProofs only [go_sem, Nat.reduceBEq, Nat.reduceAdd, Nat.reduceLeDiff, Nat.reduceSub, Int.reduceEq, List.take_zero] <;> rfl⟩ ?_
  rintro i ⟨e, σ⟩ hi ⟨h0, hl, h4, h3, hs⟩ K hK
  simp only at h0 hl h4 h3 hs
  simp -dsimp -implicitDefEqProofs only [go_sem, Nat.reduceBEq, Nat.reduceAdd, Nat.reduceLeDiff, Nat.reduceSub, Int.reduceEq, h0, hl, h4, h3, hs]
  refine ifB'.of (fun hlt => ?_) (fun hlt => ?_)
  · have hlt : i < xs.length := by omega
    have hj := joinA_le xs i hi
    have hw := szL_at_le List.length hlt
    unfold wBB at hx
    simp -dsimp -implicitDefEqProofs only [go_sem, Nat.reduceBEq, Nat.reduceAdd, Nat.reduceLeDiff, Nat.reduceSub, Int.reduceEq, h0, hl, h4, h3, hs, byA_at hlt, bytesA_append]
    repeat with_reducible refine ask.of (by omega) ?_
    have hp := padN_lt (joinA (xs.take i) ++ xs[i]).length
    have hlen : (joinA (xs.take i) ++ xs[i]).length ≤ 16777216 := by simp only [List.length_append]; omega
    generalize hb : joinA (xs.take i) ++ xs[i] = b at hp hlen
    refine LoopE.cnt (padN b.length) (fun j s => s.env 0 = .rd .ent 25 1 (ra byC xs) ∧ s.env 0 = .rd .ent 25 1 (ra byC xs) ∧ s.env 4 = .v (.int .i64 i) ∧ s.env 3 = .ref [3] ∧ s.σ [3] = some (.row 5 1 (bytesA (b ++ List.replicate j 0)))) ⟨by simp -dsimp -implicitDefEqProofs only [go_sem, Nat.reduceBEq, Nat.reduceAdd, Nat.reduceLeDiff, Nat.reduceSub, Int.reduceEq, h0, hl, h4, h3, hs, hb], by simp -dsimp -implicitDefEqProofs only [go_sem, Nat.reduceBEq, Nat.reduceAdd, Nat.reduceLeDiff, Nat.reduceSub, Int.reduceEq, h0, hl, h4, h3, hs, hb], by simp -dsimp -implicitDefEqProofs only [go_sem, Nat.reduceBEq, Nat.reduceAdd, Nat.reduceLeDiff, Nat.reduceSub, Int.reduceEq, h0, hl, h4, h3, hs, hb], by simp -dsimp -implicitDefEqProofs only [go_sem, Nat.reduceBEq, Nat.reduceAdd, Nat.reduceLeDiff, Nat.reduceSub, Int.reduceEq, h0, hl, h4, h3, hs, hb], by simp -dsimp -implicitDefEqProofs only [go_sem, Nat.reduceBEq, Nat.reduceAdd, Nat.reduceLeDiff, Nat.reduceSub, Int.reduceEq, h0, hl, h4, h3, hs, hb] <;> simp⟩ ?_
    rintro j ⟨e, σ⟩ hj ⟨h0, hl, h4, h3, hs⟩ K' hK'
    simp only at h0 hl h4 h3 hs
    have hlj : (b ++ List.replicate j (0 : UInt8)).length = b.length + j := by simp
    simp -dsimp -implicitDefEqProofs only [go_sem, Nat.reduceBEq, Nat.reduceAdd, Nat.reduceLeDiff, Nat.reduceSub, Int.reduceEq, h0, hl, h4, h3, hs, hlj, tmod8]
    refine ifB'.of (fun hne => ?_) (fun hne => ?_)
    · have := (pad_more hj)
      simp -dsimp -implicitDefEqProofs only [go_sem, Nat.reduceBEq, Nat.reduceAdd, Nat.reduceLeDiff, Nat.reduceSub, Int.reduceEq, h0, hl, h4, h3, hs, Bool.not_true]
      have : j = padN b.length := this.1 (by omega)
      subst this
      refine hK _ hlt ?_
      simp -dsimp -implicitDefEqProofs only [go_sem, Nat.reduceBEq, Nat.reduceAdd, Nat.reduceLeDiff, Nat.reduceSub, Int.reduceEq, h0, hl, h4, h3, hs, wrap_succ (show i < 4611686018427387904 by omega), joinA_take hlt, hb]
      rfl
    · have := (pad_more hj)
      have hjl : j < padN b.length := by omega
      simp -dsimp -implicitDefEqProofs only [go_sem, Nat.reduceBEq, Nat.reduceAdd, Nat.reduceLeDiff, Nat.reduceSub, Int.reduceEq, h0, hl, h4, h3, hs, Bool.not_false, hlj]
      repeat with_reducible refine ask.of (by omega) ?_
      refine hK' _ hjl ?_
      simp -dsimp -implicitDefEqProofs only [go_sem, Nat.reduceBEq, Nat.reduceAdd, Nat.reduceLeDiff, Nat.reduceSub, Int.reduceEq, h0, hl, h4, h3, hs, rep_snoc]
  · have : i = xs.length := by omega
    subst this
    simp -dsimp -implicitDefEqProofs only [go_sem, Nat.reduceBEq, Nat.reduceAdd, Nat.reduceLeDiff, Nat.reduceSub, Int.reduceEq, h0, hl, h4, h3, hs, List.take_length]
theorem c_implJoinAligned (xs : List (List UInt8)) (hx : xs.length + wBB xs ≤ 1048576) : Meets Try.prog 183 [rowBB xs] (fun r => r = rowB (joinA xs)) := by
  refine Meets.intro mixed (hint [(2, 125)]) Try.func183 rfl (by decide) res_183 rty_183 (by kernel_rfl) ?_; 
  simp -dsimp -implicitDefEqProofs only [go_sem, Nat.reduceBEq, Nat.reduceAdd, Nat.reduceLeDiff, Nat.reduceSub, Int.reduceEq]
  repeat with_reducible refine ask.of (by omega) ?_
  refine LoopE.cnt xs.length (fun i s => s.env 7 = .rd .ent 25 1 (ra byC xs) ∧ s.env 8 = .v (.int .i64 xs.length) ∧ s.env 9 = .v (.int .i64 i) ∧ s.env 3 = .ref [6] ∧ s.σ [6] = some (.row 5 1 (bytesA (joinA (xs.take i))))) ⟨by simp -dsimp -implicitDefEqProofs only [go_sem, Nat.reduceBEq, Nat.reduceAdd, Nat.reduceLeDiff, Nat.reduceSub, Int.reduceEq, initE], by simp -dsimp -implicitDefEqProofs only [go_sem, Nat.reduceBEq, Nat.reduceAdd, Nat.reduceLeDiff, Nat.reduceSub, Int.reduceEq, initE], by simp -dsimp -implicitDefEqProofs only [go_sem, Nat.reduceBEq, Nat.reduceAdd, Nat.reduceLeDiff, Nat.reduceSub, Int.reduceEq], by simp -dsimp -implicitDefEqProofs only [go_sem, Nat.reduceBEq, Nat.reduceAdd, Nat.reduceLeDiff, Nat.reduceSub, Int.reduceEq], by simp -dsimp -implicitDefEqProofs only [go_sem, Nat.reduceBEq, Nat.reduceAdd, Nat.reduceLeDiff, Nat.reduceSub, Int.reduceEq, List.take_zero] <;> rfl⟩ ?_
  rintro i ⟨e, σ⟩ hi ⟨h0, hl, h4, h3, hs⟩ K hK
  simp only at h0 hl h4 h3 hs
  simp -dsimp -implicitDefEqProofs only [go_sem, Nat.reduceBEq, Nat.reduceAdd, Nat.reduceLeDiff, Nat.reduceSub, Int.reduceEq, h0, hl, h4, h3, hs]
  refine ifB'.of (fun hlt => ?_) (fun hlt => ?_)
  · have hlt : i < xs.length := by omega
    have hj := joinA_le xs i hi
    have hw := szL_at_le List.length hlt
    unfold wBB at hx
    simp -dsimp -implicitDefEqProofs only [go_sem, Nat.reduceBEq, Nat.reduceAdd, Nat.reduceLeDiff, Nat.reduceSub, Int.reduceEq, h0, hl, h4, h3, hs, byA_at hlt, bytesA_append]
    repeat with_reducible refine ask.of (by omega) ?_
    have hp := padN_lt (joinA (xs.take i) ++ xs[i]).length
    have hlen : (joinA (xs.take i) ++ xs[i]).length ≤ 16777216 := by simp only [List.length_append]; omega
    generalize hb : joinA (xs.take i) ++ xs[i] = b at hp hlen
    refine LoopE.cnt (padN b.length) (fun j s => s.env 7 = .rd .ent 25 1 (ra byC xs) ∧ s.env 8 = .v (.int .i64 xs.length) ∧ s.env 9 = .v (.int .i64 i) ∧ s.env 3 = .ref [6] ∧ s.σ [6] = some (.row 5 1 (bytesA (b ++ List.replicate j 0)))) ⟨by simp -dsimp -implicitDefEqProofs only [go_sem, Nat.reduceBEq, Nat.reduceAdd, Nat.reduceLeDiff, Nat.reduceSub, Int.reduceEq, h0, hl, h4, h3, hs, hb], by simp -dsimp -implicitDefEqProofs only [go_sem, Nat.reduceBEq, Nat.reduceAdd, Nat.reduceLeDiff, Nat.reduceSub, Int.reduceEq, h0, hl, h4, h3, hs, hb], by simp -dsimp -implicitDefEqProofs only [go_sem, Nat.reduceBEq, Nat.reduceAdd, Nat.reduceLeDiff, Nat.reduceSub, Int.reduceEq, h0, hl, h4, h3, hs, hb], by simp -dsimp -implicitDefEqProofs only [go_sem, Nat.reduceBEq, Nat.reduceAdd, Nat.reduceLeDiff, Nat.reduceSub, Int.reduceEq, h0, hl, h4, h3, hs, hb], by simp -dsimp -implicitDefEqProofs only [go_sem, Nat.reduceBEq, Nat.reduceAdd, Nat.reduceLeDiff, Nat.reduceSub, Int.reduceEq, h0, hl, h4, h3, hs, hb] <;> simp⟩ ?_
    rintro j ⟨e, σ⟩ hj ⟨h0, hl, h4, h3, hs⟩ K' hK'
    simp only at h0 hl h4 h3 hs
    have hlj : (b ++ List.replicate j (0 : UInt8)).length = b.length + j := by simp
    simp -dsimp -implicitDefEqProofs only [go_sem, Nat.reduceBEq, Nat.reduceAdd, Nat.reduceLeDiff, Nat.reduceSub, Int.reduceEq, h0, hl, h4, h3, hs, hlj, tmod8]
    refine ifB'.of (fun hne => ?_) (fun hne => ?_)
    · have := (pad_more hj)
      simp -dsimp -implicitDefEqProofs only [go_sem, Nat.reduceBEq, Nat.reduceAdd, Nat.reduceLeDiff, Nat.reduceSub, Int.reduceEq, h0, hl, h4, h3, hs, Bool.not_true]
      have : j = padN b.length := this.1 (by omega)
      subst this
      refine hK _ hlt ?_
      simp -dsimp -implicitDefEqProofs only [go_sem, Nat.reduceBEq, Nat.reduceAdd, Nat.reduceLeDiff, Nat.reduceSub, Int.reduceEq, h0, hl, h4, h3, hs, wrap_succ (show i < 4611686018427387904 by omega), joinA_take hlt, hb]
      rfl
    · have := (pad_more hj)
      have hjl : j < padN b.length := by omega
      simp -dsimp -implicitDefEqProofs only [go_sem, Nat.reduceBEq, Nat.reduceAdd, Nat.reduceLeDiff, Nat.reduceSub, Int.reduceEq, h0, hl, h4, h3, hs, Bool.not_false, hlj]
      repeat with_reducible refine ask.of (by omega) ?_
      refine hK' _ hjl ?_
      simp -dsimp -implicitDefEqProofs only [go_sem, Nat.reduceBEq, Nat.reduceAdd, Nat.reduceLeDiff, Nat.reduceSub, Int.reduceEq, h0, hl, h4, h3, hs, rep_snoc]
  · have : i = xs.length := by omega
    subst this
    simp -dsimp -implicitDefEqProofs only [go_sem, Nat.reduceBEq, Nat.reduceAdd, Nat.reduceLeDiff, Nat.reduceSub, Int.reduceEq, h0, hl, h4, h3, hs, List.take_length]
end Go.Ev
set_option linter.unusedSimpArgs false
set_option linter.unusedVariables false
namespace Go.Ev
open Go Go.RowKit Go.Proofs
structure Ms where
  k : Int
  f : Int
  n : Int
  bs : List (List UInt8)
def msC (x : Ms) : List AV := [.v (.int .i64 x.k), .v (.int .i64 x.f), .v (.int .i64 x.n), .row 25 1 (ra byC x.bs)]
theorem bleM (n : Nat) : Nat.ble n n = true := by simp
def msOk (x : Ms) : Prop := 1 ≤ x.k ∧ x.k ≤ 4 ∧ 0 ≤ x.f ∧ x.f < 12 ∧ 0 ≤ x.n ∧ x.n ≤ 1000 ∧ x.bs.length ≤ 40 ∧ (x.f = 0 ∨ x.k = 2 ∨ x.k = 3)
instance (x : Ms) : Decidable (msOk x) := by unfold msOk; infer_instance
def lensB (bs : List (List UInt8)) : List UInt8 := bs.flatMap fun b => leB 4 b.length
theorem lensB_length (bs : List (List UInt8)) : (lensB bs).length = 4 * bs.length := by
  induction bs with
  | nil => rfl
  | cons b bs ih => rw [lensB, List.flatMap_cons, List.length_append, leB_length, List.length_cons]; rw [lensB] at ih; omega
theorem lensB_succ {bs : List (List UInt8)} {i : Nat} (h : i < bs.length) : lensB (bs.take i) ++ leB 4 bs[i].length = lensB (bs.take (i + 1)) := by
  rw [List.take_succ_eq_append_getElem h, lensB, lensB, List.flatMap_append]; simp
def headB (x : Ms) : List UInt8 := [67, 77, UInt8.ofNat x.k.toNat, UInt8.ofNat x.f.toNat, UInt8.ofNat (x.n.toNat % 256), UInt8.ofNat (x.n.toNat / 256 % 256), UInt8.ofNat x.bs.length, 0]
def msBody (x : Ms) : List UInt8 := sumB [headB x, joinA (lensB x.bs :: x.bs)]
def msGood (x : Ms) : Prop := msOk x ∧ wBB x.bs ≤ 20000 ∧ (msBody x).length ≤ 20000
instance (x : Ms) : Decidable (msGood x) := by unfold msGood; infer_instance
def encM (x : Ms) : List UInt8 := if msGood x then msBody x else []
theorem encM_no {x : Ms} (h : ¬ msGood x) : encM x = [] := if_neg h
theorem encM_yes {x : Ms} (h : msGood x) : encM x = msBody x := if_pos h
theorem joinA_len (xs : List (List UInt8)) : (joinA xs).length ≤ wBB xs + 7 * xs.length := by
  have := joinA_le xs xs.length (Nat.le_refl _)
  rw [List.take_length] at this
  exact this
theorem ms_b1 {x : Ms} (h : msOk x) : IntKind.u8.wrap x.k = ((UInt8.ofNat x.k.toNat).toNat : Int) := by
  obtain ⟨n, hn⟩ := Int.eq_ofNat_of_zero_le (show 0 ≤ x.k by have := h.1; omega)
  rw [hn]; exact u8_of_nat n
theorem ms_b2 {x : Ms} (h : msOk x) : IntKind.u8.wrap x.f = ((UInt8.ofNat x.f.toNat).toNat : Int) := by
  obtain ⟨n, hn⟩ := Int.eq_ofNat_of_zero_le (show 0 ≤ x.f by have := h.2.2.1; omega)
  rw [hn]; exact u8_of_nat n
theorem ms_b3 {x : Ms} (h : msOk x) : IntKind.u8.wrap x.n = ((UInt8.ofNat (x.n.toNat % 256)).toNat : Int) := by
  obtain ⟨n, hn⟩ := Int.eq_ofNat_of_zero_le (show 0 ≤ x.n by have := h.2.2.2.2.1; omega)
  rw [hn, u8_of_nat n]; simp
theorem ms_b4 {x : Ms} (h : msOk x) : IntKind.u8.wrap (x.n.fdiv (2 ^ min (Int.toNat 8) 64)) = ((UInt8.ofNat (x.n.toNat / 256 % 256)).toNat : Int) := by
  obtain ⟨n, hn⟩ := Int.eq_ofNat_of_zero_le (show 0 ≤ x.n by have := h.2.2.2.2.1; omega)
  rw [hn, show (2 : Int) ^ min (Int.toNat 8) 64 = 256 from rfl, Int.fdiv_eq_ediv_of_nonneg _ (by decide), show ((n : Int) / 256) = ((n / 256 : Nat) : Int) by omega, u8_of_nat]
  simp
theorem leB2 {x : Ms} (h : msOk x) : leB 2 x.n = [UInt8.ofNat (x.n.toNat % 256), UInt8.ofNat (x.n.toNat / 256 % 256)] := by
  have h1 := h.2.2.2.2.1
  have h2 := h.2.2.2.2.2.1
  have e : uN x.n = x.n.toNat := by unfold uN; omega
  simp [leB, e, List.range_succ]
theorem ms_good {x : Ms} (h : msOk x) (hw : wBB x.bs ≤ 20000) : (lensB x.bs :: x.bs).length + wBB (lensB x.bs :: x.bs) ≤ 20400 := by
  have h1 := h.2.2.2.2.2.2.1
  have : wBB (lensB x.bs :: x.bs) = 4 * x.bs.length + wBB x.bs := by simp [wBB, szL, lensB_length]
  rw [this, List.length_cons]; omega
end Go.Ev
set_option linter.unusedSimpArgs false
set_option linter.unusedVariables false
namespace Go.Ev
open Go Go.RowKit Go.Proofs
theorem ms_f {x : Ms} (h : ¬ msOk x) : false = decide (msOk x) := by rw [decide_eq_false h]
theorem ms_t {x : Ms} (h : msOk x) : true = decide (msOk x) := by rw [decide_eq_true h]
theorem ms_d {x : Ms} {q : Prop} [Decidable q] (h : q ↔ msOk x) : decide q = decide (msOk x) := by rw [decide_eq_decide.2 h]
set_option maxHeartbeats 2000000 in
theorem c_messageOk (x : Ms) (hx : x.bs.length ≤ 1048576) : Meets Try.prog 181 [.agg (msC x)] (fun r => r = .v (.bool (decide (msOk x)))) := by
  refine Meets.intro mixed (hint []) Try.func181 rfl (by decide) res_181 rty_181 (by kernel_rfl) ?_; 
  simp -dsimp -implicitDefEqProofs only [go_sem, Nat.reduceBEq, Nat.reduceAdd, Nat.reduceLeDiff, Nat.reduceSub, Int.reduceEq, msC]
  repeat' (first | with_reducible refine ifB'.of (fun h => ?_) (fun h => ?_) | with_reducible refine ask.of (by omega) ?_ | ((with_reducible refine ms_f ?_); unfold msOk; omega) | ((with_reducible refine ms_t ?_); unfold msOk; omega) | ((with_reducible refine ms_d ?_); unfold msOk; omega) | simp -dsimp -implicitDefEqProofs only [go_sem, Nat.reduceBEq, Nat.reduceAdd, Nat.reduceLeDiff, Nat.reduceSub, Int.reduceEq, decide_true, Bool.not_true, Bool.not_false])
theorem bytes4 (a b : UInt8) : [[AV.v (.int .u8 67)], [AV.v (.int .u8 77)], [AV.v (.int .u8 (a.toNat : Int))], [AV.v (.int .u8 (b.toNat : Int))]] = bytesA [67, 77, a, b] := rfl
theorem bytes2 (a : UInt8) : [[AV.v (.int .u8 (a.toNat : Int))], [AV.v (.int .u8 0)]] = bytesA [a, 0] := rfl
theorem bytes8 (a b c d e : UInt8) : [[AV.v (.int .u8 67)], [AV.v (.int .u8 77)], [AV.v (.int .u8 (a.toNat : Int))], [AV.v (.int .u8 (b.toNat : Int))], [AV.v (.int .u8 (c.toNat : Int))], [AV.v (.int .u8 (d.toNat : Int))], [AV.v (.int .u8 (e.toNat : Int))], [AV.v (.int .u8 0)]] = bytesA [67, 77, a, b, c, d, e, 0] := rfl
theorem c_specJoinAlignedL (l : List UInt8) (bs : List (List UInt8)) (h : (l :: bs).length + wBB (l :: bs) ≤ 1048576) : Meets Try.prog 179 [.row 25 1 ([.row 5 1 (bytesA l)] :: ra byE bs)] (fun r => r = rowB (joinA (l :: bs))) :=
  Meets.look (bs := [rowBB (l :: bs)]) ⟨Look.row ⟨⟨Look.refl _, trivial⟩, look_byE bs⟩, trivial⟩ (c_specJoinAligned (l :: bs) h)
theorem c_implJoinAlignedL (l : List UInt8) (bs : List (List UInt8)) (h : (l :: bs).length + wBB (l :: bs) ≤ 1048576) : Meets Try.prog 183 [.row 25 1 ([.row 5 1 (bytesA l)] :: ra byE bs)] (fun r => r = rowB (joinA (l :: bs))) :=
  Meets.look (bs := [rowBB (l :: bs)]) ⟨Look.row ⟨⟨Look.refl _, trivial⟩, look_byE bs⟩, trivial⟩ (c_implJoinAligned (l :: bs) h)
theorem msBody_eq (x : Ms) : msBody x = headB x ++ joinA (lensB x.bs :: x.bs) ++ leB 4 (crcB (headB x ++ joinA (lensB x.bs :: x.bs))).toNat := by simp [msBody, sumB]
set_option maxHeartbeats 1000000 in
theorem c_l4encode (x : Ms) (h : msOk x) (hw : wBB x.bs ≤ 20000) : Meets Try.prog 113 [.agg (msC x)] (fun r => r = rowB (msBody x)) := by
  refine Meets.intro mixed (hint [(3, 125)]) Try.func113 rfl (by decide) res_113 rty_113 (by kernel_rfl) ?_; 
  have hl := h.2.2.2.2.2.2.1
  simp -dsimp -implicitDefEqProofs only [go_sem, Nat.reduceBEq, Nat.reduceAdd, Nat.reduceLeDiff, Nat.reduceSub, Int.reduceEq, msC]
  refine LoopE.cnt x.bs.length (fun i s => s.env 1 = .ptr [1] 0 0 0 ∧ s.env 3 = .ref [3] ∧ s.env 4 = .v (.int .i64 i) ∧ s.σ [1] = some (.box 163 [.v (.int .i64 x.k), .v (.int .i64 x.f), .v (.int .i64 x.n), .rd .ent 25 1 (ra byC x.bs)]) ∧ s.σ [3] = some (.row 5 1 (bytesA (lensB (x.bs.take i))))) ⟨by simp -dsimp -implicitDefEqProofs only [go_sem, Nat.reduceBEq, Nat.reduceAdd, Nat.reduceLeDiff, Nat.reduceSub, Int.reduceEq], by simp -dsimp -implicitDefEqProofs only [go_sem, Nat.reduceBEq, Nat.reduceAdd, Nat.reduceLeDiff, Nat.reduceSub, Int.reduceEq], by simp -dsimp -implicitDefEqProofs only [go_sem, Nat.reduceBEq, Nat.reduceAdd, Nat.reduceLeDiff, Nat.reduceSub, Int.reduceEq], by simp -dsimp -implicitDefEqProofs only [go_sem, Nat.reduceBEq, Nat.reduceAdd, Nat.reduceLeDiff, Nat.reduceSub, Int.reduceEq], by simp -dsimp -implicitDefEqProofs only [go_sem, Nat.reduceBEq, Nat.reduceAdd, Nat.reduceLeDiff, Nat.reduceSub, Int.reduceEq] <;> rfl⟩ ?_
  rintro i ⟨e, σ⟩ hi ⟨h1, h3, h4, hs1, hs3⟩ K hK
  simp only at h1 h3 h4 hs1 hs3
  simp -dsimp -implicitDefEqProofs only [go_sem, Nat.reduceBEq, Nat.reduceAdd, Nat.reduceLeDiff, Nat.reduceSub, Int.reduceEq, h1, h3, h4, hs1, hs3]
  repeat (first | with_reducible refine ask.of (by first | omega | decide) ?_ | simp -dsimp -implicitDefEqProofs only [go_sem, Nat.reduceBEq, Nat.reduceAdd, Nat.reduceLeDiff, Nat.reduceSub, Int.reduceEq, h1, h3, h4, hs1, hs3, bleM])
  refine ifB'.of (fun hlt => ?_) (fun hlt => ?_)
  · have hlt : i < x.bs.length := by omega
    have hll := lensB_length (x.bs.take i)
    have htl : (x.bs.take i).length = i := by simp; omega
    simp -dsimp -implicitDefEqProofs only [go_sem, Nat.reduceBEq, Nat.reduceAdd, Nat.reduceLeDiff, Nat.reduceSub, Int.reduceEq, h1, h3, h4, hs1, hs3, byA_at hlt]
    repeat (first | with_reducible refine ask.of (by first | omega | decide) ?_ | simp -dsimp -implicitDefEqProofs only [go_sem, Nat.reduceBEq, Nat.reduceAdd, Nat.reduceLeDiff, Nat.reduceSub, Int.reduceEq, h1, h3, h4, hs1, hs3, byA_at hlt, bleM])
    refine CallE.of (c_l1little x.bs[i].length 4 (by omega)) (by rintro r rfl; (repeat' first | exact trivial | exact pure_rowB _ | exact pure_rowO _ | exact pure_rowI _ | exact pure_rowBB _ | exact pure_rowPk _ _ | exact pure_rowSn _ _ | exact pure_rowFd _ _ | exact pure_rowBBB _ | exact pure_rowCl _ _ | exact pure_rowTb _ _ _ | refine And.intro ?_ ?_)) (by simp -dsimp -implicitDefEqProofs only [go_sem, Nat.reduceBEq, Nat.reduceAdd, Nat.reduceLeDiff, Nat.reduceSub, Int.reduceEq, h1, h3, h4, hs1, hs3, show ((4 : Nat) : Int) = 4 from rfl]) ?_
    rintro r rfl
    simp -dsimp -implicitDefEqProofs only [go_sem, Nat.reduceBEq, Nat.reduceAdd, Nat.reduceLeDiff, Nat.reduceSub, Int.reduceEq, h1, h3, h4, hs1, hs3, show ((4 : Nat) : Int) = 4 from rfl]
    repeat (first | with_reducible refine ask.of (by first | omega | (rw [hll, htl, leB_length]; omega)) ?_ | simp -dsimp -implicitDefEqProofs only [go_sem, Nat.reduceBEq, Nat.reduceAdd, Nat.reduceLeDiff, Nat.reduceSub, Int.reduceEq, h1, h3, h4, hs1, hs3, leB_length])
    refine hK _ hlt ?_
    simp -dsimp -implicitDefEqProofs only [go_sem, Nat.reduceBEq, Nat.reduceAdd, Nat.reduceLeDiff, Nat.reduceSub, Int.reduceEq, h1, h3, h4, hs1, hs3, wrap_succ (show i < 4611686018427387904 by omega), lensB_succ hlt]
  · have : i = x.bs.length := by omega
    subst this
    rw [List.take_length] at hs3
    have hg := ms_good h hw
    have hj := joinA_len (lensB x.bs :: x.bs)
    have hll := lensB_length x.bs
    simp -dsimp -implicitDefEqProofs only [go_sem, Nat.reduceBEq, Nat.reduceAdd, Nat.reduceLeDiff, Nat.reduceSub, Int.reduceEq, h1, h3, h4, hs1, hs3, ms_b1 h, ms_b2 h]
    repeat (first | with_reducible refine ask.of (by first | omega | decide) ?_ | simp -dsimp -implicitDefEqProofs only [go_sem, Nat.reduceBEq, Nat.reduceAdd, Nat.reduceLeDiff, Nat.reduceSub, Int.reduceEq, h1, h3, h4, hs1, hs3, bleM, ms_b1 h, ms_b2 h, bytes4])
    refine CallE.of (c_l1little x.n 2 (by omega)) (by rintro r rfl; (repeat' first | exact trivial | exact pure_rowB _ | exact pure_rowO _ | exact pure_rowI _ | exact pure_rowBB _ | exact pure_rowPk _ _ | exact pure_rowSn _ _ | exact pure_rowFd _ _ | exact pure_rowBBB _ | exact pure_rowCl _ _ | exact pure_rowTb _ _ _ | refine And.intro ?_ ?_)) (by simp -dsimp -implicitDefEqProofs only [go_sem, Nat.reduceBEq, Nat.reduceAdd, Nat.reduceLeDiff, Nat.reduceSub, Int.reduceEq, h1, h3, h4, hs1, hs3, show ((2 : Nat) : Int) = 2 from rfl]) ?_
    rintro r rfl
    simp -dsimp -implicitDefEqProofs only [go_sem, Nat.reduceBEq, Nat.reduceAdd, Nat.reduceLeDiff, Nat.reduceSub, Int.reduceEq, h1, h3, h4, hs1, hs3, show ((2 : Nat) : Int) = 2 from rfl]
    repeat (first | with_reducible refine ask.of (by first | omega | (simp only [List.length_append, List.length_cons, List.length_nil, leB_length]; omega)) ?_ | simp -dsimp -implicitDefEqProofs only [go_sem, Nat.reduceBEq, Nat.reduceAdd, Nat.reduceLeDiff, Nat.reduceSub, Int.reduceEq, h1, h3, h4, hs1, hs3, bleM, leB_length, u8_of_nat, bytes2, byE_asrw])
    refine CallE.of (c_specJoinAlignedL (lensB x.bs) x.bs (by omega)) (by rintro r rfl; (repeat' first | exact trivial | exact pure_rowB _ | exact pure_rowO _ | exact pure_rowI _ | exact pure_rowBB _ | exact pure_rowPk _ _ | exact pure_rowSn _ _ | exact pure_rowFd _ _ | exact pure_rowBBB _ | exact pure_rowCl _ _ | exact pure_rowTb _ _ _ | refine And.intro ?_ ?_)) (by simp -dsimp -implicitDefEqProofs only [go_sem, Nat.reduceBEq, Nat.reduceAdd, Nat.reduceLeDiff, Nat.reduceSub, Int.reduceEq, h1, h3, h4, hs1, hs3]) ?_
    rintro r rfl
    simp -dsimp -implicitDefEqProofs only [go_sem, Nat.reduceBEq, Nat.reduceAdd, Nat.reduceLeDiff, Nat.reduceSub, Int.reduceEq, h1, h3, h4, hs1, hs3]
    have hjl : (headB x ++ joinA (lensB x.bs :: x.bs)).length ≤ 30000 := by
      have : wBB (lensB x.bs :: x.bs) = 4 * x.bs.length + wBB x.bs := by simp [wBB, szL, lensB_length]
      simp only [List.length_append, headB, List.length_cons, List.length_nil] at hj ⊢
      omega
    have hjl2 : (joinA (lensB x.bs :: x.bs)).length ≤ 30000 := by rw [List.length_append] at hjl; omega
    repeat (first | with_reducible refine ask.of (by first | omega | (simp only [List.length_append, List.length_cons, List.length_nil, leB_length]; omega)) ?_ | simp -dsimp -implicitDefEqProofs only [go_sem, Nat.reduceBEq, Nat.reduceAdd, Nat.reduceLeDiff, Nat.reduceSub, Int.reduceEq, h1, h3, h4, hs1, hs3, bleM, leB_length])
    refine CallE.of (c_specCrc32 (headB x ++ joinA (lensB x.bs :: x.bs)) (by omega)) (by rintro r rfl; (repeat' first | exact trivial | exact pure_rowB _ | exact pure_rowO _ | exact pure_rowI _ | exact pure_rowBB _ | exact pure_rowPk _ _ | exact pure_rowSn _ _ | exact pure_rowFd _ _ | exact pure_rowBBB _ | exact pure_rowCl _ _ | exact pure_rowTb _ _ _ | refine And.intro ?_ ?_)) (by simp -dsimp -implicitDefEqProofs only [go_sem, Nat.reduceBEq, Nat.reduceAdd, Nat.reduceLeDiff, Nat.reduceSub, Int.reduceEq, h1, h3, h4, hs1, hs3, headB, leB2 h, List.cons_append, List.nil_append, List.append_assoc]) ?_
    rintro r rfl
    simp -dsimp -implicitDefEqProofs only [go_sem, Nat.reduceBEq, Nat.reduceAdd, Nat.reduceLeDiff, Nat.reduceSub, Int.reduceEq, h1, h3, h4, hs1, hs3, headB, leB2 h, List.cons_append, List.nil_append, List.append_assoc]
    simp -dsimp -implicitDefEqProofs only [go_sem, Nat.reduceBEq, Nat.reduceAdd, Nat.reduceLeDiff, Nat.reduceSub, Int.reduceEq, h1, h3, h4, hs1, hs3, wrap_u32i]
    refine CallE.of (c_l1little (crcB (headB x ++ joinA (lensB x.bs :: x.bs))).toNat 4 (by omega)) (by rintro r rfl; (repeat' first | exact trivial | exact pure_rowB _ | exact pure_rowO _ | exact pure_rowI _ | exact pure_rowBB _ | exact pure_rowPk _ _ | exact pure_rowSn _ _ | exact pure_rowFd _ _ | exact pure_rowBBB _ | exact pure_rowCl _ _ | exact pure_rowTb _ _ _ | refine And.intro ?_ ?_)) (by simp -dsimp -implicitDefEqProofs only [go_sem, Nat.reduceBEq, Nat.reduceAdd, Nat.reduceLeDiff, Nat.reduceSub, Int.reduceEq, h1, h3, h4, hs1, hs3, show ((4 : Nat) : Int) = 4 from rfl, headB, leB2 h, List.cons_append, List.nil_append, List.append_assoc]) ?_
    rintro r rfl
    simp -dsimp -implicitDefEqProofs only [go_sem, Nat.reduceBEq, Nat.reduceAdd, Nat.reduceLeDiff, Nat.reduceSub, Int.reduceEq, h1, h3, h4, hs1, hs3, show ((4 : Nat) : Int) = 4 from rfl, headB, leB2 h, List.cons_append, List.nil_append, List.append_assoc]
    repeat (first | with_reducible refine ask.of (by first | omega | (simp only [List.length_append, List.length_cons, List.length_nil, leB_length]; omega)) ?_ | simp -dsimp -implicitDefEqProofs only [go_sem, Nat.reduceBEq, Nat.reduceAdd, Nat.reduceLeDiff, Nat.reduceSub, Int.reduceEq, h1, h3, h4, hs1, hs3, bleM, leB_length])
    simp [msBody_eq, headB, leB2 h]
end Go.Ev
set_option linter.unusedSimpArgs false
set_option linter.unusedVariables false
namespace Go.Ev
open Go Go.RowKit Go.Proofs
theorem em_f {x : Ms} (h : ¬ msGood x) : AV.row 5 1 [] = AV.row 5 1 (bytesA (encM x)) := by rw [encM_no h]; rfl
theorem em_ok {x : Ms} (h : ¬ msOk x) : AV.row 5 1 [] = AV.row 5 1 (bytesA (encM x)) := em_f (fun h' => h h'.1)
theorem byC2 (a b : List UInt8) : ra byC [a, b] = [[.row 5 1 (bytesA a)], [.row 5 1 (bytesA b)]] := rfl
set_option maxHeartbeats 2000000 in
theorem c_implEncodeMessage (x : Ms) (hx : x.bs.length + wBB x.bs ≤ 1048576) : Meets Try.prog 117 [.agg (msC x)] (fun r => r = rowB (encM x)) := by
  refine Meets.intro mixed (hint []) Try.func117 rfl (by decide) res_117 rty_117 (by kernel_rfl) ?_; 
  simp -dsimp -implicitDefEqProofs only [go_sem, Nat.reduceBEq, Nat.reduceAdd, Nat.reduceLeDiff, Nat.reduceSub, Int.reduceEq, msC]
  repeat (first | with_reducible refine ask.of (by first | omega | decide) ?_ | simp -dsimp -implicitDefEqProofs only [go_sem, Nat.reduceBEq, Nat.reduceAdd, Nat.reduceLeDiff, Nat.reduceSub, Int.reduceEq, bleM])
  refine CallE.of (c_messageOk x (by omega)) (by rintro r rfl; (repeat' first | exact trivial | exact pure_rowB _ | exact pure_rowO _ | exact pure_rowI _ | exact pure_rowBB _ | exact pure_rowPk _ _ | exact pure_rowSn _ _ | exact pure_rowFd _ _ | exact pure_rowBBB _ | exact pure_rowCl _ _ | exact pure_rowTb _ _ _ | refine And.intro ?_ ?_)) (by simp -dsimp -implicitDefEqProofs only [go_sem, Nat.reduceBEq, Nat.reduceAdd, Nat.reduceLeDiff, Nat.reduceSub, Int.reduceEq, msC]) ?_
  rintro r rfl
  simp -dsimp -implicitDefEqProofs only [go_sem, Nat.reduceBEq, Nat.reduceAdd, Nat.reduceLeDiff, Nat.reduceSub, Int.reduceEq, msC]
  by_cases hok : msOk x
  case neg =>
    simp -dsimp -implicitDefEqProofs only [go_sem, Nat.reduceBEq, Nat.reduceAdd, Nat.reduceLeDiff, Nat.reduceSub, Int.reduceEq, decide_eq_false hok, Bool.not_false]
    exact em_ok hok
  have hl := hok.2.2.2.2.2.2.1
  simp -dsimp -implicitDefEqProofs only [go_sem, Nat.reduceBEq, Nat.reduceAdd, Nat.reduceLeDiff, Nat.reduceSub, Int.reduceEq, decide_eq_true hok, Bool.not_true]
  repeat (first | with_reducible refine ask.of (by first | omega | decide) ?_ | simp -dsimp -implicitDefEqProofs only [go_sem, Nat.reduceBEq, Nat.reduceAdd, Nat.reduceLeDiff, Nat.reduceSub, Int.reduceEq, bleM])
  refine LoopE.cnt x.bs.length (fun i s => s.env 1 = .ptr [1] 0 0 0 ∧ s.env 3 = .ref [12] ∧ s.env 4 = .v (.int .i64 (wBB (x.bs.take i) : Nat)) ∧ s.env 14 = .rd .ent 25 1 (ra byC x.bs) ∧ s.env 15 = .v (.int .i64 x.bs.length) ∧ s.env 16 = .v (.int .i64 i) ∧ s.σ [1] = some (.box 163 [.v (.int .i64 x.k), .v (.int .i64 x.f), .v (.int .i64 x.n), .rd .ent 25 1 (ra byC x.bs)]) ∧ s.σ [12] = some (.row 5 1 (bytesA (lensB (x.bs.take i)))) ∧ wBB (x.bs.take i) ≤ 20000) ⟨by simp -dsimp -implicitDefEqProofs only [go_sem, Nat.reduceBEq, Nat.reduceAdd, Nat.reduceLeDiff, Nat.reduceSub, Int.reduceEq], by simp -dsimp -implicitDefEqProofs only [go_sem, Nat.reduceBEq, Nat.reduceAdd, Nat.reduceLeDiff, Nat.reduceSub, Int.reduceEq], by simp -dsimp -implicitDefEqProofs only [go_sem, Nat.reduceBEq, Nat.reduceAdd, Nat.reduceLeDiff, Nat.reduceSub, Int.reduceEq] <;> rfl, by simp -dsimp -implicitDefEqProofs only [go_sem, Nat.reduceBEq, Nat.reduceAdd, Nat.reduceLeDiff, Nat.reduceSub, Int.reduceEq], by simp -dsimp -implicitDefEqProofs only [go_sem, Nat.reduceBEq, Nat.reduceAdd, Nat.reduceLeDiff, Nat.reduceSub, Int.reduceEq], by simp -dsimp -implicitDefEqProofs only [go_sem, Nat.reduceBEq, Nat.reduceAdd, Nat.reduceLeDiff, Nat.reduceSub, Int.reduceEq], by simp -dsimp -implicitDefEqProofs only [go_sem, Nat.reduceBEq, Nat.reduceAdd, Nat.reduceLeDiff, Nat.reduceSub, Int.reduceEq], by simp -dsimp -implicitDefEqProofs only [go_sem, Nat.reduceBEq, Nat.reduceAdd, Nat.reduceLeDiff, Nat.reduceSub, Int.reduceEq] <;> rfl, by simp [wBB, szL]⟩ ?_
  rintro i ⟨e, σ⟩ hi ⟨h1, h3, h4, h14, h15, h16, hs1, hs12, hw⟩ K hK
  simp only at h1 h3 h4 h14 h15 h16 hs1 hs12
  simp -dsimp -implicitDefEqProofs only [go_sem, Nat.reduceBEq, Nat.reduceAdd, Nat.reduceLeDiff, Nat.reduceSub, Int.reduceEq, h1, h3, h4, h14, h15, h16, hs1, hs12]
  refine ifB'.of (fun hlt => ?_) (fun hlt => ?_)
  · have hlt : i < x.bs.length := by omega
    have hs : wBB (x.bs.take (i + 1)) = wBB (x.bs.take i) + x.bs[i].length := szL_take_succ List.length hlt
    have hsl : wBB (x.bs.take (i + 1)) ≤ wBB x.bs := szL_take_le List.length x.bs (i + 1)
    have e1 : IntKind.i64.wrap ((wBB (x.bs.take i) : Int) + x.bs[i].length) = (wBB (x.bs.take (i + 1)) : Nat) := by rw [wrap_i64_of (by omega) (by omega), hs]; omega
    have hll := lensB_length (x.bs.take i)
    have htl : (x.bs.take i).length = i := by simp; omega
    simp -dsimp -implicitDefEqProofs only [go_sem, Nat.reduceBEq, Nat.reduceAdd, Nat.reduceLeDiff, Nat.reduceSub, Int.reduceEq, h1, h3, h4, h14, h15, h16, hs1, hs12, byA_at hlt, e1]
    repeat (first | with_reducible refine ask.of (by first | omega | decide) ?_ | simp -dsimp -implicitDefEqProofs only [go_sem, Nat.reduceBEq, Nat.reduceAdd, Nat.reduceLeDiff, Nat.reduceSub, Int.reduceEq, h1, h3, h4, h14, h15, h16, hs1, hs12, byA_at hlt, bleM, e1])
    refine ifB'.of (fun hg => ?_) (fun hg => ?_)
    · simp -dsimp -implicitDefEqProofs only [go_sem, Nat.reduceBEq, Nat.reduceAdd, Nat.reduceLeDiff, Nat.reduceSub, Int.reduceEq, h1, h3, h4, h14, h15, h16, hs1, hs12]
      exact em_f (fun h' => by have := h'.2.1; omega)
    simp -dsimp -implicitDefEqProofs only [go_sem, Nat.reduceBEq, Nat.reduceAdd, Nat.reduceLeDiff, Nat.reduceSub, Int.reduceEq, h1, h3, h4, h14, h15, h16, hs1, hs12]
    refine CallE.of (c_number x.bs[i].length 4 (by omega)) (by rintro r rfl; (repeat' first | exact trivial | exact pure_rowB _ | exact pure_rowO _ | exact pure_rowI _ | exact pure_rowBB _ | exact pure_rowPk _ _ | exact pure_rowSn _ _ | exact pure_rowFd _ _ | exact pure_rowBBB _ | exact pure_rowCl _ _ | exact pure_rowTb _ _ _ | refine And.intro ?_ ?_)) (by simp -dsimp -implicitDefEqProofs only [go_sem, Nat.reduceBEq, Nat.reduceAdd, Nat.reduceLeDiff, Nat.reduceSub, Int.reduceEq, h1, h3, h4, h14, h15, h16, hs1, hs12, show ((4 : Nat) : Int) = 4 from rfl]) ?_
    rintro r rfl
    simp -dsimp -implicitDefEqProofs only [go_sem, Nat.reduceBEq, Nat.reduceAdd, Nat.reduceLeDiff, Nat.reduceSub, Int.reduceEq, h1, h3, h4, h14, h15, h16, hs1, hs12, show ((4 : Nat) : Int) = 4 from rfl]
    repeat (first | with_reducible refine ask.of (by first | omega | (rw [hll, htl, leB_length]; omega)) ?_ | simp -dsimp -implicitDefEqProofs only [go_sem, Nat.reduceBEq, Nat.reduceAdd, Nat.reduceLeDiff, Nat.reduceSub, Int.reduceEq, h1, h3, h4, h14, h15, h16, hs1, hs12, leB_length])
    refine hK _ hlt ?_
    simp -dsimp -implicitDefEqProofs only [go_sem, Nat.reduceBEq, Nat.reduceAdd, Nat.reduceLeDiff, Nat.reduceSub, Int.reduceEq, h1, h3, h4, h14, h15, h16, hs1, hs12, wrap_succ (show i < 4611686018427387904 by omega), lensB_succ hlt, e1]
    omega
  · have : i = x.bs.length := by omega
    subst this
    rw [List.take_length] at hs12 hw
    have hg := ms_good hok hw
    have hj := joinA_len (lensB x.bs :: x.bs)
    have hll := lensB_length x.bs
    have hjl2 : (joinA (lensB x.bs :: x.bs)).length ≤ 30000 := by
      have : wBB (lensB x.bs :: x.bs) = 4 * x.bs.length + wBB x.bs := by simp [wBB, szL, lensB_length]
      simp only [List.length_cons] at hj ⊢
      omega
    simp -dsimp -implicitDefEqProofs only [go_sem, Nat.reduceBEq, Nat.reduceAdd, Nat.reduceLeDiff, Nat.reduceSub, Int.reduceEq, h1, h3, h4, h14, h15, h16, hs1, hs12, ms_b1 hok, ms_b2 hok, ms_b3 hok, ms_b4 hok]
    repeat (first | with_reducible refine ask.of (by first | omega | decide) ?_ | simp -dsimp -implicitDefEqProofs only [go_sem, Nat.reduceBEq, Nat.reduceAdd, Nat.reduceLeDiff, Nat.reduceSub, Int.reduceEq, h1, h3, h4, h14, h15, h16, hs1, hs12, bleM, ms_b1 hok, ms_b2 hok, ms_b3 hok, ms_b4 hok, u8_of_nat, bytes8, byE_asrw])
    refine CallE.of (c_implJoinAlignedL (lensB x.bs) x.bs (by omega)) (by rintro r rfl; (repeat' first | exact trivial | exact pure_rowB _ | exact pure_rowO _ | exact pure_rowI _ | exact pure_rowBB _ | exact pure_rowPk _ _ | exact pure_rowSn _ _ | exact pure_rowFd _ _ | exact pure_rowBBB _ | exact pure_rowCl _ _ | exact pure_rowTb _ _ _ | refine And.intro ?_ ?_)) (by simp -dsimp -implicitDefEqProofs only [go_sem, Nat.reduceBEq, Nat.reduceAdd, Nat.reduceLeDiff, Nat.reduceSub, Int.reduceEq, h1, h3, h4, h14, h15, h16, hs1, hs12]) ?_
    rintro r rfl
    simp -dsimp -implicitDefEqProofs only [go_sem, Nat.reduceBEq, Nat.reduceAdd, Nat.reduceLeDiff, Nat.reduceSub, Int.reduceEq, h1, h3, h4, h14, h15, h16, hs1, hs12]
    repeat (first | with_reducible refine ask.of (by first | omega | decide) ?_ | simp -dsimp -implicitDefEqProofs only [go_sem, Nat.reduceBEq, Nat.reduceAdd, Nat.reduceLeDiff, Nat.reduceSub, Int.reduceEq, h1, h3, h4, h14, h15, h16, hs1, hs12, bleM])
    refine CallE.of (c_summed [headB x, joinA (lensB x.bs :: x.bs)] (by simp [wBB, szL, headB]; omega)) (by rintro r rfl; (repeat' first | exact trivial | exact pure_rowB _ | exact pure_rowO _ | exact pure_rowI _ | exact pure_rowBB _ | exact pure_rowPk _ _ | exact pure_rowSn _ _ | exact pure_rowFd _ _ | exact pure_rowBBB _ | exact pure_rowCl _ _ | exact pure_rowTb _ _ _ | refine And.intro ?_ ?_)) (by simp -dsimp -implicitDefEqProofs only [go_sem, Nat.reduceBEq, Nat.reduceAdd, Nat.reduceLeDiff, Nat.reduceSub, Int.reduceEq, h1, h3, h4, h14, h15, h16, hs1, hs12, byC2, headB]) ?_
    rintro r rfl
    simp -dsimp -implicitDefEqProofs only [go_sem, Nat.reduceBEq, Nat.reduceAdd, Nat.reduceLeDiff, Nat.reduceSub, Int.reduceEq, h1, h3, h4, h14, h15, h16, hs1, hs12, byC2, headB]
    refine ifB'.of (fun hg2 => ?_) (fun hg2 => ?_)
    · simp -dsimp -implicitDefEqProofs only [go_sem, Nat.reduceBEq, Nat.reduceAdd, Nat.reduceLeDiff, Nat.reduceSub, Int.reduceEq, h1, h3, h4, h14, h15, h16, hs1, hs12]
      refine em_f (fun h' => ?_)
      have := h'.2.2
      unfold msBody headB at this
      omega
    · simp -dsimp -implicitDefEqProofs only [go_sem, Nat.reduceBEq, Nat.reduceAdd, Nat.reduceLeDiff, Nat.reduceSub, Int.reduceEq, h1, h3, h4, h14, h15, h16, hs1, hs12]
      rw [encM_yes ⟨hok, hw, by unfold msBody headB; omega⟩]
      rfl
end Go.Ev
set_option linter.unusedSimpArgs false
set_option linter.unusedVariables false
namespace Go.Ev
open Go Go.RowKit Go.Proofs
def bbC (xs : List (List UInt8)) : List AV := [.row 25 1 (ra byC xs)]
def rowBBB (xs : List (List (List UInt8))) : AV := .row 39 1 (ra bbC xs)
theorem bbA_at {xs : List (List (List UInt8))} {i : Nat} (h : i < xs.length) : (ra bbC xs)[i]? = some [.row 25 1 (ra byC xs[i])] := ra_at h
theorem bbA_set (xs : List (List (List UInt8))) (i : Nat) (b : List (List UInt8)) : (ra bbC xs).set i [.row 25 1 (ra byC b)] = ra bbC (xs.set i b) := ra_set xs i b
theorem bbA_zeros (n : Nat) : List.replicate n [AV.row 25 1 []] = ra bbC (List.replicate n []) := by simp [ra, bbC]
theorem pure_rowBBB (xs : List (List (List UInt8))) : (rowBBB xs).pure := pureEls_ra (enc := bbC) (fun x => ⟨pureEls_ra (enc := byC) pure_byC x, trivial⟩) xs
def lenOk (xs : List (List UInt8)) (n : Nat) : Prop := xs.length ≤ n ∧ ∀ b ∈ xs, b.length ≤ n
theorem c_toByteSSS (xs : List (List (List UInt8))) (hx : xs.length ≤ 1048576) (hb : ∀ b ∈ xs, lenOk b 1048576) : Meets Try.prog 193 [rowBBB xs] (fun r => r = rowBBB xs) := by
  refine Meets.intro mixed (hint []) Try.func193 rfl (by decide) res_193 rty_193 (by kernel_rfl) ?_; 
  simp -dsimp -implicitDefEqProofs only [go_sem, Nat.reduceBEq, Nat.reduceAdd, Nat.reduceLeDiff, Nat.reduceSub, Int.reduceEq, rowBBB]
  refine ask.of (by omega) ?_
  refine LoopE.cnt xs.length (fun i s => s.env 0 = .rd .ent 39 1 (ra bbC xs) ∧ s.env 3 = .ref [7] ∧ s.env 4 = .v (.int .i64 i) ∧ s.σ [7] = some (.row 39 1 (ra bbC (xs.take i ++ List.replicate (xs.length - i) [])))) ⟨by simp -dsimp -implicitDefEqProofs only [go_sem, Nat.reduceBEq, Nat.reduceAdd, Nat.reduceLeDiff, Nat.reduceSub, Int.reduceEq, initE, rowBBB], by simp -dsimp -implicitDefEqProofs only [go_sem, Nat.reduceBEq, Nat.reduceAdd, Nat.reduceLeDiff, Nat.reduceSub, Int.reduceEq], by simp -dsimp -implicitDefEqProofs only [go_sem, Nat.reduceBEq, Nat.reduceAdd, Nat.reduceLeDiff, Nat.reduceSub, Int.reduceEq] <;> simp, by simp -dsimp -implicitDefEqProofs only [go_sem, Nat.reduceBEq, Nat.reduceAdd, Nat.reduceLeDiff, Nat.reduceSub, Int.reduceEq, bbA_zeros] <;> simp⟩ ?_
  rintro i ⟨e, σ⟩ hi ⟨h0, h3, h4, hs⟩ K hK
  simp only at h0 h3 h4 hs
  simp -dsimp -implicitDefEqProofs only [go_sem, Nat.reduceBEq, Nat.reduceAdd, Nat.reduceLeDiff, Nat.reduceSub, Int.reduceEq, h0, h3, h4, hs]
  refine ifB'.of (fun hlt => ?_) (fun hlt => ?_)
  · have hlt : i < xs.length := by omega
    have hbi := hb _ (List.getElem_mem hlt)
    simp -dsimp -implicitDefEqProofs only [go_sem, Nat.reduceBEq, Nat.reduceAdd, Nat.reduceLeDiff, Nat.reduceSub, Int.reduceEq, h0, h3, h4, hs, bbA_at hlt]
    repeat with_reducible refine ask.of (by omega) ?_
    refine CallE.of (c_toByteSS xs[i] hbi.1 hbi.2) (by rintro r rfl; (repeat' first | exact trivial | exact pure_rowB _ | exact pure_rowO _ | exact pure_rowI _ | exact pure_rowBB _ | exact pure_rowPk _ _ | exact pure_rowSn _ _ | exact pure_rowFd _ _ | exact pure_rowBBB _ | exact pure_rowCl _ _ | exact pure_rowTb _ _ _ | refine And.intro ?_ ?_)) (by simp -dsimp -implicitDefEqProofs only [go_sem, Nat.reduceBEq, Nat.reduceAdd, Nat.reduceLeDiff, Nat.reduceSub, Int.reduceEq, h0, h3, h4, hs]) ?_
    rintro r rfl
    simp -dsimp -implicitDefEqProofs only [go_sem, Nat.reduceBEq, Nat.reduceAdd, Nat.reduceLeDiff, Nat.reduceSub, Int.reduceEq, h0, h3, h4, hs]
    have hl : (List.take i xs ++ List.replicate (xs.length - i) []).length = xs.length := by simp; omega
    simp -dsimp -implicitDefEqProofs only [go_sem, Nat.reduceBEq, Nat.reduceAdd, Nat.reduceLeDiff, Nat.reduceSub, Int.reduceEq, h0, h3, h4, hs, hl]
    repeat with_reducible refine ask.of (by omega) ?_
    simp -dsimp -implicitDefEqProofs only [go_sem, Nat.reduceBEq, Nat.reduceAdd, Nat.reduceLeDiff, Nat.reduceSub, Int.reduceEq, h0, h3, h4, hs, bbA_at (show i < (List.take i xs ++ List.replicate (xs.length - i) []).length by omega)]
    refine hK _ hlt ?_
    simp -dsimp -implicitDefEqProofs only [go_sem, Nat.reduceBEq, Nat.reduceAdd, Nat.reduceLeDiff, Nat.reduceSub, Int.reduceEq, h0, h3, h4, hs, wrap_succ (show i < 4611686018427387904 by omega), bbA_set, fill_set xs [] hlt]
  · have : i = xs.length := by omega
    subst this
    simp -dsimp -implicitDefEqProofs only [go_sem, Nat.reduceBEq, Nat.reduceAdd, Nat.reduceLeDiff, Nat.reduceSub, Int.reduceEq, h0, h3, h4, hs]
    simp
theorem c_eqByteSSS (xs : List (List (List UInt8))) (hx : xs.length ≤ 8388608) (hb : ∀ b ∈ xs, lenOk b 1048576) : Meets Try.prog 118 [rowBBB xs, rowBBB xs] (fun r => r = .v (.bool true)) := by
  refine Meets.intro mixed (hint []) Try.func118 rfl (by decide) res_118 rty_118 (by kernel_rfl) ?_; 
  simp -dsimp -implicitDefEqProofs only [go_sem, Nat.reduceBEq, Nat.reduceAdd, Nat.reduceLeDiff, Nat.reduceSub, Int.reduceEq, decide_true, Bool.not_true, rowBBB]
  refine LoopE.cnt xs.length (fun i s => s.env 0 = .rd .ent 39 1 (ra bbC xs) ∧ s.env 1 = .rd .ent 39 1 (ra bbC xs) ∧ s.env 5 = .v (.int .i64 i)) ⟨by simp -dsimp -implicitDefEqProofs only [go_sem, Nat.reduceBEq, Nat.reduceAdd, Nat.reduceLeDiff, Nat.reduceSub, Int.reduceEq, initE, rowBBB], by simp -dsimp -implicitDefEqProofs only [go_sem, Nat.reduceBEq, Nat.reduceAdd, Nat.reduceLeDiff, Nat.reduceSub, Int.reduceEq, initE, rowBBB], by simp -dsimp -implicitDefEqProofs only [go_sem, Nat.reduceBEq, Nat.reduceAdd, Nat.reduceLeDiff, Nat.reduceSub, Int.reduceEq] <;> simp⟩ ?_
  rintro i ⟨e, σ⟩ hi ⟨h0, h1, h5⟩ K hK
  simp only at h0 h1 h5
  simp -dsimp -implicitDefEqProofs only [go_sem, Nat.reduceBEq, Nat.reduceAdd, Nat.reduceLeDiff, Nat.reduceSub, Int.reduceEq, h0, h1, h5]
  refine ifB'.of (fun hlt => ?_) (fun hlt => ?_)
  · have hlt : i < xs.length := by omega
    have hbi := hb _ (List.getElem_mem hlt)
    simp -dsimp -implicitDefEqProofs only [go_sem, Nat.reduceBEq, Nat.reduceAdd, Nat.reduceLeDiff, Nat.reduceSub, Int.reduceEq, h0, h1, h5, bbA_at hlt]
    repeat with_reducible refine ask.of (by omega) ?_
    refine CallE.of (c_eqByteSS xs[i] (by have := hbi.1; omega) (fun b h => by have := hbi.2 b h; omega)) (by rintro r rfl; (repeat' first | exact trivial | exact pure_rowB _ | exact pure_rowO _ | exact pure_rowI _ | exact pure_rowBB _ | exact pure_rowPk _ _ | exact pure_rowSn _ _ | exact pure_rowFd _ _ | exact pure_rowBBB _ | exact pure_rowCl _ _ | exact pure_rowTb _ _ _ | refine And.intro ?_ ?_)) (by simp -dsimp -implicitDefEqProofs only [go_sem, Nat.reduceBEq, Nat.reduceAdd, Nat.reduceLeDiff, Nat.reduceSub, Int.reduceEq, h0, h1, h5, Bool.not_true]) ?_
    rintro r rfl
    simp -dsimp -implicitDefEqProofs only [go_sem, Nat.reduceBEq, Nat.reduceAdd, Nat.reduceLeDiff, Nat.reduceSub, Int.reduceEq, h0, h1, h5, Bool.not_true]
    refine hK _ hlt ?_
    simp -dsimp -implicitDefEqProofs only [go_sem, Nat.reduceBEq, Nat.reduceAdd, Nat.reduceLeDiff, Nat.reduceSub, Int.reduceEq, h0, h1, h5, wrap_succ (show i < 4611686018427387904 by omega)]
  · simp -dsimp -implicitDefEqProofs only [go_sem, Nat.reduceBEq, Nat.reduceAdd, Nat.reduceLeDiff, Nat.reduceSub, Int.reduceEq, h0, h1, h5]
structure Sm where
  o : Bool
  fs : List Fd
  s : Int
  ds : List (List (List UInt8))
def smC (T : Nat) (x : Sm) : List AV := [.v (.bool x.o), .row T 3 (ra fdC x.fs), .v (.int .i64 x.s), .row 39 1 (ra bbC x.ds)]
theorem c_toStream (x : Sm) (h1 : x.fs.length ≤ 1048576) (h2 : ∀ b ∈ x.fs, b.f.length ≤ 1048576) (h3 : x.ds.length ≤ 1048576) (h4 : ∀ b ∈ x.ds, lenOk b 1048576) : Meets Try.prog 152 [.agg (smC 74 x)] (fun r => r = .agg (smC 78 x)) := by
  refine Meets.intro mixed (hint []) Try.func152 rfl (by decide) res_152 rty_152 (by kernel_rfl) ?_; 
  simp -dsimp -implicitDefEqProofs only [go_sem, Nat.reduceBEq, Nat.reduceAdd, Nat.reduceLeDiff, Nat.reduceSub, Int.reduceEq, smC]
  repeat (first | with_reducible refine ask.of (by omega) ?_ | simp -dsimp -implicitDefEqProofs only [go_sem, Nat.reduceBEq, Nat.reduceAdd, Nat.reduceLeDiff, Nat.reduceSub, Int.reduceEq, bleF])
  refine CallE.of (c_toFieldS x.fs h1 h2) (by rintro r rfl; (repeat' first | exact trivial | exact pure_rowB _ | exact pure_rowO _ | exact pure_rowI _ | exact pure_rowBB _ | exact pure_rowPk _ _ | exact pure_rowSn _ _ | exact pure_rowFd _ _ | exact pure_rowBBB _ | exact pure_rowCl _ _ | exact pure_rowTb _ _ _ | refine And.intro ?_ ?_)) (by simp -dsimp -implicitDefEqProofs only [go_sem, Nat.reduceBEq, Nat.reduceAdd, Nat.reduceLeDiff, Nat.reduceSub, Int.reduceEq, rowFd]) ?_
  rintro r rfl
  simp -dsimp -implicitDefEqProofs only [go_sem, Nat.reduceBEq, Nat.reduceAdd, Nat.reduceLeDiff, Nat.reduceSub, Int.reduceEq, rowFd]
  repeat (first | with_reducible refine ask.of (by omega) ?_ | simp -dsimp -implicitDefEqProofs only [go_sem, Nat.reduceBEq, Nat.reduceAdd, Nat.reduceLeDiff, Nat.reduceSub, Int.reduceEq, bleF])
  refine CallE.of (c_toByteSSS x.ds h3 h4) (by rintro r rfl; (repeat' first | exact trivial | exact pure_rowB _ | exact pure_rowO _ | exact pure_rowI _ | exact pure_rowBB _ | exact pure_rowPk _ _ | exact pure_rowSn _ _ | exact pure_rowFd _ _ | exact pure_rowBBB _ | exact pure_rowCl _ _ | exact pure_rowTb _ _ _ | refine And.intro ?_ ?_)) (by simp -dsimp -implicitDefEqProofs only [go_sem, Nat.reduceBEq, Nat.reduceAdd, Nat.reduceLeDiff, Nat.reduceSub, Int.reduceEq, rowBBB]) ?_
  rintro r rfl
  simp -dsimp -implicitDefEqProofs only [go_sem, Nat.reduceBEq, Nat.reduceAdd, Nat.reduceLeDiff, Nat.reduceSub, Int.reduceEq, rowBBB]
  repeat (first | with_reducible refine ask.of (by omega) ?_ | simp -dsimp -implicitDefEqProofs only [go_sem, Nat.reduceBEq, Nat.reduceAdd, Nat.reduceLeDiff, Nat.reduceSub, Int.reduceEq, bleF])
theorem c_eqStream (x : Sm) (h1 : x.fs.length ≤ 1048576) (h2 : ∀ b ∈ x.fs, b.f.length ≤ 1048576) (h3 : x.ds.length ≤ 1048576) (h4 : ∀ b ∈ x.ds, lenOk b 1048576) : Meets Try.prog 39 [.agg (smC 78 x), .agg (smC 78 x)] (fun r => r = .v (.bool true)) := by
  refine Meets.intro mixed (hint []) Try.func39 rfl (by decide) res_39 rty_39 (by kernel_rfl) ?_; 
  simp -dsimp -implicitDefEqProofs only [go_sem, Nat.reduceBEq, Nat.reduceAdd, Nat.reduceLeDiff, Nat.reduceSub, Int.reduceEq, smC, decide_true]
  repeat (first | with_reducible refine ask.of (by omega) ?_ | simp -dsimp -implicitDefEqProofs only [go_sem, Nat.reduceBEq, Nat.reduceAdd, Nat.reduceLeDiff, Nat.reduceSub, Int.reduceEq, bleF, decide_true])
  refine CallE.of (c_eqFieldS x.fs h1 h2) (by rintro r rfl; (repeat' first | exact trivial | exact pure_rowB _ | exact pure_rowO _ | exact pure_rowI _ | exact pure_rowBB _ | exact pure_rowPk _ _ | exact pure_rowSn _ _ | exact pure_rowFd _ _ | exact pure_rowBBB _ | exact pure_rowCl _ _ | exact pure_rowTb _ _ _ | refine And.intro ?_ ?_)) (by simp -dsimp -implicitDefEqProofs only [go_sem, Nat.reduceBEq, Nat.reduceAdd, Nat.reduceLeDiff, Nat.reduceSub, Int.reduceEq, rowFd, Bool.not_true]) ?_
  rintro r rfl
  simp -dsimp -implicitDefEqProofs only [go_sem, Nat.reduceBEq, Nat.reduceAdd, Nat.reduceLeDiff, Nat.reduceSub, Int.reduceEq, rowFd, Bool.not_true]
  repeat (first | with_reducible refine ask.of (by omega) ?_ | simp -dsimp -implicitDefEqProofs only [go_sem, Nat.reduceBEq, Nat.reduceAdd, Nat.reduceLeDiff, Nat.reduceSub, Int.reduceEq, bleF, decide_true])
  refine CallE.of (c_eqByteSSS x.ds (by omega) h4) (by rintro r rfl; (repeat' first | exact trivial | exact pure_rowB _ | exact pure_rowO _ | exact pure_rowI _ | exact pure_rowBB _ | exact pure_rowPk _ _ | exact pure_rowSn _ _ | exact pure_rowFd _ _ | exact pure_rowBBB _ | exact pure_rowCl _ _ | exact pure_rowTb _ _ _ | refine And.intro ?_ ?_)) (by simp -dsimp -implicitDefEqProofs only [go_sem, Nat.reduceBEq, Nat.reduceAdd, Nat.reduceLeDiff, Nat.reduceSub, Int.reduceEq, rowBBB, Bool.not_true]) ?_
  rintro r rfl
  simp -dsimp -implicitDefEqProofs only [go_sem, Nat.reduceBEq, Nat.reduceAdd, Nat.reduceLeDiff, Nat.reduceSub, Int.reduceEq, rowBBB, Bool.not_true]
end Go.Ev
set_option linter.unusedSimpArgs false
set_option linter.unusedVariables false
namespace Go.Ev
open Go Go.RowKit Go.Proofs
theorem c_l1copy (b : List UInt8) (hb : b.length ≤ 8388608) : Meets Try.prog 82 [rowB b] (fun r => r = rowB b) := by
  refine Meets.intro mixed (hint [(3, 125)]) Try.func82 rfl (by decide) res_82 rty_82 (by kernel_rfl) ?_; 
  simp -dsimp -implicitDefEqProofs only [go_sem, Nat.reduceBEq, Nat.reduceAdd, Nat.reduceLeDiff, Nat.reduceSub, Int.reduceEq, initE]
  repeat (first | with_reducible refine ask.of (by first | omega | (simp only [List.length_nil]; omega)) ?_ | simp -dsimp -implicitDefEqProofs only [go_sem, Nat.reduceBEq, Nat.reduceAdd, Nat.reduceLeDiff, Nat.reduceSub, Int.reduceEq, List.nil_append])
end Go.Ev
set_option linter.unusedSimpArgs false
set_option linter.unusedVariables false
namespace Go.Ev
open Go Go.RowKit Go.Proofs
theorem c_bytesClone (b : List UInt8) (hb : b.length ≤ 8388608) : Meets Try.prog 88 [rowB b] (fun r => r = rowB b) := by
  refine Meets.intro mixed (hint []) Try.func88 rfl (by decide) res_88 rty_88 (by kernel_rfl) ?_; 
  simp -dsimp -implicitDefEqProofs only [go_sem, Nat.reduceBEq, Nat.reduceAdd, Nat.reduceLeDiff, Nat.reduceSub, Int.reduceEq, initE]
  refine nilE'.of (fun h => ?_) ?_
  · have h : b = [] := by simpa [bytesA] using h
    subst h
    simp -dsimp -implicitDefEqProofs only [go_sem, Nat.reduceBEq, Nat.reduceAdd, Nat.reduceLeDiff, Nat.reduceSub, Int.reduceEq]
    rfl
  · simp -dsimp -implicitDefEqProofs only [go_sem, Nat.reduceBEq, Nat.reduceAdd, Nat.reduceLeDiff, Nat.reduceSub, Int.reduceEq]
    repeat (first | with_reducible refine ask.of (by first | omega | decide | (simp; omega)) ?_ | simp -dsimp -implicitDefEqProofs only [go_sem, Nat.reduceBEq, Nat.reduceAdd, Nat.reduceLeDiff, Nat.reduceSub, Int.reduceEq, List.nil_append])
end Go.Ev
set_option linter.unusedSimpArgs false
set_option linter.unusedVariables false
namespace Go.Ev
open Go Go.RowKit Go.Proofs
theorem bl3 : Nat.ble 1 3 = true ∧ Nat.ble 2 3 = true ∧ Nat.ble 3 3 = true ∧ Nat.ble 1 4 = true ∧ Nat.ble 2 4 = true ∧ Nat.ble 3 4 = true ∧ Nat.ble 4 4 = true := ⟨rfl, rfl, rfl, rfl, rfl, rfl, rfl⟩
theorem fd_snoc (xs : List Fd) (x : Fd) : ra fdC xs ++ [[.row 5 1 (bytesA x.f), .v (.int .i64 x.k), .v (.int .i64 x.w)]] = ra fdC (xs ++ [x]) := by simp [ra, fdC]
theorem fd_takeS {xs : List Fd} {i : Nat} (h : i < xs.length) : ra fdC (xs.take i) ++ [[.row 5 1 (bytesA xs[i].f), .v (.int .i64 xs[i].k), .v (.int .i64 xs[i].w)]] = ra fdC (xs.take (i + 1)) := by rw [fd_snoc, List.take_succ_eq_append_getElem h]
set_option maxRecDepth 8000 in
theorem c_l4fields (xs : List Fd) (hx : xs.length ≤ 1048576) (hb : ∀ b ∈ xs, b.f.length ≤ 1048576) : Meets Try.prog 178 [rowFd 78 xs] (fun r => r = rowFd 78 xs) := by
  refine Meets.introO mixed (hint [(3, 158)]) (fun k => (sel (k == 5) [0,1,2,3,4,5,7,8,9,10,11,12,13,14,15,16,6,17,18,19,20] [])) Try.func178 rfl (by decide) res_178 rty_178 (by kernel_rfl) ?_; 
  simp -dsimp -implicitDefEqProofs only [go_sem, Nat.reduceBEq, Nat.reduceAdd, Nat.reduceLeDiff, Nat.reduceSub, Int.reduceEq, rowFd]
  refine LoopE.cnt xs.length (fun i s => s.env 0 = .rd .ent 78 3 (ra fdC xs) ∧ s.env 3 = .ref [3] ∧ s.env 4 = .v (.int .i64 i) ∧ s.σ [3] = some (.row 78 3 (ra fdC (xs.take i)))) ⟨by simp -dsimp -implicitDefEqProofs only [go_sem, Nat.reduceBEq, Nat.reduceAdd, Nat.reduceLeDiff, Nat.reduceSub, Int.reduceEq, initE, rowFd], by simp -dsimp -implicitDefEqProofs only [go_sem, Nat.reduceBEq, Nat.reduceAdd, Nat.reduceLeDiff, Nat.reduceSub, Int.reduceEq], by simp -dsimp -implicitDefEqProofs only [go_sem, Nat.reduceBEq, Nat.reduceAdd, Nat.reduceLeDiff, Nat.reduceSub, Int.reduceEq] <;> rfl, by simp -dsimp -implicitDefEqProofs only [go_sem, Nat.reduceBEq, Nat.reduceAdd, Nat.reduceLeDiff, Nat.reduceSub, Int.reduceEq] <;> rfl⟩ ?_
  rintro i ⟨e, σ⟩ hi ⟨h0, h3, h4, hs⟩ K hK
  simp only at h0 h3 h4 hs
  simp -dsimp -implicitDefEqProofs only [go_sem, Nat.reduceBEq, Nat.reduceAdd, Nat.reduceLeDiff, Nat.reduceSub, Int.reduceEq, h0, h3, h4, hs]
  refine ifB'.of (fun hlt => ?_) (fun hlt => ?_)
  · have hlt : i < xs.length := by omega
    repeat (first | with_reducible refine ask.of (by omega) ?_ | simp -dsimp -implicitDefEqProofs only [go_sem, Nat.reduceBEq, Nat.reduceAdd, Nat.reduceLeDiff, Nat.reduceSub, Int.reduceEq, h0, h3, h4, hs, Fd_at hlt, fdC, bl3])
    refine CallE.of (c_l1copy xs[i].f (by have := hb _ (List.getElem_mem hlt); omega)) (by rintro r rfl; (repeat' first | exact trivial | exact pure_rowB _ | exact pure_rowO _ | exact pure_rowI _ | exact pure_rowBB _ | exact pure_rowPk _ _ | exact pure_rowSn _ _ | exact pure_rowFd _ _ | exact pure_rowBBB _ | exact pure_rowCl _ _ | exact pure_rowTb _ _ _ | refine And.intro ?_ ?_)) (by simp -dsimp -implicitDefEqProofs only [go_sem, Nat.reduceBEq, Nat.reduceAdd, Nat.reduceLeDiff, Nat.reduceSub, Int.reduceEq, h0, h3, h4, hs]) ?_
    rintro r rfl
    simp -dsimp -implicitDefEqProofs only [go_sem, Nat.reduceBEq, Nat.reduceAdd, Nat.reduceLeDiff, Nat.reduceSub, Int.reduceEq, h0, h3, h4, hs]
    repeat (first | with_reducible refine ask.of (by first | omega | decide | (simp; omega)) ?_ | simp -dsimp -implicitDefEqProofs only [go_sem, Nat.reduceBEq, Nat.reduceAdd, Nat.reduceLeDiff, Nat.reduceSub, Int.reduceEq, h0, h3, h4, hs, Fd_at hlt, fdC, bl3])
    refine hK _ hlt ?_
    simp -dsimp -implicitDefEqProofs only [go_sem, Nat.reduceBEq, Nat.reduceAdd, Nat.reduceLeDiff, Nat.reduceSub, Int.reduceEq, h0, h3, h4, hs, wrap_succ (show i < 4611686018427387904 by omega), fd_takeS hlt]
  · have : i = xs.length := by omega
    subst this
    simp -dsimp -implicitDefEqProofs only [go_sem, Nat.reduceBEq, Nat.reduceAdd, Nat.reduceLeDiff, Nat.reduceSub, Int.reduceEq, h0, h3, h4, hs, List.take_length]
set_option maxRecDepth 8000 in
theorem c_fieldsCopy (xs : List Fd) (hx : xs.length ≤ 1048576) (hb : ∀ b ∈ xs, b.f.length ≤ 1048576) : Meets Try.prog 116 [rowFd 78 xs] (fun r => r = rowFd 78 xs) := by
  refine Meets.intro mixed (hint []) Try.func116 rfl (by decide) res_116 rty_116 (by kernel_rfl) ?_; 
  simp -dsimp -implicitDefEqProofs only [go_sem, Nat.reduceBEq, Nat.reduceAdd, Nat.reduceLeDiff, Nat.reduceSub, Int.reduceEq, rowFd]
  repeat (first | with_reducible refine ask.of (by first | omega | decide) ?_ | simp -dsimp -implicitDefEqProofs only [go_sem, Nat.reduceBEq, Nat.reduceAdd, Nat.reduceLeDiff, Nat.reduceSub, Int.reduceEq, initE, rowFd])
  refine LoopE.cnt xs.length (fun i s => s.env 3 = .ref [6] ∧ s.env 7 = .rd .ent 78 3 (ra fdC xs) ∧ s.env 8 = .v (.int .i64 xs.length) ∧ s.env 9 = .v (.int .i64 i) ∧ s.σ [6] = some (.row 78 3 (ra fdC (xs.take i)))) ⟨by simp -dsimp -implicitDefEqProofs only [go_sem, Nat.reduceBEq, Nat.reduceAdd, Nat.reduceLeDiff, Nat.reduceSub, Int.reduceEq], by simp -dsimp -implicitDefEqProofs only [go_sem, Nat.reduceBEq, Nat.reduceAdd, Nat.reduceLeDiff, Nat.reduceSub, Int.reduceEq, initE, rowFd], by simp -dsimp -implicitDefEqProofs only [go_sem, Nat.reduceBEq, Nat.reduceAdd, Nat.reduceLeDiff, Nat.reduceSub, Int.reduceEq, initE, rowFd], by simp -dsimp -implicitDefEqProofs only [go_sem, Nat.reduceBEq, Nat.reduceAdd, Nat.reduceLeDiff, Nat.reduceSub, Int.reduceEq] <;> rfl, by simp -dsimp -implicitDefEqProofs only [go_sem, Nat.reduceBEq, Nat.reduceAdd, Nat.reduceLeDiff, Nat.reduceSub, Int.reduceEq] <;> rfl⟩ ?_
  rintro i ⟨e, σ⟩ hi ⟨h3, h7, h8, h9, hs⟩ K hK
  simp only at h3 h7 h8 h9 hs
  simp -dsimp -implicitDefEqProofs only [go_sem, Nat.reduceBEq, Nat.reduceAdd, Nat.reduceLeDiff, Nat.reduceSub, Int.reduceEq, h3, h7, h8, h9, hs]
  refine ifB'.of (fun hlt => ?_) (fun hlt => ?_)
  · have hlt : i < xs.length := by omega
    repeat (first | with_reducible refine ask.of (by first | omega | decide) ?_ | simp -dsimp -implicitDefEqProofs only [go_sem, Nat.reduceBEq, Nat.reduceAdd, Nat.reduceLeDiff, Nat.reduceSub, Int.reduceEq, h3, h7, h8, h9, hs, Fd_at hlt, fdC, bl3])
    refine CallE.of (c_bytesClone xs[i].f (by have := hb _ (List.getElem_mem hlt); omega)) (by rintro r rfl; (repeat' first | exact trivial | exact pure_rowB _ | exact pure_rowO _ | exact pure_rowI _ | exact pure_rowBB _ | exact pure_rowPk _ _ | exact pure_rowSn _ _ | exact pure_rowFd _ _ | exact pure_rowBBB _ | exact pure_rowCl _ _ | exact pure_rowTb _ _ _ | refine And.intro ?_ ?_)) (by simp -dsimp -implicitDefEqProofs only [go_sem, Nat.reduceBEq, Nat.reduceAdd, Nat.reduceLeDiff, Nat.reduceSub, Int.reduceEq, h3, h7, h8, h9, hs]) ?_
    rintro r rfl
    simp -dsimp -implicitDefEqProofs only [go_sem, Nat.reduceBEq, Nat.reduceAdd, Nat.reduceLeDiff, Nat.reduceSub, Int.reduceEq, h3, h7, h8, h9, hs]
    repeat (first | with_reducible refine ask.of (by first | omega | decide | (simp; omega)) ?_ | simp -dsimp -implicitDefEqProofs only [go_sem, Nat.reduceBEq, Nat.reduceAdd, Nat.reduceLeDiff, Nat.reduceSub, Int.reduceEq, h3, h7, h8, h9, hs, Fd_at hlt, fdC, bl3])
    refine hK _ hlt ?_
    simp -dsimp -implicitDefEqProofs only [go_sem, Nat.reduceBEq, Nat.reduceAdd, Nat.reduceLeDiff, Nat.reduceSub, Int.reduceEq, h3, h7, h8, h9, hs, wrap_succ (show i < 4611686018427387904 by omega), fd_takeS hlt]
  · have : i = xs.length := by omega
    subst this
    simp -dsimp -implicitDefEqProofs only [go_sem, Nat.reduceBEq, Nat.reduceAdd, Nat.reduceLeDiff, Nat.reduceSub, Int.reduceEq, h3, h7, h8, h9, hs, List.take_length]
def hdF (x : Fd) : List UInt8 := [UInt8.ofNat x.k.toNat, UInt8.ofNat x.w.toNat] ++ x.f
def hdMs (fs : List Fd) (next : Int) : Ms := ⟨1, 0, fs.length, leB 8 next :: fs.map hdF⟩
def sm0 : Sm := ⟨false, [], 0, []⟩
def stSm (fs : List Fd) (next : Int) : Sm := ⟨true, fs, next, List.replicate fs.length []⟩
def stL (fs : List Fd) (next : Int) : Sm × List UInt8 × Int := if okF fs ∧ 0 ≤ next ∧ next ≤ 1000000000 then (stSm fs next, msBody (hdMs fs next), 0) else (sm0, [], 1)
theorem stL_no {fs : List Fd} {next : Int} (h : ¬ (okF fs ∧ 0 ≤ next ∧ next ≤ 1000000000)) : stL fs next = (sm0, [], 1) := if_neg h
theorem stL_yes {fs : List Fd} {next : Int} (h : okF fs ∧ 0 ≤ next ∧ next ≤ 1000000000) : stL fs next = (stSm fs next, msBody (hdMs fs next), 0) := if_pos h
def resS (x : Sm × List UInt8 × Int) : AV := .tup [.agg (smC 78 x.1), rowB x.2.1, .v (.int .i64 x.2.2)]
theorem fd_byte {x : Fd} (h : fdOk x) : IntKind.u8.wrap x.k = ((UInt8.ofNat x.k.toNat).toNat : Int) ∧ IntKind.u8.wrap x.w = ((UInt8.ofNat x.w.toNat).toNat : Int) := by
  have h1 : 0 ≤ x.k ∧ 0 ≤ x.w := by rcases h.2 with h | h <;> omega
  obtain ⟨n, hn⟩ := Int.eq_ofNat_of_zero_le h1.1
  obtain ⟨m, hm⟩ := Int.eq_ofNat_of_zero_le h1.2
  rw [hn, hm]; exact ⟨u8_of_nat n, u8_of_nat m⟩
theorem hd_take {fs : List Fd} {i : Nat} (h : i < fs.length) (l : List UInt8) : (l :: (fs.take i).map hdF) ++ [hdF fs[i]] = l :: (fs.take (i + 1)).map hdF := by
  rw [List.take_succ_eq_append_getElem h, List.map_append, List.cons_append]; rfl
theorem fd_name {x : Fd} (h : fdOk x) : x.f.length ≤ 20 := h.1.2.1
theorem hd_w {fs : List Fd} (h : ∀ x ∈ fs, fdOk x) : wBB (fs.map hdF) ≤ 22 * fs.length := by
  induction fs with
  | nil => simp [wBB, szL]
  | cons x fs ih =>
    have h1 := fd_name (h x List.mem_cons_self)
    have h2 := ih fun y hy => h y (List.mem_cons_of_mem _ hy)
    simp only [wBB, szL, List.map_cons, List.sum_cons, List.length_cons, hdF, List.length_append, List.length_nil] at h2 ⊢
    omega
theorem hd_wBB {fs : List Fd} {next : Int} (h : okF fs) : wBB (hdMs fs next).bs ≤ 272 := by
  have h1 := hd_w h.2.1
  have h2 := h.1.2
  show wBB (leB 8 next :: fs.map hdF) ≤ 272
  simp only [wBB, szL, List.map_cons, List.sum_cons, leB_length] at h1 ⊢
  omega
theorem hd_ok {fs : List Fd} {next : Int} (h : okF fs) : msOk (hdMs fs next) := by
  have h2 := h.1
  refine ⟨Int.le_refl 1, by show (1 : Int) ≤ 4; omega, Int.le_refl 0, by show (0 : Int) < 12; omega, by show (0 : Int) ≤ (fs.length : Int); omega, by show (fs.length : Int) ≤ 1000; omega, by show (leB 8 next :: fs.map hdF).length ≤ 40; simp; omega, .inl rfl⟩
theorem msBody_len (x : Ms) : (msBody x).length ≤ 12 + (5 * x.bs.length + wBB x.bs + 7 * (x.bs.length + 1)) := by
  have h1 := joinA_len (lensB x.bs :: x.bs)
  have h2 := lensB_length x.bs
  unfold msBody
  rw [sumB_length]
  simp only [wBB, szL, List.map_cons, List.map_nil, List.sum_cons, List.sum_nil, List.length_cons] at h1 ⊢
  have h3 : (headB x).length = 8 := rfl
  omega
theorem hd_enc {fs : List Fd} {next : Int} (h : okF fs) : encM (hdMs fs next) = msBody (hdMs fs next) := by
  have h1 := hd_wBB (next := next) h
  have h2 := msBody_len (hdMs fs next)
  have h3 : (hdMs fs next).bs.length = fs.length + 1 := by show (leB 8 next :: fs.map hdF).length = _; simp
  have h4 := h.1.2
  exact encM_yes ⟨hd_ok h, by omega, by omega⟩
set_option maxRecDepth 8000 in
theorem c_l4begin (fs : List Fd) (next : Int) (hx : fs.length ≤ 1048576) (hb : ∀ b ∈ fs, b.f.length ≤ 1048576) : Meets Try.prog 112 [rowFd 78 fs, .v (.int .i64 next)] (fun r => r = .agg (smC 78 (stSm fs next))) := by
  refine Meets.introO mixed (hint []) (fun k => (sel (k == 1) [999,0,2,3,4,1005,1,5,6,7] [])) Try.func112 rfl (by decide) res_112 rty_112 (by kernel_rfl) ?_; 
  simp -dsimp -implicitDefEqProofs only [go_sem, Nat.reduceBEq, Nat.reduceAdd, Nat.reduceLeDiff, Nat.reduceSub, Int.reduceEq, rowFd]
  repeat (first | with_reducible refine ask.of (by first | omega | decide) ?_ | simp -dsimp -implicitDefEqProofs only [go_sem, Nat.reduceBEq, Nat.reduceAdd, Nat.reduceLeDiff, Nat.reduceSub, Int.reduceEq, initE, rowFd, bl3])
  refine CallE.of (c_l4fields fs hx hb) (by rintro r rfl; (repeat' first | exact trivial | exact pure_rowB _ | exact pure_rowO _ | exact pure_rowI _ | exact pure_rowBB _ | exact pure_rowPk _ _ | exact pure_rowSn _ _ | exact pure_rowFd _ _ | exact pure_rowBBB _ | exact pure_rowCl _ _ | exact pure_rowTb _ _ _ | refine And.intro ?_ ?_)) (by simp -dsimp -implicitDefEqProofs only [go_sem, Nat.reduceBEq, Nat.reduceAdd, Nat.reduceLeDiff, Nat.reduceSub, Int.reduceEq, rowFd]) ?_
  rintro r rfl
  simp -dsimp -implicitDefEqProofs only [go_sem, Nat.reduceBEq, Nat.reduceAdd, Nat.reduceLeDiff, Nat.reduceSub, Int.reduceEq, rowFd]
  repeat (first | with_reducible refine ask.of (by first | omega | decide) ?_ | simp -dsimp -implicitDefEqProofs only [go_sem, Nat.reduceBEq, Nat.reduceAdd, Nat.reduceLeDiff, Nat.reduceSub, Int.reduceEq, initE, rowFd, bl3, bbA_zeros])
  rfl
end Go.Ev
set_option linter.unusedSimpArgs false
set_option linter.unusedVariables false
namespace Go.Ev
open Go Go.RowKit Go.Proofs
theorem hd_len {fs : List Fd} {next : Int} (hx : fs.length ≤ 1048576) (h1 : fs.length ≤ 12) (hw : wBB (hdMs fs next).bs ≤ 272) : (hdMs fs next).bs.length + wBB (hdMs fs next).bs ≤ 1048576 := by
  have : (hdMs fs next).bs.length = fs.length + 1 := by simp [hdMs]
  omega
set_option maxRecDepth 8000 in
theorem c_specStartStream (fs : List Fd) (next : Int) (hx : fs.length ≤ 1048576) (hb : ∀ b ∈ fs, b.f.length ≤ 1048576) : Meets Try.prog 36 [rowFd 78 fs, .v (.int .i64 next)] (fun r => r = resS (stL fs next)) := by
  refine Meets.introO mixed (hint []) (fun k => (sel (k == 8) [997,1,9,3,0,2,3,4,5,6,7,9,10,8,11,12,13,14,15] (sel (k == 9) [0,1,3,2,4,5,6,7] []))) Try.func36 rfl (by decide) res_36 rty_36 (by kernel_rfl) ?_; 
  simp -dsimp -implicitDefEqProofs only [go_sem, Nat.reduceBEq, Nat.reduceAdd, Nat.reduceLeDiff, Nat.reduceSub, Int.reduceEq, rowFd]
  repeat (first | with_reducible refine ask.of (by first | omega | decide) ?_ | simp -dsimp -implicitDefEqProofs only [go_sem, Nat.reduceBEq, Nat.reduceAdd, Nat.reduceLeDiff, Nat.reduceSub, Int.reduceEq, initE, rowFd, bl3])
  refine CallE.of (c_sValidFields fs hx hb) (by rintro r rfl; (repeat' first | exact trivial | exact pure_rowB _ | exact pure_rowO _ | exact pure_rowI _ | exact pure_rowBB _ | exact pure_rowPk _ _ | exact pure_rowSn _ _ | exact pure_rowFd _ _ | exact pure_rowBBB _ | exact pure_rowCl _ _ | exact pure_rowTb _ _ _ | refine And.intro ?_ ?_)) (by simp -dsimp -implicitDefEqProofs only [go_sem, Nat.reduceBEq, Nat.reduceAdd, Nat.reduceLeDiff, Nat.reduceSub, Int.reduceEq, rowFd]) ?_
  rintro r rfl
  simp -dsimp -implicitDefEqProofs only [go_sem, Nat.reduceBEq, Nat.reduceAdd, Nat.reduceLeDiff, Nat.reduceSub, Int.reduceEq, rowFd]
  by_cases h : okF fs ∧ 0 ≤ next ∧ next ≤ 1000000000
  · rw [stL_yes h, decide_eq_true h.1]
    repeat' (first | with_reducible refine ask.of (by first | omega | decide) ?_ | with_reducible refine ifB'.no (by omega) ?_ | simp -dsimp -implicitDefEqProofs only [go_sem, Nat.reduceBEq, Nat.reduceAdd, Nat.reduceLeDiff, Nat.reduceSub, Int.reduceEq, initE, rowFd, bl3, Bool.not_true, decide_true, decide_false])
    refine CallE.of (c_l1little next 8 (by decide)) (by rintro r rfl; (repeat' first | exact trivial | exact pure_rowB _ | exact pure_rowO _ | exact pure_rowI _ | exact pure_rowBB _ | exact pure_rowPk _ _ | exact pure_rowSn _ _ | exact pure_rowFd _ _ | exact pure_rowBBB _ | exact pure_rowCl _ _ | exact pure_rowTb _ _ _ | refine And.intro ?_ ?_)) (by simp -dsimp -implicitDefEqProofs only [go_sem, Nat.reduceBEq, Nat.reduceAdd, Nat.reduceLeDiff, Nat.reduceSub, Int.reduceEq, show ((8 : Nat) : Int) = 8 from rfl]) ?_
    rintro r rfl
    simp -dsimp -implicitDefEqProofs only [go_sem, Nat.reduceBEq, Nat.reduceAdd, Nat.reduceLeDiff, Nat.reduceSub, Int.reduceEq, show ((8 : Nat) : Int) = 8 from rfl]
    repeat' (first | with_reducible refine ask.of (by first | omega | decide) ?_ | simp -dsimp -implicitDefEqProofs only [go_sem, Nat.reduceBEq, Nat.reduceAdd, Nat.reduceLeDiff, Nat.reduceSub, Int.reduceEq, initE, rowFd, bl3, ra_length])
    have hf := h.1.2.1
    refine LoopE.cnt fs.length (fun i s => s.env 0 = .rd .ent 78 3 (ra fdC fs) ∧ s.env 1 = .v (.int .i64 next) ∧ s.env 4 = .ptr [4] 0 0 0 ∧ s.env 5 = .v (.slice none 0 0) ∧ s.env 6 = .v (.int .i64 0) ∧ s.env 7 = .ptr [7] 0 0 0 ∧ s.env 8 = .v (.int .i64 i) ∧
      s.σ [4] = some (.box 61 [.v (.bool false), .v (.slice none 0 0), .v (.int .i64 0), .v (.slice none 0 0)]) ∧ s.σ [7] = some (.box 163 [.v (.int .i64 1), .v (.int .i64 0), .v (.int .i64 fs.length), .ref [26]]) ∧ s.σ [26] = some (.row 25 1 (ra byC (leB 8 next :: (fs.take i).map hdF)))) ⟨by simp -dsimp -implicitDefEqProofs only [go_sem, Nat.reduceBEq, Nat.reduceAdd, Nat.reduceLeDiff, Nat.reduceSub, Int.reduceEq, initE, rowFd], by simp -dsimp -implicitDefEqProofs only [go_sem, Nat.reduceBEq, Nat.reduceAdd, Nat.reduceLeDiff, Nat.reduceSub, Int.reduceEq, initE], by simp -dsimp -implicitDefEqProofs only [go_sem, Nat.reduceBEq, Nat.reduceAdd, Nat.reduceLeDiff, Nat.reduceSub, Int.reduceEq], by simp -dsimp -implicitDefEqProofs only [go_sem, Nat.reduceBEq, Nat.reduceAdd, Nat.reduceLeDiff, Nat.reduceSub, Int.reduceEq], by simp -dsimp -implicitDefEqProofs only [go_sem, Nat.reduceBEq, Nat.reduceAdd, Nat.reduceLeDiff, Nat.reduceSub, Int.reduceEq], by simp -dsimp -implicitDefEqProofs only [go_sem, Nat.reduceBEq, Nat.reduceAdd, Nat.reduceLeDiff, Nat.reduceSub, Int.reduceEq], by simp -dsimp -implicitDefEqProofs only [go_sem, Nat.reduceBEq, Nat.reduceAdd, Nat.reduceLeDiff, Nat.reduceSub, Int.reduceEq] <;> rfl, by simp -dsimp -implicitDefEqProofs only [go_sem, Nat.reduceBEq, Nat.reduceAdd, Nat.reduceLeDiff, Nat.reduceSub, Int.reduceEq], by simp -dsimp -implicitDefEqProofs only [go_sem, Nat.reduceBEq, Nat.reduceAdd, Nat.reduceLeDiff, Nat.reduceSub, Int.reduceEq], by simp -dsimp -implicitDefEqProofs only [go_sem, Nat.reduceBEq, Nat.reduceAdd, Nat.reduceLeDiff, Nat.reduceSub, Int.reduceEq] <;> rfl⟩ ?_
    rintro i ⟨e, σ⟩ hi ⟨h0, h1, h4, h5, h6, h7, h8, hs4, hs7, hs26⟩ K hK
    simp only at h0 h1 h4 h5 h6 h7 h8 hs4 hs7 hs26
    simp -dsimp -implicitDefEqProofs only [go_sem, Nat.reduceBEq, Nat.reduceAdd, Nat.reduceLeDiff, Nat.reduceSub, Int.reduceEq, h0, h1, h4, h5, h6, h7, h8, hs4, hs7, hs26]
    refine ifB'.of (fun hlt => ?_) (fun hlt => ?_)
    · have hlt : i < fs.length := by omega
      repeat (first | with_reducible refine ask.of (by first | omega | decide) ?_ | simp -dsimp -implicitDefEqProofs only [go_sem, Nat.reduceBEq, Nat.reduceAdd, Nat.reduceLeDiff, Nat.reduceSub, Int.reduceEq, h0, h1, h4, h5, h6, h7, h8, hs4, hs7, hs26, Fd_at hlt, fdC, bl3])
      have hfd := hf fs[i] (List.getElem_mem hlt)
      have hnm := fd_name hfd
      have hby := fd_byte hfd
      repeat' (first | with_reducible refine And.intro ?_ ?_ | with_reducible refine ask.of (by first | omega | decide | (simp; omega)) ?_ | simp -dsimp -implicitDefEqProofs only [go_sem, Nat.reduceBEq, Nat.reduceAdd, Nat.reduceLeDiff, Nat.reduceSub, Int.reduceEq, h0, h1, h4, h5, h6, h7, h8, hs4, hs7, hs26, Fd_at hlt, fdC, bl3, List.take_succ_cons])
      all_goals
        refine hK _ hlt ?_
        simp -dsimp -implicitDefEqProofs only [go_sem, Nat.reduceBEq, Nat.reduceAdd, Nat.reduceLeDiff, Nat.reduceSub, Int.reduceEq, h0, h1, h4, h5, h6, h7, h8, hs4, hs7, hs26, wrap_succ (show i < 4611686018427387904 by omega), hby.1, hby.2]
        have ee : ra byC (leB 8 next :: (fs.take i).map hdF) ++ [[AV.row 5 1 (bytesA (hdF fs[i]))]] = ra byC (leB 8 next :: (fs.take (i + 1)).map hdF) := by
          rw [← hd_take hlt]; simp [ra, byC]
        exact congrArg (fun z => some (OB.row 25 1 z)) ee
    · have hlt : i = fs.length := by omega
      subst hlt
      have hw := hd_wBB (next := next) h.1
      rw [List.take_length] at hs26
      repeat' (first | with_reducible refine ask.of (by first | omega | decide) ?_ | simp -dsimp -implicitDefEqProofs only [go_sem, Nat.reduceBEq, Nat.reduceAdd, Nat.reduceLeDiff, Nat.reduceSub, Int.reduceEq, h0, h1, h4, h5, h6, h7, h8, hs4, hs7, hs26, bl3])
      refine CallE.of (c_l4begin fs next hx hb) (by rintro r rfl; (repeat' first | exact trivial | exact pure_rowB _ | exact pure_rowO _ | exact pure_rowI _ | exact pure_rowBB _ | exact pure_rowPk _ _ | exact pure_rowSn _ _ | exact pure_rowFd _ _ | exact pure_rowBBB _ | exact pure_rowCl _ _ | exact pure_rowTb _ _ _ | refine And.intro ?_ ?_)) (by simp -dsimp -implicitDefEqProofs only [go_sem, Nat.reduceBEq, Nat.reduceAdd, Nat.reduceLeDiff, Nat.reduceSub, Int.reduceEq, h0, h1, h4, h5, h6, h7, h8, hs4, hs7, hs26, rowFd, smC, stSm]) ?_
      rintro r rfl
      simp -dsimp -implicitDefEqProofs only [go_sem, Nat.reduceBEq, Nat.reduceAdd, Nat.reduceLeDiff, Nat.reduceSub, Int.reduceEq, h0, h1, h4, h5, h6, h7, h8, hs4, hs7, hs26, rowFd, smC, stSm]
      repeat' (first | with_reducible refine ask.of (by first | omega | decide) ?_ | simp -dsimp -implicitDefEqProofs only [go_sem, Nat.reduceBEq, Nat.reduceAdd, Nat.reduceLeDiff, Nat.reduceSub, Int.reduceEq, h0, h1, h4, h5, h6, h7, h8, hs4, hs7, hs26])
      refine CallE.of (c_l4encode (hdMs fs next) (hd_ok h.1) (by omega)) (by rintro r rfl; (repeat' first | exact trivial | exact pure_rowB _ | exact pure_rowO _ | exact pure_rowI _ | exact pure_rowBB _ | exact pure_rowPk _ _ | exact pure_rowSn _ _ | exact pure_rowFd _ _ | exact pure_rowBBB _ | exact pure_rowCl _ _ | exact pure_rowTb _ _ _ | refine And.intro ?_ ?_)) (by simp -dsimp -implicitDefEqProofs only [go_sem, Nat.reduceBEq, Nat.reduceAdd, Nat.reduceLeDiff, Nat.reduceSub, Int.reduceEq, h0, h1, h4, h5, h6, h7, h8, hs4, hs7, hs26, hdMs, msC]) ?_
      rintro r rfl
      simp -dsimp -implicitDefEqProofs only [go_sem, Nat.reduceBEq, Nat.reduceAdd, Nat.reduceLeDiff, Nat.reduceSub, Int.reduceEq, h0, h1, h4, h5, h6, h7, h8, hs4, hs7, hs26, hdMs, msC]
      repeat' (first | with_reducible refine ask.of (by first | omega | decide) ?_ | simp -dsimp -implicitDefEqProofs only [go_sem, Nat.reduceBEq, Nat.reduceAdd, Nat.reduceLeDiff, Nat.reduceSub, Int.reduceEq, h0, h1, h4, h5, h6, h7, h8, hs4, hs7, hs26, bl3])
      rfl
  · rw [stL_no h]
    repeat' (first | exact absurd ⟨by assumption, by omega, by omega⟩ h | with_reducible refine ask.of (by first | omega | decide) ?_ | ((with_reducible refine ifB'.of (fun _ => ?_) (fun _ => ?_))) | simp -dsimp -implicitDefEqProofs only [go_sem, Nat.reduceBEq, Nat.reduceAdd, Nat.reduceLeDiff, Nat.reduceSub, Int.reduceEq, bl3, Bool.not_true, Bool.not_false, decide_true, decide_false])
    all_goals rfl
set_option maxRecDepth 8000 in
theorem c_implStartStream (fs : List Fd) (next : Int) (hx : fs.length ≤ 1048576) (hb : ∀ b ∈ fs, b.f.length ≤ 1048576) : Meets Try.prog 38 [rowFd 78 fs, .v (.int .i64 next)] (fun r => r = resS (stL fs next)) := by
  refine Meets.introO mixed (hint []) (fun k => (sel (k == 9) [996,0,2,3,4,7,914,1,906,5,6,8,9,10,11,8,5,6,9,10,11,5,1,6,8,9,10,11] (sel (k == 7) [997,1,9,3,0,2,3,4,5,6,7,9,10,8,11,12,13,14,15] []))) Try.func38 rfl (by decide) res_38 rty_38 (by kernel_rfl) ?_; 
  simp -dsimp -implicitDefEqProofs only [go_sem, Nat.reduceBEq, Nat.reduceAdd, Nat.reduceLeDiff, Nat.reduceSub, Int.reduceEq, rowFd]
  repeat (first | with_reducible refine ask.of (by first | omega | decide) ?_ | simp -dsimp -implicitDefEqProofs only [go_sem, Nat.reduceBEq, Nat.reduceAdd, Nat.reduceLeDiff, Nat.reduceSub, Int.reduceEq, initE, rowFd, bl3])
  refine CallE.of (c_iValidFields fs hx hb) (by rintro r rfl; (repeat' first | exact trivial | exact pure_rowB _ | exact pure_rowO _ | exact pure_rowI _ | exact pure_rowBB _ | exact pure_rowPk _ _ | exact pure_rowSn _ _ | exact pure_rowFd _ _ | exact pure_rowBBB _ | exact pure_rowCl _ _ | exact pure_rowTb _ _ _ | refine And.intro ?_ ?_)) (by simp -dsimp -implicitDefEqProofs only [go_sem, Nat.reduceBEq, Nat.reduceAdd, Nat.reduceLeDiff, Nat.reduceSub, Int.reduceEq, rowFd]) ?_
  rintro r rfl
  simp -dsimp -implicitDefEqProofs only [go_sem, Nat.reduceBEq, Nat.reduceAdd, Nat.reduceLeDiff, Nat.reduceSub, Int.reduceEq, rowFd]
  by_cases h : okF fs ∧ 0 ≤ next ∧ next ≤ 1000000000
  · rw [stL_yes h, decide_eq_true h.1]
    repeat' (first | with_reducible refine ask.of (by first | omega | decide) ?_ | with_reducible refine ifB'.no (by omega) ?_ | simp -dsimp -implicitDefEqProofs only [go_sem, Nat.reduceBEq, Nat.reduceAdd, Nat.reduceLeDiff, Nat.reduceSub, Int.reduceEq, initE, rowFd, bl3, Bool.not_true, decide_true, decide_false])
    refine CallE.of (c_number next 8 (by decide)) (by rintro r rfl; (repeat' first | exact trivial | exact pure_rowB _ | exact pure_rowO _ | exact pure_rowI _ | exact pure_rowBB _ | exact pure_rowPk _ _ | exact pure_rowSn _ _ | exact pure_rowFd _ _ | exact pure_rowBBB _ | exact pure_rowCl _ _ | exact pure_rowTb _ _ _ | refine And.intro ?_ ?_)) (by simp -dsimp -implicitDefEqProofs only [go_sem, Nat.reduceBEq, Nat.reduceAdd, Nat.reduceLeDiff, Nat.reduceSub, Int.reduceEq, show ((8 : Nat) : Int) = 8 from rfl]) ?_
    rintro r rfl
    simp -dsimp -implicitDefEqProofs only [go_sem, Nat.reduceBEq, Nat.reduceAdd, Nat.reduceLeDiff, Nat.reduceSub, Int.reduceEq, show ((8 : Nat) : Int) = 8 from rfl]
    repeat' (first | with_reducible refine ask.of (by first | omega | decide) ?_ | simp -dsimp -implicitDefEqProofs only [go_sem, Nat.reduceBEq, Nat.reduceAdd, Nat.reduceLeDiff, Nat.reduceSub, Int.reduceEq, initE, rowFd, bl3, ra_length])
    have hf := h.1.2.1
    refine LoopE.cnt fs.length (fun i s => s.env 0 = .rd .ent 78 3 (ra fdC fs) ∧ s.env 1 = .v (.int .i64 next) ∧ s.env 4 = .ptr [4] 0 0 0 ∧ s.env 5 = .v (.slice none 0 0) ∧ s.env 6 = .v (.int .i64 0) ∧ s.env 7 = .ptr [7] 0 0 0 ∧ s.env 28 = .rd .ent 78 3 (ra fdC fs) ∧ s.env 29 = .v (.int .i64 fs.length) ∧ s.env 30 = .v (.int .i64 i) ∧
      s.σ [4] = some (.box 61 [.v (.bool false), .v (.slice none 0 0), .v (.int .i64 0), .v (.slice none 0 0)]) ∧ s.σ [7] = some (.box 163 [.v (.int .i64 1), .v (.int .i64 0), .v (.int .i64 fs.length), .ref [26]]) ∧ s.σ [26] = some (.row 25 1 (ra byC (leB 8 next :: (fs.take i).map hdF)))) ⟨by simp -dsimp -implicitDefEqProofs only [go_sem, Nat.reduceBEq, Nat.reduceAdd, Nat.reduceLeDiff, Nat.reduceSub, Int.reduceEq, initE, rowFd], by simp -dsimp -implicitDefEqProofs only [go_sem, Nat.reduceBEq, Nat.reduceAdd, Nat.reduceLeDiff, Nat.reduceSub, Int.reduceEq, initE], by simp -dsimp -implicitDefEqProofs only [go_sem, Nat.reduceBEq, Nat.reduceAdd, Nat.reduceLeDiff, Nat.reduceSub, Int.reduceEq], by simp -dsimp -implicitDefEqProofs only [go_sem, Nat.reduceBEq, Nat.reduceAdd, Nat.reduceLeDiff, Nat.reduceSub, Int.reduceEq], by simp -dsimp -implicitDefEqProofs only [go_sem, Nat.reduceBEq, Nat.reduceAdd, Nat.reduceLeDiff, Nat.reduceSub, Int.reduceEq], by simp -dsimp -implicitDefEqProofs only [go_sem, Nat.reduceBEq, Nat.reduceAdd, Nat.reduceLeDiff, Nat.reduceSub, Int.reduceEq], by simp -dsimp -implicitDefEqProofs only [go_sem, Nat.reduceBEq, Nat.reduceAdd, Nat.reduceLeDiff, Nat.reduceSub, Int.reduceEq, initE, rowFd], by simp -dsimp -implicitDefEqProofs only [go_sem, Nat.reduceBEq, Nat.reduceAdd, Nat.reduceLeDiff, Nat.reduceSub, Int.reduceEq, initE, rowFd, ra_length], by simp -dsimp -implicitDefEqProofs only [go_sem, Nat.reduceBEq, Nat.reduceAdd, Nat.reduceLeDiff, Nat.reduceSub, Int.reduceEq] <;> rfl, by simp -dsimp -implicitDefEqProofs only [go_sem, Nat.reduceBEq, Nat.reduceAdd, Nat.reduceLeDiff, Nat.reduceSub, Int.reduceEq], by simp -dsimp -implicitDefEqProofs only [go_sem, Nat.reduceBEq, Nat.reduceAdd, Nat.reduceLeDiff, Nat.reduceSub, Int.reduceEq], by simp -dsimp -implicitDefEqProofs only [go_sem, Nat.reduceBEq, Nat.reduceAdd, Nat.reduceLeDiff, Nat.reduceSub, Int.reduceEq] <;> rfl⟩ ?_
    rintro i ⟨e, σ⟩ hi ⟨h0, h1, h4, h5, h6, h7, h28, h29, h8, hs4, hs7, hs26⟩ K hK
    simp only at h0 h1 h4 h5 h6 h7 h28 h29 h8 hs4 hs7 hs26
    simp -dsimp -implicitDefEqProofs only [go_sem, Nat.reduceBEq, Nat.reduceAdd, Nat.reduceLeDiff, Nat.reduceSub, Int.reduceEq, h0, h1, h4, h5, h6, h7, h28, h29, h8, hs4, hs7, hs26]
    refine ifB'.of (fun hlt => ?_) (fun hlt => ?_)
    · have hlt : i < fs.length := by omega
      repeat (first | with_reducible refine ask.of (by first | omega | decide) ?_ | simp -dsimp -implicitDefEqProofs only [go_sem, Nat.reduceBEq, Nat.reduceAdd, Nat.reduceLeDiff, Nat.reduceSub, Int.reduceEq, h0, h1, h4, h5, h6, h7, h28, h29, h8, hs4, hs7, hs26, Fd_at hlt, fdC, bl3])
      have hfd := hf fs[i] (List.getElem_mem hlt)
      have hnm := fd_name hfd
      have hby := fd_byte hfd
      repeat' (first | with_reducible refine And.intro ?_ ?_ | with_reducible refine ask.of (by first | omega | decide | (simp; omega)) ?_ | simp -dsimp -implicitDefEqProofs only [go_sem, Nat.reduceBEq, Nat.reduceAdd, Nat.reduceLeDiff, Nat.reduceSub, Int.reduceEq, h0, h1, h4, h5, h6, h7, h28, h29, h8, hs4, hs7, hs26, Fd_at hlt, fdC, bl3, List.take_succ_cons])
      all_goals
        refine hK _ hlt ?_
        simp -dsimp -implicitDefEqProofs only [go_sem, Nat.reduceBEq, Nat.reduceAdd, Nat.reduceLeDiff, Nat.reduceSub, Int.reduceEq, h0, h1, h4, h5, h6, h7, h28, h29, h8, hs4, hs7, hs26, wrap_succ (show i < 4611686018427387904 by omega), hby.1, hby.2]
        have ee : ra byC (leB 8 next :: (fs.take i).map hdF) ++ [[AV.row 5 1 (bytesA (hdF fs[i]))]] = ra byC (leB 8 next :: (fs.take (i + 1)).map hdF) := by
          rw [← hd_take hlt]; simp [ra, byC]
        exact congrArg (fun z => some (OB.row 25 1 z)) ee
    · have hlt : i = fs.length := by omega
      subst hlt
      have hw := hd_wBB (next := next) h.1
      rw [List.take_length] at hs26
      have he : encM { k := 1, f := 0, n := (fs.length : Int), bs := leB 8 next :: fs.map hdF } = msBody (hdMs fs next) := hd_enc h.1
      repeat' (first
        | with_reducible refine ask.of (by omega) ?_
        | (with_reducible refine And.intro ?_ ?_)
        | (refine CallE.of (c_fieldsCopy fs hx hb) ?_ ?_ ?_; rotate_left; (· (simp -dsimp -implicitDefEqProofs only [go_sem, Nat.reduceBEq, Nat.reduceAdd, Nat.reduceLeDiff, Nat.reduceSub, Int.reduceEq, h0, h1, h4, h5, h6, h7, h28, h29, h8, hs4, hs7, hs26, bl3, hdMs, msC, rowFd]; done)); rotate_left; (· (rintro r rfl; (repeat' first | exact trivial | exact pure_rowB _ | exact pure_rowO _ | exact pure_rowI _ | exact pure_rowBB _ | exact pure_rowPk _ _ | exact pure_rowSn _ _ | exact pure_rowFd _ _ | exact pure_rowBBB _ | exact pure_rowCl _ _ | exact pure_rowTb _ _ _ | refine And.intro ?_ ?_))); rintro r rfl; try simp -dsimp -implicitDefEqProofs only [go_sem, Nat.reduceBEq, Nat.reduceAdd, Nat.reduceLeDiff, Nat.reduceSub, Int.reduceEq, h0, h1, h4, h5, h6, h7, h28, h29, h8, hs4, hs7, hs26, bl3, hdMs, msC, rowFd])
        | (refine CallE.of (c_implEncodeMessage (hdMs fs next) (hd_len hx h.1.1.2 hw)) ?_ ?_ ?_; rotate_left; (· (simp -dsimp -implicitDefEqProofs only [go_sem, Nat.reduceBEq, Nat.reduceAdd, Nat.reduceLeDiff, Nat.reduceSub, Int.reduceEq, h0, h1, h4, h5, h6, h7, h28, h29, h8, hs4, hs7, hs26, bl3, hdMs, msC, rowFd]; done)); rotate_left; (· (rintro r rfl; (repeat' first | exact trivial | exact pure_rowB _ | exact pure_rowO _ | exact pure_rowI _ | exact pure_rowBB _ | exact pure_rowPk _ _ | exact pure_rowSn _ _ | exact pure_rowFd _ _ | exact pure_rowBBB _ | exact pure_rowCl _ _ | exact pure_rowTb _ _ _ | refine And.intro ?_ ?_))); rintro r rfl; try simp -dsimp -implicitDefEqProofs only [go_sem, Nat.reduceBEq, Nat.reduceAdd, Nat.reduceLeDiff, Nat.reduceSub, Int.reduceEq, h0, h1, h4, h5, h6, h7, h28, h29, h8, hs4, hs7, hs26, bl3, hdMs, msC, rowFd])
        | with_reducible refine ifB'.no (by omega) ?_
        | simp -dsimp -implicitDefEqProofs only [go_sem, Nat.reduceBEq, Nat.reduceAdd, Nat.reduceLeDiff, Nat.reduceSub, Int.reduceEq, h0, h1, h4, h5, h6, h7, h28, h29, h8, hs4, hs7, hs26, bl3, hdMs, msC, rowFd])
      all_goals
        rw [he, bbA_zeros]; rfl
  · rw [stL_no h]
    repeat' (first | exact absurd ⟨by assumption, by omega, by omega⟩ h | with_reducible refine ask.of (by first | omega | decide) ?_ | ((with_reducible refine ifB'.of (fun _ => ?_) (fun _ => ?_))) | simp -dsimp -implicitDefEqProofs only [go_sem, Nat.reduceBEq, Nat.reduceAdd, Nat.reduceLeDiff, Nat.reduceSub, Int.reduceEq, bl3, Bool.not_true, Bool.not_false, decide_true, decide_false])
    all_goals rfl
end Go.Ev
set_option linter.unusedSimpArgs false
set_option linter.unusedVariables false
namespace Go.Ev
open Go Go.RowKit Go.Proofs
structure Tb where
  r : Int
  c : List Cl
def tbC (T : Nat) (x : Tb) : List AV := [.v (.int .i64 x.r), .row T 3 (ra clC x.c)]
def dstep (acc : List (List UInt8)) (c : Cl) : List (List UInt8) := if c.z = false ∧ c.f ∉ acc then acc ++ [c.f] else acc
def dst (xs : List Cl) : List (List UInt8) := xs.foldl dstep []
end Go.Ev
set_option linter.unusedSimpArgs false
set_option linter.unusedVariables false
namespace Go.Ev
open Go Go.RowKit Go.Proofs
def rowTb (T C : Nat) (xs : List Tb) : AV := .row T 2 (ra (tbC C) xs)
theorem bl22 : Nat.ble 1 2 = true ∧ Nat.ble 2 2 = true := ⟨rfl, rfl⟩
theorem pure_rowTb (T C : Nat) (xs : List Tb) : (rowTb T C xs).pure := pureEls_ra (enc := tbC C) (fun x => ⟨trivial, pureEls_ra (enc := clC) (fun x => ⟨trivial, trivial, pureEls_bytes _, trivial⟩) x.c, trivial⟩) xs
end Go.Ev
set_option linter.unusedSimpArgs false
set_option linter.unusedVariables false
namespace Go.Ev
open Go Go.RowKit Go.Proofs
structure Sn where
  p : Pk
  q : Int
def snC (s : Sn) : List AV := [.v (.int .i64 s.p.a), .v (.int .i64 s.p.b), .v (.int .i64 s.p.c), .v (.int .i64 s.p.d), .v (.bool s.p.e), .row 5 1 (bytesA s.p.f), .v (.int .i64 s.q)]
def rowPk (T : Nat) (ps : List Pk) : AV := .row T 6 (ra pkC ps)
def rowSn (T : Nat) (ps : List Sn) : AV := .row T 7 (ra snC ps)
theorem pure_rowPk (T : Nat) (ps : List Pk) : (rowPk T ps).pure := pureEls_ra (enc := pkC) (fun x => ⟨trivial, trivial, trivial, trivial, trivial, pureEls_bytes _, trivial⟩) ps
theorem pure_rowSn (T : Nat) (ps : List Sn) : (rowSn T ps).pure := pureEls_ra (enc := snC) (fun x => ⟨trivial, trivial, trivial, trivial, trivial, pureEls_bytes _, trivial, trivial⟩) ps
end Go.Ev
set_option linter.unusedSimpArgs false
set_option linter.unusedVariables false
namespace Go.Ev
open Go Go.RowKit Go.Proofs
theorem wrapM (m j : Nat) (h : m + j < 4611686018427387904) : IntKind.i64.wrap (((m + j : Nat) : Int) + 1) = ((m + (j + 1) : Nat) : Int) := by rw [wrap_i64_of (by omega) (by omega)]; omega
end Go.Ev
set_option linter.unusedSimpArgs false
set_option linter.unusedVariables false
namespace Go.Ev
open Go Go.RowKit Go.Proofs
def mkFd (k : Nat) (c : Fd) : Fd := ⟨mkB k c.f.length, ((k + c.f.length : Nat) : Int), ((k + c.f.length + 1 : Nat) : Int)⟩
def szFd (c : Fd) : Nat := c.f.length + 2
def mkFdS (k : Nat) (xs : List Fd) : List Fd := mkL mkFd szFd k xs
theorem mkFd_at' {xs : List Fd} {i : Nat} {s : Fd} (h : xs[i]? = some s) : (ra fdC xs)[i]? = some (fdC s) := ra_at' h
theorem mkFd_set (xs : List Fd) (i : Nat) (s : Fd) : (ra fdC xs).set i [.row 5 1 (bytesA s.f), .v (.int .i64 s.k), .v (.int .i64 s.w)] = ra fdC (xs.set i s) := ra_set (enc := fdC) xs i s
set_option maxHeartbeats 4000000 in
set_option maxRecDepth 8000 in
theorem c_markFieldS (xs : List Fd) (k : Nat) (hk : k + szL szFd xs ≤ 4611686018427387904) (hx : xs.length ≤ 1048576) (hb : ∀ b ∈ xs, b.f.length ≤ 1048576) : MeetsM Try.prog 41 [.mu (rowFd 78 xs), .rd (.v (.int .i64 k))] (fun r rs => r = .v (.int .i64 ((k + szL szFd xs : Nat) : Int)) ∧ rs = [rowFd 78 (mkFdS k xs), .any]) := by
  refine MeetsM.intro mixed (hint []) Try.func41 rfl (by decide) res_41 rty_41 (pts := parTys Try.prog 41) (by rw [par_41]; rfl) (by kernel_rfl) ?_; rw [par_41]; intro vals; 
  simp -dsimp -implicitDefEqProofs only [go_sem, Nat.reduceBEq, Nat.reduceAdd, Nat.reduceLeDiff, Nat.reduceSub, Int.reduceEq, rowFd]
  refine LoopE.cnt xs.length (fun i s => s.env 0 = .ref [1000000, 0] ∧ s.env 1 = .v (.int .i64 ((k + szL szFd (xs.take i) : Nat) : Int)) ∧ s.env 5 = .v (.int .i64 i) ∧ s.σ [1000000, 0] = some (.row 78 3 (ra fdC (mkLP mkFd szFd k xs i))) ∧ s.σ [1000001, 0] = some (.pin (.ref [1000000, 0]) (vals 0))) ⟨by simp -dsimp -implicitDefEqProofs only [go_sem, Nat.reduceBEq, Nat.reduceAdd, Nat.reduceLeDiff, Nat.reduceSub, Int.reduceEq], by simp -dsimp -implicitDefEqProofs only [go_sem, Nat.reduceBEq, Nat.reduceAdd, Nat.reduceLeDiff, Nat.reduceSub, Int.reduceEq] <;> simp [szL], by simp -dsimp -implicitDefEqProofs only [go_sem, Nat.reduceBEq, Nat.reduceAdd, Nat.reduceLeDiff, Nat.reduceSub, Int.reduceEq] <;> simp, by simp -dsimp -implicitDefEqProofs only [go_sem, Nat.reduceBEq, Nat.reduceAdd, Nat.reduceLeDiff, Nat.reduceSub, Int.reduceEq, mkLP_zero], by simp -dsimp -implicitDefEqProofs only [go_sem, Nat.reduceBEq, Nat.reduceAdd, Nat.reduceLeDiff, Nat.reduceSub, Int.reduceEq]⟩ ?_
  rintro i ⟨e, σ⟩ hi ⟨h0, h1, h5, hs, hp⟩ K hK
  simp only at h0 h1 h5 hs hp
  have hl := mkLP_length mkFd szFd k hi
  simp -dsimp -implicitDefEqProofs only [go_sem, Nat.reduceBEq, Nat.reduceAdd, Nat.reduceLeDiff, Nat.reduceSub, Int.reduceEq, h0, h1, h5, hs, hp, hl]
  refine ifB'.of (fun hlt => ?_) (fun hlt => ?_)
  · have hlt : i < xs.length := by omega
    have hw := szL_at_le szFd hlt
    have hpb := hb _ (List.getElem_mem hlt)
    have hat := mkFd_at' (mkLP_at mkFd szFd k hlt)
    have hgs : ∀ c : List AV, ((ra fdC (mkLP mkFd szFd k xs i)).set i c)[i]? = some c := fun c => by rw [List.getElem?_set_self]; rw [ra_length]; omega
    obtain ⟨m, hm⟩ : ∃ m, k + szL szFd (xs.take i) = m := ⟨_, rfl⟩
    rw [hm] at h1
    have hwm : m + szFd xs[i] ≤ 4611686018427387904 := by omega
    unfold szFd at hwm
    repeat (first | with_reducible refine ask.of (by first | omega | decide | (simp [hl]; omega)) ?_ | simp -dsimp -implicitDefEqProofs only [go_sem, Nat.reduceBEq, Nat.reduceAdd, Nat.reduceLeDiff, Nat.reduceSub, Int.reduceEq, h0, h1, h5, hs, hp, hl, hat, fdC, hgs, List.set_set, List.length_set, bl3])
    refine CallE.mut (c_markByteS xs[i].f m (by omega) (by omega)) (by simp -dsimp -implicitDefEqProofs only [go_sem, Nat.reduceBEq, Nat.reduceAdd, Nat.reduceLeDiff, Nat.reduceSub, Int.reduceEq, h0, h1, h5, hs, hp]) (by rintro r rs ⟨rfl, rfl⟩; exact ⟨by (repeat' first | exact trivial | exact pure_rowB _ | exact pure_rowO _ | exact pure_rowI _ | exact pure_rowBB _ | exact pure_rowPk _ _ | exact pure_rowSn _ _ | exact pure_rowFd _ _ | exact pure_rowBBB _ | exact pure_rowCl _ _ | exact pure_rowTb _ _ _ | refine And.intro ?_ ?_), by first | exact ⟨by (repeat' first | exact trivial | exact pure_rowB _ | exact pure_rowO _ | exact pure_rowI _ | exact pure_rowBB _ | exact pure_rowPk _ _ | exact pure_rowSn _ _ | exact pure_rowFd _ _ | exact pure_rowBBB _ | exact pure_rowCl _ _ | exact pure_rowTb _ _ _ | refine And.intro ?_ ?_), trivial⟩ | exact ⟨by (repeat' first | exact trivial | exact pure_rowB _ | exact pure_rowO _ | exact pure_rowI _ | exact pure_rowBB _ | exact pure_rowPk _ _ | exact pure_rowSn _ _ | exact pure_rowFd _ _ | exact pure_rowBBB _ | exact pure_rowCl _ _ | exact pure_rowTb _ _ _ | refine And.intro ?_ ?_), trivial, trivial⟩⟩) (by simp -dsimp -implicitDefEqProofs only [go_sem, Nat.reduceBEq, Nat.reduceAdd, Nat.reduceLeDiff, Nat.reduceSub, Int.reduceEq, h0, h1, h5, hs, hp, hgs, hat, List.set_set, fdC]) (by simp -dsimp -implicitDefEqProofs only [go_sem, Nat.reduceBEq, Nat.reduceAdd, Nat.reduceLeDiff, Nat.reduceSub, Int.reduceEq, h0, h1, h5, hs, hp, hgs, hat, List.set_set, fdC]) ?_
    rintro r rs ⟨rfl, rfl⟩
    simp -dsimp -implicitDefEqProofs only [go_sem, Nat.reduceBEq, Nat.reduceAdd, Nat.reduceLeDiff, Nat.reduceSub, Int.reduceEq, h0, h1, h5, hs, hp, hgs, hat, List.set_set, fdC]
    have e0 : IntKind.i64.wrap (((m + xs[i].f.length : Nat) : Int) + 1) = ((m + xs[i].f.length + 1 : Nat) : Int) := wrapM (m + xs[i].f.length) 0 (by omega)
    have e1 : IntKind.i64.wrap (((m + xs[i].f.length + 1 : Nat) : Int) + 1) = ((m + xs[i].f.length + 2 : Nat) : Int) := wrapM (m + xs[i].f.length) 1 (by omega)
    repeat (first | with_reducible refine ask.of (by first | omega | decide | (simp [hl]; omega)) ?_ | simp -dsimp -implicitDefEqProofs only [go_sem, Nat.reduceBEq, Nat.reduceAdd, Nat.reduceLeDiff, Nat.reduceSub, Int.reduceEq, h0, h1, h5, hs, hp, hl, hgs, List.set_set, List.length_set, bl3, e0, e1])
    refine hK _ hlt ?_
    simp -dsimp -implicitDefEqProofs only [go_sem, Nat.reduceBEq, Nat.reduceAdd, Nat.reduceLeDiff, Nat.reduceSub, Int.reduceEq, h0, h1, h5, hs, hp, hgs, List.set_set, wrap_succ (show i < 4611686018427387904 by omega), szL_take_succ szFd hlt]
    refine ⟨by rw [← hm]; unfold szFd; omega, ?_⟩
    rw [← mkLP_set mkFd szFd k hlt (y := mkFd m xs[i]) (by rw [hm]), ← mkFd_set]
    rfl
  · have : i = xs.length := by omega
    subst this
    simp -dsimp -implicitDefEqProofs only [go_sem, Nat.reduceBEq, Nat.reduceAdd, Nat.reduceLeDiff, Nat.reduceSub, Int.reduceEq, h0, h1, h5, hs, hp, mkLP_full, List.take_length]
    rfl
set_option maxHeartbeats 4000000 in
set_option maxRecDepth 8000 in
theorem c_heldFieldS (xs : List Fd) (k : Nat) (hk : k + szL szFd xs ≤ 4611686018427387904) (hx : xs.length ≤ 1048576) (hb : ∀ b ∈ xs, b.f.length ≤ 1048576) : Meets Try.prog 120 [rowFd 78 (mkFdS k xs), .v (.int .i64 k)] (fun r => r = .v (.int .i64 ((k + szL szFd xs : Nat) : Int))) := by
  refine Meets.intro mixed (hint []) Try.func120 rfl (by decide) res_120 rty_120 (by kernel_rfl) ?_; 
  simp -dsimp -implicitDefEqProofs only [go_sem, Nat.reduceBEq, Nat.reduceAdd, Nat.reduceLeDiff, Nat.reduceSub, Int.reduceEq, rowFd]
  refine LoopE.cnt xs.length (fun i s => s.env 0 = .rd .ent 78 3 (ra fdC (mkFdS k xs)) ∧ s.env 1 = .v (.int .i64 ((k + szL szFd (xs.take i) : Nat) : Int)) ∧ s.env 5 = .v (.int .i64 i)) ⟨by simp -dsimp -implicitDefEqProofs only [go_sem, Nat.reduceBEq, Nat.reduceAdd, Nat.reduceLeDiff, Nat.reduceSub, Int.reduceEq, initE, rowFd], by simp -dsimp -implicitDefEqProofs only [go_sem, Nat.reduceBEq, Nat.reduceAdd, Nat.reduceLeDiff, Nat.reduceSub, Int.reduceEq, initE] <;> simp [szL], by simp -dsimp -implicitDefEqProofs only [go_sem, Nat.reduceBEq, Nat.reduceAdd, Nat.reduceLeDiff, Nat.reduceSub, Int.reduceEq] <;> simp⟩ ?_
  rintro i ⟨e, σ⟩ hi ⟨h0, h1, h5⟩ K hK
  simp only at h0 h1 h5
  have hl : (mkFdS k xs).length = xs.length := mkL_length mkFd szFd k xs
  simp -dsimp -implicitDefEqProofs only [go_sem, Nat.reduceBEq, Nat.reduceAdd, Nat.reduceLeDiff, Nat.reduceSub, Int.reduceEq, h0, h1, h5, hl]
  refine ifB'.of (fun hlt => ?_) (fun hlt => ?_)
  · have hlt : i < xs.length := by omega
    have hw := szL_at_le szFd hlt
    have hpb := hb _ (List.getElem_mem hlt)
    have hat := mkFd_at' (mkL_at mkFd szFd k hlt)
    obtain ⟨m, hm⟩ : ∃ m, k + szL szFd (xs.take i) = m := ⟨_, rfl⟩
    rw [hm] at h1 hat
    have hat : (ra fdC (mkFdS k xs))[i]? = some (fdC (mkFd m xs[i])) := hat
    have hwm : m + szFd xs[i] ≤ 4611686018427387904 := by omega
    unfold szFd at hwm
    repeat (first | with_reducible refine ask.of (by first | omega | decide | (simp [hl]; omega)) ?_ | simp -dsimp -implicitDefEqProofs only [go_sem, Nat.reduceBEq, Nat.reduceAdd, Nat.reduceLeDiff, Nat.reduceSub, Int.reduceEq, h0, h1, h5, hl, hat, fdC, mkFd, bl3, decide_true, Bool.not_true])
    refine CallE.of (c_heldByteS m xs[i].f.length (by omega) (by omega)) (by rintro r rfl; (repeat' first | exact trivial | exact pure_rowB _ | exact pure_rowO _ | exact pure_rowI _ | exact pure_rowBB _ | exact pure_rowPk _ _ | exact pure_rowSn _ _ | exact pure_rowFd _ _ | exact pure_rowBBB _ | exact pure_rowCl _ _ | exact pure_rowTb _ _ _ | refine And.intro ?_ ?_)) (by simp -dsimp -implicitDefEqProofs only [go_sem, Nat.reduceBEq, Nat.reduceAdd, Nat.reduceLeDiff, Nat.reduceSub, Int.reduceEq, h0, h1, h5, mkB, fdC]) ?_
    rintro r rfl
    simp -dsimp -implicitDefEqProofs only [go_sem, Nat.reduceBEq, Nat.reduceAdd, Nat.reduceLeDiff, Nat.reduceSub, Int.reduceEq, h0, h1, h5, mkB, fdC]
    with_reducible refine ifB'.no (by omega) ?_
    have e0 : IntKind.i64.wrap (((m + xs[i].f.length : Nat) : Int) + 1) = ((m + xs[i].f.length + 1 : Nat) : Int) := wrapM (m + xs[i].f.length) 0 (by omega)
    have e1 : IntKind.i64.wrap (((m + xs[i].f.length + 1 : Nat) : Int) + 1) = ((m + xs[i].f.length + 2 : Nat) : Int) := wrapM (m + xs[i].f.length) 1 (by omega)
    repeat (first | with_reducible refine ask.of (by first | omega | decide | (simp [hl]; omega)) ?_ | simp -dsimp -implicitDefEqProofs only [go_sem, Nat.reduceBEq, Nat.reduceAdd, Nat.reduceLeDiff, Nat.reduceSub, Int.reduceEq, h0, h1, h5, hl, hat, fdC, mkFd, bl3, decide_true, Bool.not_true, e0, e1])
    refine hK _ hlt ?_
    simp -dsimp -implicitDefEqProofs only [go_sem, Nat.reduceBEq, Nat.reduceAdd, Nat.reduceLeDiff, Nat.reduceSub, Int.reduceEq, h0, h1, h5, wrap_succ (show i < 4611686018427387904 by omega), szL_take_succ szFd hlt]
    rw [← hm]; unfold szFd; omega
  · have : i = xs.length := by omega
    subst this
    simp -dsimp -implicitDefEqProofs only [go_sem, Nat.reduceBEq, Nat.reduceAdd, Nat.reduceLeDiff, Nat.reduceSub, Int.reduceEq, h0, h1, h5, List.take_length]
end Go.Ev
set_option linter.unusedSimpArgs false
set_option linter.unusedVariables false
namespace Go.Ev
open Go Go.RowKit Go.Proofs
def mkBs (k : Nat) (b : List (List UInt8)) : List (List UInt8) := mkBB k b
def szBs (b : List (List UInt8)) : Nat := wBB b
def mkBsS (k : Nat) (xs : List (List (List UInt8))) : List (List (List UInt8)) := mkL mkBs szBs k xs
theorem mkBs_at' {xs : List (List (List UInt8))} {i : Nat} {s : (List (List UInt8))} (h : xs[i]? = some s) : (ra bbC xs)[i]? = some (bbC s) := ra_at' h
theorem mkBs_set (xs : List (List (List UInt8))) (i : Nat) (s : (List (List UInt8))) : (ra bbC xs).set i [.row 25 1 (ra byC s)] = ra bbC (xs.set i s) := ra_set (enc := bbC) xs i s
set_option maxHeartbeats 4000000 in
set_option maxRecDepth 8000 in
theorem c_markByteSSS (xs : List (List (List UInt8))) (k : Nat) (hk : k + szL szBs xs ≤ 4611686018427387904) (hx : xs.length ≤ 1048576) (hb : ∀ b ∈ xs, lenOk b 1048576) : MeetsM Try.prog 119 [.mu (rowBBB xs), .rd (.v (.int .i64 k))] (fun r rs => r = .v (.int .i64 ((k + szL szBs xs : Nat) : Int)) ∧ rs = [rowBBB (mkBsS k xs), .any]) := by
  refine MeetsM.intro mixed (hint []) Try.func119 rfl (by decide) res_119 rty_119 (pts := parTys Try.prog 119) (by rw [par_119]; rfl) (by kernel_rfl) ?_; rw [par_119]; intro vals; 
  simp -dsimp -implicitDefEqProofs only [go_sem, Nat.reduceBEq, Nat.reduceAdd, Nat.reduceLeDiff, Nat.reduceSub, Int.reduceEq, rowBBB]
  refine LoopE.cnt xs.length (fun i s => s.env 0 = .ref [1000000, 0] ∧ s.env 1 = .v (.int .i64 ((k + szL szBs (xs.take i) : Nat) : Int)) ∧ s.env 5 = .v (.int .i64 i) ∧ s.σ [1000000, 0] = some (.row 39 1 (ra bbC (mkLP mkBs szBs k xs i))) ∧ s.σ [1000001, 0] = some (.pin (.ref [1000000, 0]) (vals 0))) ⟨by simp -dsimp -implicitDefEqProofs only [go_sem, Nat.reduceBEq, Nat.reduceAdd, Nat.reduceLeDiff, Nat.reduceSub, Int.reduceEq], by simp -dsimp -implicitDefEqProofs only [go_sem, Nat.reduceBEq, Nat.reduceAdd, Nat.reduceLeDiff, Nat.reduceSub, Int.reduceEq] <;> simp [szL], by simp -dsimp -implicitDefEqProofs only [go_sem, Nat.reduceBEq, Nat.reduceAdd, Nat.reduceLeDiff, Nat.reduceSub, Int.reduceEq] <;> simp, by simp -dsimp -implicitDefEqProofs only [go_sem, Nat.reduceBEq, Nat.reduceAdd, Nat.reduceLeDiff, Nat.reduceSub, Int.reduceEq, mkLP_zero], by simp -dsimp -implicitDefEqProofs only [go_sem, Nat.reduceBEq, Nat.reduceAdd, Nat.reduceLeDiff, Nat.reduceSub, Int.reduceEq]⟩ ?_
  rintro i ⟨e, σ⟩ hi ⟨h0, h1, h5, hs, hp⟩ K hK
  simp only at h0 h1 h5 hs hp
  have hl := mkLP_length mkBs szBs k hi
  simp -dsimp -implicitDefEqProofs only [go_sem, Nat.reduceBEq, Nat.reduceAdd, Nat.reduceLeDiff, Nat.reduceSub, Int.reduceEq, h0, h1, h5, hs, hp, hl]
  refine ifB'.of (fun hlt => ?_) (fun hlt => ?_)
  · have hlt : i < xs.length := by omega
    have hw := szL_at_le szBs hlt
    have hpb := hb _ (List.getElem_mem hlt)
    have hpb1 := hpb.1
    have hat := mkBs_at' (mkLP_at mkBs szBs k hlt)
    have hgs : ∀ c : List AV, ((ra bbC (mkLP mkBs szBs k xs i)).set i c)[i]? = some c := fun c => by rw [List.getElem?_set_self]; rw [ra_length]; omega
    obtain ⟨m, hm⟩ : ∃ m, k + szL szBs (xs.take i) = m := ⟨_, rfl⟩
    rw [hm] at h1
    have hwm : m + szBs xs[i] ≤ 4611686018427387904 := by omega
    unfold szBs at hwm
    repeat (first | with_reducible refine ask.of (by first | omega | decide | (simp [hl]; omega)) ?_ | simp -dsimp -implicitDefEqProofs only [go_sem, Nat.reduceBEq, Nat.reduceAdd, Nat.reduceLeDiff, Nat.reduceSub, Int.reduceEq, h0, h1, h5, hs, hp, hl, hat, bbC, hgs, List.set_set, List.length_set, bl22])
    refine CallE.mut (c_markByteSS xs[i] m (by omega) (by omega) (fun b hb => by have := hpb.2 b hb; omega)) (by simp -dsimp -implicitDefEqProofs only [go_sem, Nat.reduceBEq, Nat.reduceAdd, Nat.reduceLeDiff, Nat.reduceSub, Int.reduceEq, h0, h1, h5, hs, hp]) (by rintro r rs ⟨rfl, rfl⟩; exact ⟨by (repeat' first | exact trivial | exact pure_rowB _ | exact pure_rowO _ | exact pure_rowI _ | exact pure_rowBB _ | exact pure_rowPk _ _ | exact pure_rowSn _ _ | exact pure_rowFd _ _ | exact pure_rowBBB _ | exact pure_rowCl _ _ | exact pure_rowTb _ _ _ | refine And.intro ?_ ?_), by first | exact ⟨by (repeat' first | exact trivial | exact pure_rowB _ | exact pure_rowO _ | exact pure_rowI _ | exact pure_rowBB _ | exact pure_rowPk _ _ | exact pure_rowSn _ _ | exact pure_rowFd _ _ | exact pure_rowBBB _ | exact pure_rowCl _ _ | exact pure_rowTb _ _ _ | refine And.intro ?_ ?_), trivial⟩ | exact ⟨by (repeat' first | exact trivial | exact pure_rowB _ | exact pure_rowO _ | exact pure_rowI _ | exact pure_rowBB _ | exact pure_rowPk _ _ | exact pure_rowSn _ _ | exact pure_rowFd _ _ | exact pure_rowBBB _ | exact pure_rowCl _ _ | exact pure_rowTb _ _ _ | refine And.intro ?_ ?_), trivial, trivial⟩⟩) (by simp -dsimp -implicitDefEqProofs only [go_sem, Nat.reduceBEq, Nat.reduceAdd, Nat.reduceLeDiff, Nat.reduceSub, Int.reduceEq, h0, h1, h5, hs, hp, hgs, hat, List.set_set, bbC]) (by simp -dsimp -implicitDefEqProofs only [go_sem, Nat.reduceBEq, Nat.reduceAdd, Nat.reduceLeDiff, Nat.reduceSub, Int.reduceEq, h0, h1, h5, hs, hp, hgs, hat, List.set_set, bbC]) ?_
    rintro r rs ⟨rfl, rfl⟩
    simp -dsimp -implicitDefEqProofs only [go_sem, Nat.reduceBEq, Nat.reduceAdd, Nat.reduceLeDiff, Nat.reduceSub, Int.reduceEq, h0, h1, h5, hs, hp, hgs, hat, List.set_set, bbC]
    repeat (first | with_reducible refine ask.of (by first | omega | decide | (simp [hl]; omega)) ?_ | simp -dsimp -implicitDefEqProofs only [go_sem, Nat.reduceBEq, Nat.reduceAdd, Nat.reduceLeDiff, Nat.reduceSub, Int.reduceEq, h0, h1, h5, hs, hp, hl, hgs, List.set_set, List.length_set, bl22])
    refine hK _ hlt ?_
    simp -dsimp -implicitDefEqProofs only [go_sem, Nat.reduceBEq, Nat.reduceAdd, Nat.reduceLeDiff, Nat.reduceSub, Int.reduceEq, h0, h1, h5, hs, hp, hgs, List.set_set, wrap_succ (show i < 4611686018427387904 by omega), szL_take_succ szBs hlt]
    refine ⟨by rw [← hm]; unfold szBs; omega, ?_⟩
    rw [← mkLP_set mkBs szBs k hlt (y := mkBs m xs[i]) (by rw [hm]), ← mkBs_set]
    rfl
  · have : i = xs.length := by omega
    subst this
    simp -dsimp -implicitDefEqProofs only [go_sem, Nat.reduceBEq, Nat.reduceAdd, Nat.reduceLeDiff, Nat.reduceSub, Int.reduceEq, h0, h1, h5, hs, hp, mkLP_full, List.take_length]
    rfl
set_option maxHeartbeats 4000000 in
set_option maxRecDepth 8000 in
theorem c_heldByteSSS (xs : List (List (List UInt8))) (k : Nat) (hk : k + szL szBs xs ≤ 4611686018427387904) (hx : xs.length ≤ 1048576) (hb : ∀ b ∈ xs, lenOk b 1048576) : Meets Try.prog 121 [rowBBB (mkBsS k xs), .v (.int .i64 k)] (fun r => r = .v (.int .i64 ((k + szL szBs xs : Nat) : Int))) := by
  refine Meets.intro mixed (hint []) Try.func121 rfl (by decide) res_121 rty_121 (by kernel_rfl) ?_; 
  simp -dsimp -implicitDefEqProofs only [go_sem, Nat.reduceBEq, Nat.reduceAdd, Nat.reduceLeDiff, Nat.reduceSub, Int.reduceEq, rowBBB]
  refine LoopE.cnt xs.length (fun i s => s.env 0 = .rd .ent 39 1 (ra bbC (mkBsS k xs)) ∧ s.env 1 = .v (.int .i64 ((k + szL szBs (xs.take i) : Nat) : Int)) ∧ s.env 5 = .v (.int .i64 i)) ⟨by simp -dsimp -implicitDefEqProofs only [go_sem, Nat.reduceBEq, Nat.reduceAdd, Nat.reduceLeDiff, Nat.reduceSub, Int.reduceEq, initE, rowBBB], by simp -dsimp -implicitDefEqProofs only [go_sem, Nat.reduceBEq, Nat.reduceAdd, Nat.reduceLeDiff, Nat.reduceSub, Int.reduceEq, initE] <;> simp [szL], by simp -dsimp -implicitDefEqProofs only [go_sem, Nat.reduceBEq, Nat.reduceAdd, Nat.reduceLeDiff, Nat.reduceSub, Int.reduceEq] <;> simp⟩ ?_
  rintro i ⟨e, σ⟩ hi ⟨h0, h1, h5⟩ K hK
  simp only at h0 h1 h5
  have hl : (mkBsS k xs).length = xs.length := mkL_length mkBs szBs k xs
  simp -dsimp -implicitDefEqProofs only [go_sem, Nat.reduceBEq, Nat.reduceAdd, Nat.reduceLeDiff, Nat.reduceSub, Int.reduceEq, h0, h1, h5, hl]
  refine ifB'.of (fun hlt => ?_) (fun hlt => ?_)
  · have hlt : i < xs.length := by omega
    have hw := szL_at_le szBs hlt
    have hpb := hb _ (List.getElem_mem hlt)
    have hpb1 := hpb.1
    have hat := mkBs_at' (mkL_at mkBs szBs k hlt)
    obtain ⟨m, hm⟩ : ∃ m, k + szL szBs (xs.take i) = m := ⟨_, rfl⟩
    rw [hm] at h1 hat
    have hat : (ra bbC (mkBsS k xs))[i]? = some (bbC (mkBs m xs[i])) := hat
    have hwm : m + szBs xs[i] ≤ 4611686018427387904 := by omega
    unfold szBs at hwm
    repeat (first | with_reducible refine ask.of (by first | omega | decide | (simp [hl]; omega)) ?_ | simp -dsimp -implicitDefEqProofs only [go_sem, Nat.reduceBEq, Nat.reduceAdd, Nat.reduceLeDiff, Nat.reduceSub, Int.reduceEq, h0, h1, h5, hl, hat, bbC, mkBs, bl22, decide_true, Bool.not_true])
    refine CallE.of (c_heldByteSS xs[i] m (by omega) (by omega) (fun b hb => by have := hpb.2 b hb; omega)) (by rintro r rfl; (repeat' first | exact trivial | exact pure_rowB _ | exact pure_rowO _ | exact pure_rowI _ | exact pure_rowBB _ | exact pure_rowPk _ _ | exact pure_rowSn _ _ | exact pure_rowFd _ _ | exact pure_rowBBB _ | exact pure_rowCl _ _ | exact pure_rowTb _ _ _ | refine And.intro ?_ ?_)) (by simp -dsimp -implicitDefEqProofs only [go_sem, Nat.reduceBEq, Nat.reduceAdd, Nat.reduceLeDiff, Nat.reduceSub, Int.reduceEq, h0, h1, h5, bbC]) ?_
    rintro r rfl
    simp -dsimp -implicitDefEqProofs only [go_sem, Nat.reduceBEq, Nat.reduceAdd, Nat.reduceLeDiff, Nat.reduceSub, Int.reduceEq, h0, h1, h5, bbC]
    with_reducible refine ifB'.no (by omega) ?_
    repeat (first | with_reducible refine ask.of (by first | omega | decide | (simp [hl]; omega)) ?_ | simp -dsimp -implicitDefEqProofs only [go_sem, Nat.reduceBEq, Nat.reduceAdd, Nat.reduceLeDiff, Nat.reduceSub, Int.reduceEq, h0, h1, h5, hl, hat, bbC, mkBs, bl22, decide_true, Bool.not_true])
    refine hK _ hlt ?_
    simp -dsimp -implicitDefEqProofs only [go_sem, Nat.reduceBEq, Nat.reduceAdd, Nat.reduceLeDiff, Nat.reduceSub, Int.reduceEq, h0, h1, h5, wrap_succ (show i < 4611686018427387904 by omega), szL_take_succ szBs hlt]
    rw [← hm]; unfold szBs; omega
  · have : i = xs.length := by omega
    subst this
    simp -dsimp -implicitDefEqProofs only [go_sem, Nat.reduceBEq, Nat.reduceAdd, Nat.reduceLeDiff, Nat.reduceSub, Int.reduceEq, h0, h1, h5, List.take_length]
end Go.Ev
set_option linter.unusedSimpArgs false
set_option linter.unusedVariables false
namespace Go.Ev
open Go Go.RowKit Go.Proofs
def mkSm (k : Nat) (x : Sm) : Sm := ⟨x.o, mkFdS k x.fs, x.s, mkBsS (k + szL szFd x.fs) x.ds⟩
def szSm (x : Sm) : Nat := szL szFd x.fs + szL szBs x.ds
set_option maxRecDepth 8000 in
theorem c_markStream (x : Sm) (k : Nat) (hk : k + szSm x ≤ 4611686018427387904) (h1 : x.fs.length ≤ 1048576) (h2 : ∀ b ∈ x.fs, b.f.length ≤ 1048576) (h3 : x.ds.length ≤ 1048576) (h4 : ∀ b ∈ x.ds, lenOk b 1048576) : MeetsM Try.prog 42 [.mu (.agg (smC 78 x)), .rd (.v (.int .i64 k))] (fun r rs => r = .v (.int .i64 ((k + szSm x : Nat) : Int)) ∧ rs = [.agg (smC 78 (mkSm k x)), .any]) := by
  refine MeetsM.intro mixed (hint []) Try.func42 rfl (by decide) res_42 rty_42 (pts := parTys Try.prog 42) (by rw [par_42]; rfl) (by kernel_rfl) ?_; rw [par_42]; intro vals; 
  simp -dsimp -implicitDefEqProofs only [go_sem, Nat.reduceBEq, Nat.reduceAdd, Nat.reduceLeDiff, Nat.reduceSub, Int.reduceEq, smC]
  unfold szSm at hk
  repeat (first | with_reducible refine ask.of (by first | omega | decide) ?_ | simp -dsimp -implicitDefEqProofs only [go_sem, Nat.reduceBEq, Nat.reduceAdd, Nat.reduceLeDiff, Nat.reduceSub, Int.reduceEq, bl3])
  refine CallE.mut (c_markFieldS x.fs k (by omega) h1 h2) (by simp -dsimp -implicitDefEqProofs only [go_sem, Nat.reduceBEq, Nat.reduceAdd, Nat.reduceLeDiff, Nat.reduceSub, Int.reduceEq]) (by rintro r rs ⟨rfl, rfl⟩; exact ⟨by (repeat' first | exact trivial | exact pure_rowB _ | exact pure_rowO _ | exact pure_rowI _ | exact pure_rowBB _ | exact pure_rowPk _ _ | exact pure_rowSn _ _ | exact pure_rowFd _ _ | exact pure_rowBBB _ | exact pure_rowCl _ _ | exact pure_rowTb _ _ _ | refine And.intro ?_ ?_), by first | exact ⟨by (repeat' first | exact trivial | exact pure_rowB _ | exact pure_rowO _ | exact pure_rowI _ | exact pure_rowBB _ | exact pure_rowPk _ _ | exact pure_rowSn _ _ | exact pure_rowFd _ _ | exact pure_rowBBB _ | exact pure_rowCl _ _ | exact pure_rowTb _ _ _ | refine And.intro ?_ ?_), trivial⟩ | exact ⟨by (repeat' first | exact trivial | exact pure_rowB _ | exact pure_rowO _ | exact pure_rowI _ | exact pure_rowBB _ | exact pure_rowPk _ _ | exact pure_rowSn _ _ | exact pure_rowFd _ _ | exact pure_rowBBB _ | exact pure_rowCl _ _ | exact pure_rowTb _ _ _ | refine And.intro ?_ ?_), trivial, trivial⟩⟩) (by simp -dsimp -implicitDefEqProofs only [go_sem, Nat.reduceBEq, Nat.reduceAdd, Nat.reduceLeDiff, Nat.reduceSub, Int.reduceEq, rowFd]) (by simp -dsimp -implicitDefEqProofs only [go_sem, Nat.reduceBEq, Nat.reduceAdd, Nat.reduceLeDiff, Nat.reduceSub, Int.reduceEq, rowFd]) ?_
  rintro r rs ⟨rfl, rfl⟩
  simp -dsimp -implicitDefEqProofs only [go_sem, Nat.reduceBEq, Nat.reduceAdd, Nat.reduceLeDiff, Nat.reduceSub, Int.reduceEq, rowFd]
  repeat (first | with_reducible refine ask.of (by first | omega | decide) ?_ | simp -dsimp -implicitDefEqProofs only [go_sem, Nat.reduceBEq, Nat.reduceAdd, Nat.reduceLeDiff, Nat.reduceSub, Int.reduceEq, bl3])
  refine CallE.mut (c_markByteSSS x.ds (k + szL szFd x.fs) (by omega) h3 h4) (by simp -dsimp -implicitDefEqProofs only [go_sem, Nat.reduceBEq, Nat.reduceAdd, Nat.reduceLeDiff, Nat.reduceSub, Int.reduceEq]) (by rintro r rs ⟨rfl, rfl⟩; exact ⟨by (repeat' first | exact trivial | exact pure_rowB _ | exact pure_rowO _ | exact pure_rowI _ | exact pure_rowBB _ | exact pure_rowPk _ _ | exact pure_rowSn _ _ | exact pure_rowFd _ _ | exact pure_rowBBB _ | exact pure_rowCl _ _ | exact pure_rowTb _ _ _ | refine And.intro ?_ ?_), by first | exact ⟨by (repeat' first | exact trivial | exact pure_rowB _ | exact pure_rowO _ | exact pure_rowI _ | exact pure_rowBB _ | exact pure_rowPk _ _ | exact pure_rowSn _ _ | exact pure_rowFd _ _ | exact pure_rowBBB _ | exact pure_rowCl _ _ | exact pure_rowTb _ _ _ | refine And.intro ?_ ?_), trivial⟩ | exact ⟨by (repeat' first | exact trivial | exact pure_rowB _ | exact pure_rowO _ | exact pure_rowI _ | exact pure_rowBB _ | exact pure_rowPk _ _ | exact pure_rowSn _ _ | exact pure_rowFd _ _ | exact pure_rowBBB _ | exact pure_rowCl _ _ | exact pure_rowTb _ _ _ | refine And.intro ?_ ?_), trivial, trivial⟩⟩) (by simp -dsimp -implicitDefEqProofs only [go_sem, Nat.reduceBEq, Nat.reduceAdd, Nat.reduceLeDiff, Nat.reduceSub, Int.reduceEq, rowBBB]) (by simp -dsimp -implicitDefEqProofs only [go_sem, Nat.reduceBEq, Nat.reduceAdd, Nat.reduceLeDiff, Nat.reduceSub, Int.reduceEq, rowBBB]) ?_
  rintro r rs ⟨rfl, rfl⟩
  simp -dsimp -implicitDefEqProofs only [go_sem, Nat.reduceBEq, Nat.reduceAdd, Nat.reduceLeDiff, Nat.reduceSub, Int.reduceEq, rowBBB]
  repeat (first | with_reducible refine ask.of (by first | omega | decide) ?_ | simp -dsimp -implicitDefEqProofs only [go_sem, Nat.reduceBEq, Nat.reduceAdd, Nat.reduceLeDiff, Nat.reduceSub, Int.reduceEq, bl3])
  exact ⟨by unfold szSm; rw [Nat.add_assoc], rfl⟩
theorem c_heldStream (x : Sm) (k : Nat) (hk : k + szSm x ≤ 4611686018427387904) (h1 : x.fs.length ≤ 1048576) (h2 : ∀ b ∈ x.fs, b.f.length ≤ 1048576) (h3 : x.ds.length ≤ 1048576) (h4 : ∀ b ∈ x.ds, lenOk b 1048576) : Meets Try.prog 43 [.agg (smC 78 (mkSm k x)), .v (.int .i64 k)] (fun r => r = .v (.int .i64 ((k + szSm x : Nat) : Int))) := by
  refine Meets.intro mixed (hint []) Try.func43 rfl (by decide) res_43 rty_43 (by kernel_rfl) ?_; 
  simp -dsimp -implicitDefEqProofs only [go_sem, Nat.reduceBEq, Nat.reduceAdd, Nat.reduceLeDiff, Nat.reduceSub, Int.reduceEq, smC, mkSm]
  unfold szSm at hk
  repeat (first | with_reducible refine ask.of (by first | omega | decide) ?_ | simp -dsimp -implicitDefEqProofs only [go_sem, Nat.reduceBEq, Nat.reduceAdd, Nat.reduceLeDiff, Nat.reduceSub, Int.reduceEq, bl3])
  refine CallE.of (c_heldFieldS x.fs k (by omega) h1 h2) (by rintro r rfl; (repeat' first | exact trivial | exact pure_rowB _ | exact pure_rowO _ | exact pure_rowI _ | exact pure_rowBB _ | exact pure_rowPk _ _ | exact pure_rowSn _ _ | exact pure_rowFd _ _ | exact pure_rowBBB _ | exact pure_rowCl _ _ | exact pure_rowTb _ _ _ | refine And.intro ?_ ?_)) (by simp -dsimp -implicitDefEqProofs only [go_sem, Nat.reduceBEq, Nat.reduceAdd, Nat.reduceLeDiff, Nat.reduceSub, Int.reduceEq, rowFd]) ?_
  rintro r rfl
  simp -dsimp -implicitDefEqProofs only [go_sem, Nat.reduceBEq, Nat.reduceAdd, Nat.reduceLeDiff, Nat.reduceSub, Int.reduceEq, rowFd]
  with_reducible refine ifB'.no (by omega) ?_
  repeat (first | with_reducible refine ask.of (by first | omega | decide) ?_ | simp -dsimp -implicitDefEqProofs only [go_sem, Nat.reduceBEq, Nat.reduceAdd, Nat.reduceLeDiff, Nat.reduceSub, Int.reduceEq, bl3])
  refine CallE.of (c_heldByteSSS x.ds (k + szL szFd x.fs) (by omega) h3 h4) (by rintro r rfl; (repeat' first | exact trivial | exact pure_rowB _ | exact pure_rowO _ | exact pure_rowI _ | exact pure_rowBB _ | exact pure_rowPk _ _ | exact pure_rowSn _ _ | exact pure_rowFd _ _ | exact pure_rowBBB _ | exact pure_rowCl _ _ | exact pure_rowTb _ _ _ | refine And.intro ?_ ?_)) (by simp -dsimp -implicitDefEqProofs only [go_sem, Nat.reduceBEq, Nat.reduceAdd, Nat.reduceLeDiff, Nat.reduceSub, Int.reduceEq, rowBBB]) ?_
  rintro r rfl
  simp -dsimp -implicitDefEqProofs only [go_sem, Nat.reduceBEq, Nat.reduceAdd, Nat.reduceLeDiff, Nat.reduceSub, Int.reduceEq, rowBBB]
  with_reducible refine ifB'.no (by omega) ?_
  repeat (first | with_reducible refine ask.of (by first | omega | decide) ?_ | simp -dsimp -implicitDefEqProofs only [go_sem, Nat.reduceBEq, Nat.reduceAdd, Nat.reduceLeDiff, Nat.reduceSub, Int.reduceEq, bl3])
  unfold szSm; rw [Nat.add_assoc]
end Go.Ev
set_option linter.unusedSimpArgs false
set_option linter.unusedVariables false
namespace Go.Ev
open Go Go.RowKit Go.Proofs
theorem szL_zeros (n : Nat) : szL szBs (List.replicate n []) = 0 := by
  induction n with
  | zero => rfl
  | succ n ih => simp only [List.replicate_succ, szL, List.map_cons, List.sum_cons] at ih ⊢; rw [ih]; rfl
theorem stL_T {fs : List Fd} {next : Int} (hx : fs.length ≤ 1048576) (hb : ∀ b ∈ fs, b.f.length ≤ 1048576) : (((stL fs next).1.fs.length ≤ 1048576 ∧ ∀ b ∈ (stL fs next).1.fs, b.f.length ≤ 1048576) ∧ (stL fs next).1.ds.length ≤ 1048576 ∧ ∀ b ∈ (stL fs next).1.ds, lenOk b 1048576) ∧ szSm (stL fs next).1 ≤ 1048576 ∧ (stL fs next).2.1.length ≤ 1048576 := by
  by_cases h : okF fs ∧ 0 ≤ next ∧ next ≤ 1000000000
  · rw [stL_yes h]
    have h1 := hd_wBB (next := next) h.1
    have h2 := msBody_len (hdMs fs next)
    have h3 : (hdMs fs next).bs.length = fs.length + 1 := by show (leB 8 next :: fs.map hdF).length = _; simp
    have h4 := h.1.1.2
    refine ⟨⟨⟨hx, hb⟩, ?_, ?_⟩, ?_, ?_⟩
    · show (List.replicate fs.length []).length ≤ _; simp; omega
    · intro b hb'
      have : b = [] := (List.mem_replicate.1 hb').2
      subst this; exact ⟨Nat.zero_le _, fun c hc => by cases hc⟩
    · show szL szFd fs + szL szBs (List.replicate fs.length []) ≤ _
      rw [szL_zeros]
      have h5 := hd_w h.1.2.1
      have h6 : szL szFd fs = wBB (fs.map hdF) := by
        clear h h1 h2 h3 h4 h5 hx hb
        induction fs with
        | nil => rfl
        | cons x fs ih => simp only [wBB, szL, List.map_cons, List.sum_cons, szFd, hdF, List.length_append, List.length_cons, List.length_nil] at ih ⊢; omega
      omega
    · show (msBody (hdMs fs next)).length ≤ _
      omega
  · rw [stL_no h]
    exact ⟨⟨⟨Nat.zero_le _, fun b h => (by cases h)⟩, Nat.zero_le _, fun b h => (by cases h)⟩, by decide, Nat.zero_le _⟩
set_option maxRecDepth 8000 in
set_option maxHeartbeats 4000000 in
theorem c_FnExactStartStream (fs : List Fd) (hp : fs.length ≤ 140737488355328 ∧ ∀ b ∈ fs, b.f.length ≤ 140737488355328) (next : Int) : Meets Try.prog 5 [rowFd 74 fs, .v (.int .i64 next)] (fun r => r = .v (.bool true)) := by
  refine Meets.intro mixed (hint []) Try.func5 rfl (by decide) res_5 rty_5 (by kernel_rfl) ?_; 
  simp -dsimp -implicitDefEqProofs only [go_sem, Nat.reduceBEq, Nat.reduceAdd, Nat.reduceLeDiff, Nat.reduceSub, Int.reduceEq, rowFd]
  repeat (first | with_reducible refine ask.of (by first | omega | decide) ?_ | simp -dsimp -implicitDefEqProofs only [go_sem, Nat.reduceBEq, Nat.reduceAdd, Nat.reduceLeDiff, Nat.reduceSub, Int.reduceEq, bl3])
  refine CallE.of (c_szFieldS fs 1048576 (by omega) hp.1 hp.2) (by rintro r rfl; (repeat' first | exact trivial | exact pure_rowB _ | exact pure_rowO _ | exact pure_rowI _ | exact pure_rowBB _ | exact pure_rowPk _ _ | exact pure_rowSn _ _ | exact pure_rowFd _ _ | exact pure_rowBBB _ | exact pure_rowCl _ _ | exact pure_rowTb _ _ _ | refine And.intro ?_ ?_)) (by simp -dsimp -implicitDefEqProofs only [go_sem, Nat.reduceBEq, Nat.reduceAdd, Nat.reduceLeDiff, Nat.reduceSub, Int.reduceEq, rowFd]) ?_
  rintro r rfl
  simp -dsimp -implicitDefEqProofs only [go_sem, Nat.reduceBEq, Nat.reduceAdd, Nat.reduceLeDiff, Nat.reduceSub, Int.reduceEq, rowFd]
  refine ifB'.of (fun h => ?_) (fun h => ?_)
  · simp -dsimp -implicitDefEqProofs only [go_sem, Nat.reduceBEq, Nat.reduceAdd, Nat.reduceLeDiff, Nat.reduceSub, Int.reduceEq]
  have hw : fs.length + szL fdW fs ≤ 1048576 := Classical.byContradiction fun h' => h (by rw [szR_no h']; decide)
  have hx : fs.length ≤ 1048576 := by omega
  have hb : ∀ b ∈ fs, b.f.length ≤ 1048576 := fun b hb => by have := mem_fdW hb; omega
  have hsz : szL szFd fs ≤ 2 * fs.length + szL fdW fs := by
    clear h hw hx hb hp
    induction fs with
    | nil => exact Nat.zero_le _
    | cons x fs ih => simp only [szL, List.map_cons, List.sum_cons, szFd, fdW, List.length_cons] at ih ⊢; omega
  have hs := c_specStartStream fs next hx hb
  have hi := c_implStartStream fs next hx hb
  have hy := stL_T (next := next) hx hb
  unfold resS at hs hi
  generalize stL fs next = yc at *
  obtain ⟨y, l, c⟩ := yc
  simp only at hs hi hy
  obtain ⟨⟨⟨y1, y2⟩, y3, y4⟩, y5, y6⟩ := hy
  repeat' (first
    | with_reducible refine ask.of (by omega) ?_
    | (refine CallE.of (hs) ?_ ?_ ?_; rotate_left; (· (simp -dsimp -implicitDefEqProofs only [go_sem, Nat.reduceBEq, Nat.reduceAdd, Nat.reduceLeDiff, Nat.reduceSub, Int.reduceEq, bl3, rowFd, smC, mkSm, mkB, Bool.not_true, decide_true]; done)); rotate_left; (· (rintro r rfl; (repeat' first | exact trivial | exact pure_rowB _ | exact pure_rowO _ | exact pure_rowI _ | exact pure_rowBB _ | exact pure_rowPk _ _ | exact pure_rowSn _ _ | exact pure_rowFd _ _ | exact pure_rowBBB _ | exact pure_rowCl _ _ | exact pure_rowTb _ _ _ | refine And.intro ?_ ?_))); rintro r rfl; try simp -dsimp -implicitDefEqProofs only [go_sem, Nat.reduceBEq, Nat.reduceAdd, Nat.reduceLeDiff, Nat.reduceSub, Int.reduceEq, bl3, rowFd, smC, mkSm, mkB, Bool.not_true, decide_true])
    | (refine CallE.of (hi) ?_ ?_ ?_; rotate_left; (· (simp -dsimp -implicitDefEqProofs only [go_sem, Nat.reduceBEq, Nat.reduceAdd, Nat.reduceLeDiff, Nat.reduceSub, Int.reduceEq, bl3, rowFd, smC, mkSm, mkB, Bool.not_true, decide_true]; done)); rotate_left; (· (rintro r rfl; (repeat' first | exact trivial | exact pure_rowB _ | exact pure_rowO _ | exact pure_rowI _ | exact pure_rowBB _ | exact pure_rowPk _ _ | exact pure_rowSn _ _ | exact pure_rowFd _ _ | exact pure_rowBBB _ | exact pure_rowCl _ _ | exact pure_rowTb _ _ _ | refine And.intro ?_ ?_))); rintro r rfl; try simp -dsimp -implicitDefEqProofs only [go_sem, Nat.reduceBEq, Nat.reduceAdd, Nat.reduceLeDiff, Nat.reduceSub, Int.reduceEq, bl3, rowFd, smC, mkSm, mkB, Bool.not_true, decide_true])
    | (refine CallE.of (c_toFieldS fs hx hb) ?_ ?_ ?_; rotate_left; (· (simp -dsimp -implicitDefEqProofs only [go_sem, Nat.reduceBEq, Nat.reduceAdd, Nat.reduceLeDiff, Nat.reduceSub, Int.reduceEq, bl3, rowFd, smC, mkSm, mkB, Bool.not_true, decide_true]; done)); rotate_left; (· (rintro r rfl; (repeat' first | exact trivial | exact pure_rowB _ | exact pure_rowO _ | exact pure_rowI _ | exact pure_rowBB _ | exact pure_rowPk _ _ | exact pure_rowSn _ _ | exact pure_rowFd _ _ | exact pure_rowBBB _ | exact pure_rowCl _ _ | exact pure_rowTb _ _ _ | refine And.intro ?_ ?_))); rintro r rfl; try simp -dsimp -implicitDefEqProofs only [go_sem, Nat.reduceBEq, Nat.reduceAdd, Nat.reduceLeDiff, Nat.reduceSub, Int.reduceEq, bl3, rowFd, smC, mkSm, mkB, Bool.not_true, decide_true])
    | (refine CallE.of (c_eqStream y y1 y2 y3 y4) ?_ ?_ ?_; rotate_left; (· (simp -dsimp -implicitDefEqProofs only [go_sem, Nat.reduceBEq, Nat.reduceAdd, Nat.reduceLeDiff, Nat.reduceSub, Int.reduceEq, bl3, rowFd, smC, mkSm, mkB, Bool.not_true, decide_true]; done)); rotate_left; (· (rintro r rfl; (repeat' first | exact trivial | exact pure_rowB _ | exact pure_rowO _ | exact pure_rowI _ | exact pure_rowBB _ | exact pure_rowPk _ _ | exact pure_rowSn _ _ | exact pure_rowFd _ _ | exact pure_rowBBB _ | exact pure_rowCl _ _ | exact pure_rowTb _ _ _ | refine And.intro ?_ ?_))); rintro r rfl; try simp -dsimp -implicitDefEqProofs only [go_sem, Nat.reduceBEq, Nat.reduceAdd, Nat.reduceLeDiff, Nat.reduceSub, Int.reduceEq, bl3, rowFd, smC, mkSm, mkB, Bool.not_true, decide_true])
    | (refine CallE.of (c_eqByteS l (by omega)) ?_ ?_ ?_; rotate_left; (· (simp -dsimp -implicitDefEqProofs only [go_sem, Nat.reduceBEq, Nat.reduceAdd, Nat.reduceLeDiff, Nat.reduceSub, Int.reduceEq, bl3, rowFd, smC, mkSm, mkB, Bool.not_true, decide_true]; done)); rotate_left; (· (rintro r rfl; (repeat' first | exact trivial | exact pure_rowB _ | exact pure_rowO _ | exact pure_rowI _ | exact pure_rowBB _ | exact pure_rowPk _ _ | exact pure_rowSn _ _ | exact pure_rowFd _ _ | exact pure_rowBBB _ | exact pure_rowCl _ _ | exact pure_rowTb _ _ _ | refine And.intro ?_ ?_))); rintro r rfl; try simp -dsimp -implicitDefEqProofs only [go_sem, Nat.reduceBEq, Nat.reduceAdd, Nat.reduceLeDiff, Nat.reduceSub, Int.reduceEq, bl3, rowFd, smC, mkSm, mkB, Bool.not_true, decide_true])
    | (refine CallE.of (c_eqFieldS fs hx hb) ?_ ?_ ?_; rotate_left; (· (simp -dsimp -implicitDefEqProofs only [go_sem, Nat.reduceBEq, Nat.reduceAdd, Nat.reduceLeDiff, Nat.reduceSub, Int.reduceEq, bl3, rowFd, smC, mkSm, mkB, Bool.not_true, decide_true]; done)); rotate_left; (· (rintro r rfl; (repeat' first | exact trivial | exact pure_rowB _ | exact pure_rowO _ | exact pure_rowI _ | exact pure_rowBB _ | exact pure_rowPk _ _ | exact pure_rowSn _ _ | exact pure_rowFd _ _ | exact pure_rowBBB _ | exact pure_rowCl _ _ | exact pure_rowTb _ _ _ | refine And.intro ?_ ?_))); rintro r rfl; try simp -dsimp -implicitDefEqProofs only [go_sem, Nat.reduceBEq, Nat.reduceAdd, Nat.reduceLeDiff, Nat.reduceSub, Int.reduceEq, bl3, rowFd, smC, mkSm, mkB, Bool.not_true, decide_true])
    | (refine CallE.mut (c_markFieldS fs 1 (by omega) hx hb) (by simp -dsimp -implicitDefEqProofs only [go_sem, Nat.reduceBEq, Nat.reduceAdd, Nat.reduceLeDiff, Nat.reduceSub, Int.reduceEq]) ?_ ?_ ?_ ?_; rotate_left; (· (simp -dsimp -implicitDefEqProofs only [go_sem, Nat.reduceBEq, Nat.reduceAdd, Nat.reduceLeDiff, Nat.reduceSub, Int.reduceEq, bl3, rowFd, smC, mkSm, mkB, Bool.not_true, decide_true]; done)); (· (simp -dsimp -implicitDefEqProofs only [go_sem, Nat.reduceBEq, Nat.reduceAdd, Nat.reduceLeDiff, Nat.reduceSub, Int.reduceEq, bl3, rowFd, smC, mkSm, mkB, Bool.not_true, decide_true]; done)); rotate_left; (· (rintro r rs ⟨rfl, rfl⟩; exact ⟨by (repeat' first | exact trivial | exact pure_rowB _ | exact pure_rowO _ | exact pure_rowI _ | exact pure_rowBB _ | exact pure_rowPk _ _ | exact pure_rowSn _ _ | exact pure_rowFd _ _ | exact pure_rowBBB _ | exact pure_rowCl _ _ | exact pure_rowTb _ _ _ | refine And.intro ?_ ?_), by first | exact ⟨by (repeat' first | exact trivial | exact pure_rowB _ | exact pure_rowO _ | exact pure_rowI _ | exact pure_rowBB _ | exact pure_rowPk _ _ | exact pure_rowSn _ _ | exact pure_rowFd _ _ | exact pure_rowBBB _ | exact pure_rowCl _ _ | exact pure_rowTb _ _ _ | refine And.intro ?_ ?_), trivial⟩ | exact ⟨by (repeat' first | exact trivial | exact pure_rowB _ | exact pure_rowO _ | exact pure_rowI _ | exact pure_rowBB _ | exact pure_rowPk _ _ | exact pure_rowSn _ _ | exact pure_rowFd _ _ | exact pure_rowBBB _ | exact pure_rowCl _ _ | exact pure_rowTb _ _ _ | refine And.intro ?_ ?_), trivial, trivial⟩⟩)); rintro r rs ⟨rfl, rfl⟩; try simp -dsimp -implicitDefEqProofs only [go_sem, Nat.reduceBEq, Nat.reduceAdd, Nat.reduceLeDiff, Nat.reduceSub, Int.reduceEq, bl3, rowFd, smC, mkSm, mkB, Bool.not_true, decide_true])
    | (refine CallE.mut (c_markStream y 1 (by omega) y1 y2 y3 y4) (by simp -dsimp -implicitDefEqProofs only [go_sem, Nat.reduceBEq, Nat.reduceAdd, Nat.reduceLeDiff, Nat.reduceSub, Int.reduceEq]) ?_ ?_ ?_ ?_; rotate_left; (· (simp -dsimp -implicitDefEqProofs only [go_sem, Nat.reduceBEq, Nat.reduceAdd, Nat.reduceLeDiff, Nat.reduceSub, Int.reduceEq, bl3, rowFd, smC, mkSm, mkB, Bool.not_true, decide_true]; done)); (· (simp -dsimp -implicitDefEqProofs only [go_sem, Nat.reduceBEq, Nat.reduceAdd, Nat.reduceLeDiff, Nat.reduceSub, Int.reduceEq, bl3, rowFd, smC, mkSm, mkB, Bool.not_true, decide_true]; done)); rotate_left; (· (rintro r rs ⟨rfl, rfl⟩; exact ⟨by (repeat' first | exact trivial | exact pure_rowB _ | exact pure_rowO _ | exact pure_rowI _ | exact pure_rowBB _ | exact pure_rowPk _ _ | exact pure_rowSn _ _ | exact pure_rowFd _ _ | exact pure_rowBBB _ | exact pure_rowCl _ _ | exact pure_rowTb _ _ _ | refine And.intro ?_ ?_), by first | exact ⟨by (repeat' first | exact trivial | exact pure_rowB _ | exact pure_rowO _ | exact pure_rowI _ | exact pure_rowBB _ | exact pure_rowPk _ _ | exact pure_rowSn _ _ | exact pure_rowFd _ _ | exact pure_rowBBB _ | exact pure_rowCl _ _ | exact pure_rowTb _ _ _ | refine And.intro ?_ ?_), trivial⟩ | exact ⟨by (repeat' first | exact trivial | exact pure_rowB _ | exact pure_rowO _ | exact pure_rowI _ | exact pure_rowBB _ | exact pure_rowPk _ _ | exact pure_rowSn _ _ | exact pure_rowFd _ _ | exact pure_rowBBB _ | exact pure_rowCl _ _ | exact pure_rowTb _ _ _ | refine And.intro ?_ ?_), trivial, trivial⟩⟩)); rintro r rs ⟨rfl, rfl⟩; try simp -dsimp -implicitDefEqProofs only [go_sem, Nat.reduceBEq, Nat.reduceAdd, Nat.reduceLeDiff, Nat.reduceSub, Int.reduceEq, bl3, rowFd, smC, mkSm, mkB, Bool.not_true, decide_true])
    | (refine CallE.mut (c_markByteS l (1 + szSm y) (by omega) (by omega)) (by simp -dsimp -implicitDefEqProofs only [go_sem, Nat.reduceBEq, Nat.reduceAdd, Nat.reduceLeDiff, Nat.reduceSub, Int.reduceEq]) ?_ ?_ ?_ ?_; rotate_left; (· (simp -dsimp -implicitDefEqProofs only [go_sem, Nat.reduceBEq, Nat.reduceAdd, Nat.reduceLeDiff, Nat.reduceSub, Int.reduceEq, bl3, rowFd, smC, mkSm, mkB, Bool.not_true, decide_true]; done)); (· (simp -dsimp -implicitDefEqProofs only [go_sem, Nat.reduceBEq, Nat.reduceAdd, Nat.reduceLeDiff, Nat.reduceSub, Int.reduceEq, bl3, rowFd, smC, mkSm, mkB, Bool.not_true, decide_true]; done)); rotate_left; (· (rintro r rs ⟨rfl, rfl⟩; exact ⟨by (repeat' first | exact trivial | exact pure_rowB _ | exact pure_rowO _ | exact pure_rowI _ | exact pure_rowBB _ | exact pure_rowPk _ _ | exact pure_rowSn _ _ | exact pure_rowFd _ _ | exact pure_rowBBB _ | exact pure_rowCl _ _ | exact pure_rowTb _ _ _ | refine And.intro ?_ ?_), by first | exact ⟨by (repeat' first | exact trivial | exact pure_rowB _ | exact pure_rowO _ | exact pure_rowI _ | exact pure_rowBB _ | exact pure_rowPk _ _ | exact pure_rowSn _ _ | exact pure_rowFd _ _ | exact pure_rowBBB _ | exact pure_rowCl _ _ | exact pure_rowTb _ _ _ | refine And.intro ?_ ?_), trivial⟩ | exact ⟨by (repeat' first | exact trivial | exact pure_rowB _ | exact pure_rowO _ | exact pure_rowI _ | exact pure_rowBB _ | exact pure_rowPk _ _ | exact pure_rowSn _ _ | exact pure_rowFd _ _ | exact pure_rowBBB _ | exact pure_rowCl _ _ | exact pure_rowTb _ _ _ | refine And.intro ?_ ?_), trivial, trivial⟩⟩)); rintro r rs ⟨rfl, rfl⟩; try simp -dsimp -implicitDefEqProofs only [go_sem, Nat.reduceBEq, Nat.reduceAdd, Nat.reduceLeDiff, Nat.reduceSub, Int.reduceEq, bl3, rowFd, smC, mkSm, mkB, Bool.not_true, decide_true])
    | (refine CallE.of (c_heldStream y 1 (by omega) y1 y2 y3 y4) ?_ ?_ ?_; rotate_left; (· (simp -dsimp -implicitDefEqProofs only [go_sem, Nat.reduceBEq, Nat.reduceAdd, Nat.reduceLeDiff, Nat.reduceSub, Int.reduceEq, bl3, rowFd, smC, mkSm, mkB, Bool.not_true, decide_true]; done)); rotate_left; (· (rintro r rfl; (repeat' first | exact trivial | exact pure_rowB _ | exact pure_rowO _ | exact pure_rowI _ | exact pure_rowBB _ | exact pure_rowPk _ _ | exact pure_rowSn _ _ | exact pure_rowFd _ _ | exact pure_rowBBB _ | exact pure_rowCl _ _ | exact pure_rowTb _ _ _ | refine And.intro ?_ ?_))); rintro r rfl; try simp -dsimp -implicitDefEqProofs only [go_sem, Nat.reduceBEq, Nat.reduceAdd, Nat.reduceLeDiff, Nat.reduceSub, Int.reduceEq, bl3, rowFd, smC, mkSm, mkB, Bool.not_true, decide_true])
    | (refine CallE.of (c_heldByteS (1 + szSm y) l.length (by omega) (by omega)) ?_ ?_ ?_; rotate_left; (· (simp -dsimp -implicitDefEqProofs only [go_sem, Nat.reduceBEq, Nat.reduceAdd, Nat.reduceLeDiff, Nat.reduceSub, Int.reduceEq, bl3, rowFd, smC, mkSm, mkB, Bool.not_true, decide_true]; done)); rotate_left; (· (rintro r rfl; (repeat' first | exact trivial | exact pure_rowB _ | exact pure_rowO _ | exact pure_rowI _ | exact pure_rowBB _ | exact pure_rowPk _ _ | exact pure_rowSn _ _ | exact pure_rowFd _ _ | exact pure_rowBBB _ | exact pure_rowCl _ _ | exact pure_rowTb _ _ _ | refine And.intro ?_ ?_))); rintro r rfl; try simp -dsimp -implicitDefEqProofs only [go_sem, Nat.reduceBEq, Nat.reduceAdd, Nat.reduceLeDiff, Nat.reduceSub, Int.reduceEq, bl3, rowFd, smC, mkSm, mkB, Bool.not_true, decide_true])
    | with_reducible refine ifB'.no (by omega) ?_
    | simp -dsimp -implicitDefEqProofs only [go_sem, Nat.reduceBEq, Nat.reduceAdd, Nat.reduceLeDiff, Nat.reduceSub, Int.reduceEq, bl3, rowFd, smC, mkSm, mkB, Bool.not_true, decide_true])
end Go.Ev
set_option linter.unusedSimpArgs false
set_option linter.unusedVariables false
namespace Go.Ev
open Go Go.RowKit
variable {P : Program}
theorem RepVs.shift {C : Cx} {cl : Bool} {o : Org} : ∀ {us : List AV} {vs : List Value} {q q' : Nat}, RepVs C cl (.read o) q us vs → RepVs C cl (.read o) q' us vs
  | [], vs, q, q', h => h
  | c :: cs, vs, q, q', h => by
    obtain ⟨y, ys, e, h1, h2⟩ := h
    exact ⟨y, ys, e, h1, RepVs.shift h2⟩
theorem RepVs.app {C : Cx} {cl : Bool} {o : Org} {bs : List AV} {ws : List Value} : ∀ {us : List AV} {vs : List Value} {q : Nat}, RepVs C cl (.read o) q us vs → RepVs C cl (.read o) 0 bs ws → RepVs C cl (.read o) q (us ++ bs) (vs ++ ws)
  | [], vs, q, h, h' => by
    have e : vs = [] := h
    rw [e]; exact h'.shift
  | c :: cs, vs, q, h, h' => by
    obtain ⟨y, ys, e, h1, h2⟩ := h
    exact ⟨y, ys ++ ws, by rw [e]; rfl, h1, RepVs.app h2 h'⟩
def OpensG (P : Program) (fs : List Field) (off tot : Nat) {α : Type} (enc : α → List AV) (inv : α → Prop) : Prop :=
  ∀ {H : Type} (eh : TypeId × Value → H) (W : World) (n : Nat) (cs : List Value) (xs : List (DataW H × List MemPlace)), cs.length = tot → xs.length = fs.length →
    (∀ (i : Nat) (f : Field), fs[i]? = some f → DataW.trod eh P W 0 (fun _ => true) true n f.type ((cs.drop f.offset).take (P.cellsOf f.type)) = xs[i]?) → (∀ m ∈ DataW.weightsEach P (fs.map (·.type)) (xs.map (·.1)), m ≤ reachBytes) →
    ∃ a : α, inv a ∧ RepVs (inC W) true (.read .ent) 0 (enc a) (cs.drop off)
theorem OpensG.nil {tot : Nat} : OpensG P [] tot tot (fun _ : Unit => []) (fun _ => True) := fun eh W n cs xs h _ _ _ => ⟨(), trivial, by rw [List.drop_of_length_le (by omega)]; rfl⟩
theorem OpensG.cons {f : Field} {fs : List Field} {off k tot : Nat} {α β : Type} {enc : α → List AV} {inv : α → Prop} {encs : β → List AV} {invs : β → Prop} (hoff : f.offset = off) (hk : P.cellsOf f.type = k) (h : Opens P f.type enc inv) (hs : OpensG P fs (off + k) tot encs invs) :
    OpensG P (f :: fs) off tot (fun p : α × β => enc p.1 ++ encs p.2) (fun p => inv p.1 ∧ invs p.2) := fun eh W n cs xs hl hx hf hw => by
  match xs, hx with
  | x :: xs, hx =>
    have h0 := hf 0 f rfl
    rw [hoff, hk] at h0
    obtain ⟨a, ha, hra⟩ := h eh W n _ x h0 (fun m hm => hw m (by simp only [List.map_cons, DataW.weightsEach, List.mem_append]; exact .inl hm))
    obtain ⟨b, hb, hrb⟩ := hs eh W n cs xs hl (by simpa using hx) (fun i g hg => by simpa using hf (i + 1) g (by simpa using hg)) (fun m hm => hw m (by simp only [List.map_cons, DataW.weightsEach, List.mem_append]; exact .inr hm))
    refine ⟨(a, b), ⟨ha, hb⟩, ?_⟩
    have e : cs.drop off = (cs.drop off).take k ++ cs.drop (off + k) := by rw [← List.drop_drop, List.take_append_drop]
    rw [e]
    exact hra.app hrb
theorem Opens.struct {t : TypeId} {fs : Array Field} {tot : Nat} (ht : P.underlying t = some (.struct fs)) (htot : P.cellsOf t = tot) {α : Type} {enc : α → List AV} {inv : α → Prop} (h : OpensG P fs.toList 0 tot enc inv) : Opens P t enc inv := fun eh W fuel cs x hx hw => by
  obtain ⟨xs, n, _, rfl, hl, hlen, hf⟩ := DataW.trod_struct ht hx
  obtain ⟨a, ha, hr⟩ := h eh W n cs xs (by rw [hl, htot]) (by simpa using hlen) (fun i f hi => hf i f (by simpa using hi)) (fun m hm => hw m (by simp only [DataW.weights, ht]; exact hm))
  exact ⟨a, ha, hr⟩
theorem Opens.map {t : TypeId} {α β : Type} {enc : α → List AV} {inv : α → Prop} {enc' : β → List AV} {inv' : β → Prop} (g : α → β) (he : ∀ a, enc' (g a) = enc a) (hi : ∀ a, inv a → inv' (g a)) (h : Opens P t enc inv) : Opens P t enc' inv' := fun eh W fuel cs x hx hw => by
  obtain ⟨a, ha, hr⟩ := h eh W fuel cs x hx hw
  exact ⟨g a, hi a ha, by rw [he]; exact hr⟩
end Go.Ev
