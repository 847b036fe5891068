/- Part 14 of what the row leans on: the evaluator, words, contracts of functions; pruned by a program of ours. -/
import Derived.Test.YtnoelgaficjjmaaGreatCs13
set_option linter.unusedSimpArgs false
set_option linter.unusedVariables false
namespace Go.Ev
open Go Go.RowKit Go.Proofs
def bbC (xs : List (List UInt8)) : List AV := [.row 48 1 (ra byC xs)]
def rowBBB (xs : List (List (List UInt8))) : AV := .row 132 1 (ra bbC xs)
def bbW (xs : List (List UInt8)) : Nat := xs.length + wBB xs
theorem bbA_at {xs : List (List (List UInt8))} {i : Nat} (h : i < xs.length) : (ra bbC xs)[i]? = some [.row 48 1 (ra byC xs[i])] := ra_at h
theorem bbA_set (xs : List (List (List UInt8))) (i : Nat) (b : List (List UInt8)) : (ra bbC xs).set i [.row 48 1 (ra byC b)] = ra bbC (xs.set i b) := ra_set xs i b
theorem bbA_zeros (n : Nat) : List.replicate n [AV.row 48 1 []] = ra bbC (List.replicate n []) := by simp [ra, bbC]
theorem pure_rowBBB (xs : List (List (List UInt8))) : (rowBBB xs).pure := pureEls_ra (enc := bbC) (fun x => ⟨pureEls_ra (enc := byC) pure_byC x, trivial⟩) xs
theorem mem_bbW {xs : List (List (List UInt8))} {b : List (List UInt8)} (h : b ∈ xs) : b.length + wBB b ≤ szL bbW xs := by
  obtain ⟨i, hi, rfl⟩ := List.mem_iff_getElem.1 h
  have := szL_at_le bbW hi
  have : bbW xs[i] = xs[i].length + wBB xs[i] := rfl
  omega
def lenOk (xs : List (List UInt8)) (n : Nat) : Prop := xs.length ≤ n ∧ ∀ b ∈ xs, b.length ≤ n
theorem c_szByteSSS (xs : List (List (List UInt8))) (left : Nat) (hl : left ≤ 1048576) (hx : xs.length ≤ 140737488355328) (hb : ∀ b ∈ xs, lenOk b 140737488355328) : Meets Tryz.prog 51 [rowBBB xs, .v (.int .i64 left)] (fun r => r = .v (.int .i64 (szR left (xs.length + szL bbW xs)))) := by
  refine Meets.intro mixed (hint []) Tryz.func51 rfl (by decide) res_51 rty_51 (by kernel_rfl) ?_; 
  have e : IntKind.i64.wrap ((left : Int) - xs.length) = (left : Int) - xs.length := wrap_i64_of (by omega) (by omega)
  simp -dsimp -implicitDefEqProofs only [go_sem, Nat.reduceBEq, Nat.reduceAdd, Nat.reduceLeDiff, Nat.reduceSub, Int.reduceEq, e, rowBBB]
  refine ifB'.of (fun h => ?_) (fun h => ?_)
  · simp -dsimp -implicitDefEqProofs only [go_sem, Nat.reduceBEq, Nat.reduceAdd, Nat.reduceLeDiff, Nat.reduceSub, Int.reduceEq]
    rw [szR_no (by omega)]
  simp -dsimp -implicitDefEqProofs only [go_sem, Nat.reduceBEq, Nat.reduceAdd, Nat.reduceLeDiff, Nat.reduceSub, Int.reduceEq, e]
  refine LoopE.cnt xs.length (fun i s => s.env 0 = .rd .ent 132 1 (ra bbC xs) ∧ s.env 5 = .v (.int .i64 i) ∧ xs.length + szL bbW (xs.take i) ≤ left ∧ s.env 1 = .v (.int .i64 ((left - (xs.length + szL bbW (xs.take i)) : Nat) : Int))) ⟨by simp -dsimp -implicitDefEqProofs only [go_sem, Nat.reduceBEq, Nat.reduceAdd, Nat.reduceLeDiff, Nat.reduceSub, Int.reduceEq, initE, rowBBB], by simp -dsimp -implicitDefEqProofs only [go_sem, Nat.reduceBEq, Nat.reduceAdd, Nat.reduceLeDiff, Nat.reduceSub, Int.reduceEq] <;> simp, by simp [szL]; omega, by simp -dsimp -implicitDefEqProofs only [go_sem, Nat.reduceBEq, Nat.reduceAdd, Nat.reduceLeDiff, Nat.reduceSub, Int.reduceEq] <;> (simp [szL]; omega)⟩ ?_
  rintro i ⟨e, σ⟩ hi ⟨h0, h5, hle, h1⟩ K hK
  simp only at h0 h5 h1
  simp -dsimp -implicitDefEqProofs only [go_sem, Nat.reduceBEq, Nat.reduceAdd, Nat.reduceLeDiff, Nat.reduceSub, Int.reduceEq, h0, h5, h1]
  refine ifB'.of (fun hlt => ?_) (fun hlt => ?_)
  · have hlt : i < xs.length := by omega
    have hs := szL_take_succ bbW hlt
    have hw := szL_take_le bbW xs (i + 1)
    have hww : bbW xs[i] = xs[i].length + wBB xs[i] := rfl
    have hbi := hb _ (List.getElem_mem hlt)
    simp -dsimp -implicitDefEqProofs only [go_sem, Nat.reduceBEq, Nat.reduceAdd, Nat.reduceLeDiff, Nat.reduceSub, Int.reduceEq, h0, h5, h1, bbA_at hlt]
    repeat with_reducible refine ask.of (by omega) ?_
    refine CallE.of (c_szByteSS xs[i] (left - (xs.length + szL bbW (xs.take i))) (by omega) hbi.1 hbi.2) (by rintro r rfl; (repeat' first | exact trivial | exact pure_rowB _ | exact pure_rowO _ | exact pure_rowI _ | exact pure_rowBB _ | exact pure_rowPk _ _ | exact pure_rowSn _ _ | exact pure_rowFd _ _ | exact pure_rowBBB _ | exact pure_rowCl _ _ | exact pure_rowTb _ _ _ | refine And.intro ?_ ?_)) (by simp -dsimp -implicitDefEqProofs only [go_sem, Nat.reduceBEq, Nat.reduceAdd, Nat.reduceLeDiff, Nat.reduceSub, Int.reduceEq, h0, h5, h1]) ?_
    rintro r rfl
    simp -dsimp -implicitDefEqProofs only [go_sem, Nat.reduceBEq, Nat.reduceAdd, Nat.reduceLeDiff, Nat.reduceSub, Int.reduceEq, h0, h5, h1]
    refine ifB'.of (fun hn => ?_) (fun hn => ?_)
    · have : ¬ xs[i].length + wBB xs[i] ≤ left - (xs.length + szL bbW (xs.take i)) := fun h => by rw [szR_ok h] at hn; omega
      simp -dsimp -implicitDefEqProofs only [go_sem, Nat.reduceBEq, Nat.reduceAdd, Nat.reduceLeDiff, Nat.reduceSub, Int.reduceEq, h0, h5, h1]
      rw [szR_no (by omega)]
    · have h : xs[i].length + wBB xs[i] ≤ left - (xs.length + szL bbW (xs.take i)) := Classical.byContradiction fun h => by rw [szR_no h] at hn; omega
      simp -dsimp -implicitDefEqProofs only [go_sem, Nat.reduceBEq, Nat.reduceAdd, Nat.reduceLeDiff, Nat.reduceSub, Int.reduceEq, h0, h5, h1]
      refine hK _ hlt ?_
      simp -dsimp -implicitDefEqProofs only [go_sem, Nat.reduceBEq, Nat.reduceAdd, Nat.reduceLeDiff, Nat.reduceSub, Int.reduceEq, h0, h5, h1, wrap_succ (show i < 4611686018427387904 by omega), szR_ok h, hs]
      exact ⟨by omega, by omega⟩
  · have : i = xs.length := by omega
    subst this
    simp -dsimp -implicitDefEqProofs only [go_sem, Nat.reduceBEq, Nat.reduceAdd, Nat.reduceLeDiff, Nat.reduceSub, Int.reduceEq, h0, h5, h1]
    rw [List.take_length] at hle ⊢
    rw [szR_ok (by omega)]
theorem c_toByteSSS (xs : List (List (List UInt8))) (hx : xs.length ≤ 1048576) (hb : ∀ b ∈ xs, lenOk b 1048576) : Meets Tryz.prog 65 [rowBBB xs] (fun r => r = rowBBB xs) := by
  refine Meets.intro mixed (hint []) Tryz.func65 rfl (by decide) res_65 rty_65 (by kernel_rfl) ?_; 
  simp -dsimp -implicitDefEqProofs only [go_sem, Nat.reduceBEq, Nat.reduceAdd, Nat.reduceLeDiff, Nat.reduceSub, Int.reduceEq, rowBBB]
  refine ask.of (by omega) ?_
  refine LoopE.cnt xs.length (fun i s => s.env 0 = .rd .ent 132 1 (ra bbC xs) ∧ s.env 3 = .ref [7] ∧ s.env 4 = .v (.int .i64 i) ∧ s.σ [7] = some (.row 132 1 (ra bbC (xs.take i ++ List.replicate (xs.length - i) [])))) ⟨by simp -dsimp -implicitDefEqProofs only [go_sem, Nat.reduceBEq, Nat.reduceAdd, Nat.reduceLeDiff, Nat.reduceSub, Int.reduceEq, initE, rowBBB], by simp -dsimp -implicitDefEqProofs only [go_sem, Nat.reduceBEq, Nat.reduceAdd, Nat.reduceLeDiff, Nat.reduceSub, Int.reduceEq], by simp -dsimp -implicitDefEqProofs only [go_sem, Nat.reduceBEq, Nat.reduceAdd, Nat.reduceLeDiff, Nat.reduceSub, Int.reduceEq] <;> simp, by simp -dsimp -implicitDefEqProofs only [go_sem, Nat.reduceBEq, Nat.reduceAdd, Nat.reduceLeDiff, Nat.reduceSub, Int.reduceEq, bbA_zeros] <;> simp⟩ ?_
  rintro i ⟨e, σ⟩ hi ⟨h0, h3, h4, hs⟩ K hK
  simp only at h0 h3 h4 hs
  simp -dsimp -implicitDefEqProofs only [go_sem, Nat.reduceBEq, Nat.reduceAdd, Nat.reduceLeDiff, Nat.reduceSub, Int.reduceEq, h0, h3, h4, hs]
  refine ifB'.of (fun hlt => ?_) (fun hlt => ?_)
  · have hlt : i < xs.length := by omega
    have hbi := hb _ (List.getElem_mem hlt)
    simp -dsimp -implicitDefEqProofs only [go_sem, Nat.reduceBEq, Nat.reduceAdd, Nat.reduceLeDiff, Nat.reduceSub, Int.reduceEq, h0, h3, h4, hs, bbA_at hlt]
    repeat with_reducible refine ask.of (by omega) ?_
    refine CallE.of (c_toByteSS xs[i] hbi.1 hbi.2) (by rintro r rfl; (repeat' first | exact trivial | exact pure_rowB _ | exact pure_rowO _ | exact pure_rowI _ | exact pure_rowBB _ | exact pure_rowPk _ _ | exact pure_rowSn _ _ | exact pure_rowFd _ _ | exact pure_rowBBB _ | exact pure_rowCl _ _ | exact pure_rowTb _ _ _ | refine And.intro ?_ ?_)) (by simp -dsimp -implicitDefEqProofs only [go_sem, Nat.reduceBEq, Nat.reduceAdd, Nat.reduceLeDiff, Nat.reduceSub, Int.reduceEq, h0, h3, h4, hs]) ?_
    rintro r rfl
    simp -dsimp -implicitDefEqProofs only [go_sem, Nat.reduceBEq, Nat.reduceAdd, Nat.reduceLeDiff, Nat.reduceSub, Int.reduceEq, h0, h3, h4, hs]
    have hl : (List.take i xs ++ List.replicate (xs.length - i) []).length = xs.length := by simp; omega
    simp -dsimp -implicitDefEqProofs only [go_sem, Nat.reduceBEq, Nat.reduceAdd, Nat.reduceLeDiff, Nat.reduceSub, Int.reduceEq, h0, h3, h4, hs, hl]
    repeat with_reducible refine ask.of (by omega) ?_
    simp -dsimp -implicitDefEqProofs only [go_sem, Nat.reduceBEq, Nat.reduceAdd, Nat.reduceLeDiff, Nat.reduceSub, Int.reduceEq, h0, h3, h4, hs, bbA_at (show i < (List.take i xs ++ List.replicate (xs.length - i) []).length by omega)]
    refine hK _ hlt ?_
    simp -dsimp -implicitDefEqProofs only [go_sem, Nat.reduceBEq, Nat.reduceAdd, Nat.reduceLeDiff, Nat.reduceSub, Int.reduceEq, h0, h3, h4, hs, wrap_succ (show i < 4611686018427387904 by omega), bbA_set, fill_set xs [] hlt]
  · have : i = xs.length := by omega
    subst this
    simp -dsimp -implicitDefEqProofs only [go_sem, Nat.reduceBEq, Nat.reduceAdd, Nat.reduceLeDiff, Nat.reduceSub, Int.reduceEq, h0, h3, h4, hs]
    simp
theorem c_eqByteSSS (xs : List (List (List UInt8))) (hx : xs.length ≤ 8388608) (hb : ∀ b ∈ xs, lenOk b 1048576) : Meets Tryz.prog 81 [rowBBB xs, rowBBB xs] (fun r => r = .v (.bool true)) := by
  refine Meets.intro mixed (hint []) Tryz.func81 rfl (by decide) res_81 rty_81 (by kernel_rfl) ?_; 
  simp -dsimp -implicitDefEqProofs only [go_sem, Nat.reduceBEq, Nat.reduceAdd, Nat.reduceLeDiff, Nat.reduceSub, Int.reduceEq, decide_true, Bool.not_true, rowBBB]
  refine LoopE.cnt xs.length (fun i s => s.env 0 = .rd .ent 132 1 (ra bbC xs) ∧ s.env 1 = .rd .ent 132 1 (ra bbC xs) ∧ s.env 5 = .v (.int .i64 i)) ⟨by simp -dsimp -implicitDefEqProofs only [go_sem, Nat.reduceBEq, Nat.reduceAdd, Nat.reduceLeDiff, Nat.reduceSub, Int.reduceEq, initE, rowBBB], by simp -dsimp -implicitDefEqProofs only [go_sem, Nat.reduceBEq, Nat.reduceAdd, Nat.reduceLeDiff, Nat.reduceSub, Int.reduceEq, initE, rowBBB], by simp -dsimp -implicitDefEqProofs only [go_sem, Nat.reduceBEq, Nat.reduceAdd, Nat.reduceLeDiff, Nat.reduceSub, Int.reduceEq] <;> simp⟩ ?_
  rintro i ⟨e, σ⟩ hi ⟨h0, h1, h5⟩ K hK
  simp only at h0 h1 h5
  simp -dsimp -implicitDefEqProofs only [go_sem, Nat.reduceBEq, Nat.reduceAdd, Nat.reduceLeDiff, Nat.reduceSub, Int.reduceEq, h0, h1, h5]
  refine ifB'.of (fun hlt => ?_) (fun hlt => ?_)
  · have hlt : i < xs.length := by omega
    have hbi := hb _ (List.getElem_mem hlt)
    simp -dsimp -implicitDefEqProofs only [go_sem, Nat.reduceBEq, Nat.reduceAdd, Nat.reduceLeDiff, Nat.reduceSub, Int.reduceEq, h0, h1, h5, bbA_at hlt]
    repeat with_reducible refine ask.of (by omega) ?_
    refine CallE.of (c_eqByteSS xs[i] (by have := hbi.1; omega) (fun b h => by have := hbi.2 b h; omega)) (by rintro r rfl; (repeat' first | exact trivial | exact pure_rowB _ | exact pure_rowO _ | exact pure_rowI _ | exact pure_rowBB _ | exact pure_rowPk _ _ | exact pure_rowSn _ _ | exact pure_rowFd _ _ | exact pure_rowBBB _ | exact pure_rowCl _ _ | exact pure_rowTb _ _ _ | refine And.intro ?_ ?_)) (by simp -dsimp -implicitDefEqProofs only [go_sem, Nat.reduceBEq, Nat.reduceAdd, Nat.reduceLeDiff, Nat.reduceSub, Int.reduceEq, h0, h1, h5, Bool.not_true]) ?_
    rintro r rfl
    simp -dsimp -implicitDefEqProofs only [go_sem, Nat.reduceBEq, Nat.reduceAdd, Nat.reduceLeDiff, Nat.reduceSub, Int.reduceEq, h0, h1, h5, Bool.not_true]
    refine hK _ hlt ?_
    simp -dsimp -implicitDefEqProofs only [go_sem, Nat.reduceBEq, Nat.reduceAdd, Nat.reduceLeDiff, Nat.reduceSub, Int.reduceEq, h0, h1, h5, wrap_succ (show i < 4611686018427387904 by omega)]
  · simp -dsimp -implicitDefEqProofs only [go_sem, Nat.reduceBEq, Nat.reduceAdd, Nat.reduceLeDiff, Nat.reduceSub, Int.reduceEq, h0, h1, h5]
structure Sm where
  o : Bool
  fs : List Fd
  s : Int
  ds : List (List (List UInt8))
def smC (T : Nat) (x : Sm) : List AV := [.v (.bool x.o), .row T 3 (ra fdC x.fs), .v (.int .i64 x.s), .row 132 1 (ra bbC x.ds)]
def smW (x : Sm) : Nat := x.fs.length + szL fdW x.fs + (x.ds.length + szL bbW x.ds)
theorem c_szStream (x : Sm) (left : Nat) (hl : left ≤ 1048576) (h1 : x.fs.length ≤ 140737488355328) (h2 : ∀ b ∈ x.fs, b.f.length ≤ 140737488355328) (h3 : x.ds.length ≤ 140737488355328) (h4 : ∀ b ∈ x.ds, lenOk b 140737488355328) : Meets Tryz.prog 20 [.agg (smC 84 x), .v (.int .i64 left)] (fun r => r = .v (.int .i64 (szR left (smW x)))) := by
  refine Meets.intro mixed (hint []) Tryz.func20 rfl (by decide) res_20 rty_20 (by kernel_rfl) ?_; 
  simp -dsimp -implicitDefEqProofs only [go_sem, Nat.reduceBEq, Nat.reduceAdd, Nat.reduceLeDiff, Nat.reduceSub, Int.reduceEq, smC]
  repeat (first | with_reducible refine ask.of (by omega) ?_ | simp -dsimp -implicitDefEqProofs only [go_sem, Nat.reduceBEq, Nat.reduceAdd, Nat.reduceLeDiff, Nat.reduceSub, Int.reduceEq, bleF])
  refine CallE.of (c_szFieldS x.fs left hl h1 h2) (by rintro r rfl; (repeat' first | exact trivial | exact pure_rowB _ | exact pure_rowO _ | exact pure_rowI _ | exact pure_rowBB _ | exact pure_rowPk _ _ | exact pure_rowSn _ _ | exact pure_rowFd _ _ | exact pure_rowBBB _ | exact pure_rowCl _ _ | exact pure_rowTb _ _ _ | refine And.intro ?_ ?_)) (by simp -dsimp -implicitDefEqProofs only [go_sem, Nat.reduceBEq, Nat.reduceAdd, Nat.reduceLeDiff, Nat.reduceSub, Int.reduceEq, rowFd]) ?_
  rintro r rfl
  simp -dsimp -implicitDefEqProofs only [go_sem, Nat.reduceBEq, Nat.reduceAdd, Nat.reduceLeDiff, Nat.reduceSub, Int.reduceEq, rowFd]
  by_cases h : x.fs.length + szL fdW x.fs ≤ left
  · rw [szR_ok h]
    refine ifB'.of (fun h => by omega) (fun h => ?_)
    repeat (first | with_reducible refine ask.of (by omega) ?_ | simp -dsimp -implicitDefEqProofs only [go_sem, Nat.reduceBEq, Nat.reduceAdd, Nat.reduceLeDiff, Nat.reduceSub, Int.reduceEq, bleF])
    refine CallE.of (c_szByteSSS x.ds (left - (x.fs.length + szL fdW x.fs)) (by omega) h3 h4) (by rintro r rfl; (repeat' first | exact trivial | exact pure_rowB _ | exact pure_rowO _ | exact pure_rowI _ | exact pure_rowBB _ | exact pure_rowPk _ _ | exact pure_rowSn _ _ | exact pure_rowFd _ _ | exact pure_rowBBB _ | exact pure_rowCl _ _ | exact pure_rowTb _ _ _ | refine And.intro ?_ ?_)) (by simp -dsimp -implicitDefEqProofs only [go_sem, Nat.reduceBEq, Nat.reduceAdd, Nat.reduceLeDiff, Nat.reduceSub, Int.reduceEq, rowBBB]) ?_
    rintro r rfl
    simp -dsimp -implicitDefEqProofs only [go_sem, Nat.reduceBEq, Nat.reduceAdd, Nat.reduceLeDiff, Nat.reduceSub, Int.reduceEq, rowBBB]
    by_cases h' : x.ds.length + szL bbW x.ds ≤ left - (x.fs.length + szL fdW x.fs)
    · rw [szR_ok h']
      refine ifB'.of (fun h => by omega) (fun h => ?_)
      simp -dsimp -implicitDefEqProofs only [go_sem, Nat.reduceBEq, Nat.reduceAdd, Nat.reduceLeDiff, Nat.reduceSub, Int.reduceEq]
      rw [szR_ok (by unfold smW; omega), smW]; omega
    · rw [szR_no h']
      simp -dsimp -implicitDefEqProofs only [go_sem, Nat.reduceBEq, Nat.reduceAdd, Nat.reduceLeDiff, Nat.reduceSub, Int.reduceEq, show decide ((-1 : Int) < 0) = true from rfl]
      rw [szR_no (by unfold smW; omega)]
  · rw [szR_no h]
    simp -dsimp -implicitDefEqProofs only [go_sem, Nat.reduceBEq, Nat.reduceAdd, Nat.reduceLeDiff, Nat.reduceSub, Int.reduceEq, show decide ((-1 : Int) < 0) = true from rfl]
    rw [szR_no (by unfold smW; omega)]
theorem c_toStream (x : Sm) (h1 : x.fs.length ≤ 1048576) (h2 : ∀ b ∈ x.fs, b.f.length ≤ 1048576) (h3 : x.ds.length ≤ 1048576) (h4 : ∀ b ∈ x.ds, lenOk b 1048576) : Meets Tryz.prog 27 [.agg (smC 84 x)] (fun r => r = .agg (smC 101 x)) := by
  refine Meets.intro mixed (hint []) Tryz.func27 rfl (by decide) res_27 rty_27 (by kernel_rfl) ?_; 
  simp -dsimp -implicitDefEqProofs only [go_sem, Nat.reduceBEq, Nat.reduceAdd, Nat.reduceLeDiff, Nat.reduceSub, Int.reduceEq, smC]
  repeat (first | with_reducible refine ask.of (by omega) ?_ | simp -dsimp -implicitDefEqProofs only [go_sem, Nat.reduceBEq, Nat.reduceAdd, Nat.reduceLeDiff, Nat.reduceSub, Int.reduceEq, bleF])
  refine CallE.of (c_toFieldS x.fs h1 h2) (by rintro r rfl; (repeat' first | exact trivial | exact pure_rowB _ | exact pure_rowO _ | exact pure_rowI _ | exact pure_rowBB _ | exact pure_rowPk _ _ | exact pure_rowSn _ _ | exact pure_rowFd _ _ | exact pure_rowBBB _ | exact pure_rowCl _ _ | exact pure_rowTb _ _ _ | refine And.intro ?_ ?_)) (by simp -dsimp -implicitDefEqProofs only [go_sem, Nat.reduceBEq, Nat.reduceAdd, Nat.reduceLeDiff, Nat.reduceSub, Int.reduceEq, rowFd]) ?_
  rintro r rfl
  simp -dsimp -implicitDefEqProofs only [go_sem, Nat.reduceBEq, Nat.reduceAdd, Nat.reduceLeDiff, Nat.reduceSub, Int.reduceEq, rowFd]
  repeat (first | with_reducible refine ask.of (by omega) ?_ | simp -dsimp -implicitDefEqProofs only [go_sem, Nat.reduceBEq, Nat.reduceAdd, Nat.reduceLeDiff, Nat.reduceSub, Int.reduceEq, bleF])
  refine CallE.of (c_toByteSSS x.ds h3 h4) (by rintro r rfl; (repeat' first | exact trivial | exact pure_rowB _ | exact pure_rowO _ | exact pure_rowI _ | exact pure_rowBB _ | exact pure_rowPk _ _ | exact pure_rowSn _ _ | exact pure_rowFd _ _ | exact pure_rowBBB _ | exact pure_rowCl _ _ | exact pure_rowTb _ _ _ | refine And.intro ?_ ?_)) (by simp -dsimp -implicitDefEqProofs only [go_sem, Nat.reduceBEq, Nat.reduceAdd, Nat.reduceLeDiff, Nat.reduceSub, Int.reduceEq, rowBBB]) ?_
  rintro r rfl
  simp -dsimp -implicitDefEqProofs only [go_sem, Nat.reduceBEq, Nat.reduceAdd, Nat.reduceLeDiff, Nat.reduceSub, Int.reduceEq, rowBBB]
  repeat (first | with_reducible refine ask.of (by omega) ?_ | simp -dsimp -implicitDefEqProofs only [go_sem, Nat.reduceBEq, Nat.reduceAdd, Nat.reduceLeDiff, Nat.reduceSub, Int.reduceEq, bleF])
theorem c_eqStream (x : Sm) (h1 : x.fs.length ≤ 1048576) (h2 : ∀ b ∈ x.fs, b.f.length ≤ 1048576) (h3 : x.ds.length ≤ 1048576) (h4 : ∀ b ∈ x.ds, lenOk b 1048576) : Meets Tryz.prog 34 [.agg (smC 101 x), .agg (smC 101 x)] (fun r => r = .v (.bool true)) := by
  refine Meets.intro mixed (hint []) Tryz.func34 rfl (by decide) res_34 rty_34 (by kernel_rfl) ?_; 
  simp -dsimp -implicitDefEqProofs only [go_sem, Nat.reduceBEq, Nat.reduceAdd, Nat.reduceLeDiff, Nat.reduceSub, Int.reduceEq, smC, decide_true]
  repeat (first | with_reducible refine ask.of (by omega) ?_ | simp -dsimp -implicitDefEqProofs only [go_sem, Nat.reduceBEq, Nat.reduceAdd, Nat.reduceLeDiff, Nat.reduceSub, Int.reduceEq, bleF, decide_true])
  refine CallE.of (c_eqFieldS x.fs h1 h2) (by rintro r rfl; (repeat' first | exact trivial | exact pure_rowB _ | exact pure_rowO _ | exact pure_rowI _ | exact pure_rowBB _ | exact pure_rowPk _ _ | exact pure_rowSn _ _ | exact pure_rowFd _ _ | exact pure_rowBBB _ | exact pure_rowCl _ _ | exact pure_rowTb _ _ _ | refine And.intro ?_ ?_)) (by simp -dsimp -implicitDefEqProofs only [go_sem, Nat.reduceBEq, Nat.reduceAdd, Nat.reduceLeDiff, Nat.reduceSub, Int.reduceEq, rowFd, Bool.not_true]) ?_
  rintro r rfl
  simp -dsimp -implicitDefEqProofs only [go_sem, Nat.reduceBEq, Nat.reduceAdd, Nat.reduceLeDiff, Nat.reduceSub, Int.reduceEq, rowFd, Bool.not_true]
  repeat (first | with_reducible refine ask.of (by omega) ?_ | simp -dsimp -implicitDefEqProofs only [go_sem, Nat.reduceBEq, Nat.reduceAdd, Nat.reduceLeDiff, Nat.reduceSub, Int.reduceEq, bleF, decide_true])
  refine CallE.of (c_eqByteSSS x.ds (by omega) h4) (by rintro r rfl; (repeat' first | exact trivial | exact pure_rowB _ | exact pure_rowO _ | exact pure_rowI _ | exact pure_rowBB _ | exact pure_rowPk _ _ | exact pure_rowSn _ _ | exact pure_rowFd _ _ | exact pure_rowBBB _ | exact pure_rowCl _ _ | exact pure_rowTb _ _ _ | refine And.intro ?_ ?_)) (by simp -dsimp -implicitDefEqProofs only [go_sem, Nat.reduceBEq, Nat.reduceAdd, Nat.reduceLeDiff, Nat.reduceSub, Int.reduceEq, rowBBB, Bool.not_true]) ?_
  rintro r rfl
  simp -dsimp -implicitDefEqProofs only [go_sem, Nat.reduceBEq, Nat.reduceAdd, Nat.reduceLeDiff, Nat.reduceSub, Int.reduceEq, rowBBB, Bool.not_true]
def smAt (x : Sm) (i : Nat) (h : i < x.ds.length) : Prop := okD x.ds[i] ∧ ∃ h' : i < x.fs.length, x.fs[i].k = 3 ∨ x.ds[i].length = 0
def okS (x : Sm) : Prop := if x.o = true then okF x.fs ∧ 0 ≤ x.s ∧ x.s ≤ 1000000000 ∧ x.ds.length = x.fs.length ∧ ∀ i (h : i < x.ds.length), smAt x i h else x.fs.length = 0 ∧ x.s = 0 ∧ x.ds.length = 0
noncomputable def smB (x : Sm) : Bool := @decide (okS x) (Classical.propDecidable _)
theorem sm_f {x : Sm} (h : ¬ okS x) : false = smB x := (@decide_eq_false _ (Classical.propDecidable _) h).symm
theorem sm_t {x : Sm} (h : okS x) : true = smB x := (@decide_eq_true _ (Classical.propDecidable _) h).symm
theorem sm_d {x : Sm} {q : Prop} [Decidable q] (h : q ↔ okS x) : decide q = smB x := by
  by_cases hq : q
  · rw [decide_eq_true hq]; exact sm_t (h.1 hq)
  · rw [decide_eq_false hq]; exact sm_f (fun h' => hq (h.2 h'))
end Go.Ev
set_option linter.unusedSimpArgs false
set_option linter.unusedVariables false
namespace Go.Ev
open Go Go.RowKit Go.Proofs
theorem c_l1copy (b : List UInt8) (hb : b.length ≤ 8388608) : Meets Tryz.prog 90 [rowB b] (fun r => r = rowB b) := by
  refine Meets.intro mixed (hint [(3, 148)]) Tryz.func90 rfl (by decide) res_90 rty_90 (by kernel_rfl) ?_; 
  simp -dsimp -implicitDefEqProofs only [go_sem, Nat.reduceBEq, Nat.reduceAdd, Nat.reduceLeDiff, Nat.reduceSub, Int.reduceEq, initE]
  repeat (first | with_reducible refine ask.of (by first | omega | (simp only [List.length_nil]; omega)) ?_ | simp -dsimp -implicitDefEqProofs only [go_sem, Nat.reduceBEq, Nat.reduceAdd, Nat.reduceLeDiff, Nat.reduceSub, Int.reduceEq, List.nil_append])
theorem c_l3texts (xs : List (List UInt8)) (hx : xs.length ≤ 1048576) (hb : ∀ b ∈ xs, b.length ≤ 8388608) : Meets Tryz.prog 108 [rowBB xs] (fun r => r = rowBB xs) := by
  refine Meets.intro mixed (hint [(3, 232)]) Tryz.func108 rfl (by decide) res_108 rty_108 (by kernel_rfl) ?_; 
  simp -dsimp -implicitDefEqProofs only [go_sem, Nat.reduceBEq, Nat.reduceAdd, Nat.reduceLeDiff, Nat.reduceSub, Int.reduceEq]
  refine LoopE.cnt xs.length (fun i s => s.env 0 = .rd .ent 48 1 (ra byC xs) ∧ s.env 3 = .ref [3] ∧ s.env 4 = .v (.int .i64 i) ∧ s.σ [3] = some (.row 48 1 (ra byC (xs.take i)))) ⟨by simp -dsimp -implicitDefEqProofs only [go_sem, Nat.reduceBEq, Nat.reduceAdd, Nat.reduceLeDiff, Nat.reduceSub, Int.reduceEq, initE], by simp -dsimp -implicitDefEqProofs only [go_sem, Nat.reduceBEq, Nat.reduceAdd, Nat.reduceLeDiff, Nat.reduceSub, Int.reduceEq], by simp -dsimp -implicitDefEqProofs only [go_sem, Nat.reduceBEq, Nat.reduceAdd, Nat.reduceLeDiff, Nat.reduceSub, Int.reduceEq], by simp -dsimp -implicitDefEqProofs only [go_sem, Nat.reduceBEq, Nat.reduceAdd, Nat.reduceLeDiff, Nat.reduceSub, Int.reduceEq] <;> rfl⟩ ?_
  rintro i ⟨e, σ⟩ hi ⟨h0, h3, h4, hs⟩ K hK
  simp only at h0 h3 h4 hs
  simp -dsimp -implicitDefEqProofs only [go_sem, Nat.reduceBEq, Nat.reduceAdd, Nat.reduceLeDiff, Nat.reduceSub, Int.reduceEq, h0, h3, h4, hs]
  refine ifB'.of (fun hlt => ?_) (fun hlt => ?_)
  · have hlt : i < xs.length := by omega
    simp -dsimp -implicitDefEqProofs only [go_sem, Nat.reduceBEq, Nat.reduceAdd, Nat.reduceLeDiff, Nat.reduceSub, Int.reduceEq, h0, h3, h4, hs, byA_at hlt]
    repeat with_reducible refine ask.of (by omega) ?_
    refine CallE.of (c_l1copy xs[i] (hb _ (List.getElem_mem _))) (by rintro r rfl; (repeat' first | exact trivial | exact pure_rowB _ | exact pure_rowO _ | exact pure_rowI _ | exact pure_rowBB _ | exact pure_rowPk _ _ | exact pure_rowSn _ _ | exact pure_rowFd _ _ | exact pure_rowBBB _ | exact pure_rowCl _ _ | exact pure_rowTb _ _ _ | refine And.intro ?_ ?_)) (by simp -dsimp -implicitDefEqProofs only [go_sem, Nat.reduceBEq, Nat.reduceAdd, Nat.reduceLeDiff, Nat.reduceSub, Int.reduceEq, h0, h3, h4, hs]) ?_
    rintro r rfl
    simp -dsimp -implicitDefEqProofs only [go_sem, Nat.reduceBEq, Nat.reduceAdd, Nat.reduceLeDiff, Nat.reduceSub, Int.reduceEq, h0, h3, h4, hs]
    repeat (first | with_reducible refine ask.of (by first | omega | decide | (simp; omega)) ?_ | simp -dsimp -implicitDefEqProofs only [go_sem, Nat.reduceBEq, Nat.reduceAdd, Nat.reduceLeDiff, Nat.reduceSub, Int.reduceEq, h0, h3, h4, hs, byA_at hlt])
    refine hK _ hlt ?_
    simp -dsimp -implicitDefEqProofs only [go_sem, Nat.reduceBEq, Nat.reduceAdd, Nat.reduceLeDiff, Nat.reduceSub, Int.reduceEq, h0, h3, h4, hs, wrap_succ (show i < 4611686018427387904 by omega), take_succ hlt]
  · have : i = xs.length := by omega
    subst this
    simp -dsimp -implicitDefEqProofs only [go_sem, Nat.reduceBEq, Nat.reduceAdd, Nat.reduceLeDiff, Nat.reduceSub, Int.reduceEq, h0, h3, h4, hs, List.take_length]
theorem c_textsCopy (xs : List (List UInt8)) (hx : xs.length + wBB xs ≤ 1048576) : Meets Tryz.prog 126 [rowBB xs] (fun r => r = rowBB xs) := by
  refine Meets.intro mixed (hint []) Tryz.func126 rfl (by decide) res_126 rty_126 (by kernel_rfl) ?_; 
  simp -dsimp -implicitDefEqProofs only [go_sem, Nat.reduceBEq, Nat.reduceAdd, Nat.reduceLeDiff, Nat.reduceSub, Int.reduceEq]
  repeat (first | with_reducible refine ask.of (by first | omega | decide) ?_ | simp -dsimp -implicitDefEqProofs only [go_sem, Nat.reduceBEq, Nat.reduceAdd, Nat.reduceLeDiff, Nat.reduceSub, Int.reduceEq])
  refine LoopE.cnt xs.length (fun i s => s.env 7 = .rd .ent 48 1 (ra byC xs) ∧ s.env 8 = .v (.int .i64 xs.length) ∧ s.env 9 = .v (.int .i64 i) ∧ s.env 3 = .ref [6] ∧ s.σ [6] = some (.row 48 1 (ra byC (xs.take i)))) ⟨by simp -dsimp -implicitDefEqProofs only [go_sem, Nat.reduceBEq, Nat.reduceAdd, Nat.reduceLeDiff, Nat.reduceSub, Int.reduceEq, initE], by simp -dsimp -implicitDefEqProofs only [go_sem, Nat.reduceBEq, Nat.reduceAdd, Nat.reduceLeDiff, Nat.reduceSub, Int.reduceEq, initE], by simp -dsimp -implicitDefEqProofs only [go_sem, Nat.reduceBEq, Nat.reduceAdd, Nat.reduceLeDiff, Nat.reduceSub, Int.reduceEq], by simp -dsimp -implicitDefEqProofs only [go_sem, Nat.reduceBEq, Nat.reduceAdd, Nat.reduceLeDiff, Nat.reduceSub, Int.reduceEq], by simp -dsimp -implicitDefEqProofs only [go_sem, Nat.reduceBEq, Nat.reduceAdd, Nat.reduceLeDiff, Nat.reduceSub, Int.reduceEq] <;> rfl⟩ ?_
  rintro i ⟨e, σ⟩ hi ⟨h7, h8, h9, h3, hs⟩ K hK
  simp only at h7 h8 h9 h3 hs
  simp -dsimp -implicitDefEqProofs only [go_sem, Nat.reduceBEq, Nat.reduceAdd, Nat.reduceLeDiff, Nat.reduceSub, Int.reduceEq, h7, h8, h9, h3, hs]
  refine ifB'.of (fun hlt => ?_) (fun hlt => ?_)
  · have hlt : i < xs.length := by omega
    have hb : xs[i].length ≤ 1048576 := by have := mem_wBB (List.getElem_mem hlt); omega
    simp -dsimp -implicitDefEqProofs only [go_sem, Nat.reduceBEq, Nat.reduceAdd, Nat.reduceLeDiff, Nat.reduceSub, Int.reduceEq, h7, h8, h9, h3, hs, byA_at hlt]
    repeat (first | with_reducible refine ask.of (by first | omega | decide | (simp; omega)) ?_ | simp -dsimp -implicitDefEqProofs only [go_sem, Nat.reduceBEq, Nat.reduceAdd, Nat.reduceLeDiff, Nat.reduceSub, Int.reduceEq, h7, h8, h9, h3, hs, byA_at hlt, List.nil_append])
    refine hK _ hlt ?_
    simp -dsimp -implicitDefEqProofs only [go_sem, Nat.reduceBEq, Nat.reduceAdd, Nat.reduceLeDiff, Nat.reduceSub, Int.reduceEq, h7, h8, h9, h3, hs, wrap_succ (show i < 4611686018427387904 by omega), take_succ hlt]
  · have : i = xs.length := by omega
    subst this
    simp -dsimp -implicitDefEqProofs only [go_sem, Nat.reduceBEq, Nat.reduceAdd, Nat.reduceLeDiff, Nat.reduceSub, Int.reduceEq, h7, h8, h9, h3, hs, List.take_length]
end Go.Ev
set_option linter.unusedSimpArgs false
set_option linter.unusedVariables false
namespace Go.Ev
open Go Go.RowKit Go.Proofs
theorem c_bytesClone (b : List UInt8) (hb : b.length ≤ 8388608) : Meets Tryz.prog 96 [rowB b] (fun r => r = rowB b) := by
  refine Meets.intro mixed (hint []) Tryz.func96 rfl (by decide) res_96 rty_96 (by kernel_rfl) ?_; 
  simp -dsimp -implicitDefEqProofs only [go_sem, Nat.reduceBEq, Nat.reduceAdd, Nat.reduceLeDiff, Nat.reduceSub, Int.reduceEq, initE]
  refine nilE'.of (fun h => ?_) ?_
  · have h : b = [] := by simpa [bytesA] using h
    subst h
    simp -dsimp -implicitDefEqProofs only [go_sem, Nat.reduceBEq, Nat.reduceAdd, Nat.reduceLeDiff, Nat.reduceSub, Int.reduceEq]
    rfl
  · simp -dsimp -implicitDefEqProofs only [go_sem, Nat.reduceBEq, Nat.reduceAdd, Nat.reduceLeDiff, Nat.reduceSub, Int.reduceEq]
    repeat (first | with_reducible refine ask.of (by first | omega | decide | (simp; omega)) ?_ | simp -dsimp -implicitDefEqProofs only [go_sem, Nat.reduceBEq, Nat.reduceAdd, Nat.reduceLeDiff, Nat.reduceSub, Int.reduceEq, List.nil_append])
end Go.Ev
set_option linter.unusedSimpArgs false
set_option linter.unusedVariables false
namespace Go.Ev
open Go Go.RowKit Go.Proofs
theorem bl3 : Nat.ble 1 3 = true ∧ Nat.ble 2 3 = true ∧ Nat.ble 3 3 = true ∧ Nat.ble 1 4 = true ∧ Nat.ble 2 4 = true ∧ Nat.ble 3 4 = true ∧ Nat.ble 4 4 = true := ⟨rfl, rfl, rfl, rfl, rfl, rfl, rfl⟩
theorem fd_snoc (xs : List Fd) (x : Fd) : ra fdC xs ++ [[.row 5 1 (bytesA x.f), .v (.int .i64 x.k), .v (.int .i64 x.w)]] = ra fdC (xs ++ [x]) := by simp [ra, fdC]
theorem fd_takeS {xs : List Fd} {i : Nat} (h : i < xs.length) : ra fdC (xs.take i) ++ [[.row 5 1 (bytesA xs[i].f), .v (.int .i64 xs[i].k), .v (.int .i64 xs[i].w)]] = ra fdC (xs.take (i + 1)) := by rw [fd_snoc, List.take_succ_eq_append_getElem h]
set_option maxRecDepth 8000 in
theorem c_l4fields (xs : List Fd) (hx : xs.length ≤ 1048576) (hb : ∀ b ∈ xs, b.f.length ≤ 1048576) : Meets Tryz.prog 57 [rowFd 101 xs] (fun r => r = rowFd 101 xs) := by
  refine Meets.introO mixed (hint [(3, 133)]) (fun k => (sel (k == 5) [0,1,2,3,4,5,7,8,9,10,11,12,13,14,15,16,6,17,18,19,20] [])) Tryz.func57 rfl (by decide) res_57 rty_57 (by kernel_rfl) ?_; 
  simp -dsimp -implicitDefEqProofs only [go_sem, Nat.reduceBEq, Nat.reduceAdd, Nat.reduceLeDiff, Nat.reduceSub, Int.reduceEq, rowFd]
  refine LoopE.cnt xs.length (fun i s => s.env 0 = .rd .ent 101 3 (ra fdC xs) ∧ s.env 3 = .ref [3] ∧ s.env 4 = .v (.int .i64 i) ∧ s.σ [3] = some (.row 101 3 (ra fdC (xs.take i)))) ⟨by simp -dsimp -implicitDefEqProofs only [go_sem, Nat.reduceBEq, Nat.reduceAdd, Nat.reduceLeDiff, Nat.reduceSub, Int.reduceEq, initE, rowFd], by simp -dsimp -implicitDefEqProofs only [go_sem, Nat.reduceBEq, Nat.reduceAdd, Nat.reduceLeDiff, Nat.reduceSub, Int.reduceEq], by simp -dsimp -implicitDefEqProofs only [go_sem, Nat.reduceBEq, Nat.reduceAdd, Nat.reduceLeDiff, Nat.reduceSub, Int.reduceEq] <;> rfl, by simp -dsimp -implicitDefEqProofs only [go_sem, Nat.reduceBEq, Nat.reduceAdd, Nat.reduceLeDiff, Nat.reduceSub, Int.reduceEq] <;> rfl⟩ ?_
  rintro i ⟨e, σ⟩ hi ⟨h0, h3, h4, hs⟩ K hK
  simp only at h0 h3 h4 hs
  simp -dsimp -implicitDefEqProofs only [go_sem, Nat.reduceBEq, Nat.reduceAdd, Nat.reduceLeDiff, Nat.reduceSub, Int.reduceEq, h0, h3, h4, hs]
  refine ifB'.of (fun hlt => ?_) (fun hlt => ?_)
  · have hlt : i < xs.length := by omega
    repeat (first | with_reducible refine ask.of (by omega) ?_ | simp -dsimp -implicitDefEqProofs only [go_sem, Nat.reduceBEq, Nat.reduceAdd, Nat.reduceLeDiff, Nat.reduceSub, Int.reduceEq, h0, h3, h4, hs, Fd_at hlt, fdC, bl3])
    refine CallE.of (c_l1copy xs[i].f (by have := hb _ (List.getElem_mem hlt); omega)) (by rintro r rfl; (repeat' first | exact trivial | exact pure_rowB _ | exact pure_rowO _ | exact pure_rowI _ | exact pure_rowBB _ | exact pure_rowPk _ _ | exact pure_rowSn _ _ | exact pure_rowFd _ _ | exact pure_rowBBB _ | exact pure_rowCl _ _ | exact pure_rowTb _ _ _ | refine And.intro ?_ ?_)) (by simp -dsimp -implicitDefEqProofs only [go_sem, Nat.reduceBEq, Nat.reduceAdd, Nat.reduceLeDiff, Nat.reduceSub, Int.reduceEq, h0, h3, h4, hs]) ?_
    rintro r rfl
    simp -dsimp -implicitDefEqProofs only [go_sem, Nat.reduceBEq, Nat.reduceAdd, Nat.reduceLeDiff, Nat.reduceSub, Int.reduceEq, h0, h3, h4, hs]
    repeat (first | with_reducible refine ask.of (by first | omega | decide | (simp; omega)) ?_ | simp -dsimp -implicitDefEqProofs only [go_sem, Nat.reduceBEq, Nat.reduceAdd, Nat.reduceLeDiff, Nat.reduceSub, Int.reduceEq, h0, h3, h4, hs, Fd_at hlt, fdC, bl3])
    refine hK _ hlt ?_
    simp -dsimp -implicitDefEqProofs only [go_sem, Nat.reduceBEq, Nat.reduceAdd, Nat.reduceLeDiff, Nat.reduceSub, Int.reduceEq, h0, h3, h4, hs, wrap_succ (show i < 4611686018427387904 by omega), fd_takeS hlt]
  · have : i = xs.length := by omega
    subst this
    simp -dsimp -implicitDefEqProofs only [go_sem, Nat.reduceBEq, Nat.reduceAdd, Nat.reduceLeDiff, Nat.reduceSub, Int.reduceEq, h0, h3, h4, hs, List.take_length]
set_option maxRecDepth 8000 in
theorem c_fieldsCopy (xs : List Fd) (hx : xs.length ≤ 1048576) (hb : ∀ b ∈ xs, b.f.length ≤ 1048576) : Meets Tryz.prog 73 [rowFd 101 xs] (fun r => r = rowFd 101 xs) := by
  refine Meets.intro mixed (hint []) Tryz.func73 rfl (by decide) res_73 rty_73 (by kernel_rfl) ?_; 
  simp -dsimp -implicitDefEqProofs only [go_sem, Nat.reduceBEq, Nat.reduceAdd, Nat.reduceLeDiff, Nat.reduceSub, Int.reduceEq, rowFd]
  repeat (first | with_reducible refine ask.of (by first | omega | decide) ?_ | simp -dsimp -implicitDefEqProofs only [go_sem, Nat.reduceBEq, Nat.reduceAdd, Nat.reduceLeDiff, Nat.reduceSub, Int.reduceEq, initE, rowFd])
  refine LoopE.cnt xs.length (fun i s => s.env 3 = .ref [6] ∧ s.env 7 = .rd .ent 101 3 (ra fdC xs) ∧ s.env 8 = .v (.int .i64 xs.length) ∧ s.env 9 = .v (.int .i64 i) ∧ s.σ [6] = some (.row 101 3 (ra fdC (xs.take i)))) ⟨by simp -dsimp -implicitDefEqProofs only [go_sem, Nat.reduceBEq, Nat.reduceAdd, Nat.reduceLeDiff, Nat.reduceSub, Int.reduceEq], by simp -dsimp -implicitDefEqProofs only [go_sem, Nat.reduceBEq, Nat.reduceAdd, Nat.reduceLeDiff, Nat.reduceSub, Int.reduceEq, initE, rowFd], by simp -dsimp -implicitDefEqProofs only [go_sem, Nat.reduceBEq, Nat.reduceAdd, Nat.reduceLeDiff, Nat.reduceSub, Int.reduceEq, initE, rowFd], by simp -dsimp -implicitDefEqProofs only [go_sem, Nat.reduceBEq, Nat.reduceAdd, Nat.reduceLeDiff, Nat.reduceSub, Int.reduceEq] <;> rfl, by simp -dsimp -implicitDefEqProofs only [go_sem, Nat.reduceBEq, Nat.reduceAdd, Nat.reduceLeDiff, Nat.reduceSub, Int.reduceEq] <;> rfl⟩ ?_
  rintro i ⟨e, σ⟩ hi ⟨h3, h7, h8, h9, hs⟩ K hK
  simp only at h3 h7 h8 h9 hs
  simp -dsimp -implicitDefEqProofs only [go_sem, Nat.reduceBEq, Nat.reduceAdd, Nat.reduceLeDiff, Nat.reduceSub, Int.reduceEq, h3, h7, h8, h9, hs]
  refine ifB'.of (fun hlt => ?_) (fun hlt => ?_)
  · have hlt : i < xs.length := by omega
    repeat (first | with_reducible refine ask.of (by first | omega | decide) ?_ | simp -dsimp -implicitDefEqProofs only [go_sem, Nat.reduceBEq, Nat.reduceAdd, Nat.reduceLeDiff, Nat.reduceSub, Int.reduceEq, h3, h7, h8, h9, hs, Fd_at hlt, fdC, bl3])
    refine CallE.of (c_bytesClone xs[i].f (by have := hb _ (List.getElem_mem hlt); omega)) (by rintro r rfl; (repeat' first | exact trivial | exact pure_rowB _ | exact pure_rowO _ | exact pure_rowI _ | exact pure_rowBB _ | exact pure_rowPk _ _ | exact pure_rowSn _ _ | exact pure_rowFd _ _ | exact pure_rowBBB _ | exact pure_rowCl _ _ | exact pure_rowTb _ _ _ | refine And.intro ?_ ?_)) (by simp -dsimp -implicitDefEqProofs only [go_sem, Nat.reduceBEq, Nat.reduceAdd, Nat.reduceLeDiff, Nat.reduceSub, Int.reduceEq, h3, h7, h8, h9, hs]) ?_
    rintro r rfl
    simp -dsimp -implicitDefEqProofs only [go_sem, Nat.reduceBEq, Nat.reduceAdd, Nat.reduceLeDiff, Nat.reduceSub, Int.reduceEq, h3, h7, h8, h9, hs]
    repeat (first | with_reducible refine ask.of (by first | omega | decide | (simp; omega)) ?_ | simp -dsimp -implicitDefEqProofs only [go_sem, Nat.reduceBEq, Nat.reduceAdd, Nat.reduceLeDiff, Nat.reduceSub, Int.reduceEq, h3, h7, h8, h9, hs, Fd_at hlt, fdC, bl3])
    refine hK _ hlt ?_
    simp -dsimp -implicitDefEqProofs only [go_sem, Nat.reduceBEq, Nat.reduceAdd, Nat.reduceLeDiff, Nat.reduceSub, Int.reduceEq, h3, h7, h8, h9, hs, wrap_succ (show i < 4611686018427387904 by omega), fd_takeS hlt]
  · have : i = xs.length := by omega
    subst this
    simp -dsimp -implicitDefEqProofs only [go_sem, Nat.reduceBEq, Nat.reduceAdd, Nat.reduceLeDiff, Nat.reduceSub, Int.reduceEq, h3, h7, h8, h9, hs, List.take_length]
def hdF (x : Fd) : List UInt8 := [UInt8.ofNat x.k.toNat, UInt8.ofNat x.w.toNat] ++ x.f
def hdMs (fs : List Fd) (next : Int) : Ms := ⟨1, 0, fs.length, leB 8 next :: fs.map hdF⟩
def sm0 : Sm := ⟨false, [], 0, []⟩
def stSm (fs : List Fd) (next : Int) : Sm := ⟨true, fs, next, List.replicate fs.length []⟩
def stL (fs : List Fd) (next : Int) : Sm × List UInt8 × Int := if okF fs ∧ 0 ≤ next ∧ next ≤ 1000000000 then (stSm fs next, msBody (hdMs fs next), 0) else (sm0, [], 1)
theorem stL_no {fs : List Fd} {next : Int} (h : ¬ (okF fs ∧ 0 ≤ next ∧ next ≤ 1000000000)) : stL fs next = (sm0, [], 1) := if_neg h
theorem stL_yes {fs : List Fd} {next : Int} (h : okF fs ∧ 0 ≤ next ∧ next ≤ 1000000000) : stL fs next = (stSm fs next, msBody (hdMs fs next), 0) := if_pos h
def resS (x : Sm × List UInt8 × Int) : AV := .tup [.agg (smC 101 x.1), rowB x.2.1, .v (.int .i64 x.2.2)]
theorem fd_byte {x : Fd} (h : fdOk x) : IntKind.u8.wrap x.k = ((UInt8.ofNat x.k.toNat).toNat : Int) ∧ IntKind.u8.wrap x.w = ((UInt8.ofNat x.w.toNat).toNat : Int) := by
  have h1 : 0 ≤ x.k ∧ 0 ≤ x.w := by rcases h.2 with h | h <;> omega
  obtain ⟨n, hn⟩ := Int.eq_ofNat_of_zero_le h1.1
  obtain ⟨m, hm⟩ := Int.eq_ofNat_of_zero_le h1.2
  rw [hn, hm]; exact ⟨u8_of_nat n, u8_of_nat m⟩
theorem hd_take {fs : List Fd} {i : Nat} (h : i < fs.length) (l : List UInt8) : (l :: (fs.take i).map hdF) ++ [hdF fs[i]] = l :: (fs.take (i + 1)).map hdF := by
  rw [List.take_succ_eq_append_getElem h, List.map_append, List.cons_append]; rfl
theorem fd_name {x : Fd} (h : fdOk x) : x.f.length ≤ 20 := h.1.2.1
theorem hd_w {fs : List Fd} (h : ∀ x ∈ fs, fdOk x) : wBB (fs.map hdF) ≤ 22 * fs.length := by
  induction fs with
  | nil => simp [wBB, szL]
  | cons x fs ih =>
    have h1 := fd_name (h x List.mem_cons_self)
    have h2 := ih fun y hy => h y (List.mem_cons_of_mem _ hy)
    simp only [wBB, szL, List.map_cons, List.sum_cons, List.length_cons, hdF, List.length_append, List.length_nil] at h2 ⊢
    omega
theorem hd_wBB {fs : List Fd} {next : Int} (h : okF fs) : wBB (hdMs fs next).bs ≤ 272 := by
  have h1 := hd_w h.2.1
  have h2 := h.1.2
  show wBB (leB 8 next :: fs.map hdF) ≤ 272
  simp only [wBB, szL, List.map_cons, List.sum_cons, leB_length] at h1 ⊢
  omega
theorem hd_ok {fs : List Fd} {next : Int} (h : okF fs) : msOk (hdMs fs next) := by
  have h2 := h.1
  refine ⟨Int.le_refl 1, by show (1 : Int) ≤ 4; omega, Int.le_refl 0, by show (0 : Int) < 12; omega, by show (0 : Int) ≤ (fs.length : Int); omega, by show (fs.length : Int) ≤ 1000; omega, by show (leB 8 next :: fs.map hdF).length ≤ 40; simp; omega, .inl rfl⟩
theorem msBody_len (x : Ms) : (msBody x).length ≤ 12 + (5 * x.bs.length + wBB x.bs + 7 * (x.bs.length + 1)) := by
  have h1 := joinA_len (lensB x.bs :: x.bs)
  have h2 := lensB_length x.bs
  unfold msBody
  rw [sumB_length]
  simp only [wBB, szL, List.map_cons, List.map_nil, List.sum_cons, List.sum_nil, List.length_cons] at h1 ⊢
  have h3 : (headB x).length = 8 := rfl
  omega
theorem hd_enc {fs : List Fd} {next : Int} (h : okF fs) : encM (hdMs fs next) = msBody (hdMs fs next) := by
  have h1 := hd_wBB (next := next) h
  have h2 := msBody_len (hdMs fs next)
  have h3 : (hdMs fs next).bs.length = fs.length + 1 := by show (leB 8 next :: fs.map hdF).length = _; simp
  have h4 := h.1.2
  exact encM_yes ⟨hd_ok h, by omega, by omega⟩
set_option maxRecDepth 8000 in
theorem c_l4begin (fs : List Fd) (next : Int) (hx : fs.length ≤ 1048576) (hb : ∀ b ∈ fs, b.f.length ≤ 1048576) : Meets Tryz.prog 110 [rowFd 101 fs, .v (.int .i64 next)] (fun r => r = .agg (smC 101 (stSm fs next))) := by
  refine Meets.introO mixed (hint []) (fun k => (sel (k == 1) [999,0,2,3,4,1005,1,5,6,7] [])) Tryz.func110 rfl (by decide) res_110 rty_110 (by kernel_rfl) ?_; 
  simp -dsimp -implicitDefEqProofs only [go_sem, Nat.reduceBEq, Nat.reduceAdd, Nat.reduceLeDiff, Nat.reduceSub, Int.reduceEq, rowFd]
  repeat (first | with_reducible refine ask.of (by first | omega | decide) ?_ | simp -dsimp -implicitDefEqProofs only [go_sem, Nat.reduceBEq, Nat.reduceAdd, Nat.reduceLeDiff, Nat.reduceSub, Int.reduceEq, initE, rowFd, bl3])
  refine CallE.of (c_l4fields fs hx hb) (by rintro r rfl; (repeat' first | exact trivial | exact pure_rowB _ | exact pure_rowO _ | exact pure_rowI _ | exact pure_rowBB _ | exact pure_rowPk _ _ | exact pure_rowSn _ _ | exact pure_rowFd _ _ | exact pure_rowBBB _ | exact pure_rowCl _ _ | exact pure_rowTb _ _ _ | refine And.intro ?_ ?_)) (by simp -dsimp -implicitDefEqProofs only [go_sem, Nat.reduceBEq, Nat.reduceAdd, Nat.reduceLeDiff, Nat.reduceSub, Int.reduceEq, rowFd]) ?_
  rintro r rfl
  simp -dsimp -implicitDefEqProofs only [go_sem, Nat.reduceBEq, Nat.reduceAdd, Nat.reduceLeDiff, Nat.reduceSub, Int.reduceEq, rowFd]
  repeat (first | with_reducible refine ask.of (by first | omega | decide) ?_ | simp -dsimp -implicitDefEqProofs only [go_sem, Nat.reduceBEq, Nat.reduceAdd, Nat.reduceLeDiff, Nat.reduceSub, Int.reduceEq, initE, rowFd, bl3, bbA_zeros])
  rfl
end Go.Ev
set_option linter.unusedSimpArgs false
set_option linter.unusedVariables false
namespace Go.Ev
open Go Go.RowKit Go.Proofs
theorem hd_len {fs : List Fd} {next : Int} (hx : fs.length ≤ 1048576) (h1 : fs.length ≤ 12) (hw : wBB (hdMs fs next).bs ≤ 272) : (hdMs fs next).bs.length + wBB (hdMs fs next).bs ≤ 1048576 := by
  have : (hdMs fs next).bs.length = fs.length + 1 := by simp [hdMs]
  omega
set_option maxRecDepth 8000 in
theorem c_specStartStream (fs : List Fd) (next : Int) (hx : fs.length ≤ 1048576) (hb : ∀ b ∈ fs, b.f.length ≤ 1048576) : Meets Tryz.prog 60 [rowFd 101 fs, .v (.int .i64 next)] (fun r => r = resS (stL fs next)) := by
  refine Meets.introO mixed (hint []) (fun k => (sel (k == 8) [997,1,9,3,0,2,3,4,5,6,7,9,10,8,11,12,13,14,15] (sel (k == 9) [0,1,3,2,4,5,6,7] []))) Tryz.func60 rfl (by decide) res_60 rty_60 (by kernel_rfl) ?_; 
  simp -dsimp -implicitDefEqProofs only [go_sem, Nat.reduceBEq, Nat.reduceAdd, Nat.reduceLeDiff, Nat.reduceSub, Int.reduceEq, rowFd]
  repeat (first | with_reducible refine ask.of (by first | omega | decide) ?_ | simp -dsimp -implicitDefEqProofs only [go_sem, Nat.reduceBEq, Nat.reduceAdd, Nat.reduceLeDiff, Nat.reduceSub, Int.reduceEq, initE, rowFd, bl3])
  refine CallE.of (c_sValidFields fs hx hb) (by rintro r rfl; (repeat' first | exact trivial | exact pure_rowB _ | exact pure_rowO _ | exact pure_rowI _ | exact pure_rowBB _ | exact pure_rowPk _ _ | exact pure_rowSn _ _ | exact pure_rowFd _ _ | exact pure_rowBBB _ | exact pure_rowCl _ _ | exact pure_rowTb _ _ _ | refine And.intro ?_ ?_)) (by simp -dsimp -implicitDefEqProofs only [go_sem, Nat.reduceBEq, Nat.reduceAdd, Nat.reduceLeDiff, Nat.reduceSub, Int.reduceEq, rowFd]) ?_
  rintro r rfl
  simp -dsimp -implicitDefEqProofs only [go_sem, Nat.reduceBEq, Nat.reduceAdd, Nat.reduceLeDiff, Nat.reduceSub, Int.reduceEq, rowFd]
  by_cases h : okF fs ∧ 0 ≤ next ∧ next ≤ 1000000000
  · rw [stL_yes h, decide_eq_true h.1]
    repeat' (first | with_reducible refine ask.of (by first | omega | decide) ?_ | with_reducible refine ifB'.no (by omega) ?_ | simp -dsimp -implicitDefEqProofs only [go_sem, Nat.reduceBEq, Nat.reduceAdd, Nat.reduceLeDiff, Nat.reduceSub, Int.reduceEq, initE, rowFd, bl3, Bool.not_true, decide_true, decide_false])
    refine CallE.of (c_l1little next 8 (by decide)) (by rintro r rfl; (repeat' first | exact trivial | exact pure_rowB _ | exact pure_rowO _ | exact pure_rowI _ | exact pure_rowBB _ | exact pure_rowPk _ _ | exact pure_rowSn _ _ | exact pure_rowFd _ _ | exact pure_rowBBB _ | exact pure_rowCl _ _ | exact pure_rowTb _ _ _ | refine And.intro ?_ ?_)) (by simp -dsimp -implicitDefEqProofs only [go_sem, Nat.reduceBEq, Nat.reduceAdd, Nat.reduceLeDiff, Nat.reduceSub, Int.reduceEq, show ((8 : Nat) : Int) = 8 from rfl]) ?_
    rintro r rfl
    simp -dsimp -implicitDefEqProofs only [go_sem, Nat.reduceBEq, Nat.reduceAdd, Nat.reduceLeDiff, Nat.reduceSub, Int.reduceEq, show ((8 : Nat) : Int) = 8 from rfl]
    repeat' (first | with_reducible refine ask.of (by first | omega | decide) ?_ | simp -dsimp -implicitDefEqProofs only [go_sem, Nat.reduceBEq, Nat.reduceAdd, Nat.reduceLeDiff, Nat.reduceSub, Int.reduceEq, initE, rowFd, bl3, ra_length])
    have hf := h.1.2.1
    refine LoopE.cnt fs.length (fun i s => s.env 0 = .rd .ent 101 3 (ra fdC fs) ∧ s.env 1 = .v (.int .i64 next) ∧ s.env 4 = .ptr [4] 0 0 0 ∧ s.env 5 = .v (.slice none 0 0) ∧ s.env 6 = .v (.int .i64 0) ∧ s.env 7 = .ptr [7] 0 0 0 ∧ s.env 8 = .v (.int .i64 i) ∧
      s.σ [4] = some (.box 39 [.v (.bool false), .v (.slice none 0 0), .v (.int .i64 0), .v (.slice none 0 0)]) ∧ s.σ [7] = some (.box 139 [.v (.int .i64 1), .v (.int .i64 0), .v (.int .i64 fs.length), .ref [26]]) ∧ s.σ [26] = some (.row 48 1 (ra byC (leB 8 next :: (fs.take i).map hdF)))) ⟨by simp -dsimp -implicitDefEqProofs only [go_sem, Nat.reduceBEq, Nat.reduceAdd, Nat.reduceLeDiff, Nat.reduceSub, Int.reduceEq, initE, rowFd], by simp -dsimp -implicitDefEqProofs only [go_sem, Nat.reduceBEq, Nat.reduceAdd, Nat.reduceLeDiff, Nat.reduceSub, Int.reduceEq, initE], by simp -dsimp -implicitDefEqProofs only [go_sem, Nat.reduceBEq, Nat.reduceAdd, Nat.reduceLeDiff, Nat.reduceSub, Int.reduceEq], by simp -dsimp -implicitDefEqProofs only [go_sem, Nat.reduceBEq, Nat.reduceAdd, Nat.reduceLeDiff, Nat.reduceSub, Int.reduceEq], by simp -dsimp -implicitDefEqProofs only [go_sem, Nat.reduceBEq, Nat.reduceAdd, Nat.reduceLeDiff, Nat.reduceSub, Int.reduceEq], by simp -dsimp -implicitDefEqProofs only [go_sem, Nat.reduceBEq, Nat.reduceAdd, Nat.reduceLeDiff, Nat.reduceSub, Int.reduceEq], by simp -dsimp -implicitDefEqProofs only [go_sem, Nat.reduceBEq, Nat.reduceAdd, Nat.reduceLeDiff, Nat.reduceSub, Int.reduceEq] <;> rfl, by simp -dsimp -implicitDefEqProofs only [go_sem, Nat.reduceBEq, Nat.reduceAdd, Nat.reduceLeDiff, Nat.reduceSub, Int.reduceEq], by simp -dsimp -implicitDefEqProofs only [go_sem, Nat.reduceBEq, Nat.reduceAdd, Nat.reduceLeDiff, Nat.reduceSub, Int.reduceEq], by simp -dsimp -implicitDefEqProofs only [go_sem, Nat.reduceBEq, Nat.reduceAdd, Nat.reduceLeDiff, Nat.reduceSub, Int.reduceEq] <;> rfl⟩ ?_
    rintro i ⟨e, σ⟩ hi ⟨h0, h1, h4, h5, h6, h7, h8, hs4, hs7, hs26⟩ K hK
    simp only at h0 h1 h4 h5 h6 h7 h8 hs4 hs7 hs26
    simp -dsimp -implicitDefEqProofs only [go_sem, Nat.reduceBEq, Nat.reduceAdd, Nat.reduceLeDiff, Nat.reduceSub, Int.reduceEq, h0, h1, h4, h5, h6, h7, h8, hs4, hs7, hs26]
    refine ifB'.of (fun hlt => ?_) (fun hlt => ?_)
    · have hlt : i < fs.length := by omega
      repeat (first | with_reducible refine ask.of (by first | omega | decide) ?_ | simp -dsimp -implicitDefEqProofs only [go_sem, Nat.reduceBEq, Nat.reduceAdd, Nat.reduceLeDiff, Nat.reduceSub, Int.reduceEq, h0, h1, h4, h5, h6, h7, h8, hs4, hs7, hs26, Fd_at hlt, fdC, bl3])
      have hfd := hf fs[i] (List.getElem_mem hlt)
      have hnm := fd_name hfd
      have hby := fd_byte hfd
      repeat' (first | with_reducible refine And.intro ?_ ?_ | with_reducible refine ask.of (by first | omega | decide | (simp; omega)) ?_ | simp -dsimp -implicitDefEqProofs only [go_sem, Nat.reduceBEq, Nat.reduceAdd, Nat.reduceLeDiff, Nat.reduceSub, Int.reduceEq, h0, h1, h4, h5, h6, h7, h8, hs4, hs7, hs26, Fd_at hlt, fdC, bl3, List.take_succ_cons])
      all_goals
        refine hK _ hlt ?_
        simp -dsimp -implicitDefEqProofs only [go_sem, Nat.reduceBEq, Nat.reduceAdd, Nat.reduceLeDiff, Nat.reduceSub, Int.reduceEq, h0, h1, h4, h5, h6, h7, h8, hs4, hs7, hs26, wrap_succ (show i < 4611686018427387904 by omega), hby.1, hby.2]
        have ee : ra byC (leB 8 next :: (fs.take i).map hdF) ++ [[AV.row 5 1 (bytesA (hdF fs[i]))]] = ra byC (leB 8 next :: (fs.take (i + 1)).map hdF) := by
          rw [← hd_take hlt]; simp [ra, byC]
        exact congrArg (fun z => some (OB.row 48 1 z)) ee
    · have hlt : i = fs.length := by omega
      subst hlt
      have hw := hd_wBB (next := next) h.1
      rw [List.take_length] at hs26
      repeat' (first | with_reducible refine ask.of (by first | omega | decide) ?_ | simp -dsimp -implicitDefEqProofs only [go_sem, Nat.reduceBEq, Nat.reduceAdd, Nat.reduceLeDiff, Nat.reduceSub, Int.reduceEq, h0, h1, h4, h5, h6, h7, h8, hs4, hs7, hs26, bl3])
      refine CallE.of (c_l4begin fs next hx hb) (by rintro r rfl; (repeat' first | exact trivial | exact pure_rowB _ | exact pure_rowO _ | exact pure_rowI _ | exact pure_rowBB _ | exact pure_rowPk _ _ | exact pure_rowSn _ _ | exact pure_rowFd _ _ | exact pure_rowBBB _ | exact pure_rowCl _ _ | exact pure_rowTb _ _ _ | refine And.intro ?_ ?_)) (by simp -dsimp -implicitDefEqProofs only [go_sem, Nat.reduceBEq, Nat.reduceAdd, Nat.reduceLeDiff, Nat.reduceSub, Int.reduceEq, h0, h1, h4, h5, h6, h7, h8, hs4, hs7, hs26, rowFd, smC, stSm]) ?_
      rintro r rfl
      simp -dsimp -implicitDefEqProofs only [go_sem, Nat.reduceBEq, Nat.reduceAdd, Nat.reduceLeDiff, Nat.reduceSub, Int.reduceEq, h0, h1, h4, h5, h6, h7, h8, hs4, hs7, hs26, rowFd, smC, stSm]
      repeat' (first | with_reducible refine ask.of (by first | omega | decide) ?_ | simp -dsimp -implicitDefEqProofs only [go_sem, Nat.reduceBEq, Nat.reduceAdd, Nat.reduceLeDiff, Nat.reduceSub, Int.reduceEq, h0, h1, h4, h5, h6, h7, h8, hs4, hs7, hs26])
      refine CallE.of (c_l4encode (hdMs fs next) (hd_ok h.1) (by omega)) (by rintro r rfl; (repeat' first | exact trivial | exact pure_rowB _ | exact pure_rowO _ | exact pure_rowI _ | exact pure_rowBB _ | exact pure_rowPk _ _ | exact pure_rowSn _ _ | exact pure_rowFd _ _ | exact pure_rowBBB _ | exact pure_rowCl _ _ | exact pure_rowTb _ _ _ | refine And.intro ?_ ?_)) (by simp -dsimp -implicitDefEqProofs only [go_sem, Nat.reduceBEq, Nat.reduceAdd, Nat.reduceLeDiff, Nat.reduceSub, Int.reduceEq, h0, h1, h4, h5, h6, h7, h8, hs4, hs7, hs26, hdMs, msC]) ?_
      rintro r rfl
      simp -dsimp -implicitDefEqProofs only [go_sem, Nat.reduceBEq, Nat.reduceAdd, Nat.reduceLeDiff, Nat.reduceSub, Int.reduceEq, h0, h1, h4, h5, h6, h7, h8, hs4, hs7, hs26, hdMs, msC]
      repeat' (first | with_reducible refine ask.of (by first | omega | decide) ?_ | simp -dsimp -implicitDefEqProofs only [go_sem, Nat.reduceBEq, Nat.reduceAdd, Nat.reduceLeDiff, Nat.reduceSub, Int.reduceEq, h0, h1, h4, h5, h6, h7, h8, hs4, hs7, hs26, bl3])
      rfl
  · rw [stL_no h]
    repeat' (first | exact absurd ⟨by assumption, by omega, by omega⟩ h | with_reducible refine ask.of (by first | omega | decide) ?_ | ((with_reducible refine ifB'.of (fun _ => ?_) (fun _ => ?_))) | simp -dsimp -implicitDefEqProofs only [go_sem, Nat.reduceBEq, Nat.reduceAdd, Nat.reduceLeDiff, Nat.reduceSub, Int.reduceEq, bl3, Bool.not_true, Bool.not_false, decide_true, decide_false])
    all_goals rfl
set_option maxRecDepth 8000 in
theorem c_implStartStream (fs : List Fd) (next : Int) (hx : fs.length ≤ 1048576) (hb : ∀ b ∈ fs, b.f.length ≤ 1048576) : Meets Tryz.prog 127 [rowFd 101 fs, .v (.int .i64 next)] (fun r => r = resS (stL fs next)) := by
  refine Meets.introO mixed (hint []) (fun k => (sel (k == 9) [996,0,2,3,4,7,914,1,906,5,6,8,9,10,11,8,5,6,9,10,11,5,1,6,8,9,10,11] (sel (k == 7) [997,1,9,3,0,2,3,4,5,6,7,9,10,8,11,12,13,14,15] []))) Tryz.func127 rfl (by decide) res_127 rty_127 (by kernel_rfl) ?_; 
  simp -dsimp -implicitDefEqProofs only [go_sem, Nat.reduceBEq, Nat.reduceAdd, Nat.reduceLeDiff, Nat.reduceSub, Int.reduceEq, rowFd]
  repeat (first | with_reducible refine ask.of (by first | omega | decide) ?_ | simp -dsimp -implicitDefEqProofs only [go_sem, Nat.reduceBEq, Nat.reduceAdd, Nat.reduceLeDiff, Nat.reduceSub, Int.reduceEq, initE, rowFd, bl3])
  refine CallE.of (c_iValidFields fs hx hb) (by rintro r rfl; (repeat' first | exact trivial | exact pure_rowB _ | exact pure_rowO _ | exact pure_rowI _ | exact pure_rowBB _ | exact pure_rowPk _ _ | exact pure_rowSn _ _ | exact pure_rowFd _ _ | exact pure_rowBBB _ | exact pure_rowCl _ _ | exact pure_rowTb _ _ _ | refine And.intro ?_ ?_)) (by simp -dsimp -implicitDefEqProofs only [go_sem, Nat.reduceBEq, Nat.reduceAdd, Nat.reduceLeDiff, Nat.reduceSub, Int.reduceEq, rowFd]) ?_
  rintro r rfl
  simp -dsimp -implicitDefEqProofs only [go_sem, Nat.reduceBEq, Nat.reduceAdd, Nat.reduceLeDiff, Nat.reduceSub, Int.reduceEq, rowFd]
  by_cases h : okF fs ∧ 0 ≤ next ∧ next ≤ 1000000000
  · rw [stL_yes h, decide_eq_true h.1]
    repeat' (first | with_reducible refine ask.of (by first | omega | decide) ?_ | with_reducible refine ifB'.no (by omega) ?_ | simp -dsimp -implicitDefEqProofs only [go_sem, Nat.reduceBEq, Nat.reduceAdd, Nat.reduceLeDiff, Nat.reduceSub, Int.reduceEq, initE, rowFd, bl3, Bool.not_true, decide_true, decide_false])
    refine CallE.of (c_number next 8 (by decide)) (by rintro r rfl; (repeat' first | exact trivial | exact pure_rowB _ | exact pure_rowO _ | exact pure_rowI _ | exact pure_rowBB _ | exact pure_rowPk _ _ | exact pure_rowSn _ _ | exact pure_rowFd _ _ | exact pure_rowBBB _ | exact pure_rowCl _ _ | exact pure_rowTb _ _ _ | refine And.intro ?_ ?_)) (by simp -dsimp -implicitDefEqProofs only [go_sem, Nat.reduceBEq, Nat.reduceAdd, Nat.reduceLeDiff, Nat.reduceSub, Int.reduceEq, show ((8 : Nat) : Int) = 8 from rfl]) ?_
    rintro r rfl
    simp -dsimp -implicitDefEqProofs only [go_sem, Nat.reduceBEq, Nat.reduceAdd, Nat.reduceLeDiff, Nat.reduceSub, Int.reduceEq, show ((8 : Nat) : Int) = 8 from rfl]
    repeat' (first | with_reducible refine ask.of (by first | omega | decide) ?_ | simp -dsimp -implicitDefEqProofs only [go_sem, Nat.reduceBEq, Nat.reduceAdd, Nat.reduceLeDiff, Nat.reduceSub, Int.reduceEq, initE, rowFd, bl3, ra_length])
    have hf := h.1.2.1
    refine LoopE.cnt fs.length (fun i s => s.env 0 = .rd .ent 101 3 (ra fdC fs) ∧ s.env 1 = .v (.int .i64 next) ∧ s.env 4 = .ptr [4] 0 0 0 ∧ s.env 5 = .v (.slice none 0 0) ∧ s.env 6 = .v (.int .i64 0) ∧ s.env 7 = .ptr [7] 0 0 0 ∧ s.env 28 = .rd .ent 101 3 (ra fdC fs) ∧ s.env 29 = .v (.int .i64 fs.length) ∧ s.env 30 = .v (.int .i64 i) ∧
      s.σ [4] = some (.box 39 [.v (.bool false), .v (.slice none 0 0), .v (.int .i64 0), .v (.slice none 0 0)]) ∧ s.σ [7] = some (.box 139 [.v (.int .i64 1), .v (.int .i64 0), .v (.int .i64 fs.length), .ref [26]]) ∧ s.σ [26] = some (.row 48 1 (ra byC (leB 8 next :: (fs.take i).map hdF)))) ⟨by simp -dsimp -implicitDefEqProofs only [go_sem, Nat.reduceBEq, Nat.reduceAdd, Nat.reduceLeDiff, Nat.reduceSub, Int.reduceEq, initE, rowFd], by simp -dsimp -implicitDefEqProofs only [go_sem, Nat.reduceBEq, Nat.reduceAdd, Nat.reduceLeDiff, Nat.reduceSub, Int.reduceEq, initE], by simp -dsimp -implicitDefEqProofs only [go_sem, Nat.reduceBEq, Nat.reduceAdd, Nat.reduceLeDiff, Nat.reduceSub, Int.reduceEq], by simp -dsimp -implicitDefEqProofs only [go_sem, Nat.reduceBEq, Nat.reduceAdd, Nat.reduceLeDiff, Nat.reduceSub, Int.reduceEq], by simp -dsimp -implicitDefEqProofs only [go_sem, Nat.reduceBEq, Nat.reduceAdd, Nat.reduceLeDiff, Nat.reduceSub, Int.reduceEq], by simp -dsimp -implicitDefEqProofs only [go_sem, Nat.reduceBEq, Nat.reduceAdd, Nat.reduceLeDiff, Nat.reduceSub, Int.reduceEq], by simp -dsimp -implicitDefEqProofs only [go_sem, Nat.reduceBEq, Nat.reduceAdd, Nat.reduceLeDiff, Nat.reduceSub, Int.reduceEq, initE, rowFd], by simp -dsimp -implicitDefEqProofs only [go_sem, Nat.reduceBEq, Nat.reduceAdd, Nat.reduceLeDiff, Nat.reduceSub, Int.reduceEq, initE, rowFd, ra_length], by simp -dsimp -implicitDefEqProofs only [go_sem, Nat.reduceBEq, Nat.reduceAdd, Nat.reduceLeDiff, Nat.reduceSub, Int.reduceEq] <;> rfl, by simp -dsimp -implicitDefEqProofs only [go_sem, Nat.reduceBEq, Nat.reduceAdd, Nat.reduceLeDiff, Nat.reduceSub, Int.reduceEq], by simp -dsimp -implicitDefEqProofs only [go_sem, Nat.reduceBEq, Nat.reduceAdd, Nat.reduceLeDiff, Nat.reduceSub, Int.reduceEq], by simp -dsimp -implicitDefEqProofs only [go_sem, Nat.reduceBEq, Nat.reduceAdd, Nat.reduceLeDiff, Nat.reduceSub, Int.reduceEq] <;> rfl⟩ ?_
    rintro i ⟨e, σ⟩ hi ⟨h0, h1, h4, h5, h6, h7, h28, h29, h8, hs4, hs7, hs26⟩ K hK
    simp only at h0 h1 h4 h5 h6 h7 h28 h29 h8 hs4 hs7 hs26
    simp -dsimp -implicitDefEqProofs only [go_sem, Nat.reduceBEq, Nat.reduceAdd, Nat.reduceLeDiff, Nat.reduceSub, Int.reduceEq, h0, h1, h4, h5, h6, h7, h28, h29, h8, hs4, hs7, hs26]
    refine ifB'.of (fun hlt => ?_) (fun hlt => ?_)
    · have hlt : i < fs.length := by omega
      repeat (first | with_reducible refine ask.of (by first | omega | decide) ?_ | simp -dsimp -implicitDefEqProofs only [go_sem, Nat.reduceBEq, Nat.reduceAdd, Nat.reduceLeDiff, Nat.reduceSub, Int.reduceEq, h0, h1, h4, h5, h6, h7, h28, h29, h8, hs4, hs7, hs26, Fd_at hlt, fdC, bl3])
      have hfd := hf fs[i] (List.getElem_mem hlt)
      have hnm := fd_name hfd
      have hby := fd_byte hfd
      repeat' (first | with_reducible refine And.intro ?_ ?_ | with_reducible refine ask.of (by first | omega | decide | (simp; omega)) ?_ | simp -dsimp -implicitDefEqProofs only [go_sem, Nat.reduceBEq, Nat.reduceAdd, Nat.reduceLeDiff, Nat.reduceSub, Int.reduceEq, h0, h1, h4, h5, h6, h7, h28, h29, h8, hs4, hs7, hs26, Fd_at hlt, fdC, bl3, List.take_succ_cons])
      all_goals
        refine hK _ hlt ?_
        simp -dsimp -implicitDefEqProofs only [go_sem, Nat.reduceBEq, Nat.reduceAdd, Nat.reduceLeDiff, Nat.reduceSub, Int.reduceEq, h0, h1, h4, h5, h6, h7, h28, h29, h8, hs4, hs7, hs26, wrap_succ (show i < 4611686018427387904 by omega), hby.1, hby.2]
        have ee : ra byC (leB 8 next :: (fs.take i).map hdF) ++ [[AV.row 5 1 (bytesA (hdF fs[i]))]] = ra byC (leB 8 next :: (fs.take (i + 1)).map hdF) := by
          rw [← hd_take hlt]; simp [ra, byC]
        exact congrArg (fun z => some (OB.row 48 1 z)) ee
    · have hlt : i = fs.length := by omega
      subst hlt
      have hw := hd_wBB (next := next) h.1
      rw [List.take_length] at hs26
      have he : encM { k := 1, f := 0, n := (fs.length : Int), bs := leB 8 next :: fs.map hdF } = msBody (hdMs fs next) := hd_enc h.1
      repeat' (first
        | with_reducible refine ask.of (by omega) ?_
        | (with_reducible refine And.intro ?_ ?_)
        | (refine CallE.of (c_fieldsCopy fs hx hb) ?_ ?_ ?_; rotate_left; (· (simp -dsimp -implicitDefEqProofs only [go_sem, Nat.reduceBEq, Nat.reduceAdd, Nat.reduceLeDiff, Nat.reduceSub, Int.reduceEq, h0, h1, h4, h5, h6, h7, h28, h29, h8, hs4, hs7, hs26, bl3, hdMs, msC, rowFd]; done)); rotate_left; (· (rintro r rfl; (repeat' first | exact trivial | exact pure_rowB _ | exact pure_rowO _ | exact pure_rowI _ | exact pure_rowBB _ | exact pure_rowPk _ _ | exact pure_rowSn _ _ | exact pure_rowFd _ _ | exact pure_rowBBB _ | exact pure_rowCl _ _ | exact pure_rowTb _ _ _ | refine And.intro ?_ ?_))); rintro r rfl; try simp -dsimp -implicitDefEqProofs only [go_sem, Nat.reduceBEq, Nat.reduceAdd, Nat.reduceLeDiff, Nat.reduceSub, Int.reduceEq, h0, h1, h4, h5, h6, h7, h28, h29, h8, hs4, hs7, hs26, bl3, hdMs, msC, rowFd])
        | (refine CallE.of (c_implEncodeMessage (hdMs fs next) (hd_len hx h.1.1.2 hw)) ?_ ?_ ?_; rotate_left; (· (simp -dsimp -implicitDefEqProofs only [go_sem, Nat.reduceBEq, Nat.reduceAdd, Nat.reduceLeDiff, Nat.reduceSub, Int.reduceEq, h0, h1, h4, h5, h6, h7, h28, h29, h8, hs4, hs7, hs26, bl3, hdMs, msC, rowFd]; done)); rotate_left; (· (rintro r rfl; (repeat' first | exact trivial | exact pure_rowB _ | exact pure_rowO _ | exact pure_rowI _ | exact pure_rowBB _ | exact pure_rowPk _ _ | exact pure_rowSn _ _ | exact pure_rowFd _ _ | exact pure_rowBBB _ | exact pure_rowCl _ _ | exact pure_rowTb _ _ _ | refine And.intro ?_ ?_))); rintro r rfl; try simp -dsimp -implicitDefEqProofs only [go_sem, Nat.reduceBEq, Nat.reduceAdd, Nat.reduceLeDiff, Nat.reduceSub, Int.reduceEq, h0, h1, h4, h5, h6, h7, h28, h29, h8, hs4, hs7, hs26, bl3, hdMs, msC, rowFd])
        | with_reducible refine ifB'.no (by omega) ?_
        | simp -dsimp -implicitDefEqProofs only [go_sem, Nat.reduceBEq, Nat.reduceAdd, Nat.reduceLeDiff, Nat.reduceSub, Int.reduceEq, h0, h1, h4, h5, h6, h7, h28, h29, h8, hs4, hs7, hs26, bl3, hdMs, msC, rowFd])
      all_goals
        rw [he, bbA_zeros]; rfl
  · rw [stL_no h]
    repeat' (first | exact absurd ⟨by assumption, by omega, by omega⟩ h | with_reducible refine ask.of (by first | omega | decide) ?_ | ((with_reducible refine ifB'.of (fun _ => ?_) (fun _ => ?_))) | simp -dsimp -implicitDefEqProofs only [go_sem, Nat.reduceBEq, Nat.reduceAdd, Nat.reduceLeDiff, Nat.reduceSub, Int.reduceEq, bl3, Bool.not_true, Bool.not_false, decide_true, decide_false])
    all_goals rfl
end Go.Ev
set_option linter.unusedSimpArgs false
set_option linter.unusedVariables false
namespace Go.Ev
open Go Go.RowKit Go.Proofs
def clOk (f : Fd) (c : Cl) : Prop := if c.z = true then c.i = 0 ∧ c.f.length = 0 else if f.k = 0 then (c.i = 0 ∨ c.i = 1) ∧ c.f.length = 0 else if f.k = 1 then fitsB f.w.toNat c.i = true ∧ c.f.length = 0 else c.i = 0
instance (f : Fd) (c : Cl) : Decidable (clOk f c) := by unfold clOk; infer_instance
def i64r (n : Int) : Prop := -9223372036854775808 ≤ n ∧ n ≤ 9223372036854775807
theorem cl_d {f : Fd} {c : Cl} {q : Prop} [Decidable q] (h : q ↔ clOk f c) : decide q = decide (clOk f c) := decide_eq_decide.2 h
theorem cl_f {f : Fd} {c : Cl} (h : ¬ clOk f c) : false = decide (clOk f c) := (decide_eq_false h).symm
theorem cl_t {f : Fd} {c : Cl} (h : clOk f c) : true = decide (clOk f c) := (decide_eq_true h).symm
theorem packIC_one {n x : Int} (h : isW n = true) : (packIC [x] n).2 = if fitsB n.toNat x = true then 0 else 1 := by
  unfold packIC
  rw [if_pos h]
  by_cases h2 : fitsB n.toNat x = true
  · rw [if_pos h2, if_pos (by simp [h2])]
  · rw [if_neg h2, if_neg (by simp [h2])]
theorem fd_w {f : Fd} (h : fdOk f) (h1 : f.k = 1) : ∃ w : Nat, f.w = w ∧ (w = 1 ∨ w = 2 ∨ w = 4 ∨ w = 8) := by
  have := h.2
  exact ⟨f.w.toNat, by omega, by omega⟩
set_option maxRecDepth 4000 in
theorem c_l2cellOK (f : Fd) (c : Cl) (hf : fdOk f) (hb : c.f.length ≤ 1048576) : Meets Tryz.prog 144 [.agg (fdC f), .agg (clC c)] (fun r => r = .v (.bool (decide (clOk f c)))) := by
  refine Meets.intro mixed (hint []) Tryz.func144 rfl (by decide) res_144 rty_144 (by kernel_rfl) ?_; 
  simp -dsimp -implicitDefEqProofs only [go_sem, Nat.reduceBEq, Nat.reduceAdd, Nat.reduceLeDiff, Nat.reduceSub, Int.reduceEq, fdC, clC]
  cases hz : c.z
  · by_cases h1 : f.k = 1
    · obtain ⟨w, hw, hww⟩ := fd_w hf h1
      simp -dsimp -implicitDefEqProofs only [go_sem, Nat.reduceBEq, Nat.reduceAdd, Nat.reduceLeDiff, Nat.reduceSub, Int.reduceEq, hz, h1, hw, decide_false, decide_true]
      repeat (first | with_reducible refine ask.of (by omega) ?_ | simp -dsimp -implicitDefEqProofs only [go_sem, Nat.reduceBEq, Nat.reduceAdd, Nat.reduceLeDiff, Nat.reduceSub, Int.reduceEq, hz, h1, hw, decide_false, decide_true])
      refine CallE.of (c_l1fits c.i w hww) (by rintro r rfl; (repeat' first | exact trivial | exact pure_rowB _ | exact pure_rowO _ | exact pure_rowI _ | exact pure_rowBB _ | exact pure_rowPk _ _ | exact pure_rowSn _ _ | exact pure_rowFd _ _ | exact pure_rowBBB _ | exact pure_rowCl _ _ | exact pure_rowTb _ _ _ | refine And.intro ?_ ?_)) (by simp -dsimp -implicitDefEqProofs only [go_sem, Nat.reduceBEq, Nat.reduceAdd, Nat.reduceLeDiff, Nat.reduceSub, Int.reduceEq]) ?_
      rintro r rfl
      simp -dsimp -implicitDefEqProofs only [go_sem, Nat.reduceBEq, Nat.reduceAdd, Nat.reduceLeDiff, Nat.reduceSub, Int.reduceEq]
      have e : clOk f c ↔ fitsB w c.i = true ∧ c.f.length = 0 := by
        unfold clOk
        rw [hz, if_neg (by decide), if_neg (by omega), if_pos h1, hw]; simp
      cases hq : fitsB w c.i
      · simp -dsimp -implicitDefEqProofs only [go_sem, Nat.reduceBEq, Nat.reduceAdd, Nat.reduceLeDiff, Nat.reduceSub, Int.reduceEq, hq]
        exact cl_f (by rw [e, hq]; simp)
      · simp -dsimp -implicitDefEqProofs only [go_sem, Nat.reduceBEq, Nat.reduceAdd, Nat.reduceLeDiff, Nat.reduceSub, Int.reduceEq, hq]
        repeat (first | with_reducible refine ask.of (by omega) ?_ | simp -dsimp -implicitDefEqProofs only [go_sem, Nat.reduceBEq, Nat.reduceAdd, Nat.reduceLeDiff, Nat.reduceSub, Int.reduceEq, hq])
        exact cl_d (by rw [e, hq]; simp)
    · repeat' (first | with_reducible refine ifB'.of (fun h => ?_) (fun h => ?_) | with_reducible refine ask.of (by omega) ?_ | omega | ((with_reducible refine cl_f ?_); unfold clOk; simp only [hz, h1, if_false, Bool.false_eq_true]; split <;> omega) | ((with_reducible refine cl_t ?_); unfold clOk; simp only [hz, h1, if_false, Bool.false_eq_true]; split <;> omega) | ((with_reducible refine cl_d ?_); unfold clOk; simp only [hz, h1, if_false, Bool.false_eq_true]; split <;> omega) | simp -dsimp -implicitDefEqProofs only [go_sem, Nat.reduceBEq, Nat.reduceAdd, Nat.reduceLeDiff, Nat.reduceSub, Int.reduceEq, hz, decide_true])
  · repeat' (first | with_reducible refine ifB'.of (fun h => ?_) (fun h => ?_) | with_reducible refine ask.of (by omega) ?_ | ((with_reducible refine cl_f ?_); unfold clOk; simp only [hz, if_true]; omega) | ((with_reducible refine cl_t ?_); unfold clOk; simp only [hz, if_true]; omega) | ((with_reducible refine cl_d ?_); unfold clOk; simp only [hz, if_true]; omega) | simp -dsimp -implicitDefEqProofs only [go_sem, Nat.reduceBEq, Nat.reduceAdd, Nat.reduceLeDiff, Nat.reduceSub, Int.reduceEq, hz, decide_true])
set_option maxRecDepth 4000 in
theorem c_cellOk (f : Fd) (c : Cl) (hf : fdOk f) (hb : c.f.length ≤ 1048576) (hi : i64r c.i) : Meets Tryz.prog 119 [.agg (fdC f), .agg (clC c)] (fun r => r = .v (.bool (decide (clOk f c)))) := by
  refine Meets.intro mixed (hint []) Tryz.func119 rfl (by decide) res_119 rty_119 (by kernel_rfl) ?_; 
  simp -dsimp -implicitDefEqProofs only [go_sem, Nat.reduceBEq, Nat.reduceAdd, Nat.reduceLeDiff, Nat.reduceSub, Int.reduceEq, fdC, clC]
  cases hz : c.z
  · by_cases h1 : f.k = 1
    · obtain ⟨w, hw, hww⟩ := fd_w hf h1
      have hW : isW (w : Int) = true := isW_of hww
      have e : clOk f c ↔ fitsB w c.i = true ∧ c.f.length = 0 := by
        unfold clOk
        rw [hz, if_neg (by decide), if_neg (by omega), if_pos h1, hw]; simp
      simp -dsimp -implicitDefEqProofs only [go_sem, Nat.reduceBEq, Nat.reduceAdd, Nat.reduceLeDiff, Nat.reduceSub, Int.reduceEq, hz, h1, hw, decide_false, decide_true]
      repeat (first | with_reducible refine ask.of (by omega) ?_ | simp -dsimp -implicitDefEqProofs only [go_sem, Nat.reduceBEq, Nat.reduceAdd, Nat.reduceLeDiff, Nat.reduceSub, Int.reduceEq, hz, h1, hw, decide_false, decide_true])
      repeat (first | with_reducible refine ask.of (by decide) ?_ | simp -dsimp -implicitDefEqProofs only [go_sem, Nat.reduceBEq, Nat.reduceAdd, Nat.reduceLeDiff, Nat.reduceSub, Int.reduceEq, intA_one, show intC c.i = [.v (.int .i64 c.i)] from rfl])
      refine CallE.of (c_implPackInts [c.i] w (by simp) (by intro x hx; simp at hx; subst hx; exact hi)) (by rintro r rfl; (repeat' first | exact trivial | exact pure_rowB _ | exact pure_rowO _ | exact pure_rowI _ | exact pure_rowBB _ | exact pure_rowPk _ _ | exact pure_rowSn _ _ | exact pure_rowFd _ _ | exact pure_rowBBB _ | exact pure_rowCl _ _ | exact pure_rowTb _ _ _ | refine And.intro ?_ ?_)) (by simp -dsimp -implicitDefEqProofs only [go_sem, Nat.reduceBEq, Nat.reduceAdd, Nat.reduceLeDiff, Nat.reduceSub, Int.reduceEq]) ?_
      rintro r rfl
      simp -dsimp -implicitDefEqProofs only [go_sem, Nat.reduceBEq, Nat.reduceAdd, Nat.reduceLeDiff, Nat.reduceSub, Int.reduceEq]
      cases hq : fitsB w c.i
      · have ep : (packIC [c.i] (w : Int)).2 = 1 := by rw [packIC_one hW, Int.toNat_natCast, hq]; rfl
        simp -dsimp -implicitDefEqProofs only [go_sem, Nat.reduceBEq, Nat.reduceAdd, Nat.reduceLeDiff, Nat.reduceSub, Int.reduceEq, ep, decide_false]
        exact cl_f (by rw [e, hq]; simp)
      · have ep : (packIC [c.i] (w : Int)).2 = 0 := by rw [packIC_one hW, Int.toNat_natCast, hq]; rfl
        simp -dsimp -implicitDefEqProofs only [go_sem, Nat.reduceBEq, Nat.reduceAdd, Nat.reduceLeDiff, Nat.reduceSub, Int.reduceEq, ep, decide_true]
        repeat (first | with_reducible refine ask.of (by omega) ?_ | simp -dsimp -implicitDefEqProofs only [go_sem, Nat.reduceBEq, Nat.reduceAdd, Nat.reduceLeDiff, Nat.reduceSub, Int.reduceEq, hq])
        exact cl_d (by rw [e, hq]; simp)
    · repeat' (first | with_reducible refine ifB'.of (fun h => ?_) (fun h => ?_) | with_reducible refine ask.of (by omega) ?_ | omega | ((with_reducible refine cl_f ?_); unfold clOk; simp only [hz, h1, if_false, Bool.false_eq_true]; split <;> omega) | ((with_reducible refine cl_t ?_); unfold clOk; simp only [hz, h1, if_false, Bool.false_eq_true]; split <;> omega) | ((with_reducible refine cl_d ?_); unfold clOk; simp only [hz, h1, if_false, Bool.false_eq_true]; split <;> omega) | simp -dsimp -implicitDefEqProofs only [go_sem, Nat.reduceBEq, Nat.reduceAdd, Nat.reduceLeDiff, Nat.reduceSub, Int.reduceEq, hz, decide_true])
  · repeat' (first | with_reducible refine ifB'.of (fun h => ?_) (fun h => ?_) | with_reducible refine ask.of (by omega) ?_ | ((with_reducible refine cl_f ?_); unfold clOk; simp only [hz, if_true]; omega) | ((with_reducible refine cl_t ?_); unfold clOk; simp only [hz, if_true]; omega) | ((with_reducible refine cl_d ?_); unfold clOk; simp only [hz, if_true]; omega) | simp -dsimp -implicitDefEqProofs only [go_sem, Nat.reduceBEq, Nat.reduceAdd, Nat.reduceLeDiff, Nat.reduceSub, Int.reduceEq, hz, decide_true])
end Go.Ev
set_option linter.unusedSimpArgs false
set_option linter.unusedVariables false
namespace Go.Ev
open Go Go.RowKit Go.Proofs
structure Tb where
  r : Int
  c : List Cl
def tbC (T : Nat) (x : Tb) : List AV := [.v (.int .i64 x.r), .row T 3 (ra clC x.c)]
theorem c_szTable (x : Tb) (left : Nat) (hl : left ≤ 1048576) (hx : x.c.length ≤ 140737488355328) (hb : ∀ b ∈ x.c, b.f.length ≤ 140737488355328) : Meets Tryz.prog 49 [.agg (tbC 165 x), .v (.int .i64 left)] (fun r => r = .v (.int .i64 (szR left (x.c.length + szL clW x.c)))) := by
  refine Meets.intro mixed (hint []) Tryz.func49 rfl (by decide) res_49 rty_49 (by kernel_rfl) ?_; 
  simp -dsimp -implicitDefEqProofs only [go_sem, Nat.reduceBEq, Nat.reduceAdd, Nat.reduceLeDiff, Nat.reduceSub, Int.reduceEq, tbC]
  repeat (first | with_reducible refine ask.of (by omega) ?_ | simp -dsimp -implicitDefEqProofs only [go_sem, Nat.reduceBEq, Nat.reduceAdd, Nat.reduceLeDiff, Nat.reduceSub, Int.reduceEq, bleF])
  refine CallE.of (c_szCellS x.c left hl hx hb) (by rintro r rfl; (repeat' first | exact trivial | exact pure_rowB _ | exact pure_rowO _ | exact pure_rowI _ | exact pure_rowBB _ | exact pure_rowPk _ _ | exact pure_rowSn _ _ | exact pure_rowFd _ _ | exact pure_rowBBB _ | exact pure_rowCl _ _ | exact pure_rowTb _ _ _ | refine And.intro ?_ ?_)) (by simp -dsimp -implicitDefEqProofs only [go_sem, Nat.reduceBEq, Nat.reduceAdd, Nat.reduceLeDiff, Nat.reduceSub, Int.reduceEq, rowCl]) ?_
  rintro r rfl
  simp -dsimp -implicitDefEqProofs only [go_sem, Nat.reduceBEq, Nat.reduceAdd, Nat.reduceLeDiff, Nat.reduceSub, Int.reduceEq, rowCl]
  by_cases h2 : x.c.length + szL clW x.c ≤ left
  · rw [szR_ok h2]
    refine ifB'.of (fun h => by omega) (fun h => ?_)
    simp -dsimp -implicitDefEqProofs only [go_sem, Nat.reduceBEq, Nat.reduceAdd, Nat.reduceLeDiff, Nat.reduceSub, Int.reduceEq]
  · rw [szR_no h2]
    simp -dsimp -implicitDefEqProofs only [go_sem, Nat.reduceBEq, Nat.reduceAdd, Nat.reduceLeDiff, Nat.reduceSub, Int.reduceEq, show decide ((-1 : Int) < 0) = true from rfl]
theorem c_toTable (x : Tb) (hx : x.c.length ≤ 1048576) (hb : ∀ b ∈ x.c, b.f.length ≤ 1048576) : Meets Tryz.prog 63 [.agg (tbC 165 x)] (fun r => r = .agg (tbC 149 x)) := by
  refine Meets.intro mixed (hint []) Tryz.func63 rfl (by decide) res_63 rty_63 (by kernel_rfl) ?_; 
  simp -dsimp -implicitDefEqProofs only [go_sem, Nat.reduceBEq, Nat.reduceAdd, Nat.reduceLeDiff, Nat.reduceSub, Int.reduceEq, tbC]
  repeat (first | with_reducible refine ask.of (by omega) ?_ | simp -dsimp -implicitDefEqProofs only [go_sem, Nat.reduceBEq, Nat.reduceAdd, Nat.reduceLeDiff, Nat.reduceSub, Int.reduceEq, bleF])
  refine CallE.of (c_toCellS x.c hx hb) (by rintro r rfl; (repeat' first | exact trivial | exact pure_rowB _ | exact pure_rowO _ | exact pure_rowI _ | exact pure_rowBB _ | exact pure_rowPk _ _ | exact pure_rowSn _ _ | exact pure_rowFd _ _ | exact pure_rowBBB _ | exact pure_rowCl _ _ | exact pure_rowTb _ _ _ | refine And.intro ?_ ?_)) (by simp -dsimp -implicitDefEqProofs only [go_sem, Nat.reduceBEq, Nat.reduceAdd, Nat.reduceLeDiff, Nat.reduceSub, Int.reduceEq, rowCl]) ?_
  rintro r rfl
  simp -dsimp -implicitDefEqProofs only [go_sem, Nat.reduceBEq, Nat.reduceAdd, Nat.reduceLeDiff, Nat.reduceSub, Int.reduceEq, rowCl]
  repeat (first | with_reducible refine ask.of (by omega) ?_ | simp -dsimp -implicitDefEqProofs only [go_sem, Nat.reduceBEq, Nat.reduceAdd, Nat.reduceLeDiff, Nat.reduceSub, Int.reduceEq, bleF])
theorem c_eqTable (x : Tb) (hx : x.c.length ≤ 1048576) (hb : ∀ b ∈ x.c, b.f.length ≤ 1048576) : Meets Tryz.prog 79 [.agg (tbC 149 x), .agg (tbC 149 x)] (fun r => r = .v (.bool true)) := by
  refine Meets.intro mixed (hint []) Tryz.func79 rfl (by decide) res_79 rty_79 (by kernel_rfl) ?_; 
  simp -dsimp -implicitDefEqProofs only [go_sem, Nat.reduceBEq, Nat.reduceAdd, Nat.reduceLeDiff, Nat.reduceSub, Int.reduceEq, tbC, decide_true]
  repeat (first | with_reducible refine ask.of (by omega) ?_ | simp -dsimp -implicitDefEqProofs only [go_sem, Nat.reduceBEq, Nat.reduceAdd, Nat.reduceLeDiff, Nat.reduceSub, Int.reduceEq, bleF, decide_true])
  refine CallE.of (c_eqCellS x.c hx hb) (by rintro r rfl; (repeat' first | exact trivial | exact pure_rowB _ | exact pure_rowO _ | exact pure_rowI _ | exact pure_rowBB _ | exact pure_rowPk _ _ | exact pure_rowSn _ _ | exact pure_rowFd _ _ | exact pure_rowBBB _ | exact pure_rowCl _ _ | exact pure_rowTb _ _ _ | refine And.intro ?_ ?_)) (by simp -dsimp -implicitDefEqProofs only [go_sem, Nat.reduceBEq, Nat.reduceAdd, Nat.reduceLeDiff, Nat.reduceSub, Int.reduceEq, rowCl, Bool.not_true]) ?_
  rintro r rfl
  simp -dsimp -implicitDefEqProofs only [go_sem, Nat.reduceBEq, Nat.reduceAdd, Nat.reduceLeDiff, Nat.reduceSub, Int.reduceEq, rowCl, Bool.not_true]
def colL (xs : List Cl) (R i : Nat) : List Cl := (xs.take ((i + 1) * R)).drop (i * R)
theorem wrap_mul {a b : Nat} (h : a * b ≤ 9223372036854775807) : IntKind.i64.wrap ((a : Int) * (b : Int)) = ((a * b : Nat) : Int) := by
  rw [← Int.natCast_mul]; exact wrap_nat h
theorem c_l2column (xs : List Cl) (R i : Nat) (hR : R ≤ 100) (hi : i ≤ 1000) (h : (i + 1) * R ≤ xs.length) : Meets Tryz.prog 143 [.agg [.v (.int .i64 R), .rd .ent 149 3 (ra clC xs)], .v (.int .i64 i)] (fun r => r = .rd .ent 149 3 (ra clC (colL xs R i))) := by
  have hm : (i + 1) * R ≤ 1001 * 100 := Nat.mul_le_mul (by omega) hR
  have hm1 : i * R ≤ (i + 1) * R := Nat.mul_le_mul_right _ (by omega)
  refine Meets.intro mixed (hint []) Tryz.func143 rfl (by decide) res_143 rty_143 (by kernel_rfl) ?_; 
  simp -dsimp -implicitDefEqProofs only [go_sem, Nat.reduceBEq, Nat.reduceAdd, Nat.reduceLeDiff, Nat.reduceSub, Int.reduceEq]
  repeat (first | with_reducible refine ask.of (by omega) ?_ | simp -dsimp -implicitDefEqProofs only [go_sem, Nat.reduceBEq, Nat.reduceAdd, Nat.reduceLeDiff, Nat.reduceSub, Int.reduceEq, bleF, wrap_succ (show i < 4611686018427387904 by omega), wrap_mul (show i * R ≤ 9223372036854775807 by omega), wrap_mul (show (i + 1) * R ≤ 9223372036854775807 by omega)])
  rfl
theorem c_column (xs : List Cl) (R i : Nat) (hR : R ≤ 100) (hi : i ≤ 1000) (h : (i + 1) * R ≤ xs.length) : Meets Tryz.prog 118 [.agg [.v (.int .i64 R), .rd .ent 149 3 (ra clC xs)], .v (.int .i64 i)] (fun r => r = .rd .ent 149 3 (ra clC (colL xs R i))) := by
  have hm : (i + 1) * R ≤ 1001 * 100 := Nat.mul_le_mul (by omega) hR
  have hm1 : i * R ≤ (i + 1) * R := Nat.mul_le_mul_right _ (by omega)
  refine Meets.intro mixed (hint []) Tryz.func118 rfl (by decide) res_118 rty_118 (by kernel_rfl) ?_; 
  simp -dsimp -implicitDefEqProofs only [go_sem, Nat.reduceBEq, Nat.reduceAdd, Nat.reduceLeDiff, Nat.reduceSub, Int.reduceEq]
  repeat (first | with_reducible refine ask.of (by omega) ?_ | simp -dsimp -implicitDefEqProofs only [go_sem, Nat.reduceBEq, Nat.reduceAdd, Nat.reduceLeDiff, Nat.reduceSub, Int.reduceEq, bleF, wrap_succ (show i < 4611686018427387904 by omega), wrap_mul (show i * R ≤ 9223372036854775807 by omega), wrap_mul (show (i + 1) * R ≤ 9223372036854775807 by omega)])
  rfl
theorem colL_length {xs : List Cl} {R i : Nat} (h : (i + 1) * R ≤ xs.length) : (colL xs R i).length = R := by
  have : (i + 1) * R = i * R + R := by rw [Nat.add_mul, Nat.one_mul]
  simp [colL]; omega
theorem colL_mem {xs : List Cl} {R i : Nat} {c : Cl} (h : c ∈ colL xs R i) : c ∈ xs := List.mem_of_mem_take (List.mem_of_mem_drop h)
theorem colL_sz {xs : List Cl} {R i : Nat} : szL clW (xs.take (i * R)) + szL clW (colL xs R i) = szL clW (xs.take ((i + 1) * R)) := by
  have hm1 : i * R ≤ (i + 1) * R := Nat.mul_le_mul_right _ (by omega)
  have e : xs.take ((i + 1) * R) = xs.take (i * R) ++ colL xs R i := by
    have := List.take_append_drop (i * R) (xs.take ((i + 1) * R))
    rw [List.take_take, Nat.min_eq_left hm1] at this
    exact this.symm
  rw [e]
  simp [szL]
def dstep (acc : List (List UInt8)) (c : Cl) : List (List UInt8) := if c.z = false ∧ c.f ∉ acc then acc ++ [c.f] else acc
def dst (xs : List Cl) : List (List UInt8) := xs.foldl dstep []
theorem dst_succ {xs : List Cl} {i : Nat} (h : i < xs.length) : dst (xs.take (i + 1)) = dstep (dst (xs.take i)) xs[i] := by
  rw [List.take_succ_eq_append_getElem h, dst, List.foldl_append]; rfl
theorem dstep_le (acc : List (List UInt8)) (c : Cl) : acc.length ≤ (dstep acc c).length := by
  unfold dstep; split <;> simp
theorem foldl_le : ∀ (xs : List Cl) (acc : List (List UInt8)), acc.length ≤ (xs.foldl dstep acc).length
  | [], acc => Nat.le_refl _
  | x :: xs, acc => Nat.le_trans (dstep_le acc x) (foldl_le xs _)
theorem dst_le (xs : List Cl) (i : Nat) : (dst (xs.take i)).length ≤ (dst xs).length := by
  have e : dst xs = (xs.drop i).foldl dstep (dst (xs.take i)) := by
    unfold dst
    rw [← List.foldl_append, List.take_append_drop]
  rw [e]; exact foldl_le _ _
theorem dst_len (xs : List Cl) : ∀ i, i ≤ xs.length → (dst (xs.take i)).length ≤ i
  | 0, _ => by simp [dst]
  | i + 1, h => by
    rw [dst_succ (by omega)]
    have := dst_len xs i (by omega)
    unfold dstep; split <;> simp <;> omega
theorem dst_mem {xs : List Cl} : ∀ {i : Nat} {b : List UInt8}, i ≤ xs.length → b ∈ dst (xs.take i) → ∃ c ∈ xs, c.f = b
  | 0, b, _, h => by simp [dst] at h
  | i + 1, b, hi, h => by
    rw [dst_succ (by omega)] at h
    unfold dstep at h
    split at h
    · rcases List.mem_append.1 h with h | h
      · exact dst_mem (by omega) h
      · exact ⟨_, List.getElem_mem (by omega), (List.mem_singleton.1 h).symm⟩
    · exact dst_mem (by omega) h
theorem dstep_no {acc : List (List UInt8)} {c : Cl} (h : ¬ (c.z = false ∧ c.f ∉ acc)) : dstep acc c = acc := if_neg h
theorem dstep_yes {acc : List (List UInt8)} {c : Cl} (h : c.z = false ∧ c.f ∉ acc) : dstep acc c = acc ++ [c.f] := if_pos h
theorem c_l2placeE (xs : List (List UInt8)) (t : List UInt8) (hx : xs.length ≤ 1048576) (hb : ∀ b ∈ xs, b.length ≤ 140737488355328) (ht : t.length ≤ 140737488355328) : Meets Tryz.prog 146 [rowBE xs, rowB t] (fun r => r = .v (.int .i64 (plI xs t))) :=
  Meets.look (bs := [rowBB xs, rowB t]) ⟨look_rowBE xs, Look.refl _, trivial⟩ (c_l2place xs t hx hb ht)
theorem c_l2texts (xs : List Cl) (m : Nat) (hm : m ≤ 1000) (hx : xs.length ≤ 1048576) (hb : ∀ b ∈ xs, b.f.length ≤ 1048576) : Meets Tryz.prog 145 [.rd .ent 149 3 (ra clC xs), .v (.int .i64 m)] (fun r => ∃ ys, r = rowBE ys ∧ (m < ys.length ↔ m < (dst xs).length)) := by
  refine Meets.intro mixed (hint [(5, 232)]) Tryz.func145 rfl (by decide) res_145 rty_145 (by kernel_rfl) ?_; 
  simp -dsimp -implicitDefEqProofs only [go_sem, Nat.reduceBEq, Nat.reduceAdd, Nat.reduceLeDiff, Nat.reduceSub, Int.reduceEq]
  refine LoopE.cnt xs.length (fun i s => s.env 0 = .rd .ent 149 3 (ra clC xs) ∧ s.env 1 = .v (.int .i64 m) ∧ s.env 5 = .ref [5] ∧ s.env 6 = .v (.int .i64 i) ∧ s.σ [5] = some (.row 48 1 (ra byE (dst (xs.take i))))) ⟨by simp -dsimp -implicitDefEqProofs only [go_sem, Nat.reduceBEq, Nat.reduceAdd, Nat.reduceLeDiff, Nat.reduceSub, Int.reduceEq, initE], by simp -dsimp -implicitDefEqProofs only [go_sem, Nat.reduceBEq, Nat.reduceAdd, Nat.reduceLeDiff, Nat.reduceSub, Int.reduceEq, initE], by simp -dsimp -implicitDefEqProofs only [go_sem, Nat.reduceBEq, Nat.reduceAdd, Nat.reduceLeDiff, Nat.reduceSub, Int.reduceEq], by simp -dsimp -implicitDefEqProofs only [go_sem, Nat.reduceBEq, Nat.reduceAdd, Nat.reduceLeDiff, Nat.reduceSub, Int.reduceEq], by simp -dsimp -implicitDefEqProofs only [go_sem, Nat.reduceBEq, Nat.reduceAdd, Nat.reduceLeDiff, Nat.reduceSub, Int.reduceEq] <;> rfl⟩ ?_
  rintro i ⟨e, σ⟩ hi ⟨h0, h1, h5, h6, hs⟩ K hK
  simp only at h0 h1 h5 h6 hs
  simp -dsimp -implicitDefEqProofs only [go_sem, Nat.reduceBEq, Nat.reduceAdd, Nat.reduceLeDiff, Nat.reduceSub, Int.reduceEq, h0, h1, h5, h6, hs]
  refine ifB'.of (fun hlt => ?_) (fun hlt => ?_)
  · have hlt : i < xs.length := by omega
    simp -dsimp -implicitDefEqProofs only [go_sem, Nat.reduceBEq, Nat.reduceAdd, Nat.reduceLeDiff, Nat.reduceSub, Int.reduceEq, h0, h1, h5, h6, hs]
    refine ifB'.of (fun hle => ?_) (fun hle => ?_)
    · have hdl := dst_len xs i hi
      have hdb : ∀ b ∈ dst (xs.take i), b.length ≤ 140737488355328 := fun b h => by
        obtain ⟨c, hc, rfl⟩ := dst_mem hi h
        have := hb c hc; omega
      simp -dsimp -implicitDefEqProofs only [go_sem, Nat.reduceBEq, Nat.reduceAdd, Nat.reduceLeDiff, Nat.reduceSub, Int.reduceEq, h0, h1, h5, h6, hs, Cl_at hlt, clC]
      repeat (first | with_reducible refine ask.of (by omega) ?_ | simp -dsimp -implicitDefEqProofs only [go_sem, Nat.reduceBEq, Nat.reduceAdd, Nat.reduceLeDiff, Nat.reduceSub, Int.reduceEq, h0, h1, h5, h6, hs, Cl_at hlt, clC, bleF])
      cases hz : xs[i].z
      · simp -dsimp -implicitDefEqProofs only [go_sem, Nat.reduceBEq, Nat.reduceAdd, Nat.reduceLeDiff, Nat.reduceSub, Int.reduceEq, h0, h1, h5, h6, hs, hz, Bool.not_false]
        repeat (first | with_reducible refine ask.of (by omega) ?_ | simp -dsimp -implicitDefEqProofs only [go_sem, Nat.reduceBEq, Nat.reduceAdd, Nat.reduceLeDiff, Nat.reduceSub, Int.reduceEq, h0, h1, h5, h6, hs, hz, Cl_at hlt, clC, bleF, Bool.not_false])
        refine CallE.of (c_l2placeE (dst (xs.take i)) xs[i].f (by omega) hdb (by have := hb _ (List.getElem_mem hlt); omega)) (by rintro r rfl; (repeat' first | exact trivial | exact pure_rowB _ | exact pure_rowO _ | exact pure_rowI _ | exact pure_rowBB _ | exact pure_rowPk _ _ | exact pure_rowSn _ _ | exact pure_rowFd _ _ | exact pure_rowBBB _ | exact pure_rowCl _ _ | exact pure_rowTb _ _ _ | refine And.intro ?_ ?_)) (by simp -dsimp -implicitDefEqProofs only [go_sem, Nat.reduceBEq, Nat.reduceAdd, Nat.reduceLeDiff, Nat.reduceSub, Int.reduceEq, h0, h1, h5, h6, hs, hz, Bool.not_false]) ?_
        rintro r rfl
        simp -dsimp -implicitDefEqProofs only [go_sem, Nat.reduceBEq, Nat.reduceAdd, Nat.reduceLeDiff, Nat.reduceSub, Int.reduceEq, h0, h1, h5, h6, hs, hz, Bool.not_false]
        have hp := plI_nonneg (dst (xs.take i)) xs[i].f
        refine ifB'.of (fun hq => ?_) (fun hq => ?_)
        · have hnew : xs[i].f ∉ dst (xs.take i) := fun h => by have := hp.2 h; omega
          simp -dsimp -implicitDefEqProofs only [go_sem, Nat.reduceBEq, Nat.reduceAdd, Nat.reduceLeDiff, Nat.reduceSub, Int.reduceEq, h0, h1, h5, h6, hs, Cl_at hlt, clC]
          repeat (first | with_reducible refine ask.of (by first | omega | (simp; omega)) ?_ | simp -dsimp -implicitDefEqProofs only [go_sem, Nat.reduceBEq, Nat.reduceAdd, Nat.reduceLeDiff, Nat.reduceSub, Int.reduceEq, h0, h1, h5, h6, hs, hz, Cl_at hlt, clC, bleF, Bool.not_false])
          refine hK _ hlt ?_
          simp -dsimp -implicitDefEqProofs only [go_sem, Nat.reduceBEq, Nat.reduceAdd, Nat.reduceLeDiff, Nat.reduceSub, Int.reduceEq, h0, h1, h5, h6, hs, wrap_succ (show i < 4611686018427387904 by omega), dst_succ hlt, dstep_yes ⟨hz, hnew⟩]
        · have hold : xs[i].f ∈ dst (xs.take i) := hp.1 (by omega)
          simp -dsimp -implicitDefEqProofs only [go_sem, Nat.reduceBEq, Nat.reduceAdd, Nat.reduceLeDiff, Nat.reduceSub, Int.reduceEq, h0, h1, h5, h6, hs]
          refine hK _ hlt ?_
          simp -dsimp -implicitDefEqProofs only [go_sem, Nat.reduceBEq, Nat.reduceAdd, Nat.reduceLeDiff, Nat.reduceSub, Int.reduceEq, h0, h1, h5, h6, hs, wrap_succ (show i < 4611686018427387904 by omega), dst_succ hlt, dstep_no (fun h => h.2 hold)]
      · have hno : dstep (dst (xs.take i)) xs[i] = dst (xs.take i) := dstep_no (fun h => by rw [hz] at h; cases h.1)
        simp -dsimp -implicitDefEqProofs only [go_sem, Nat.reduceBEq, Nat.reduceAdd, Nat.reduceLeDiff, Nat.reduceSub, Int.reduceEq, h0, h1, h5, h6, hs, hz, Bool.not_true]
        refine hK _ hlt ?_
        simp -dsimp -implicitDefEqProofs only [go_sem, Nat.reduceBEq, Nat.reduceAdd, Nat.reduceLeDiff, Nat.reduceSub, Int.reduceEq, h0, h1, h5, h6, hs, wrap_succ (show i < 4611686018427387904 by omega), dst_succ hlt, hno]
    · simp -dsimp -implicitDefEqProofs only [go_sem, Nat.reduceBEq, Nat.reduceAdd, Nat.reduceLeDiff, Nat.reduceSub, Int.reduceEq, h0, h1, h5, h6, hs]
      refine ⟨_, rfl, ?_⟩
      have := dst_le xs i
      constructor <;> intro <;> omega
  · have : i = xs.length := by omega
    subst this
    simp -dsimp -implicitDefEqProofs only [go_sem, Nat.reduceBEq, Nat.reduceAdd, Nat.reduceLeDiff, Nat.reduceSub, Int.reduceEq, h0, h1, h5, h6, hs]
    exact ⟨_, rfl, by rw [List.take_length]⟩
end Go.Ev
set_option linter.unusedSimpArgs false
set_option linter.unusedVariables false
namespace Go.Ev
open Go Go.RowKit Go.Proofs
def mpI (l : List (List UInt8 × Int)) : List (Value × Value) := mpS (l.map fun p => (p.1, .int .i64 p.2))
theorem mpI_length (l : List (List UInt8 × Int)) : (mpI l).length = l.length := by simp [mpI, mpS]
def getI : List (List UInt8 × Int) → List UInt8 → Int
  | [], _ => 0
  | p :: l, t => if p.1 = t then p.2 else getI l t
def putI : List (List UInt8 × Int) → List UInt8 → Int → List (List UInt8 × Int)
  | [], t, n => [(t, n)]
  | p :: l, t, n => if p.1 = t then (t, n) :: l else p :: putI l t n
theorem mgetI (t : List UInt8) : ∀ l : List (List UInt8 × Int), (mget (mpI l) (.string ⟨t.toArray⟩)).getD (.int .i64 0) = .int .i64 (getI l t)
  | [] => rfl
  | p :: l => by
    show (sel (kEq (.string ⟨p.1.toArray⟩) (.string ⟨t.toArray⟩)) (some (Value.int .i64 p.2)) (mget (mpI l) _)).getD (.int .i64 0) = _
    rw [kEq_str, getI]
    by_cases h : p.1 = t
    · rw [decide_eq_true h, if_pos h]; rfl
    · rw [decide_eq_false h, if_neg h]; exact mgetI t l
theorem mputI (t : List UInt8) (n : Int) : ∀ l : List (List UInt8 × Int), mput (mpI l) (.string ⟨t.toArray⟩) (.int .i64 n) = mpI (putI l t n)
  | [] => rfl
  | p :: l => by
    show sel (kEq (.string ⟨p.1.toArray⟩) (.string ⟨t.toArray⟩)) ((.string ⟨t.toArray⟩, .int .i64 n) :: mpI l) ((.string ⟨p.1.toArray⟩, .int .i64 p.2) :: mput (mpI l) _ _) = _
    rw [kEq_str, putI]
    by_cases h : p.1 = t
    · rw [decide_eq_true h, if_pos h]; rfl
    · rw [decide_eq_false h, if_neg h, mputI t n l]; rfl
theorem putI_keys (t : List UInt8) (n : Int) : ∀ l : List (List UInt8 × Int), (putI l t n).map (·.1) = if t ∈ l.map (·.1) then l.map (·.1) else l.map (·.1) ++ [t]
  | [] => rfl
  | p :: l => by
    rw [putI]
    by_cases h : p.1 = t
    · rw [if_pos h, if_pos (by simp [h])]; simp [h]
    · have ih := putI_keys t n l
      rw [if_neg h, List.map_cons, ih]
      by_cases h2 : t ∈ l.map (·.1)
      · rw [if_pos h2, if_pos (by simp only [List.map_cons, List.mem_cons]; exact .inr h2)]; rfl
      · rw [if_neg h2, if_neg (by simp only [List.map_cons, List.mem_cons]; rintro (h3 | h3); exact h h3.symm; exact h2 h3)]; rfl
theorem putI_dst {l : List (List UInt8 × Int)} {acc : List (List UInt8)} {c : Cl} (h : l.map (·.1) = acc) (hz : c.z = false) (n : Int) : (putI l c.f n).map (·.1) = dstep acc c := by
  rw [putI_keys, h]
  unfold dstep
  by_cases h2 : c.f ∈ acc
  · rw [if_pos h2, if_neg (by simp [h2])]
  · rw [if_neg h2, if_pos ⟨hz, h2⟩]
def colOk (f : Fd) (xs : List Cl) : Prop := (∀ c ∈ xs, clOk f c) ∧ (f.k = 3 → (dst xs).length ≤ 40)
def okT (fs : List Fd) (r : Int) (xs : List Cl) : Prop := okF fs ∧ (0 ≤ r ∧ r ≤ 100 ∧ (xs.length : Int) = r * fs.length) ∧ (∀ i (h : i < fs.length), colOk fs[i] (colL xs r.toNat i)) ∧ szL clW xs ≤ 4000
noncomputable def tbB (fs : List Fd) (r : Int) (xs : List Cl) : Bool := @decide (okT fs r xs) (Classical.propDecidable _)
theorem tb_f {fs : List Fd} {r : Int} {xs : List Cl} (h : ¬ okT fs r xs) : false = tbB fs r xs := (@decide_eq_false _ (Classical.propDecidable _) h).symm
theorem tb_t {fs : List Fd} {r : Int} {xs : List Cl} (h : okT fs r xs) : true = tbB fs r xs := (@decide_eq_true _ (Classical.propDecidable _) h).symm
theorem tb_d {fs : List Fd} {r : Int} {xs : List Cl} {q : Prop} [hd : Decidable q] (h : q ↔ okT fs r xs) : decide q = tbB fs r xs := by
  by_cases hq : q
  · rw [decide_eq_true hq]; exact tb_t (h.1 hq)
  · rw [decide_eq_false hq]; exact tb_f (fun h' => hq (h.2 h'))
theorem tb_w {a : Nat} {R : Nat} (h : a ≤ 12) (hR : R ≤ 100) : a * R ≤ 1200 := Nat.le_trans (Nat.mul_le_mul h hR) (by decide)
set_option maxRecDepth 4000 in
theorem c_sValidTable (fs : List Fd) (r : Int) (xs : List Cl) (hf : fs.length ≤ 1048576) (hfb : ∀ b ∈ fs, b.f.length ≤ 1048576) (hx : xs.length + szL clW xs ≤ 1048576) : Meets Tryz.prog 106 [rowFd 101 fs, .agg (tbC 149 ⟨r, xs⟩)] (fun v => v = .v (.bool (tbB fs r xs))) := by
  refine Meets.intro mixed (hint []) Tryz.func106 rfl (by decide) res_106 rty_106 (by kernel_rfl) ?_; 
  have hxb : ∀ c ∈ xs, c.f.length ≤ 1048576 := fun c hc => by have := mem_clW hc; omega
  simp -dsimp -implicitDefEqProofs only [go_sem, Nat.reduceBEq, Nat.reduceAdd, Nat.reduceLeDiff, Nat.reduceSub, Int.reduceEq, rowFd, tbC]
  refine CallE.of (c_sValidFields fs hf hfb) (by rintro r rfl; (repeat' first | exact trivial | exact pure_rowB _ | exact pure_rowO _ | exact pure_rowI _ | exact pure_rowBB _ | exact pure_rowPk _ _ | exact pure_rowSn _ _ | exact pure_rowFd _ _ | exact pure_rowBBB _ | exact pure_rowCl _ _ | exact pure_rowTb _ _ _ | refine And.intro ?_ ?_)) (by simp -dsimp -implicitDefEqProofs only [go_sem, Nat.reduceBEq, Nat.reduceAdd, Nat.reduceLeDiff, Nat.reduceSub, Int.reduceEq, rowFd]) ?_
  rintro r rfl
  simp -dsimp -implicitDefEqProofs only [go_sem, Nat.reduceBEq, Nat.reduceAdd, Nat.reduceLeDiff, Nat.reduceSub, Int.reduceEq, rowFd]
  by_cases hF : okF fs
  case neg =>
    simp -dsimp -implicitDefEqProofs only [go_sem, Nat.reduceBEq, Nat.reduceAdd, Nat.reduceLeDiff, Nat.reduceSub, Int.reduceEq, decide_eq_false hF, Bool.not_false]
    exact tb_f (fun h => hF h.1)
  have hn := hF.1
  simp -dsimp -implicitDefEqProofs only [go_sem, Nat.reduceBEq, Nat.reduceAdd, Nat.reduceLeDiff, Nat.reduceSub, Int.reduceEq, decide_eq_true hF, Bool.not_true]
  repeat (first | with_reducible refine ask.of (by omega) ?_ | simp -dsimp -implicitDefEqProofs only [go_sem, Nat.reduceBEq, Nat.reduceAdd, Nat.reduceLeDiff, Nat.reduceSub, Int.reduceEq, Bool.not_true])
  refine ifB'.of (fun h1 => ?_) (fun h1 => ?_)
  · simp -dsimp -implicitDefEqProofs only [go_sem, Nat.reduceBEq, Nat.reduceAdd, Nat.reduceLeDiff, Nat.reduceSub, Int.reduceEq]
    exact tb_f (fun h => by have := h.2.1.1; omega)
  simp -dsimp -implicitDefEqProofs only [go_sem, Nat.reduceBEq, Nat.reduceAdd, Nat.reduceLeDiff, Nat.reduceSub, Int.reduceEq]
  repeat (first | with_reducible refine ask.of (by omega) ?_ | simp -dsimp -implicitDefEqProofs only [go_sem, Nat.reduceBEq, Nat.reduceAdd, Nat.reduceLeDiff, Nat.reduceSub, Int.reduceEq, Bool.not_true])
  refine ifB'.of (fun h2 => ?_) (fun h2 => ?_)
  · simp -dsimp -implicitDefEqProofs only [go_sem, Nat.reduceBEq, Nat.reduceAdd, Nat.reduceLeDiff, Nat.reduceSub, Int.reduceEq]
    exact tb_f (fun h => by have := h.2.1.2.1; omega)
  obtain ⟨R, rfl⟩ := Int.eq_ofNat_of_zero_le (show 0 ≤ r by omega)
  have hR : R ≤ 100 := by omega
  have hnR := tb_w (a := fs.length) hn.2 hR
  simp -dsimp -implicitDefEqProofs only [go_sem, Nat.reduceBEq, Nat.reduceAdd, Nat.reduceLeDiff, Nat.reduceSub, Int.reduceEq, wrap_mul (show fs.length * R ≤ 9223372036854775807 by omega)]
  repeat (first | with_reducible refine ask.of (by omega) ?_ | simp -dsimp -implicitDefEqProofs only [go_sem, Nat.reduceBEq, Nat.reduceAdd, Nat.reduceLeDiff, Nat.reduceSub, Int.reduceEq, wrap_mul (show fs.length * R ≤ 9223372036854775807 by omega)])
  refine ifB'.of (fun h3 => ?_) (fun h3 => ?_)
  case refine_2 =>
    simp -dsimp -implicitDefEqProofs only [go_sem, Nat.reduceBEq, Nat.reduceAdd, Nat.reduceLeDiff, Nat.reduceSub, Int.reduceEq]
    refine tb_f (fun h => h3 ?_)
    have := h.2.1.2.2
    rw [this, Int.natCast_mul, Int.mul_comm]
  have hlen : xs.length = fs.length * R := by omega
  simp -dsimp -implicitDefEqProofs only [go_sem, Nat.reduceBEq, Nat.reduceAdd, Nat.reduceLeDiff, Nat.reduceSub, Int.reduceEq]
  refine LoopE.cnt fs.length (fun i s => s.env 0 = .rd .ent 101 3 (ra fdC fs) ∧ s.env 3 = .ptr [3] 0 0 0 ∧ s.env 5 = .v (.int .i64 (szL clW (xs.take (i * R)) : Nat)) ∧ s.env 6 = .v (.int .i64 i) ∧ s.σ [3] = some (.box 105 [.v (.int .i64 R), .rd .ent 149 3 (ra clC xs)]) ∧ ∀ k (h : k < fs.length), k < i → colOk fs[k] (colL xs R k)) ⟨by simp -dsimp -implicitDefEqProofs only [go_sem, Nat.reduceBEq, Nat.reduceAdd, Nat.reduceLeDiff, Nat.reduceSub, Int.reduceEq, initE, rowFd], by simp -dsimp -implicitDefEqProofs only [go_sem, Nat.reduceBEq, Nat.reduceAdd, Nat.reduceLeDiff, Nat.reduceSub, Int.reduceEq], by simp -dsimp -implicitDefEqProofs only [go_sem, Nat.reduceBEq, Nat.reduceAdd, Nat.reduceLeDiff, Nat.reduceSub, Int.reduceEq] <;> simp [szL], by simp -dsimp -implicitDefEqProofs only [go_sem, Nat.reduceBEq, Nat.reduceAdd, Nat.reduceLeDiff, Nat.reduceSub, Int.reduceEq], by simp -dsimp -implicitDefEqProofs only [go_sem, Nat.reduceBEq, Nat.reduceAdd, Nat.reduceLeDiff, Nat.reduceSub, Int.reduceEq], fun k _ h => absurd h (by omega)⟩ ?_
  rintro i ⟨e, σ⟩ hi ⟨h0, h3', h5, h6, hs, hc⟩ K hK
  simp only at h0 h3' h5 h6 hs
  simp -dsimp -implicitDefEqProofs only [go_sem, Nat.reduceBEq, Nat.reduceAdd, Nat.reduceLeDiff, Nat.reduceSub, Int.reduceEq, h0, h3', h5, h6, hs]
  refine ifB'.of (fun hlt => ?_) (fun hlt => ?_)
  · have hlt : i < fs.length := by omega
    have hiR : (i + 1) * R ≤ xs.length := by rw [hlen]; exact Nat.mul_le_mul_right _ (by omega)
    have hsz := colL_sz (xs := xs) (R := R) (i := i)
    have hszl : szL clW (xs.take ((i + 1) * R)) ≤ szL clW xs := szL_take_le clW xs _
    have hcl := colL_length hiR
    have hfd : fdOk fs[i] := hF.2.1 _ (List.getElem_mem _)
    simp -dsimp -implicitDefEqProofs only [go_sem, Nat.reduceBEq, Nat.reduceAdd, Nat.reduceLeDiff, Nat.reduceSub, Int.reduceEq, h0, h3', h5, h6, hs]
    repeat (first | with_reducible refine ask.of (by omega) ?_ | simp -dsimp -implicitDefEqProofs only [go_sem, Nat.reduceBEq, Nat.reduceAdd, Nat.reduceLeDiff, Nat.reduceSub, Int.reduceEq, h0, h3', h5, h6, hs, bleF])
    refine CallE.lend (c_l2column xs R i hR (by omega) hiR) (by simp -dsimp -implicitDefEqProofs only [go_sem, Nat.reduceBEq, Nat.reduceAdd, Nat.reduceLeDiff, Nat.reduceSub, Int.reduceEq, h0, h3', h5, h6, hs]) ?_
    rintro r rfl
    simp -dsimp -implicitDefEqProofs only [go_sem, Nat.reduceBEq, Nat.reduceAdd, Nat.reduceLeDiff, Nat.reduceSub, Int.reduceEq, h0, h3', h5, h6, hs]
    refine LoopE.cnt R (fun j s => s.env 0 = .rd .ent 101 3 (ra fdC fs) ∧ s.env 3 = .ptr [3] 0 0 0 ∧ s.env 5 = .v (.int .i64 (szL clW (xs.take (i * R)) + szL clW ((colL xs R i).take j) : Nat)) ∧ s.env 6 = .v (.int .i64 i) ∧ s.env 7 = .rd .ent 149 3 (ra clC (colL xs R i)) ∧ s.env 8 = .v (.int .i64 j) ∧ s.σ [3] = some (.box 105 [.v (.int .i64 R), .rd .ent 149 3 (ra clC xs)]) ∧ ∀ c ∈ (colL xs R i).take j, clOk fs[i] c) ⟨by simp -dsimp -implicitDefEqProofs only [go_sem, Nat.reduceBEq, Nat.reduceAdd, Nat.reduceLeDiff, Nat.reduceSub, Int.reduceEq, h0, h3', h5, h6, hs], by simp -dsimp -implicitDefEqProofs only [go_sem, Nat.reduceBEq, Nat.reduceAdd, Nat.reduceLeDiff, Nat.reduceSub, Int.reduceEq, h0, h3', h5, h6, hs], by simp -dsimp -implicitDefEqProofs only [go_sem, Nat.reduceBEq, Nat.reduceAdd, Nat.reduceLeDiff, Nat.reduceSub, Int.reduceEq, h0, h3', h5, h6, hs] <;> simp [szL], by simp -dsimp -implicitDefEqProofs only [go_sem, Nat.reduceBEq, Nat.reduceAdd, Nat.reduceLeDiff, Nat.reduceSub, Int.reduceEq, h0, h3', h5, h6, hs], by simp -dsimp -implicitDefEqProofs only [go_sem, Nat.reduceBEq, Nat.reduceAdd, Nat.reduceLeDiff, Nat.reduceSub, Int.reduceEq, h0, h3', h5, h6, hs], by simp -dsimp -implicitDefEqProofs only [go_sem, Nat.reduceBEq, Nat.reduceAdd, Nat.reduceLeDiff, Nat.reduceSub, Int.reduceEq, h0, h3', h5, h6, hs], by simp -dsimp -implicitDefEqProofs only [go_sem, Nat.reduceBEq, Nat.reduceAdd, Nat.reduceLeDiff, Nat.reduceSub, Int.reduceEq, h0, h3', h5, h6, hs], by simp⟩ ?_
    rintro j ⟨e, σ⟩ hj ⟨h0, h3', h5, h6, h7, h8, hs, ha⟩ K' hK'
    simp only at h0 h3' h5 h6 h7 h8 hs
    simp -dsimp -implicitDefEqProofs only [go_sem, Nat.reduceBEq, Nat.reduceAdd, Nat.reduceLeDiff, Nat.reduceSub, Int.reduceEq, h0, h3', h5, h6, h7, h8, hs, hcl]
    refine ifB'.of (fun hjl => ?_) (fun hjl => ?_)
    · have hjl : j < (colL xs R i).length := by omega
      have hcm : (colL xs R i)[j].f.length ≤ 1048576 := hxb _ (colL_mem (List.getElem_mem hjl))
      have hst := szL_take_succ clW hjl
      have hsl := szL_take_le clW (colL xs R i) (j + 1)
      have hcw : clW (colL xs R i)[j] = (colL xs R i)[j].f.length := rfl
      have e1 : IntKind.i64.wrap (((szL clW (xs.take (i * R)) + szL clW ((colL xs R i).take j) : Nat) : Int) + (colL xs R i)[j].f.length) = (szL clW (xs.take (i * R)) + szL clW ((colL xs R i).take (j + 1)) : Nat) := by rw [wrap_i64_of (by omega) (by omega)]; omega
      simp -dsimp -implicitDefEqProofs only [go_sem, Nat.reduceBEq, Nat.reduceAdd, Nat.reduceLeDiff, Nat.reduceSub, Int.reduceEq, h0, h3', h5, h6, h7, h8, hs, Fd_at hlt, Cl_at hjl, fdC, clC]
      repeat (first | with_reducible refine ask.of (by omega) ?_ | simp -dsimp -implicitDefEqProofs only [go_sem, Nat.reduceBEq, Nat.reduceAdd, Nat.reduceLeDiff, Nat.reduceSub, Int.reduceEq, h0, h3', h5, h6, h7, h8, hs, Fd_at hlt, Cl_at hjl, fdC, clC, bleF, hcl])
      refine CallE.of (c_l2cellOK fs[i] (colL xs R i)[j] hfd hcm) (by rintro r rfl; (repeat' first | exact trivial | exact pure_rowB _ | exact pure_rowO _ | exact pure_rowI _ | exact pure_rowBB _ | exact pure_rowPk _ _ | exact pure_rowSn _ _ | exact pure_rowFd _ _ | exact pure_rowBBB _ | exact pure_rowCl _ _ | exact pure_rowTb _ _ _ | refine And.intro ?_ ?_)) (by simp -dsimp -implicitDefEqProofs only [go_sem, Nat.reduceBEq, Nat.reduceAdd, Nat.reduceLeDiff, Nat.reduceSub, Int.reduceEq, h0, h3', h5, h6, h7, h8, hs, fdC, clC]) ?_
      rintro r rfl
      simp -dsimp -implicitDefEqProofs only [go_sem, Nat.reduceBEq, Nat.reduceAdd, Nat.reduceLeDiff, Nat.reduceSub, Int.reduceEq, h0, h3', h5, h6, h7, h8, hs, fdC, clC]
      refine ifB'.of (fun hq => ?_) (fun hq => ?_)
      · simp -dsimp -implicitDefEqProofs only [go_sem, Nat.reduceBEq, Nat.reduceAdd, Nat.reduceLeDiff, Nat.reduceSub, Int.reduceEq, h0, h3', h5, h6, h7, h8, hs, Cl_at hjl, clC]
        repeat (first | with_reducible refine ask.of (by omega) ?_ | simp -dsimp -implicitDefEqProofs only [go_sem, Nat.reduceBEq, Nat.reduceAdd, Nat.reduceLeDiff, Nat.reduceSub, Int.reduceEq, h0, h3', h5, h6, h7, h8, hs, Fd_at hlt, Cl_at hjl, fdC, clC, bleF, hcl, e1])
        refine hK' _ (by omega) ?_
        simp -dsimp -implicitDefEqProofs only [go_sem, Nat.reduceBEq, Nat.reduceAdd, Nat.reduceLeDiff, Nat.reduceSub, Int.reduceEq, h0, h3', h5, h6, h7, h8, hs, wrap_succ (show j < 4611686018427387904 by omega), e1]
        exact all_take_succ hjl ha hq
      · simp -dsimp -implicitDefEqProofs only [go_sem, Nat.reduceBEq, Nat.reduceAdd, Nat.reduceLeDiff, Nat.reduceSub, Int.reduceEq, h0, h3', h5, h6, h7, h8, hs]
        refine tb_f (fun h => hq ((h.2.2.1 i hlt).1 _ ?_))
        rw [Int.toNat_natCast]; exact List.getElem_mem _
    · have : j = R := by omega
      subst this
      have hall : ∀ c ∈ colL xs j i, clOk fs[i] c := by
        rw [List.take_of_length_le (by omega)] at ha; exact ha
      have hsum : szL clW (xs.take (i * j)) + szL clW ((colL xs j i).take j) = szL clW (xs.take ((i + 1) * j)) := by
        rw [show (colL xs j i).take j = colL xs j i from List.take_of_length_le (by omega)]; exact hsz
      simp -dsimp -implicitDefEqProofs only [go_sem, Nat.reduceBEq, Nat.reduceAdd, Nat.reduceLeDiff, Nat.reduceSub, Int.reduceEq, h0, h3', h5, h6, h7, h8, hs, Fd_at hlt, fdC, hsum]
      repeat (first | with_reducible refine ask.of (by omega) ?_ | simp -dsimp -implicitDefEqProofs only [go_sem, Nat.reduceBEq, Nat.reduceAdd, Nat.reduceLeDiff, Nat.reduceSub, Int.reduceEq, h0, h3', h5, h6, h7, h8, hs, Fd_at hlt, fdC, bleF])
      refine ifB'.of (fun hk => ?_) (fun hk => ?_)
      · simp -dsimp -implicitDefEqProofs only [go_sem, Nat.reduceBEq, Nat.reduceAdd, Nat.reduceLeDiff, Nat.reduceSub, Int.reduceEq, h0, h3', h5, h6, h7, h8, hs]
        refine CallE.lend (c_l2texts (colL xs j i) 40 (by omega) (by omega) (fun c h => hxb c (colL_mem h))) (by simp -dsimp -implicitDefEqProofs only [go_sem, Nat.reduceBEq, Nat.reduceAdd, Nat.reduceLeDiff, Nat.reduceSub, Int.reduceEq, h0, h3', h5, h6, h7, h8, hs, show ((40 : Nat) : Int) = 40 from rfl]) ?_
        rintro r ⟨ys, rfl, hys⟩
        simp -dsimp -implicitDefEqProofs only [go_sem, Nat.reduceBEq, Nat.reduceAdd, Nat.reduceLeDiff, Nat.reduceSub, Int.reduceEq, h0, h3', h5, h6, h7, h8, hs]
        refine ifB'.of (fun hy => ?_) (fun hy => ?_)
        · simp -dsimp -implicitDefEqProofs only [go_sem, Nat.reduceBEq, Nat.reduceAdd, Nat.reduceLeDiff, Nat.reduceSub, Int.reduceEq, h0, h3', h5, h6, h7, h8, hs]
          refine tb_f (fun h => ?_)
          have h9 := (h.2.2.1 i hlt).2 hk
          rw [Int.toNat_natCast] at h9
          have := hys.1 (by omega)
          omega
        · simp -dsimp -implicitDefEqProofs only [go_sem, Nat.reduceBEq, Nat.reduceAdd, Nat.reduceLeDiff, Nat.reduceSub, Int.reduceEq, h0, h3', h5, h6, h7, h8, hs]
          refine hK _ hlt ?_
          simp -dsimp -implicitDefEqProofs only [go_sem, Nat.reduceBEq, Nat.reduceAdd, Nat.reduceLeDiff, Nat.reduceSub, Int.reduceEq, h0, h3', h5, h6, h7, h8, hs, wrap_succ (show i < 4611686018427387904 by omega), hsum]
          intro k hkf hki
          by_cases hke : k = i
          · subst hke
            refine ⟨hall, fun _ => ?_⟩
            have : ¬ 40 < (dst (colL xs j k)).length := fun h' => by have := hys.2 h'; omega
            omega
          · exact hc k hkf (by omega)
      · simp -dsimp -implicitDefEqProofs only [go_sem, Nat.reduceBEq, Nat.reduceAdd, Nat.reduceLeDiff, Nat.reduceSub, Int.reduceEq, h0, h3', h5, h6, h7, h8, hs]
        refine hK _ hlt ?_
        simp -dsimp -implicitDefEqProofs only [go_sem, Nat.reduceBEq, Nat.reduceAdd, Nat.reduceLeDiff, Nat.reduceSub, Int.reduceEq, h0, h3', h5, h6, h7, h8, hs, wrap_succ (show i < 4611686018427387904 by omega), hsum]
        intro k hkf hki
        by_cases hke : k = i
        · subst hke
          exact ⟨hall, fun h' => absurd h' hk⟩
        · exact hc k hkf (by omega)
  · have : i = fs.length := by omega
    subst this
    simp -dsimp -implicitDefEqProofs only [go_sem, Nat.reduceBEq, Nat.reduceAdd, Nat.reduceLeDiff, Nat.reduceSub, Int.reduceEq, h0, h3', h5, h6, hs]
    rw [← hlen, List.take_length]
    refine tb_d ⟨fun h => ⟨hF, ⟨by omega, by omega, by rw [hlen, Int.natCast_mul, Int.mul_comm]⟩, fun k hk => by rw [Int.toNat_natCast]; exact hc k hk hk, by omega⟩, fun h => by have := h.2.2.2; omega⟩
set_option maxRecDepth 4000 in
theorem c_iValidTable (fs : List Fd) (r : Int) (xs : List Cl) (hf : fs.length ≤ 1048576) (hfb : ∀ b ∈ fs, b.f.length ≤ 1048576) (hx : xs.length + szL clW xs ≤ 1048576) (hxi : ∀ c ∈ xs, i64r c.i) : Meets Tryz.prog 70 [rowFd 101 fs, .agg (tbC 149 ⟨r, xs⟩)] (fun v => v = .v (.bool (tbB fs r xs))) := by
  refine Meets.intro mixed (hint []) Tryz.func70 rfl (by decide) res_70 rty_70 (by kernel_rfl) ?_; 
  have hxb : ∀ c ∈ xs, c.f.length ≤ 1048576 := fun c hc => by have := mem_clW hc; omega
  simp -dsimp -implicitDefEqProofs only [go_sem, Nat.reduceBEq, Nat.reduceAdd, Nat.reduceLeDiff, Nat.reduceSub, Int.reduceEq, rowFd, tbC]
  refine CallE.of (c_iValidFields fs hf hfb) (by rintro r rfl; (repeat' first | exact trivial | exact pure_rowB _ | exact pure_rowO _ | exact pure_rowI _ | exact pure_rowBB _ | exact pure_rowPk _ _ | exact pure_rowSn _ _ | exact pure_rowFd _ _ | exact pure_rowBBB _ | exact pure_rowCl _ _ | exact pure_rowTb _ _ _ | refine And.intro ?_ ?_)) (by simp -dsimp -implicitDefEqProofs only [go_sem, Nat.reduceBEq, Nat.reduceAdd, Nat.reduceLeDiff, Nat.reduceSub, Int.reduceEq, rowFd]) ?_
  rintro r rfl
  simp -dsimp -implicitDefEqProofs only [go_sem, Nat.reduceBEq, Nat.reduceAdd, Nat.reduceLeDiff, Nat.reduceSub, Int.reduceEq, rowFd]
  by_cases hF : okF fs
  case neg =>
    simp -dsimp -implicitDefEqProofs only [go_sem, Nat.reduceBEq, Nat.reduceAdd, Nat.reduceLeDiff, Nat.reduceSub, Int.reduceEq, decide_eq_false hF, Bool.not_false]
    exact tb_f (fun h => hF h.1)
  have hn := hF.1
  simp -dsimp -implicitDefEqProofs only [go_sem, Nat.reduceBEq, Nat.reduceAdd, Nat.reduceLeDiff, Nat.reduceSub, Int.reduceEq, decide_eq_true hF, Bool.not_true]
  repeat (first | with_reducible refine ask.of (by omega) ?_ | simp -dsimp -implicitDefEqProofs only [go_sem, Nat.reduceBEq, Nat.reduceAdd, Nat.reduceLeDiff, Nat.reduceSub, Int.reduceEq, Bool.not_true])
  refine ifB'.of (fun h1 => ?_) (fun h1 => ?_)
  · simp -dsimp -implicitDefEqProofs only [go_sem, Nat.reduceBEq, Nat.reduceAdd, Nat.reduceLeDiff, Nat.reduceSub, Int.reduceEq]
    exact tb_f (fun h => by have := h.2.1.1; omega)
  simp -dsimp -implicitDefEqProofs only [go_sem, Nat.reduceBEq, Nat.reduceAdd, Nat.reduceLeDiff, Nat.reduceSub, Int.reduceEq]
  repeat (first | with_reducible refine ask.of (by omega) ?_ | simp -dsimp -implicitDefEqProofs only [go_sem, Nat.reduceBEq, Nat.reduceAdd, Nat.reduceLeDiff, Nat.reduceSub, Int.reduceEq, Bool.not_true])
  refine ifB'.of (fun h2 => ?_) (fun h2 => ?_)
  · simp -dsimp -implicitDefEqProofs only [go_sem, Nat.reduceBEq, Nat.reduceAdd, Nat.reduceLeDiff, Nat.reduceSub, Int.reduceEq]
    exact tb_f (fun h => by have := h.2.1.2.1; omega)
  obtain ⟨R, rfl⟩ := Int.eq_ofNat_of_zero_le (show 0 ≤ r by omega)
  have hR : R ≤ 100 := by omega
  have hnR := tb_w (a := fs.length) hn.2 hR
  have hnR' : R * fs.length ≤ 1200 := by rw [Nat.mul_comm]; exact hnR
  simp -dsimp -implicitDefEqProofs only [go_sem, Nat.reduceBEq, Nat.reduceAdd, Nat.reduceLeDiff, Nat.reduceSub, Int.reduceEq, wrap_mul (show R * fs.length ≤ 9223372036854775807 by omega)]
  repeat (first | with_reducible refine ask.of (by omega) ?_ | simp -dsimp -implicitDefEqProofs only [go_sem, Nat.reduceBEq, Nat.reduceAdd, Nat.reduceLeDiff, Nat.reduceSub, Int.reduceEq, wrap_mul (show R * fs.length ≤ 9223372036854775807 by omega)])
  refine ifB'.of (fun h3 => ?_) (fun h3 => ?_)
  case refine_2 =>
    simp -dsimp -implicitDefEqProofs only [go_sem, Nat.reduceBEq, Nat.reduceAdd, Nat.reduceLeDiff, Nat.reduceSub, Int.reduceEq]
    refine tb_f (fun h => h3 ?_)
    have := h.2.1.2.2
    rw [this, Int.natCast_mul]
  have hlen : xs.length = fs.length * R := by rw [Nat.mul_comm]; omega
  simp -dsimp -implicitDefEqProofs only [go_sem, Nat.reduceBEq, Nat.reduceAdd, Nat.reduceLeDiff, Nat.reduceSub, Int.reduceEq]
  refine LoopE.cnt fs.length (fun i s => s.env 35 = .rd .ent 101 3 (ra fdC fs) ∧ s.env 36 = .v (.int .i64 fs.length) ∧ s.env 37 = .v (.int .i64 i) ∧ s.env 3 = .ptr [3] 0 0 0 ∧ s.env 5 = .v (.int .i64 (szL clW (xs.take (i * R)) : Nat)) ∧ s.σ [3] = some (.box 105 [.v (.int .i64 R), .rd .ent 149 3 (ra clC xs)]) ∧ ∀ k (h : k < fs.length), k < i → colOk fs[k] (colL xs R k)) ⟨by simp -dsimp -implicitDefEqProofs only [go_sem, Nat.reduceBEq, Nat.reduceAdd, Nat.reduceLeDiff, Nat.reduceSub, Int.reduceEq, initE, rowFd], by simp -dsimp -implicitDefEqProofs only [go_sem, Nat.reduceBEq, Nat.reduceAdd, Nat.reduceLeDiff, Nat.reduceSub, Int.reduceEq, initE, rowFd], by simp -dsimp -implicitDefEqProofs only [go_sem, Nat.reduceBEq, Nat.reduceAdd, Nat.reduceLeDiff, Nat.reduceSub, Int.reduceEq], by simp -dsimp -implicitDefEqProofs only [go_sem, Nat.reduceBEq, Nat.reduceAdd, Nat.reduceLeDiff, Nat.reduceSub, Int.reduceEq], by simp -dsimp -implicitDefEqProofs only [go_sem, Nat.reduceBEq, Nat.reduceAdd, Nat.reduceLeDiff, Nat.reduceSub, Int.reduceEq] <;> simp [szL], by simp -dsimp -implicitDefEqProofs only [go_sem, Nat.reduceBEq, Nat.reduceAdd, Nat.reduceLeDiff, Nat.reduceSub, Int.reduceEq], fun k _ h => absurd h (by omega)⟩ ?_
  rintro i ⟨e, σ⟩ hi ⟨h35, h36, h37, h3', h5, hs, hc⟩ K hK
  simp only at h35 h36 h37 h3' h5 hs
  simp -dsimp -implicitDefEqProofs only [go_sem, Nat.reduceBEq, Nat.reduceAdd, Nat.reduceLeDiff, Nat.reduceSub, Int.reduceEq, h35, h36, h37, h3', h5, hs]
  refine ifB'.of (fun hlt => ?_) (fun hlt => ?_)
  · have hlt : i < fs.length := by omega
    have hiR : (i + 1) * R ≤ xs.length := by rw [hlen]; exact Nat.mul_le_mul_right _ (by omega)
    have hsz := colL_sz (xs := xs) (R := R) (i := i)
    have hszl : szL clW (xs.take ((i + 1) * R)) ≤ szL clW xs := szL_take_le clW xs _
    have hcl := colL_length hiR
    have hfd : fdOk fs[i] := hF.2.1 _ (List.getElem_mem _)
    simp -dsimp -implicitDefEqProofs only [go_sem, Nat.reduceBEq, Nat.reduceAdd, Nat.reduceLeDiff, Nat.reduceSub, Int.reduceEq, h35, h36, h37, h3', h5, hs, Fd_at hlt, fdC]
    repeat (first | with_reducible refine ask.of (by omega) ?_ | simp -dsimp -implicitDefEqProofs only [go_sem, Nat.reduceBEq, Nat.reduceAdd, Nat.reduceLeDiff, Nat.reduceSub, Int.reduceEq, h35, h36, h37, h3', h5, hs, Fd_at hlt, fdC, bleF])
    refine CallE.lend (c_column xs R i hR (by omega) hiR) (by simp -dsimp -implicitDefEqProofs only [go_sem, Nat.reduceBEq, Nat.reduceAdd, Nat.reduceLeDiff, Nat.reduceSub, Int.reduceEq, h35, h36, h37, h3', h5, hs]) ?_
    rintro r rfl
    simp -dsimp -implicitDefEqProofs only [go_sem, Nat.reduceBEq, Nat.reduceAdd, Nat.reduceLeDiff, Nat.reduceSub, Int.reduceEq, h35, h36, h37, h3', h5, hs]
    refine LoopE.cnt R (fun j s => s.env 35 = .rd .ent 101 3 (ra fdC fs) ∧ s.env 36 = .v (.int .i64 fs.length) ∧ s.env 37 = .v (.int .i64 i) ∧ s.env 3 = .ptr [3] 0 0 0 ∧ s.env 7 = .ptr [7] 0 0 0 ∧ s.env 8 = .ref [42] ∧ s.env 5 = .v (.int .i64 (szL clW (xs.take (i * R)) + szL clW ((colL xs R i).take j) : Nat)) ∧ s.env 45 = .rd .ent 149 3 (ra clC (colL xs R i)) ∧ s.env 46 = .v (.int .i64 R) ∧ s.env 47 = .v (.int .i64 j) ∧ s.σ [3] = some (.box 105 [.v (.int .i64 R), .rd .ent 149 3 (ra clC xs)]) ∧ s.σ [7] = some (.box 101 [.rd .ent 5 1 (bytesA fs[i].f), .v (.int .i64 fs[i].k), .v (.int .i64 fs[i].w)]) ∧
      (∃ l, s.σ [42] = some (.mp .string 3 (mpI l)) ∧ l.map (·.1) = dst ((colL xs R i).take j)) ∧ ∀ c ∈ (colL xs R i).take j, clOk fs[i] c) ⟨by simp -dsimp -implicitDefEqProofs only [go_sem, Nat.reduceBEq, Nat.reduceAdd, Nat.reduceLeDiff, Nat.reduceSub, Int.reduceEq, h35, h36, h37, h3', h5, hs], by simp -dsimp -implicitDefEqProofs only [go_sem, Nat.reduceBEq, Nat.reduceAdd, Nat.reduceLeDiff, Nat.reduceSub, Int.reduceEq, h35, h36, h37, h3', h5, hs], by simp -dsimp -implicitDefEqProofs only [go_sem, Nat.reduceBEq, Nat.reduceAdd, Nat.reduceLeDiff, Nat.reduceSub, Int.reduceEq, h35, h36, h37, h3', h5, hs], by simp -dsimp -implicitDefEqProofs only [go_sem, Nat.reduceBEq, Nat.reduceAdd, Nat.reduceLeDiff, Nat.reduceSub, Int.reduceEq, h35, h36, h37, h3', h5, hs], by simp -dsimp -implicitDefEqProofs only [go_sem, Nat.reduceBEq, Nat.reduceAdd, Nat.reduceLeDiff, Nat.reduceSub, Int.reduceEq, h35, h36, h37, h3', h5, hs], by simp -dsimp -implicitDefEqProofs only [go_sem, Nat.reduceBEq, Nat.reduceAdd, Nat.reduceLeDiff, Nat.reduceSub, Int.reduceEq, h35, h36, h37, h3', h5, hs], by simp -dsimp -implicitDefEqProofs only [go_sem, Nat.reduceBEq, Nat.reduceAdd, Nat.reduceLeDiff, Nat.reduceSub, Int.reduceEq, h35, h36, h37, h3', h5, hs] <;> simp [szL], by simp -dsimp -implicitDefEqProofs only [go_sem, Nat.reduceBEq, Nat.reduceAdd, Nat.reduceLeDiff, Nat.reduceSub, Int.reduceEq, h35, h36, h37, h3', h5, hs], by simp -dsimp -implicitDefEqProofs only [go_sem, Nat.reduceBEq, Nat.reduceAdd, Nat.reduceLeDiff, Nat.reduceSub, Int.reduceEq, h35, h36, h37, h3', h5, hs, hcl], by simp -dsimp -implicitDefEqProofs only [go_sem, Nat.reduceBEq, Nat.reduceAdd, Nat.reduceLeDiff, Nat.reduceSub, Int.reduceEq, h35, h36, h37, h3', h5, hs], by simp -dsimp -implicitDefEqProofs only [go_sem, Nat.reduceBEq, Nat.reduceAdd, Nat.reduceLeDiff, Nat.reduceSub, Int.reduceEq, h35, h36, h37, h3', h5, hs], by simp -dsimp -implicitDefEqProofs only [go_sem, Nat.reduceBEq, Nat.reduceAdd, Nat.reduceLeDiff, Nat.reduceSub, Int.reduceEq, h35, h36, h37, h3', h5, hs], ⟨[], by simp -dsimp -implicitDefEqProofs only [go_sem, Nat.reduceBEq, Nat.reduceAdd, Nat.reduceLeDiff, Nat.reduceSub, Int.reduceEq, h35, h36, h37, h3', h5, hs] <;> rfl, by simp [dst]⟩, by simp⟩ ?_
    rintro j ⟨e, σ⟩ hj ⟨h35, h36, h37, h3', h7, h8, h5, h45, h46, h47, hs, hs7, ⟨l, hs42, hlk⟩, ha⟩ K' hK'
    simp only at h35 h36 h37 h3' h7 h8 h5 h45 h46 h47 hs hs7 hs42
    simp -dsimp -implicitDefEqProofs only [go_sem, Nat.reduceBEq, Nat.reduceAdd, Nat.reduceLeDiff, Nat.reduceSub, Int.reduceEq, h35, h36, h37, h3', h7, h8, h5, h45, h46, h47, hs, hs7, hs42]
    refine ifB'.of (fun hjl => ?_) (fun hjl => ?_)
    · have hjl : j < (colL xs R i).length := by omega
      have hcm : (colL xs R i)[j].f.length ≤ 1048576 := hxb _ (colL_mem (List.getElem_mem hjl))
      have hst := szL_take_succ clW hjl
      have hsl := szL_take_le clW (colL xs R i) (j + 1)
      have hcw : clW (colL xs R i)[j] = (colL xs R i)[j].f.length := rfl
      have e1 : IntKind.i64.wrap (((szL clW (xs.take (i * R)) + szL clW ((colL xs R i).take j) : Nat) : Int) + (colL xs R i)[j].f.length) = (szL clW (xs.take (i * R)) + szL clW ((colL xs R i).take (j + 1)) : Nat) := by rw [wrap_i64_of (by omega) (by omega)]; omega
      simp -dsimp -implicitDefEqProofs only [go_sem, Nat.reduceBEq, Nat.reduceAdd, Nat.reduceLeDiff, Nat.reduceSub, Int.reduceEq, h35, h36, h37, h3', h7, h8, h5, h45, h46, h47, hs, hs7, hs42, Cl_at hjl, clC]
      repeat (first | with_reducible refine ask.of (by omega) ?_ | simp -dsimp -implicitDefEqProofs only [go_sem, Nat.reduceBEq, Nat.reduceAdd, Nat.reduceLeDiff, Nat.reduceSub, Int.reduceEq, h35, h36, h37, h3', h7, h8, h5, h45, h46, h47, hs, hs7, hs42, Cl_at hjl, clC, bleF, hcl])
      refine CallE.of (c_cellOk fs[i] (colL xs R i)[j] hfd hcm (hxi _ (colL_mem (List.getElem_mem hjl)))) (by rintro r rfl; (repeat' first | exact trivial | exact pure_rowB _ | exact pure_rowO _ | exact pure_rowI _ | exact pure_rowBB _ | exact pure_rowPk _ _ | exact pure_rowSn _ _ | exact pure_rowFd _ _ | exact pure_rowBBB _ | exact pure_rowCl _ _ | exact pure_rowTb _ _ _ | refine And.intro ?_ ?_)) (by simp -dsimp -implicitDefEqProofs only [go_sem, Nat.reduceBEq, Nat.reduceAdd, Nat.reduceLeDiff, Nat.reduceSub, Int.reduceEq, h35, h36, h37, h3', h7, h8, h5, h45, h46, h47, hs, hs7, hs42, fdC, clC]) ?_
      rintro r rfl
      simp -dsimp -implicitDefEqProofs only [go_sem, Nat.reduceBEq, Nat.reduceAdd, Nat.reduceLeDiff, Nat.reduceSub, Int.reduceEq, h35, h36, h37, h3', h7, h8, h5, h45, h46, h47, hs, hs7, hs42, fdC, clC]
      refine ifB'.of (fun hq => ?_) (fun hq => ?_)
      · simp -dsimp -implicitDefEqProofs only [go_sem, Nat.reduceBEq, Nat.reduceAdd, Nat.reduceLeDiff, Nat.reduceSub, Int.reduceEq, h35, h36, h37, h3', h7, h8, h5, h45, h46, h47, hs, hs7, hs42, Cl_at hjl, clC]
        repeat (first | with_reducible refine ask.of (by omega) ?_ | simp -dsimp -implicitDefEqProofs only [go_sem, Nat.reduceBEq, Nat.reduceAdd, Nat.reduceLeDiff, Nat.reduceSub, Int.reduceEq, h35, h36, h37, h3', h7, h8, h5, h45, h46, h47, hs, hs7, hs42, Cl_at hjl, clC, bleF, hcl, e1])
        cases hz : (colL xs R i)[j].z
        · simp -dsimp -implicitDefEqProofs only [go_sem, Nat.reduceBEq, Nat.reduceAdd, Nat.reduceLeDiff, Nat.reduceSub, Int.reduceEq, h35, h36, h37, h3', h7, h8, h5, h45, h46, h47, hs, hs7, hs42, hz, Bool.not_false]
          repeat (first | with_reducible refine ask.of (by omega) ?_ | simp -dsimp -implicitDefEqProofs only [go_sem, Nat.reduceBEq, Nat.reduceAdd, Nat.reduceLeDiff, Nat.reduceSub, Int.reduceEq, h35, h36, h37, h3', h7, h8, h5, h45, h46, h47, hs, hs7, hs42, Cl_at hjl, clC, bleF, hcl, e1, mgetI, mputI])
          refine hK' _ (by omega) ?_
          simp -dsimp -implicitDefEqProofs only [go_sem, Nat.reduceBEq, Nat.reduceAdd, Nat.reduceLeDiff, Nat.reduceSub, Int.reduceEq, h35, h36, h37, h3', h7, h8, h5, h45, h46, h47, hs, hs7, hs42, wrap_succ (show j < 4611686018427387904 by omega), e1]
          refine ⟨⟨_, rfl, ?_⟩, all_take_succ hjl ha hq⟩
          rw [dst_succ hjl]
          exact putI_dst hlk hz _
        · have hno : dstep (dst ((colL xs R i).take j)) (colL xs R i)[j] = dst ((colL xs R i).take j) := dstep_no (fun h => by rw [hz] at h; cases h.1)
          simp -dsimp -implicitDefEqProofs only [go_sem, Nat.reduceBEq, Nat.reduceAdd, Nat.reduceLeDiff, Nat.reduceSub, Int.reduceEq, h35, h36, h37, h3', h7, h8, h5, h45, h46, h47, hs, hs7, hs42, hz, Bool.not_true]
          refine hK' _ (by omega) ?_
          simp -dsimp -implicitDefEqProofs only [go_sem, Nat.reduceBEq, Nat.reduceAdd, Nat.reduceLeDiff, Nat.reduceSub, Int.reduceEq, h35, h36, h37, h3', h7, h8, h5, h45, h46, h47, hs, hs7, hs42, wrap_succ (show j < 4611686018427387904 by omega), e1]
          exact ⟨⟨_, rfl, by rw [dst_succ hjl, hno]; exact hlk⟩, all_take_succ hjl ha hq⟩
      · simp -dsimp -implicitDefEqProofs only [go_sem, Nat.reduceBEq, Nat.reduceAdd, Nat.reduceLeDiff, Nat.reduceSub, Int.reduceEq, h35, h36, h37, h3', h7, h8, h5, h45, h46, h47, hs, hs7, hs42]
        refine tb_f (fun h => hq ((h.2.2.1 i hlt).1 _ ?_))
        rw [Int.toNat_natCast]; exact List.getElem_mem _
    · have : j = R := by omega
      subst this
      have htk : (colL xs j i).take j = colL xs j i := List.take_of_length_le (by omega)
      have hall : ∀ c ∈ colL xs j i, clOk fs[i] c := by rw [htk] at ha; exact ha
      have hsum : szL clW (xs.take (i * j)) + szL clW ((colL xs j i).take j) = szL clW (xs.take ((i + 1) * j)) := by rw [htk]; exact hsz
      have hll : l.length = (dst (colL xs j i)).length := by rw [← htk, ← hlk]; simp
      simp -dsimp -implicitDefEqProofs only [go_sem, Nat.reduceBEq, Nat.reduceAdd, Nat.reduceLeDiff, Nat.reduceSub, Int.reduceEq, h35, h36, h37, h3', h7, h8, h5, h45, h46, h47, hs, hs7, hs42, hsum]
      repeat (first | with_reducible refine ask.of (by omega) ?_ | simp -dsimp -implicitDefEqProofs only [go_sem, Nat.reduceBEq, Nat.reduceAdd, Nat.reduceLeDiff, Nat.reduceSub, Int.reduceEq, h35, h36, h37, h3', h7, h8, h5, h45, h46, h47, hs, hs7, hs42, bleF])
      refine ifB'.of (fun hk => ?_) (fun hk => ?_)
      · simp -dsimp -implicitDefEqProofs only [go_sem, Nat.reduceBEq, Nat.reduceAdd, Nat.reduceLeDiff, Nat.reduceSub, Int.reduceEq, h35, h36, h37, h3', h7, h8, h5, h45, h46, h47, hs, hs7, hs42, mpI_length]
        refine ifB'.of (fun hy => ?_) (fun hy => ?_)
        · simp -dsimp -implicitDefEqProofs only [go_sem, Nat.reduceBEq, Nat.reduceAdd, Nat.reduceLeDiff, Nat.reduceSub, Int.reduceEq, h35, h36, h37, h3', h7, h8, h5, h45, h46, h47, hs, hs7, hs42]
          refine tb_f (fun h => ?_)
          have h9 := (h.2.2.1 i hlt).2 hk
          rw [Int.toNat_natCast] at h9
          omega
        · simp -dsimp -implicitDefEqProofs only [go_sem, Nat.reduceBEq, Nat.reduceAdd, Nat.reduceLeDiff, Nat.reduceSub, Int.reduceEq, h35, h36, h37, h3', h7, h8, h5, h45, h46, h47, hs, hs7, hs42]
          refine hK _ hlt ?_
          simp -dsimp -implicitDefEqProofs only [go_sem, Nat.reduceBEq, Nat.reduceAdd, Nat.reduceLeDiff, Nat.reduceSub, Int.reduceEq, h35, h36, h37, h3', h7, h8, h5, h45, h46, h47, hs, hs7, hs42, wrap_succ (show i < 4611686018427387904 by omega), hsum]
          intro k hkf hki
          by_cases hke : k = i
          · subst hke
            exact ⟨hall, fun _ => by omega⟩
          · exact hc k hkf (by omega)
      · simp -dsimp -implicitDefEqProofs only [go_sem, Nat.reduceBEq, Nat.reduceAdd, Nat.reduceLeDiff, Nat.reduceSub, Int.reduceEq, h35, h36, h37, h3', h7, h8, h5, h45, h46, h47, hs, hs7, hs42]
        refine hK _ hlt ?_
        simp -dsimp -implicitDefEqProofs only [go_sem, Nat.reduceBEq, Nat.reduceAdd, Nat.reduceLeDiff, Nat.reduceSub, Int.reduceEq, h35, h36, h37, h3', h7, h8, h5, h45, h46, h47, hs, hs7, hs42, wrap_succ (show i < 4611686018427387904 by omega), hsum]
        intro k hkf hki
        by_cases hke : k = i
        · subst hke
          exact ⟨hall, fun h' => absurd h' hk⟩
        · exact hc k hkf (by omega)
  · have : i = fs.length := by omega
    subst this
    simp -dsimp -implicitDefEqProofs only [go_sem, Nat.reduceBEq, Nat.reduceAdd, Nat.reduceLeDiff, Nat.reduceSub, Int.reduceEq, h35, h36, h37, h3', h5, hs]
    rw [← hlen, List.take_length]
    refine tb_d ⟨fun h => ⟨hF, ⟨by omega, by omega, by rw [hlen, Int.natCast_mul, Int.mul_comm]⟩, fun k hk => by rw [Int.toNat_natCast]; exact hc k hk hk, by omega⟩, fun h => by have := h.2.2.2; omega⟩
end Go.Ev
set_option linter.unusedSimpArgs false
set_option linter.unusedVariables false
namespace Go.Ev
open Go Go.RowKit Go.Proofs
def tbW (x : Tb) : Nat := x.c.length + szL clW x.c
def tb0 : Tb := ⟨0, []⟩
def tOk (x : Tb) (n : Nat) : Prop := x.c.length ≤ n ∧ ∀ c ∈ x.c, c.f.length ≤ n
def rowTb (T C : Nat) (xs : List Tb) : AV := .row T 2 (ra (tbC C) xs)
theorem bl22 : Nat.ble 1 2 = true ∧ Nat.ble 2 2 = true := ⟨rfl, rfl⟩
theorem pure_rowTb (T C : Nat) (xs : List Tb) : (rowTb T C xs).pure := pureEls_ra (enc := tbC C) (fun x => ⟨trivial, pureEls_ra (enc := clC) (fun x => ⟨trivial, trivial, pureEls_bytes _, trivial⟩) x.c, trivial⟩) xs
theorem tbA_at {C : Nat} {xs : List Tb} {i : Nat} (h : i < xs.length) : (ra (tbC C) xs)[i]? = some [.v (.int .i64 xs[i].r), .row C 3 (ra clC xs[i].c)] := ra_at h
theorem tbA_set (C : Nat) (xs : List Tb) (i : Nat) (x : Tb) : (ra (tbC C) xs).set i [.v (.int .i64 x.r), .row C 3 (ra clC x.c)] = ra (tbC C) (xs.set i x) := ra_set (enc := tbC C) xs i x
theorem tbA_zeros (C n : Nat) : List.replicate n [AV.v (.int .i64 0), AV.row C 3 []] = ra (tbC C) (List.replicate n tb0) := by simp [ra, tbC, tb0]
theorem tb_snoc (C : Nat) (xs : List Tb) (x : Tb) : ra (tbC C) xs ++ [[.v (.int .i64 x.r), .row C 3 (ra clC x.c)]] = ra (tbC C) (xs ++ [x]) := by simp [ra, tbC]
theorem tb_takeS {C : Nat} {xs : List Tb} {i : Nat} (h : i < xs.length) : ra (tbC C) (xs.take i) ++ [[.v (.int .i64 xs[i].r), .row C 3 (ra clC xs[i].c)]] = ra (tbC C) (xs.take (i + 1)) := by rw [tb_snoc, List.take_succ_eq_append_getElem h]
theorem cl_snoc (xs : List Cl) (x : Cl) : ra clC xs ++ [[.v (.bool x.z), .v (.int .i64 x.i), .row 5 1 (bytesA x.f)]] = ra clC (xs ++ [x]) := by simp [ra, clC]
theorem cl_takeS {xs : List Cl} {i : Nat} (h : i < xs.length) : ra clC (xs.take i) ++ [[.v (.bool xs[i].z), .v (.int .i64 xs[i].i), .row 5 1 (bytesA xs[i].f)]] = ra clC (xs.take (i + 1)) := by rw [cl_snoc, List.take_succ_eq_append_getElem h]
theorem clW_mem {xs : List Cl} {b : Cl} (h : b ∈ xs) : b.f.length ≤ szL clW xs := mem_clW h
theorem tbW_ok {x : Tb} {n : Nat} (h : tbW x ≤ n) : tOk x n := ⟨by unfold tbW at h; omega, fun c hc => by have := clW_mem hc; unfold tbW at h; omega⟩
theorem mem_tbW {xs : List Tb} {b : Tb} (h : b ∈ xs) : tbW b ≤ szL tbW xs := by
  obtain ⟨i, hi, rfl⟩ := List.mem_iff_getElem.1 h
  have := szL_at_le tbW hi
  omega
theorem c_szTableS (xs : List Tb) (left : Nat) (hl : left ≤ 1048576) (hx : xs.length ≤ 140737488355328) (hb : ∀ b ∈ xs, tOk b 140737488355328) : Meets Tryz.prog 18 [rowTb 88 165 xs, .v (.int .i64 left)] (fun r => r = .v (.int .i64 (szR left (xs.length + szL tbW xs)))) := by
  refine Meets.intro mixed (hint []) Tryz.func18 rfl (by decide) res_18 rty_18 (by kernel_rfl) ?_; 
  have e : IntKind.i64.wrap ((left : Int) - xs.length) = (left : Int) - xs.length := wrap_i64_of (by omega) (by omega)
  simp -dsimp -implicitDefEqProofs only [go_sem, Nat.reduceBEq, Nat.reduceAdd, Nat.reduceLeDiff, Nat.reduceSub, Int.reduceEq, e, rowTb]
  refine ifB'.of (fun h => ?_) (fun h => ?_)
  · simp -dsimp -implicitDefEqProofs only [go_sem, Nat.reduceBEq, Nat.reduceAdd, Nat.reduceLeDiff, Nat.reduceSub, Int.reduceEq]
    rw [szR_no (by omega)]
  simp -dsimp -implicitDefEqProofs only [go_sem, Nat.reduceBEq, Nat.reduceAdd, Nat.reduceLeDiff, Nat.reduceSub, Int.reduceEq, e]
  refine LoopE.cnt xs.length (fun i s => s.env 0 = .rd .ent 88 2 (ra (tbC 165) xs) ∧ s.env 5 = .v (.int .i64 i) ∧ xs.length + szL tbW (xs.take i) ≤ left ∧ s.env 1 = .v (.int .i64 ((left - (xs.length + szL tbW (xs.take i)) : Nat) : Int))) ⟨by simp -dsimp -implicitDefEqProofs only [go_sem, Nat.reduceBEq, Nat.reduceAdd, Nat.reduceLeDiff, Nat.reduceSub, Int.reduceEq, initE, rowTb], by simp -dsimp -implicitDefEqProofs only [go_sem, Nat.reduceBEq, Nat.reduceAdd, Nat.reduceLeDiff, Nat.reduceSub, Int.reduceEq] <;> simp, by simp [szL]; omega, by simp -dsimp -implicitDefEqProofs only [go_sem, Nat.reduceBEq, Nat.reduceAdd, Nat.reduceLeDiff, Nat.reduceSub, Int.reduceEq] <;> (congr 2; simp [szL]; omega)⟩ ?_
  rintro i ⟨e, σ⟩ hi ⟨h0, h5, hle, h1⟩ K hK
  simp only at h0 h5 h1
  simp -dsimp -implicitDefEqProofs only [go_sem, Nat.reduceBEq, Nat.reduceAdd, Nat.reduceLeDiff, Nat.reduceSub, Int.reduceEq, h0, h5, h1]
  refine ifB'.of (fun hlt => ?_) (fun hlt => ?_)
  · have hlt : i < xs.length := by omega
    have hs := szL_take_succ tbW hlt
    have hw := szL_take_le tbW xs (i + 1)
    have hbi := hb _ (List.getElem_mem hlt)
    have hww : tbW xs[i] = xs[i].c.length + szL clW xs[i].c := rfl
    repeat (first | with_reducible refine ask.of (by omega) ?_ | simp -dsimp -implicitDefEqProofs only [go_sem, Nat.reduceBEq, Nat.reduceAdd, Nat.reduceLeDiff, Nat.reduceSub, Int.reduceEq, h0, h5, h1, tbA_at hlt, bl22])
    refine CallE.of (c_szTable xs[i] (left - (xs.length + szL tbW (xs.take i))) (by omega) hbi.1 hbi.2) (by rintro r rfl; (repeat' first | exact trivial | exact pure_rowB _ | exact pure_rowO _ | exact pure_rowI _ | exact pure_rowBB _ | exact pure_rowPk _ _ | exact pure_rowSn _ _ | exact pure_rowFd _ _ | exact pure_rowBBB _ | exact pure_rowCl _ _ | exact pure_rowTb _ _ _ | refine And.intro ?_ ?_)) (by simp -dsimp -implicitDefEqProofs only [go_sem, Nat.reduceBEq, Nat.reduceAdd, Nat.reduceLeDiff, Nat.reduceSub, Int.reduceEq, h0, h5, h1, tbC]) ?_
    rintro r rfl
    simp -dsimp -implicitDefEqProofs only [go_sem, Nat.reduceBEq, Nat.reduceAdd, Nat.reduceLeDiff, Nat.reduceSub, Int.reduceEq, h0, h5, h1, tbC]
    refine ifB'.of (fun hn => ?_) (fun hn => ?_)
    · have : ¬ tbW xs[i] ≤ left - (xs.length + szL tbW (xs.take i)) := fun h => by rw [hww] at h; rw [szR_ok h] at hn; omega
      simp -dsimp -implicitDefEqProofs only [go_sem, Nat.reduceBEq, Nat.reduceAdd, Nat.reduceLeDiff, Nat.reduceSub, Int.reduceEq, h0, h5, h1]
      rw [szR_no (by omega)]
    · have h : xs[i].c.length + szL clW xs[i].c ≤ left - (xs.length + szL tbW (xs.take i)) := Classical.byContradiction fun h => by rw [szR_no h] at hn; omega
      simp -dsimp -implicitDefEqProofs only [go_sem, Nat.reduceBEq, Nat.reduceAdd, Nat.reduceLeDiff, Nat.reduceSub, Int.reduceEq, h0, h5, h1]
      refine hK _ hlt ?_
      simp -dsimp -implicitDefEqProofs only [go_sem, Nat.reduceBEq, Nat.reduceAdd, Nat.reduceLeDiff, Nat.reduceSub, Int.reduceEq, h0, h5, h1, wrap_succ (show i < 4611686018427387904 by omega), szR_ok h, hs, hww]
      exact ⟨by omega, by omega⟩
  · have : i = xs.length := by omega
    subst this
    simp -dsimp -implicitDefEqProofs only [go_sem, Nat.reduceBEq, Nat.reduceAdd, Nat.reduceLeDiff, Nat.reduceSub, Int.reduceEq, h0, h5, h1]
    rw [List.take_length] at hle ⊢
    rw [szR_ok (by omega)]
theorem c_toTableS (xs : List Tb) (hx : xs.length ≤ 1048576) (hb : ∀ b ∈ xs, tOk b 1048576) : Meets Tryz.prog 25 [rowTb 88 165 xs] (fun r => r = rowTb 105 149 xs) := by
  refine Meets.intro mixed (hint []) Tryz.func25 rfl (by decide) res_25 rty_25 (by kernel_rfl) ?_; 
  simp -dsimp -implicitDefEqProofs only [go_sem, Nat.reduceBEq, Nat.reduceAdd, Nat.reduceLeDiff, Nat.reduceSub, Int.reduceEq, rowTb]
  refine ask.of (by omega) ?_
  refine LoopE.cnt xs.length (fun i s => s.env 0 = .rd .ent 88 2 (ra (tbC 165) xs) ∧ s.env 3 = .ref [7] ∧ s.env 4 = .v (.int .i64 i) ∧ s.σ [7] = some (.row 105 2 (ra (tbC 149) (xs.take i ++ List.replicate (xs.length - i) tb0)))) ⟨by simp -dsimp -implicitDefEqProofs only [go_sem, Nat.reduceBEq, Nat.reduceAdd, Nat.reduceLeDiff, Nat.reduceSub, Int.reduceEq, initE, rowTb], by simp -dsimp -implicitDefEqProofs only [go_sem, Nat.reduceBEq, Nat.reduceAdd, Nat.reduceLeDiff, Nat.reduceSub, Int.reduceEq], by simp -dsimp -implicitDefEqProofs only [go_sem, Nat.reduceBEq, Nat.reduceAdd, Nat.reduceLeDiff, Nat.reduceSub, Int.reduceEq] <;> simp, by simp -dsimp -implicitDefEqProofs only [go_sem, Nat.reduceBEq, Nat.reduceAdd, Nat.reduceLeDiff, Nat.reduceSub, Int.reduceEq, tbA_zeros] <;> simp⟩ ?_
  rintro i ⟨e, σ⟩ hi ⟨h0, h3, h4, hs⟩ K hK
  simp only at h0 h3 h4 hs
  simp -dsimp -implicitDefEqProofs only [go_sem, Nat.reduceBEq, Nat.reduceAdd, Nat.reduceLeDiff, Nat.reduceSub, Int.reduceEq, h0, h3, h4, hs]
  refine ifB'.of (fun hlt => ?_) (fun hlt => ?_)
  · have hlt : i < xs.length := by omega
    have hl : (List.take i xs ++ List.replicate (xs.length - i) tb0).length = xs.length := by simp; omega
    have hbi := hb _ (List.getElem_mem hlt)
    repeat (first | with_reducible refine ask.of (by omega) ?_ | simp -dsimp -implicitDefEqProofs only [go_sem, Nat.reduceBEq, Nat.reduceAdd, Nat.reduceLeDiff, Nat.reduceSub, Int.reduceEq, h0, h3, h4, hs, tbA_at hlt, bl22])
    refine CallE.of (c_toTable xs[i] hbi.1 hbi.2) (by rintro r rfl; (repeat' first | exact trivial | exact pure_rowB _ | exact pure_rowO _ | exact pure_rowI _ | exact pure_rowBB _ | exact pure_rowPk _ _ | exact pure_rowSn _ _ | exact pure_rowFd _ _ | exact pure_rowBBB _ | exact pure_rowCl _ _ | exact pure_rowTb _ _ _ | refine And.intro ?_ ?_)) (by simp -dsimp -implicitDefEqProofs only [go_sem, Nat.reduceBEq, Nat.reduceAdd, Nat.reduceLeDiff, Nat.reduceSub, Int.reduceEq, h0, h3, h4, hs, tbC]) ?_
    rintro r rfl
    simp -dsimp -implicitDefEqProofs only [go_sem, Nat.reduceBEq, Nat.reduceAdd, Nat.reduceLeDiff, Nat.reduceSub, Int.reduceEq, h0, h3, h4, hs, tbC]
    simp -dsimp -implicitDefEqProofs only [go_sem, Nat.reduceBEq, Nat.reduceAdd, Nat.reduceLeDiff, Nat.reduceSub, Int.reduceEq, h0, h3, h4, hs, hl]
    repeat (first | with_reducible refine ask.of (by omega) ?_ | simp -dsimp -implicitDefEqProofs only [go_sem, Nat.reduceBEq, Nat.reduceAdd, Nat.reduceLeDiff, Nat.reduceSub, Int.reduceEq, h0, h3, h4, hs, hl, tbA_at (C := 149) (show i < (List.take i xs ++ List.replicate (xs.length - i) tb0).length by omega), bl22])
    refine hK _ hlt ?_
    simp -dsimp -implicitDefEqProofs only [go_sem, Nat.reduceBEq, Nat.reduceAdd, Nat.reduceLeDiff, Nat.reduceSub, Int.reduceEq, h0, h3, h4, hs, wrap_succ (show i < 4611686018427387904 by omega)]
    exact congrArg (fun l => some (OB.row _ 2 l)) ((tbA_set _ _ i xs[i]).trans (congrArg (ra (tbC 149)) (fill_set xs tb0 hlt)))
  · have : i = xs.length := by omega
    subst this
    simp -dsimp -implicitDefEqProofs only [go_sem, Nat.reduceBEq, Nat.reduceAdd, Nat.reduceLeDiff, Nat.reduceSub, Int.reduceEq, h0, h3, h4, hs, rowTb]
    simp
theorem c_eqTableS (xs : List Tb) (hx : xs.length ≤ 1048576) (hb : ∀ b ∈ xs, tOk b 1048576) : Meets Tryz.prog 32 [rowTb 105 149 xs, rowTb 105 149 xs] (fun r => r = .v (.bool true)) := by
  refine Meets.intro mixed (hint []) Tryz.func32 rfl (by decide) res_32 rty_32 (by kernel_rfl) ?_; 
  simp -dsimp -implicitDefEqProofs only [go_sem, Nat.reduceBEq, Nat.reduceAdd, Nat.reduceLeDiff, Nat.reduceSub, Int.reduceEq, decide_true, Bool.not_true, rowTb]
  refine LoopE.cnt xs.length (fun i s => s.env 0 = .rd .ent 105 2 (ra (tbC 149) xs) ∧ s.env 1 = .rd .ent 105 2 (ra (tbC 149) xs) ∧ s.env 5 = .v (.int .i64 i)) ⟨by simp -dsimp -implicitDefEqProofs only [go_sem, Nat.reduceBEq, Nat.reduceAdd, Nat.reduceLeDiff, Nat.reduceSub, Int.reduceEq, initE, rowTb], by simp -dsimp -implicitDefEqProofs only [go_sem, Nat.reduceBEq, Nat.reduceAdd, Nat.reduceLeDiff, Nat.reduceSub, Int.reduceEq, initE, rowTb], by simp -dsimp -implicitDefEqProofs only [go_sem, Nat.reduceBEq, Nat.reduceAdd, Nat.reduceLeDiff, Nat.reduceSub, Int.reduceEq] <;> simp⟩ ?_
  rintro i ⟨e, σ⟩ hi ⟨h0, h1, h5⟩ K hK
  simp only at h0 h1 h5
  simp -dsimp -implicitDefEqProofs only [go_sem, Nat.reduceBEq, Nat.reduceAdd, Nat.reduceLeDiff, Nat.reduceSub, Int.reduceEq, h0, h1, h5]
  refine ifB'.of (fun hlt => ?_) (fun hlt => ?_)
  · have hlt : i < xs.length := by omega
    have hbi := hb _ (List.getElem_mem hlt)
    repeat (first | with_reducible refine ask.of (by omega) ?_ | simp -dsimp -implicitDefEqProofs only [go_sem, Nat.reduceBEq, Nat.reduceAdd, Nat.reduceLeDiff, Nat.reduceSub, Int.reduceEq, h0, h1, h5, tbA_at hlt, bl22])
    refine CallE.of (c_eqTable xs[i] hbi.1 hbi.2) (by rintro r rfl; (repeat' first | exact trivial | exact pure_rowB _ | exact pure_rowO _ | exact pure_rowI _ | exact pure_rowBB _ | exact pure_rowPk _ _ | exact pure_rowSn _ _ | exact pure_rowFd _ _ | exact pure_rowBBB _ | exact pure_rowCl _ _ | exact pure_rowTb _ _ _ | refine And.intro ?_ ?_)) (by simp -dsimp -implicitDefEqProofs only [go_sem, Nat.reduceBEq, Nat.reduceAdd, Nat.reduceLeDiff, Nat.reduceSub, Int.reduceEq, h0, h1, h5, Bool.not_true, tbC]) ?_
    rintro r rfl
    simp -dsimp -implicitDefEqProofs only [go_sem, Nat.reduceBEq, Nat.reduceAdd, Nat.reduceLeDiff, Nat.reduceSub, Int.reduceEq, h0, h1, h5, Bool.not_true, tbC]
    refine hK _ hlt ?_
    simp -dsimp -implicitDefEqProofs only [go_sem, Nat.reduceBEq, Nat.reduceAdd, Nat.reduceLeDiff, Nat.reduceSub, Int.reduceEq, h0, h1, h5, wrap_succ (show i < 4611686018427387904 by omega)]
  · simp -dsimp -implicitDefEqProofs only [go_sem, Nat.reduceBEq, Nat.reduceAdd, Nat.reduceLeDiff, Nat.reduceSub, Int.reduceEq, h0, h1, h5]
set_option maxRecDepth 8000 in
theorem c_l6table (x : Tb) (hx : tOk x 1048576) : Meets Tryz.prog 94 [.agg (tbC 149 x)] (fun r => r = .agg (tbC 149 x)) := by
  refine Meets.introO mixed (hint []) (fun k => (sel (k == 6) [0,1,2,3,4,5,6,7,8,9,10,11,12,13] [])) Tryz.func94 rfl (by decide) res_94 rty_94 (by kernel_rfl) ?_; 
  simp -dsimp -implicitDefEqProofs only [go_sem, Nat.reduceBEq, Nat.reduceAdd, Nat.reduceLeDiff, Nat.reduceSub, Int.reduceEq, tbC]
  repeat (first | with_reducible refine ask.of (by first | omega | decide) ?_ | simp -dsimp -implicitDefEqProofs only [go_sem, Nat.reduceBEq, Nat.reduceAdd, Nat.reduceLeDiff, Nat.reduceSub, Int.reduceEq, bl22, bl3])
  refine LoopE.cntW x.c.length (fun i s => s.env 1 = .ptr [1] 0 0 0 ∧ s.env 2 = .ptr [2] 0 0 0 ∧ s.env 3 = .ptr [3] 0 0 0 ∧ s.env 4 = .v (.int .i64 i) ∧ s.σ [1] = some (.box 105 [.v (.int .i64 x.r), .rd .ent 149 3 (ra clC x.c)])
    ∧ s.σ [2] = some (.box 105 [.v (.int .i64 0), .v (.slice none 0 0)]) ∧ s.σ [3] = some (.box 105 [.v (.int .i64 x.r), .ref [50]]) ∧ s.σ [50] = some (.row 149 3 (ra clC (x.c.take i))))
    (Wk.box [3] 1 [50] 149 3 105 [.v (.int .i64 x.r), .v (.slice none 0 0)] ?_ rfl rfl (Wk.refl _)) ?_ ?_
  · simp -dsimp -implicitDefEqProofs only [go_sem, Nat.reduceBEq, Nat.reduceAdd, Nat.reduceLeDiff, Nat.reduceSub, Int.reduceEq]
  · refine ⟨by simp -dsimp -implicitDefEqProofs only [go_sem, Nat.reduceBEq, Nat.reduceAdd, Nat.reduceLeDiff, Nat.reduceSub, Int.reduceEq], by simp -dsimp -implicitDefEqProofs only [go_sem, Nat.reduceBEq, Nat.reduceAdd, Nat.reduceLeDiff, Nat.reduceSub, Int.reduceEq], by simp -dsimp -implicitDefEqProofs only [go_sem, Nat.reduceBEq, Nat.reduceAdd, Nat.reduceLeDiff, Nat.reduceSub, Int.reduceEq], by simp -dsimp -implicitDefEqProofs only [go_sem, Nat.reduceBEq, Nat.reduceAdd, Nat.reduceLeDiff, Nat.reduceSub, Int.reduceEq] <;> rfl, by simp -dsimp -implicitDefEqProofs only [go_sem, Nat.reduceBEq, Nat.reduceAdd, Nat.reduceLeDiff, Nat.reduceSub, Int.reduceEq], by simp -dsimp -implicitDefEqProofs only [go_sem, Nat.reduceBEq, Nat.reduceAdd, Nat.reduceLeDiff, Nat.reduceSub, Int.reduceEq], by simp -dsimp -implicitDefEqProofs only [go_sem, Nat.reduceBEq, Nat.reduceAdd, Nat.reduceLeDiff, Nat.reduceSub, Int.reduceEq] <;> rfl, by simp -dsimp -implicitDefEqProofs only [go_sem, Nat.reduceBEq, Nat.reduceAdd, Nat.reduceLeDiff, Nat.reduceSub, Int.reduceEq] <;> rfl⟩
  rintro i ⟨e, σ⟩ hi ⟨h1, h2, h3, h4, hs1, hs2, hs3, hs50⟩ K hK
  simp only at h1 h2 h3 h4 hs1 hs2 hs3 hs50
  simp -dsimp -implicitDefEqProofs only [go_sem, Nat.reduceBEq, Nat.reduceAdd, Nat.reduceLeDiff, Nat.reduceSub, Int.reduceEq, h1, h2, h3, h4, hs1, hs2, hs3, hs50]
  repeat (first | with_reducible refine ask.of (by first | omega | decide) ?_ | simp -dsimp -implicitDefEqProofs only [go_sem, Nat.reduceBEq, Nat.reduceAdd, Nat.reduceLeDiff, Nat.reduceSub, Int.reduceEq, h1, h2, h3, h4, hs1, hs2, hs3, hs50, bl22, bl3])
  refine ifB'.of (fun hlt => ?_) (fun hlt => ?_)
  · have hlt : i < x.c.length := by omega
    have hp := hx.2 _ (List.getElem_mem hlt)
    have hx1 := hx.1
    repeat (first | with_reducible refine ask.of (by first | omega | decide) ?_ | simp -dsimp -implicitDefEqProofs only [go_sem, Nat.reduceBEq, Nat.reduceAdd, Nat.reduceLeDiff, Nat.reduceSub, Int.reduceEq, h1, h2, h3, h4, hs1, hs2, hs3, hs50, bl22, bl3, Cl_at hlt, clC])
    refine CallE.of (c_l1copy x.c[i].f (by omega)) (by rintro r rfl; (repeat' first | exact trivial | exact pure_rowB _ | exact pure_rowO _ | exact pure_rowI _ | exact pure_rowBB _ | exact pure_rowPk _ _ | exact pure_rowSn _ _ | exact pure_rowFd _ _ | exact pure_rowBBB _ | exact pure_rowCl _ _ | exact pure_rowTb _ _ _ | refine And.intro ?_ ?_)) (by simp -dsimp -implicitDefEqProofs only [go_sem, Nat.reduceBEq, Nat.reduceAdd, Nat.reduceLeDiff, Nat.reduceSub, Int.reduceEq, h1, h2, h3, h4, hs1, hs2, hs3, hs50]) ?_
    rintro r rfl
    simp -dsimp -implicitDefEqProofs only [go_sem, Nat.reduceBEq, Nat.reduceAdd, Nat.reduceLeDiff, Nat.reduceSub, Int.reduceEq, h1, h2, h3, h4, hs1, hs2, hs3, hs50]
    repeat (first | with_reducible refine ask.of (by first | omega | decide | (simp; omega)) ?_ | simp -dsimp -implicitDefEqProofs only [go_sem, Nat.reduceBEq, Nat.reduceAdd, Nat.reduceLeDiff, Nat.reduceSub, Int.reduceEq, h1, h2, h3, h4, hs1, hs2, hs3, hs50, bl22, bl3, Cl_at hlt, clC])
    refine hK _ _ hlt (Wk.refl _) ?_
    simp -dsimp -implicitDefEqProofs only [go_sem, Nat.reduceBEq, Nat.reduceAdd, Nat.reduceLeDiff, Nat.reduceSub, Int.reduceEq, h1, h2, h3, h4, hs1, hs2, hs3, hs50, wrap_succ (show i < 4611686018427387904 by omega), cl_takeS hlt]
  · have : i = x.c.length := by omega
    subst this
    rw [List.take_length] at hs50
    simp -dsimp -implicitDefEqProofs only [go_sem, Nat.reduceBEq, Nat.reduceAdd, Nat.reduceLeDiff, Nat.reduceSub, Int.reduceEq, h1, h2, h3, h4, hs1, hs2, hs3, hs50]
    repeat (first | with_reducible refine ask.of (by first | omega | decide) ?_ | simp -dsimp -implicitDefEqProofs only [go_sem, Nat.reduceBEq, Nat.reduceAdd, Nat.reduceLeDiff, Nat.reduceSub, Int.reduceEq, h1, h2, h3, h4, hs1, hs2, hs3, hs50, bl22, bl3])
end Go.Ev
