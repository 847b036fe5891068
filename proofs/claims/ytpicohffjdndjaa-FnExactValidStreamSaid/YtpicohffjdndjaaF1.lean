/- Contracts: fields and cells, and rows of them. -/
import Derived.Test.YtpicohffjdndjaaLc
set_option linter.unusedSimpArgs false
set_option linter.unusedVariables false
namespace Go.Ev
open Go Go.RowKit Go.Proofs
structure Fd where
  f : List UInt8
  k : Int
  w : Int
structure Cl where
  z : Bool
  i : Int
  f : List UInt8
def fdC (x : Fd) : List AV := [.row 5 1 (bytesA x.f), .v (.int .i64 x.k), .v (.int .i64 x.w)]
def clC (x : Cl) : List AV := [.v (.bool x.z), .v (.int .i64 x.i), .row 5 1 (bytesA x.f)]
def fdW (x : Fd) : Nat := x.f.length
def clW (x : Cl) : Nat := x.f.length
def fd0 : Fd := ⟨[], 0, 0⟩
def cl0 : Cl := ⟨false, 0, []⟩
def rowFd (T : Nat) (ps : List Fd) : AV := .row T 3 (ra fdC ps)
def rowCl (T : Nat) (ps : List Cl) : AV := .row T 3 (ra clC ps)
theorem bleF (n : Nat) : Nat.ble n n = true := by simp
theorem pure_rowFd (T : Nat) (ps : List Fd) : (rowFd T ps).pure := pureEls_ra (enc := fdC) (fun x => ⟨pureEls_bytes _, trivial, trivial, trivial⟩) ps
theorem pure_rowCl (T : Nat) (ps : List Cl) : (rowCl T ps).pure := pureEls_ra (enc := clC) (fun x => ⟨trivial, trivial, pureEls_bytes _, trivial⟩) ps
theorem c_szField (p : Fd) (left : Nat) (hb : p.f.length ≤ 140737488355328) (hl : left ≤ 1048576) : Meets Try.prog 86 [.agg (fdC p), .v (.int .i64 left)] (fun r => r = .v (.int .i64 (szR left p.f.length))) := by
  refine Meets.intro mixed (hint []) Try.func86 rfl (by decide) res_86 rty_86 (by kernel_rfl) ?_; 
  simp -dsimp -implicitDefEqProofs only [go_sem, Nat.reduceBEq, Nat.reduceAdd, Nat.reduceLeDiff, Nat.reduceSub, Int.reduceEq, fdC]
  repeat with_reducible refine ask.of (by omega) ?_
  refine CallE.of (c_szByteS p.f left hb hl) (by rintro r rfl; (repeat' first | exact trivial | exact pure_rowB _ | exact pure_rowO _ | exact pure_rowI _ | exact pure_rowBB _ | exact pure_rowPk _ _ | exact pure_rowSn _ _ | exact pure_rowFd _ _ | exact pure_rowCl _ _ | refine And.intro ?_ ?_)) (by simp -dsimp -implicitDefEqProofs only [go_sem, Nat.reduceBEq, Nat.reduceAdd, Nat.reduceLeDiff, Nat.reduceSub, Int.reduceEq]) ?_
  rintro r rfl
  simp -dsimp -implicitDefEqProofs only [go_sem, Nat.reduceBEq, Nat.reduceAdd, Nat.reduceLeDiff, Nat.reduceSub, Int.reduceEq]
  refine ifB'.of (fun h => ?_) (fun h => ?_)
  · simp -dsimp -implicitDefEqProofs only [go_sem, Nat.reduceBEq, Nat.reduceAdd, Nat.reduceLeDiff, Nat.reduceSub, Int.reduceEq]
    by_cases h2 : p.f.length ≤ left
    · rw [szR_ok h2] at h; omega
    · rw [szR_no h2]
  · simp -dsimp -implicitDefEqProofs only [go_sem, Nat.reduceBEq, Nat.reduceAdd, Nat.reduceLeDiff, Nat.reduceSub, Int.reduceEq]
theorem c_toField (p : Fd) (hb : p.f.length ≤ 1048576) : Meets Try.prog 89 [.agg (fdC p)] (fun r => r = .agg (fdC p)) := by
  refine Meets.intro mixed (hint []) Try.func89 rfl (by decide) res_89 rty_89 (by kernel_rfl) ?_; 
  simp -dsimp -implicitDefEqProofs only [go_sem, Nat.reduceBEq, Nat.reduceAdd, Nat.reduceLeDiff, Nat.reduceSub, Int.reduceEq, fdC]
  repeat (first | with_reducible refine ask.of (by omega) ?_ | simp -dsimp -implicitDefEqProofs only [go_sem, Nat.reduceBEq, Nat.reduceAdd, Nat.reduceLeDiff, Nat.reduceSub, Int.reduceEq, bleF])
  refine CallE.of (c_toByteS p.f hb) (by rintro r rfl; (repeat' first | exact trivial | exact pure_rowB _ | exact pure_rowO _ | exact pure_rowI _ | exact pure_rowBB _ | exact pure_rowPk _ _ | exact pure_rowSn _ _ | exact pure_rowFd _ _ | exact pure_rowCl _ _ | refine And.intro ?_ ?_)) (by simp -dsimp -implicitDefEqProofs only [go_sem, Nat.reduceBEq, Nat.reduceAdd, Nat.reduceLeDiff, Nat.reduceSub, Int.reduceEq]) ?_
  rintro r rfl
  simp -dsimp -implicitDefEqProofs only [go_sem, Nat.reduceBEq, Nat.reduceAdd, Nat.reduceLeDiff, Nat.reduceSub, Int.reduceEq]
  repeat (first | with_reducible refine ask.of (by omega) ?_ | simp -dsimp -implicitDefEqProofs only [go_sem, Nat.reduceBEq, Nat.reduceAdd, Nat.reduceLeDiff, Nat.reduceSub, Int.reduceEq, bleF])
theorem c_eqField (p : Fd) (hb : p.f.length ≤ 1048576) : Meets Try.prog 91 [.agg (fdC p), .agg (fdC p)] (fun r => r = .v (.bool true)) := by
  refine Meets.intro mixed (hint []) Try.func91 rfl (by decide) res_91 rty_91 (by kernel_rfl) ?_; 
  simp -dsimp -implicitDefEqProofs only [go_sem, Nat.reduceBEq, Nat.reduceAdd, Nat.reduceLeDiff, Nat.reduceSub, Int.reduceEq, fdC, decide_true]
  repeat (first | with_reducible refine ask.of (by omega) ?_ | simp -dsimp -implicitDefEqProofs only [go_sem, Nat.reduceBEq, Nat.reduceAdd, Nat.reduceLeDiff, Nat.reduceSub, Int.reduceEq, bleF, decide_true])
  refine CallE.of (c_eqByteS p.f (by omega)) (by rintro r rfl; (repeat' first | exact trivial | exact pure_rowB _ | exact pure_rowO _ | exact pure_rowI _ | exact pure_rowBB _ | exact pure_rowPk _ _ | exact pure_rowSn _ _ | exact pure_rowFd _ _ | exact pure_rowCl _ _ | refine And.intro ?_ ?_)) (by simp -dsimp -implicitDefEqProofs only [go_sem, Nat.reduceBEq, Nat.reduceAdd, Nat.reduceLeDiff, Nat.reduceSub, Int.reduceEq, Bool.not_true, decide_true]) ?_
  rintro r rfl
  simp -dsimp -implicitDefEqProofs only [go_sem, Nat.reduceBEq, Nat.reduceAdd, Nat.reduceLeDiff, Nat.reduceSub, Int.reduceEq, Bool.not_true, decide_true]
  repeat (first | with_reducible refine ask.of (by omega) ?_ | trivial)
theorem Fd_at {xs : List Fd} {i : Nat} (h : i < xs.length) : (ra fdC xs)[i]? = some (fdC xs[i]) := ra_at h
theorem mem_fdW {xs : List Fd} {b : Fd} (h : b ∈ xs) : b.f.length ≤ szL fdW xs := by
  obtain ⟨i, hi, rfl⟩ := List.mem_iff_getElem.1 h
  have := szL_at_le fdW hi
  have : fdW xs[i] = xs[i].f.length := rfl
  omega
theorem c_szFieldS (xs : List Fd) (left : Nat) (hl : left ≤ 1048576) (hx : xs.length ≤ 140737488355328) (hb : ∀ b ∈ xs, b.f.length ≤ 140737488355328) : Meets Try.prog 20 [rowFd 120 xs, .v (.int .i64 left)] (fun r => r = .v (.int .i64 (szR left (xs.length + szL fdW xs)))) := by
  refine Meets.intro mixed (hint []) Try.func20 rfl (by decide) res_20 rty_20 (by kernel_rfl) ?_; 
  have e : IntKind.i64.wrap ((left : Int) - xs.length) = (left : Int) - xs.length := wrap_i64_of (by omega) (by omega)
  simp -dsimp -implicitDefEqProofs only [go_sem, Nat.reduceBEq, Nat.reduceAdd, Nat.reduceLeDiff, Nat.reduceSub, Int.reduceEq, e, rowFd]
  refine ifB'.of (fun h => ?_) (fun h => ?_)
  · simp -dsimp -implicitDefEqProofs only [go_sem, Nat.reduceBEq, Nat.reduceAdd, Nat.reduceLeDiff, Nat.reduceSub, Int.reduceEq]
    rw [szR_no (by omega)]
  simp -dsimp -implicitDefEqProofs only [go_sem, Nat.reduceBEq, Nat.reduceAdd, Nat.reduceLeDiff, Nat.reduceSub, Int.reduceEq, e]
  refine LoopE.cnt xs.length (fun i s => s.env 0 = .rd .ent 120 3 (ra fdC xs) ∧ s.env 5 = .v (.int .i64 i) ∧ xs.length + szL fdW (xs.take i) ≤ left ∧ s.env 1 = .v (.int .i64 ((left - (xs.length + szL fdW (xs.take i)) : Nat) : Int))) ⟨by simp -dsimp -implicitDefEqProofs only [go_sem, Nat.reduceBEq, Nat.reduceAdd, Nat.reduceLeDiff, Nat.reduceSub, Int.reduceEq, initE, rowFd], by simp -dsimp -implicitDefEqProofs only [go_sem, Nat.reduceBEq, Nat.reduceAdd, Nat.reduceLeDiff, Nat.reduceSub, Int.reduceEq] <;> simp, by simp [szL]; omega, by simp -dsimp -implicitDefEqProofs only [go_sem, Nat.reduceBEq, Nat.reduceAdd, Nat.reduceLeDiff, Nat.reduceSub, Int.reduceEq] <;> (simp [szL]; omega)⟩ ?_
  rintro i ⟨e, σ⟩ hi ⟨h0, h5, hle, h1⟩ K hK
  simp only at h0 h5 h1
  simp -dsimp -implicitDefEqProofs only [go_sem, Nat.reduceBEq, Nat.reduceAdd, Nat.reduceLeDiff, Nat.reduceSub, Int.reduceEq, h0, h5, h1]
  refine ifB'.of (fun hlt => ?_) (fun hlt => ?_)
  · have hlt : i < xs.length := by omega
    have hs := szL_take_succ fdW hlt
    have hw := szL_take_le fdW xs (i + 1)
    have hww : fdW xs[i] = xs[i].f.length := rfl
    simp -dsimp -implicitDefEqProofs only [go_sem, Nat.reduceBEq, Nat.reduceAdd, Nat.reduceLeDiff, Nat.reduceSub, Int.reduceEq, h0, h5, h1, Fd_at hlt, fdC]
    repeat with_reducible refine ask.of (by omega) ?_
    simp -dsimp -implicitDefEqProofs only [go_sem, Nat.reduceBEq, Nat.reduceAdd, Nat.reduceLeDiff, Nat.reduceSub, Int.reduceEq, h0, h5, h1, Fd_at hlt, fdC, bleF]
    refine CallE.of (c_szField xs[i] (left - (xs.length + szL fdW (xs.take i))) (hb _ (List.getElem_mem _)) (by omega)) (by rintro r rfl; (repeat' first | exact trivial | exact pure_rowB _ | exact pure_rowO _ | exact pure_rowI _ | exact pure_rowBB _ | exact pure_rowPk _ _ | exact pure_rowSn _ _ | exact pure_rowFd _ _ | exact pure_rowCl _ _ | refine And.intro ?_ ?_)) (by simp -dsimp -implicitDefEqProofs only [go_sem, Nat.reduceBEq, Nat.reduceAdd, Nat.reduceLeDiff, Nat.reduceSub, Int.reduceEq, h0, h5, h1, fdC]) ?_
    rintro r rfl
    simp -dsimp -implicitDefEqProofs only [go_sem, Nat.reduceBEq, Nat.reduceAdd, Nat.reduceLeDiff, Nat.reduceSub, Int.reduceEq, h0, h5, h1, fdC]
    refine ifB'.of (fun hn => ?_) (fun hn => ?_)
    · have : ¬ xs[i].f.length ≤ left - (xs.length + szL fdW (xs.take i)) := fun h => by rw [szR_ok h] at hn; omega
      simp -dsimp -implicitDefEqProofs only [go_sem, Nat.reduceBEq, Nat.reduceAdd, Nat.reduceLeDiff, Nat.reduceSub, Int.reduceEq, h0, h5, h1]
      rw [szR_no (by omega)]
    · have h : xs[i].f.length ≤ left - (xs.length + szL fdW (xs.take i)) := Classical.byContradiction fun h => by rw [szR_no h] at hn; omega
      simp -dsimp -implicitDefEqProofs only [go_sem, Nat.reduceBEq, Nat.reduceAdd, Nat.reduceLeDiff, Nat.reduceSub, Int.reduceEq, h0, h5, h1]
      refine hK _ hlt ?_
      simp -dsimp -implicitDefEqProofs only [go_sem, Nat.reduceBEq, Nat.reduceAdd, Nat.reduceLeDiff, Nat.reduceSub, Int.reduceEq, h0, h5, h1, wrap_succ (show i < 4611686018427387904 by omega), szR_ok h, hs]
      exact ⟨by omega, by omega⟩
  · have : i = xs.length := by omega
    subst this
    simp -dsimp -implicitDefEqProofs only [go_sem, Nat.reduceBEq, Nat.reduceAdd, Nat.reduceLeDiff, Nat.reduceSub, Int.reduceEq, h0, h5, h1]
    rw [List.take_length] at hle ⊢
    rw [szR_ok (by omega)]
theorem Fd_zeros (k : Nat) : List.replicate k (fdC fd0) = ra fdC (List.replicate k fd0) := by simp [ra]
theorem Fd_set (xs : List Fd) (i : Nat) (x : Fd) : (ra fdC xs).set i (fdC x) = ra fdC (xs.set i x) := ra_set xs i x
theorem c_toFieldS (xs : List Fd) (hx : xs.length ≤ 1048576) (hb : ∀ b ∈ xs, b.f.length ≤ 1048576) : Meets Try.prog 22 [rowFd 120 xs] (fun r => r = rowFd 96 xs) := by
  refine Meets.intro mixed (hint []) Try.func22 rfl (by decide) res_22 rty_22 (by kernel_rfl) ?_; 
  simp -dsimp -implicitDefEqProofs only [go_sem, Nat.reduceBEq, Nat.reduceAdd, Nat.reduceLeDiff, Nat.reduceSub, Int.reduceEq, rowFd]
  refine ask.of (by omega) ?_
  refine LoopE.cnt xs.length (fun i s => s.env 0 = .rd .ent 120 3 (ra fdC xs) ∧ s.env 3 = .ref [7] ∧ s.env 4 = .v (.int .i64 i) ∧ s.σ [7] = some (.row 96 3 (ra fdC (xs.take i ++ List.replicate (xs.length - i) fd0)))) ⟨by simp -dsimp -implicitDefEqProofs only [go_sem, Nat.reduceBEq, Nat.reduceAdd, Nat.reduceLeDiff, Nat.reduceSub, Int.reduceEq, initE, rowFd], by simp -dsimp -implicitDefEqProofs only [go_sem, Nat.reduceBEq, Nat.reduceAdd, Nat.reduceLeDiff, Nat.reduceSub, Int.reduceEq], by simp -dsimp -implicitDefEqProofs only [go_sem, Nat.reduceBEq, Nat.reduceAdd, Nat.reduceLeDiff, Nat.reduceSub, Int.reduceEq] <;> simp, by simp -dsimp -implicitDefEqProofs only [go_sem, Nat.reduceBEq, Nat.reduceAdd, Nat.reduceLeDiff, Nat.reduceSub, Int.reduceEq] <;> simp [ra, fdC, fd0, bytesA]⟩ ?_
  rintro i ⟨e, σ⟩ hi ⟨h0, h3, h4, hs⟩ K hK
  simp only at h0 h3 h4 hs
  simp -dsimp -implicitDefEqProofs only [go_sem, Nat.reduceBEq, Nat.reduceAdd, Nat.reduceLeDiff, Nat.reduceSub, Int.reduceEq, h0, h3, h4, hs]
  refine ifB'.of (fun hlt => ?_) (fun hlt => ?_)
  · have hlt : i < xs.length := by omega
    have hl : (List.take i xs ++ List.replicate (xs.length - i) fd0).length = xs.length := by simp; omega
    simp -dsimp -implicitDefEqProofs only [go_sem, Nat.reduceBEq, Nat.reduceAdd, Nat.reduceLeDiff, Nat.reduceSub, Int.reduceEq, h0, h3, h4, hs, Fd_at hlt, fdC]
    repeat with_reducible refine ask.of (by omega) ?_
    simp -dsimp -implicitDefEqProofs only [go_sem, Nat.reduceBEq, Nat.reduceAdd, Nat.reduceLeDiff, Nat.reduceSub, Int.reduceEq, h0, h3, h4, hs, Fd_at hlt, fdC, bleF]
    refine CallE.of (c_toField xs[i] (hb _ (List.getElem_mem _))) (by rintro r rfl; (repeat' first | exact trivial | exact pure_rowB _ | exact pure_rowO _ | exact pure_rowI _ | exact pure_rowBB _ | exact pure_rowPk _ _ | exact pure_rowSn _ _ | exact pure_rowFd _ _ | exact pure_rowCl _ _ | refine And.intro ?_ ?_)) (by simp -dsimp -implicitDefEqProofs only [go_sem, Nat.reduceBEq, Nat.reduceAdd, Nat.reduceLeDiff, Nat.reduceSub, Int.reduceEq, h0, h3, h4, hs, fdC]) ?_
    rintro r rfl
    simp -dsimp -implicitDefEqProofs only [go_sem, Nat.reduceBEq, Nat.reduceAdd, Nat.reduceLeDiff, Nat.reduceSub, Int.reduceEq, h0, h3, h4, hs, fdC]
    simp -dsimp -implicitDefEqProofs only [go_sem, Nat.reduceBEq, Nat.reduceAdd, Nat.reduceLeDiff, Nat.reduceSub, Int.reduceEq, h0, h3, h4, hs, hl]
    repeat with_reducible refine ask.of (by omega) ?_
    simp -dsimp -implicitDefEqProofs only [go_sem, Nat.reduceBEq, Nat.reduceAdd, Nat.reduceLeDiff, Nat.reduceSub, Int.reduceEq, h0, h3, h4, hs, Fd_at (show i < (List.take i xs ++ List.replicate (xs.length - i) fd0).length by omega), fdC, bleF]
    refine hK _ hlt ?_
    simp -dsimp -implicitDefEqProofs only [go_sem, Nat.reduceBEq, Nat.reduceAdd, Nat.reduceLeDiff, Nat.reduceSub, Int.reduceEq, h0, h3, h4, hs, wrap_succ (show i < 4611686018427387904 by omega)]
    exact congrArg (fun l => some (OB.row _ 3 l)) ((Fd_set _ i xs[i]).trans (congrArg (ra fdC) (fill_set xs fd0 hlt)))
  · have : i = xs.length := by omega
    subst this
    simp -dsimp -implicitDefEqProofs only [go_sem, Nat.reduceBEq, Nat.reduceAdd, Nat.reduceLeDiff, Nat.reduceSub, Int.reduceEq, h0, h3, h4, hs, rowFd]
    simp
theorem c_eqFieldS (xs : List Fd) (hx : xs.length ≤ 1048576) (hb : ∀ b ∈ xs, b.f.length ≤ 1048576) : Meets Try.prog 24 [rowFd 96 xs, rowFd 96 xs] (fun r => r = .v (.bool true)) := by
  refine Meets.intro mixed (hint []) Try.func24 rfl (by decide) res_24 rty_24 (by kernel_rfl) ?_; 
  simp -dsimp -implicitDefEqProofs only [go_sem, Nat.reduceBEq, Nat.reduceAdd, Nat.reduceLeDiff, Nat.reduceSub, Int.reduceEq, decide_true, Bool.not_true, rowFd]
  refine LoopE.cnt xs.length (fun i s => s.env 0 = .rd .ent 96 3 (ra fdC xs) ∧ s.env 1 = .rd .ent 96 3 (ra fdC xs) ∧ s.env 5 = .v (.int .i64 i)) ⟨by simp -dsimp -implicitDefEqProofs only [go_sem, Nat.reduceBEq, Nat.reduceAdd, Nat.reduceLeDiff, Nat.reduceSub, Int.reduceEq, initE, rowFd], by simp -dsimp -implicitDefEqProofs only [go_sem, Nat.reduceBEq, Nat.reduceAdd, Nat.reduceLeDiff, Nat.reduceSub, Int.reduceEq, initE, rowFd], by simp -dsimp -implicitDefEqProofs only [go_sem, Nat.reduceBEq, Nat.reduceAdd, Nat.reduceLeDiff, Nat.reduceSub, Int.reduceEq] <;> simp⟩ ?_
  rintro i ⟨e, σ⟩ hi ⟨h0, h1, h5⟩ K hK
  simp only at h0 h1 h5
  simp -dsimp -implicitDefEqProofs only [go_sem, Nat.reduceBEq, Nat.reduceAdd, Nat.reduceLeDiff, Nat.reduceSub, Int.reduceEq, h0, h1, h5]
  refine ifB'.of (fun hlt => ?_) (fun hlt => ?_)
  · have hlt : i < xs.length := by omega
    simp -dsimp -implicitDefEqProofs only [go_sem, Nat.reduceBEq, Nat.reduceAdd, Nat.reduceLeDiff, Nat.reduceSub, Int.reduceEq, h0, h1, h5, Fd_at hlt, fdC]
    repeat (first | with_reducible refine ask.of (by omega) ?_ | simp -dsimp -implicitDefEqProofs only [go_sem, Nat.reduceBEq, Nat.reduceAdd, Nat.reduceLeDiff, Nat.reduceSub, Int.reduceEq, h0, h1, h5, Fd_at hlt, fdC, bleF])
    refine CallE.of (c_eqField xs[i] (hb _ (List.getElem_mem _))) (by rintro r rfl; (repeat' first | exact trivial | exact pure_rowB _ | exact pure_rowO _ | exact pure_rowI _ | exact pure_rowBB _ | exact pure_rowPk _ _ | exact pure_rowSn _ _ | exact pure_rowFd _ _ | exact pure_rowCl _ _ | refine And.intro ?_ ?_)) (by simp -dsimp -implicitDefEqProofs only [go_sem, Nat.reduceBEq, Nat.reduceAdd, Nat.reduceLeDiff, Nat.reduceSub, Int.reduceEq, h0, h1, h5, Bool.not_true, fdC]) ?_
    rintro r rfl
    simp -dsimp -implicitDefEqProofs only [go_sem, Nat.reduceBEq, Nat.reduceAdd, Nat.reduceLeDiff, Nat.reduceSub, Int.reduceEq, h0, h1, h5, Bool.not_true, fdC]
    refine hK _ hlt ?_
    simp -dsimp -implicitDefEqProofs only [go_sem, Nat.reduceBEq, Nat.reduceAdd, Nat.reduceLeDiff, Nat.reduceSub, Int.reduceEq, h0, h1, h5, wrap_succ (show i < 4611686018427387904 by omega)]
  · simp -dsimp -implicitDefEqProofs only [go_sem, Nat.reduceBEq, Nat.reduceAdd, Nat.reduceLeDiff, Nat.reduceSub, Int.reduceEq, h0, h1, h5]
theorem c_szCell (p : Cl) (left : Nat) (hb : p.f.length ≤ 140737488355328) (hl : left ≤ 1048576) : Meets Try.prog 163 [.agg (clC p), .v (.int .i64 left)] (fun r => r = .v (.int .i64 (szR left p.f.length))) := by
  refine Meets.intro mixed (hint []) Try.func163 rfl (by decide) res_163 rty_163 (by kernel_rfl) ?_; 
  simp -dsimp -implicitDefEqProofs only [go_sem, Nat.reduceBEq, Nat.reduceAdd, Nat.reduceLeDiff, Nat.reduceSub, Int.reduceEq, clC]
  repeat with_reducible refine ask.of (by omega) ?_
  refine CallE.of (c_szByteS p.f left hb hl) (by rintro r rfl; (repeat' first | exact trivial | exact pure_rowB _ | exact pure_rowO _ | exact pure_rowI _ | exact pure_rowBB _ | exact pure_rowPk _ _ | exact pure_rowSn _ _ | exact pure_rowFd _ _ | exact pure_rowCl _ _ | refine And.intro ?_ ?_)) (by simp -dsimp -implicitDefEqProofs only [go_sem, Nat.reduceBEq, Nat.reduceAdd, Nat.reduceLeDiff, Nat.reduceSub, Int.reduceEq]) ?_
  rintro r rfl
  simp -dsimp -implicitDefEqProofs only [go_sem, Nat.reduceBEq, Nat.reduceAdd, Nat.reduceLeDiff, Nat.reduceSub, Int.reduceEq]
  refine ifB'.of (fun h => ?_) (fun h => ?_)
  · simp -dsimp -implicitDefEqProofs only [go_sem, Nat.reduceBEq, Nat.reduceAdd, Nat.reduceLeDiff, Nat.reduceSub, Int.reduceEq]
    by_cases h2 : p.f.length ≤ left
    · rw [szR_ok h2] at h; omega
    · rw [szR_no h2]
  · simp -dsimp -implicitDefEqProofs only [go_sem, Nat.reduceBEq, Nat.reduceAdd, Nat.reduceLeDiff, Nat.reduceSub, Int.reduceEq]
theorem c_toCell (p : Cl) (hb : p.f.length ≤ 1048576) : Meets Try.prog 164 [.agg (clC p)] (fun r => r = .agg (clC p)) := by
  refine Meets.intro mixed (hint []) Try.func164 rfl (by decide) res_164 rty_164 (by kernel_rfl) ?_; 
  simp -dsimp -implicitDefEqProofs only [go_sem, Nat.reduceBEq, Nat.reduceAdd, Nat.reduceLeDiff, Nat.reduceSub, Int.reduceEq, clC]
  repeat (first | with_reducible refine ask.of (by omega) ?_ | simp -dsimp -implicitDefEqProofs only [go_sem, Nat.reduceBEq, Nat.reduceAdd, Nat.reduceLeDiff, Nat.reduceSub, Int.reduceEq, bleF])
  refine CallE.of (c_toByteS p.f hb) (by rintro r rfl; (repeat' first | exact trivial | exact pure_rowB _ | exact pure_rowO _ | exact pure_rowI _ | exact pure_rowBB _ | exact pure_rowPk _ _ | exact pure_rowSn _ _ | exact pure_rowFd _ _ | exact pure_rowCl _ _ | refine And.intro ?_ ?_)) (by simp -dsimp -implicitDefEqProofs only [go_sem, Nat.reduceBEq, Nat.reduceAdd, Nat.reduceLeDiff, Nat.reduceSub, Int.reduceEq]) ?_
  rintro r rfl
  simp -dsimp -implicitDefEqProofs only [go_sem, Nat.reduceBEq, Nat.reduceAdd, Nat.reduceLeDiff, Nat.reduceSub, Int.reduceEq]
  repeat (first | with_reducible refine ask.of (by omega) ?_ | simp -dsimp -implicitDefEqProofs only [go_sem, Nat.reduceBEq, Nat.reduceAdd, Nat.reduceLeDiff, Nat.reduceSub, Int.reduceEq, bleF])
theorem c_eqCell (p : Cl) (hb : p.f.length ≤ 1048576) : Meets Try.prog 165 [.agg (clC p), .agg (clC p)] (fun r => r = .v (.bool true)) := by
  refine Meets.intro mixed (hint []) Try.func165 rfl (by decide) res_165 rty_165 (by kernel_rfl) ?_; 
  simp -dsimp -implicitDefEqProofs only [go_sem, Nat.reduceBEq, Nat.reduceAdd, Nat.reduceLeDiff, Nat.reduceSub, Int.reduceEq, clC, decide_true]
  repeat (first | with_reducible refine ask.of (by omega) ?_ | simp -dsimp -implicitDefEqProofs only [go_sem, Nat.reduceBEq, Nat.reduceAdd, Nat.reduceLeDiff, Nat.reduceSub, Int.reduceEq, bleF, decide_true])
  refine CallE.of (c_eqByteS p.f (by omega)) (by rintro r rfl; (repeat' first | exact trivial | exact pure_rowB _ | exact pure_rowO _ | exact pure_rowI _ | exact pure_rowBB _ | exact pure_rowPk _ _ | exact pure_rowSn _ _ | exact pure_rowFd _ _ | exact pure_rowCl _ _ | refine And.intro ?_ ?_)) (by simp -dsimp -implicitDefEqProofs only [go_sem, Nat.reduceBEq, Nat.reduceAdd, Nat.reduceLeDiff, Nat.reduceSub, Int.reduceEq, Bool.not_true, decide_true]) ?_
  rintro r rfl
  simp -dsimp -implicitDefEqProofs only [go_sem, Nat.reduceBEq, Nat.reduceAdd, Nat.reduceLeDiff, Nat.reduceSub, Int.reduceEq, Bool.not_true, decide_true]
  repeat (first | with_reducible refine ask.of (by omega) ?_ | trivial)
theorem Cl_at {xs : List Cl} {i : Nat} (h : i < xs.length) : (ra clC xs)[i]? = some (clC xs[i]) := ra_at h
theorem mem_clW {xs : List Cl} {b : Cl} (h : b ∈ xs) : b.f.length ≤ szL clW xs := by
  obtain ⟨i, hi, rfl⟩ := List.mem_iff_getElem.1 h
  have := szL_at_le clW hi
  have : clW xs[i] = xs[i].f.length := rfl
  omega
theorem c_szCellS (xs : List Cl) (left : Nat) (hl : left ≤ 1048576) (hx : xs.length ≤ 140737488355328) (hb : ∀ b ∈ xs, b.f.length ≤ 140737488355328) : Meets Try.prog 146 [rowCl 184 xs, .v (.int .i64 left)] (fun r => r = .v (.int .i64 (szR left (xs.length + szL clW xs)))) := by
  refine Meets.intro mixed (hint []) Try.func146 rfl (by decide) res_146 rty_146 (by kernel_rfl) ?_; 
  have e : IntKind.i64.wrap ((left : Int) - xs.length) = (left : Int) - xs.length := wrap_i64_of (by omega) (by omega)
  simp -dsimp -implicitDefEqProofs only [go_sem, Nat.reduceBEq, Nat.reduceAdd, Nat.reduceLeDiff, Nat.reduceSub, Int.reduceEq, e, rowCl]
  refine ifB'.of (fun h => ?_) (fun h => ?_)
  · simp -dsimp -implicitDefEqProofs only [go_sem, Nat.reduceBEq, Nat.reduceAdd, Nat.reduceLeDiff, Nat.reduceSub, Int.reduceEq]
    rw [szR_no (by omega)]
  simp -dsimp -implicitDefEqProofs only [go_sem, Nat.reduceBEq, Nat.reduceAdd, Nat.reduceLeDiff, Nat.reduceSub, Int.reduceEq, e]
  refine LoopE.cnt xs.length (fun i s => s.env 0 = .rd .ent 184 3 (ra clC xs) ∧ s.env 5 = .v (.int .i64 i) ∧ xs.length + szL clW (xs.take i) ≤ left ∧ s.env 1 = .v (.int .i64 ((left - (xs.length + szL clW (xs.take i)) : Nat) : Int))) ⟨by simp -dsimp -implicitDefEqProofs only [go_sem, Nat.reduceBEq, Nat.reduceAdd, Nat.reduceLeDiff, Nat.reduceSub, Int.reduceEq, initE, rowCl], by simp -dsimp -implicitDefEqProofs only [go_sem, Nat.reduceBEq, Nat.reduceAdd, Nat.reduceLeDiff, Nat.reduceSub, Int.reduceEq] <;> simp, by simp [szL]; omega, by simp -dsimp -implicitDefEqProofs only [go_sem, Nat.reduceBEq, Nat.reduceAdd, Nat.reduceLeDiff, Nat.reduceSub, Int.reduceEq] <;> (simp [szL]; omega)⟩ ?_
  rintro i ⟨e, σ⟩ hi ⟨h0, h5, hle, h1⟩ K hK
  simp only at h0 h5 h1
  simp -dsimp -implicitDefEqProofs only [go_sem, Nat.reduceBEq, Nat.reduceAdd, Nat.reduceLeDiff, Nat.reduceSub, Int.reduceEq, h0, h5, h1]
  refine ifB'.of (fun hlt => ?_) (fun hlt => ?_)
  · have hlt : i < xs.length := by omega
    have hs := szL_take_succ clW hlt
    have hw := szL_take_le clW xs (i + 1)
    have hww : clW xs[i] = xs[i].f.length := rfl
    simp -dsimp -implicitDefEqProofs only [go_sem, Nat.reduceBEq, Nat.reduceAdd, Nat.reduceLeDiff, Nat.reduceSub, Int.reduceEq, h0, h5, h1, Cl_at hlt, clC]
    repeat with_reducible refine ask.of (by omega) ?_
    simp -dsimp -implicitDefEqProofs only [go_sem, Nat.reduceBEq, Nat.reduceAdd, Nat.reduceLeDiff, Nat.reduceSub, Int.reduceEq, h0, h5, h1, Cl_at hlt, clC, bleF]
    refine CallE.of (c_szCell xs[i] (left - (xs.length + szL clW (xs.take i))) (hb _ (List.getElem_mem _)) (by omega)) (by rintro r rfl; (repeat' first | exact trivial | exact pure_rowB _ | exact pure_rowO _ | exact pure_rowI _ | exact pure_rowBB _ | exact pure_rowPk _ _ | exact pure_rowSn _ _ | exact pure_rowFd _ _ | exact pure_rowCl _ _ | refine And.intro ?_ ?_)) (by simp -dsimp -implicitDefEqProofs only [go_sem, Nat.reduceBEq, Nat.reduceAdd, Nat.reduceLeDiff, Nat.reduceSub, Int.reduceEq, h0, h5, h1, clC]) ?_
    rintro r rfl
    simp -dsimp -implicitDefEqProofs only [go_sem, Nat.reduceBEq, Nat.reduceAdd, Nat.reduceLeDiff, Nat.reduceSub, Int.reduceEq, h0, h5, h1, clC]
    refine ifB'.of (fun hn => ?_) (fun hn => ?_)
    · have : ¬ xs[i].f.length ≤ left - (xs.length + szL clW (xs.take i)) := fun h => by rw [szR_ok h] at hn; omega
      simp -dsimp -implicitDefEqProofs only [go_sem, Nat.reduceBEq, Nat.reduceAdd, Nat.reduceLeDiff, Nat.reduceSub, Int.reduceEq, h0, h5, h1]
      rw [szR_no (by omega)]
    · have h : xs[i].f.length ≤ left - (xs.length + szL clW (xs.take i)) := Classical.byContradiction fun h => by rw [szR_no h] at hn; omega
      simp -dsimp -implicitDefEqProofs only [go_sem, Nat.reduceBEq, Nat.reduceAdd, Nat.reduceLeDiff, Nat.reduceSub, Int.reduceEq, h0, h5, h1]
      refine hK _ hlt ?_
      simp -dsimp -implicitDefEqProofs only [go_sem, Nat.reduceBEq, Nat.reduceAdd, Nat.reduceLeDiff, Nat.reduceSub, Int.reduceEq, h0, h5, h1, wrap_succ (show i < 4611686018427387904 by omega), szR_ok h, hs]
      exact ⟨by omega, by omega⟩
  · have : i = xs.length := by omega
    subst this
    simp -dsimp -implicitDefEqProofs only [go_sem, Nat.reduceBEq, Nat.reduceAdd, Nat.reduceLeDiff, Nat.reduceSub, Int.reduceEq, h0, h5, h1]
    rw [List.take_length] at hle ⊢
    rw [szR_ok (by omega)]
theorem Cl_zeros (k : Nat) : List.replicate k (clC cl0) = ra clC (List.replicate k cl0) := by simp [ra]
theorem Cl_set (xs : List Cl) (i : Nat) (x : Cl) : (ra clC xs).set i (clC x) = ra clC (xs.set i x) := ra_set xs i x
theorem c_toCellS (xs : List Cl) (hx : xs.length ≤ 1048576) (hb : ∀ b ∈ xs, b.f.length ≤ 1048576) : Meets Try.prog 150 [rowCl 184 xs] (fun r => r = rowCl 160 xs) := by
  refine Meets.intro mixed (hint []) Try.func150 rfl (by decide) res_150 rty_150 (by kernel_rfl) ?_; 
  simp -dsimp -implicitDefEqProofs only [go_sem, Nat.reduceBEq, Nat.reduceAdd, Nat.reduceLeDiff, Nat.reduceSub, Int.reduceEq, rowCl]
  refine ask.of (by omega) ?_
  refine LoopE.cnt xs.length (fun i s => s.env 0 = .rd .ent 184 3 (ra clC xs) ∧ s.env 3 = .ref [7] ∧ s.env 4 = .v (.int .i64 i) ∧ s.σ [7] = some (.row 160 3 (ra clC (xs.take i ++ List.replicate (xs.length - i) cl0)))) ⟨by simp -dsimp -implicitDefEqProofs only [go_sem, Nat.reduceBEq, Nat.reduceAdd, Nat.reduceLeDiff, Nat.reduceSub, Int.reduceEq, initE, rowCl], by simp -dsimp -implicitDefEqProofs only [go_sem, Nat.reduceBEq, Nat.reduceAdd, Nat.reduceLeDiff, Nat.reduceSub, Int.reduceEq], by simp -dsimp -implicitDefEqProofs only [go_sem, Nat.reduceBEq, Nat.reduceAdd, Nat.reduceLeDiff, Nat.reduceSub, Int.reduceEq] <;> simp, by simp -dsimp -implicitDefEqProofs only [go_sem, Nat.reduceBEq, Nat.reduceAdd, Nat.reduceLeDiff, Nat.reduceSub, Int.reduceEq] <;> simp [ra, clC, cl0, bytesA]⟩ ?_
  rintro i ⟨e, σ⟩ hi ⟨h0, h3, h4, hs⟩ K hK
  simp only at h0 h3 h4 hs
  simp -dsimp -implicitDefEqProofs only [go_sem, Nat.reduceBEq, Nat.reduceAdd, Nat.reduceLeDiff, Nat.reduceSub, Int.reduceEq, h0, h3, h4, hs]
  refine ifB'.of (fun hlt => ?_) (fun hlt => ?_)
  · have hlt : i < xs.length := by omega
    have hl : (List.take i xs ++ List.replicate (xs.length - i) cl0).length = xs.length := by simp; omega
    simp -dsimp -implicitDefEqProofs only [go_sem, Nat.reduceBEq, Nat.reduceAdd, Nat.reduceLeDiff, Nat.reduceSub, Int.reduceEq, h0, h3, h4, hs, Cl_at hlt, clC]
    repeat with_reducible refine ask.of (by omega) ?_
    simp -dsimp -implicitDefEqProofs only [go_sem, Nat.reduceBEq, Nat.reduceAdd, Nat.reduceLeDiff, Nat.reduceSub, Int.reduceEq, h0, h3, h4, hs, Cl_at hlt, clC, bleF]
    refine CallE.of (c_toCell xs[i] (hb _ (List.getElem_mem _))) (by rintro r rfl; (repeat' first | exact trivial | exact pure_rowB _ | exact pure_rowO _ | exact pure_rowI _ | exact pure_rowBB _ | exact pure_rowPk _ _ | exact pure_rowSn _ _ | exact pure_rowFd _ _ | exact pure_rowCl _ _ | refine And.intro ?_ ?_)) (by simp -dsimp -implicitDefEqProofs only [go_sem, Nat.reduceBEq, Nat.reduceAdd, Nat.reduceLeDiff, Nat.reduceSub, Int.reduceEq, h0, h3, h4, hs, clC]) ?_
    rintro r rfl
    simp -dsimp -implicitDefEqProofs only [go_sem, Nat.reduceBEq, Nat.reduceAdd, Nat.reduceLeDiff, Nat.reduceSub, Int.reduceEq, h0, h3, h4, hs, clC]
    simp -dsimp -implicitDefEqProofs only [go_sem, Nat.reduceBEq, Nat.reduceAdd, Nat.reduceLeDiff, Nat.reduceSub, Int.reduceEq, h0, h3, h4, hs, hl]
    repeat with_reducible refine ask.of (by omega) ?_
    simp -dsimp -implicitDefEqProofs only [go_sem, Nat.reduceBEq, Nat.reduceAdd, Nat.reduceLeDiff, Nat.reduceSub, Int.reduceEq, h0, h3, h4, hs, Cl_at (show i < (List.take i xs ++ List.replicate (xs.length - i) cl0).length by omega), clC, bleF]
    refine hK _ hlt ?_
    simp -dsimp -implicitDefEqProofs only [go_sem, Nat.reduceBEq, Nat.reduceAdd, Nat.reduceLeDiff, Nat.reduceSub, Int.reduceEq, h0, h3, h4, hs, wrap_succ (show i < 4611686018427387904 by omega)]
    exact congrArg (fun l => some (OB.row _ 3 l)) ((Cl_set _ i xs[i]).trans (congrArg (ra clC) (fill_set xs cl0 hlt)))
  · have : i = xs.length := by omega
    subst this
    simp -dsimp -implicitDefEqProofs only [go_sem, Nat.reduceBEq, Nat.reduceAdd, Nat.reduceLeDiff, Nat.reduceSub, Int.reduceEq, h0, h3, h4, hs, rowCl]
    simp
theorem c_eqCellS (xs : List Cl) (hx : xs.length ≤ 1048576) (hb : ∀ b ∈ xs, b.f.length ≤ 1048576) : Meets Try.prog 151 [rowCl 160 xs, rowCl 160 xs] (fun r => r = .v (.bool true)) := by
  refine Meets.intro mixed (hint []) Try.func151 rfl (by decide) res_151 rty_151 (by kernel_rfl) ?_; 
  simp -dsimp -implicitDefEqProofs only [go_sem, Nat.reduceBEq, Nat.reduceAdd, Nat.reduceLeDiff, Nat.reduceSub, Int.reduceEq, decide_true, Bool.not_true, rowCl]
  refine LoopE.cnt xs.length (fun i s => s.env 0 = .rd .ent 160 3 (ra clC xs) ∧ s.env 1 = .rd .ent 160 3 (ra clC xs) ∧ s.env 5 = .v (.int .i64 i)) ⟨by simp -dsimp -implicitDefEqProofs only [go_sem, Nat.reduceBEq, Nat.reduceAdd, Nat.reduceLeDiff, Nat.reduceSub, Int.reduceEq, initE, rowCl], by simp -dsimp -implicitDefEqProofs only [go_sem, Nat.reduceBEq, Nat.reduceAdd, Nat.reduceLeDiff, Nat.reduceSub, Int.reduceEq, initE, rowCl], by simp -dsimp -implicitDefEqProofs only [go_sem, Nat.reduceBEq, Nat.reduceAdd, Nat.reduceLeDiff, Nat.reduceSub, Int.reduceEq] <;> simp⟩ ?_
  rintro i ⟨e, σ⟩ hi ⟨h0, h1, h5⟩ K hK
  simp only at h0 h1 h5
  simp -dsimp -implicitDefEqProofs only [go_sem, Nat.reduceBEq, Nat.reduceAdd, Nat.reduceLeDiff, Nat.reduceSub, Int.reduceEq, h0, h1, h5]
  refine ifB'.of (fun hlt => ?_) (fun hlt => ?_)
  · have hlt : i < xs.length := by omega
    simp -dsimp -implicitDefEqProofs only [go_sem, Nat.reduceBEq, Nat.reduceAdd, Nat.reduceLeDiff, Nat.reduceSub, Int.reduceEq, h0, h1, h5, Cl_at hlt, clC]
    repeat (first | with_reducible refine ask.of (by omega) ?_ | simp -dsimp -implicitDefEqProofs only [go_sem, Nat.reduceBEq, Nat.reduceAdd, Nat.reduceLeDiff, Nat.reduceSub, Int.reduceEq, h0, h1, h5, Cl_at hlt, clC, bleF])
    refine CallE.of (c_eqCell xs[i] (hb _ (List.getElem_mem _))) (by rintro r rfl; (repeat' first | exact trivial | exact pure_rowB _ | exact pure_rowO _ | exact pure_rowI _ | exact pure_rowBB _ | exact pure_rowPk _ _ | exact pure_rowSn _ _ | exact pure_rowFd _ _ | exact pure_rowCl _ _ | refine And.intro ?_ ?_)) (by simp -dsimp -implicitDefEqProofs only [go_sem, Nat.reduceBEq, Nat.reduceAdd, Nat.reduceLeDiff, Nat.reduceSub, Int.reduceEq, h0, h1, h5, Bool.not_true, clC]) ?_
    rintro r rfl
    simp -dsimp -implicitDefEqProofs only [go_sem, Nat.reduceBEq, Nat.reduceAdd, Nat.reduceLeDiff, Nat.reduceSub, Int.reduceEq, h0, h1, h5, Bool.not_true, clC]
    refine hK _ hlt ?_
    simp -dsimp -implicitDefEqProofs only [go_sem, Nat.reduceBEq, Nat.reduceAdd, Nat.reduceLeDiff, Nat.reduceSub, Int.reduceEq, h0, h1, h5, wrap_succ (show i < 4611686018427387904 by omega)]
  · simp -dsimp -implicitDefEqProofs only [go_sem, Nat.reduceBEq, Nat.reduceAdd, Nat.reduceLeDiff, Nat.reduceSub, Int.reduceEq, h0, h1, h5]
end Go.Ev
