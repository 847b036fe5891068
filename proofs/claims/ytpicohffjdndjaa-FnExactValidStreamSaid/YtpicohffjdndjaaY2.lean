/- Contracts: streams that are valid. -/
import Derived.Test.YtpicohffjdndjaaY1
set_option linter.unusedSimpArgs false
set_option linter.unusedVariables false
namespace Go.Ev
open Go Go.RowKit Go.Proofs
set_option maxHeartbeats 1000000 in
theorem c_specValidStream (x : Sm) (h1 : x.fs.length ≤ 1048576) (h2 : ∀ b ∈ x.fs, b.f.length ≤ 1048576) (h3 : x.ds.length ≤ 1048576) (h4 : ∀ b ∈ x.ds, b.length + wBB b ≤ 1048576) : Meets Try.prog 62 [.agg (smC 96 x)] (fun r => r = .v (.bool (smB x))) := by
  refine Meets.intro mixed (hint []) Try.func62 rfl (by decide) res_62 rty_62 (by kernel_rfl) ?_; 
  simp -dsimp -implicitDefEqProofs only [go_sem, Nat.reduceBEq, Nat.reduceAdd, Nat.reduceLeDiff, Nat.reduceSub, Int.reduceEq, smC]
  cases ho : x.o
  · repeat' (first | with_reducible refine ifB'.of (fun h => ?_) (fun h => ?_) | with_reducible refine ask.of (by omega) ?_ | ((with_reducible refine sm_f ?_); unfold okS; simp only [ho, if_false, Bool.false_eq_true]; omega) | ((with_reducible refine sm_t ?_); unfold okS; simp only [ho, if_false, Bool.false_eq_true]; omega) | ((with_reducible refine sm_d ?_); unfold okS; simp only [ho, if_false, Bool.false_eq_true]; omega) | simp -dsimp -implicitDefEqProofs only [go_sem, Nat.reduceBEq, Nat.reduceAdd, Nat.reduceLeDiff, Nat.reduceSub, Int.reduceEq, ho, Bool.not_false])
  have fin : (okF x.fs ∧ 0 ≤ x.s ∧ x.s ≤ 1000000000 ∧ x.ds.length = x.fs.length ∧ ∀ i (h : i < x.ds.length), smAt x i h) ↔ okS x := by unfold okS; rw [if_pos ho]
  simp -dsimp -implicitDefEqProofs only [go_sem, Nat.reduceBEq, Nat.reduceAdd, Nat.reduceLeDiff, Nat.reduceSub, Int.reduceEq, ho, Bool.not_true]
  repeat (first | with_reducible refine ask.of (by omega) ?_ | simp -dsimp -implicitDefEqProofs only [go_sem, Nat.reduceBEq, Nat.reduceAdd, Nat.reduceLeDiff, Nat.reduceSub, Int.reduceEq, bleF])
  refine CallE.of (c_sValidFields x.fs h1 h2) (by rintro r rfl; (repeat' first | exact trivial | exact pure_rowB _ | exact pure_rowO _ | exact pure_rowI _ | exact pure_rowBB _ | exact pure_rowPk _ _ | exact pure_rowSn _ _ | exact pure_rowFd _ _ | exact pure_rowBBB _ | exact pure_rowCl _ _ | refine And.intro ?_ ?_)) (by simp -dsimp -implicitDefEqProofs only [go_sem, Nat.reduceBEq, Nat.reduceAdd, Nat.reduceLeDiff, Nat.reduceSub, Int.reduceEq, rowFd]) ?_
  rintro r rfl
  simp -dsimp -implicitDefEqProofs only [go_sem, Nat.reduceBEq, Nat.reduceAdd, Nat.reduceLeDiff, Nat.reduceSub, Int.reduceEq, rowFd]
  by_cases hF : okF x.fs
  case neg =>
    simp -dsimp -implicitDefEqProofs only [go_sem, Nat.reduceBEq, Nat.reduceAdd, Nat.reduceLeDiff, Nat.reduceSub, Int.reduceEq, decide_eq_false hF, Bool.not_false]
    exact sm_f (fun h => hF (fin.2 h).1)
  simp -dsimp -implicitDefEqProofs only [go_sem, Nat.reduceBEq, Nat.reduceAdd, Nat.reduceLeDiff, Nat.reduceSub, Int.reduceEq, decide_eq_true hF, Bool.not_true]
  repeat (first | with_reducible refine ask.of (by omega) ?_ | simp -dsimp -implicitDefEqProofs only [go_sem, Nat.reduceBEq, Nat.reduceAdd, Nat.reduceLeDiff, Nat.reduceSub, Int.reduceEq, bleF])
  refine ifB'.of (fun h => ?_) (fun hs0 => ?_)
  · simp -dsimp -implicitDefEqProofs only [go_sem, Nat.reduceBEq, Nat.reduceAdd, Nat.reduceLeDiff, Nat.reduceSub, Int.reduceEq]
    exact sm_f (fun h' => by have := (fin.2 h').2.1; omega)
  simp -dsimp -implicitDefEqProofs only [go_sem, Nat.reduceBEq, Nat.reduceAdd, Nat.reduceLeDiff, Nat.reduceSub, Int.reduceEq]
  repeat (first | with_reducible refine ask.of (by omega) ?_ | simp -dsimp -implicitDefEqProofs only [go_sem, Nat.reduceBEq, Nat.reduceAdd, Nat.reduceLeDiff, Nat.reduceSub, Int.reduceEq, bleF])
  refine ifB'.of (fun h => ?_) (fun hs1 => ?_)
  · simp -dsimp -implicitDefEqProofs only [go_sem, Nat.reduceBEq, Nat.reduceAdd, Nat.reduceLeDiff, Nat.reduceSub, Int.reduceEq]
    exact sm_f (fun h' => by have := (fin.2 h').2.2.1; omega)
  simp -dsimp -implicitDefEqProofs only [go_sem, Nat.reduceBEq, Nat.reduceAdd, Nat.reduceLeDiff, Nat.reduceSub, Int.reduceEq]
  repeat (first | with_reducible refine ask.of (by omega) ?_ | simp -dsimp -implicitDefEqProofs only [go_sem, Nat.reduceBEq, Nat.reduceAdd, Nat.reduceLeDiff, Nat.reduceSub, Int.reduceEq, bleF])
  refine ifB'.of (fun hl => ?_) (fun hl => ?_)
  case refine_2 =>
    simp -dsimp -implicitDefEqProofs only [go_sem, Nat.reduceBEq, Nat.reduceAdd, Nat.reduceLeDiff, Nat.reduceSub, Int.reduceEq]
    exact sm_f (fun h' => by have := (fin.2 h').2.2.2.1; omega)
  have hl : x.ds.length = x.fs.length := by omega
  simp -dsimp -implicitDefEqProofs only [go_sem, Nat.reduceBEq, Nat.reduceAdd, Nat.reduceLeDiff, Nat.reduceSub, Int.reduceEq]
  repeat (first | with_reducible refine ask.of (by omega) ?_ | simp -dsimp -implicitDefEqProofs only [go_sem, Nat.reduceBEq, Nat.reduceAdd, Nat.reduceLeDiff, Nat.reduceSub, Int.reduceEq, bleF])
  refine LoopE.cnt x.ds.length (fun i s => s.env 1 = .ptr [1] 0 0 0 ∧ s.env 3 = .v (.int .i64 i) ∧ s.σ [1] = some (.box 83 [.v (.bool true), .rd .ent 96 3 (ra fdC x.fs), .v (.int .i64 x.s), .rd .ent 22 1 (ra bbC x.ds)]) ∧ (True) ∧ ∀ j (h : j < x.ds.length), j < i → smAt x j h) ⟨by simp -dsimp -implicitDefEqProofs only [go_sem, Nat.reduceBEq, Nat.reduceAdd, Nat.reduceLeDiff, Nat.reduceSub, Int.reduceEq], by simp -dsimp -implicitDefEqProofs only [go_sem, Nat.reduceBEq, Nat.reduceAdd, Nat.reduceLeDiff, Nat.reduceSub, Int.reduceEq], by simp -dsimp -implicitDefEqProofs only [go_sem, Nat.reduceBEq, Nat.reduceAdd, Nat.reduceLeDiff, Nat.reduceSub, Int.reduceEq, ho], trivial, fun j _ h => absurd h (by omega)⟩ ?_
  rintro i ⟨e, σ⟩ hi ⟨e1, e3, hs, hm, ha⟩ K hK
  simp only at e1 e3 hs
  
  simp -dsimp -implicitDefEqProofs only [go_sem, Nat.reduceBEq, Nat.reduceAdd, Nat.reduceLeDiff, Nat.reduceSub, Int.reduceEq, e1, e3, hs]
  repeat (first | with_reducible refine ask.of (by omega) ?_ | simp -dsimp -implicitDefEqProofs only [go_sem, Nat.reduceBEq, Nat.reduceAdd, Nat.reduceLeDiff, Nat.reduceSub, Int.reduceEq, e1, e3, hs, bleF])
  refine ifB'.of (fun hlt => ?_) (fun hlt => ?_)
  · have hlt : i < x.ds.length := by omega
    have hlf : i < x.fs.length := by omega
    simp -dsimp -implicitDefEqProofs only [go_sem, Nat.reduceBEq, Nat.reduceAdd, Nat.reduceLeDiff, Nat.reduceSub, Int.reduceEq, e1, e3, hs, bbA_at hlt]
    repeat (first | with_reducible refine ask.of (by omega) ?_ | simp -dsimp -implicitDefEqProofs only [go_sem, Nat.reduceBEq, Nat.reduceAdd, Nat.reduceLeDiff, Nat.reduceSub, Int.reduceEq, e1, e3, hs, bleF, bbA_at hlt])
    refine CallE.of (c_sValidDict x.ds[i] (h4 _ (List.getElem_mem _))) (by rintro r rfl; (repeat' first | exact trivial | exact pure_rowB _ | exact pure_rowO _ | exact pure_rowI _ | exact pure_rowBB _ | exact pure_rowPk _ _ | exact pure_rowSn _ _ | exact pure_rowFd _ _ | exact pure_rowBBB _ | exact pure_rowCl _ _ | refine And.intro ?_ ?_)) (by simp -dsimp -implicitDefEqProofs only [go_sem, Nat.reduceBEq, Nat.reduceAdd, Nat.reduceLeDiff, Nat.reduceSub, Int.reduceEq, e1, e3, hs]) ?_
    rintro r rfl
    simp -dsimp -implicitDefEqProofs only [go_sem, Nat.reduceBEq, Nat.reduceAdd, Nat.reduceLeDiff, Nat.reduceSub, Int.reduceEq, e1, e3, hs]
    by_cases hk : okD x.ds[i]
    case neg =>
      simp -dsimp -implicitDefEqProofs only [go_sem, Nat.reduceBEq, Nat.reduceAdd, Nat.reduceLeDiff, Nat.reduceSub, Int.reduceEq, e1, e3, hs, decide_eq_false hk, Bool.not_false]
      exact sm_f (fun h => hk ((fin.2 h).2.2.2.2 i hlt).1)
    simp -dsimp -implicitDefEqProofs only [go_sem, Nat.reduceBEq, Nat.reduceAdd, Nat.reduceLeDiff, Nat.reduceSub, Int.reduceEq, e1, e3, hs, decide_eq_true hk, Bool.not_true]
    repeat (first | with_reducible refine ask.of (by omega) ?_ | simp -dsimp -implicitDefEqProofs only [go_sem, Nat.reduceBEq, Nat.reduceAdd, Nat.reduceLeDiff, Nat.reduceSub, Int.reduceEq, e1, e3, hs, bleF, Fd_at hlf, fdC])
    refine ifB'.of (fun h3 => ?_) (fun h3 => ?_)
    · simp -dsimp -implicitDefEqProofs only [go_sem, Nat.reduceBEq, Nat.reduceAdd, Nat.reduceLeDiff, Nat.reduceSub, Int.reduceEq, e1, e3, hs]
      refine hK _ hlt ?_
      simp -dsimp -implicitDefEqProofs only [go_sem, Nat.reduceBEq, Nat.reduceAdd, Nat.reduceLeDiff, Nat.reduceSub, Int.reduceEq, e1, e3, hs, wrap_succ (show i < 4611686018427387904 by omega), ho]
      try refine ⟨⟨rfl, rfl⟩, ?_⟩
      try refine ⟨trivial, ?_⟩
      intro j hj hji
      by_cases hje : j = i
      · subst hje
        exact ⟨hk, hlf, .inl h3⟩
      · exact ha j hj (by omega)
    · simp -dsimp -implicitDefEqProofs only [go_sem, Nat.reduceBEq, Nat.reduceAdd, Nat.reduceLeDiff, Nat.reduceSub, Int.reduceEq, e1, e3, hs]
      repeat (first | with_reducible refine ask.of (by omega) ?_ | simp -dsimp -implicitDefEqProofs only [go_sem, Nat.reduceBEq, Nat.reduceAdd, Nat.reduceLeDiff, Nat.reduceSub, Int.reduceEq, e1, e3, hs, bleF, bbA_at hlt])
      refine ifB'.of (fun h5 => ?_) (fun h5 => ?_)
      · simp -dsimp -implicitDefEqProofs only [go_sem, Nat.reduceBEq, Nat.reduceAdd, Nat.reduceLeDiff, Nat.reduceSub, Int.reduceEq, e1, e3, hs]
        refine sm_f (fun h => ?_)
        obtain ⟨_, _, h6⟩ := (fin.2 h).2.2.2.2 i hlt
        rcases h6 with h6 | h6
        · exact h3 h6
        · omega
      · simp -dsimp -implicitDefEqProofs only [go_sem, Nat.reduceBEq, Nat.reduceAdd, Nat.reduceLeDiff, Nat.reduceSub, Int.reduceEq, e1, e3, hs]
        refine hK _ hlt ?_
        simp -dsimp -implicitDefEqProofs only [go_sem, Nat.reduceBEq, Nat.reduceAdd, Nat.reduceLeDiff, Nat.reduceSub, Int.reduceEq, e1, e3, hs, wrap_succ (show i < 4611686018427387904 by omega), ho]
        try refine ⟨⟨rfl, rfl⟩, ?_⟩
        try refine ⟨trivial, ?_⟩
        intro j hj hji
        by_cases hje : j = i
        · subst hje
          exact ⟨hk, hlf, .inr (by omega)⟩
        · exact ha j hj (by omega)
  · simp -dsimp -implicitDefEqProofs only [go_sem, Nat.reduceBEq, Nat.reduceAdd, Nat.reduceLeDiff, Nat.reduceSub, Int.reduceEq, e1, e3, hs]
    exact sm_t (fin.1 ⟨hF, by omega, by omega, hl, fun j hj => ha j hj (by omega)⟩)
set_option maxHeartbeats 1000000 in
theorem c_implValidStream (x : Sm) (h1 : x.fs.length ≤ 1048576) (h2 : ∀ b ∈ x.fs, b.f.length ≤ 1048576) (h3 : x.ds.length ≤ 1048576) (h4 : ∀ b ∈ x.ds, b.length + wBB b ≤ 1048576) : Meets Try.prog 64 [.agg (smC 96 x)] (fun r => r = .v (.bool (smB x))) := by
  refine Meets.intro mixed (hint []) Try.func64 rfl (by decide) res_64 rty_64 (by kernel_rfl) ?_; 
  simp -dsimp -implicitDefEqProofs only [go_sem, Nat.reduceBEq, Nat.reduceAdd, Nat.reduceLeDiff, Nat.reduceSub, Int.reduceEq, smC]
  cases ho : x.o
  · repeat' (first | with_reducible refine ifB'.of (fun h => ?_) (fun h => ?_) | with_reducible refine ask.of (by omega) ?_ | ((with_reducible refine sm_f ?_); unfold okS; simp only [ho, if_false, Bool.false_eq_true]; omega) | ((with_reducible refine sm_t ?_); unfold okS; simp only [ho, if_false, Bool.false_eq_true]; omega) | ((with_reducible refine sm_d ?_); unfold okS; simp only [ho, if_false, Bool.false_eq_true]; omega) | simp -dsimp -implicitDefEqProofs only [go_sem, Nat.reduceBEq, Nat.reduceAdd, Nat.reduceLeDiff, Nat.reduceSub, Int.reduceEq, ho, Bool.not_false])
  have fin : (okF x.fs ∧ 0 ≤ x.s ∧ x.s ≤ 1000000000 ∧ x.ds.length = x.fs.length ∧ ∀ i (h : i < x.ds.length), smAt x i h) ↔ okS x := by unfold okS; rw [if_pos ho]
  simp -dsimp -implicitDefEqProofs only [go_sem, Nat.reduceBEq, Nat.reduceAdd, Nat.reduceLeDiff, Nat.reduceSub, Int.reduceEq, ho, Bool.not_true]
  repeat (first | with_reducible refine ask.of (by omega) ?_ | simp -dsimp -implicitDefEqProofs only [go_sem, Nat.reduceBEq, Nat.reduceAdd, Nat.reduceLeDiff, Nat.reduceSub, Int.reduceEq, bleF])
  refine CallE.of (c_iValidFields x.fs h1 h2) (by rintro r rfl; (repeat' first | exact trivial | exact pure_rowB _ | exact pure_rowO _ | exact pure_rowI _ | exact pure_rowBB _ | exact pure_rowPk _ _ | exact pure_rowSn _ _ | exact pure_rowFd _ _ | exact pure_rowBBB _ | exact pure_rowCl _ _ | refine And.intro ?_ ?_)) (by simp -dsimp -implicitDefEqProofs only [go_sem, Nat.reduceBEq, Nat.reduceAdd, Nat.reduceLeDiff, Nat.reduceSub, Int.reduceEq, rowFd]) ?_
  rintro r rfl
  simp -dsimp -implicitDefEqProofs only [go_sem, Nat.reduceBEq, Nat.reduceAdd, Nat.reduceLeDiff, Nat.reduceSub, Int.reduceEq, rowFd]
  by_cases hF : okF x.fs
  case neg =>
    simp -dsimp -implicitDefEqProofs only [go_sem, Nat.reduceBEq, Nat.reduceAdd, Nat.reduceLeDiff, Nat.reduceSub, Int.reduceEq, decide_eq_false hF, Bool.not_false]
    exact sm_f (fun h => hF (fin.2 h).1)
  simp -dsimp -implicitDefEqProofs only [go_sem, Nat.reduceBEq, Nat.reduceAdd, Nat.reduceLeDiff, Nat.reduceSub, Int.reduceEq, decide_eq_true hF, Bool.not_true]
  repeat (first | with_reducible refine ask.of (by omega) ?_ | simp -dsimp -implicitDefEqProofs only [go_sem, Nat.reduceBEq, Nat.reduceAdd, Nat.reduceLeDiff, Nat.reduceSub, Int.reduceEq, bleF])
  refine ifB'.of (fun h => ?_) (fun hs0 => ?_)
  · simp -dsimp -implicitDefEqProofs only [go_sem, Nat.reduceBEq, Nat.reduceAdd, Nat.reduceLeDiff, Nat.reduceSub, Int.reduceEq]
    exact sm_f (fun h' => by have := (fin.2 h').2.1; omega)
  simp -dsimp -implicitDefEqProofs only [go_sem, Nat.reduceBEq, Nat.reduceAdd, Nat.reduceLeDiff, Nat.reduceSub, Int.reduceEq]
  repeat (first | with_reducible refine ask.of (by omega) ?_ | simp -dsimp -implicitDefEqProofs only [go_sem, Nat.reduceBEq, Nat.reduceAdd, Nat.reduceLeDiff, Nat.reduceSub, Int.reduceEq, bleF])
  refine ifB'.of (fun h => ?_) (fun hs1 => ?_)
  · simp -dsimp -implicitDefEqProofs only [go_sem, Nat.reduceBEq, Nat.reduceAdd, Nat.reduceLeDiff, Nat.reduceSub, Int.reduceEq]
    exact sm_f (fun h' => by have := (fin.2 h').2.2.1; omega)
  simp -dsimp -implicitDefEqProofs only [go_sem, Nat.reduceBEq, Nat.reduceAdd, Nat.reduceLeDiff, Nat.reduceSub, Int.reduceEq]
  repeat (first | with_reducible refine ask.of (by omega) ?_ | simp -dsimp -implicitDefEqProofs only [go_sem, Nat.reduceBEq, Nat.reduceAdd, Nat.reduceLeDiff, Nat.reduceSub, Int.reduceEq, bleF])
  refine ifB'.of (fun hl => ?_) (fun hl => ?_)
  case refine_2 =>
    simp -dsimp -implicitDefEqProofs only [go_sem, Nat.reduceBEq, Nat.reduceAdd, Nat.reduceLeDiff, Nat.reduceSub, Int.reduceEq]
    exact sm_f (fun h' => by have := (fin.2 h').2.2.2.1; omega)
  have hl : x.ds.length = x.fs.length := by omega
  simp -dsimp -implicitDefEqProofs only [go_sem, Nat.reduceBEq, Nat.reduceAdd, Nat.reduceLeDiff, Nat.reduceSub, Int.reduceEq]
  repeat (first | with_reducible refine ask.of (by omega) ?_ | simp -dsimp -implicitDefEqProofs only [go_sem, Nat.reduceBEq, Nat.reduceAdd, Nat.reduceLeDiff, Nat.reduceSub, Int.reduceEq, bleF])
  refine LoopE.cnt x.ds.length (fun i s => s.env 1 = .ptr [1] 0 0 0 ∧ s.env 49 = .v (.int .i64 i) ∧ s.σ [1] = some (.box 83 [.v (.bool true), .rd .ent 96 3 (ra fdC x.fs), .v (.int .i64 x.s), .rd .ent 22 1 (ra bbC x.ds)]) ∧ (s.env 47 = .rd .ent 22 1 (ra bbC x.ds) ∧ s.env 48 = .v (.int .i64 x.ds.length)) ∧ ∀ j (h : j < x.ds.length), j < i → smAt x j h) ⟨by simp -dsimp -implicitDefEqProofs only [go_sem, Nat.reduceBEq, Nat.reduceAdd, Nat.reduceLeDiff, Nat.reduceSub, Int.reduceEq], by simp -dsimp -implicitDefEqProofs only [go_sem, Nat.reduceBEq, Nat.reduceAdd, Nat.reduceLeDiff, Nat.reduceSub, Int.reduceEq], by simp -dsimp -implicitDefEqProofs only [go_sem, Nat.reduceBEq, Nat.reduceAdd, Nat.reduceLeDiff, Nat.reduceSub, Int.reduceEq, ho], ⟨by simp -dsimp -implicitDefEqProofs only [go_sem, Nat.reduceBEq, Nat.reduceAdd, Nat.reduceLeDiff, Nat.reduceSub, Int.reduceEq], by simp -dsimp -implicitDefEqProofs only [go_sem, Nat.reduceBEq, Nat.reduceAdd, Nat.reduceLeDiff, Nat.reduceSub, Int.reduceEq]⟩, fun j _ h => absurd h (by omega)⟩ ?_
  rintro i ⟨e, σ⟩ hi ⟨e1, e3, hs, ⟨h47, h48⟩, ha⟩ K hK
  simp only at e1 e3 hs
  simp only at h47 h48
  simp -dsimp -implicitDefEqProofs only [go_sem, Nat.reduceBEq, Nat.reduceAdd, Nat.reduceLeDiff, Nat.reduceSub, Int.reduceEq, e1, e3, hs, h47, h48]
  repeat (first | with_reducible refine ask.of (by omega) ?_ | simp -dsimp -implicitDefEqProofs only [go_sem, Nat.reduceBEq, Nat.reduceAdd, Nat.reduceLeDiff, Nat.reduceSub, Int.reduceEq, e1, e3, hs, h47, h48, bleF])
  refine ifB'.of (fun hlt => ?_) (fun hlt => ?_)
  · have hlt : i < x.ds.length := by omega
    have hlf : i < x.fs.length := by omega
    simp -dsimp -implicitDefEqProofs only [go_sem, Nat.reduceBEq, Nat.reduceAdd, Nat.reduceLeDiff, Nat.reduceSub, Int.reduceEq, e1, e3, hs, h47, h48, bbA_at hlt]
    repeat (first | with_reducible refine ask.of (by omega) ?_ | simp -dsimp -implicitDefEqProofs only [go_sem, Nat.reduceBEq, Nat.reduceAdd, Nat.reduceLeDiff, Nat.reduceSub, Int.reduceEq, e1, e3, hs, h47, h48, bleF, bbA_at hlt])
    refine CallE.of (c_iValidDict x.ds[i] (h4 _ (List.getElem_mem _))) (by rintro r rfl; (repeat' first | exact trivial | exact pure_rowB _ | exact pure_rowO _ | exact pure_rowI _ | exact pure_rowBB _ | exact pure_rowPk _ _ | exact pure_rowSn _ _ | exact pure_rowFd _ _ | exact pure_rowBBB _ | exact pure_rowCl _ _ | refine And.intro ?_ ?_)) (by simp -dsimp -implicitDefEqProofs only [go_sem, Nat.reduceBEq, Nat.reduceAdd, Nat.reduceLeDiff, Nat.reduceSub, Int.reduceEq, e1, e3, hs, h47, h48]) ?_
    rintro r rfl
    simp -dsimp -implicitDefEqProofs only [go_sem, Nat.reduceBEq, Nat.reduceAdd, Nat.reduceLeDiff, Nat.reduceSub, Int.reduceEq, e1, e3, hs, h47, h48]
    by_cases hk : okD x.ds[i]
    case neg =>
      simp -dsimp -implicitDefEqProofs only [go_sem, Nat.reduceBEq, Nat.reduceAdd, Nat.reduceLeDiff, Nat.reduceSub, Int.reduceEq, e1, e3, hs, h47, h48, decide_eq_false hk, Bool.not_false]
      exact sm_f (fun h => hk ((fin.2 h).2.2.2.2 i hlt).1)
    simp -dsimp -implicitDefEqProofs only [go_sem, Nat.reduceBEq, Nat.reduceAdd, Nat.reduceLeDiff, Nat.reduceSub, Int.reduceEq, e1, e3, hs, h47, h48, decide_eq_true hk, Bool.not_true]
    repeat (first | with_reducible refine ask.of (by omega) ?_ | simp -dsimp -implicitDefEqProofs only [go_sem, Nat.reduceBEq, Nat.reduceAdd, Nat.reduceLeDiff, Nat.reduceSub, Int.reduceEq, e1, e3, hs, h47, h48, bleF, Fd_at hlf, fdC])
    refine ifB'.of (fun h3 => ?_) (fun h3 => ?_)
    · simp -dsimp -implicitDefEqProofs only [go_sem, Nat.reduceBEq, Nat.reduceAdd, Nat.reduceLeDiff, Nat.reduceSub, Int.reduceEq, e1, e3, hs, h47, h48]
      refine hK _ hlt ?_
      simp -dsimp -implicitDefEqProofs only [go_sem, Nat.reduceBEq, Nat.reduceAdd, Nat.reduceLeDiff, Nat.reduceSub, Int.reduceEq, e1, e3, hs, h47, h48, wrap_succ (show i < 4611686018427387904 by omega), ho]
      try refine ⟨⟨rfl, rfl⟩, ?_⟩
      try refine ⟨trivial, ?_⟩
      intro j hj hji
      by_cases hje : j = i
      · subst hje
        exact ⟨hk, hlf, .inl h3⟩
      · exact ha j hj (by omega)
    · simp -dsimp -implicitDefEqProofs only [go_sem, Nat.reduceBEq, Nat.reduceAdd, Nat.reduceLeDiff, Nat.reduceSub, Int.reduceEq, e1, e3, hs, h47, h48]
      repeat (first | with_reducible refine ask.of (by omega) ?_ | simp -dsimp -implicitDefEqProofs only [go_sem, Nat.reduceBEq, Nat.reduceAdd, Nat.reduceLeDiff, Nat.reduceSub, Int.reduceEq, e1, e3, hs, h47, h48, bleF, bbA_at hlt])
      refine ifB'.of (fun h5 => ?_) (fun h5 => ?_)
      · simp -dsimp -implicitDefEqProofs only [go_sem, Nat.reduceBEq, Nat.reduceAdd, Nat.reduceLeDiff, Nat.reduceSub, Int.reduceEq, e1, e3, hs, h47, h48]
        refine sm_f (fun h => ?_)
        obtain ⟨_, _, h6⟩ := (fin.2 h).2.2.2.2 i hlt
        rcases h6 with h6 | h6
        · exact h3 h6
        · omega
      · simp -dsimp -implicitDefEqProofs only [go_sem, Nat.reduceBEq, Nat.reduceAdd, Nat.reduceLeDiff, Nat.reduceSub, Int.reduceEq, e1, e3, hs, h47, h48]
        refine hK _ hlt ?_
        simp -dsimp -implicitDefEqProofs only [go_sem, Nat.reduceBEq, Nat.reduceAdd, Nat.reduceLeDiff, Nat.reduceSub, Int.reduceEq, e1, e3, hs, h47, h48, wrap_succ (show i < 4611686018427387904 by omega), ho]
        try refine ⟨⟨rfl, rfl⟩, ?_⟩
        try refine ⟨trivial, ?_⟩
        intro j hj hji
        by_cases hje : j = i
        · subst hje
          exact ⟨hk, hlf, .inr (by omega)⟩
        · exact ha j hj (by omega)
  · simp -dsimp -implicitDefEqProofs only [go_sem, Nat.reduceBEq, Nat.reduceAdd, Nat.reduceLeDiff, Nat.reduceSub, Int.reduceEq, e1, e3, hs, h47, h48]
    exact sm_t (fin.1 ⟨hF, by omega, by omega, hl, fun j hj => ha j hj (by omega)⟩)
end Go.Ev
