/- Contracts: messages are encoded, if they are good. -/
import Derived.Test.YtpicohffjdndjaaM2
set_option linter.unusedSimpArgs false
set_option linter.unusedVariables false
namespace Go.Ev
open Go Go.RowKit Go.Proofs
theorem em_f {x : Ms} (h : ¬ msGood x) : AV.row 5 1 [] = AV.row 5 1 (bytesA (encM x)) := by rw [encM_no h]; rfl
theorem em_ok {x : Ms} (h : ¬ msOk x) : AV.row 5 1 [] = AV.row 5 1 (bytesA (encM x)) := em_f (fun h' => h h'.1)
set_option maxHeartbeats 2000000 in
theorem c_specEncodeMessage (x : Ms) (hx : x.bs.length + wBB x.bs ≤ 1048576) : Meets Try.prog 56 [.agg (msC x)] (fun r => r = rowB (encM x)) := by
  refine Meets.intro mixed (hint []) Try.func56 rfl (by decide) res_56 rty_56 (by kernel_rfl) ?_; 
  simp -dsimp -implicitDefEqProofs only [go_sem, Nat.reduceBEq, Nat.reduceAdd, Nat.reduceLeDiff, Nat.reduceSub, Int.reduceEq, msC]
  repeat' (first | with_reducible refine ifB'.of (fun h => ?_) (fun h => ?_) | with_reducible refine ask.of (by omega) ?_ | ((with_reducible refine em_ok ?_); unfold msOk; omega) | simp -dsimp -implicitDefEqProofs only [go_sem, Nat.reduceBEq, Nat.reduceAdd, Nat.reduceLeDiff, Nat.reduceSub, Int.reduceEq, decide_true, Bool.not_true, Bool.not_false])
  all_goals
    have hok : msOk x := by unfold msOk; omega
    refine LoopE.cnt x.bs.length (fun i s => s.env 1 = .ptr [1] 0 0 0 ∧ s.env 3 = .v (.int .i64 (wBB (x.bs.take i) : Nat)) ∧ s.env 4 = .v (.int .i64 i) ∧ s.σ [1] = some (.box 72 [.v (.int .i64 x.k), .v (.int .i64 x.f), .v (.int .i64 x.n), .rd .ent 37 1 (ra byC x.bs)])) ⟨by simp -dsimp -implicitDefEqProofs only [go_sem, Nat.reduceBEq, Nat.reduceAdd, Nat.reduceLeDiff, Nat.reduceSub, Int.reduceEq], by simp -dsimp -implicitDefEqProofs only [go_sem, Nat.reduceBEq, Nat.reduceAdd, Nat.reduceLeDiff, Nat.reduceSub, Int.reduceEq] <;> rfl, by simp -dsimp -implicitDefEqProofs only [go_sem, Nat.reduceBEq, Nat.reduceAdd, Nat.reduceLeDiff, Nat.reduceSub, Int.reduceEq], by simp -dsimp -implicitDefEqProofs only [go_sem, Nat.reduceBEq, Nat.reduceAdd, Nat.reduceLeDiff, Nat.reduceSub, Int.reduceEq]⟩ ?_
    rintro i ⟨e, σ⟩ hi ⟨h1, h3, h4, hs1⟩ K hK
    simp only at h1 h3 h4 hs1
    simp -dsimp -implicitDefEqProofs only [go_sem, Nat.reduceBEq, Nat.reduceAdd, Nat.reduceLeDiff, Nat.reduceSub, Int.reduceEq, h1, h3, h4, hs1]
    repeat (first | with_reducible refine ask.of (by first | omega | decide) ?_ | simp -dsimp -implicitDefEqProofs only [go_sem, Nat.reduceBEq, Nat.reduceAdd, Nat.reduceLeDiff, Nat.reduceSub, Int.reduceEq, h1, h3, h4, hs1, bleM])
    refine ifB'.of (fun hlt => ?_) (fun hlt => ?_)
    · have hlt : i < x.bs.length := by omega
      have hs : wBB (x.bs.take (i + 1)) = wBB (x.bs.take i) + x.bs[i].length := szL_take_succ List.length hlt
      have hsl : wBB (x.bs.take (i + 1)) ≤ wBB x.bs := szL_take_le List.length x.bs (i + 1)
      have e1 : IntKind.i64.wrap ((wBB (x.bs.take i) : Int) + x.bs[i].length) = (wBB (x.bs.take (i + 1)) : Nat) := by rw [wrap_i64_of (by omega) (by omega), hs]; omega
      simp -dsimp -implicitDefEqProofs only [go_sem, Nat.reduceBEq, Nat.reduceAdd, Nat.reduceLeDiff, Nat.reduceSub, Int.reduceEq, h1, h3, h4, hs1, byA_at hlt, e1]
      repeat (first | with_reducible refine ask.of (by first | omega | decide) ?_ | simp -dsimp -implicitDefEqProofs only [go_sem, Nat.reduceBEq, Nat.reduceAdd, Nat.reduceLeDiff, Nat.reduceSub, Int.reduceEq, h1, h3, h4, hs1, byA_at hlt, bleM, e1])
      refine hK _ hlt ?_
      simp -dsimp -implicitDefEqProofs only [go_sem, Nat.reduceBEq, Nat.reduceAdd, Nat.reduceLeDiff, Nat.reduceSub, Int.reduceEq, h1, h3, h4, hs1, wrap_succ (show i < 4611686018427387904 by omega), e1]
    · have : i = x.bs.length := by omega
      subst this
      rw [List.take_length] at h3
      simp -dsimp -implicitDefEqProofs only [go_sem, Nat.reduceBEq, Nat.reduceAdd, Nat.reduceLeDiff, Nat.reduceSub, Int.reduceEq, h1, h3, h4, hs1]
      refine ifB'.of (fun hg => ?_) (fun hg => ?_)
      · simp -dsimp -implicitDefEqProofs only [go_sem, Nat.reduceBEq, Nat.reduceAdd, Nat.reduceLeDiff, Nat.reduceSub, Int.reduceEq, h1, h3, h4, hs1]
        exact em_f (fun h' => by have := h'.2.1; omega)
      simp -dsimp -implicitDefEqProofs only [go_sem, Nat.reduceBEq, Nat.reduceAdd, Nat.reduceLeDiff, Nat.reduceSub, Int.reduceEq, h1, h3, h4, hs1]
      repeat (first | with_reducible refine ask.of (by first | omega | decide) ?_ | simp -dsimp -implicitDefEqProofs only [go_sem, Nat.reduceBEq, Nat.reduceAdd, Nat.reduceLeDiff, Nat.reduceSub, Int.reduceEq, h1, h3, h4, hs1, bleM])
      refine CallE.of (c_l4encode x hok (by omega)) (by rintro r rfl; (repeat' first | exact trivial | exact pure_rowB _ | exact pure_rowO _ | exact pure_rowI _ | exact pure_rowBB _ | exact pure_rowPk _ _ | exact pure_rowSn _ _ | exact pure_rowFd _ _ | exact pure_rowCl _ _ | refine And.intro ?_ ?_)) (by simp -dsimp -implicitDefEqProofs only [go_sem, Nat.reduceBEq, Nat.reduceAdd, Nat.reduceLeDiff, Nat.reduceSub, Int.reduceEq, h1, h3, h4, hs1, msC]) ?_
      rintro r rfl
      simp -dsimp -implicitDefEqProofs only [go_sem, Nat.reduceBEq, Nat.reduceAdd, Nat.reduceLeDiff, Nat.reduceSub, Int.reduceEq, h1, h3, h4, hs1, msC]
      refine ifB'.of (fun hg2 => ?_) (fun hg2 => ?_)
      · simp -dsimp -implicitDefEqProofs only [go_sem, Nat.reduceBEq, Nat.reduceAdd, Nat.reduceLeDiff, Nat.reduceSub, Int.reduceEq, h1, h3, h4, hs1]
        exact em_f (fun h' => by have := h'.2.2; omega)
      · simp -dsimp -implicitDefEqProofs only [go_sem, Nat.reduceBEq, Nat.reduceAdd, Nat.reduceLeDiff, Nat.reduceSub, Int.reduceEq, h1, h3, h4, hs1]
        rw [encM_yes ⟨hok, by omega, by omega⟩]
theorem byC2 (a b : List UInt8) : ra byC [a, b] = [[.row 5 1 (bytesA a)], [.row 5 1 (bytesA b)]] := rfl
set_option maxHeartbeats 2000000 in
theorem c_implEncodeMessage (x : Ms) (hx : x.bs.length + wBB x.bs ≤ 1048576) : Meets Try.prog 58 [.agg (msC x)] (fun r => r = rowB (encM x)) := by
  refine Meets.intro mixed (hint []) Try.func58 rfl (by decide) res_58 rty_58 (by kernel_rfl) ?_; 
  simp -dsimp -implicitDefEqProofs only [go_sem, Nat.reduceBEq, Nat.reduceAdd, Nat.reduceLeDiff, Nat.reduceSub, Int.reduceEq, msC]
  repeat (first | with_reducible refine ask.of (by first | omega | decide) ?_ | simp -dsimp -implicitDefEqProofs only [go_sem, Nat.reduceBEq, Nat.reduceAdd, Nat.reduceLeDiff, Nat.reduceSub, Int.reduceEq, bleM])
  refine CallE.of (c_messageOk x (by omega)) (by rintro r rfl; (repeat' first | exact trivial | exact pure_rowB _ | exact pure_rowO _ | exact pure_rowI _ | exact pure_rowBB _ | exact pure_rowPk _ _ | exact pure_rowSn _ _ | exact pure_rowFd _ _ | exact pure_rowCl _ _ | refine And.intro ?_ ?_)) (by simp -dsimp -implicitDefEqProofs only [go_sem, Nat.reduceBEq, Nat.reduceAdd, Nat.reduceLeDiff, Nat.reduceSub, Int.reduceEq, msC]) ?_
  rintro r rfl
  simp -dsimp -implicitDefEqProofs only [go_sem, Nat.reduceBEq, Nat.reduceAdd, Nat.reduceLeDiff, Nat.reduceSub, Int.reduceEq, msC]
  by_cases hok : msOk x
  case neg =>
    simp -dsimp -implicitDefEqProofs only [go_sem, Nat.reduceBEq, Nat.reduceAdd, Nat.reduceLeDiff, Nat.reduceSub, Int.reduceEq, decide_eq_false hok, Bool.not_false]
    exact em_ok hok
  have hl := hok.2.2.2.2.2.2.1
  simp -dsimp -implicitDefEqProofs only [go_sem, Nat.reduceBEq, Nat.reduceAdd, Nat.reduceLeDiff, Nat.reduceSub, Int.reduceEq, decide_eq_true hok, Bool.not_true]
  repeat (first | with_reducible refine ask.of (by first | omega | decide) ?_ | simp -dsimp -implicitDefEqProofs only [go_sem, Nat.reduceBEq, Nat.reduceAdd, Nat.reduceLeDiff, Nat.reduceSub, Int.reduceEq, bleM])
  refine LoopE.cnt x.bs.length (fun i s => s.env 1 = .ptr [1] 0 0 0 ∧ s.env 3 = .ref [12] ∧ s.env 4 = .v (.int .i64 (wBB (x.bs.take i) : Nat)) ∧ s.env 14 = .rd .ent 37 1 (ra byC x.bs) ∧ s.env 15 = .v (.int .i64 x.bs.length) ∧ s.env 16 = .v (.int .i64 i) ∧ s.σ [1] = some (.box 72 [.v (.int .i64 x.k), .v (.int .i64 x.f), .v (.int .i64 x.n), .rd .ent 37 1 (ra byC x.bs)]) ∧ s.σ [12] = some (.row 5 1 (bytesA (lensB (x.bs.take i)))) ∧ wBB (x.bs.take i) ≤ 20000) ⟨by simp -dsimp -implicitDefEqProofs only [go_sem, Nat.reduceBEq, Nat.reduceAdd, Nat.reduceLeDiff, Nat.reduceSub, Int.reduceEq], by simp -dsimp -implicitDefEqProofs only [go_sem, Nat.reduceBEq, Nat.reduceAdd, Nat.reduceLeDiff, Nat.reduceSub, Int.reduceEq], by simp -dsimp -implicitDefEqProofs only [go_sem, Nat.reduceBEq, Nat.reduceAdd, Nat.reduceLeDiff, Nat.reduceSub, Int.reduceEq] <;> rfl, by simp -dsimp -implicitDefEqProofs only [go_sem, Nat.reduceBEq, Nat.reduceAdd, Nat.reduceLeDiff, Nat.reduceSub, Int.reduceEq], by simp -dsimp -implicitDefEqProofs only [go_sem, Nat.reduceBEq, Nat.reduceAdd, Nat.reduceLeDiff, Nat.reduceSub, Int.reduceEq], by simp -dsimp -implicitDefEqProofs only [go_sem, Nat.reduceBEq, Nat.reduceAdd, Nat.reduceLeDiff, Nat.reduceSub, Int.reduceEq], by simp -dsimp -implicitDefEqProofs only [go_sem, Nat.reduceBEq, Nat.reduceAdd, Nat.reduceLeDiff, Nat.reduceSub, Int.reduceEq], by simp -dsimp -implicitDefEqProofs only [go_sem, Nat.reduceBEq, Nat.reduceAdd, Nat.reduceLeDiff, Nat.reduceSub, Int.reduceEq] <;> rfl, by simp [wBB, szL]⟩ ?_
  rintro i ⟨e, σ⟩ hi ⟨h1, h3, h4, h14, h15, h16, hs1, hs12, hw⟩ K hK
  simp only at h1 h3 h4 h14 h15 h16 hs1 hs12
  simp -dsimp -implicitDefEqProofs only [go_sem, Nat.reduceBEq, Nat.reduceAdd, Nat.reduceLeDiff, Nat.reduceSub, Int.reduceEq, h1, h3, h4, h14, h15, h16, hs1, hs12]
  refine ifB'.of (fun hlt => ?_) (fun hlt => ?_)
  · have hlt : i < x.bs.length := by omega
    have hs : wBB (x.bs.take (i + 1)) = wBB (x.bs.take i) + x.bs[i].length := szL_take_succ List.length hlt
    have hsl : wBB (x.bs.take (i + 1)) ≤ wBB x.bs := szL_take_le List.length x.bs (i + 1)
    have e1 : IntKind.i64.wrap ((wBB (x.bs.take i) : Int) + x.bs[i].length) = (wBB (x.bs.take (i + 1)) : Nat) := by rw [wrap_i64_of (by omega) (by omega), hs]; omega
    have hll := lensB_length (x.bs.take i)
    have htl : (x.bs.take i).length = i := by simp; omega
    simp -dsimp -implicitDefEqProofs only [go_sem, Nat.reduceBEq, Nat.reduceAdd, Nat.reduceLeDiff, Nat.reduceSub, Int.reduceEq, h1, h3, h4, h14, h15, h16, hs1, hs12, byA_at hlt, e1]
    repeat (first | with_reducible refine ask.of (by first | omega | decide) ?_ | simp -dsimp -implicitDefEqProofs only [go_sem, Nat.reduceBEq, Nat.reduceAdd, Nat.reduceLeDiff, Nat.reduceSub, Int.reduceEq, h1, h3, h4, h14, h15, h16, hs1, hs12, byA_at hlt, bleM, e1])
    refine ifB'.of (fun hg => ?_) (fun hg => ?_)
    · simp -dsimp -implicitDefEqProofs only [go_sem, Nat.reduceBEq, Nat.reduceAdd, Nat.reduceLeDiff, Nat.reduceSub, Int.reduceEq, h1, h3, h4, h14, h15, h16, hs1, hs12]
      exact em_f (fun h' => by have := h'.2.1; omega)
    simp -dsimp -implicitDefEqProofs only [go_sem, Nat.reduceBEq, Nat.reduceAdd, Nat.reduceLeDiff, Nat.reduceSub, Int.reduceEq, h1, h3, h4, h14, h15, h16, hs1, hs12]
    refine CallE.of (c_number x.bs[i].length 4 (by omega)) (by rintro r rfl; (repeat' first | exact trivial | exact pure_rowB _ | exact pure_rowO _ | exact pure_rowI _ | exact pure_rowBB _ | exact pure_rowPk _ _ | exact pure_rowSn _ _ | exact pure_rowFd _ _ | exact pure_rowCl _ _ | refine And.intro ?_ ?_)) (by simp -dsimp -implicitDefEqProofs only [go_sem, Nat.reduceBEq, Nat.reduceAdd, Nat.reduceLeDiff, Nat.reduceSub, Int.reduceEq, h1, h3, h4, h14, h15, h16, hs1, hs12, show ((4 : Nat) : Int) = 4 from rfl]) ?_
    rintro r rfl
    simp -dsimp -implicitDefEqProofs only [go_sem, Nat.reduceBEq, Nat.reduceAdd, Nat.reduceLeDiff, Nat.reduceSub, Int.reduceEq, h1, h3, h4, h14, h15, h16, hs1, hs12, show ((4 : Nat) : Int) = 4 from rfl]
    repeat (first | with_reducible refine ask.of (by first | omega | (rw [hll, htl, leB_length]; omega)) ?_ | simp -dsimp -implicitDefEqProofs only [go_sem, Nat.reduceBEq, Nat.reduceAdd, Nat.reduceLeDiff, Nat.reduceSub, Int.reduceEq, h1, h3, h4, h14, h15, h16, hs1, hs12, leB_length])
    refine hK _ hlt ?_
    simp -dsimp -implicitDefEqProofs only [go_sem, Nat.reduceBEq, Nat.reduceAdd, Nat.reduceLeDiff, Nat.reduceSub, Int.reduceEq, h1, h3, h4, h14, h15, h16, hs1, hs12, wrap_succ (show i < 4611686018427387904 by omega), lensB_succ hlt, e1]
    omega
  · have : i = x.bs.length := by omega
    subst this
    rw [List.take_length] at hs12 hw
    have hg := ms_good hok hw
    have hj := joinA_len (lensB x.bs :: x.bs)
    have hll := lensB_length x.bs
    have hjl2 : (joinA (lensB x.bs :: x.bs)).length ≤ 30000 := by
      have : wBB (lensB x.bs :: x.bs) = 4 * x.bs.length + wBB x.bs := by simp [wBB, szL, lensB_length]
      simp only [List.length_cons] at hj ⊢
      omega
    simp -dsimp -implicitDefEqProofs only [go_sem, Nat.reduceBEq, Nat.reduceAdd, Nat.reduceLeDiff, Nat.reduceSub, Int.reduceEq, h1, h3, h4, h14, h15, h16, hs1, hs12, ms_b1 hok, ms_b2 hok, ms_b3 hok, ms_b4 hok]
    repeat (first | with_reducible refine ask.of (by first | omega | decide) ?_ | simp -dsimp -implicitDefEqProofs only [go_sem, Nat.reduceBEq, Nat.reduceAdd, Nat.reduceLeDiff, Nat.reduceSub, Int.reduceEq, h1, h3, h4, h14, h15, h16, hs1, hs12, bleM, ms_b1 hok, ms_b2 hok, ms_b3 hok, ms_b4 hok, u8_of_nat, bytes8, byE_asrw])
    refine CallE.of (c_implJoinAlignedL (lensB x.bs) x.bs (by omega)) (by rintro r rfl; (repeat' first | exact trivial | exact pure_rowB _ | exact pure_rowO _ | exact pure_rowI _ | exact pure_rowBB _ | exact pure_rowPk _ _ | exact pure_rowSn _ _ | exact pure_rowFd _ _ | exact pure_rowCl _ _ | refine And.intro ?_ ?_)) (by simp -dsimp -implicitDefEqProofs only [go_sem, Nat.reduceBEq, Nat.reduceAdd, Nat.reduceLeDiff, Nat.reduceSub, Int.reduceEq, h1, h3, h4, h14, h15, h16, hs1, hs12]) ?_
    rintro r rfl
    simp -dsimp -implicitDefEqProofs only [go_sem, Nat.reduceBEq, Nat.reduceAdd, Nat.reduceLeDiff, Nat.reduceSub, Int.reduceEq, h1, h3, h4, h14, h15, h16, hs1, hs12]
    repeat (first | with_reducible refine ask.of (by first | omega | decide) ?_ | simp -dsimp -implicitDefEqProofs only [go_sem, Nat.reduceBEq, Nat.reduceAdd, Nat.reduceLeDiff, Nat.reduceSub, Int.reduceEq, h1, h3, h4, h14, h15, h16, hs1, hs12, bleM])
    refine CallE.of (c_summed [headB x, joinA (lensB x.bs :: x.bs)] (by simp [wBB, szL, headB]; omega)) (by rintro r rfl; (repeat' first | exact trivial | exact pure_rowB _ | exact pure_rowO _ | exact pure_rowI _ | exact pure_rowBB _ | exact pure_rowPk _ _ | exact pure_rowSn _ _ | exact pure_rowFd _ _ | exact pure_rowCl _ _ | refine And.intro ?_ ?_)) (by simp -dsimp -implicitDefEqProofs only [go_sem, Nat.reduceBEq, Nat.reduceAdd, Nat.reduceLeDiff, Nat.reduceSub, Int.reduceEq, h1, h3, h4, h14, h15, h16, hs1, hs12, byC2, headB]) ?_
    rintro r rfl
    simp -dsimp -implicitDefEqProofs only [go_sem, Nat.reduceBEq, Nat.reduceAdd, Nat.reduceLeDiff, Nat.reduceSub, Int.reduceEq, h1, h3, h4, h14, h15, h16, hs1, hs12, byC2, headB]
    refine ifB'.of (fun hg2 => ?_) (fun hg2 => ?_)
    · simp -dsimp -implicitDefEqProofs only [go_sem, Nat.reduceBEq, Nat.reduceAdd, Nat.reduceLeDiff, Nat.reduceSub, Int.reduceEq, h1, h3, h4, h14, h15, h16, hs1, hs12]
      refine em_f (fun h' => ?_)
      have := h'.2.2
      unfold msBody headB at this
      omega
    · simp -dsimp -implicitDefEqProofs only [go_sem, Nat.reduceBEq, Nat.reduceAdd, Nat.reduceLeDiff, Nat.reduceSub, Int.reduceEq, h1, h3, h4, h14, h15, h16, hs1, hs12]
      rw [encM_yes ⟨hok, hw, by unfold msBody headB; omega⟩]
      rfl
end Go.Ev
