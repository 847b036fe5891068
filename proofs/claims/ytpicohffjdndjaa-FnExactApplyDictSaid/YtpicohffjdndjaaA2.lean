/- Contracts: ApplyDict. -/
import Derived.Test.YtpicohffjdndjaaA1
set_option linter.unusedSimpArgs false
set_option linter.unusedVariables false
namespace Go.Ev
open Go Go.RowKit Go.Proofs
def apOut (vs : List (List UInt8)) (act : Int) (fr : List (List UInt8)) : List (List UInt8) := if act = 2 then fr else vs ++ fr
def apD (vs : List (List UInt8)) (act : Int) (fr : List (List UInt8)) : List (List UInt8) × Int :=
  if ¬ okD vs ∨ act < 0 ∨ 2 < act then ([], 1) else if (act = 0 ∧ fr.length ≠ 0) ∨ (act = 1 ∧ fr.length = 0) ∨ ¬ okD (apOut vs act fr) then ([], 3) else (apOut vs act fr, 0)
theorem apD_1 {vs fr : List (List UInt8)} {act : Int} (h : ¬ okD vs ∨ act < 0 ∨ 2 < act) : apD vs act fr = ([], 1) := if_pos h
theorem apD_3 {vs fr : List (List UInt8)} {act : Int} (h : ¬ (¬ okD vs ∨ act < 0 ∨ 2 < act)) (h2 : (act = 0 ∧ fr.length ≠ 0) ∨ (act = 1 ∧ fr.length = 0) ∨ ¬ okD (apOut vs act fr)) : apD vs act fr = ([], 3) := by
  rw [apD, if_neg h, if_pos h2]
theorem apD_0 {vs fr : List (List UInt8)} {act : Int} (h : ¬ (¬ okD vs ∨ act < 0 ∨ 2 < act)) (h2 : ¬ ((act = 0 ∧ fr.length ≠ 0) ∨ (act = 1 ∧ fr.length = 0) ∨ ¬ okD (apOut vs act fr))) : apD vs act fr = (apOut vs act fr, 0) := by
  rw [apD, if_neg h, if_neg h2]
theorem wBB_append (a b : List (List UInt8)) : wBB (a ++ b) = wBB a + wBB b := by simp [wBB, szL]
theorem apOut_w (vs fr : List (List UInt8)) (act : Int) : (apOut vs act fr).length + wBB (apOut vs act fr) ≤ vs.length + wBB vs + (fr.length + wBB fr) := by
  unfold apOut
  split
  · omega
  · rw [List.length_append, wBB_append]; omega
theorem not_okD_long {vs fr : List (List UInt8)} {act : Int} (h : 40 < fr.length) : ¬ okD (apOut vs act fr) := fun h' => by
  have h1 := h'.1
  unfold apOut at h1
  split at h1
  · omega
  · rw [List.length_append] at h1; omega
def apRes (vs : List (List UInt8)) (act : Int) (fr : List (List UInt8)) : AV := .tup [rowBB (apD vs act fr).1, .v (.int .i64 (apD vs act fr).2)]
theorem c_sApplyDict (vs fr : List (List UInt8)) (act : Int) (hx : vs.length + wBB vs + (fr.length + wBB fr) ≤ 1048576) : Meets Try.prog 25 [rowBB vs, .v (.int .i64 act), rowBB fr] (fun r => r = apRes vs act fr) := by
  refine Meets.intro mixed (hint []) Try.func25 rfl (by decide) res_25 rty_25 (by kernel_rfl) ?_; 
  simp -dsimp -implicitDefEqProofs only [go_sem, Nat.reduceBEq, Nat.reduceAdd, Nat.reduceLeDiff, Nat.reduceSub, Int.reduceEq]
  refine CallE.of (c_sValidDict vs (by omega)) (by rintro r rfl; (repeat' first | exact trivial | exact pure_rowB _ | exact pure_rowO _ | exact pure_rowI _ | exact pure_rowBB _ | exact pure_rowPk _ _ | exact pure_rowSn _ _ | exact pure_rowFd _ _ | exact pure_rowCl _ _ | refine And.intro ?_ ?_)) (by simp -dsimp -implicitDefEqProofs only [go_sem, Nat.reduceBEq, Nat.reduceAdd, Nat.reduceLeDiff, Nat.reduceSub, Int.reduceEq]) ?_
  rintro r rfl
  simp -dsimp -implicitDefEqProofs only [go_sem, Nat.reduceBEq, Nat.reduceAdd, Nat.reduceLeDiff, Nat.reduceSub, Int.reduceEq]
  by_cases hv : okD vs
  case neg =>
    simp -dsimp -implicitDefEqProofs only [go_sem, Nat.reduceBEq, Nat.reduceAdd, Nat.reduceLeDiff, Nat.reduceSub, Int.reduceEq, decide_eq_false hv, Bool.not_false, apRes, apD_1 (.inl hv)]
    rfl
  simp -dsimp -implicitDefEqProofs only [go_sem, Nat.reduceBEq, Nat.reduceAdd, Nat.reduceLeDiff, Nat.reduceSub, Int.reduceEq, decide_eq_true hv, Bool.not_true]
  refine ifB'.of (fun h1 => ?_) (fun h1 => ?_)
  · simp -dsimp -implicitDefEqProofs only [go_sem, Nat.reduceBEq, Nat.reduceAdd, Nat.reduceLeDiff, Nat.reduceSub, Int.reduceEq, apRes, apD_1 (vs := vs) (fr := fr) (.inr (.inl h1))]
    rfl
  simp -dsimp -implicitDefEqProofs only [go_sem, Nat.reduceBEq, Nat.reduceAdd, Nat.reduceLeDiff, Nat.reduceSub, Int.reduceEq]
  refine ifB'.of (fun h2 => ?_) (fun h2 => ?_)
  · simp -dsimp -implicitDefEqProofs only [go_sem, Nat.reduceBEq, Nat.reduceAdd, Nat.reduceLeDiff, Nat.reduceSub, Int.reduceEq, apRes, apD_1 (vs := vs) (fr := fr) (.inr (.inr h2))]
    rfl
  have hg : ¬ (¬ okD vs ∨ act < 0 ∨ 2 < act) := by rintro (h | h | h) <;> contradiction
  have hfb : ∀ b ∈ fr, b.length ≤ 8388608 := fun b h => by have := mem_wBB h; omega
  have leaf3 : ((act = 0 ∧ fr.length ≠ 0) ∨ (act = 1 ∧ fr.length = 0) ∨ ¬ okD (apOut vs act fr)) → AV.tup [.row 37 1 [], .v (.int .i64 3)] = apRes vs act fr := fun h => by
    rw [apRes, apD_3 hg h]; rfl
  have leaf0 : ¬ ((act = 0 ∧ fr.length ≠ 0) ∨ (act = 1 ∧ fr.length = 0) ∨ ¬ okD (apOut vs act fr)) → AV.tup [.row 37 1 (ra byC (apOut vs act fr)), .v (.int .i64 0)] = apRes vs act fr := fun h => by
    rw [apRes, apD_0 hg h]; rfl
  simp -dsimp -implicitDefEqProofs only [go_sem, Nat.reduceBEq, Nat.reduceAdd, Nat.reduceLeDiff, Nat.reduceSub, Int.reduceEq]
  refine ifB'.of (fun h0 => ?A) (fun h0 => ?B)
  case' A =>
    simp -dsimp -implicitDefEqProofs only [go_sem, Nat.reduceBEq, Nat.reduceAdd, Nat.reduceLeDiff, Nat.reduceSub, Int.reduceEq]
    refine ifB'.of (fun h3 => ?A1) (fun h3 => ?A2)
    case A1 =>
      simp -dsimp -implicitDefEqProofs only [go_sem, Nat.reduceBEq, Nat.reduceAdd, Nat.reduceLeDiff, Nat.reduceSub, Int.reduceEq]
      exact leaf3 (.inl ⟨h0, by omega⟩)
    simp -dsimp -implicitDefEqProofs only [go_sem, Nat.reduceBEq, Nat.reduceAdd, Nat.reduceLeDiff, Nat.reduceSub, Int.reduceEq]
    refine ifB'.of (fun h4 => by omega) (fun h4 => ?A3)
  case' B =>
    simp -dsimp -implicitDefEqProofs only [go_sem, Nat.reduceBEq, Nat.reduceAdd, Nat.reduceLeDiff, Nat.reduceSub, Int.reduceEq]
    refine ifB'.of (fun h4 => ?B1) (fun h4 => ?B2)
    case' B1 =>
      simp -dsimp -implicitDefEqProofs only [go_sem, Nat.reduceBEq, Nat.reduceAdd, Nat.reduceLeDiff, Nat.reduceSub, Int.reduceEq]
      refine ifB'.of (fun h5 => ?B3) (fun h5 => ?B4)
      case B3 =>
        simp -dsimp -implicitDefEqProofs only [go_sem, Nat.reduceBEq, Nat.reduceAdd, Nat.reduceLeDiff, Nat.reduceSub, Int.reduceEq]
        exact leaf3 (.inr (.inl ⟨h4, by omega⟩))
  all_goals
    simp -dsimp -implicitDefEqProofs only [go_sem, Nat.reduceBEq, Nat.reduceAdd, Nat.reduceLeDiff, Nat.reduceSub, Int.reduceEq]
    refine ifB'.of (fun h6 => ?_) (fun h6 => ?_)
    · simp -dsimp -implicitDefEqProofs only [go_sem, Nat.reduceBEq, Nat.reduceAdd, Nat.reduceLeDiff, Nat.reduceSub, Int.reduceEq]
      exact leaf3 (.inr (.inr (not_okD_long (by omega))))
    simp -dsimp -implicitDefEqProofs only [go_sem, Nat.reduceBEq, Nat.reduceAdd, Nat.reduceLeDiff, Nat.reduceSub, Int.reduceEq]
    refine CallE.of (c_l3join vs fr (by omega) (by omega)) (by rintro r rfl; (repeat' first | exact trivial | exact pure_rowB _ | exact pure_rowO _ | exact pure_rowI _ | exact pure_rowBB _ | exact pure_rowPk _ _ | exact pure_rowSn _ _ | exact pure_rowFd _ _ | exact pure_rowCl _ _ | refine And.intro ?_ ?_)) (by simp -dsimp -implicitDefEqProofs only [go_sem, Nat.reduceBEq, Nat.reduceAdd, Nat.reduceLeDiff, Nat.reduceSub, Int.reduceEq]) ?_
    rintro r rfl
    simp -dsimp -implicitDefEqProofs only [go_sem, Nat.reduceBEq, Nat.reduceAdd, Nat.reduceLeDiff, Nat.reduceSub, Int.reduceEq]
    refine ifB'.of (fun h7 => ?_) (fun h7 => ?_)
    · have ho : apOut vs act fr = fr := if_pos h7
      simp -dsimp -implicitDefEqProofs only [go_sem, Nat.reduceBEq, Nat.reduceAdd, Nat.reduceLeDiff, Nat.reduceSub, Int.reduceEq]
      refine CallE.of (c_l3texts fr (by omega) hfb) (by rintro r rfl; (repeat' first | exact trivial | exact pure_rowB _ | exact pure_rowO _ | exact pure_rowI _ | exact pure_rowBB _ | exact pure_rowPk _ _ | exact pure_rowSn _ _ | exact pure_rowFd _ _ | exact pure_rowCl _ _ | refine And.intro ?_ ?_)) (by simp -dsimp -implicitDefEqProofs only [go_sem, Nat.reduceBEq, Nat.reduceAdd, Nat.reduceLeDiff, Nat.reduceSub, Int.reduceEq]) ?_
      rintro r rfl
      simp -dsimp -implicitDefEqProofs only [go_sem, Nat.reduceBEq, Nat.reduceAdd, Nat.reduceLeDiff, Nat.reduceSub, Int.reduceEq]
      refine CallE.of (c_sValidDict fr (by omega)) (by rintro r rfl; (repeat' first | exact trivial | exact pure_rowB _ | exact pure_rowO _ | exact pure_rowI _ | exact pure_rowBB _ | exact pure_rowPk _ _ | exact pure_rowSn _ _ | exact pure_rowFd _ _ | exact pure_rowCl _ _ | refine And.intro ?_ ?_)) (by simp -dsimp -implicitDefEqProofs only [go_sem, Nat.reduceBEq, Nat.reduceAdd, Nat.reduceLeDiff, Nat.reduceSub, Int.reduceEq]) ?_
      rintro r rfl
      simp -dsimp -implicitDefEqProofs only [go_sem, Nat.reduceBEq, Nat.reduceAdd, Nat.reduceLeDiff, Nat.reduceSub, Int.reduceEq]
      by_cases hk : okD fr
      · simp -dsimp -implicitDefEqProofs only [go_sem, Nat.reduceBEq, Nat.reduceAdd, Nat.reduceLeDiff, Nat.reduceSub, Int.reduceEq, decide_eq_true hk, Bool.not_true]
        rw [ho] at leaf0
        exact leaf0 (by rintro (h | h | h); omega; omega; exact h hk)
      · simp -dsimp -implicitDefEqProofs only [go_sem, Nat.reduceBEq, Nat.reduceAdd, Nat.reduceLeDiff, Nat.reduceSub, Int.reduceEq, decide_eq_false hk, Bool.not_false]
        exact leaf3 (.inr (.inr (by rw [ho]; exact hk)))
    · have ho : apOut vs act fr = vs ++ fr := if_neg h7
      simp -dsimp -implicitDefEqProofs only [go_sem, Nat.reduceBEq, Nat.reduceAdd, Nat.reduceLeDiff, Nat.reduceSub, Int.reduceEq]
      refine CallE.of (c_sValidDict (vs ++ fr) (by rw [List.length_append, wBB_append]; omega)) (by rintro r rfl; (repeat' first | exact trivial | exact pure_rowB _ | exact pure_rowO _ | exact pure_rowI _ | exact pure_rowBB _ | exact pure_rowPk _ _ | exact pure_rowSn _ _ | exact pure_rowFd _ _ | exact pure_rowCl _ _ | refine And.intro ?_ ?_)) (by simp -dsimp -implicitDefEqProofs only [go_sem, Nat.reduceBEq, Nat.reduceAdd, Nat.reduceLeDiff, Nat.reduceSub, Int.reduceEq]) ?_
      rintro r rfl
      simp -dsimp -implicitDefEqProofs only [go_sem, Nat.reduceBEq, Nat.reduceAdd, Nat.reduceLeDiff, Nat.reduceSub, Int.reduceEq]
      by_cases hk : okD (vs ++ fr)
      · simp -dsimp -implicitDefEqProofs only [go_sem, Nat.reduceBEq, Nat.reduceAdd, Nat.reduceLeDiff, Nat.reduceSub, Int.reduceEq, decide_eq_true hk, Bool.not_true]
        rw [ho] at leaf0
        exact leaf0 (by rintro (h | h | h); omega; omega; exact h hk)
      · simp -dsimp -implicitDefEqProofs only [go_sem, Nat.reduceBEq, Nat.reduceAdd, Nat.reduceLeDiff, Nat.reduceSub, Int.reduceEq, decide_eq_false hk, Bool.not_false]
        exact leaf3 (.inr (.inr (by rw [ho]; exact hk)))
theorem c_iApplyDict (vs fr : List (List UInt8)) (act : Int) (hx : vs.length + wBB vs + (fr.length + wBB fr) ≤ 1048576) : Meets Try.prog 26 [rowBB vs, .v (.int .i64 act), rowBB fr] (fun r => r = apRes vs act fr) := by
  refine Meets.intro mixed (hint []) Try.func26 rfl (by decide) res_26 rty_26 (by kernel_rfl) ?_; 
  simp -dsimp -implicitDefEqProofs only [go_sem, Nat.reduceBEq, Nat.reduceAdd, Nat.reduceLeDiff, Nat.reduceSub, Int.reduceEq]
  refine CallE.of (c_iValidDict vs (by omega)) (by rintro r rfl; (repeat' first | exact trivial | exact pure_rowB _ | exact pure_rowO _ | exact pure_rowI _ | exact pure_rowBB _ | exact pure_rowPk _ _ | exact pure_rowSn _ _ | exact pure_rowFd _ _ | exact pure_rowCl _ _ | refine And.intro ?_ ?_)) (by simp -dsimp -implicitDefEqProofs only [go_sem, Nat.reduceBEq, Nat.reduceAdd, Nat.reduceLeDiff, Nat.reduceSub, Int.reduceEq]) ?_
  rintro r rfl
  simp -dsimp -implicitDefEqProofs only [go_sem, Nat.reduceBEq, Nat.reduceAdd, Nat.reduceLeDiff, Nat.reduceSub, Int.reduceEq]
  by_cases hv : okD vs
  case neg =>
    simp -dsimp -implicitDefEqProofs only [go_sem, Nat.reduceBEq, Nat.reduceAdd, Nat.reduceLeDiff, Nat.reduceSub, Int.reduceEq, decide_eq_false hv, Bool.not_false, apRes, apD_1 (.inl hv)]
    rfl
  simp -dsimp -implicitDefEqProofs only [go_sem, Nat.reduceBEq, Nat.reduceAdd, Nat.reduceLeDiff, Nat.reduceSub, Int.reduceEq, decide_eq_true hv, Bool.not_true]
  refine ifB'.of (fun h1 => ?_) (fun h1 => ?_)
  · simp -dsimp -implicitDefEqProofs only [go_sem, Nat.reduceBEq, Nat.reduceAdd, Nat.reduceLeDiff, Nat.reduceSub, Int.reduceEq, apRes, apD_1 (vs := vs) (fr := fr) (.inr (.inl h1))]
    rfl
  simp -dsimp -implicitDefEqProofs only [go_sem, Nat.reduceBEq, Nat.reduceAdd, Nat.reduceLeDiff, Nat.reduceSub, Int.reduceEq]
  refine ifB'.of (fun h2 => ?_) (fun h2 => ?_)
  · simp -dsimp -implicitDefEqProofs only [go_sem, Nat.reduceBEq, Nat.reduceAdd, Nat.reduceLeDiff, Nat.reduceSub, Int.reduceEq, apRes, apD_1 (vs := vs) (fr := fr) (.inr (.inr h2))]
    rfl
  have hg : ¬ (¬ okD vs ∨ act < 0 ∨ 2 < act) := by rintro (h | h | h) <;> contradiction
  have leaf3 : ((act = 0 ∧ fr.length ≠ 0) ∨ (act = 1 ∧ fr.length = 0) ∨ ¬ okD (apOut vs act fr)) → AV.tup [.row 37 1 [], .v (.int .i64 3)] = apRes vs act fr := fun h => by
    rw [apRes, apD_3 hg h]; rfl
  have leaf0 : ¬ ((act = 0 ∧ fr.length ≠ 0) ∨ (act = 1 ∧ fr.length = 0) ∨ ¬ okD (apOut vs act fr)) → AV.tup [.row 37 1 (ra byC (apOut vs act fr)), .v (.int .i64 0)] = apRes vs act fr := fun h => by
    rw [apRes, apD_0 hg h]; rfl
  simp -dsimp -implicitDefEqProofs only [go_sem, Nat.reduceBEq, Nat.reduceAdd, Nat.reduceLeDiff, Nat.reduceSub, Int.reduceEq]
  repeat (first | with_reducible refine ask.of (by first | omega | decide) ?_ | simp -dsimp -implicitDefEqProofs only [go_sem, Nat.reduceBEq, Nat.reduceAdd, Nat.reduceLeDiff, Nat.reduceSub, Int.reduceEq])
  refine CallE.frz (c_concatBB [vs, fr] (by simp [lenS, szL]; omega)) (by rintro r rfl; (repeat' first | exact trivial | exact nf_byE _ | exact nf_bytes _ | exact rfl | refine And.intro ?_ ?_)) (by simp -dsimp -implicitDefEqProofs only [go_sem, Nat.reduceBEq, Nat.reduceAdd, Nat.reduceLeDiff, Nat.reduceSub, Int.reduceEq, rdC2, List.flatten_cons, List.flatten_nil, List.append_nil]) ?_
  rintro r rfl
  simp -dsimp -implicitDefEqProofs only [go_sem, Nat.reduceBEq, Nat.reduceAdd, Nat.reduceLeDiff, Nat.reduceSub, Int.reduceEq, rdC2, List.flatten_cons, List.flatten_nil, List.append_nil]
  refine ifB'.of (fun h7 => ?_) (fun h7 => ?_)
  · have ho : apOut vs act fr = fr := if_pos h7
    simp -dsimp -implicitDefEqProofs only [go_sem, Nat.reduceBEq, Nat.reduceAdd, Nat.reduceLeDiff, Nat.reduceSub, Int.reduceEq]
    refine CallE.of (c_iValidDict fr (by omega)) (by rintro r rfl; (repeat' first | exact trivial | exact pure_rowB _ | exact pure_rowO _ | exact pure_rowI _ | exact pure_rowBB _ | exact pure_rowPk _ _ | exact pure_rowSn _ _ | exact pure_rowFd _ _ | exact pure_rowCl _ _ | refine And.intro ?_ ?_)) (by simp -dsimp -implicitDefEqProofs only [go_sem, Nat.reduceBEq, Nat.reduceAdd, Nat.reduceLeDiff, Nat.reduceSub, Int.reduceEq]) ?_
    rintro r rfl
    simp -dsimp -implicitDefEqProofs only [go_sem, Nat.reduceBEq, Nat.reduceAdd, Nat.reduceLeDiff, Nat.reduceSub, Int.reduceEq]
    by_cases hk : okD fr
    · simp -dsimp -implicitDefEqProofs only [go_sem, Nat.reduceBEq, Nat.reduceAdd, Nat.reduceLeDiff, Nat.reduceSub, Int.reduceEq, decide_eq_true hk, Bool.not_true]
      refine ifB'.of (fun h => by omega) (fun h8 => ?_)
      simp -dsimp -implicitDefEqProofs only [go_sem, Nat.reduceBEq, Nat.reduceAdd, Nat.reduceLeDiff, Nat.reduceSub, Int.reduceEq]
      refine ifB'.of (fun h => by omega) (fun h9 => ?_)
      simp -dsimp -implicitDefEqProofs only [go_sem, Nat.reduceBEq, Nat.reduceAdd, Nat.reduceLeDiff, Nat.reduceSub, Int.reduceEq]
      refine CallE.of (c_textsCopy fr (by omega)) (by rintro r rfl; (repeat' first | exact trivial | exact pure_rowB _ | exact pure_rowO _ | exact pure_rowI _ | exact pure_rowBB _ | exact pure_rowPk _ _ | exact pure_rowSn _ _ | exact pure_rowFd _ _ | exact pure_rowCl _ _ | refine And.intro ?_ ?_)) (by simp -dsimp -implicitDefEqProofs only [go_sem, Nat.reduceBEq, Nat.reduceAdd, Nat.reduceLeDiff, Nat.reduceSub, Int.reduceEq]) ?_
      rintro r rfl
      simp -dsimp -implicitDefEqProofs only [go_sem, Nat.reduceBEq, Nat.reduceAdd, Nat.reduceLeDiff, Nat.reduceSub, Int.reduceEq]
      rw [ho] at leaf0
      exact leaf0 (by rintro (h | h | h); omega; omega; exact h hk)
    · simp -dsimp -implicitDefEqProofs only [go_sem, Nat.reduceBEq, Nat.reduceAdd, Nat.reduceLeDiff, Nat.reduceSub, Int.reduceEq, decide_eq_false hk, Bool.not_false]
      exact leaf3 (.inr (.inr (by rw [ho]; exact hk)))
  · have ho : apOut vs act fr = vs ++ fr := if_neg h7
    have hw : (vs ++ fr).length + wBB (vs ++ fr) ≤ 1048576 := by rw [List.length_append, wBB_append]; omega
    simp -dsimp -implicitDefEqProofs only [go_sem, Nat.reduceBEq, Nat.reduceAdd, Nat.reduceLeDiff, Nat.reduceSub, Int.reduceEq]
    refine CallE.of (c_iValidDictE (vs ++ fr) hw) (by rintro r rfl; (repeat' first | exact trivial | exact pure_rowB _ | exact pure_rowO _ | exact pure_rowI _ | exact pure_rowBB _ | exact pure_rowPk _ _ | exact pure_rowSn _ _ | exact pure_rowFd _ _ | exact pure_rowCl _ _ | refine And.intro ?_ ?_)) (by simp -dsimp -implicitDefEqProofs only [go_sem, Nat.reduceBEq, Nat.reduceAdd, Nat.reduceLeDiff, Nat.reduceSub, Int.reduceEq]) ?_
    rintro r rfl
    simp -dsimp -implicitDefEqProofs only [go_sem, Nat.reduceBEq, Nat.reduceAdd, Nat.reduceLeDiff, Nat.reduceSub, Int.reduceEq]
    by_cases hk : okD (vs ++ fr)
    · simp -dsimp -implicitDefEqProofs only [go_sem, Nat.reduceBEq, Nat.reduceAdd, Nat.reduceLeDiff, Nat.reduceSub, Int.reduceEq, decide_eq_true hk, Bool.not_true]
      rw [ho] at leaf0
      refine ifB'.of (fun h8 => ?C) (fun h8 => ?D)
      case' C =>
        simp -dsimp -implicitDefEqProofs only [go_sem, Nat.reduceBEq, Nat.reduceAdd, Nat.reduceLeDiff, Nat.reduceSub, Int.reduceEq]
        refine ifB'.of (fun h9 => ?C1) (fun h9 => ?C2)
        case C1 =>
          simp -dsimp -implicitDefEqProofs only [go_sem, Nat.reduceBEq, Nat.reduceAdd, Nat.reduceLeDiff, Nat.reduceSub, Int.reduceEq]
          exact leaf3 (.inr (.inl ⟨h8, by omega⟩))
        simp -dsimp -implicitDefEqProofs only [go_sem, Nat.reduceBEq, Nat.reduceAdd, Nat.reduceLeDiff, Nat.reduceSub, Int.reduceEq]
        refine ifB'.of (fun h => by omega) (fun h10 => ?C3)
      case' D =>
        simp -dsimp -implicitDefEqProofs only [go_sem, Nat.reduceBEq, Nat.reduceAdd, Nat.reduceLeDiff, Nat.reduceSub, Int.reduceEq]
        refine ifB'.of (fun h9 => ?D1) (fun h9 => ?D2)
        case D2 => exfalso; omega
        simp -dsimp -implicitDefEqProofs only [go_sem, Nat.reduceBEq, Nat.reduceAdd, Nat.reduceLeDiff, Nat.reduceSub, Int.reduceEq]
        refine ifB'.of (fun h10 => ?D3) (fun h10 => ?D4)
        case D3 =>
          simp -dsimp -implicitDefEqProofs only [go_sem, Nat.reduceBEq, Nat.reduceAdd, Nat.reduceLeDiff, Nat.reduceSub, Int.reduceEq]
          exact leaf3 (.inl ⟨h9, by omega⟩)
      all_goals
        simp -dsimp -implicitDefEqProofs only [go_sem, Nat.reduceBEq, Nat.reduceAdd, Nat.reduceLeDiff, Nat.reduceSub, Int.reduceEq]
        refine CallE.of (c_textsCopyE (vs ++ fr) hw) (by rintro r rfl; (repeat' first | exact trivial | exact pure_rowB _ | exact pure_rowO _ | exact pure_rowI _ | exact pure_rowBB _ | exact pure_rowPk _ _ | exact pure_rowSn _ _ | exact pure_rowFd _ _ | exact pure_rowCl _ _ | refine And.intro ?_ ?_)) (by simp -dsimp -implicitDefEqProofs only [go_sem, Nat.reduceBEq, Nat.reduceAdd, Nat.reduceLeDiff, Nat.reduceSub, Int.reduceEq]) ?_
        rintro r rfl
        simp -dsimp -implicitDefEqProofs only [go_sem, Nat.reduceBEq, Nat.reduceAdd, Nat.reduceLeDiff, Nat.reduceSub, Int.reduceEq]
        exact leaf0 (by rintro (h | h | h); omega; omega; exact h hk)
    · simp -dsimp -implicitDefEqProofs only [go_sem, Nat.reduceBEq, Nat.reduceAdd, Nat.reduceLeDiff, Nat.reduceSub, Int.reduceEq, decide_eq_false hk, Bool.not_false]
      exact leaf3 (.inr (.inr (by rw [ho]; exact hk)))
end Go.Ev
