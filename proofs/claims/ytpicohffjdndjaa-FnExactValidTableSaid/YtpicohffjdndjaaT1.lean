/- Contracts: cells that are valid; columns; texts that differ. -/
import Derived.Test.YtpicohffjdndjaaF3
import Derived.Test.YtpicohffjdndjaaP9
set_option linter.unusedSimpArgs false
set_option linter.unusedVariables false
namespace Go.Ev
open Go Go.RowKit Go.Proofs
def clOk (f : Fd) (c : Cl) : Prop := if c.z = true then c.i = 0 ∧ c.f.length = 0 else if f.k = 0 then (c.i = 0 ∨ c.i = 1) ∧ c.f.length = 0 else if f.k = 1 then fitsB f.w.toNat c.i = true ∧ c.f.length = 0 else c.i = 0
instance (f : Fd) (c : Cl) : Decidable (clOk f c) := by unfold clOk; infer_instance
def i64r (n : Int) : Prop := -9223372036854775808 ≤ n ∧ n ≤ 9223372036854775807
theorem cl_d {f : Fd} {c : Cl} {q : Prop} [Decidable q] (h : q ↔ clOk f c) : decide q = decide (clOk f c) := decide_eq_decide.2 h
theorem cl_f {f : Fd} {c : Cl} (h : ¬ clOk f c) : false = decide (clOk f c) := (decide_eq_false h).symm
theorem cl_t {f : Fd} {c : Cl} (h : clOk f c) : true = decide (clOk f c) := (decide_eq_true h).symm
theorem packIC_one {n x : Int} (h : isW n = true) : (packIC [x] n).2 = if fitsB n.toNat x = true then 0 else 1 := by
  unfold packIC
  rw [if_pos h]
  by_cases h2 : fitsB n.toNat x = true
  · rw [if_pos h2, if_pos (by simp [h2])]
  · rw [if_neg h2, if_neg (by simp [h2])]
theorem fd_w {f : Fd} (h : fdOk f) (h1 : f.k = 1) : ∃ w : Nat, f.w = w ∧ (w = 1 ∨ w = 2 ∨ w = 4 ∨ w = 8) := by
  have := h.2
  exact ⟨f.w.toNat, by omega, by omega⟩
set_option maxRecDepth 4000 in
theorem c_l2cellOK (f : Fd) (c : Cl) (hf : fdOk f) (hb : c.f.length ≤ 1048576) : Meets Try.prog 148 [.agg (fdC f), .agg (clC c)] (fun r => r = .v (.bool (decide (clOk f c)))) := by
  refine Meets.intro mixed (hint []) Try.func148 rfl (by decide) res_148 rty_148 (by kernel_rfl) ?_; 
  simp -dsimp -implicitDefEqProofs only [go_sem, Nat.reduceBEq, Nat.reduceAdd, Nat.reduceLeDiff, Nat.reduceSub, Int.reduceEq, fdC, clC]
  cases hz : c.z
  · by_cases h1 : f.k = 1
    · obtain ⟨w, hw, hww⟩ := fd_w hf h1
      simp -dsimp -implicitDefEqProofs only [go_sem, Nat.reduceBEq, Nat.reduceAdd, Nat.reduceLeDiff, Nat.reduceSub, Int.reduceEq, hz, h1, hw, decide_false, decide_true]
      repeat (first | with_reducible refine ask.of (by omega) ?_ | simp -dsimp -implicitDefEqProofs only [go_sem, Nat.reduceBEq, Nat.reduceAdd, Nat.reduceLeDiff, Nat.reduceSub, Int.reduceEq, hz, h1, hw, decide_false, decide_true])
      refine CallE.of (c_l1fits c.i w hww) (by rintro r rfl; (repeat' first | exact trivial | exact pure_rowB _ | exact pure_rowO _ | exact pure_rowI _ | exact pure_rowBB _ | exact pure_rowPk _ _ | exact pure_rowSn _ _ | exact pure_rowFd _ _ | exact pure_rowCl _ _ | refine And.intro ?_ ?_)) (by simp -dsimp -implicitDefEqProofs only [go_sem, Nat.reduceBEq, Nat.reduceAdd, Nat.reduceLeDiff, Nat.reduceSub, Int.reduceEq]) ?_
      rintro r rfl
      simp -dsimp -implicitDefEqProofs only [go_sem, Nat.reduceBEq, Nat.reduceAdd, Nat.reduceLeDiff, Nat.reduceSub, Int.reduceEq]
      have e : clOk f c ↔ fitsB w c.i = true ∧ c.f.length = 0 := by
        unfold clOk
        rw [hz, if_neg (by decide), if_neg (by omega), if_pos h1, hw]; simp
      cases hq : fitsB w c.i
      · simp -dsimp -implicitDefEqProofs only [go_sem, Nat.reduceBEq, Nat.reduceAdd, Nat.reduceLeDiff, Nat.reduceSub, Int.reduceEq, hq]
        exact cl_f (by rw [e, hq]; simp)
      · simp -dsimp -implicitDefEqProofs only [go_sem, Nat.reduceBEq, Nat.reduceAdd, Nat.reduceLeDiff, Nat.reduceSub, Int.reduceEq, hq]
        repeat (first | with_reducible refine ask.of (by omega) ?_ | simp -dsimp -implicitDefEqProofs only [go_sem, Nat.reduceBEq, Nat.reduceAdd, Nat.reduceLeDiff, Nat.reduceSub, Int.reduceEq, hq])
        exact cl_d (by rw [e, hq]; simp)
    · repeat' (first | with_reducible refine ifB'.of (fun h => ?_) (fun h => ?_) | with_reducible refine ask.of (by omega) ?_ | omega | ((with_reducible refine cl_f ?_); unfold clOk; simp only [hz, h1, if_false, Bool.false_eq_true]; split <;> omega) | ((with_reducible refine cl_t ?_); unfold clOk; simp only [hz, h1, if_false, Bool.false_eq_true]; split <;> omega) | ((with_reducible refine cl_d ?_); unfold clOk; simp only [hz, h1, if_false, Bool.false_eq_true]; split <;> omega) | simp -dsimp -implicitDefEqProofs only [go_sem, Nat.reduceBEq, Nat.reduceAdd, Nat.reduceLeDiff, Nat.reduceSub, Int.reduceEq, hz, decide_true])
  · repeat' (first | with_reducible refine ifB'.of (fun h => ?_) (fun h => ?_) | with_reducible refine ask.of (by omega) ?_ | ((with_reducible refine cl_f ?_); unfold clOk; simp only [hz, if_true]; omega) | ((with_reducible refine cl_t ?_); unfold clOk; simp only [hz, if_true]; omega) | ((with_reducible refine cl_d ?_); unfold clOk; simp only [hz, if_true]; omega) | simp -dsimp -implicitDefEqProofs only [go_sem, Nat.reduceBEq, Nat.reduceAdd, Nat.reduceLeDiff, Nat.reduceSub, Int.reduceEq, hz, decide_true])
set_option maxRecDepth 4000 in
theorem c_cellOk (f : Fd) (c : Cl) (hf : fdOk f) (hb : c.f.length ≤ 1048576) (hi : i64r c.i) : Meets Try.prog 135 [.agg (fdC f), .agg (clC c)] (fun r => r = .v (.bool (decide (clOk f c)))) := by
  refine Meets.intro mixed (hint []) Try.func135 rfl (by decide) res_135 rty_135 (by kernel_rfl) ?_; 
  simp -dsimp -implicitDefEqProofs only [go_sem, Nat.reduceBEq, Nat.reduceAdd, Nat.reduceLeDiff, Nat.reduceSub, Int.reduceEq, fdC, clC]
  cases hz : c.z
  · by_cases h1 : f.k = 1
    · obtain ⟨w, hw, hww⟩ := fd_w hf h1
      have hW : isW (w : Int) = true := isW_of hww
      have e : clOk f c ↔ fitsB w c.i = true ∧ c.f.length = 0 := by
        unfold clOk
        rw [hz, if_neg (by decide), if_neg (by omega), if_pos h1, hw]; simp
      simp -dsimp -implicitDefEqProofs only [go_sem, Nat.reduceBEq, Nat.reduceAdd, Nat.reduceLeDiff, Nat.reduceSub, Int.reduceEq, hz, h1, hw, decide_false, decide_true]
      repeat (first | with_reducible refine ask.of (by omega) ?_ | simp -dsimp -implicitDefEqProofs only [go_sem, Nat.reduceBEq, Nat.reduceAdd, Nat.reduceLeDiff, Nat.reduceSub, Int.reduceEq, hz, h1, hw, decide_false, decide_true])
      repeat (first | with_reducible refine ask.of (by decide) ?_ | simp -dsimp -implicitDefEqProofs only [go_sem, Nat.reduceBEq, Nat.reduceAdd, Nat.reduceLeDiff, Nat.reduceSub, Int.reduceEq, intA_one, show intC c.i = [.v (.int .i64 c.i)] from rfl])
      refine CallE.of (c_implPackInts [c.i] w (by simp) (by intro x hx; simp at hx; subst hx; exact hi)) (by rintro r rfl; (repeat' first | exact trivial | exact pure_rowB _ | exact pure_rowO _ | exact pure_rowI _ | exact pure_rowBB _ | exact pure_rowPk _ _ | exact pure_rowSn _ _ | exact pure_rowFd _ _ | exact pure_rowCl _ _ | refine And.intro ?_ ?_)) (by simp -dsimp -implicitDefEqProofs only [go_sem, Nat.reduceBEq, Nat.reduceAdd, Nat.reduceLeDiff, Nat.reduceSub, Int.reduceEq]) ?_
      rintro r rfl
      simp -dsimp -implicitDefEqProofs only [go_sem, Nat.reduceBEq, Nat.reduceAdd, Nat.reduceLeDiff, Nat.reduceSub, Int.reduceEq]
      cases hq : fitsB w c.i
      · have ep : (packIC [c.i] (w : Int)).2 = 1 := by rw [packIC_one hW, Int.toNat_natCast, hq]; rfl
        simp -dsimp -implicitDefEqProofs only [go_sem, Nat.reduceBEq, Nat.reduceAdd, Nat.reduceLeDiff, Nat.reduceSub, Int.reduceEq, ep, decide_false]
        exact cl_f (by rw [e, hq]; simp)
      · have ep : (packIC [c.i] (w : Int)).2 = 0 := by rw [packIC_one hW, Int.toNat_natCast, hq]; rfl
        simp -dsimp -implicitDefEqProofs only [go_sem, Nat.reduceBEq, Nat.reduceAdd, Nat.reduceLeDiff, Nat.reduceSub, Int.reduceEq, ep, decide_true]
        repeat (first | with_reducible refine ask.of (by omega) ?_ | simp -dsimp -implicitDefEqProofs only [go_sem, Nat.reduceBEq, Nat.reduceAdd, Nat.reduceLeDiff, Nat.reduceSub, Int.reduceEq, hq])
        exact cl_d (by rw [e, hq]; simp)
    · repeat' (first | with_reducible refine ifB'.of (fun h => ?_) (fun h => ?_) | with_reducible refine ask.of (by omega) ?_ | omega | ((with_reducible refine cl_f ?_); unfold clOk; simp only [hz, h1, if_false, Bool.false_eq_true]; split <;> omega) | ((with_reducible refine cl_t ?_); unfold clOk; simp only [hz, h1, if_false, Bool.false_eq_true]; split <;> omega) | ((with_reducible refine cl_d ?_); unfold clOk; simp only [hz, h1, if_false, Bool.false_eq_true]; split <;> omega) | simp -dsimp -implicitDefEqProofs only [go_sem, Nat.reduceBEq, Nat.reduceAdd, Nat.reduceLeDiff, Nat.reduceSub, Int.reduceEq, hz, decide_true])
  · repeat' (first | with_reducible refine ifB'.of (fun h => ?_) (fun h => ?_) | with_reducible refine ask.of (by omega) ?_ | ((with_reducible refine cl_f ?_); unfold clOk; simp only [hz, if_true]; omega) | ((with_reducible refine cl_t ?_); unfold clOk; simp only [hz, if_true]; omega) | ((with_reducible refine cl_d ?_); unfold clOk; simp only [hz, if_true]; omega) | simp -dsimp -implicitDefEqProofs only [go_sem, Nat.reduceBEq, Nat.reduceAdd, Nat.reduceLeDiff, Nat.reduceSub, Int.reduceEq, hz, decide_true])
end Go.Ev
