/- Contracts: names and fields that are valid. -/
import Derived.Test.YtpicohffjdndjaaF1
import Derived.Test.YtpicohffjdndjaaD1
import Derived.Test.YtpicohffjdndjaaP6
set_option linter.unusedSimpArgs false
set_option linter.unusedVariables false
namespace Go.Ev
open Go Go.RowKit Go.Proofs
def chOk (c : UInt8) : Prop := (97 ≤ c.toNat ∧ c.toNat ≤ 122) ∨ (65 ≤ c.toNat ∧ c.toNat ≤ 90) ∨ (48 ≤ c.toNat ∧ c.toNat ≤ 57) ∨ c.toNat = 95
instance (c : UInt8) : Decidable (chOk c) := by unfold chOk; infer_instance
def nmOk (b : List UInt8) : Prop := 1 ≤ b.length ∧ b.length ≤ 20 ∧ ∀ c ∈ b, chOk c
instance (b : List UInt8) : Decidable (nmOk b) := by unfold nmOk; infer_instance
theorem nm_len {b : List UInt8} (h : ¬ (1 ≤ b.length ∧ b.length ≤ 20)) : false = decide (nmOk b) := (decide_eq_false (fun h' => h ⟨h'.1, h'.2.1⟩)).symm
theorem nm_ch {b : List UInt8} {i : Nat} (hi : i < b.length) (h : ¬ chOk b[i]) : false = decide (nmOk b) := (decide_eq_false (fun h' => h (h'.2.2 _ (List.getElem_mem _)))).symm
theorem all_take_succ {α : Type} {q : α → Prop} {xs : List α} {i : Nat} (h : i < xs.length) (ha : ∀ c ∈ xs.take i, q c) (hc : q xs[i]) : ∀ c ∈ xs.take (i + 1), q c := by
  rw [List.take_succ_eq_append_getElem h]
  intro c hm
  rcases List.mem_append.1 hm with hm | hm
  · exact ha c hm
  · rw [List.mem_singleton.1 hm]; exact hc
set_option maxRecDepth 4000 in
theorem c_l2nameOK (b : List UInt8) (hb : b.length ≤ 140737488355328) : Meets Try.prog 152 [rowB b] (fun r => r = .v (.bool (decide (nmOk b)))) := by
  refine Meets.intro mixed (hint []) Try.func152 rfl (by decide) res_152 rty_152 (by kernel_rfl) ?_; 
  simp -dsimp -implicitDefEqProofs only [go_sem, Nat.reduceBEq, Nat.reduceAdd, Nat.reduceLeDiff, Nat.reduceSub, Int.reduceEq]
  refine ifB'.of (fun h => ?_) (fun h => ?_)
  · simp -dsimp -implicitDefEqProofs only [go_sem, Nat.reduceBEq, Nat.reduceAdd, Nat.reduceLeDiff, Nat.reduceSub, Int.reduceEq]
    exact nm_len (by omega)
  simp -dsimp -implicitDefEqProofs only [go_sem, Nat.reduceBEq, Nat.reduceAdd, Nat.reduceLeDiff, Nat.reduceSub, Int.reduceEq]
  refine ifB'.of (fun h2 => ?_) (fun h2 => ?_)
  · simp -dsimp -implicitDefEqProofs only [go_sem, Nat.reduceBEq, Nat.reduceAdd, Nat.reduceLeDiff, Nat.reduceSub, Int.reduceEq]
    exact nm_len (by omega)
  simp -dsimp -implicitDefEqProofs only [go_sem, Nat.reduceBEq, Nat.reduceAdd, Nat.reduceLeDiff, Nat.reduceSub, Int.reduceEq]
  refine LoopE.cnt b.length (fun i s => s.env 0 = .rd .ent 5 1 (bytesA b) ∧ s.env 3 = .v (.int .i64 i) ∧ ∀ c ∈ b.take i, chOk c) ⟨by simp -dsimp -implicitDefEqProofs only [go_sem, Nat.reduceBEq, Nat.reduceAdd, Nat.reduceLeDiff, Nat.reduceSub, Int.reduceEq, initE], by simp -dsimp -implicitDefEqProofs only [go_sem, Nat.reduceBEq, Nat.reduceAdd, Nat.reduceLeDiff, Nat.reduceSub, Int.reduceEq], by simp⟩ ?_
  rintro i ⟨e, σ⟩ hi ⟨h0, h3, ha⟩ K hK
  simp only at h0 h3
  simp -dsimp -implicitDefEqProofs only [go_sem, Nat.reduceBEq, Nat.reduceAdd, Nat.reduceLeDiff, Nat.reduceSub, Int.reduceEq, h0, h3]
  refine ifB'.of (fun hlt => ?_) (fun hlt => ?_)
  · have hlt : i < b.length := by omega
    simp -dsimp -implicitDefEqProofs only [go_sem, Nat.reduceBEq, Nat.reduceAdd, Nat.reduceLeDiff, Nat.reduceSub, Int.reduceEq, h0, h3, bytesA_at hlt]
    repeat' (first | with_reducible refine ifB'.of (fun h => ?_) (fun h => ?_) | with_reducible refine ask.of (by omega) ?_ | ((with_reducible refine nm_ch hlt ?_); unfold chOk; omega) | simp -dsimp -implicitDefEqProofs only [go_sem, Nat.reduceBEq, Nat.reduceAdd, Nat.reduceLeDiff, Nat.reduceSub, Int.reduceEq, h0, h3, Bool.not_true, Bool.not_false])
    all_goals (refine hK _ hlt ?_; simp -dsimp -implicitDefEqProofs only [go_sem, Nat.reduceBEq, Nat.reduceAdd, Nat.reduceLeDiff, Nat.reduceSub, Int.reduceEq, h0, h3, wrap_succ (show i < 4611686018427387904 by omega)]; exact all_take_succ hlt ha (by unfold chOk; omega))
  · have : i = b.length := by omega
    subst this
    simp -dsimp -implicitDefEqProofs only [go_sem, Nat.reduceBEq, Nat.reduceAdd, Nat.reduceLeDiff, Nat.reduceSub, Int.reduceEq, h0, h3]
    rw [List.take_length] at ha
    exact (decide_eq_true (show nmOk b from ⟨by omega, by omega, ha⟩)).symm
set_option maxRecDepth 4000 in
theorem c_nameOk (b : List UInt8) (hb : b.length ≤ 140737488355328) : Meets Try.prog 153 [rowB b] (fun r => r = .v (.bool (decide (nmOk b)))) := by
  refine Meets.intro mixed (hint []) Try.func153 rfl (by decide) res_153 rty_153 (by kernel_rfl) ?_; 
  simp -dsimp -implicitDefEqProofs only [go_sem, Nat.reduceBEq, Nat.reduceAdd, Nat.reduceLeDiff, Nat.reduceSub, Int.reduceEq]
  refine ifB'.of (fun h => ?_) (fun h => ?_)
  · simp -dsimp -implicitDefEqProofs only [go_sem, Nat.reduceBEq, Nat.reduceAdd, Nat.reduceLeDiff, Nat.reduceSub, Int.reduceEq]
    exact nm_len (by omega)
  simp -dsimp -implicitDefEqProofs only [go_sem, Nat.reduceBEq, Nat.reduceAdd, Nat.reduceLeDiff, Nat.reduceSub, Int.reduceEq]
  refine ifB'.of (fun h2 => ?_) (fun h2 => ?_)
  · simp -dsimp -implicitDefEqProofs only [go_sem, Nat.reduceBEq, Nat.reduceAdd, Nat.reduceLeDiff, Nat.reduceSub, Int.reduceEq]
    exact nm_len (by omega)
  simp -dsimp -implicitDefEqProofs only [go_sem, Nat.reduceBEq, Nat.reduceAdd, Nat.reduceLeDiff, Nat.reduceSub, Int.reduceEq]
  refine LoopE.cnt b.length (fun i s => s.env 13 = .rd .ent 5 1 (bytesA b) ∧ s.env 14 = .v (.int .i64 b.length) ∧ s.env 15 = .v (.int .i64 i) ∧ ∀ c ∈ b.take i, chOk c) ⟨by simp -dsimp -implicitDefEqProofs only [go_sem, Nat.reduceBEq, Nat.reduceAdd, Nat.reduceLeDiff, Nat.reduceSub, Int.reduceEq, initE], by simp -dsimp -implicitDefEqProofs only [go_sem, Nat.reduceBEq, Nat.reduceAdd, Nat.reduceLeDiff, Nat.reduceSub, Int.reduceEq, initE], by simp -dsimp -implicitDefEqProofs only [go_sem, Nat.reduceBEq, Nat.reduceAdd, Nat.reduceLeDiff, Nat.reduceSub, Int.reduceEq], by simp⟩ ?_
  rintro i ⟨e, σ⟩ hi ⟨h13, h14, h15, ha⟩ K hK
  simp only at h13 h14 h15
  simp -dsimp -implicitDefEqProofs only [go_sem, Nat.reduceBEq, Nat.reduceAdd, Nat.reduceLeDiff, Nat.reduceSub, Int.reduceEq, h13, h14, h15]
  refine ifB'.of (fun hlt => ?_) (fun hlt => ?_)
  · have hlt : i < b.length := by omega
    simp -dsimp -implicitDefEqProofs only [go_sem, Nat.reduceBEq, Nat.reduceAdd, Nat.reduceLeDiff, Nat.reduceSub, Int.reduceEq, h13, h14, h15, bytesA_at hlt]
    repeat' (first | with_reducible refine ifB'.of (fun h => ?_) (fun h => ?_) | with_reducible refine ask.of (by omega) ?_ | ((with_reducible refine nm_ch hlt ?_); unfold chOk; omega) | simp -dsimp -implicitDefEqProofs only [go_sem, Nat.reduceBEq, Nat.reduceAdd, Nat.reduceLeDiff, Nat.reduceSub, Int.reduceEq, h13, h14, h15, Bool.not_true, Bool.not_false])
    all_goals (refine hK _ hlt ?_; simp -dsimp -implicitDefEqProofs only [go_sem, Nat.reduceBEq, Nat.reduceAdd, Nat.reduceLeDiff, Nat.reduceSub, Int.reduceEq, h13, h14, h15, wrap_succ (show i < 4611686018427387904 by omega)]; exact all_take_succ hlt ha (by unfold chOk; omega))
  · have : i = b.length := by omega
    subst this
    simp -dsimp -implicitDefEqProofs only [go_sem, Nat.reduceBEq, Nat.reduceAdd, Nat.reduceLeDiff, Nat.reduceSub, Int.reduceEq, h13, h14, h15]
    rw [List.take_length] at ha
    exact (decide_eq_true (show nmOk b from ⟨by omega, by omega, ha⟩)).symm
def fdOk (x : Fd) : Prop := nmOk x.f ∧ ((x.k = 1 ∧ (x.w = 1 ∨ x.w = 2 ∨ x.w = 4 ∨ x.w = 8)) ∨ ((x.k = 0 ∨ x.k = 2 ∨ x.k = 3) ∧ x.w = 0))
instance (x : Fd) : Decidable (fdOk x) := by unfold fdOk; infer_instance
theorem fd_f {x : Fd} (h : ¬ fdOk x) : false = decide (fdOk x) := by rw [decide_eq_false h]
theorem fd_t {x : Fd} (h : fdOk x) : true = decide (fdOk x) := by rw [decide_eq_true h]
theorem fd_d {x : Fd} {q : Prop} [Decidable q] (h : q ↔ fdOk x) : decide q = decide (fdOk x) := by rw [decide_eq_decide.2 h]
theorem isW_iff (n : Int) : isW n = decide (n = 1 ∨ n = 2 ∨ n = 4 ∨ n = 8) := by
  unfold isW
  simp only [Bool.decide_or, Bool.or_assoc]
theorem c_l2fieldOK (x : Fd) (hb : x.f.length ≤ 1048576) : Meets Try.prog 87 [.agg (fdC x)] (fun r => r = .v (.bool (decide (fdOk x)))) := by
  refine Meets.intro mixed (hint []) Try.func87 rfl (by decide) res_87 rty_87 (by kernel_rfl) ?_; 
  simp -dsimp -implicitDefEqProofs only [go_sem, Nat.reduceBEq, Nat.reduceAdd, Nat.reduceLeDiff, Nat.reduceSub, Int.reduceEq, fdC]
  repeat (first | with_reducible refine ask.of (by omega) ?_ | simp -dsimp -implicitDefEqProofs only [go_sem, Nat.reduceBEq, Nat.reduceAdd, Nat.reduceLeDiff, Nat.reduceSub, Int.reduceEq, bleF])
  refine CallE.of (c_l2nameOK x.f (by omega)) (by rintro r rfl; (repeat' first | exact trivial | exact pure_rowB _ | exact pure_rowO _ | exact pure_rowI _ | exact pure_rowBB _ | exact pure_rowPk _ _ | exact pure_rowSn _ _ | exact pure_rowFd _ _ | exact pure_rowBBB _ | exact pure_rowCl _ _ | refine And.intro ?_ ?_)) (by simp -dsimp -implicitDefEqProofs only [go_sem, Nat.reduceBEq, Nat.reduceAdd, Nat.reduceLeDiff, Nat.reduceSub, Int.reduceEq]) ?_
  rintro r rfl
  simp -dsimp -implicitDefEqProofs only [go_sem, Nat.reduceBEq, Nat.reduceAdd, Nat.reduceLeDiff, Nat.reduceSub, Int.reduceEq]
  by_cases hn : nmOk x.f
  · simp -dsimp -implicitDefEqProofs only [go_sem, Nat.reduceBEq, Nat.reduceAdd, Nat.reduceLeDiff, Nat.reduceSub, Int.reduceEq, decide_eq_true hn]
    repeat' (first | with_reducible refine ifB'.of (fun h => ?_) (fun h => ?_) | with_reducible refine ask.of (by omega) ?_ | ((with_reducible refine fd_f ?_); unfold fdOk; simp only [hn, true_and]; omega) | ((with_reducible refine fd_t ?_); unfold fdOk; simp only [hn, true_and]; omega) | ((with_reducible refine fd_d ?_); unfold fdOk; simp only [hn, true_and]; omega) | simp -dsimp -implicitDefEqProofs only [go_sem, Nat.reduceBEq, Nat.reduceAdd, Nat.reduceLeDiff, Nat.reduceSub, Int.reduceEq, decide_true])
    all_goals
      refine CallE.of (c_l1width x.w) (by rintro r rfl; (repeat' first | exact trivial | exact pure_rowB _ | exact pure_rowO _ | exact pure_rowI _ | exact pure_rowBB _ | exact pure_rowPk _ _ | exact pure_rowSn _ _ | exact pure_rowFd _ _ | exact pure_rowBBB _ | exact pure_rowCl _ _ | refine And.intro ?_ ?_)) (by simp -dsimp -implicitDefEqProofs only [go_sem, Nat.reduceBEq, Nat.reduceAdd, Nat.reduceLeDiff, Nat.reduceSub, Int.reduceEq, isW_iff]) ?_
      rintro r rfl
      simp -dsimp -implicitDefEqProofs only [go_sem, Nat.reduceBEq, Nat.reduceAdd, Nat.reduceLeDiff, Nat.reduceSub, Int.reduceEq, isW_iff]
      refine fd_d ?_
      unfold fdOk
      simp only [hn, true_and]
      omega
  · simp -dsimp -implicitDefEqProofs only [go_sem, Nat.reduceBEq, Nat.reduceAdd, Nat.reduceLeDiff, Nat.reduceSub, Int.reduceEq, decide_eq_false hn]
    repeat' (first | with_reducible refine ask.of (by omega) ?_ | ((with_reducible refine fd_f ?_); exact fun h => hn h.1) | simp -dsimp -implicitDefEqProofs only [go_sem, Nat.reduceBEq, Nat.reduceAdd, Nat.reduceLeDiff, Nat.reduceSub, Int.reduceEq, decide_true])
theorem c_fieldOk (x : Fd) (hb : x.f.length ≤ 1048576) : Meets Try.prog 90 [.agg (fdC x)] (fun r => r = .v (.bool (decide (fdOk x)))) := by
  refine Meets.intro mixed (hint []) Try.func90 rfl (by decide) res_90 rty_90 (by kernel_rfl) ?_; 
  simp -dsimp -implicitDefEqProofs only [go_sem, Nat.reduceBEq, Nat.reduceAdd, Nat.reduceLeDiff, Nat.reduceSub, Int.reduceEq, fdC]
  repeat (first | with_reducible refine ask.of (by omega) ?_ | simp -dsimp -implicitDefEqProofs only [go_sem, Nat.reduceBEq, Nat.reduceAdd, Nat.reduceLeDiff, Nat.reduceSub, Int.reduceEq, bleF])
  refine CallE.of (c_nameOk x.f (by omega)) (by rintro r rfl; (repeat' first | exact trivial | exact pure_rowB _ | exact pure_rowO _ | exact pure_rowI _ | exact pure_rowBB _ | exact pure_rowPk _ _ | exact pure_rowSn _ _ | exact pure_rowFd _ _ | exact pure_rowBBB _ | exact pure_rowCl _ _ | refine And.intro ?_ ?_)) (by simp -dsimp -implicitDefEqProofs only [go_sem, Nat.reduceBEq, Nat.reduceAdd, Nat.reduceLeDiff, Nat.reduceSub, Int.reduceEq]) ?_
  rintro r rfl
  simp -dsimp -implicitDefEqProofs only [go_sem, Nat.reduceBEq, Nat.reduceAdd, Nat.reduceLeDiff, Nat.reduceSub, Int.reduceEq]
  by_cases hn : nmOk x.f
  · simp -dsimp -implicitDefEqProofs only [go_sem, Nat.reduceBEq, Nat.reduceAdd, Nat.reduceLeDiff, Nat.reduceSub, Int.reduceEq, decide_eq_true hn]
    repeat' (first | with_reducible refine ifB'.of (fun h => ?_) (fun h => ?_) | with_reducible refine ask.of (by omega) ?_ | ((with_reducible refine fd_f ?_); unfold fdOk; simp only [hn, true_and]; omega) | ((with_reducible refine fd_t ?_); unfold fdOk; simp only [hn, true_and]; omega) | ((with_reducible refine fd_d ?_); unfold fdOk; simp only [hn, true_and]; omega) | simp -dsimp -implicitDefEqProofs only [go_sem, Nat.reduceBEq, Nat.reduceAdd, Nat.reduceLeDiff, Nat.reduceSub, Int.reduceEq, decide_true])
    all_goals
      refine CallE.of (c_l1width x.w) (by rintro r rfl; (repeat' first | exact trivial | exact pure_rowB _ | exact pure_rowO _ | exact pure_rowI _ | exact pure_rowBB _ | exact pure_rowPk _ _ | exact pure_rowSn _ _ | exact pure_rowFd _ _ | exact pure_rowBBB _ | exact pure_rowCl _ _ | refine And.intro ?_ ?_)) (by simp -dsimp -implicitDefEqProofs only [go_sem, Nat.reduceBEq, Nat.reduceAdd, Nat.reduceLeDiff, Nat.reduceSub, Int.reduceEq, isW_iff]) ?_
      rintro r rfl
      simp -dsimp -implicitDefEqProofs only [go_sem, Nat.reduceBEq, Nat.reduceAdd, Nat.reduceLeDiff, Nat.reduceSub, Int.reduceEq, isW_iff]
      refine fd_d ?_
      unfold fdOk
      simp only [hn, true_and]
      omega
  · simp -dsimp -implicitDefEqProofs only [go_sem, Nat.reduceBEq, Nat.reduceAdd, Nat.reduceLeDiff, Nat.reduceSub, Int.reduceEq, decide_eq_false hn]
    repeat' (first | with_reducible refine ask.of (by omega) ?_ | ((with_reducible refine fd_f ?_); exact fun h => hn h.1) | simp -dsimp -implicitDefEqProofs only [go_sem, Nat.reduceBEq, Nat.reduceAdd, Nat.reduceLeDiff, Nat.reduceSub, Int.reduceEq, decide_true])
end Go.Ev
