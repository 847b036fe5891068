/- Part 13 of what the row leans on: the evaluator, words, contracts of functions; pruned by a program of ours. -/
import Derived.Test.YtcmkgoflnfchcaaRc12
set_option linter.unusedSimpArgs false
set_option linter.unusedVariables false
namespace Go.Ev
open Go Go.RowKit Go.Proofs
def chOk (c : UInt8) : Prop := (97 ≤ c.toNat ∧ c.toNat ≤ 122) ∨ (65 ≤ c.toNat ∧ c.toNat ≤ 90) ∨ (48 ≤ c.toNat ∧ c.toNat ≤ 57) ∨ c.toNat = 95
instance (c : UInt8) : Decidable (chOk c) := by unfold chOk; infer_instance
def nmOk (b : List UInt8) : Prop := 1 ≤ b.length ∧ b.length ≤ 20 ∧ ∀ c ∈ b, chOk c
instance (b : List UInt8) : Decidable (nmOk b) := by unfold nmOk; infer_instance
theorem nm_len {b : List UInt8} (h : ¬ (1 ≤ b.length ∧ b.length ≤ 20)) : false = decide (nmOk b) := (decide_eq_false (fun h' => h ⟨h'.1, h'.2.1⟩)).symm
theorem nm_ch {b : List UInt8} {i : Nat} (hi : i < b.length) (h : ¬ chOk b[i]) : false = decide (nmOk b) := (decide_eq_false (fun h' => h (h'.2.2 _ (List.getElem_mem _)))).symm
theorem all_take_succ {α : Type} {q : α → Prop} {xs : List α} {i : Nat} (h : i < xs.length) (ha : ∀ c ∈ xs.take i, q c) (hc : q xs[i]) : ∀ c ∈ xs.take (i + 1), q c := by
  rw [List.take_succ_eq_append_getElem h]
  intro c hm
  rcases List.mem_append.1 hm with hm | hm
  · exact ha c hm
  · rw [List.mem_singleton.1 hm]; exact hc
set_option maxRecDepth 4000 in
theorem c_l2nameOK (b : List UInt8) (hb : b.length ≤ 140737488355328) : Meets Try.prog 167 [rowB b] (fun r => r = .v (.bool (decide (nmOk b)))) := by
  refine Meets.intro mixed (hint []) Try.func167 rfl (by decide) res_167 rty_167 (by kernel_rfl) ?_; 
  simp -dsimp -implicitDefEqProofs only [go_sem, Nat.reduceBEq, Nat.reduceAdd, Nat.reduceLeDiff, Nat.reduceSub, Int.reduceEq]
  refine ifB'.of (fun h => ?_) (fun h => ?_)
  · simp -dsimp -implicitDefEqProofs only [go_sem, Nat.reduceBEq, Nat.reduceAdd, Nat.reduceLeDiff, Nat.reduceSub, Int.reduceEq]
    exact nm_len (by omega)
  simp -dsimp -implicitDefEqProofs only [go_sem, Nat.reduceBEq, Nat.reduceAdd, Nat.reduceLeDiff, Nat.reduceSub, Int.reduceEq]
  refine ifB'.of (fun h2 => ?_) (fun h2 => ?_)
  · simp -dsimp -implicitDefEqProofs only [go_sem, Nat.reduceBEq, Nat.reduceAdd, Nat.reduceLeDiff, Nat.reduceSub, Int.reduceEq]
    exact nm_len (by omega)
  simp -dsimp -implicitDefEqProofs only [go_sem, Nat.reduceBEq, Nat.reduceAdd, Nat.reduceLeDiff, Nat.reduceSub, Int.reduceEq]
  refine LoopE.cnt b.length (fun i s => s.env 0 = .rd .ent 5 1 (bytesA b) ∧ s.env 3 = .v (.int .i64 i) ∧ ∀ c ∈ b.take i, chOk c) ⟨by simp -dsimp -implicitDefEqProofs only [go_sem, Nat.reduceBEq, Nat.reduceAdd, Nat.reduceLeDiff, Nat.reduceSub, Int.reduceEq, initE], by simp -dsimp -implicitDefEqProofs only [go_sem, Nat.reduceBEq, Nat.reduceAdd, Nat.reduceLeDiff, Nat.reduceSub, Int.reduceEq], by simp⟩ ?_
  rintro i ⟨e, σ⟩ hi ⟨h0, h3, ha⟩ K hK
  simp only at h0 h3
  simp -dsimp -implicitDefEqProofs only [go_sem, Nat.reduceBEq, Nat.reduceAdd, Nat.reduceLeDiff, Nat.reduceSub, Int.reduceEq, h0, h3]
  refine ifB'.of (fun hlt => ?_) (fun hlt => ?_)
  · have hlt : i < b.length := by omega
    simp -dsimp -implicitDefEqProofs only [go_sem, Nat.reduceBEq, Nat.reduceAdd, Nat.reduceLeDiff, Nat.reduceSub, Int.reduceEq, h0, h3, bytesA_at hlt]
    repeat' (first | with_reducible refine ifB'.of (fun h => ?_) (fun h => ?_) | with_reducible refine ask.of (by omega) ?_ | ((with_reducible refine nm_ch hlt ?_); unfold chOk; omega) | simp -dsimp -implicitDefEqProofs only [go_sem, Nat.reduceBEq, Nat.reduceAdd, Nat.reduceLeDiff, Nat.reduceSub, Int.reduceEq, h0, h3, Bool.not_true, Bool.not_false])
    all_goals (refine hK _ hlt ?_; simp -dsimp -implicitDefEqProofs only [go_sem, Nat.reduceBEq, Nat.reduceAdd, Nat.reduceLeDiff, Nat.reduceSub, Int.reduceEq, h0, h3, wrap_succ (show i < 4611686018427387904 by omega)]; exact all_take_succ hlt ha (by unfold chOk; omega))
  · have : i = b.length := by omega
    subst this
    simp -dsimp -implicitDefEqProofs only [go_sem, Nat.reduceBEq, Nat.reduceAdd, Nat.reduceLeDiff, Nat.reduceSub, Int.reduceEq, h0, h3]
    rw [List.take_length] at ha
    exact (decide_eq_true (show nmOk b from ⟨by omega, by omega, ha⟩)).symm
set_option maxRecDepth 4000 in
theorem c_nameOk (b : List UInt8) (hb : b.length ≤ 140737488355328) : Meets Try.prog 163 [rowB b] (fun r => r = .v (.bool (decide (nmOk b)))) := by
  refine Meets.intro mixed (hint []) Try.func163 rfl (by decide) res_163 rty_163 (by kernel_rfl) ?_; 
  simp -dsimp -implicitDefEqProofs only [go_sem, Nat.reduceBEq, Nat.reduceAdd, Nat.reduceLeDiff, Nat.reduceSub, Int.reduceEq]
  refine ifB'.of (fun h => ?_) (fun h => ?_)
  · simp -dsimp -implicitDefEqProofs only [go_sem, Nat.reduceBEq, Nat.reduceAdd, Nat.reduceLeDiff, Nat.reduceSub, Int.reduceEq]
    exact nm_len (by omega)
  simp -dsimp -implicitDefEqProofs only [go_sem, Nat.reduceBEq, Nat.reduceAdd, Nat.reduceLeDiff, Nat.reduceSub, Int.reduceEq]
  refine ifB'.of (fun h2 => ?_) (fun h2 => ?_)
  · simp -dsimp -implicitDefEqProofs only [go_sem, Nat.reduceBEq, Nat.reduceAdd, Nat.reduceLeDiff, Nat.reduceSub, Int.reduceEq]
    exact nm_len (by omega)
  simp -dsimp -implicitDefEqProofs only [go_sem, Nat.reduceBEq, Nat.reduceAdd, Nat.reduceLeDiff, Nat.reduceSub, Int.reduceEq]
  refine LoopE.cnt b.length (fun i s => s.env 13 = .rd .ent 5 1 (bytesA b) ∧ s.env 14 = .v (.int .i64 b.length) ∧ s.env 15 = .v (.int .i64 i) ∧ ∀ c ∈ b.take i, chOk c) ⟨by simp -dsimp -implicitDefEqProofs only [go_sem, Nat.reduceBEq, Nat.reduceAdd, Nat.reduceLeDiff, Nat.reduceSub, Int.reduceEq, initE], by simp -dsimp -implicitDefEqProofs only [go_sem, Nat.reduceBEq, Nat.reduceAdd, Nat.reduceLeDiff, Nat.reduceSub, Int.reduceEq, initE], by simp -dsimp -implicitDefEqProofs only [go_sem, Nat.reduceBEq, Nat.reduceAdd, Nat.reduceLeDiff, Nat.reduceSub, Int.reduceEq], by simp⟩ ?_
  rintro i ⟨e, σ⟩ hi ⟨h13, h14, h15, ha⟩ K hK
  simp only at h13 h14 h15
  simp -dsimp -implicitDefEqProofs only [go_sem, Nat.reduceBEq, Nat.reduceAdd, Nat.reduceLeDiff, Nat.reduceSub, Int.reduceEq, h13, h14, h15]
  refine ifB'.of (fun hlt => ?_) (fun hlt => ?_)
  · have hlt : i < b.length := by omega
    simp -dsimp -implicitDefEqProofs only [go_sem, Nat.reduceBEq, Nat.reduceAdd, Nat.reduceLeDiff, Nat.reduceSub, Int.reduceEq, h13, h14, h15, bytesA_at hlt]
    repeat' (first | with_reducible refine ifB'.of (fun h => ?_) (fun h => ?_) | with_reducible refine ask.of (by omega) ?_ | ((with_reducible refine nm_ch hlt ?_); unfold chOk; omega) | simp -dsimp -implicitDefEqProofs only [go_sem, Nat.reduceBEq, Nat.reduceAdd, Nat.reduceLeDiff, Nat.reduceSub, Int.reduceEq, h13, h14, h15, Bool.not_true, Bool.not_false])
    all_goals (refine hK _ hlt ?_; simp -dsimp -implicitDefEqProofs only [go_sem, Nat.reduceBEq, Nat.reduceAdd, Nat.reduceLeDiff, Nat.reduceSub, Int.reduceEq, h13, h14, h15, wrap_succ (show i < 4611686018427387904 by omega)]; exact all_take_succ hlt ha (by unfold chOk; omega))
  · have : i = b.length := by omega
    subst this
    simp -dsimp -implicitDefEqProofs only [go_sem, Nat.reduceBEq, Nat.reduceAdd, Nat.reduceLeDiff, Nat.reduceSub, Int.reduceEq, h13, h14, h15]
    rw [List.take_length] at ha
    exact (decide_eq_true (show nmOk b from ⟨by omega, by omega, ha⟩)).symm
def fdOk (x : Fd) : Prop := nmOk x.f ∧ ((x.k = 1 ∧ (x.w = 1 ∨ x.w = 2 ∨ x.w = 4 ∨ x.w = 8)) ∨ ((x.k = 0 ∨ x.k = 2 ∨ x.k = 3) ∧ x.w = 0))
instance (x : Fd) : Decidable (fdOk x) := by unfold fdOk; infer_instance
theorem fd_f {x : Fd} (h : ¬ fdOk x) : false = decide (fdOk x) := by rw [decide_eq_false h]
theorem fd_t {x : Fd} (h : fdOk x) : true = decide (fdOk x) := by rw [decide_eq_true h]
theorem fd_d {x : Fd} {q : Prop} [Decidable q] (h : q ↔ fdOk x) : decide q = decide (fdOk x) := by rw [decide_eq_decide.2 h]
theorem isW_iff (n : Int) : isW n = decide (n = 1 ∨ n = 2 ∨ n = 4 ∨ n = 8) := by
  unfold isW
  simp only [Bool.decide_or, Bool.or_assoc]
theorem c_l2fieldOK (x : Fd) (hb : x.f.length ≤ 1048576) : Meets Try.prog 141 [.agg (fdC x)] (fun r => r = .v (.bool (decide (fdOk x)))) := by
  refine Meets.intro mixed (hint []) Try.func141 rfl (by decide) res_141 rty_141 (by kernel_rfl) ?_; 
  simp -dsimp -implicitDefEqProofs only [go_sem, Nat.reduceBEq, Nat.reduceAdd, Nat.reduceLeDiff, Nat.reduceSub, Int.reduceEq, fdC]
  repeat (first | with_reducible refine ask.of (by omega) ?_ | simp -dsimp -implicitDefEqProofs only [go_sem, Nat.reduceBEq, Nat.reduceAdd, Nat.reduceLeDiff, Nat.reduceSub, Int.reduceEq, bleF])
  refine CallE.of (c_l2nameOK x.f (by omega)) (by rintro r rfl; (repeat' first | exact trivial | exact pure_rowB _ | exact pure_rowO _ | exact pure_rowI _ | exact pure_rowBB _ | exact pure_rowPk _ _ | exact pure_rowSn _ _ | exact pure_rowFd _ _ | exact pure_rowBBB _ | exact pure_rowCl _ _ | exact pure_rowTb _ _ _ | refine And.intro ?_ ?_)) (by simp -dsimp -implicitDefEqProofs only [go_sem, Nat.reduceBEq, Nat.reduceAdd, Nat.reduceLeDiff, Nat.reduceSub, Int.reduceEq]) ?_
  rintro r rfl
  simp -dsimp -implicitDefEqProofs only [go_sem, Nat.reduceBEq, Nat.reduceAdd, Nat.reduceLeDiff, Nat.reduceSub, Int.reduceEq]
  by_cases hn : nmOk x.f
  · simp -dsimp -implicitDefEqProofs only [go_sem, Nat.reduceBEq, Nat.reduceAdd, Nat.reduceLeDiff, Nat.reduceSub, Int.reduceEq, decide_eq_true hn]
    repeat' (first | with_reducible refine ifB'.of (fun h => ?_) (fun h => ?_) | with_reducible refine ask.of (by omega) ?_ | ((with_reducible refine fd_f ?_); unfold fdOk; simp only [hn, true_and]; omega) | ((with_reducible refine fd_t ?_); unfold fdOk; simp only [hn, true_and]; omega) | ((with_reducible refine fd_d ?_); unfold fdOk; simp only [hn, true_and]; omega) | simp -dsimp -implicitDefEqProofs only [go_sem, Nat.reduceBEq, Nat.reduceAdd, Nat.reduceLeDiff, Nat.reduceSub, Int.reduceEq, decide_true])
    all_goals
      refine CallE.of (c_l1width x.w) (by rintro r rfl; (repeat' first | exact trivial | exact pure_rowB _ | exact pure_rowO _ | exact pure_rowI _ | exact pure_rowBB _ | exact pure_rowPk _ _ | exact pure_rowSn _ _ | exact pure_rowFd _ _ | exact pure_rowBBB _ | exact pure_rowCl _ _ | exact pure_rowTb _ _ _ | refine And.intro ?_ ?_)) (by simp -dsimp -implicitDefEqProofs only [go_sem, Nat.reduceBEq, Nat.reduceAdd, Nat.reduceLeDiff, Nat.reduceSub, Int.reduceEq, isW_iff]) ?_
      rintro r rfl
      simp -dsimp -implicitDefEqProofs only [go_sem, Nat.reduceBEq, Nat.reduceAdd, Nat.reduceLeDiff, Nat.reduceSub, Int.reduceEq, isW_iff]
      refine fd_d ?_
      unfold fdOk
      simp only [hn, true_and]
      omega
  · simp -dsimp -implicitDefEqProofs only [go_sem, Nat.reduceBEq, Nat.reduceAdd, Nat.reduceLeDiff, Nat.reduceSub, Int.reduceEq, decide_eq_false hn]
    repeat' (first | with_reducible refine ask.of (by omega) ?_ | ((with_reducible refine fd_f ?_); exact fun h => hn h.1) | simp -dsimp -implicitDefEqProofs only [go_sem, Nat.reduceBEq, Nat.reduceAdd, Nat.reduceLeDiff, Nat.reduceSub, Int.reduceEq, decide_true])
theorem c_fieldOk (x : Fd) (hb : x.f.length ≤ 1048576) : Meets Try.prog 131 [.agg (fdC x)] (fun r => r = .v (.bool (decide (fdOk x)))) := by
  refine Meets.intro mixed (hint []) Try.func131 rfl (by decide) res_131 rty_131 (by kernel_rfl) ?_; 
  simp -dsimp -implicitDefEqProofs only [go_sem, Nat.reduceBEq, Nat.reduceAdd, Nat.reduceLeDiff, Nat.reduceSub, Int.reduceEq, fdC]
  repeat (first | with_reducible refine ask.of (by omega) ?_ | simp -dsimp -implicitDefEqProofs only [go_sem, Nat.reduceBEq, Nat.reduceAdd, Nat.reduceLeDiff, Nat.reduceSub, Int.reduceEq, bleF])
  refine CallE.of (c_nameOk x.f (by omega)) (by rintro r rfl; (repeat' first | exact trivial | exact pure_rowB _ | exact pure_rowO _ | exact pure_rowI _ | exact pure_rowBB _ | exact pure_rowPk _ _ | exact pure_rowSn _ _ | exact pure_rowFd _ _ | exact pure_rowBBB _ | exact pure_rowCl _ _ | exact pure_rowTb _ _ _ | refine And.intro ?_ ?_)) (by simp -dsimp -implicitDefEqProofs only [go_sem, Nat.reduceBEq, Nat.reduceAdd, Nat.reduceLeDiff, Nat.reduceSub, Int.reduceEq]) ?_
  rintro r rfl
  simp -dsimp -implicitDefEqProofs only [go_sem, Nat.reduceBEq, Nat.reduceAdd, Nat.reduceLeDiff, Nat.reduceSub, Int.reduceEq]
  by_cases hn : nmOk x.f
  · simp -dsimp -implicitDefEqProofs only [go_sem, Nat.reduceBEq, Nat.reduceAdd, Nat.reduceLeDiff, Nat.reduceSub, Int.reduceEq, decide_eq_true hn]
    repeat' (first | with_reducible refine ifB'.of (fun h => ?_) (fun h => ?_) | with_reducible refine ask.of (by omega) ?_ | ((with_reducible refine fd_f ?_); unfold fdOk; simp only [hn, true_and]; omega) | ((with_reducible refine fd_t ?_); unfold fdOk; simp only [hn, true_and]; omega) | ((with_reducible refine fd_d ?_); unfold fdOk; simp only [hn, true_and]; omega) | simp -dsimp -implicitDefEqProofs only [go_sem, Nat.reduceBEq, Nat.reduceAdd, Nat.reduceLeDiff, Nat.reduceSub, Int.reduceEq, decide_true])
    all_goals
      refine CallE.of (c_l1width x.w) (by rintro r rfl; (repeat' first | exact trivial | exact pure_rowB _ | exact pure_rowO _ | exact pure_rowI _ | exact pure_rowBB _ | exact pure_rowPk _ _ | exact pure_rowSn _ _ | exact pure_rowFd _ _ | exact pure_rowBBB _ | exact pure_rowCl _ _ | exact pure_rowTb _ _ _ | refine And.intro ?_ ?_)) (by simp -dsimp -implicitDefEqProofs only [go_sem, Nat.reduceBEq, Nat.reduceAdd, Nat.reduceLeDiff, Nat.reduceSub, Int.reduceEq, isW_iff]) ?_
      rintro r rfl
      simp -dsimp -implicitDefEqProofs only [go_sem, Nat.reduceBEq, Nat.reduceAdd, Nat.reduceLeDiff, Nat.reduceSub, Int.reduceEq, isW_iff]
      refine fd_d ?_
      unfold fdOk
      simp only [hn, true_and]
      omega
  · simp -dsimp -implicitDefEqProofs only [go_sem, Nat.reduceBEq, Nat.reduceAdd, Nat.reduceLeDiff, Nat.reduceSub, Int.reduceEq, decide_eq_false hn]
    repeat' (first | with_reducible refine ask.of (by omega) ?_ | ((with_reducible refine fd_f ?_); exact fun h => hn h.1) | simp -dsimp -implicitDefEqProofs only [go_sem, Nat.reduceBEq, Nat.reduceAdd, Nat.reduceLeDiff, Nat.reduceSub, Int.reduceEq, decide_true])
end Go.Ev
set_option linter.unusedSimpArgs false
set_option linter.unusedVariables false
namespace Go.Ev
open Go Go.RowKit Go.Proofs
def fitsB (w : Nat) (x : Int) : Bool := decide (w = 8 ∨ (-(2 ^ (8 * w - 1) : Int) ≤ x ∧ x < 2 ^ (8 * w - 1)))
def uN (x : Int) : Nat := (x % 18446744073709551616).toNat
def leB (w : Nat) (x : Int) : List UInt8 := (List.range w).map fun j => UInt8.ofNat (uN x / 256 ^ j % 256)
theorem leB_length (w : Nat) (x : Int) : (leB w x).length = w := by simp [leB]
theorem leB_succ (w : Nat) (x : Int) : leB w x ++ [UInt8.ofNat (uN x / 256 ^ w % 256)] = leB (w + 1) x := by simp [leB, List.range_succ]
def packI (xs : List Int) (w : Nat) : List UInt8 := xs.flatMap (leB w)
theorem packI_length (xs : List Int) (w : Nat) : (packI xs w).length = w * xs.length := by
  induction xs with
  | nil => rfl
  | cons x xs ih => rw [packI, List.flatMap_cons, List.length_append, leB_length, List.length_cons, Nat.mul_add, ← ih]; simp [packI]; omega
theorem packI_succ {xs : List Int} (w : Nat) {i : Nat} (h : i < xs.length) : packI (xs.take i) w ++ leB w xs[i] = packI (xs.take (i + 1)) w := by
  rw [List.take_add_one, List.getElem?_eq_getElem h, packI, packI, List.flatMap_append]
  simp
theorem all_succ {xs : List Int} (w : Nat) {i : Nat} (h : i < xs.length) (h1 : (xs.take i).all (fitsB w) = true) (h2 : fitsB w xs[i] = true) : (xs.take (i + 1)).all (fitsB w) = true := by
  rw [List.take_add_one, List.getElem?_eq_getElem h, List.all_append, h1]
  simpa using h2
theorem all_not {xs : List Int} (w : Nat) {i : Nat} (h : i < xs.length) (h2 : fitsB w xs[i] = false) : xs.all (fitsB w) = false := by
  rw [List.all_eq_false]
  exact ⟨xs[i], List.getElem_mem h, by rw [h2]; decide⟩
def packIC (xs : List Int) (n : Int) : List UInt8 × Nat :=
  if isW n = true then (if xs.all (fitsB n.toNat) = true then (packI xs n.toNat, 0) else ([], 1)) else ([], 1)
theorem wrap_u64_eq (x : Int) : IntKind.u64.wrap x = (uN x : Int) := by
  rw [IntKind.wrap_u64, uN]; omega
theorem uN_lt (x : Int) : uN x < 18446744073709551616 := by unfold uN; omega
theorem sh_f {w : Nat} (h : w = 1 ∨ w = 2 ∨ w = 4) : IntKind.i64.wrap (1 * 2 ^ min (IntKind.u64.wrap (IntKind.i64.wrap (IntKind.i64.wrap (8 * (w : Int)) - 1))).toNat 64) = 2 ^ (8 * w - 1) := by
  rcases h with rfl | rfl | rfl <;> decide
theorem ng_f {w : Nat} (h : w = 1 ∨ w = 2 ∨ w = 4) : IntKind.i64.wrap (0 - (2 ^ (8 * w - 1) : Int)) = -(2 ^ (8 * w - 1) : Int) := by
  rcases h with rfl | rfl | rfl <;> decide
theorem c_l1fits (x : Int) (w : Nat) (hw : w = 1 ∨ w = 2 ∨ w = 4 ∨ w = 8) : Meets Try.prog 166 [.v (.int .i64 x), .v (.int .i64 w)] (fun r => r = .v (.bool (fitsB w x))) := by
  refine Meets.intro mixed (hint []) Try.func166 rfl (by decide) res_166 rty_166 (by kernel_rfl) ?_; 
  simp -dsimp -implicitDefEqProofs only [go_sem, Nat.reduceBEq, Nat.reduceAdd, Nat.reduceLeDiff, Nat.reduceSub, Int.reduceEq]
  refine ifB'.of (fun h8 => ?_) (fun h8 => ?_)
  · obtain rfl : w = 8 := by omega
    simp -dsimp -implicitDefEqProofs only [go_sem, Nat.reduceBEq, Nat.reduceAdd, Nat.reduceLeDiff, Nat.reduceSub, Int.reduceEq, show fitsB 8 x = true from rfl]
  have hw : w = 1 ∨ w = 2 ∨ w = 4 := by omega
  have e : fitsB w x = (decide (-(2 ^ (8 * w - 1) : Int) ≤ x) && decide (x < 2 ^ (8 * w - 1))) := by
    unfold fitsB
    rw [← Bool.decide_and]
    exact decide_eq_decide.2 ⟨fun h => h.resolve_left (by omega), .inr⟩
  simp -dsimp -implicitDefEqProofs only [go_sem, Nat.reduceBEq, Nat.reduceAdd, Nat.reduceLeDiff, Nat.reduceSub, Int.reduceEq, sh_f hw, ng_f hw, e]
  refine ifB'.of (fun h1 => ?_) (fun h1 => ?_)
  · simp -dsimp -implicitDefEqProofs only [go_sem, Nat.reduceBEq, Nat.reduceAdd, Nat.reduceLeDiff, Nat.reduceSub, Int.reduceEq, sh_f hw, decide_eq_true h1, Bool.true_and]
  · simp -dsimp -implicitDefEqProofs only [go_sem, Nat.reduceBEq, Nat.reduceAdd, Nat.reduceLeDiff, Nat.reduceSub, Int.reduceEq, decide_eq_false h1, Bool.false_and]
theorem c_l1little (x : Int) (w : Nat) (hw : w ≤ 8) : Meets Try.prog 91 [.v (.int .i64 x), .v (.int .i64 w)] (fun r => r = rowB (leB w x)) := by
  refine Meets.intro mixed (hint [(6, 122)]) Try.func91 rfl (by decide) res_91 rty_91 (by kernel_rfl) ?_; 
  simp -dsimp -implicitDefEqProofs only [go_sem, Nat.reduceBEq, Nat.reduceAdd, Nat.reduceLeDiff, Nat.reduceSub, Int.reduceEq]
  refine LoopE.cnt w (fun i s => s.env 1 = .v (.int .i64 w) ∧ s.env 5 = .v (.int .u64 ((uN x / 256 ^ i : Nat) : Int)) ∧ s.env 7 = .v (.int .i64 i) ∧ s.env 6 = .ref [6] ∧ s.σ [6] = some (.row 5 1 (bytesA (leB i x)))) ⟨by simp -dsimp -implicitDefEqProofs only [go_sem, Nat.reduceBEq, Nat.reduceAdd, Nat.reduceLeDiff, Nat.reduceSub, Int.reduceEq, initE], by simp -dsimp -implicitDefEqProofs only [go_sem, Nat.reduceBEq, Nat.reduceAdd, Nat.reduceLeDiff, Nat.reduceSub, Int.reduceEq, wrap_u64_eq] <;> simp, by simp -dsimp -implicitDefEqProofs only [go_sem, Nat.reduceBEq, Nat.reduceAdd, Nat.reduceLeDiff, Nat.reduceSub, Int.reduceEq] <;> simp, by simp -dsimp -implicitDefEqProofs only [go_sem, Nat.reduceBEq, Nat.reduceAdd, Nat.reduceLeDiff, Nat.reduceSub, Int.reduceEq], by simp -dsimp -implicitDefEqProofs only [go_sem, Nat.reduceBEq, Nat.reduceAdd, Nat.reduceLeDiff, Nat.reduceSub, Int.reduceEq]; rfl⟩ ?_
  rintro i ⟨e, σ⟩ hi ⟨h1, h5, h7, h6, hs⟩ K hK
  simp only at h1 h5 h7 h6 hs
  simp -dsimp -implicitDefEqProofs only [go_sem, Nat.reduceBEq, Nat.reduceAdd, Nat.reduceLeDiff, Nat.reduceSub, Int.reduceEq, h1, h5, h7, h6, hs]
  refine ifB'.of (fun hlt => ?_) (fun hlt => ?_)
  · have hlt : i < w := by omega
    have hu := uN_lt x
    have hu2 : uN x / 256 ^ i ≤ uN x := Nat.div_le_self _ _
    have e1 : ((uN x / 256 ^ i : Nat) : Int).tmod 256 = ((uN x / 256 ^ i % 256 : Nat) : Int) := rfl
    have e2 : IntKind.u64.wrap (((uN x / 256 ^ i : Nat) : Int).tdiv 256) = ((uN x / 256 ^ (i + 1) : Nat) : Int) := by
      rw [Nat.pow_succ, ← Nat.div_div_eq_div_mul]
      generalize uN x / 256 ^ i = y at *
      rw [IntKind.wrap_u64, Int.tdiv_eq_ediv_of_nonneg (by omega)]; omega
    simp -dsimp -implicitDefEqProofs only [go_sem, Nat.reduceBEq, Nat.reduceAdd, Nat.reduceLeDiff, Nat.reduceSub, Int.reduceEq, h1, h5, h7, h6, hs, e1, e2, u8_of_nat, leB_length]
    repeat with_reducible refine ask.of (by omega) ?_
    refine hK _ hlt ?_
    simp -dsimp -implicitDefEqProofs only [go_sem, Nat.reduceBEq, Nat.reduceAdd, Nat.reduceLeDiff, Nat.reduceSub, Int.reduceEq, h1, h5, h7, h6, hs, wrap_succ (show i < 4611686018427387904 by omega), e2, leB_succ]
  · obtain rfl : i = w := by omega
    simp -dsimp -implicitDefEqProofs only [go_sem, Nat.reduceBEq, Nat.reduceAdd, Nat.reduceLeDiff, Nat.reduceSub, Int.reduceEq, h1, h5, h7, h6, hs]
theorem c_specPackInts (xs : List Int) (n : Int) (hx : xs.length ≤ 1048576) : Meets Try.prog 140 [rowI xs, .v (.int .i64 n)] (fun r => r = .tup [rowB (packIC xs n).1, .v (.int .i64 (packIC xs n).2)]) := by
  refine Meets.intro mixed (hint [(6, 122)]) Try.func140 rfl (by decide) res_140 rty_140 (by kernel_rfl) ?_; 
  simp -dsimp -implicitDefEqProofs only [go_sem, Nat.reduceBEq, Nat.reduceAdd, Nat.reduceLeDiff, Nat.reduceSub, Int.reduceEq]
  refine CallE.of (c_l1width n) (by rintro r rfl; (repeat' first | exact trivial | exact pure_rowB _ | exact pure_rowO _ | exact pure_rowI _ | exact pure_rowBB _ | exact pure_rowPk _ _ | exact pure_rowSn _ _ | exact pure_rowFd _ _ | exact pure_rowBBB _ | exact pure_rowCl _ _ | exact pure_rowTb _ _ _ | refine And.intro ?_ ?_)) (by simp -dsimp -implicitDefEqProofs only [go_sem, Nat.reduceBEq, Nat.reduceAdd, Nat.reduceLeDiff, Nat.reduceSub, Int.reduceEq]) ?_
  rintro r rfl
  simp -dsimp -implicitDefEqProofs only [go_sem, Nat.reduceBEq, Nat.reduceAdd, Nat.reduceLeDiff, Nat.reduceSub, Int.reduceEq]
  cases hw : isW n
  · simp -dsimp -implicitDefEqProofs only [go_sem, Nat.reduceBEq, Nat.reduceAdd, Nat.reduceLeDiff, Nat.reduceSub, Int.reduceEq, hw, Bool.not_false]
    rw [packIC, hw]; rfl
  obtain ⟨w, rfl, hW⟩ := isW_nat hw
  have fin := packIC.eq_1 xs w
  rw [if_pos hw, Int.toNat_natCast] at fin
  simp -dsimp -implicitDefEqProofs only [go_sem, Nat.reduceBEq, Nat.reduceAdd, Nat.reduceLeDiff, Nat.reduceSub, Int.reduceEq, hw, Bool.not_true]
  refine LoopE.cnt xs.length (fun i s => s.env 0 = .rd .ent 3 1 (ra intC xs) ∧ s.env 1 = .v (.int .i64 w) ∧ s.env 7 = .v (.int .i64 i) ∧ s.env 6 = .ref [6] ∧ s.σ [6] = some (.row 5 1 (bytesA (packI (xs.take i) w))) ∧ (xs.take i).all (fitsB w) = true) ⟨by simp -dsimp -implicitDefEqProofs only [go_sem, Nat.reduceBEq, Nat.reduceAdd, Nat.reduceLeDiff, Nat.reduceSub, Int.reduceEq, initE], by simp -dsimp -implicitDefEqProofs only [go_sem, Nat.reduceBEq, Nat.reduceAdd, Nat.reduceLeDiff, Nat.reduceSub, Int.reduceEq, initE], by simp -dsimp -implicitDefEqProofs only [go_sem, Nat.reduceBEq, Nat.reduceAdd, Nat.reduceLeDiff, Nat.reduceSub, Int.reduceEq] <;> simp, by simp -dsimp -implicitDefEqProofs only [go_sem, Nat.reduceBEq, Nat.reduceAdd, Nat.reduceLeDiff, Nat.reduceSub, Int.reduceEq], by simp -dsimp -implicitDefEqProofs only [go_sem, Nat.reduceBEq, Nat.reduceAdd, Nat.reduceLeDiff, Nat.reduceSub, Int.reduceEq]; rfl, by simp⟩ ?_
  rintro i ⟨e, σ⟩ hi ⟨h0, h1, h7, h6, hs, hz⟩ K hK
  simp only at h0 h1 h7 h6 hs
  simp -dsimp -implicitDefEqProofs only [go_sem, Nat.reduceBEq, Nat.reduceAdd, Nat.reduceLeDiff, Nat.reduceSub, Int.reduceEq, h0, h1, h7, h6, hs]
  refine ifB'.of (fun hlt => ?_) (fun hlt => ?_)
  · have hlt : i < xs.length := by omega
    simp -dsimp -implicitDefEqProofs only [go_sem, Nat.reduceBEq, Nat.reduceAdd, Nat.reduceLeDiff, Nat.reduceSub, Int.reduceEq, h0, h1, h7, h6, hs, intA_at hlt]
    repeat with_reducible refine ask.of (by omega) ?_
    refine CallE.of (c_l1fits xs[i] w hW) (by rintro r rfl; (repeat' first | exact trivial | exact pure_rowB _ | exact pure_rowO _ | exact pure_rowI _ | exact pure_rowBB _ | exact pure_rowPk _ _ | exact pure_rowSn _ _ | exact pure_rowFd _ _ | exact pure_rowBBB _ | exact pure_rowCl _ _ | exact pure_rowTb _ _ _ | refine And.intro ?_ ?_)) (by simp -dsimp -implicitDefEqProofs only [go_sem, Nat.reduceBEq, Nat.reduceAdd, Nat.reduceLeDiff, Nat.reduceSub, Int.reduceEq, h0, h1, h7, h6, hs, intA_at hlt]) ?_
    rintro r rfl
    simp -dsimp -implicitDefEqProofs only [go_sem, Nat.reduceBEq, Nat.reduceAdd, Nat.reduceLeDiff, Nat.reduceSub, Int.reduceEq, h0, h1, h7, h6, hs, intA_at hlt]
    cases hf : fitsB w xs[i]
    · simp -dsimp -implicitDefEqProofs only [go_sem, Nat.reduceBEq, Nat.reduceAdd, Nat.reduceLeDiff, Nat.reduceSub, Int.reduceEq, h0, h1, h7, h6, hs, hf, Bool.not_false]
      rw [fin, all_not w hlt hf]; rfl
    simp -dsimp -implicitDefEqProofs only [go_sem, Nat.reduceBEq, Nat.reduceAdd, Nat.reduceLeDiff, Nat.reduceSub, Int.reduceEq, h0, h1, h7, h6, hs, hf, Bool.not_true, intA_at hlt]
    repeat with_reducible refine ask.of (by omega) ?_
    refine CallE.of (c_l1little xs[i] w (by omega)) (by rintro r rfl; (repeat' first | exact trivial | exact pure_rowB _ | exact pure_rowO _ | exact pure_rowI _ | exact pure_rowBB _ | exact pure_rowPk _ _ | exact pure_rowSn _ _ | exact pure_rowFd _ _ | exact pure_rowBBB _ | exact pure_rowCl _ _ | exact pure_rowTb _ _ _ | refine And.intro ?_ ?_)) (by simp -dsimp -implicitDefEqProofs only [go_sem, Nat.reduceBEq, Nat.reduceAdd, Nat.reduceLeDiff, Nat.reduceSub, Int.reduceEq, h0, h1, h7, h6, hs]) ?_
    rintro r rfl
    simp -dsimp -implicitDefEqProofs only [go_sem, Nat.reduceBEq, Nat.reduceAdd, Nat.reduceLeDiff, Nat.reduceSub, Int.reduceEq, h0, h1, h7, h6, hs]
    have hq : w * i ≤ 8 * i := Nat.mul_le_mul_right i (by omega)
    simp -dsimp -implicitDefEqProofs only [go_sem, Nat.reduceBEq, Nat.reduceAdd, Nat.reduceLeDiff, Nat.reduceSub, Int.reduceEq, h0, h1, h7, h6, hs, packI_length, leB_length, List.length_take, Nat.min_eq_left hi]
    repeat with_reducible refine ask.of (by omega) ?_
    refine hK _ hlt ?_
    simp -dsimp -implicitDefEqProofs only [go_sem, Nat.reduceBEq, Nat.reduceAdd, Nat.reduceLeDiff, Nat.reduceSub, Int.reduceEq, h0, h1, h7, h6, hs, wrap_succ (show i < 4611686018427387904 by omega), packI_succ w hlt, all_succ w hlt hz hf]
  · obtain rfl : i = xs.length := by omega
    rw [List.take_length] at hz hs
    rw [if_pos hz] at fin
    simp -dsimp -implicitDefEqProofs only [go_sem, Nat.reduceBEq, Nat.reduceAdd, Nat.reduceLeDiff, Nat.reduceSub, Int.reduceEq, h0, h1, h7, h6, hs, fin]
end Go.Ev
set_option linter.unusedSimpArgs false
set_option linter.unusedVariables false
namespace Go.Ev
open Go Go.RowKit Go.Proofs
theorem shr_byte (x : Int) (j : Nat) : (x / 256 ^ j).fdiv (2 ^ min (Int.toNat 8) 64) = x / 256 ^ (j + 1) := by
  have e : (2 : Int) ^ min (Int.toNat 8) 64 = 256 := rfl
  rw [e, Int.fdiv_eq_ediv_of_nonneg _ (by decide), Int.pow_succ, Int.ediv_ediv_of_nonneg (Int.le_of_lt (Int.pow_pos (by decide)))]
theorem u8_byte (x : Int) {j : Nat} (hj : j < 8) : IntKind.u8.wrap (x / 256 ^ j) = ((UInt8.ofNat (uN x / 256 ^ j % 256)).toNat : Int) := by
  have e : IntKind.u8.wrap (x / 256 ^ j) = x / 256 ^ j % 256 := by
    simp [IntKind.wrap, IntKind.bits, IntKind.signed]
  have e2 : ((UInt8.ofNat (uN x / 256 ^ j % 256)).toNat : Int) = ((uN x / 256 ^ j % 256 : Nat) : Int) := by simp
  rw [e, e2, uN]
  match j, hj with
  | 0, _ => simp only [Nat.pow_zero, Int.pow_zero, Nat.div_one, Int.ediv_one]; omega
  | 1, _ => simp only [Nat.reducePow, Int.reducePow]; omega
  | 2, _ => simp only [Nat.reducePow, Int.reducePow]; omega
  | 3, _ => simp only [Nat.reducePow, Int.reducePow]; omega
  | 4, _ => simp only [Nat.reducePow, Int.reducePow]; omega
  | 5, _ => simp only [Nat.reducePow, Int.reducePow]; omega
  | 6, _ => simp only [Nat.reducePow, Int.reducePow]; omega
  | 7, _ => simp only [Nat.reducePow, Int.reducePow]; omega
theorem back_i8 {x : Int} (hx : -9223372036854775808 ≤ x ∧ x ≤ 9223372036854775807) : decide (IntKind.i64.wrap (IntKind.i8.wrap x) = x) = fitsB 1 x := by
  have e0 : -128 ≤ IntKind.i8.wrap x ∧ IntKind.i8.wrap x ≤ 127 ∧ (IntKind.i8.wrap x = x ↔ -128 ≤ x ∧ x ≤ 127) := by
    simp [IntKind.wrap, IntKind.bits, IntKind.signed]
    split <;> omega
  rw [wrap_i64_of (by omega) (by omega)]
  unfold fitsB
  refine decide_eq_decide.2 ?_
  rw [e0.2.2]
  simp
  omega
theorem back_i16 {x : Int} (hx : -9223372036854775808 ≤ x ∧ x ≤ 9223372036854775807) : decide (IntKind.i64.wrap (IntKind.i16.wrap x) = x) = fitsB 2 x := by
  have e0 : -32768 ≤ IntKind.i16.wrap x ∧ IntKind.i16.wrap x ≤ 32767 ∧ (IntKind.i16.wrap x = x ↔ -32768 ≤ x ∧ x ≤ 32767) := by
    simp [IntKind.wrap, IntKind.bits, IntKind.signed]
    split <;> omega
  rw [wrap_i64_of (by omega) (by omega)]
  unfold fitsB
  refine decide_eq_decide.2 ?_
  rw [e0.2.2]
  simp
  omega
theorem back_i32 {x : Int} (hx : -9223372036854775808 ≤ x ∧ x ≤ 9223372036854775807) : decide (IntKind.i64.wrap (IntKind.i32.wrap x) = x) = fitsB 4 x := by
  have e0 : -2147483648 ≤ IntKind.i32.wrap x ∧ IntKind.i32.wrap x ≤ 2147483647 ∧ (IntKind.i32.wrap x = x ↔ -2147483648 ≤ x ∧ x ≤ 2147483647) := by
    simp [IntKind.wrap, IntKind.bits, IntKind.signed]
    split <;> omega
  rw [wrap_i64_of (by omega) (by omega)]
  unfold fitsB
  refine decide_eq_decide.2 ?_
  rw [e0.2.2]
  simp
  omega
theorem c_packed_i8 (xs : List Int) (hx : xs.length ≤ 1048576) (hr : ∀ x ∈ xs, -9223372036854775808 ≤ x ∧ x ≤ 9223372036854775807) : Meets Try.prog 184 [rowI xs, .v (.int .i64 1)] (fun r => r = .tup [rowB (packIC xs 1).1, .v (.int .i64 (packIC xs 1).2)]) := by
  have hw : isW 1 = true := rfl
  have fin := packIC.eq_1 xs 1
  rw [if_pos hw, show (1 : Int).toNat = 1 from rfl] at fin
  have em : IntKind.i64.wrap ((xs.length : Int) * 1) = ((1 * xs.length : Nat) : Int) := by rw [wrap_i64_of (by omega) (by omega)]; omega
  refine Meets.intro mixed (hint []) Try.func184 rfl (by decide) res_184 rty_184 (by kernel_rfl) ?_; 
  simp -dsimp -implicitDefEqProofs only [go_sem, Nat.reduceBEq, Nat.reduceAdd, Nat.reduceLeDiff, Nat.reduceSub, Int.reduceEq, em]
  repeat with_reducible refine ask.of (by omega) ?_
  refine LoopE.cnt xs.length (fun i s => s.env 15 = .rd .ent 3 1 (ra intC xs) ∧ s.env 1 = .v (.int .i64 1) ∧ s.env 16 = .v (.int .i64 xs.length) ∧ s.env 17 = .v (.int .i64 i) ∧ s.env 6 = .ref [14] ∧ s.σ [14] = some (.row 5 1 (bytesA (packI (xs.take i) 1))) ∧ (xs.take i).all (fitsB 1) = true) ⟨by simp -dsimp -implicitDefEqProofs only [go_sem, Nat.reduceBEq, Nat.reduceAdd, Nat.reduceLeDiff, Nat.reduceSub, Int.reduceEq, initE], by simp -dsimp -implicitDefEqProofs only [go_sem, Nat.reduceBEq, Nat.reduceAdd, Nat.reduceLeDiff, Nat.reduceSub, Int.reduceEq, initE], by simp -dsimp -implicitDefEqProofs only [go_sem, Nat.reduceBEq, Nat.reduceAdd, Nat.reduceLeDiff, Nat.reduceSub, Int.reduceEq], by simp -dsimp -implicitDefEqProofs only [go_sem, Nat.reduceBEq, Nat.reduceAdd, Nat.reduceLeDiff, Nat.reduceSub, Int.reduceEq] <;> simp, by simp -dsimp -implicitDefEqProofs only [go_sem, Nat.reduceBEq, Nat.reduceAdd, Nat.reduceLeDiff, Nat.reduceSub, Int.reduceEq], by simp -dsimp -implicitDefEqProofs only [go_sem, Nat.reduceBEq, Nat.reduceAdd, Nat.reduceLeDiff, Nat.reduceSub, Int.reduceEq]; rfl, by simp⟩ ?_
  rintro i ⟨e, σ⟩ hi ⟨h15, h1, h16, h17, h6, hs, hz⟩ K hK
  simp only at h15 h1 h16 h17 h6 hs
  simp -dsimp -implicitDefEqProofs only [go_sem, Nat.reduceBEq, Nat.reduceAdd, Nat.reduceLeDiff, Nat.reduceSub, Int.reduceEq, h15, h1, h16, h17, h6, hs]
  refine ifB'.of (fun hlt => ?_) (fun hlt => ?_)
  · have hlt : i < xs.length := by omega
    have hv := hr xs[i] (List.getElem_mem hlt)
    have hd : decide (IntKind.i64.wrap (IntKind.i8.wrap xs[i]) = xs[i]) = fitsB 1 xs[i] := back_i8 hv
    simp -dsimp -implicitDefEqProofs only [go_sem, Nat.reduceBEq, Nat.reduceAdd, Nat.reduceLeDiff, Nat.reduceSub, Int.reduceEq, h15, h1, h16, h17, h6, hs, intA_at hlt, hd]
    repeat with_reducible refine ask.of (by omega) ?_
    cases hf : fitsB 1 xs[i]
    · simp -dsimp -implicitDefEqProofs only [go_sem, Nat.reduceBEq, Nat.reduceAdd, Nat.reduceLeDiff, Nat.reduceSub, Int.reduceEq, h15, h1, h16, h17, h6, hs, hf]
      rw [fin, all_not 1 hlt hf]; rfl
    simp -dsimp -implicitDefEqProofs only [go_sem, Nat.reduceBEq, Nat.reduceAdd, Nat.reduceLeDiff, Nat.reduceSub, Int.reduceEq, h15, h1, h16, h17, h6, hs, hf]
    refine LoopE.cnt 1 (fun j s => s.env 15 = .rd .ent 3 1 (ra intC xs) ∧ s.env 1 = .v (.int .i64 1) ∧ s.env 16 = .v (.int .i64 xs.length) ∧ s.env 17 = .v (.int .i64 i) ∧ s.env 27 = .v (.int .i64 1) ∧ s.env 28 = .v (.int .i64 j) ∧ s.env 8 = .v (.int .i64 (xs[i] / 256 ^ j)) ∧ s.env 6 = .ref [14] ∧ s.σ [14] = some (.row 5 1 (bytesA (packI (xs.take i) 1 ++ leB j xs[i])))) ⟨by simp -dsimp -implicitDefEqProofs only [go_sem, Nat.reduceBEq, Nat.reduceAdd, Nat.reduceLeDiff, Nat.reduceSub, Int.reduceEq, h15, h1, h16, h17, h6, hs], by simp -dsimp -implicitDefEqProofs only [go_sem, Nat.reduceBEq, Nat.reduceAdd, Nat.reduceLeDiff, Nat.reduceSub, Int.reduceEq, h15, h1, h16, h17, h6, hs], by simp -dsimp -implicitDefEqProofs only [go_sem, Nat.reduceBEq, Nat.reduceAdd, Nat.reduceLeDiff, Nat.reduceSub, Int.reduceEq, h15, h1, h16, h17, h6, hs], by simp -dsimp -implicitDefEqProofs only [go_sem, Nat.reduceBEq, Nat.reduceAdd, Nat.reduceLeDiff, Nat.reduceSub, Int.reduceEq, h15, h1, h16, h17, h6, hs], by simp -dsimp -implicitDefEqProofs only [go_sem, Nat.reduceBEq, Nat.reduceAdd, Nat.reduceLeDiff, Nat.reduceSub, Int.reduceEq, h15, h1, h16, h17, h6, hs], by simp -dsimp -implicitDefEqProofs only [go_sem, Nat.reduceBEq, Nat.reduceAdd, Nat.reduceLeDiff, Nat.reduceSub, Int.reduceEq, h15, h1, h16, h17, h6, hs] <;> simp, by simp -dsimp -implicitDefEqProofs only [go_sem, Nat.reduceBEq, Nat.reduceAdd, Nat.reduceLeDiff, Nat.reduceSub, Int.reduceEq, h15, h1, h16, h17, h6, hs] <;> simp, by simp -dsimp -implicitDefEqProofs only [go_sem, Nat.reduceBEq, Nat.reduceAdd, Nat.reduceLeDiff, Nat.reduceSub, Int.reduceEq, h15, h1, h16, h17, h6, hs], by simp -dsimp -implicitDefEqProofs only [go_sem, Nat.reduceBEq, Nat.reduceAdd, Nat.reduceLeDiff, Nat.reduceSub, Int.reduceEq, h15, h1, h16, h17, h6, hs] <;> simp [leB]⟩ ?_
    rintro j ⟨e, σ⟩ hj ⟨h15, h1, h16, h17, ha, hb, h8, h6, hs⟩ K' hK'
    simp only at h15 h1 h16 h17 ha hb h8 h6 hs
    simp -dsimp -implicitDefEqProofs only [go_sem, Nat.reduceBEq, Nat.reduceAdd, Nat.reduceLeDiff, Nat.reduceSub, Int.reduceEq, h15, h1, h16, h17, ha, hb, h8, h6, hs]
    refine ifB'.of (fun hjt => ?_) (fun hjt => ?_)
    · have hjt : j < 1 := by omega
      simp -dsimp -implicitDefEqProofs only [go_sem, Nat.reduceBEq, Nat.reduceAdd, Nat.reduceLeDiff, Nat.reduceSub, Int.reduceEq, h15, h1, h16, h17, ha, hb, h8, h6, hs, u8_byte xs[i] (show j < 8 by omega), List.length_append, packI_length, leB_length, List.length_take, Nat.min_eq_left hi]
      repeat with_reducible refine ask.of (by omega) ?_
      refine hK' _ hjt ?_
      simp -dsimp -implicitDefEqProofs only [go_sem, Nat.reduceBEq, Nat.reduceAdd, Nat.reduceLeDiff, Nat.reduceSub, Int.reduceEq, h15, h1, h16, h17, ha, hb, h8, h6, hs, wrap_succ (show j < 4611686018427387904 by omega), shr_byte, List.append_assoc, leB_succ]
    · obtain rfl : j = 1 := by omega
      simp -dsimp -implicitDefEqProofs only [go_sem, Nat.reduceBEq, Nat.reduceAdd, Nat.reduceLeDiff, Nat.reduceSub, Int.reduceEq, h15, h1, h16, h17, ha, hb, h8, h6, hs]
      refine hK _ hlt ?_
      simp -dsimp -implicitDefEqProofs only [go_sem, Nat.reduceBEq, Nat.reduceAdd, Nat.reduceLeDiff, Nat.reduceSub, Int.reduceEq, h15, h1, h16, h17, ha, hb, h8, h6, hs, wrap_succ (show i < 4611686018427387904 by omega), packI_succ 1 hlt, all_succ 1 hlt hz hf]
  · obtain rfl : i = xs.length := by omega
    rw [List.take_length] at hz hs
    rw [if_pos hz] at fin
    simp -dsimp -implicitDefEqProofs only [go_sem, Nat.reduceBEq, Nat.reduceAdd, Nat.reduceLeDiff, Nat.reduceSub, Int.reduceEq, h15, h1, h16, h17, h6, hs, fin]
theorem c_packed_i16 (xs : List Int) (hx : xs.length ≤ 1048576) (hr : ∀ x ∈ xs, -9223372036854775808 ≤ x ∧ x ≤ 9223372036854775807) : Meets Try.prog 185 [rowI xs, .v (.int .i64 2)] (fun r => r = .tup [rowB (packIC xs 2).1, .v (.int .i64 (packIC xs 2).2)]) := by
  have hw : isW 2 = true := rfl
  have fin := packIC.eq_1 xs 2
  rw [if_pos hw, show (2 : Int).toNat = 2 from rfl] at fin
  have em : IntKind.i64.wrap ((xs.length : Int) * 2) = ((2 * xs.length : Nat) : Int) := by rw [wrap_i64_of (by omega) (by omega)]; omega
  refine Meets.intro mixed (hint []) Try.func185 rfl (by decide) res_185 rty_185 (by kernel_rfl) ?_; 
  simp -dsimp -implicitDefEqProofs only [go_sem, Nat.reduceBEq, Nat.reduceAdd, Nat.reduceLeDiff, Nat.reduceSub, Int.reduceEq, em]
  repeat with_reducible refine ask.of (by omega) ?_
  refine LoopE.cnt xs.length (fun i s => s.env 15 = .rd .ent 3 1 (ra intC xs) ∧ s.env 1 = .v (.int .i64 2) ∧ s.env 16 = .v (.int .i64 xs.length) ∧ s.env 17 = .v (.int .i64 i) ∧ s.env 6 = .ref [14] ∧ s.σ [14] = some (.row 5 1 (bytesA (packI (xs.take i) 2))) ∧ (xs.take i).all (fitsB 2) = true) ⟨by simp -dsimp -implicitDefEqProofs only [go_sem, Nat.reduceBEq, Nat.reduceAdd, Nat.reduceLeDiff, Nat.reduceSub, Int.reduceEq, initE], by simp -dsimp -implicitDefEqProofs only [go_sem, Nat.reduceBEq, Nat.reduceAdd, Nat.reduceLeDiff, Nat.reduceSub, Int.reduceEq, initE], by simp -dsimp -implicitDefEqProofs only [go_sem, Nat.reduceBEq, Nat.reduceAdd, Nat.reduceLeDiff, Nat.reduceSub, Int.reduceEq], by simp -dsimp -implicitDefEqProofs only [go_sem, Nat.reduceBEq, Nat.reduceAdd, Nat.reduceLeDiff, Nat.reduceSub, Int.reduceEq] <;> simp, by simp -dsimp -implicitDefEqProofs only [go_sem, Nat.reduceBEq, Nat.reduceAdd, Nat.reduceLeDiff, Nat.reduceSub, Int.reduceEq], by simp -dsimp -implicitDefEqProofs only [go_sem, Nat.reduceBEq, Nat.reduceAdd, Nat.reduceLeDiff, Nat.reduceSub, Int.reduceEq]; rfl, by simp⟩ ?_
  rintro i ⟨e, σ⟩ hi ⟨h15, h1, h16, h17, h6, hs, hz⟩ K hK
  simp only at h15 h1 h16 h17 h6 hs
  simp -dsimp -implicitDefEqProofs only [go_sem, Nat.reduceBEq, Nat.reduceAdd, Nat.reduceLeDiff, Nat.reduceSub, Int.reduceEq, h15, h1, h16, h17, h6, hs]
  refine ifB'.of (fun hlt => ?_) (fun hlt => ?_)
  · have hlt : i < xs.length := by omega
    have hv := hr xs[i] (List.getElem_mem hlt)
    have hd : decide (IntKind.i64.wrap (IntKind.i16.wrap xs[i]) = xs[i]) = fitsB 2 xs[i] := back_i16 hv
    simp -dsimp -implicitDefEqProofs only [go_sem, Nat.reduceBEq, Nat.reduceAdd, Nat.reduceLeDiff, Nat.reduceSub, Int.reduceEq, h15, h1, h16, h17, h6, hs, intA_at hlt, hd]
    repeat with_reducible refine ask.of (by omega) ?_
    cases hf : fitsB 2 xs[i]
    · simp -dsimp -implicitDefEqProofs only [go_sem, Nat.reduceBEq, Nat.reduceAdd, Nat.reduceLeDiff, Nat.reduceSub, Int.reduceEq, h15, h1, h16, h17, h6, hs, hf]
      rw [fin, all_not 2 hlt hf]; rfl
    simp -dsimp -implicitDefEqProofs only [go_sem, Nat.reduceBEq, Nat.reduceAdd, Nat.reduceLeDiff, Nat.reduceSub, Int.reduceEq, h15, h1, h16, h17, h6, hs, hf]
    refine LoopE.cnt 2 (fun j s => s.env 15 = .rd .ent 3 1 (ra intC xs) ∧ s.env 1 = .v (.int .i64 2) ∧ s.env 16 = .v (.int .i64 xs.length) ∧ s.env 17 = .v (.int .i64 i) ∧ s.env 27 = .v (.int .i64 2) ∧ s.env 28 = .v (.int .i64 j) ∧ s.env 8 = .v (.int .i64 (xs[i] / 256 ^ j)) ∧ s.env 6 = .ref [14] ∧ s.σ [14] = some (.row 5 1 (bytesA (packI (xs.take i) 2 ++ leB j xs[i])))) ⟨by simp -dsimp -implicitDefEqProofs only [go_sem, Nat.reduceBEq, Nat.reduceAdd, Nat.reduceLeDiff, Nat.reduceSub, Int.reduceEq, h15, h1, h16, h17, h6, hs], by simp -dsimp -implicitDefEqProofs only [go_sem, Nat.reduceBEq, Nat.reduceAdd, Nat.reduceLeDiff, Nat.reduceSub, Int.reduceEq, h15, h1, h16, h17, h6, hs], by simp -dsimp -implicitDefEqProofs only [go_sem, Nat.reduceBEq, Nat.reduceAdd, Nat.reduceLeDiff, Nat.reduceSub, Int.reduceEq, h15, h1, h16, h17, h6, hs], by simp -dsimp -implicitDefEqProofs only [go_sem, Nat.reduceBEq, Nat.reduceAdd, Nat.reduceLeDiff, Nat.reduceSub, Int.reduceEq, h15, h1, h16, h17, h6, hs], by simp -dsimp -implicitDefEqProofs only [go_sem, Nat.reduceBEq, Nat.reduceAdd, Nat.reduceLeDiff, Nat.reduceSub, Int.reduceEq, h15, h1, h16, h17, h6, hs], by simp -dsimp -implicitDefEqProofs only [go_sem, Nat.reduceBEq, Nat.reduceAdd, Nat.reduceLeDiff, Nat.reduceSub, Int.reduceEq, h15, h1, h16, h17, h6, hs] <;> simp, by simp -dsimp -implicitDefEqProofs only [go_sem, Nat.reduceBEq, Nat.reduceAdd, Nat.reduceLeDiff, Nat.reduceSub, Int.reduceEq, h15, h1, h16, h17, h6, hs] <;> simp, by simp -dsimp -implicitDefEqProofs only [go_sem, Nat.reduceBEq, Nat.reduceAdd, Nat.reduceLeDiff, Nat.reduceSub, Int.reduceEq, h15, h1, h16, h17, h6, hs], by simp -dsimp -implicitDefEqProofs only [go_sem, Nat.reduceBEq, Nat.reduceAdd, Nat.reduceLeDiff, Nat.reduceSub, Int.reduceEq, h15, h1, h16, h17, h6, hs] <;> simp [leB]⟩ ?_
    rintro j ⟨e, σ⟩ hj ⟨h15, h1, h16, h17, ha, hb, h8, h6, hs⟩ K' hK'
    simp only at h15 h1 h16 h17 ha hb h8 h6 hs
    simp -dsimp -implicitDefEqProofs only [go_sem, Nat.reduceBEq, Nat.reduceAdd, Nat.reduceLeDiff, Nat.reduceSub, Int.reduceEq, h15, h1, h16, h17, ha, hb, h8, h6, hs]
    refine ifB'.of (fun hjt => ?_) (fun hjt => ?_)
    · have hjt : j < 2 := by omega
      simp -dsimp -implicitDefEqProofs only [go_sem, Nat.reduceBEq, Nat.reduceAdd, Nat.reduceLeDiff, Nat.reduceSub, Int.reduceEq, h15, h1, h16, h17, ha, hb, h8, h6, hs, u8_byte xs[i] (show j < 8 by omega), List.length_append, packI_length, leB_length, List.length_take, Nat.min_eq_left hi]
      repeat with_reducible refine ask.of (by omega) ?_
      refine hK' _ hjt ?_
      simp -dsimp -implicitDefEqProofs only [go_sem, Nat.reduceBEq, Nat.reduceAdd, Nat.reduceLeDiff, Nat.reduceSub, Int.reduceEq, h15, h1, h16, h17, ha, hb, h8, h6, hs, wrap_succ (show j < 4611686018427387904 by omega), shr_byte, List.append_assoc, leB_succ]
    · obtain rfl : j = 2 := by omega
      simp -dsimp -implicitDefEqProofs only [go_sem, Nat.reduceBEq, Nat.reduceAdd, Nat.reduceLeDiff, Nat.reduceSub, Int.reduceEq, h15, h1, h16, h17, ha, hb, h8, h6, hs]
      refine hK _ hlt ?_
      simp -dsimp -implicitDefEqProofs only [go_sem, Nat.reduceBEq, Nat.reduceAdd, Nat.reduceLeDiff, Nat.reduceSub, Int.reduceEq, h15, h1, h16, h17, ha, hb, h8, h6, hs, wrap_succ (show i < 4611686018427387904 by omega), packI_succ 2 hlt, all_succ 2 hlt hz hf]
  · obtain rfl : i = xs.length := by omega
    rw [List.take_length] at hz hs
    rw [if_pos hz] at fin
    simp -dsimp -implicitDefEqProofs only [go_sem, Nat.reduceBEq, Nat.reduceAdd, Nat.reduceLeDiff, Nat.reduceSub, Int.reduceEq, h15, h1, h16, h17, h6, hs, fin]
theorem c_packed_i32 (xs : List Int) (hx : xs.length ≤ 1048576) (hr : ∀ x ∈ xs, -9223372036854775808 ≤ x ∧ x ≤ 9223372036854775807) : Meets Try.prog 186 [rowI xs, .v (.int .i64 4)] (fun r => r = .tup [rowB (packIC xs 4).1, .v (.int .i64 (packIC xs 4).2)]) := by
  have hw : isW 4 = true := rfl
  have fin := packIC.eq_1 xs 4
  rw [if_pos hw, show (4 : Int).toNat = 4 from rfl] at fin
  have em : IntKind.i64.wrap ((xs.length : Int) * 4) = ((4 * xs.length : Nat) : Int) := by rw [wrap_i64_of (by omega) (by omega)]; omega
  refine Meets.intro mixed (hint []) Try.func186 rfl (by decide) res_186 rty_186 (by kernel_rfl) ?_; 
  simp -dsimp -implicitDefEqProofs only [go_sem, Nat.reduceBEq, Nat.reduceAdd, Nat.reduceLeDiff, Nat.reduceSub, Int.reduceEq, em]
  repeat with_reducible refine ask.of (by omega) ?_
  refine LoopE.cnt xs.length (fun i s => s.env 15 = .rd .ent 3 1 (ra intC xs) ∧ s.env 1 = .v (.int .i64 4) ∧ s.env 16 = .v (.int .i64 xs.length) ∧ s.env 17 = .v (.int .i64 i) ∧ s.env 6 = .ref [14] ∧ s.σ [14] = some (.row 5 1 (bytesA (packI (xs.take i) 4))) ∧ (xs.take i).all (fitsB 4) = true) ⟨by simp -dsimp -implicitDefEqProofs only [go_sem, Nat.reduceBEq, Nat.reduceAdd, Nat.reduceLeDiff, Nat.reduceSub, Int.reduceEq, initE], by simp -dsimp -implicitDefEqProofs only [go_sem, Nat.reduceBEq, Nat.reduceAdd, Nat.reduceLeDiff, Nat.reduceSub, Int.reduceEq, initE], by simp -dsimp -implicitDefEqProofs only [go_sem, Nat.reduceBEq, Nat.reduceAdd, Nat.reduceLeDiff, Nat.reduceSub, Int.reduceEq], by simp -dsimp -implicitDefEqProofs only [go_sem, Nat.reduceBEq, Nat.reduceAdd, Nat.reduceLeDiff, Nat.reduceSub, Int.reduceEq] <;> simp, by simp -dsimp -implicitDefEqProofs only [go_sem, Nat.reduceBEq, Nat.reduceAdd, Nat.reduceLeDiff, Nat.reduceSub, Int.reduceEq], by simp -dsimp -implicitDefEqProofs only [go_sem, Nat.reduceBEq, Nat.reduceAdd, Nat.reduceLeDiff, Nat.reduceSub, Int.reduceEq]; rfl, by simp⟩ ?_
  rintro i ⟨e, σ⟩ hi ⟨h15, h1, h16, h17, h6, hs, hz⟩ K hK
  simp only at h15 h1 h16 h17 h6 hs
  simp -dsimp -implicitDefEqProofs only [go_sem, Nat.reduceBEq, Nat.reduceAdd, Nat.reduceLeDiff, Nat.reduceSub, Int.reduceEq, h15, h1, h16, h17, h6, hs]
  refine ifB'.of (fun hlt => ?_) (fun hlt => ?_)
  · have hlt : i < xs.length := by omega
    have hv := hr xs[i] (List.getElem_mem hlt)
    have hd : decide (IntKind.i64.wrap (IntKind.i32.wrap xs[i]) = xs[i]) = fitsB 4 xs[i] := back_i32 hv
    simp -dsimp -implicitDefEqProofs only [go_sem, Nat.reduceBEq, Nat.reduceAdd, Nat.reduceLeDiff, Nat.reduceSub, Int.reduceEq, h15, h1, h16, h17, h6, hs, intA_at hlt, hd]
    repeat with_reducible refine ask.of (by omega) ?_
    cases hf : fitsB 4 xs[i]
    · simp -dsimp -implicitDefEqProofs only [go_sem, Nat.reduceBEq, Nat.reduceAdd, Nat.reduceLeDiff, Nat.reduceSub, Int.reduceEq, h15, h1, h16, h17, h6, hs, hf]
      rw [fin, all_not 4 hlt hf]; rfl
    simp -dsimp -implicitDefEqProofs only [go_sem, Nat.reduceBEq, Nat.reduceAdd, Nat.reduceLeDiff, Nat.reduceSub, Int.reduceEq, h15, h1, h16, h17, h6, hs, hf]
    refine LoopE.cnt 4 (fun j s => s.env 15 = .rd .ent 3 1 (ra intC xs) ∧ s.env 1 = .v (.int .i64 4) ∧ s.env 16 = .v (.int .i64 xs.length) ∧ s.env 17 = .v (.int .i64 i) ∧ s.env 27 = .v (.int .i64 4) ∧ s.env 28 = .v (.int .i64 j) ∧ s.env 8 = .v (.int .i64 (xs[i] / 256 ^ j)) ∧ s.env 6 = .ref [14] ∧ s.σ [14] = some (.row 5 1 (bytesA (packI (xs.take i) 4 ++ leB j xs[i])))) ⟨by simp -dsimp -implicitDefEqProofs only [go_sem, Nat.reduceBEq, Nat.reduceAdd, Nat.reduceLeDiff, Nat.reduceSub, Int.reduceEq, h15, h1, h16, h17, h6, hs], by simp -dsimp -implicitDefEqProofs only [go_sem, Nat.reduceBEq, Nat.reduceAdd, Nat.reduceLeDiff, Nat.reduceSub, Int.reduceEq, h15, h1, h16, h17, h6, hs], by simp -dsimp -implicitDefEqProofs only [go_sem, Nat.reduceBEq, Nat.reduceAdd, Nat.reduceLeDiff, Nat.reduceSub, Int.reduceEq, h15, h1, h16, h17, h6, hs], by simp -dsimp -implicitDefEqProofs only [go_sem, Nat.reduceBEq, Nat.reduceAdd, Nat.reduceLeDiff, Nat.reduceSub, Int.reduceEq, h15, h1, h16, h17, h6, hs], by simp -dsimp -implicitDefEqProofs only [go_sem, Nat.reduceBEq, Nat.reduceAdd, Nat.reduceLeDiff, Nat.reduceSub, Int.reduceEq, h15, h1, h16, h17, h6, hs], by simp -dsimp -implicitDefEqProofs only [go_sem, Nat.reduceBEq, Nat.reduceAdd, Nat.reduceLeDiff, Nat.reduceSub, Int.reduceEq, h15, h1, h16, h17, h6, hs] <;> simp, by simp -dsimp -implicitDefEqProofs only [go_sem, Nat.reduceBEq, Nat.reduceAdd, Nat.reduceLeDiff, Nat.reduceSub, Int.reduceEq, h15, h1, h16, h17, h6, hs] <;> simp, by simp -dsimp -implicitDefEqProofs only [go_sem, Nat.reduceBEq, Nat.reduceAdd, Nat.reduceLeDiff, Nat.reduceSub, Int.reduceEq, h15, h1, h16, h17, h6, hs], by simp -dsimp -implicitDefEqProofs only [go_sem, Nat.reduceBEq, Nat.reduceAdd, Nat.reduceLeDiff, Nat.reduceSub, Int.reduceEq, h15, h1, h16, h17, h6, hs] <;> simp [leB]⟩ ?_
    rintro j ⟨e, σ⟩ hj ⟨h15, h1, h16, h17, ha, hb, h8, h6, hs⟩ K' hK'
    simp only at h15 h1 h16 h17 ha hb h8 h6 hs
    simp -dsimp -implicitDefEqProofs only [go_sem, Nat.reduceBEq, Nat.reduceAdd, Nat.reduceLeDiff, Nat.reduceSub, Int.reduceEq, h15, h1, h16, h17, ha, hb, h8, h6, hs]
    refine ifB'.of (fun hjt => ?_) (fun hjt => ?_)
    · have hjt : j < 4 := by omega
      simp -dsimp -implicitDefEqProofs only [go_sem, Nat.reduceBEq, Nat.reduceAdd, Nat.reduceLeDiff, Nat.reduceSub, Int.reduceEq, h15, h1, h16, h17, ha, hb, h8, h6, hs, u8_byte xs[i] (show j < 8 by omega), List.length_append, packI_length, leB_length, List.length_take, Nat.min_eq_left hi]
      repeat with_reducible refine ask.of (by omega) ?_
      refine hK' _ hjt ?_
      simp -dsimp -implicitDefEqProofs only [go_sem, Nat.reduceBEq, Nat.reduceAdd, Nat.reduceLeDiff, Nat.reduceSub, Int.reduceEq, h15, h1, h16, h17, ha, hb, h8, h6, hs, wrap_succ (show j < 4611686018427387904 by omega), shr_byte, List.append_assoc, leB_succ]
    · obtain rfl : j = 4 := by omega
      simp -dsimp -implicitDefEqProofs only [go_sem, Nat.reduceBEq, Nat.reduceAdd, Nat.reduceLeDiff, Nat.reduceSub, Int.reduceEq, h15, h1, h16, h17, ha, hb, h8, h6, hs]
      refine hK _ hlt ?_
      simp -dsimp -implicitDefEqProofs only [go_sem, Nat.reduceBEq, Nat.reduceAdd, Nat.reduceLeDiff, Nat.reduceSub, Int.reduceEq, h15, h1, h16, h17, ha, hb, h8, h6, hs, wrap_succ (show i < 4611686018427387904 by omega), packI_succ 4 hlt, all_succ 4 hlt hz hf]
  · obtain rfl : i = xs.length := by omega
    rw [List.take_length] at hz hs
    rw [if_pos hz] at fin
    simp -dsimp -implicitDefEqProofs only [go_sem, Nat.reduceBEq, Nat.reduceAdd, Nat.reduceLeDiff, Nat.reduceSub, Int.reduceEq, h15, h1, h16, h17, h6, hs, fin]
theorem c_packed_i64 (xs : List Int) (hx : xs.length ≤ 1048576) (hr : ∀ x ∈ xs, -9223372036854775808 ≤ x ∧ x ≤ 9223372036854775807) : Meets Try.prog 187 [rowI xs, .v (.int .i64 8)] (fun r => r = .tup [rowB (packIC xs 8).1, .v (.int .i64 (packIC xs 8).2)]) := by
  have hw : isW 8 = true := rfl
  have fin := packIC.eq_1 xs 8
  rw [if_pos hw, show (8 : Int).toNat = 8 from rfl] at fin
  have em : IntKind.i64.wrap ((xs.length : Int) * 8) = ((8 * xs.length : Nat) : Int) := by rw [wrap_i64_of (by omega) (by omega)]; omega
  refine Meets.intro mixed (hint []) Try.func187 rfl (by decide) res_187 rty_187 (by kernel_rfl) ?_; 
  simp -dsimp -implicitDefEqProofs only [go_sem, Nat.reduceBEq, Nat.reduceAdd, Nat.reduceLeDiff, Nat.reduceSub, Int.reduceEq, em]
  repeat with_reducible refine ask.of (by omega) ?_
  refine LoopE.cnt xs.length (fun i s => s.env 15 = .rd .ent 3 1 (ra intC xs) ∧ s.env 1 = .v (.int .i64 8) ∧ s.env 16 = .v (.int .i64 xs.length) ∧ s.env 17 = .v (.int .i64 i) ∧ s.env 6 = .ref [14] ∧ s.σ [14] = some (.row 5 1 (bytesA (packI (xs.take i) 8))) ∧ (xs.take i).all (fitsB 8) = true) ⟨by simp -dsimp -implicitDefEqProofs only [go_sem, Nat.reduceBEq, Nat.reduceAdd, Nat.reduceLeDiff, Nat.reduceSub, Int.reduceEq, initE], by simp -dsimp -implicitDefEqProofs only [go_sem, Nat.reduceBEq, Nat.reduceAdd, Nat.reduceLeDiff, Nat.reduceSub, Int.reduceEq, initE], by simp -dsimp -implicitDefEqProofs only [go_sem, Nat.reduceBEq, Nat.reduceAdd, Nat.reduceLeDiff, Nat.reduceSub, Int.reduceEq], by simp -dsimp -implicitDefEqProofs only [go_sem, Nat.reduceBEq, Nat.reduceAdd, Nat.reduceLeDiff, Nat.reduceSub, Int.reduceEq] <;> simp, by simp -dsimp -implicitDefEqProofs only [go_sem, Nat.reduceBEq, Nat.reduceAdd, Nat.reduceLeDiff, Nat.reduceSub, Int.reduceEq], by simp -dsimp -implicitDefEqProofs only [go_sem, Nat.reduceBEq, Nat.reduceAdd, Nat.reduceLeDiff, Nat.reduceSub, Int.reduceEq]; rfl, by simp⟩ ?_
  rintro i ⟨e, σ⟩ hi ⟨h15, h1, h16, h17, h6, hs, hz⟩ K hK
  simp only at h15 h1 h16 h17 h6 hs
  simp -dsimp -implicitDefEqProofs only [go_sem, Nat.reduceBEq, Nat.reduceAdd, Nat.reduceLeDiff, Nat.reduceSub, Int.reduceEq, h15, h1, h16, h17, h6, hs]
  refine ifB'.of (fun hlt => ?_) (fun hlt => ?_)
  · have hlt : i < xs.length := by omega
    have hv := hr xs[i] (List.getElem_mem hlt)
    have hd : decide (True) = fitsB 8 xs[i] := show decide True = fitsB 8 xs[i] from rfl
    simp -dsimp -implicitDefEqProofs only [go_sem, Nat.reduceBEq, Nat.reduceAdd, Nat.reduceLeDiff, Nat.reduceSub, Int.reduceEq, h15, h1, h16, h17, h6, hs, intA_at hlt, hd]
    repeat with_reducible refine ask.of (by omega) ?_
    cases hf : fitsB 8 xs[i]
    · simp -dsimp -implicitDefEqProofs only [go_sem, Nat.reduceBEq, Nat.reduceAdd, Nat.reduceLeDiff, Nat.reduceSub, Int.reduceEq, h15, h1, h16, h17, h6, hs, hf]
      rw [fin, all_not 8 hlt hf]; rfl
    simp -dsimp -implicitDefEqProofs only [go_sem, Nat.reduceBEq, Nat.reduceAdd, Nat.reduceLeDiff, Nat.reduceSub, Int.reduceEq, h15, h1, h16, h17, h6, hs, hf]
    refine LoopE.cnt 8 (fun j s => s.env 15 = .rd .ent 3 1 (ra intC xs) ∧ s.env 1 = .v (.int .i64 8) ∧ s.env 16 = .v (.int .i64 xs.length) ∧ s.env 17 = .v (.int .i64 i) ∧ s.env 25 = .v (.int .i64 8) ∧ s.env 26 = .v (.int .i64 j) ∧ s.env 8 = .v (.int .i64 (xs[i] / 256 ^ j)) ∧ s.env 6 = .ref [14] ∧ s.σ [14] = some (.row 5 1 (bytesA (packI (xs.take i) 8 ++ leB j xs[i])))) ⟨by simp -dsimp -implicitDefEqProofs only [go_sem, Nat.reduceBEq, Nat.reduceAdd, Nat.reduceLeDiff, Nat.reduceSub, Int.reduceEq, h15, h1, h16, h17, h6, hs], by simp -dsimp -implicitDefEqProofs only [go_sem, Nat.reduceBEq, Nat.reduceAdd, Nat.reduceLeDiff, Nat.reduceSub, Int.reduceEq, h15, h1, h16, h17, h6, hs], by simp -dsimp -implicitDefEqProofs only [go_sem, Nat.reduceBEq, Nat.reduceAdd, Nat.reduceLeDiff, Nat.reduceSub, Int.reduceEq, h15, h1, h16, h17, h6, hs], by simp -dsimp -implicitDefEqProofs only [go_sem, Nat.reduceBEq, Nat.reduceAdd, Nat.reduceLeDiff, Nat.reduceSub, Int.reduceEq, h15, h1, h16, h17, h6, hs], by simp -dsimp -implicitDefEqProofs only [go_sem, Nat.reduceBEq, Nat.reduceAdd, Nat.reduceLeDiff, Nat.reduceSub, Int.reduceEq, h15, h1, h16, h17, h6, hs], by simp -dsimp -implicitDefEqProofs only [go_sem, Nat.reduceBEq, Nat.reduceAdd, Nat.reduceLeDiff, Nat.reduceSub, Int.reduceEq, h15, h1, h16, h17, h6, hs] <;> simp, by simp -dsimp -implicitDefEqProofs only [go_sem, Nat.reduceBEq, Nat.reduceAdd, Nat.reduceLeDiff, Nat.reduceSub, Int.reduceEq, h15, h1, h16, h17, h6, hs] <;> simp, by simp -dsimp -implicitDefEqProofs only [go_sem, Nat.reduceBEq, Nat.reduceAdd, Nat.reduceLeDiff, Nat.reduceSub, Int.reduceEq, h15, h1, h16, h17, h6, hs], by simp -dsimp -implicitDefEqProofs only [go_sem, Nat.reduceBEq, Nat.reduceAdd, Nat.reduceLeDiff, Nat.reduceSub, Int.reduceEq, h15, h1, h16, h17, h6, hs] <;> simp [leB]⟩ ?_
    rintro j ⟨e, σ⟩ hj ⟨h15, h1, h16, h17, ha, hb, h8, h6, hs⟩ K' hK'
    simp only at h15 h1 h16 h17 ha hb h8 h6 hs
    simp -dsimp -implicitDefEqProofs only [go_sem, Nat.reduceBEq, Nat.reduceAdd, Nat.reduceLeDiff, Nat.reduceSub, Int.reduceEq, h15, h1, h16, h17, ha, hb, h8, h6, hs]
    refine ifB'.of (fun hjt => ?_) (fun hjt => ?_)
    · have hjt : j < 8 := by omega
      simp -dsimp -implicitDefEqProofs only [go_sem, Nat.reduceBEq, Nat.reduceAdd, Nat.reduceLeDiff, Nat.reduceSub, Int.reduceEq, h15, h1, h16, h17, ha, hb, h8, h6, hs, u8_byte xs[i] (show j < 8 by omega), List.length_append, packI_length, leB_length, List.length_take, Nat.min_eq_left hi]
      repeat with_reducible refine ask.of (by omega) ?_
      refine hK' _ hjt ?_
      simp -dsimp -implicitDefEqProofs only [go_sem, Nat.reduceBEq, Nat.reduceAdd, Nat.reduceLeDiff, Nat.reduceSub, Int.reduceEq, h15, h1, h16, h17, ha, hb, h8, h6, hs, wrap_succ (show j < 4611686018427387904 by omega), shr_byte, List.append_assoc, leB_succ]
    · obtain rfl : j = 8 := by omega
      simp -dsimp -implicitDefEqProofs only [go_sem, Nat.reduceBEq, Nat.reduceAdd, Nat.reduceLeDiff, Nat.reduceSub, Int.reduceEq, h15, h1, h16, h17, ha, hb, h8, h6, hs]
      refine hK _ hlt ?_
      simp -dsimp -implicitDefEqProofs only [go_sem, Nat.reduceBEq, Nat.reduceAdd, Nat.reduceLeDiff, Nat.reduceSub, Int.reduceEq, h15, h1, h16, h17, ha, hb, h8, h6, hs, wrap_succ (show i < 4611686018427387904 by omega), packI_succ 8 hlt, all_succ 8 hlt hz hf]
  · obtain rfl : i = xs.length := by omega
    rw [List.take_length] at hz hs
    rw [if_pos hz] at fin
    simp -dsimp -implicitDefEqProofs only [go_sem, Nat.reduceBEq, Nat.reduceAdd, Nat.reduceLeDiff, Nat.reduceSub, Int.reduceEq, h15, h1, h16, h17, h6, hs, fin]
theorem c_implPackInts (xs : List Int) (n : Int) (hx : xs.length ≤ 1048576) (hr : ∀ x ∈ xs, -9223372036854775808 ≤ x ∧ x ≤ 9223372036854775807) : Meets Try.prog 161 [rowI xs, .v (.int .i64 n)] (fun r => r = .tup [rowB (packIC xs n).1, .v (.int .i64 (packIC xs n).2)]) := by
  refine Meets.intro mixed (hint []) Try.func161 rfl (by decide) res_161 rty_161 (by kernel_rfl) ?_; 
  simp -dsimp -implicitDefEqProofs only [go_sem, Nat.reduceBEq, Nat.reduceAdd, Nat.reduceLeDiff, Nat.reduceSub, Int.reduceEq]
  refine ifB'.of (fun h1 => ?_) (fun h1 => ?_)
  · subst h1
    simp -dsimp -implicitDefEqProofs only [go_sem, Nat.reduceBEq, Nat.reduceAdd, Nat.reduceLeDiff, Nat.reduceSub, Int.reduceEq]
    refine CallE.of (c_packed_i8 xs hx hr) (by rintro r rfl; (repeat' first | exact trivial | exact pure_rowB _ | exact pure_rowO _ | exact pure_rowI _ | exact pure_rowBB _ | exact pure_rowPk _ _ | exact pure_rowSn _ _ | exact pure_rowFd _ _ | exact pure_rowBBB _ | exact pure_rowCl _ _ | exact pure_rowTb _ _ _ | refine And.intro ?_ ?_)) (by simp -dsimp -implicitDefEqProofs only [go_sem, Nat.reduceBEq, Nat.reduceAdd, Nat.reduceLeDiff, Nat.reduceSub, Int.reduceEq]) ?_
    rintro r rfl
    simp -dsimp -implicitDefEqProofs only [go_sem, Nat.reduceBEq, Nat.reduceAdd, Nat.reduceLeDiff, Nat.reduceSub, Int.reduceEq]
  simp -dsimp -implicitDefEqProofs only [go_sem, Nat.reduceBEq, Nat.reduceAdd, Nat.reduceLeDiff, Nat.reduceSub, Int.reduceEq]
  refine ifB'.of (fun h2 => ?_) (fun h2 => ?_)
  · subst h2
    simp -dsimp -implicitDefEqProofs only [go_sem, Nat.reduceBEq, Nat.reduceAdd, Nat.reduceLeDiff, Nat.reduceSub, Int.reduceEq]
    refine CallE.of (c_packed_i16 xs hx hr) (by rintro r rfl; (repeat' first | exact trivial | exact pure_rowB _ | exact pure_rowO _ | exact pure_rowI _ | exact pure_rowBB _ | exact pure_rowPk _ _ | exact pure_rowSn _ _ | exact pure_rowFd _ _ | exact pure_rowBBB _ | exact pure_rowCl _ _ | exact pure_rowTb _ _ _ | refine And.intro ?_ ?_)) (by simp -dsimp -implicitDefEqProofs only [go_sem, Nat.reduceBEq, Nat.reduceAdd, Nat.reduceLeDiff, Nat.reduceSub, Int.reduceEq]) ?_
    rintro r rfl
    simp -dsimp -implicitDefEqProofs only [go_sem, Nat.reduceBEq, Nat.reduceAdd, Nat.reduceLeDiff, Nat.reduceSub, Int.reduceEq]
  simp -dsimp -implicitDefEqProofs only [go_sem, Nat.reduceBEq, Nat.reduceAdd, Nat.reduceLeDiff, Nat.reduceSub, Int.reduceEq]
  refine ifB'.of (fun h4 => ?_) (fun h4 => ?_)
  · subst h4
    simp -dsimp -implicitDefEqProofs only [go_sem, Nat.reduceBEq, Nat.reduceAdd, Nat.reduceLeDiff, Nat.reduceSub, Int.reduceEq]
    refine CallE.of (c_packed_i32 xs hx hr) (by rintro r rfl; (repeat' first | exact trivial | exact pure_rowB _ | exact pure_rowO _ | exact pure_rowI _ | exact pure_rowBB _ | exact pure_rowPk _ _ | exact pure_rowSn _ _ | exact pure_rowFd _ _ | exact pure_rowBBB _ | exact pure_rowCl _ _ | exact pure_rowTb _ _ _ | refine And.intro ?_ ?_)) (by simp -dsimp -implicitDefEqProofs only [go_sem, Nat.reduceBEq, Nat.reduceAdd, Nat.reduceLeDiff, Nat.reduceSub, Int.reduceEq]) ?_
    rintro r rfl
    simp -dsimp -implicitDefEqProofs only [go_sem, Nat.reduceBEq, Nat.reduceAdd, Nat.reduceLeDiff, Nat.reduceSub, Int.reduceEq]
  simp -dsimp -implicitDefEqProofs only [go_sem, Nat.reduceBEq, Nat.reduceAdd, Nat.reduceLeDiff, Nat.reduceSub, Int.reduceEq]
  refine ifB'.of (fun h8 => ?_) (fun h8 => ?_)
  · subst h8
    simp -dsimp -implicitDefEqProofs only [go_sem, Nat.reduceBEq, Nat.reduceAdd, Nat.reduceLeDiff, Nat.reduceSub, Int.reduceEq]
    refine CallE.of (c_packed_i64 xs hx hr) (by rintro r rfl; (repeat' first | exact trivial | exact pure_rowB _ | exact pure_rowO _ | exact pure_rowI _ | exact pure_rowBB _ | exact pure_rowPk _ _ | exact pure_rowSn _ _ | exact pure_rowFd _ _ | exact pure_rowBBB _ | exact pure_rowCl _ _ | exact pure_rowTb _ _ _ | refine And.intro ?_ ?_)) (by simp -dsimp -implicitDefEqProofs only [go_sem, Nat.reduceBEq, Nat.reduceAdd, Nat.reduceLeDiff, Nat.reduceSub, Int.reduceEq]) ?_
    rintro r rfl
    simp -dsimp -implicitDefEqProofs only [go_sem, Nat.reduceBEq, Nat.reduceAdd, Nat.reduceLeDiff, Nat.reduceSub, Int.reduceEq]
  simp -dsimp -implicitDefEqProofs only [go_sem, Nat.reduceBEq, Nat.reduceAdd, Nat.reduceLeDiff, Nat.reduceSub, Int.reduceEq]
  rw [packIC, if_neg (by simp [isW, h1, h2, h4, h8])]
  rfl
end Go.Ev
set_option linter.unusedSimpArgs false
set_option linter.unusedVariables false
namespace Go.Ev
open Go Go.RowKit Go.Proofs
def clOk (f : Fd) (c : Cl) : Prop := if c.z = true then c.i = 0 ∧ c.f.length = 0 else if f.k = 0 then (c.i = 0 ∨ c.i = 1) ∧ c.f.length = 0 else if f.k = 1 then fitsB f.w.toNat c.i = true ∧ c.f.length = 0 else c.i = 0
instance (f : Fd) (c : Cl) : Decidable (clOk f c) := by unfold clOk; infer_instance
def i64r (n : Int) : Prop := -9223372036854775808 ≤ n ∧ n ≤ 9223372036854775807
theorem cl_d {f : Fd} {c : Cl} {q : Prop} [Decidable q] (h : q ↔ clOk f c) : decide q = decide (clOk f c) := decide_eq_decide.2 h
theorem cl_f {f : Fd} {c : Cl} (h : ¬ clOk f c) : false = decide (clOk f c) := (decide_eq_false h).symm
theorem cl_t {f : Fd} {c : Cl} (h : clOk f c) : true = decide (clOk f c) := (decide_eq_true h).symm
theorem packIC_one {n x : Int} (h : isW n = true) : (packIC [x] n).2 = if fitsB n.toNat x = true then 0 else 1 := by
  unfold packIC
  rw [if_pos h]
  by_cases h2 : fitsB n.toNat x = true
  · rw [if_pos h2, if_pos (by simp [h2])]
  · rw [if_neg h2, if_neg (by simp [h2])]
theorem fd_w {f : Fd} (h : fdOk f) (h1 : f.k = 1) : ∃ w : Nat, f.w = w ∧ (w = 1 ∨ w = 2 ∨ w = 4 ∨ w = 8) := by
  have := h.2
  exact ⟨f.w.toNat, by omega, by omega⟩
set_option maxRecDepth 4000 in
theorem c_l2cellOK (f : Fd) (c : Cl) (hf : fdOk f) (hb : c.f.length ≤ 1048576) : Meets Try.prog 159 [.agg (fdC f), .agg (clC c)] (fun r => r = .v (.bool (decide (clOk f c)))) := by
  refine Meets.intro mixed (hint []) Try.func159 rfl (by decide) res_159 rty_159 (by kernel_rfl) ?_; 
  simp -dsimp -implicitDefEqProofs only [go_sem, Nat.reduceBEq, Nat.reduceAdd, Nat.reduceLeDiff, Nat.reduceSub, Int.reduceEq, fdC, clC]
  cases hz : c.z
  · by_cases h1 : f.k = 1
    · obtain ⟨w, hw, hww⟩ := fd_w hf h1
      simp -dsimp -implicitDefEqProofs only [go_sem, Nat.reduceBEq, Nat.reduceAdd, Nat.reduceLeDiff, Nat.reduceSub, Int.reduceEq, hz, h1, hw, decide_false, decide_true]
      repeat (first | with_reducible refine ask.of (by omega) ?_ | simp -dsimp -implicitDefEqProofs only [go_sem, Nat.reduceBEq, Nat.reduceAdd, Nat.reduceLeDiff, Nat.reduceSub, Int.reduceEq, hz, h1, hw, decide_false, decide_true])
      refine CallE.of (c_l1fits c.i w hww) (by rintro r rfl; (repeat' first | exact trivial | exact pure_rowB _ | exact pure_rowO _ | exact pure_rowI _ | exact pure_rowBB _ | exact pure_rowPk _ _ | exact pure_rowSn _ _ | exact pure_rowFd _ _ | exact pure_rowBBB _ | exact pure_rowCl _ _ | exact pure_rowTb _ _ _ | refine And.intro ?_ ?_)) (by simp -dsimp -implicitDefEqProofs only [go_sem, Nat.reduceBEq, Nat.reduceAdd, Nat.reduceLeDiff, Nat.reduceSub, Int.reduceEq]) ?_
      rintro r rfl
      simp -dsimp -implicitDefEqProofs only [go_sem, Nat.reduceBEq, Nat.reduceAdd, Nat.reduceLeDiff, Nat.reduceSub, Int.reduceEq]
      have e : clOk f c ↔ fitsB w c.i = true ∧ c.f.length = 0 := by
        unfold clOk
        rw [hz, if_neg (by decide), if_neg (by omega), if_pos h1, hw]; simp
      cases hq : fitsB w c.i
      · simp -dsimp -implicitDefEqProofs only [go_sem, Nat.reduceBEq, Nat.reduceAdd, Nat.reduceLeDiff, Nat.reduceSub, Int.reduceEq, hq]
        exact cl_f (by rw [e, hq]; simp)
      · simp -dsimp -implicitDefEqProofs only [go_sem, Nat.reduceBEq, Nat.reduceAdd, Nat.reduceLeDiff, Nat.reduceSub, Int.reduceEq, hq]
        repeat (first | with_reducible refine ask.of (by omega) ?_ | simp -dsimp -implicitDefEqProofs only [go_sem, Nat.reduceBEq, Nat.reduceAdd, Nat.reduceLeDiff, Nat.reduceSub, Int.reduceEq, hq])
        exact cl_d (by rw [e, hq]; simp)
    · repeat' (first | with_reducible refine ifB'.of (fun h => ?_) (fun h => ?_) | with_reducible refine ask.of (by omega) ?_ | omega | ((with_reducible refine cl_f ?_); unfold clOk; simp only [hz, h1, if_false, Bool.false_eq_true]; split <;> omega) | ((with_reducible refine cl_t ?_); unfold clOk; simp only [hz, h1, if_false, Bool.false_eq_true]; split <;> omega) | ((with_reducible refine cl_d ?_); unfold clOk; simp only [hz, h1, if_false, Bool.false_eq_true]; split <;> omega) | simp -dsimp -implicitDefEqProofs only [go_sem, Nat.reduceBEq, Nat.reduceAdd, Nat.reduceLeDiff, Nat.reduceSub, Int.reduceEq, hz, decide_true])
  · repeat' (first | with_reducible refine ifB'.of (fun h => ?_) (fun h => ?_) | with_reducible refine ask.of (by omega) ?_ | ((with_reducible refine cl_f ?_); unfold clOk; simp only [hz, if_true]; omega) | ((with_reducible refine cl_t ?_); unfold clOk; simp only [hz, if_true]; omega) | ((with_reducible refine cl_d ?_); unfold clOk; simp only [hz, if_true]; omega) | simp -dsimp -implicitDefEqProofs only [go_sem, Nat.reduceBEq, Nat.reduceAdd, Nat.reduceLeDiff, Nat.reduceSub, Int.reduceEq, hz, decide_true])
set_option maxRecDepth 4000 in
theorem c_cellOk (f : Fd) (c : Cl) (hf : fdOk f) (hb : c.f.length ≤ 1048576) (hi : i64r c.i) : Meets Try.prog 127 [.agg (fdC f), .agg (clC c)] (fun r => r = .v (.bool (decide (clOk f c)))) := by
  refine Meets.intro mixed (hint []) Try.func127 rfl (by decide) res_127 rty_127 (by kernel_rfl) ?_; 
  simp -dsimp -implicitDefEqProofs only [go_sem, Nat.reduceBEq, Nat.reduceAdd, Nat.reduceLeDiff, Nat.reduceSub, Int.reduceEq, fdC, clC]
  cases hz : c.z
  · by_cases h1 : f.k = 1
    · obtain ⟨w, hw, hww⟩ := fd_w hf h1
      have hW : isW (w : Int) = true := isW_of hww
      have e : clOk f c ↔ fitsB w c.i = true ∧ c.f.length = 0 := by
        unfold clOk
        rw [hz, if_neg (by decide), if_neg (by omega), if_pos h1, hw]; simp
      simp -dsimp -implicitDefEqProofs only [go_sem, Nat.reduceBEq, Nat.reduceAdd, Nat.reduceLeDiff, Nat.reduceSub, Int.reduceEq, hz, h1, hw, decide_false, decide_true]
      repeat (first | with_reducible refine ask.of (by omega) ?_ | simp -dsimp -implicitDefEqProofs only [go_sem, Nat.reduceBEq, Nat.reduceAdd, Nat.reduceLeDiff, Nat.reduceSub, Int.reduceEq, hz, h1, hw, decide_false, decide_true])
      repeat (first | with_reducible refine ask.of (by decide) ?_ | simp -dsimp -implicitDefEqProofs only [go_sem, Nat.reduceBEq, Nat.reduceAdd, Nat.reduceLeDiff, Nat.reduceSub, Int.reduceEq, intA_one, show intC c.i = [.v (.int .i64 c.i)] from rfl])
      refine CallE.of (c_implPackInts [c.i] w (by simp) (by intro x hx; simp at hx; subst hx; exact hi)) (by rintro r rfl; (repeat' first | exact trivial | exact pure_rowB _ | exact pure_rowO _ | exact pure_rowI _ | exact pure_rowBB _ | exact pure_rowPk _ _ | exact pure_rowSn _ _ | exact pure_rowFd _ _ | exact pure_rowBBB _ | exact pure_rowCl _ _ | exact pure_rowTb _ _ _ | refine And.intro ?_ ?_)) (by simp -dsimp -implicitDefEqProofs only [go_sem, Nat.reduceBEq, Nat.reduceAdd, Nat.reduceLeDiff, Nat.reduceSub, Int.reduceEq]) ?_
      rintro r rfl
      simp -dsimp -implicitDefEqProofs only [go_sem, Nat.reduceBEq, Nat.reduceAdd, Nat.reduceLeDiff, Nat.reduceSub, Int.reduceEq]
      cases hq : fitsB w c.i
      · have ep : (packIC [c.i] (w : Int)).2 = 1 := by rw [packIC_one hW, Int.toNat_natCast, hq]; rfl
        simp -dsimp -implicitDefEqProofs only [go_sem, Nat.reduceBEq, Nat.reduceAdd, Nat.reduceLeDiff, Nat.reduceSub, Int.reduceEq, ep, decide_false]
        exact cl_f (by rw [e, hq]; simp)
      · have ep : (packIC [c.i] (w : Int)).2 = 0 := by rw [packIC_one hW, Int.toNat_natCast, hq]; rfl
        simp -dsimp -implicitDefEqProofs only [go_sem, Nat.reduceBEq, Nat.reduceAdd, Nat.reduceLeDiff, Nat.reduceSub, Int.reduceEq, ep, decide_true]
        repeat (first | with_reducible refine ask.of (by omega) ?_ | simp -dsimp -implicitDefEqProofs only [go_sem, Nat.reduceBEq, Nat.reduceAdd, Nat.reduceLeDiff, Nat.reduceSub, Int.reduceEq, hq])
        exact cl_d (by rw [e, hq]; simp)
    · repeat' (first | with_reducible refine ifB'.of (fun h => ?_) (fun h => ?_) | with_reducible refine ask.of (by omega) ?_ | omega | ((with_reducible refine cl_f ?_); unfold clOk; simp only [hz, h1, if_false, Bool.false_eq_true]; split <;> omega) | ((with_reducible refine cl_t ?_); unfold clOk; simp only [hz, h1, if_false, Bool.false_eq_true]; split <;> omega) | ((with_reducible refine cl_d ?_); unfold clOk; simp only [hz, h1, if_false, Bool.false_eq_true]; split <;> omega) | simp -dsimp -implicitDefEqProofs only [go_sem, Nat.reduceBEq, Nat.reduceAdd, Nat.reduceLeDiff, Nat.reduceSub, Int.reduceEq, hz, decide_true])
  · repeat' (first | with_reducible refine ifB'.of (fun h => ?_) (fun h => ?_) | with_reducible refine ask.of (by omega) ?_ | ((with_reducible refine cl_f ?_); unfold clOk; simp only [hz, if_true]; omega) | ((with_reducible refine cl_t ?_); unfold clOk; simp only [hz, if_true]; omega) | ((with_reducible refine cl_d ?_); unfold clOk; simp only [hz, if_true]; omega) | simp -dsimp -implicitDefEqProofs only [go_sem, Nat.reduceBEq, Nat.reduceAdd, Nat.reduceLeDiff, Nat.reduceSub, Int.reduceEq, hz, decide_true])
end Go.Ev
set_option linter.unusedSimpArgs false
set_option linter.unusedVariables false
namespace Go.Ev
open Go Go.RowKit
def Look (a b : AV) : Prop := ∀ (C : Cx) (x : Value), Rep C true (.read .ent) a x → Rep C true (.read .ent) b x
def Looks : List AV → List AV → Prop
  | [], [] => True
  | a :: us, b :: bs => Look a b ∧ Looks us bs
  | _, _ => False
def LookEls : List (List AV) → List (List AV) → Prop
  | [], [] => True
  | a :: us, b :: bs => Looks a b ∧ LookEls us bs
  | _, _ => False
theorem Looks.len : ∀ {us bs : List AV}, Looks us bs → us.length = bs.length
  | [], [], _ => rfl
  | a :: us, b :: bs, h => by simp [Looks.len h.2]
  | [], _ :: _, h => h.elim
  | _ :: _, [], h => h.elim
theorem LookEls.len : ∀ {us bs : List (List AV)}, LookEls us bs → us.length = bs.length
  | [], [], _ => rfl
  | a :: us, b :: bs, h => by simp [LookEls.len h.2]
  | [], _ :: _, h => h.elim
  | _ :: _, [], h => h.elim
theorem RepVs.look {C : Cx} : ∀ {us bs : List AV} {vs : List Value} {q : Nat}, Looks us bs → RepVs C true (.read .ent) q us vs → RepVs C true (.read .ent) q bs vs
  | [], [], vs, q, _, h => h
  | a :: us, b :: bs, vs, q, hl, h => by
    obtain ⟨y, ys, rfl, h1, h2⟩ := h
    exact ⟨y, ys, rfl, hl.1 _ _ h1, RepVs.look hl.2 h2⟩
  | [], _ :: _, _, _, h, _ => h.elim
  | _ :: _, [], _, _, h, _ => h.elim
theorem RepCs.look {C : Cx} {b : Nat} : ∀ {us bs : List AV} {off q : Nat}, Looks us bs → RepCs C true (.read .ent) b off q us → RepCs C true (.read .ent) b off q bs
  | [], [], _, _, _, h => h
  | a :: us, c :: bs, off, q, hl, h => by
    obtain ⟨⟨y, h0, h1, h2⟩, h3⟩ := h
    exact ⟨⟨y, h0, h1, hl.1 _ _ h2⟩, RepCs.look hl.2 h3⟩
  | [], _ :: _, _, _, h, _ => h.elim
  | _ :: _, [], _, _, h, _ => h.elim
theorem RepEls.look {C : Cx} {b sz : Nat} : ∀ {us bs : List (List AV)} {off q : Nat}, LookEls us bs → RepEls C (.read .ent) b off q sz us → RepEls C (.read .ent) b off q sz bs
  | [], [], _, _, _, h => h
  | a :: us, c :: bs, off, q, hl, h => by
    obtain ⟨h1, h2, h3⟩ := h
    exact ⟨by rw [← Looks.len hl.1]; exact h1, RepCs.look hl.1 h2, RepEls.look hl.2 h3⟩
  | [], _ :: _, _, _, h, _ => h.elim
  | _ :: _, [], _, _, h, _ => h.elim
theorem Look.row {e sz : Nat} {us bs : List (List AV)} (h : LookEls us bs) : Look (.row e sz us) (.row e sz bs) := fun C x hr => by
  obtain ⟨ha, A, c, rfl, h1, h2, h3⟩ := hr
  have hl := h.len
  refine ⟨ha, A, c, by rw [hl], by omega, by omega, ?_⟩
  rcases h3 with h3 | ⟨b, off, h4, h5, h6⟩
  · left
    rw [h3] at hl
    exact List.eq_nil_of_length_eq_zero (by simpa using hl.symm)
  · exact .inr ⟨b, off, h4, h5, RepEls.look h h6⟩
theorem Look.rd (e sz : Nat) (els : List (List AV)) : Look (.rd .ent e sz els) (.row e sz els) := fun C x hr => by
  obtain ⟨_, _, A, c, rfl, h1, h2, h3⟩ := hr
  exact ⟨trivial, A, c, rfl, h1, h2, h3⟩
theorem Meets.look {P : Program} {f : FuncId} {us bs : List AV} {post : AV → Prop} (hl : Looks us bs) (h : Meets P f bs post) : Meets P f us post :=
  ⟨h.enters, fun w S F base vals hS hr => h.runs w S F base vals hS (hr.look hl)⟩
def byE (bs : List UInt8) : List AV := [.rd .ent 5 1 (bytesA bs)]
def rowBE (xs : List (List UInt8)) : AV := .row 22 1 (ra byE xs)
theorem look_byE : ∀ xs : List (List UInt8), LookEls (ra byE xs) (ra byC xs)
  | [] => trivial
  | x :: xs => ⟨⟨Look.rd _ _ _, trivial⟩, look_byE xs⟩
theorem look_rowBE (xs : List (List UInt8)) : Look (rowBE xs) (rowBB xs) := Look.row (look_byE xs)
theorem byE_snoc (xs : List (List UInt8)) (b : List UInt8) : ra byE xs ++ [[.rd .ent 5 1 (bytesA b)]] = ra byE (xs ++ [b]) := by simp [ra, byE]
attribute [go_sem] byE_snoc rowBE
end Go.Ev
set_option linter.unusedSimpArgs false
set_option linter.unusedVariables false
namespace Go.Ev
open Go Go.RowKit Go.Proofs
structure Tb where
  r : Int
  c : List Cl
def tbC (T : Nat) (x : Tb) : List AV := [.v (.int .i64 x.r), .row T 3 (ra clC x.c)]
def dstep (acc : List (List UInt8)) (c : Cl) : List (List UInt8) := if c.z = false ∧ c.f ∉ acc then acc ++ [c.f] else acc
def dst (xs : List Cl) : List (List UInt8) := xs.foldl dstep []
end Go.Ev
set_option linter.unusedSimpArgs false
set_option linter.unusedVariables false
namespace Go.Ev
open Go Go.RowKit Go.Proofs
structure Pk where
  a : Int
  b : Int
  c : Int
  d : Int
  e : Bool
  f : List UInt8
def pkC (p : Pk) : List AV := [.v (.int .i64 p.a), .v (.int .i64 p.b), .v (.int .i64 p.c), .v (.int .i64 p.d), .v (.bool p.e), .row 5 1 (bytesA p.f)]
end Go.Ev
set_option linter.unusedSimpArgs false
set_option linter.unusedVariables false
namespace Go.Ev
open Go Go.RowKit Go.Proofs
def bbC (xs : List (List UInt8)) : List AV := [.row 22 1 (ra byC xs)]
def rowBBB (xs : List (List (List UInt8))) : AV := .row 29 1 (ra bbC xs)
theorem pure_rowBBB (xs : List (List (List UInt8))) : (rowBBB xs).pure := pureEls_ra (enc := bbC) (fun x => ⟨pureEls_ra (enc := byC) pure_byC x, trivial⟩) xs
end Go.Ev
set_option linter.unusedSimpArgs false
set_option linter.unusedVariables false
namespace Go.Ev
open Go Go.RowKit Go.Proofs
theorem c_l1copy (b : List UInt8) (hb : b.length ≤ 8388608) : Meets Try.prog 88 [rowB b] (fun r => r = rowB b) := by
  refine Meets.intro mixed (hint [(3, 122)]) Try.func88 rfl (by decide) res_88 rty_88 (by kernel_rfl) ?_; 
  simp -dsimp -implicitDefEqProofs only [go_sem, Nat.reduceBEq, Nat.reduceAdd, Nat.reduceLeDiff, Nat.reduceSub, Int.reduceEq, initE]
  repeat (first | with_reducible refine ask.of (by first | omega | (simp only [List.length_nil]; omega)) ?_ | simp -dsimp -implicitDefEqProofs only [go_sem, Nat.reduceBEq, Nat.reduceAdd, Nat.reduceLeDiff, Nat.reduceSub, Int.reduceEq, List.nil_append])
end Go.Ev
set_option linter.unusedSimpArgs false
set_option linter.unusedVariables false
namespace Go.Ev
open Go Go.RowKit Go.Proofs
theorem c_bytesClone (b : List UInt8) (hb : b.length ≤ 8388608) : Meets Try.prog 73 [rowB b] (fun r => r = rowB b) := by
  refine Meets.intro mixed (hint []) Try.func73 rfl (by decide) res_73 rty_73 (by kernel_rfl) ?_; 
  simp -dsimp -implicitDefEqProofs only [go_sem, Nat.reduceBEq, Nat.reduceAdd, Nat.reduceLeDiff, Nat.reduceSub, Int.reduceEq, initE]
  refine nilE'.of (fun h => ?_) ?_
  · have h : b = [] := by simpa [bytesA] using h
    subst h
    simp -dsimp -implicitDefEqProofs only [go_sem, Nat.reduceBEq, Nat.reduceAdd, Nat.reduceLeDiff, Nat.reduceSub, Int.reduceEq]
    rfl
  · simp -dsimp -implicitDefEqProofs only [go_sem, Nat.reduceBEq, Nat.reduceAdd, Nat.reduceLeDiff, Nat.reduceSub, Int.reduceEq]
    repeat (first | with_reducible refine ask.of (by first | omega | decide | (simp; omega)) ?_ | simp -dsimp -implicitDefEqProofs only [go_sem, Nat.reduceBEq, Nat.reduceAdd, Nat.reduceLeDiff, Nat.reduceSub, Int.reduceEq, List.nil_append])
theorem i64_u8 (b : UInt8) : IntKind.i64.wrap (b.toNat : Int) = (b.toNat : Int) := by have := b.toNat_lt; rw [wrap_i64_of (by omega) (by omega)]
end Go.Ev
set_option linter.unusedSimpArgs false
set_option linter.unusedVariables false
namespace Go.Ev
open Go Go.RowKit Go.Proofs
theorem bl3 : Nat.ble 1 3 = true ∧ Nat.ble 2 3 = true ∧ Nat.ble 3 3 = true ∧ Nat.ble 1 4 = true ∧ Nat.ble 2 4 = true ∧ Nat.ble 3 4 = true ∧ Nat.ble 4 4 = true := ⟨rfl, rfl, rfl, rfl, rfl, rfl, rfl⟩
end Go.Ev
set_option linter.unusedSimpArgs false
set_option linter.unusedVariables false
namespace Go.Ev
open Go Go.RowKit Go.Proofs
def rowTb (T C : Nat) (xs : List Tb) : AV := .row T 2 (ra (tbC C) xs)
theorem pure_rowTb (T C : Nat) (xs : List Tb) : (rowTb T C xs).pure := pureEls_ra (enc := tbC C) (fun x => ⟨trivial, pureEls_ra (enc := clC) (fun x => ⟨trivial, trivial, pureEls_bytes _, trivial⟩) x.c, trivial⟩) xs
theorem clW_mem {xs : List Cl} {b : Cl} (h : b ∈ xs) : b.f.length ≤ szL clW xs := mem_clW h
end Go.Ev
set_option linter.unusedVariables false
namespace Go.Ev
open Go Go.RowKit
theorem CallV.ofE {P : Program} {f : FuncId} {args cs : List AV} {s : St} {d : Option Nat} {K : St → Prop} {all cargs ccs : List AV} {post : AV → Prop} (h : Meets P f all post) (hp : ∀ r, post r → r.pure)
    (ha : argsE P s false (parTys P f) args = some cargs) (hc : s.coeKL cs = some ccs) (he : cargs ++ ccs = all) (hk : ∀ r, post r → K (s.ret d r)) : CallV P f args cs s d K := by
  subst he
  exact CallV.of h hp ha hc hk
end Go.Ev
set_option linter.unusedSimpArgs false
set_option linter.unusedVariables false
namespace Go.Ev
open Go Go.RowKit Go.Proofs
structure Sn where
  p : Pk
  q : Int
def snC (s : Sn) : List AV := [.v (.int .i64 s.p.a), .v (.int .i64 s.p.b), .v (.int .i64 s.p.c), .v (.int .i64 s.p.d), .v (.bool s.p.e), .row 5 1 (bytesA s.p.f), .v (.int .i64 s.q)]
def rowPk (T : Nat) (ps : List Pk) : AV := .row T 6 (ra pkC ps)
def rowSn (T : Nat) (ps : List Sn) : AV := .row T 7 (ra snC ps)
theorem pure_rowPk (T : Nat) (ps : List Pk) : (rowPk T ps).pure := pureEls_ra (enc := pkC) (fun x => ⟨trivial, trivial, trivial, trivial, trivial, pureEls_bytes _, trivial⟩) ps
theorem pure_rowSn (T : Nat) (ps : List Sn) : (rowSn T ps).pure := pureEls_ra (enc := snC) (fun x => ⟨trivial, trivial, trivial, trivial, trivial, pureEls_bytes _, trivial, trivial⟩) ps
end Go.Ev
set_option linter.unusedSimpArgs false
set_option linter.unusedVariables false
namespace Go.Ev
open Go Go.RowKit Go.Proofs
def bitsL (cs : List Cl) : List Bool := cs.map fun c => decide (c.i = 1)
def intsL (cs : List Cl) : List Int := cs.map fun c => c.i
def thereL (cs : List Cl) : List Bool := cs.map fun c => !c.z
def dataL (cs : List Cl) : List UInt8 := cs.flatMap fun c => c.f
def offP (cs : List Cl) (i : Nat) : List Int := (List.range (i + 1)).map fun j => ((szL clW (cs.take j) : Nat) : Int)
def offL (cs : List Cl) : List Int := offP cs cs.length
theorem offP_len (cs : List Cl) (i : Nat) : (offP cs i).length = i + 1 := by simp [offP]
theorem offP_snoc (cs : List Cl) (i : Nat) : offP cs i ++ [((szL clW (cs.take (i + 1)) : Nat) : Int)] = offP cs (i + 1) := snoc_range (fun j => ((szL clW (cs.take j) : Nat) : Int)) (i + 1) rfl
theorem offP_mem {cs : List Cl} {i : Nat} {x : Int} (h : x ∈ offP cs i) : 0 ≤ x ∧ x ≤ szL clW cs := by
  obtain ⟨j, _, rfl⟩ := List.mem_map.1 h
  have := szL_take_le clW cs j
  omega
def plc (vs : List (List UInt8)) (c : Cl) : Int := if c.z = true then 0 else plI vs c.f
def plcL (vs : List (List UInt8)) (cs : List Cl) : List Int := cs.map (plc vs)
theorem map_takeS {α β : Type} (g : α → β) {xs : List α} {i : Nat} (h : i < xs.length) : (xs.take i).map g ++ [g xs[i]] = (xs.take (i + 1)).map g := by rw [List.take_succ_eq_append_getElem h, List.map_append]; rfl
theorem data_take {cs : List Cl} {i : Nat} (h : i < cs.length) : dataL (cs.take i) ++ cs[i].f = dataL (cs.take (i + 1)) := by rw [List.take_succ_eq_append_getElem h, dataL, dataL, List.flatMap_append]; simp
theorem data_len (cs : List Cl) : (dataL cs).length = szL clW cs := by
  induction cs with
  | nil => rfl
  | cons c cs ih => simp only [dataL, szL, List.flatMap_cons, List.length_append, List.map_cons, List.sum_cons, clW] at ih ⊢; omega
set_option maxRecDepth 8000 in
theorem c_boolsBuild (cs : List Cl) (hx : cs.length ≤ 1048576) : Meets Try.prog 211 [.agg [], rowCl 145 cs] (fun r => r = .tup [rowBB [packB (bitsL cs)], .v (.int .i64 0)]) := by
  refine Meets.intro mixed (hint []) Try.func211 rfl (by decide) res_211 rty_211 (by kernel_rfl) ?_; 
  simp -dsimp -implicitDefEqProofs only [go_sem, Nat.reduceBEq, Nat.reduceAdd, Nat.reduceLeDiff, Nat.reduceSub, Int.reduceEq, rowCl]
  repeat (first | with_reducible refine ask.of (by first | omega | decide) ?_ | simp -dsimp -implicitDefEqProofs only [go_sem, Nat.reduceBEq, Nat.reduceAdd, Nat.reduceLeDiff, Nat.reduceSub, Int.reduceEq, initE, rowCl])
  refine LoopE.cnt cs.length (fun i s => s.env 6 = .ref [9] ∧ s.env 10 = .rd .ent 145 3 (ra clC cs) ∧ s.env 11 = .v (.int .i64 cs.length) ∧ s.env 12 = .v (.int .i64 i) ∧ s.σ [9] = some (.row 4 1 (ra boolC (bitsL (cs.take i))))) ⟨by simp -dsimp -implicitDefEqProofs only [go_sem, Nat.reduceBEq, Nat.reduceAdd, Nat.reduceLeDiff, Nat.reduceSub, Int.reduceEq], by simp -dsimp -implicitDefEqProofs only [go_sem, Nat.reduceBEq, Nat.reduceAdd, Nat.reduceLeDiff, Nat.reduceSub, Int.reduceEq, initE, rowCl], by simp -dsimp -implicitDefEqProofs only [go_sem, Nat.reduceBEq, Nat.reduceAdd, Nat.reduceLeDiff, Nat.reduceSub, Int.reduceEq, initE, rowCl], by simp -dsimp -implicitDefEqProofs only [go_sem, Nat.reduceBEq, Nat.reduceAdd, Nat.reduceLeDiff, Nat.reduceSub, Int.reduceEq] <;> rfl, by simp -dsimp -implicitDefEqProofs only [go_sem, Nat.reduceBEq, Nat.reduceAdd, Nat.reduceLeDiff, Nat.reduceSub, Int.reduceEq] <;> rfl⟩ ?_
  rintro i ⟨e, σ⟩ hi ⟨h6, h10, h11, h12, hs⟩ K hK
  simp only at h6 h10 h11 h12 hs
  simp -dsimp -implicitDefEqProofs only [go_sem, Nat.reduceBEq, Nat.reduceAdd, Nat.reduceLeDiff, Nat.reduceSub, Int.reduceEq, h6, h10, h11, h12, hs]
  have hl : (bitsL (cs.take i)).length = i := by simp [bitsL]; omega
  refine ifB'.of (fun hlt => ?_) (fun hlt => ?_)
  · have hlt : i < cs.length := by omega
    repeat (first | with_reducible refine ask.of (by first | omega | decide) ?_ | simp -dsimp -implicitDefEqProofs only [go_sem, Nat.reduceBEq, Nat.reduceAdd, Nat.reduceLeDiff, Nat.reduceSub, Int.reduceEq, h6, h10, h11, h12, hs, Cl_at hlt, clC, bl3, hl])
    refine hK _ hlt ?_
    simp -dsimp -implicitDefEqProofs only [go_sem, Nat.reduceBEq, Nat.reduceAdd, Nat.reduceLeDiff, Nat.reduceSub, Int.reduceEq, h6, h10, h11, h12, hs, wrap_succ (show i < 4611686018427387904 by omega)]
    rw [show bitsL (cs.take i) ++ [decide (cs[i].i = 1)] = bitsL (cs.take (i + 1)) from map_takeS (fun c : Cl => decide (c.i = 1)) hlt]
  · have : i = cs.length := by omega
    subst this
    rw [List.take_length] at hs
    simp -dsimp -implicitDefEqProofs only [go_sem, Nat.reduceBEq, Nat.reduceAdd, Nat.reduceLeDiff, Nat.reduceSub, Int.reduceEq, h6, h10, h11, h12, hs]
    refine CallE.of (c_iPackBits (bitsL cs) (by simp [bitsL]; omega)) (by rintro r rfl; (repeat' first | exact trivial | exact pure_rowB _ | exact pure_rowO _ | exact pure_rowI _ | exact pure_rowBB _ | exact pure_rowPk _ _ | exact pure_rowSn _ _ | exact pure_rowFd _ _ | exact pure_rowBBB _ | exact pure_rowCl _ _ | exact pure_rowTb _ _ _ | refine And.intro ?_ ?_)) (by simp -dsimp -implicitDefEqProofs only [go_sem, Nat.reduceBEq, Nat.reduceAdd, Nat.reduceLeDiff, Nat.reduceSub, Int.reduceEq, h6, h10, h11, h12, hs]) ?_
    rintro r rfl
    simp -dsimp -implicitDefEqProofs only [go_sem, Nat.reduceBEq, Nat.reduceAdd, Nat.reduceLeDiff, Nat.reduceSub, Int.reduceEq, h6, h10, h11, h12, hs]
    repeat (first | with_reducible refine ask.of (by first | omega | decide) ?_ | simp -dsimp -implicitDefEqProofs only [go_sem, Nat.reduceBEq, Nat.reduceAdd, Nat.reduceLeDiff, Nat.reduceSub, Int.reduceEq, h6, h10, h11, h12, hs, bl3])
    rfl
set_option maxRecDepth 8000 in
theorem c_numbersBuild (w : Int) (cs : List Cl) (hx : cs.length ≤ 1048576) (hr : ∀ c ∈ cs, i64r c.i) : Meets Try.prog 214 [.agg [.v (.int .i64 w)], rowCl 145 cs] (fun r => r = .tup [rowBB [(packIC (intsL cs) w).1], .v (.int .i64 (packIC (intsL cs) w).2)]) := by
  refine Meets.intro mixed (hint []) Try.func214 rfl (by decide) res_214 rty_214 (by kernel_rfl) ?_; 
  simp -dsimp -implicitDefEqProofs only [go_sem, Nat.reduceBEq, Nat.reduceAdd, Nat.reduceLeDiff, Nat.reduceSub, Int.reduceEq, rowCl]
  repeat (first | with_reducible refine ask.of (by first | omega | decide) ?_ | simp -dsimp -implicitDefEqProofs only [go_sem, Nat.reduceBEq, Nat.reduceAdd, Nat.reduceLeDiff, Nat.reduceSub, Int.reduceEq, initE, rowCl])
  refine LoopE.cnt cs.length (fun i s => s.env 2 = .ptr [2] 0 0 0 ∧ s.env 6 = .ref [11] ∧ s.env 12 = .rd .ent 145 3 (ra clC cs) ∧ s.env 13 = .v (.int .i64 cs.length) ∧ s.env 14 = .v (.int .i64 i) ∧ s.σ [2] = some (.box 197 [.v (.int .i64 w)]) ∧ s.σ [11] = some (.row 3 1 (ra intC (intsL (cs.take i))))) ⟨by simp -dsimp -implicitDefEqProofs only [go_sem, Nat.reduceBEq, Nat.reduceAdd, Nat.reduceLeDiff, Nat.reduceSub, Int.reduceEq], by simp -dsimp -implicitDefEqProofs only [go_sem, Nat.reduceBEq, Nat.reduceAdd, Nat.reduceLeDiff, Nat.reduceSub, Int.reduceEq], by simp -dsimp -implicitDefEqProofs only [go_sem, Nat.reduceBEq, Nat.reduceAdd, Nat.reduceLeDiff, Nat.reduceSub, Int.reduceEq, initE, rowCl], by simp -dsimp -implicitDefEqProofs only [go_sem, Nat.reduceBEq, Nat.reduceAdd, Nat.reduceLeDiff, Nat.reduceSub, Int.reduceEq, initE, rowCl], by simp -dsimp -implicitDefEqProofs only [go_sem, Nat.reduceBEq, Nat.reduceAdd, Nat.reduceLeDiff, Nat.reduceSub, Int.reduceEq] <;> rfl, by simp -dsimp -implicitDefEqProofs only [go_sem, Nat.reduceBEq, Nat.reduceAdd, Nat.reduceLeDiff, Nat.reduceSub, Int.reduceEq, initE], by simp -dsimp -implicitDefEqProofs only [go_sem, Nat.reduceBEq, Nat.reduceAdd, Nat.reduceLeDiff, Nat.reduceSub, Int.reduceEq] <;> rfl⟩ ?_
  rintro i ⟨e, σ⟩ hi ⟨h2, h6, h12, h13, h14, hs2, hs⟩ K hK
  simp only at h2 h6 h12 h13 h14 hs2 hs
  simp -dsimp -implicitDefEqProofs only [go_sem, Nat.reduceBEq, Nat.reduceAdd, Nat.reduceLeDiff, Nat.reduceSub, Int.reduceEq, h2, h6, h12, h13, h14, hs2, hs]
  have hl : (intsL (cs.take i)).length = i := by simp [intsL]; omega
  refine ifB'.of (fun hlt => ?_) (fun hlt => ?_)
  · have hlt : i < cs.length := by omega
    repeat (first | with_reducible refine ask.of (by first | omega | decide) ?_ | simp -dsimp -implicitDefEqProofs only [go_sem, Nat.reduceBEq, Nat.reduceAdd, Nat.reduceLeDiff, Nat.reduceSub, Int.reduceEq, h2, h6, h12, h13, h14, hs2, hs, Cl_at hlt, clC, bl3, hl])
    refine hK _ hlt ?_
    simp -dsimp -implicitDefEqProofs only [go_sem, Nat.reduceBEq, Nat.reduceAdd, Nat.reduceLeDiff, Nat.reduceSub, Int.reduceEq, h2, h6, h12, h13, h14, hs2, hs, wrap_succ (show i < 4611686018427387904 by omega)]
    rw [show intsL (cs.take i) ++ [cs[i].i] = intsL (cs.take (i + 1)) from map_takeS (fun c : Cl => c.i) hlt]
  · have : i = cs.length := by omega
    subst this
    rw [List.take_length] at hs
    simp -dsimp -implicitDefEqProofs only [go_sem, Nat.reduceBEq, Nat.reduceAdd, Nat.reduceLeDiff, Nat.reduceSub, Int.reduceEq, h2, h6, h12, h13, h14, hs2, hs]
    repeat (first | with_reducible refine ask.of (by first | omega | decide) ?_ | simp -dsimp -implicitDefEqProofs only [go_sem, Nat.reduceBEq, Nat.reduceAdd, Nat.reduceLeDiff, Nat.reduceSub, Int.reduceEq, h2, h6, h12, h13, h14, hs2, hs, bl3])
    refine CallE.of (c_implPackInts (intsL cs) w (by simp [intsL]; omega) (fun x hx => by obtain ⟨c, hc, rfl⟩ := List.mem_map.1 hx; exact hr c hc)) (by rintro r rfl; (repeat' first | exact trivial | exact pure_rowB _ | exact pure_rowO _ | exact pure_rowI _ | exact pure_rowBB _ | exact pure_rowPk _ _ | exact pure_rowSn _ _ | exact pure_rowFd _ _ | exact pure_rowBBB _ | exact pure_rowCl _ _ | exact pure_rowTb _ _ _ | refine And.intro ?_ ?_)) (by simp -dsimp -implicitDefEqProofs only [go_sem, Nat.reduceBEq, Nat.reduceAdd, Nat.reduceLeDiff, Nat.reduceSub, Int.reduceEq, h2, h6, h12, h13, h14, hs2, hs]) ?_
    rintro r rfl
    simp -dsimp -implicitDefEqProofs only [go_sem, Nat.reduceBEq, Nat.reduceAdd, Nat.reduceLeDiff, Nat.reduceSub, Int.reduceEq, h2, h6, h12, h13, h14, hs2, hs]
    repeat (first | with_reducible refine ask.of (by first | omega | decide) ?_ | simp -dsimp -implicitDefEqProofs only [go_sem, Nat.reduceBEq, Nat.reduceAdd, Nat.reduceLeDiff, Nat.reduceSub, Int.reduceEq, h2, h6, h12, h13, h14, hs2, hs, bl3])
    rfl
theorem off_at {cs : List Cl} {i : Nat} (h : i < cs.length) : (ra intC (offP cs i))[i]? = some [.v (.int .i64 ((szL clW (cs.take i) : Nat) : Int))] := ra_at' (by simp [offP])
set_option maxRecDepth 8000 in
theorem c_ends (cs : List Cl) (hx0 : cs.length ≤ 1000) (hx : szL clW cs ≤ 1048576) : Meets Try.prog 222 [.agg [], rowCl 145 cs] (fun r => r = .tup [rowB (packIC (offL cs) 4).1, .v (.int .i64 (packIC (offL cs) 4).2)]) := by
  refine Meets.introO mixed (hint []) (fun k => (sel (k == 5) [0,1,2,3,4,5,6,7,8,9,10,11] [])) Try.func222 rfl (by decide) res_222 rty_222 (by kernel_rfl) ?_; 
  simp -dsimp -implicitDefEqProofs only [go_sem, Nat.reduceBEq, Nat.reduceAdd, Nat.reduceLeDiff, Nat.reduceSub, Int.reduceEq, rowCl]
  repeat (first | with_reducible refine ask.of (by first | omega | decide) ?_ | simp -dsimp -implicitDefEqProofs only [go_sem, Nat.reduceBEq, Nat.reduceAdd, Nat.reduceLeDiff, Nat.reduceSub, Int.reduceEq, initE, rowCl])
  refine LoopE.cnt cs.length (fun i s => s.env 6 = .ref [9] ∧ s.env 10 = .rd .ent 145 3 (ra clC cs) ∧ s.env 11 = .v (.int .i64 cs.length) ∧ s.env 12 = .v (.int .i64 i) ∧ s.σ [9] = some (.row 3 1 (ra intC (offP cs i)))) ⟨by simp -dsimp -implicitDefEqProofs only [go_sem, Nat.reduceBEq, Nat.reduceAdd, Nat.reduceLeDiff, Nat.reduceSub, Int.reduceEq], by simp -dsimp -implicitDefEqProofs only [go_sem, Nat.reduceBEq, Nat.reduceAdd, Nat.reduceLeDiff, Nat.reduceSub, Int.reduceEq, initE, rowCl], by simp -dsimp -implicitDefEqProofs only [go_sem, Nat.reduceBEq, Nat.reduceAdd, Nat.reduceLeDiff, Nat.reduceSub, Int.reduceEq, initE, rowCl], by simp -dsimp -implicitDefEqProofs only [go_sem, Nat.reduceBEq, Nat.reduceAdd, Nat.reduceLeDiff, Nat.reduceSub, Int.reduceEq] <;> rfl, by simp -dsimp -implicitDefEqProofs only [go_sem, Nat.reduceBEq, Nat.reduceAdd, Nat.reduceLeDiff, Nat.reduceSub, Int.reduceEq] <;> rfl⟩ ?_
  rintro i ⟨e, σ⟩ hi ⟨h6, h10, h11, h12, hs⟩ K hK
  simp only at h6 h10 h11 h12 hs
  simp -dsimp -implicitDefEqProofs only [go_sem, Nat.reduceBEq, Nat.reduceAdd, Nat.reduceLeDiff, Nat.reduceSub, Int.reduceEq, h6, h10, h11, h12, hs]
  refine ifB'.of (fun hlt => ?_) (fun hlt => ?_)
  · have hlt : i < cs.length := by omega
    have hw := szL_at_le clW hlt
    have hw1 := szL_take_succ clW hlt
    have hww : clW cs[i] = cs[i].f.length := rfl
    have hl := offP_len cs i
    have e1 : IntKind.i64.wrap (((szL clW (cs.take i) : Nat) : Int) + (cs[i].f.length : Int)) = ((szL clW (cs.take (i + 1)) : Nat) : Int) := by rw [wrap_i64_of (by omega) (by omega)]; omega
    repeat (first | with_reducible refine ask.of (by first | omega | decide) ?_ | simp -dsimp -implicitDefEqProofs only [go_sem, Nat.reduceBEq, Nat.reduceAdd, Nat.reduceLeDiff, Nat.reduceSub, Int.reduceEq, h6, h10, h11, h12, hs, Cl_at hlt, clC, bl3, hl, off_at hlt, e1])
    refine hK _ hlt ?_
    simp -dsimp -implicitDefEqProofs only [go_sem, Nat.reduceBEq, Nat.reduceAdd, Nat.reduceLeDiff, Nat.reduceSub, Int.reduceEq, h6, h10, h11, h12, hs, wrap_succ (show i < 4611686018427387904 by omega)]
    rw [offP_snoc]
  · have : i = cs.length := by omega
    subst this
    simp -dsimp -implicitDefEqProofs only [go_sem, Nat.reduceBEq, Nat.reduceAdd, Nat.reduceLeDiff, Nat.reduceSub, Int.reduceEq, h6, h10, h11, h12, hs]
    refine CallE.of (c_implPackInts (offL cs) 4 (by rw [offL, offP_len]; omega) (fun x hx => by have := offP_mem hx; omega)) (by rintro r rfl; (repeat' first | exact trivial | exact pure_rowB _ | exact pure_rowO _ | exact pure_rowI _ | exact pure_rowBB _ | exact pure_rowPk _ _ | exact pure_rowSn _ _ | exact pure_rowFd _ _ | exact pure_rowBBB _ | exact pure_rowCl _ _ | exact pure_rowTb _ _ _ | refine And.intro ?_ ?_)) (by simp -dsimp -implicitDefEqProofs only [go_sem, Nat.reduceBEq, Nat.reduceAdd, Nat.reduceLeDiff, Nat.reduceSub, Int.reduceEq, h6, h10, h11, h12, hs, offL]) ?_
    rintro r rfl
    simp -dsimp -implicitDefEqProofs only [go_sem, Nat.reduceBEq, Nat.reduceAdd, Nat.reduceLeDiff, Nat.reduceSub, Int.reduceEq, h6, h10, h11, h12, hs, offL]
    repeat (first | with_reducible refine ask.of (by first | omega | decide) ?_ | simp -dsimp -implicitDefEqProofs only [go_sem, Nat.reduceBEq, Nat.reduceAdd, Nat.reduceLeDiff, Nat.reduceSub, Int.reduceEq, h6, h10, h11, h12, hs, bl3])
set_option maxRecDepth 8000 in
theorem c_textsBuild (cs : List Cl) (hx0 : cs.length ≤ 1000) (hx : szL clW cs ≤ 1048576) : Meets Try.prog 223 [.agg [], rowCl 145 cs] (fun r => r = .tup [rowBB [(packIC (offL cs) 4).1, dataL cs], .v (.int .i64 (packIC (offL cs) 4).2)]) := by
  refine Meets.introN mixed (hint []) (fun _ => []) [0] Try.func223 rfl (by decide) res_223 rty_223 (by kernel_rfl) ?_; 
  simp -dsimp -implicitDefEqProofs only [go_sem, Nat.reduceBEq, Nat.reduceAdd, Nat.reduceLeDiff, Nat.reduceSub, Int.reduceEq, rowCl]
  repeat (first | with_reducible refine ask.of (by first | omega | decide) ?_ | simp -dsimp -implicitDefEqProofs only [go_sem, Nat.reduceBEq, Nat.reduceAdd, Nat.reduceLeDiff, Nat.reduceSub, Int.reduceEq, initE, rowCl])
  refine RangeE.zero (H := hint []) (l := _) (id := [2]) rfl rfl rfl rfl (by kernel_rfl) Try.underlying200 rfl ⟨rfl, rfl⟩ (by kernel_rfl) (t := 200) (by kernel_rfl) (by simp -dsimp -implicitDefEqProofs only [go_sem, Nat.reduceBEq, Nat.reduceAdd, Nat.reduceLeDiff, Nat.reduceSub, Int.reduceEq]) (by simp -dsimp -implicitDefEqProofs only [go_sem, Nat.reduceBEq, Nat.reduceAdd, Nat.reduceLeDiff, Nat.reduceSub, Int.reduceEq]) ?_
  have b00 : Nat.ble 0 0 = true := rfl
  repeat (first | with_reducible refine ask.of (by first | omega | decide) ?_ | simp -dsimp -implicitDefEqProofs only [go_sem, Nat.reduceBEq, Nat.reduceAdd, Nat.reduceLeDiff, Nat.reduceSub, Int.reduceEq, initE, rowCl, b00])
  refine CallE.of (c_ends cs hx0 hx) (by rintro r rfl; (repeat' first | exact trivial | exact pure_rowB _ | exact pure_rowO _ | exact pure_rowI _ | exact pure_rowBB _ | exact pure_rowPk _ _ | exact pure_rowSn _ _ | exact pure_rowFd _ _ | exact pure_rowBBB _ | exact pure_rowCl _ _ | exact pure_rowTb _ _ _ | refine And.intro ?_ ?_)) (by simp -dsimp -implicitDefEqProofs only [go_sem, Nat.reduceBEq, Nat.reduceAdd, Nat.reduceLeDiff, Nat.reduceSub, Int.reduceEq, rowCl]) ?_
  rintro r rfl
  simp -dsimp -implicitDefEqProofs only [go_sem, Nat.reduceBEq, Nat.reduceAdd, Nat.reduceLeDiff, Nat.reduceSub, Int.reduceEq, rowCl]
  repeat (first | with_reducible refine ask.of (by first | omega | decide) ?_ | simp -dsimp -implicitDefEqProofs only [go_sem, Nat.reduceBEq, Nat.reduceAdd, Nat.reduceLeDiff, Nat.reduceSub, Int.reduceEq, initE, rowCl])
  refine LoopE.cnt cs.length (fun i s => s.env 6 = .ref [15, 0] ∧ s.env 7 = .v (.int .i64 (packIC (offL cs) 4).2) ∧ s.env 8 = .ref [18] ∧ s.env 19 = .rd .ent 145 3 (ra clC cs) ∧ s.env 20 = .v (.int .i64 cs.length) ∧ s.env 21 = .v (.int .i64 i) ∧ s.σ [15, 0] = some (.row 5 1 (bytesA (packIC (offL cs) 4).1)) ∧ s.σ [18] = some (.row 5 1 (bytesA (dataL (cs.take i))))) ⟨by simp -dsimp -implicitDefEqProofs only [go_sem, Nat.reduceBEq, Nat.reduceAdd, Nat.reduceLeDiff, Nat.reduceSub, Int.reduceEq], by simp -dsimp -implicitDefEqProofs only [go_sem, Nat.reduceBEq, Nat.reduceAdd, Nat.reduceLeDiff, Nat.reduceSub, Int.reduceEq], by simp -dsimp -implicitDefEqProofs only [go_sem, Nat.reduceBEq, Nat.reduceAdd, Nat.reduceLeDiff, Nat.reduceSub, Int.reduceEq], by simp -dsimp -implicitDefEqProofs only [go_sem, Nat.reduceBEq, Nat.reduceAdd, Nat.reduceLeDiff, Nat.reduceSub, Int.reduceEq, initE, rowCl], by simp -dsimp -implicitDefEqProofs only [go_sem, Nat.reduceBEq, Nat.reduceAdd, Nat.reduceLeDiff, Nat.reduceSub, Int.reduceEq, initE, rowCl], by simp -dsimp -implicitDefEqProofs only [go_sem, Nat.reduceBEq, Nat.reduceAdd, Nat.reduceLeDiff, Nat.reduceSub, Int.reduceEq] <;> rfl, by simp -dsimp -implicitDefEqProofs only [go_sem, Nat.reduceBEq, Nat.reduceAdd, Nat.reduceLeDiff, Nat.reduceSub, Int.reduceEq], by simp -dsimp -implicitDefEqProofs only [go_sem, Nat.reduceBEq, Nat.reduceAdd, Nat.reduceLeDiff, Nat.reduceSub, Int.reduceEq] <;> rfl⟩ ?_
  rintro i ⟨e, σ⟩ hi ⟨h6, h7, h8, h19, h20, h21, hs, hs8⟩ K hK
  simp only at h6 h7 h8 h19 h20 h21 hs hs8
  simp -dsimp -implicitDefEqProofs only [go_sem, Nat.reduceBEq, Nat.reduceAdd, Nat.reduceLeDiff, Nat.reduceSub, Int.reduceEq, h6, h7, h8, h19, h20, h21, hs, hs8]
  refine ifB'.of (fun hlt => ?_) (fun hlt => ?_)
  · have hlt : i < cs.length := by omega
    have hw1 := szL_take_succ clW hlt
    have hw2 := szL_take_le clW cs (i + 1)
    have hl := data_len (cs.take i)
    have hww : clW cs[i] = cs[i].f.length := rfl
    repeat (first | with_reducible refine ask.of (by first | omega | decide) ?_ | simp -dsimp -implicitDefEqProofs only [go_sem, Nat.reduceBEq, Nat.reduceAdd, Nat.reduceLeDiff, Nat.reduceSub, Int.reduceEq, h6, h7, h8, h19, h20, h21, hs, hs8, Cl_at hlt, clC, bl3])
    refine hK _ hlt ?_
    simp -dsimp -implicitDefEqProofs only [go_sem, Nat.reduceBEq, Nat.reduceAdd, Nat.reduceLeDiff, Nat.reduceSub, Int.reduceEq, h6, h7, h8, h19, h20, h21, hs, hs8, wrap_succ (show i < 4611686018427387904 by omega), data_take hlt]
  · have : i = cs.length := by omega
    subst this
    rw [List.take_length] at hs8
    simp -dsimp -implicitDefEqProofs only [go_sem, Nat.reduceBEq, Nat.reduceAdd, Nat.reduceLeDiff, Nat.reduceSub, Int.reduceEq, h6, h7, h8, h19, h20, h21, hs, hs8]
    repeat (first | with_reducible refine ask.of (by first | omega | decide) ?_ | simp -dsimp -implicitDefEqProofs only [go_sem, Nat.reduceBEq, Nat.reduceAdd, Nat.reduceLeDiff, Nat.reduceSub, Int.reduceEq, h6, h7, h8, h19, h20, h21, hs, hs8, bl3])
    rfl
theorem c_placeFn (v t : List UInt8) (hv : v.length ≤ 1048576) (ht : t.length ≤ 1048576) : Meets Try.prog 232 [rowB v, .bx 22 [.row 5 1 (bytesA t)]] (fun r => r = .v (.bool (decide (v = t)))) := by
  refine Meets.intro mixed (hint []) Try.func232 rfl (by decide) res_232 rty_232 (by kernel_rfl) ?_; 
  simp -dsimp -implicitDefEqProofs only [go_sem, Nat.reduceBEq, Nat.reduceAdd, Nat.reduceLeDiff, Nat.reduceSub, Int.reduceEq]
  repeat (first | with_reducible refine ask.of (by first | omega | decide) ?_ | simp -dsimp -implicitDefEqProofs only [go_sem, Nat.reduceBEq, Nat.reduceAdd, Nat.reduceLeDiff, Nat.reduceSub, Int.reduceEq, initE])
  refine CallE.of (c_bytesEqual v t (by omega) (by omega)) (by rintro r rfl; (repeat' first | exact trivial | exact pure_rowB _ | exact pure_rowO _ | exact pure_rowI _ | exact pure_rowBB _ | exact pure_rowPk _ _ | exact pure_rowSn _ _ | exact pure_rowFd _ _ | exact pure_rowBBB _ | exact pure_rowCl _ _ | exact pure_rowTb _ _ _ | refine And.intro ?_ ?_)) (by simp -dsimp -implicitDefEqProofs only [go_sem, Nat.reduceBEq, Nat.reduceAdd, Nat.reduceLeDiff, Nat.reduceSub, Int.reduceEq]) ?_
  rintro r rfl
  simp -dsimp -implicitDefEqProofs only [go_sem, Nat.reduceBEq, Nat.reduceAdd, Nat.reduceLeDiff, Nat.reduceSub, Int.reduceEq]
set_option maxRecDepth 8000 in
theorem c_placeIndex (xs : List (List UInt8)) (t : List UInt8) (hx : xs.length ≤ 1048576) (hb : ∀ b ∈ xs, b.length ≤ 1048576) (ht : t.length ≤ 1048576) :
    Meets Try.prog 231 [rowBB xs, .fn 232 [.bx 22 [.row 5 1 (bytesA t)]]] (fun r => r = .v (.int .i64 (plI xs t))) := by
  refine Meets.intro mixed (hint []) Try.func231 rfl (by decide) res_231 rty_231 (by kernel_rfl) ?_; 
  simp -dsimp -implicitDefEqProofs only [go_sem, Nat.reduceBEq, Nat.reduceAdd, Nat.reduceLeDiff, Nat.reduceSub, Int.reduceEq]
  have hp : parTys Try.prog 232 = [22] := by kernel_rfl
  refine LoopE.cnt xs.length (fun i s => s.env 0 = .rd .ent 22 1 (ra byC xs) ∧ s.env 1 = .fn 232 [.rp .ent 22 1 [[.row 5 1 (bytesA t)]] 0 0] ∧ s.env 7 = .v (.int .i64 xs.length) ∧ s.env 8 = .v (.int .i64 i) ∧ t ∉ xs.take i) ⟨by simp -dsimp -implicitDefEqProofs only [go_sem, Nat.reduceBEq, Nat.reduceAdd, Nat.reduceLeDiff, Nat.reduceSub, Int.reduceEq, initE], by simp -dsimp -implicitDefEqProofs only [go_sem, Nat.reduceBEq, Nat.reduceAdd, Nat.reduceLeDiff, Nat.reduceSub, Int.reduceEq, initE], by simp -dsimp -implicitDefEqProofs only [go_sem, Nat.reduceBEq, Nat.reduceAdd, Nat.reduceLeDiff, Nat.reduceSub, Int.reduceEq], by simp -dsimp -implicitDefEqProofs only [go_sem, Nat.reduceBEq, Nat.reduceAdd, Nat.reduceLeDiff, Nat.reduceSub, Int.reduceEq] <;> rfl, by simp⟩ ?_
  rintro i ⟨e, σ⟩ hi ⟨h0, h1, h7, h8, hn⟩ K hK
  simp only at h0 h1 h7 h8
  simp -dsimp -implicitDefEqProofs only [go_sem, Nat.reduceBEq, Nat.reduceAdd, Nat.reduceLeDiff, Nat.reduceSub, Int.reduceEq, h0, h1, h7, h8]
  refine ifB'.of (fun hlt => ?_) (fun hlt => ?_)
  · have hlt : i < xs.length := by omega
    repeat (first | with_reducible refine ask.of (by first | omega | decide) ?_ | simp -dsimp -implicitDefEqProofs only [go_sem, Nat.reduceBEq, Nat.reduceAdd, Nat.reduceLeDiff, Nat.reduceSub, Int.reduceEq, h0, h1, h7, h8, byA_at hlt])
    refine CallV.ofE (c_placeFn xs[i] t (hb _ (List.getElem_mem _)) ht) (by rintro r rfl; (repeat' first | exact trivial | exact pure_rowB _ | exact pure_rowO _ | exact pure_rowI _ | exact pure_rowBB _ | exact pure_rowPk _ _ | exact pure_rowSn _ _ | exact pure_rowFd _ _ | exact pure_rowBBB _ | exact pure_rowCl _ _ | exact pure_rowTb _ _ _ | refine And.intro ?_ ?_)) (by first | (simp -dsimp -implicitDefEqProofs only [go_sem, Nat.reduceBEq, Nat.reduceAdd, Nat.reduceLeDiff, Nat.reduceSub, Int.reduceEq, h0, h1, h7, h8, hp]; done) | (simp -dsimp -implicitDefEqProofs only [go_sem, Nat.reduceBEq, Nat.reduceAdd, Nat.reduceLeDiff, Nat.reduceSub, Int.reduceEq, h0, h1, h7, h8, hp]; rfl)) (by first | (simp -dsimp -implicitDefEqProofs only [go_sem, Nat.reduceBEq, Nat.reduceAdd, Nat.reduceLeDiff, Nat.reduceSub, Int.reduceEq, h0, h1, h7, h8, hp]; done) | (simp -dsimp -implicitDefEqProofs only [go_sem, Nat.reduceBEq, Nat.reduceAdd, Nat.reduceLeDiff, Nat.reduceSub, Int.reduceEq, h0, h1, h7, h8, hp]; rfl)) (by first | rfl | (simp -dsimp -implicitDefEqProofs only [go_sem, Nat.reduceBEq, Nat.reduceAdd, Nat.reduceLeDiff, Nat.reduceSub, Int.reduceEq, h0, h1, h7, h8, hp]; done)) ?_
    rintro r rfl
    simp -dsimp -implicitDefEqProofs only [go_sem, Nat.reduceBEq, Nat.reduceAdd, Nat.reduceLeDiff, Nat.reduceSub, Int.reduceEq, h0, h1, h7, h8, hp]
    refine ifB'.of (fun hq => ?_) (fun hq => ?_)
    · simp -dsimp -implicitDefEqProofs only [go_sem, Nat.reduceBEq, Nat.reduceAdd, Nat.reduceLeDiff, Nat.reduceSub, Int.reduceEq, h0, h1, h7, h8]
      rw [plI_at hlt hq hn]
    · simp -dsimp -implicitDefEqProofs only [go_sem, Nat.reduceBEq, Nat.reduceAdd, Nat.reduceLeDiff, Nat.reduceSub, Int.reduceEq, h0, h1, h7, h8]
      refine hK _ hlt ?_
      simp -dsimp -implicitDefEqProofs only [go_sem, Nat.reduceBEq, Nat.reduceAdd, Nat.reduceLeDiff, Nat.reduceSub, Int.reduceEq, h0, h1, h7, h8, wrap_succ (show i < 4611686018427387904 by omega)]
      exact not_mem_take_succ hlt hn hq
  · have : i = xs.length := by omega
    subst this
    simp -dsimp -implicitDefEqProofs only [go_sem, Nat.reduceBEq, Nat.reduceAdd, Nat.reduceLeDiff, Nat.reduceSub, Int.reduceEq, h0, h1, h7, h8]
    rw [plI_no (by rwa [List.take_length] at hn)]
theorem c_placeOf (xs : List (List UInt8)) (t : List UInt8) (hx : xs.length ≤ 1048576) (hb : ∀ b ∈ xs, b.length ≤ 1048576) (ht : t.length ≤ 1048576) : Meets Try.prog 230 [rowBB xs, rowB t] (fun r => r = .v (.int .i64 (plI xs t))) := by
  refine Meets.intro mixed (hint []) Try.func230 rfl (by decide) res_230 rty_230 (by kernel_rfl) ?_; 
  simp -dsimp -implicitDefEqProofs only [go_sem, Nat.reduceBEq, Nat.reduceAdd, Nat.reduceLeDiff, Nat.reduceSub, Int.reduceEq]
  repeat (first | with_reducible refine ask.of (by first | omega | decide) ?_ | simp -dsimp -implicitDefEqProofs only [go_sem, Nat.reduceBEq, Nat.reduceAdd, Nat.reduceLeDiff, Nat.reduceSub, Int.reduceEq, initE])
  refine CallE.of (c_placeIndex xs t hx hb ht) (by rintro r rfl; (repeat' first | exact trivial | exact pure_rowB _ | exact pure_rowO _ | exact pure_rowI _ | exact pure_rowBB _ | exact pure_rowPk _ _ | exact pure_rowSn _ _ | exact pure_rowFd _ _ | exact pure_rowBBB _ | exact pure_rowCl _ _ | exact pure_rowTb _ _ _ | refine And.intro ?_ ?_)) (by simp -dsimp -implicitDefEqProofs only [go_sem, Nat.reduceBEq, Nat.reduceAdd, Nat.reduceLeDiff, Nat.reduceSub, Int.reduceEq, initE]) ?_
  rintro r rfl
  simp -dsimp -implicitDefEqProofs only [go_sem, Nat.reduceBEq, Nat.reduceAdd, Nat.reduceLeDiff, Nat.reduceSub, Int.reduceEq, initE]
theorem plc_rng {vs : List (List UInt8)} {cs : List Cl} (hv : vs.length ≤ 1048576) : ∀ x ∈ plcL vs cs, -9223372036854775808 ≤ x ∧ x ≤ 9223372036854775807 := fun x hx => by
  obtain ⟨c, hc, rfl⟩ := List.mem_map.1 hx
  unfold plc
  have := plI_le vs c.f
  split <;> omega
set_option maxRecDepth 8000 in
theorem c_placesBuild (vs : List (List UInt8)) (cs : List Cl) (hx : cs.length ≤ 1000) (hv : vs.length ≤ 1048576) (hvb : ∀ b ∈ vs, b.length ≤ 1048576) (hb : ∀ c ∈ cs, c.f.length ≤ 1048576) : Meets Try.prog 227 [.agg [.row 22 1 (ra byC vs)], rowCl 145 cs] (fun r => r = if ∃ c ∈ cs, c.z = false ∧ c.f ∉ vs then .tup [rowBB [], .v (.int .i64 1)] else .tup [rowBB [(packIC (plcL vs cs) 1).1], .v (.int .i64 (packIC (plcL vs cs) 1).2)]) := by
  refine Meets.intro mixed (hint []) Try.func227 rfl (by decide) res_227 rty_227 (by kernel_rfl) ?_; 
  simp -dsimp -implicitDefEqProofs only [go_sem, Nat.reduceBEq, Nat.reduceAdd, Nat.reduceLeDiff, Nat.reduceSub, Int.reduceEq, rowCl]
  repeat (first | with_reducible refine ask.of (by first | omega | decide) ?_ | simp -dsimp -implicitDefEqProofs only [go_sem, Nat.reduceBEq, Nat.reduceAdd, Nat.reduceLeDiff, Nat.reduceSub, Int.reduceEq, initE, rowCl])
  refine LoopE.cnt cs.length (fun i s => s.env 2 = .ptr [2] 0 0 0 ∧ s.env 6 = .ref [12] ∧ s.env 13 = .rd .ent 145 3 (ra clC cs) ∧ s.env 14 = .v (.int .i64 cs.length) ∧ s.env 15 = .v (.int .i64 i) ∧ s.σ [2] = some (.box 202 [.rd .ent 22 1 (ra byC vs)]) ∧ s.σ [12] = some (.row 3 1 (ra intC (plcL vs (cs.take i)))) ∧ ∀ c ∈ cs.take i, c.z = false → c.f ∈ vs) ⟨by simp -dsimp -implicitDefEqProofs only [go_sem, Nat.reduceBEq, Nat.reduceAdd, Nat.reduceLeDiff, Nat.reduceSub, Int.reduceEq], by simp -dsimp -implicitDefEqProofs only [go_sem, Nat.reduceBEq, Nat.reduceAdd, Nat.reduceLeDiff, Nat.reduceSub, Int.reduceEq], by simp -dsimp -implicitDefEqProofs only [go_sem, Nat.reduceBEq, Nat.reduceAdd, Nat.reduceLeDiff, Nat.reduceSub, Int.reduceEq, initE, rowCl], by simp -dsimp -implicitDefEqProofs only [go_sem, Nat.reduceBEq, Nat.reduceAdd, Nat.reduceLeDiff, Nat.reduceSub, Int.reduceEq, initE, rowCl], by simp -dsimp -implicitDefEqProofs only [go_sem, Nat.reduceBEq, Nat.reduceAdd, Nat.reduceLeDiff, Nat.reduceSub, Int.reduceEq] <;> rfl, by simp -dsimp -implicitDefEqProofs only [go_sem, Nat.reduceBEq, Nat.reduceAdd, Nat.reduceLeDiff, Nat.reduceSub, Int.reduceEq, initE], by simp -dsimp -implicitDefEqProofs only [go_sem, Nat.reduceBEq, Nat.reduceAdd, Nat.reduceLeDiff, Nat.reduceSub, Int.reduceEq] <;> rfl, by simp⟩ ?_
  rintro i ⟨e, σ⟩ hi ⟨h2, h6, h13, h14, h15, hs2, hs, hall⟩ K hK
  simp only at h2 h6 h13 h14 h15 hs2 hs
  simp -dsimp -implicitDefEqProofs only [go_sem, Nat.reduceBEq, Nat.reduceAdd, Nat.reduceLeDiff, Nat.reduceSub, Int.reduceEq, h2, h6, h13, h14, h15, hs2, hs]
  have hl : (plcL vs (cs.take i)).length = i := by simp [plcL]; omega
  refine ifB'.of (fun hlt => ?_) (fun hlt => ?_)
  · have hlt : i < cs.length := by omega
    have hcb := hb _ (List.getElem_mem hlt)
    have hsn : ∀ k : Int, plc vs cs[i] = k → plcL vs (cs.take i) ++ [k] = plcL vs (cs.take (i + 1)) := fun k hk => by rw [← hk]; exact map_takeS (plc vs) hlt
    have hal : (cs[i].z = false → cs[i].f ∈ vs) → ∀ c ∈ cs.take (i + 1), c.z = false → c.f ∈ vs := fun h c hc => by
      rw [List.take_succ_eq_append_getElem hlt] at hc
      rcases List.mem_append.1 hc with hc | hc
      · exact hall c hc
      · rw [List.mem_singleton.1 hc]; exact h
    repeat (first | with_reducible refine ask.of (by first | omega | decide) ?_ | simp -dsimp -implicitDefEqProofs only [go_sem, Nat.reduceBEq, Nat.reduceAdd, Nat.reduceLeDiff, Nat.reduceSub, Int.reduceEq, h2, h6, h13, h14, h15, hs2, hs, Cl_at hlt, clC, bl3])
    cases hz : cs[i].z
    · repeat (first | with_reducible refine ask.of (by first | omega | decide) ?_ | simp -dsimp -implicitDefEqProofs only [go_sem, Nat.reduceBEq, Nat.reduceAdd, Nat.reduceLeDiff, Nat.reduceSub, Int.reduceEq, h2, h6, h13, h14, h15, hs2, hs, hz, Bool.not_false, bl3])
      refine CallE.of (c_placeOf vs cs[i].f hv hvb hcb) (by rintro r rfl; (repeat' first | exact trivial | exact pure_rowB _ | exact pure_rowO _ | exact pure_rowI _ | exact pure_rowBB _ | exact pure_rowPk _ _ | exact pure_rowSn _ _ | exact pure_rowFd _ _ | exact pure_rowBBB _ | exact pure_rowCl _ _ | exact pure_rowTb _ _ _ | refine And.intro ?_ ?_)) (by simp -dsimp -implicitDefEqProofs only [go_sem, Nat.reduceBEq, Nat.reduceAdd, Nat.reduceLeDiff, Nat.reduceSub, Int.reduceEq, h2, h6, h13, h14, h15, hs2, hs]) ?_
      rintro r rfl
      simp -dsimp -implicitDefEqProofs only [go_sem, Nat.reduceBEq, Nat.reduceAdd, Nat.reduceLeDiff, Nat.reduceSub, Int.reduceEq, h2, h6, h13, h14, h15, hs2, hs]
      repeat (first | with_reducible refine ask.of (by first | omega | decide) ?_ | simp -dsimp -implicitDefEqProofs only [go_sem, Nat.reduceBEq, Nat.reduceAdd, Nat.reduceLeDiff, Nat.reduceSub, Int.reduceEq, h2, h6, h13, h14, h15, hs2, hs, bl3])
      have hpl := plI_nonneg vs cs[i].f
      refine ifB'.of (fun hq => ?_) (fun hq => ?_)
      · simp -dsimp -implicitDefEqProofs only [go_sem, Nat.reduceBEq, Nat.reduceAdd, Nat.reduceLeDiff, Nat.reduceSub, Int.reduceEq, h2, h6, h13, h14, h15, hs2, hs]
        rw [if_pos ⟨cs[i], List.getElem_mem hlt, hz, fun hm => by have := hpl.2 hm; omega⟩]
        rfl
      · repeat (first | with_reducible refine ask.of (by first | omega | decide) ?_ | simp -dsimp -implicitDefEqProofs only [go_sem, Nat.reduceBEq, Nat.reduceAdd, Nat.reduceLeDiff, Nat.reduceSub, Int.reduceEq, h2, h6, h13, h14, h15, hs2, hs, bl3, hl])
        refine hK _ hlt ?_
        simp -dsimp -implicitDefEqProofs only [go_sem, Nat.reduceBEq, Nat.reduceAdd, Nat.reduceLeDiff, Nat.reduceSub, Int.reduceEq, h2, h6, h13, h14, h15, hs2, hs, wrap_succ (show i < 4611686018427387904 by omega), hsn (plI vs cs[i].f) (by unfold plc; rw [hz]; rfl)]
        exact hal fun _ => hpl.1 (by omega)
    · repeat (first | with_reducible refine ask.of (by first | omega | decide) ?_ | simp -dsimp -implicitDefEqProofs only [go_sem, Nat.reduceBEq, Nat.reduceAdd, Nat.reduceLeDiff, Nat.reduceSub, Int.reduceEq, h2, h6, h13, h14, h15, hs2, hs, hz, Bool.not_true, bl3, hl])
      refine hK _ hlt ?_
      simp -dsimp -implicitDefEqProofs only [go_sem, Nat.reduceBEq, Nat.reduceAdd, Nat.reduceLeDiff, Nat.reduceSub, Int.reduceEq, h2, h6, h13, h14, h15, hs2, hs, wrap_succ (show i < 4611686018427387904 by omega), hsn 0 (by unfold plc; rw [hz]; rfl)]
      exact hal fun h => by rw [hz] at h; cases h
  · have : i = cs.length := by omega
    subst this
    rw [List.take_length] at hs hall
    rw [if_neg (fun ⟨c, hc, hz, hm⟩ => hm (hall c hc hz))]
    simp -dsimp -implicitDefEqProofs only [go_sem, Nat.reduceBEq, Nat.reduceAdd, Nat.reduceLeDiff, Nat.reduceSub, Int.reduceEq, h2, h6, h13, h14, h15, hs2, hs]
    refine CallE.of (c_implPackInts (plcL vs cs) 1 (by simp [plcL]; omega) (plc_rng hv)) (by rintro r rfl; (repeat' first | exact trivial | exact pure_rowB _ | exact pure_rowO _ | exact pure_rowI _ | exact pure_rowBB _ | exact pure_rowPk _ _ | exact pure_rowSn _ _ | exact pure_rowFd _ _ | exact pure_rowBBB _ | exact pure_rowCl _ _ | exact pure_rowTb _ _ _ | refine And.intro ?_ ?_)) (by simp -dsimp -implicitDefEqProofs only [go_sem, Nat.reduceBEq, Nat.reduceAdd, Nat.reduceLeDiff, Nat.reduceSub, Int.reduceEq, h2, h6, h13, h14, h15, hs2, hs]) ?_
    rintro r rfl
    simp -dsimp -implicitDefEqProofs only [go_sem, Nat.reduceBEq, Nat.reduceAdd, Nat.reduceLeDiff, Nat.reduceSub, Int.reduceEq, h2, h6, h13, h14, h15, hs2, hs]
    repeat (first | with_reducible refine ask.of (by first | omega | decide) ?_ | simp -dsimp -implicitDefEqProofs only [go_sem, Nat.reduceBEq, Nat.reduceAdd, Nat.reduceLeDiff, Nat.reduceSub, Int.reduceEq, h2, h6, h13, h14, h15, hs2, hs, bl3])
    rfl
set_option maxRecDepth 8000 in
theorem c_indexBool (xs : List Bool) (b : Bool) (hx : xs.length ≤ 1048576) : Meets Try.prog 164 [rowO xs, .v (.bool b)] (fun r => ∃ k : Int, r = .v (.int .i64 k) ∧ (0 ≤ k ↔ b ∈ xs)) := by
  refine Meets.intro mixed (hint []) Try.func164 rfl (by decide) res_164 rty_164 (by kernel_rfl) ?_; 
  simp -dsimp -implicitDefEqProofs only [go_sem, Nat.reduceBEq, Nat.reduceAdd, Nat.reduceLeDiff, Nat.reduceSub, Int.reduceEq]
  refine LoopE.cnt xs.length (fun i s => s.env 0 = .rd .ent 4 1 (ra boolC xs) ∧ s.env 1 = .v (.bool b) ∧ s.env 7 = .v (.int .i64 xs.length) ∧ s.env 8 = .v (.int .i64 i) ∧ b ∉ xs.take i) ⟨by simp -dsimp -implicitDefEqProofs only [go_sem, Nat.reduceBEq, Nat.reduceAdd, Nat.reduceLeDiff, Nat.reduceSub, Int.reduceEq, initE], by simp -dsimp -implicitDefEqProofs only [go_sem, Nat.reduceBEq, Nat.reduceAdd, Nat.reduceLeDiff, Nat.reduceSub, Int.reduceEq, initE], by simp -dsimp -implicitDefEqProofs only [go_sem, Nat.reduceBEq, Nat.reduceAdd, Nat.reduceLeDiff, Nat.reduceSub, Int.reduceEq], by simp -dsimp -implicitDefEqProofs only [go_sem, Nat.reduceBEq, Nat.reduceAdd, Nat.reduceLeDiff, Nat.reduceSub, Int.reduceEq] <;> rfl, by simp⟩ ?_
  rintro i ⟨e, σ⟩ hi ⟨h0, h1, h7, h8, hn⟩ K hK
  simp only at h0 h1 h7 h8
  simp -dsimp -implicitDefEqProofs only [go_sem, Nat.reduceBEq, Nat.reduceAdd, Nat.reduceLeDiff, Nat.reduceSub, Int.reduceEq, h0, h1, h7, h8]
  refine ifB'.of (fun hlt => ?_) (fun hlt => ?_)
  · have hlt : i < xs.length := by omega
    have hat : (ra boolC xs)[i]? = some [.v (.bool xs[i])] := ra_at hlt
    repeat (first | with_reducible refine ask.of (by first | omega | decide) ?_ | simp -dsimp -implicitDefEqProofs only [go_sem, Nat.reduceBEq, Nat.reduceAdd, Nat.reduceLeDiff, Nat.reduceSub, Int.reduceEq, h0, h1, h7, h8, hat])
    refine ifB'.of (fun hq => ?_) (fun hq => ?_)
    · simp -dsimp -implicitDefEqProofs only [go_sem, Nat.reduceBEq, Nat.reduceAdd, Nat.reduceLeDiff, Nat.reduceSub, Int.reduceEq, h0, h1, h7, h8]
      exact ⟨_, rfl, ⟨fun _ => by rw [hq]; exact List.getElem_mem hlt, fun _ => by omega⟩⟩
    · simp -dsimp -implicitDefEqProofs only [go_sem, Nat.reduceBEq, Nat.reduceAdd, Nat.reduceLeDiff, Nat.reduceSub, Int.reduceEq, h0, h1, h7, h8]
      refine hK _ hlt ?_
      simp -dsimp -implicitDefEqProofs only [go_sem, Nat.reduceBEq, Nat.reduceAdd, Nat.reduceLeDiff, Nat.reduceSub, Int.reduceEq, h0, h1, h7, h8, wrap_succ (show i < 4611686018427387904 by omega)]
      exact not_mem_take_succ hlt hn (fun h => hq h.symm)
  · have : i = xs.length := by omega
    subst this
    rw [List.take_length] at hn
    simp -dsimp -implicitDefEqProofs only [go_sem, Nat.reduceBEq, Nat.reduceAdd, Nat.reduceLeDiff, Nat.reduceSub, Int.reduceEq, h0, h1, h7, h8]
    exact ⟨_, rfl, ⟨fun h => absurd h (by decide), fun h => absurd h hn⟩⟩
theorem c_containsBool (xs : List Bool) (b : Bool) (hx : xs.length ≤ 1048576) : Meets Try.prog 132 [rowO xs, .v (.bool b)] (fun r => r = .v (.bool (decide (b ∈ xs)))) := by
  refine Meets.intro mixed (hint []) Try.func132 rfl (by decide) res_132 rty_132 (by kernel_rfl) ?_; 
  simp -dsimp -implicitDefEqProofs only [go_sem, Nat.reduceBEq, Nat.reduceAdd, Nat.reduceLeDiff, Nat.reduceSub, Int.reduceEq]
  refine CallE.of (c_indexBool xs b hx) (by rintro r ⟨k, rfl, _⟩; trivial) (by simp -dsimp -implicitDefEqProofs only [go_sem, Nat.reduceBEq, Nat.reduceAdd, Nat.reduceLeDiff, Nat.reduceSub, Int.reduceEq, initE]) ?_
  rintro r ⟨k, rfl, hk⟩
  simp -dsimp -implicitDefEqProofs only [go_sem, Nat.reduceBEq, Nat.reduceAdd, Nat.reduceLeDiff, Nat.reduceSub, Int.reduceEq]
  exact decide_eq_decide.2 hk
end Go.Ev
