/- Part 13 of what the row leans on: the evaluator, words, contracts of functions; pruned by a program of ours. -/
import Derived.Test.YtnoelgaficjjmaaGreatTk12
set_option linter.unusedSimpArgs false
set_option linter.unusedVariables false
namespace Go.Ev
open Go Go.RowKit Go.Proofs
def chOk (c : UInt8) : Prop := (97 ≤ c.toNat ∧ c.toNat ≤ 122) ∨ (65 ≤ c.toNat ∧ c.toNat ≤ 90) ∨ (48 ≤ c.toNat ∧ c.toNat ≤ 57) ∨ c.toNat = 95
instance (c : UInt8) : Decidable (chOk c) := by unfold chOk; infer_instance
def nmOk (b : List UInt8) : Prop := 1 ≤ b.length ∧ b.length ≤ 20 ∧ ∀ c ∈ b, chOk c
instance (b : List UInt8) : Decidable (nmOk b) := by unfold nmOk; infer_instance
theorem nm_len {b : List UInt8} (h : ¬ (1 ≤ b.length ∧ b.length ≤ 20)) : false = decide (nmOk b) := (decide_eq_false (fun h' => h ⟨h'.1, h'.2.1⟩)).symm
theorem nm_ch {b : List UInt8} {i : Nat} (hi : i < b.length) (h : ¬ chOk b[i]) : false = decide (nmOk b) := (decide_eq_false (fun h' => h (h'.2.2 _ (List.getElem_mem _)))).symm
theorem all_take_succ {α : Type} {q : α → Prop} {xs : List α} {i : Nat} (h : i < xs.length) (ha : ∀ c ∈ xs.take i, q c) (hc : q xs[i]) : ∀ c ∈ xs.take (i + 1), q c := by
  rw [List.take_succ_eq_append_getElem h]
  intro c hm
  rcases List.mem_append.1 hm with hm | hm
  · exact ha c hm
  · rw [List.mem_singleton.1 hm]; exact hc
set_option maxRecDepth 4000 in
theorem c_l2nameOK (b : List UInt8) (hb : b.length ≤ 140737488355328) : Meets Tryz.prog 141 [rowB b] (fun r => r = .v (.bool (decide (nmOk b)))) := by
  refine Meets.intro mixed (hint []) Tryz.func141 rfl (by decide) res_141 rty_141 (by kernel_rfl) ?_; 
  simp -dsimp -implicitDefEqProofs only [go_sem]
  refine ifB'.of (fun h => ?_) (fun h => ?_)
  · simp -dsimp -implicitDefEqProofs only [go_sem]
    exact nm_len (by omega)
  simp -dsimp -implicitDefEqProofs only [go_sem]
  refine ifB'.of (fun h2 => ?_) (fun h2 => ?_)
  · simp -dsimp -implicitDefEqProofs only [go_sem]
    exact nm_len (by omega)
  simp -dsimp -implicitDefEqProofs only [go_sem]
  refine LoopE.cnt b.length (fun i s => s.env 0 = .rd .ent 5 1 (bytesA b) ∧ s.env 3 = .v (.int .i64 i) ∧ ∀ c ∈ b.take i, chOk c) ⟨by simp -dsimp -implicitDefEqProofs only [go_sem, initE], by simp -dsimp -implicitDefEqProofs only [go_sem], by simp⟩ ?_
  rintro i ⟨e, σ⟩ hi ⟨h0, h3, ha⟩ K hK
  simp only at h0 h3
  simp -dsimp -implicitDefEqProofs only [go_sem, h0, h3]
  refine ifB'.of (fun hlt => ?_) (fun hlt => ?_)
  · have hlt : i < b.length := by omega
    simp -dsimp -implicitDefEqProofs only [go_sem, h0, h3, bytesA_at hlt]
    repeat' (first | with_reducible refine ifB'.of (fun h => ?_) (fun h => ?_) | with_reducible refine ask.of (by omega) ?_ | ((with_reducible refine nm_ch hlt ?_); unfold chOk; omega) | simp -dsimp -implicitDefEqProofs only [go_sem, h0, h3, Bool.not_true, Bool.not_false])
    all_goals (refine hK _ hlt ?_; simp -dsimp -implicitDefEqProofs only [go_sem, h0, h3, wrap_succ (show i < 4611686018427387904 by omega)]; exact all_take_succ hlt ha (by unfold chOk; omega))
  · have : i = b.length := by omega
    subst this
    simp -dsimp -implicitDefEqProofs only [go_sem, h0, h3]
    rw [List.take_length] at ha
    exact (decide_eq_true (show nmOk b from ⟨by omega, by omega, ha⟩)).symm
set_option maxRecDepth 4000 in
theorem c_nameOk (b : List UInt8) (hb : b.length ≤ 140737488355328) : Meets Tryz.prog 150 [rowB b] (fun r => r = .v (.bool (decide (nmOk b)))) := by
  refine Meets.intro mixed (hint []) Tryz.func150 rfl (by decide) res_150 rty_150 (by kernel_rfl) ?_; 
  simp -dsimp -implicitDefEqProofs only [go_sem]
  refine ifB'.of (fun h => ?_) (fun h => ?_)
  · simp -dsimp -implicitDefEqProofs only [go_sem]
    exact nm_len (by omega)
  simp -dsimp -implicitDefEqProofs only [go_sem]
  refine ifB'.of (fun h2 => ?_) (fun h2 => ?_)
  · simp -dsimp -implicitDefEqProofs only [go_sem]
    exact nm_len (by omega)
  simp -dsimp -implicitDefEqProofs only [go_sem]
  refine LoopE.cnt b.length (fun i s => s.env 13 = .rd .ent 5 1 (bytesA b) ∧ s.env 14 = .v (.int .i64 b.length) ∧ s.env 15 = .v (.int .i64 i) ∧ ∀ c ∈ b.take i, chOk c) ⟨by simp -dsimp -implicitDefEqProofs only [go_sem, initE], by simp -dsimp -implicitDefEqProofs only [go_sem, initE], by simp -dsimp -implicitDefEqProofs only [go_sem], by simp⟩ ?_
  rintro i ⟨e, σ⟩ hi ⟨h13, h14, h15, ha⟩ K hK
  simp only at h13 h14 h15
  simp -dsimp -implicitDefEqProofs only [go_sem, h13, h14, h15]
  refine ifB'.of (fun hlt => ?_) (fun hlt => ?_)
  · have hlt : i < b.length := by omega
    simp -dsimp -implicitDefEqProofs only [go_sem, h13, h14, h15, bytesA_at hlt]
    repeat' (first | with_reducible refine ifB'.of (fun h => ?_) (fun h => ?_) | with_reducible refine ask.of (by omega) ?_ | ((with_reducible refine nm_ch hlt ?_); unfold chOk; omega) | simp -dsimp -implicitDefEqProofs only [go_sem, h13, h14, h15, Bool.not_true, Bool.not_false])
    all_goals (refine hK _ hlt ?_; simp -dsimp -implicitDefEqProofs only [go_sem, h13, h14, h15, wrap_succ (show i < 4611686018427387904 by omega)]; exact all_take_succ hlt ha (by unfold chOk; omega))
  · have : i = b.length := by omega
    subst this
    simp -dsimp -implicitDefEqProofs only [go_sem, h13, h14, h15]
    rw [List.take_length] at ha
    exact (decide_eq_true (show nmOk b from ⟨by omega, by omega, ha⟩)).symm
def fdOk (x : Fd) : Prop := nmOk x.f ∧ ((x.k = 1 ∧ (x.w = 1 ∨ x.w = 2 ∨ x.w = 4 ∨ x.w = 8)) ∨ ((x.k = 0 ∨ x.k = 2 ∨ x.k = 3) ∧ x.w = 0))
instance (x : Fd) : Decidable (fdOk x) := by unfold fdOk; infer_instance
theorem fd_f {x : Fd} (h : ¬ fdOk x) : false = decide (fdOk x) := by rw [decide_eq_false h]
theorem fd_t {x : Fd} (h : fdOk x) : true = decide (fdOk x) := by rw [decide_eq_true h]
theorem fd_d {x : Fd} {q : Prop} [Decidable q] (h : q ↔ fdOk x) : decide q = decide (fdOk x) := by rw [decide_eq_decide.2 h]
theorem isW_iff (n : Int) : isW n = decide (n = 1 ∨ n = 2 ∨ n = 4 ∨ n = 8) := by
  unfold isW
  simp only [Bool.decide_or, Bool.or_assoc]
theorem c_l2fieldOK (x : Fd) (hb : x.f.length ≤ 1048576) : Meets Tryz.prog 104 [.agg (fdC x)] (fun r => r = .v (.bool (decide (fdOk x)))) := by
  refine Meets.intro mixed (hint []) Tryz.func104 rfl (by decide) res_104 rty_104 (by kernel_rfl) ?_; 
  simp -dsimp -implicitDefEqProofs only [go_sem, fdC]
  repeat (first | with_reducible refine ask.of (by omega) ?_ | simp -dsimp -implicitDefEqProofs only [go_sem, bleF])
  refine CallE.of (c_l2nameOK x.f (by omega)) (by rintro r rfl; (repeat' first | exact trivial | exact pure_rowB _ | exact pure_rowO _ | exact pure_rowI _ | exact pure_rowBB _ | exact pure_rowPk _ _ | exact pure_rowSn _ _ | exact pure_rowFd _ _ | exact pure_rowBBB _ | exact pure_rowCl _ _ | exact pure_rowTb _ _ _ | refine And.intro ?_ ?_)) (by simp -dsimp -implicitDefEqProofs only [go_sem]) ?_
  rintro r rfl
  simp -dsimp -implicitDefEqProofs only [go_sem]
  by_cases hn : nmOk x.f
  · simp -dsimp -implicitDefEqProofs only [go_sem, decide_eq_true hn]
    repeat' (first | with_reducible refine ifB'.of (fun h => ?_) (fun h => ?_) | with_reducible refine ask.of (by omega) ?_ | ((with_reducible refine fd_f ?_); unfold fdOk; simp only [hn, true_and]; omega) | ((with_reducible refine fd_t ?_); unfold fdOk; simp only [hn, true_and]; omega) | ((with_reducible refine fd_d ?_); unfold fdOk; simp only [hn, true_and]; omega) | simp -dsimp -implicitDefEqProofs only [go_sem, decide_true])
    all_goals
      refine CallE.of (c_l1width x.w) (by rintro r rfl; (repeat' first | exact trivial | exact pure_rowB _ | exact pure_rowO _ | exact pure_rowI _ | exact pure_rowBB _ | exact pure_rowPk _ _ | exact pure_rowSn _ _ | exact pure_rowFd _ _ | exact pure_rowBBB _ | exact pure_rowCl _ _ | exact pure_rowTb _ _ _ | refine And.intro ?_ ?_)) (by simp -dsimp -implicitDefEqProofs only [go_sem, isW_iff]) ?_
      rintro r rfl
      simp -dsimp -implicitDefEqProofs only [go_sem, isW_iff]
      refine fd_d ?_
      unfold fdOk
      simp only [hn, true_and]
      omega
  · simp -dsimp -implicitDefEqProofs only [go_sem, decide_eq_false hn]
    repeat' (first | with_reducible refine ask.of (by omega) ?_ | ((with_reducible refine fd_f ?_); exact fun h => hn h.1) | simp -dsimp -implicitDefEqProofs only [go_sem, decide_true])
theorem c_fieldOk (x : Fd) (hb : x.f.length ≤ 1048576) : Meets Tryz.prog 115 [.agg (fdC x)] (fun r => r = .v (.bool (decide (fdOk x)))) := by
  refine Meets.intro mixed (hint []) Tryz.func115 rfl (by decide) res_115 rty_115 (by kernel_rfl) ?_; 
  simp -dsimp -implicitDefEqProofs only [go_sem, fdC]
  repeat (first | with_reducible refine ask.of (by omega) ?_ | simp -dsimp -implicitDefEqProofs only [go_sem, bleF])
  refine CallE.of (c_nameOk x.f (by omega)) (by rintro r rfl; (repeat' first | exact trivial | exact pure_rowB _ | exact pure_rowO _ | exact pure_rowI _ | exact pure_rowBB _ | exact pure_rowPk _ _ | exact pure_rowSn _ _ | exact pure_rowFd _ _ | exact pure_rowBBB _ | exact pure_rowCl _ _ | exact pure_rowTb _ _ _ | refine And.intro ?_ ?_)) (by simp -dsimp -implicitDefEqProofs only [go_sem]) ?_
  rintro r rfl
  simp -dsimp -implicitDefEqProofs only [go_sem]
  by_cases hn : nmOk x.f
  · simp -dsimp -implicitDefEqProofs only [go_sem, decide_eq_true hn]
    repeat' (first | with_reducible refine ifB'.of (fun h => ?_) (fun h => ?_) | with_reducible refine ask.of (by omega) ?_ | ((with_reducible refine fd_f ?_); unfold fdOk; simp only [hn, true_and]; omega) | ((with_reducible refine fd_t ?_); unfold fdOk; simp only [hn, true_and]; omega) | ((with_reducible refine fd_d ?_); unfold fdOk; simp only [hn, true_and]; omega) | simp -dsimp -implicitDefEqProofs only [go_sem, decide_true])
    all_goals
      refine CallE.of (c_l1width x.w) (by rintro r rfl; (repeat' first | exact trivial | exact pure_rowB _ | exact pure_rowO _ | exact pure_rowI _ | exact pure_rowBB _ | exact pure_rowPk _ _ | exact pure_rowSn _ _ | exact pure_rowFd _ _ | exact pure_rowBBB _ | exact pure_rowCl _ _ | exact pure_rowTb _ _ _ | refine And.intro ?_ ?_)) (by simp -dsimp -implicitDefEqProofs only [go_sem, isW_iff]) ?_
      rintro r rfl
      simp -dsimp -implicitDefEqProofs only [go_sem, isW_iff]
      refine fd_d ?_
      unfold fdOk
      simp only [hn, true_and]
      omega
  · simp -dsimp -implicitDefEqProofs only [go_sem, decide_eq_false hn]
    repeat' (first | with_reducible refine ask.of (by omega) ?_ | ((with_reducible refine fd_f ?_); exact fun h => hn h.1) | simp -dsimp -implicitDefEqProofs only [go_sem, decide_true])
end Go.Ev
set_option linter.unusedSimpArgs false
set_option linter.unusedVariables false
namespace Go.Ev
open Go Go.RowKit Go.Proofs
def nms (xs : List Fd) : List (List UInt8) := xs.map Fd.f
theorem nms_length (xs : List Fd) : (nms xs).length = xs.length := by simp [nms]
theorem nms_at {xs : List Fd} {i : Nat} (h : i < (nms xs).length) : (nms xs)[i] = (xs[i]'(by simpa [nms] using h)).f := by simp [nms]
theorem nms_take (xs : List Fd) (i : Nat) : nms (xs.take i) = (nms xs).take i := by simp [nms, List.map_take]
theorem nms_snoc {xs : List Fd} {i : Nat} (h : i < xs.length) : nms (xs.take i) ++ [xs[i].f] = nms (xs.take (i + 1)) := by
  rw [List.take_succ_eq_append_getElem h, nms, nms, List.map_append]; rfl
theorem nms_nodup {xs : List Fd} {i : Nat} (h : i < xs.length) : (nms (xs.take (i + 1))).Nodup ↔ (nms (xs.take i)).Nodup ∧ xs[i].f ∉ nms (xs.take i) := by
  have := nodup_take_succ (xs := nms xs) (i := i) (by rwa [nms_length])
  rw [nms_at] at this
  rw [nms_take, nms_take]; exact this
def okF (xs : List Fd) : Prop := (1 ≤ xs.length ∧ xs.length ≤ 12) ∧ (∀ x ∈ xs, fdOk x) ∧ (nms xs).Nodup
instance (xs : List Fd) : Decidable (okF xs) := by unfold okF; infer_instance
theorem okF_f {xs : List Fd} (h : ¬ okF xs) : false = decide (okF xs) := (decide_eq_false h).symm
theorem okF_dup {xs : List Fd} {i : Nat} (h : i < xs.length) (hm : xs[i].f ∈ nms (xs.take i)) : ¬ okF xs := fun h' =>
  ((nms_nodup h).1 (by rw [nms_take]; exact nodup_take h'.2.2 _)).2 hm
theorem c_sValidFields (xs : List Fd) (hx : xs.length ≤ 1048576) (hb : ∀ b ∈ xs, b.f.length ≤ 1048576) : Meets Tryz.prog 52 [rowFd 101 xs] (fun r => r = .v (.bool (decide (okF xs)))) := by
  refine Meets.intro mixed (hint []) Tryz.func52 rfl (by decide) res_52 rty_52 (by kernel_rfl) ?_; 
  simp -dsimp -implicitDefEqProofs only [go_sem, rowFd]
  refine ifB'.of (fun h => ?_) (fun h => ?_)
  · simp -dsimp -implicitDefEqProofs only [go_sem]
    exact okF_f (fun h' => by have := h'.1; omega)
  simp -dsimp -implicitDefEqProofs only [go_sem]
  refine ifB'.of (fun h2 => ?_) (fun h2 => ?_)
  · simp -dsimp -implicitDefEqProofs only [go_sem]
    exact okF_f (fun h' => by have := h'.1; omega)
  simp -dsimp -implicitDefEqProofs only [go_sem]
  refine LoopE.cnt xs.length (fun i s => s.env 0 = .rd .ent 101 3 (ra fdC xs) ∧ s.env 3 = .v (.int .i64 i) ∧ (∀ x ∈ xs.take i, fdOk x) ∧ (nms (xs.take i)).Nodup) ⟨by simp -dsimp -implicitDefEqProofs only [go_sem, initE, rowFd], by simp -dsimp -implicitDefEqProofs only [go_sem], by simp, by simp [nms]⟩ ?_
  rintro i ⟨e, σ⟩ hi ⟨h0, h3, ha, hnd⟩ K hK
  simp only at h0 h3
  simp -dsimp -implicitDefEqProofs only [go_sem, h0, h3]
  refine ifB'.of (fun hlt => ?_) (fun hlt => ?_)
  · have hlt : i < xs.length := by omega
    simp -dsimp -implicitDefEqProofs only [go_sem, h0, h3, Fd_at hlt, fdC]
    repeat (first | with_reducible refine ask.of (by omega) ?_ | simp -dsimp -implicitDefEqProofs only [go_sem, h0, h3, Fd_at hlt, fdC, bleF])
    refine CallE.of (c_l2fieldOK xs[i] (hb _ (List.getElem_mem _))) (by rintro r rfl; (repeat' first | exact trivial | exact pure_rowB _ | exact pure_rowO _ | exact pure_rowI _ | exact pure_rowBB _ | exact pure_rowPk _ _ | exact pure_rowSn _ _ | exact pure_rowFd _ _ | exact pure_rowBBB _ | exact pure_rowCl _ _ | exact pure_rowTb _ _ _ | refine And.intro ?_ ?_)) (by simp -dsimp -implicitDefEqProofs only [go_sem, h0, h3, fdC]) ?_
    rintro r rfl
    simp -dsimp -implicitDefEqProofs only [go_sem, h0, h3, fdC]
    refine ifB'.of (fun hq => ?_) (fun hq => ?_)
    · simp -dsimp -implicitDefEqProofs only [go_sem, h0, h3]
      refine LoopE.cnt i (fun k s => s.env 0 = .rd .ent 101 3 (ra fdC xs) ∧ s.env 3 = .v (.int .i64 i) ∧ s.env 4 = .v (.int .i64 k) ∧ xs[i].f ∉ nms (xs.take k)) ⟨by simp -dsimp -implicitDefEqProofs only [go_sem, h0, h3], by simp -dsimp -implicitDefEqProofs only [go_sem, h0, h3], by simp -dsimp -implicitDefEqProofs only [go_sem, h0, h3], by simp [nms]⟩ ?_
      rintro k ⟨e, σ⟩ hki ⟨h0, h3, h4, hn⟩ K' hK'
      simp only at h0 h3 h4
      simp -dsimp -implicitDefEqProofs only [go_sem, h0, h3, h4]
      refine ifB'.of (fun hkl => ?_) (fun hkl => ?_)
      · have hkl : k < i := by omega
        have hkx : k < xs.length := by omega
        simp -dsimp -implicitDefEqProofs only [go_sem, h0, h3, h4, Fd_at hlt, Fd_at hkx, fdC]
        repeat (first | with_reducible refine ask.of (by omega) ?_ | simp -dsimp -implicitDefEqProofs only [go_sem, h0, h3, h4, Fd_at hlt, Fd_at hkx, fdC, bleF])
        refine CallE.of (c_l1same xs[k].f xs[i].f (by have := hb _ (List.getElem_mem hkx); omega) (by have := hb _ (List.getElem_mem hlt); omega)) (by rintro r rfl; (repeat' first | exact trivial | exact pure_rowB _ | exact pure_rowO _ | exact pure_rowI _ | exact pure_rowBB _ | exact pure_rowPk _ _ | exact pure_rowSn _ _ | exact pure_rowFd _ _ | exact pure_rowBBB _ | exact pure_rowCl _ _ | exact pure_rowTb _ _ _ | refine And.intro ?_ ?_)) (by simp -dsimp -implicitDefEqProofs only [go_sem, h0, h3, h4]) ?_
        rintro r rfl
        simp -dsimp -implicitDefEqProofs only [go_sem, h0, h3, h4]
        refine ifB'.of (fun hs => ?_) (fun hs => ?_)
        · simp -dsimp -implicitDefEqProofs only [go_sem, h0, h3, h4]
          refine okF_f (okF_dup hlt ?_)
          rw [← hs]
          exact List.mem_map_of_mem (List.mem_take_iff_getElem.2 ⟨k, by omega, rfl⟩)
        · simp -dsimp -implicitDefEqProofs only [go_sem, h0, h3, h4]
          refine hK' _ hkl ?_
          simp -dsimp -implicitDefEqProofs only [go_sem, h0, h3, h4, wrap_succ (show k < 4611686018427387904 by omega)]
          rw [← nms_snoc hkx]
          simp only [List.mem_append, List.mem_singleton, not_or]
          exact ⟨hn, fun h => hs h.symm⟩
      · have : k = i := by omega
        subst this
        simp -dsimp -implicitDefEqProofs only [go_sem, h0, h3, h4]
        refine hK _ hlt ?_
        simp -dsimp -implicitDefEqProofs only [go_sem, h0, h3, h4, wrap_succ (show k < 4611686018427387904 by omega)]
        exact ⟨all_take_succ hlt ha hq, (nms_nodup hlt).2 ⟨hnd, hn⟩⟩
    · simp -dsimp -implicitDefEqProofs only [go_sem, h0, h3]
      exact okF_f (fun h' => hq (h'.2.1 _ (List.getElem_mem _)))
  · have : i = xs.length := by omega
    subst this
    simp -dsimp -implicitDefEqProofs only [go_sem, h0, h3]
    rw [List.take_length] at ha hnd
    exact (decide_eq_true (show okF xs from ⟨⟨by omega, by omega⟩, ha, hnd⟩)).symm
theorem c_iValidFields (xs : List Fd) (hx : xs.length ≤ 1048576) (hb : ∀ b ∈ xs, b.f.length ≤ 1048576) : Meets Tryz.prog 66 [rowFd 101 xs] (fun r => r = .v (.bool (decide (okF xs)))) := by
  refine Meets.intro mixed (hint []) Tryz.func66 rfl (by decide) res_66 rty_66 (by kernel_rfl) ?_; 
  simp -dsimp -implicitDefEqProofs only [go_sem, rowFd]
  refine ifB'.of (fun h => ?_) (fun h => ?_)
  · simp -dsimp -implicitDefEqProofs only [go_sem]
    exact okF_f (fun h' => by have := h'.1; omega)
  simp -dsimp -implicitDefEqProofs only [go_sem]
  refine ifB'.of (fun h2 => ?_) (fun h2 => ?_)
  · simp -dsimp -implicitDefEqProofs only [go_sem]
    exact okF_f (fun h' => by have := h'.1; omega)
  simp -dsimp -implicitDefEqProofs only [go_sem]
  refine LoopE.cnt xs.length (fun i s => s.env 17 = .rd .ent 101 3 (ra fdC xs) ∧ s.env 18 = .v (.int .i64 xs.length) ∧ s.env 19 = .v (.int .i64 i) ∧ s.env 3 = .ref [16] ∧ s.σ [16] = some (.mp .string 3 (mpS (ixP (nms (xs.take i))))) ∧ (∀ x ∈ xs.take i, fdOk x) ∧ (nms (xs.take i)).Nodup) ⟨by simp -dsimp -implicitDefEqProofs only [go_sem, initE, rowFd], by simp -dsimp -implicitDefEqProofs only [go_sem, initE, rowFd], by simp -dsimp -implicitDefEqProofs only [go_sem], by simp -dsimp -implicitDefEqProofs only [go_sem], by simp -dsimp -implicitDefEqProofs only [go_sem] <;> rfl, by simp, by simp [nms]⟩ ?_
  rintro i ⟨e, σ⟩ hi ⟨h17, h18, h19, h3, hs, ha, hnd⟩ K hK
  simp only at h17 h18 h19 h3 hs
  simp -dsimp -implicitDefEqProofs only [go_sem, h17, h18, h19, h3, hs]
  refine ifB'.of (fun hlt => ?_) (fun hlt => ?_)
  · have hlt : i < xs.length := by omega
    simp -dsimp -implicitDefEqProofs only [go_sem, h17, h18, h19, h3, hs, Fd_at hlt, fdC]
    repeat (first | with_reducible refine ask.of (by omega) ?_ | simp -dsimp -implicitDefEqProofs only [go_sem, h17, h18, h19, h3, hs, Fd_at hlt, fdC, bleF, ixP_has])
    refine ifB'.of (fun hq => ?_) (fun hq => ?_)
    · simp -dsimp -implicitDefEqProofs only [go_sem, h17, h18, h19, h3, hs]
      exact okF_f (okF_dup hlt hq)
    · simp -dsimp -implicitDefEqProofs only [go_sem, h17, h18, h19, h3, hs]
      repeat (first | with_reducible refine ask.of (by omega) ?_ | simp -dsimp -implicitDefEqProofs only [go_sem, h17, h18, h19, h3, hs, Fd_at hlt, fdC, bleF, ixP_has])
      refine CallE.of (c_fieldOk xs[i] (hb _ (List.getElem_mem _))) (by rintro r rfl; (repeat' first | exact trivial | exact pure_rowB _ | exact pure_rowO _ | exact pure_rowI _ | exact pure_rowBB _ | exact pure_rowPk _ _ | exact pure_rowSn _ _ | exact pure_rowFd _ _ | exact pure_rowBBB _ | exact pure_rowCl _ _ | exact pure_rowTb _ _ _ | refine And.intro ?_ ?_)) (by simp -dsimp -implicitDefEqProofs only [go_sem, h17, h18, h19, h3, hs, fdC]) ?_
      rintro r rfl
      simp -dsimp -implicitDefEqProofs only [go_sem, h17, h18, h19, h3, hs, fdC]
      refine ifB'.of (fun hq2 => ?_) (fun hq2 => ?_)
      · simp -dsimp -implicitDefEqProofs only [go_sem, h17, h18, h19, h3, hs]
        have hp := ixP_put hq
        rw [nms_length, show (xs.take i).length = i by simp; omega, nms_snoc hlt] at hp
        repeat (first | with_reducible refine ask.of (by omega) ?_ | simp -dsimp -implicitDefEqProofs only [go_sem, h17, h18, h19, h3, hs, Fd_at hlt, fdC, bleF, hp])
        refine hK _ hlt ?_
        simp -dsimp -implicitDefEqProofs only [go_sem, h17, h18, h19, h3, hs, wrap_succ (show i < 4611686018427387904 by omega)]
        exact ⟨all_take_succ hlt ha hq2, (nms_nodup hlt).2 ⟨hnd, hq⟩⟩
      · simp -dsimp -implicitDefEqProofs only [go_sem, h17, h18, h19, h3, hs]
        exact okF_f (fun h' => hq2 (h'.2.1 _ (List.getElem_mem _)))
  · have : i = xs.length := by omega
    subst this
    simp -dsimp -implicitDefEqProofs only [go_sem, h17, h18, h19, h3, hs]
    rw [List.take_length] at ha hnd
    exact (decide_eq_true (show okF xs from ⟨⟨by omega, by omega⟩, ha, hnd⟩)).symm
end Go.Ev
set_option linter.unusedSimpArgs false
set_option linter.unusedVariables false
namespace Go.Ev
open Go Go.RowKit Go.Proofs
def w32 (c : UInt32) : AV := .v (.int .u32 c.toNat)
theorem wrap_u32_lt {n : Nat} (h : n < 4294967296) : IntKind.u32.wrap (n : Int) = (n : Int) := by rw [wrap_u32, Nat.mod_eq_of_lt h]
theorem bv32 (a : UInt32) : BitVec.ofInt 32 (a.toNat : Int) = a.toBitVec := by
  apply BitVec.eq_of_toNat_eq
  simp
theorem u32_xor (a b : UInt32) : IntKind.u32.wrap ((BitVec.ofInt IntKind.u32.bits (a.toNat : Int) ^^^ BitVec.ofInt IntKind.u32.bits (b.toNat : Int)).toNat : Int) = ((a ^^^ b).toNat : Int) := by
  show IntKind.u32.wrap ((BitVec.ofInt 32 (a.toNat : Int) ^^^ BitVec.ofInt 32 (b.toNat : Int)).toNat : Int) = _
  rw [bv32, bv32, wrap_u32_lt (BitVec.isLt _)]
  rfl
theorem u32_xor_poly (a : UInt32) : IntKind.u32.wrap ((BitVec.ofInt IntKind.u32.bits (a.toNat : Int) ^^^ BitVec.ofInt IntKind.u32.bits 3988292384).toNat : Int) = ((a ^^^ 3988292384).toNat : Int) := u32_xor a 3988292384
theorem u32_xor_all (a : UInt32) : IntKind.u32.wrap ((BitVec.ofInt IntKind.u32.bits (a.toNat : Int) ^^^ BitVec.ofInt IntKind.u32.bits 4294967295).toNat : Int) = ((a ^^^ 4294967295).toNat : Int) := u32_xor a 4294967295
theorem u32_and_one (a : UInt32) : IntKind.u32.wrap ((BitVec.ofInt IntKind.u32.bits (a.toNat : Int) &&& BitVec.ofInt IntKind.u32.bits 1).toNat : Int) = ((a &&& 1).toNat : Int) := by
  show IntKind.u32.wrap ((BitVec.ofInt 32 (a.toNat : Int) &&& BitVec.ofInt 32 (((1 : UInt32).toNat : Nat) : Int)).toNat : Int) = _
  rw [bv32, bv32, wrap_u32_lt (BitVec.isLt _)]
  rfl
theorem u32_half (a : UInt32) : IntKind.u32.wrap ((a.toNat : Int).tdiv 2) = ((a / 2).toNat : Int) := by
  have h : (a.toNat : Int).tdiv 2 = ((a.toNat / 2 : Nat) : Int) := rfl
  have h2 := a.toNat_lt
  rw [h, wrap_u32_lt (by omega)]
  simp
theorem u32_odd (a : UInt32) : (a.toNat : Int).tmod 2 = ((a % 2).toNat : Int) := by
  have h : (a.toNat : Int).tmod 2 = ((a.toNat % 2 : Nat) : Int) := rfl
  rw [h]; simp
theorem u32_shr8 (a : UInt32) : (a.toNat : Int).fdiv (2 ^ (min (Int.toNat 8) 32)) = ((a >>> 8).toNat : Int) := by
  show (a.toNat : Int).fdiv 256 = _
  rw [Int.fdiv_eq_ediv_of_nonneg _ (by decide), UInt32.toNat_shiftRight, Nat.shiftRight_eq_div_pow]
  rfl
theorem u32_shr1 (a : UInt32) : (a.toNat : Int).fdiv (2 ^ (min (Int.toNat 1) 32)) = ((a / 2).toNat : Int) := by
  show (a.toNat : Int).fdiv 2 = _
  rw [Int.fdiv_eq_ediv_of_nonneg _ (by decide)]
  simp
theorem u32_of_u8 (b : UInt8) : IntKind.u32.wrap (b.toNat : Int) = (b.toUInt32.toNat : Int) := by
  have := b.toNat_lt
  rw [wrap_u32_lt (by omega)]; simp
theorem u8_of_u32 (c : UInt32) : IntKind.u8.wrap (c.toNat : Int) = (c.toUInt8.toNat : Int) := by
  rw [wrap_u8]; simp
theorem u8_xor (a b : UInt8) : IntKind.u8.wrap ((BitVec.ofInt IntKind.u8.bits (a.toNat : Int) ^^^ BitVec.ofInt IntKind.u8.bits (b.toNat : Int)).toNat : Int) = ((a ^^^ b).toNat : Int) := by
  have bv8 : ∀ a : UInt8, BitVec.ofInt 8 (a.toNat : Int) = a.toBitVec := fun a => by apply BitVec.eq_of_toNat_eq; simp
  show IntKind.u8.wrap ((BitVec.ofInt 8 (a.toNat : Int) ^^^ BitVec.ofInt 8 (b.toNat : Int)).toNat : Int) = _
  rw [bv8, bv8, wrap_u8, Nat.mod_eq_of_lt (BitVec.isLt _)]
  rfl
def crcStep (c : UInt32) : UInt32 := if c % 2 = 1 then (c / 2) ^^^ 3988292384 else c / 2
def crcN : Nat → UInt32 → UInt32
  | 0, c => c
  | n + 1, c => crcStep (crcN n c)
def crcU (c : UInt32) : List UInt8 → UInt32
  | [] => c
  | b :: bs => crcU (crcN 8 (c ^^^ b.toUInt32)) bs
theorem crcU_snoc (c : UInt32) (l : List UInt8) (b : UInt8) : crcU c (l ++ [b]) = crcN 8 (crcU c l ^^^ b.toUInt32) := by
  induction l generalizing c with
  | nil => rfl
  | cons x l ih => exact ih _
def crcB (bs : List UInt8) : UInt32 := crcU 4294967295 bs ^^^ 4294967295
theorem c_specCrc32 (bs : List UInt8) (hb : bs.length ≤ 1048576) : Meets Tryz.prog 134 [rowB bs] (fun r => r = .v (.int .u32 (crcB bs).toNat)) := by
  refine Meets.intro mixed (hint []) Tryz.func134 rfl (by decide) res_134 rty_134 (by kernel_rfl) ?_; 
  simp -dsimp -implicitDefEqProofs only [go_sem]
  refine LoopE.cnt bs.length (fun i s => s.env 0 = .rd .ent 5 1 (bytesA bs) ∧ s.env 4 = .v (.int .i64 i) ∧ s.env 3 = .v (.int .u32 (crcU 4294967295 (bs.take i)).toNat)) ⟨by simp -dsimp -implicitDefEqProofs only [go_sem, initE], by simp -dsimp -implicitDefEqProofs only [go_sem], by simp -dsimp -implicitDefEqProofs only [go_sem, List.take_zero] <;> rfl⟩ ?_
  rintro i ⟨e, σ⟩ hi ⟨h0, h4, h3⟩ K hK
  simp only at h0 h3 h4
  simp -dsimp -implicitDefEqProofs only [go_sem, h0, h3, h4]
  refine ifB'.of (fun hlt => ?_) (fun hlt => ?_)
  · have hlt : i < bs.length := by omega
    have e1 := bytesA_at hlt
    simp -dsimp -implicitDefEqProofs only [go_sem, h0, h3, h4, e1, u32_of_u8, u32_xor]
    refine ask.of (by omega) ?_
    refine LoopE.cnt 8 (fun j s => s.env 0 = .rd .ent 5 1 (bytesA bs) ∧ s.env 4 = .v (.int .i64 i) ∧ s.env 5 = .v (.int .i64 j) ∧ s.env 3 = .v (.int .u32 (crcN j (crcU 4294967295 (bs.take i) ^^^ bs[i].toUInt32)).toNat)) ⟨by simp -dsimp -implicitDefEqProofs only [go_sem, h0, h3, h4], by simp -dsimp -implicitDefEqProofs only [go_sem, h0, h3, h4], by simp -dsimp -implicitDefEqProofs only [go_sem, h0, h3, h4], by simp -dsimp -implicitDefEqProofs only [go_sem, h0, h3, h4, crcN]⟩ ?_
    rintro j ⟨e, σ⟩ hj ⟨h0, h4, h5, h3⟩ K' hK'
    simp only at h0 h3 h4 h5
    generalize hc : crcN j (crcU 4294967295 (bs.take i) ^^^ bs[i].toUInt32) = c at h3
    simp -dsimp -implicitDefEqProofs only [go_sem, h0, h3, h4, h5]
    refine ifB'.of (fun hlt2 => ?_) (fun hlt2 => ?_)
    · simp -dsimp -implicitDefEqProofs only [go_sem, h0, h3, h4, h5, u32_odd, u32_half, Int.reduceNe]
      refine ifB'.of (fun hod => ?_) (fun hod => ?_)
      · simp -dsimp -implicitDefEqProofs only [go_sem, h0, h3, h4, h5, u32_xor_poly]
        refine hK' _ (by omega) ?_
        simp -dsimp -implicitDefEqProofs only [go_sem, h0, h3, h4, h5, wrap_succ (show j < 4611686018427387904 by omega)]
        rw [crcN, hc, crcStep, if_pos (UInt32.toNat_inj.1 (Int.ofNat_inj.1 hod))]
      · simp -dsimp -implicitDefEqProofs only [go_sem, h0, h3, h4, h5]
        refine hK' _ (by omega) ?_
        simp -dsimp -implicitDefEqProofs only [go_sem, h0, h3, h4, h5, wrap_succ (show j < 4611686018427387904 by omega)]
        rw [crcN, hc, crcStep, if_neg (fun e => hod (by rw [e]; rfl))]
    · simp -dsimp -implicitDefEqProofs only [go_sem, h0, h3, h4, h5]
      have : j = 8 := by omega
      subst this
      refine hK _ hlt ?_
      simp -dsimp -implicitDefEqProofs only [go_sem, h0, h3, h4, h5, wrap_succ (show i < 4611686018427387904 by omega)]
      rw [List.take_succ_eq_append_getElem hlt, crcU_snoc, hc]
  · have : i = bs.length := by omega
    subst this
    simp -dsimp -implicitDefEqProofs only [go_sem, h0, h3, h4, u32_xor_all, List.take_length]
    rfl
def w32s (l : List UInt32) : List AV := l.map w32
theorem w32s_length (l : List UInt32) : (w32s l).length = l.length := by simp [w32s]
theorem w32s_kill (I J : List Id) : ∀ l : List UInt32, killL I J (w32s l) = w32s l
  | [] => rfl
  | c :: l => congrArg (w32 c :: ·) (w32s_kill I J l)
theorem w32s_ok : ∀ l : List UInt32, (w32s l).all okBox = true
  | [] => rfl
  | c :: l => w32s_ok l
theorem w32s_zeros (n : Nat) : List.replicate n (AV.v (.int .u32 0)) = w32s (List.replicate n 0) := by simp [w32s, w32]
theorem w32s_set (l : List UInt32) (i : Nat) (c : UInt32) : (w32s l).set i (.v (.int .u32 c.toNat)) = w32s (l.set i c) := by simp [w32s, w32, List.map_set]
theorem w32s_at {l : List UInt32} {i : Nat} (h : i < l.length) : (w32s l)[i]? = some (.v (.int .u32 l[i].toNat)) := by simp [w32s, w32, h]
theorem setAt_full : ∀ (k : Nat) (pre vs cs : List AV), pre.length = k → vs.length = cs.length → setAt vs k (pre ++ cs) = pre ++ vs
  | k, pre, [], cs, _, h => by simp [setAt, List.eq_nil_of_length_eq_zero h.symm]
  | k, pre, v :: vs, [], _, h => by simp at h
  | k, pre, v :: vs, c :: cs, hp, h => by
    subst hp
    rw [setAt]
    have e : (pre ++ c :: cs).set pre.length v = (pre ++ [v]) ++ cs := by simp
    rw [e, setAt_full (pre.length + 1) (pre ++ [v]) vs cs (by simp) (by simpa using h)]
    simp
theorem w32s_clL (s : St) : ∀ l : List UInt32, s.clL (w32s l) = some (w32s l, [])
  | [] => rfl
  | c :: l => by
    show bindO (some (w32 c, [])) (fun x => bindO (s.clL (w32s l)) fun y => some (x.1 :: y.1, x.2 ++ y.2)) = _
    rw [w32s_clL s l]
    rfl
theorem nilL_one (l : List AV) : nilL [none] l = l := by cases l <;> simp [nilL, nilC]
theorem w32s_setAt (l l' : List UInt32) (h : l.length = l'.length) : setAt (w32s l) 0 (w32s l') = w32s l := by
  simpa using setAt_full 0 [] (w32s l) (w32s l') rfl (by simp [w32s_length, h])
def crcTab (n : Nat) : List UInt32 := (List.range n).map fun j => crcN 8 (UInt32.ofNat j)
theorem crcTab_length (n : Nat) : (crcTab n).length = n := by simp [crcTab]
attribute [go_sem] nilL_one w32s_clL w32s_length w32s_kill w32s_ok w32s_zeros w32s_set w32s_setAt crcTab_length
theorem u32_of_nat {i : Nat} (h : i < 4294967296) : IntKind.u32.wrap (i : Int) = ((UInt32.ofNat i).toNat : Int) := by
  rw [wrap_u32_lt h, UInt32.toNat_ofNat_of_lt' h]
theorem u32_bit (a : UInt32) : (a &&& 1).toNat = (a % 2).toNat := by
  rw [UInt32.toNat_and]
  simp [Nat.and_one_is_mod]
set_option maxRecDepth 4000 in
theorem c_crcTable : Meets Tryz.prog 167 [] (fun r => r = .agg (w32s (crcTab 256))) := by
  refine Meets.intro mixed (hint []) Tryz.func167 rfl (by decide) res_167 rty_167 (by kernel_rfl) ?_; 
  simp -dsimp -implicitDefEqProofs only [go_sem]
  refine LoopE.cnt 256 (fun i s => s.env 0 = .ptr [0] 0 0 0 ∧ s.env 1 = .ptr [1] 0 0 0 ∧ s.env 6 = .v (.int .i64 i) ∧
    s.σ [0] = some (.box 189 (w32s (List.replicate 256 0))) ∧ s.σ [1] = some (.box 189 (w32s (crcTab i ++ List.replicate (256 - i) 0)))) ⟨by simp -dsimp -implicitDefEqProofs only [go_sem], by simp -dsimp -implicitDefEqProofs only [go_sem], by simp -dsimp -implicitDefEqProofs only [go_sem], by simp -dsimp -implicitDefEqProofs only [go_sem], by simp -dsimp -implicitDefEqProofs only [go_sem] <;> rfl⟩ ?_
  rintro i ⟨e, σ⟩ hi ⟨h0, h1, h6, g0, g1⟩ K hK
  simp only at h0 h1 h6 g0 g1
  simp -dsimp -implicitDefEqProofs only [go_sem, h0, h1, h6, g0, g1]
  refine ifB'.of (fun hlt => ?_) (fun hlt => ?_)
  · have hlt : i < 256 := by omega
    simp -dsimp -implicitDefEqProofs only [go_sem, h0, h1, h6, g0, g1, u32_of_nat (show i < 4294967296 by omega)]
    refine LoopE.cnt 8 (fun j s => s.env 0 = .ptr [0] 0 0 0 ∧ s.env 1 = .ptr [1] 0 0 0 ∧ s.env 6 = .v (.int .i64 i) ∧ s.env 2 = .v (.int .i64 i) ∧ s.env 11 = .v (.int .i64 j) ∧ s.env 3 = .v (.int .u32 (crcN j (UInt32.ofNat i)).toNat) ∧
      s.σ [0] = some (.box 189 (w32s (List.replicate 256 0))) ∧ s.σ [1] = some (.box 189 (w32s (crcTab i ++ List.replicate (256 - i) 0)))) ⟨by simp -dsimp -implicitDefEqProofs only [go_sem, h0, h1, h6, g0, g1], by simp -dsimp -implicitDefEqProofs only [go_sem, h0, h1, h6, g0, g1], by simp -dsimp -implicitDefEqProofs only [go_sem, h0, h1, h6, g0, g1], by simp -dsimp -implicitDefEqProofs only [go_sem, h0, h1, h6, g0, g1], by simp -dsimp -implicitDefEqProofs only [go_sem, h0, h1, h6, g0, g1], by simp -dsimp -implicitDefEqProofs only [go_sem, h0, h1, h6, g0, g1, crcN], by simp -dsimp -implicitDefEqProofs only [go_sem, h0, h1, h6, g0, g1], by simp -dsimp -implicitDefEqProofs only [go_sem, h0, h1, h6, g0, g1]⟩ ?_
    rintro j ⟨e, σ⟩ hj ⟨h0, h1, h6, h2, h11, h3, g0, g1⟩ K' hK'
    simp only at h0 h1 h6 h2 h11 h3 g0 g1
    generalize hc : crcN j (UInt32.ofNat i) = c at h3
    simp -dsimp -implicitDefEqProofs only [go_sem, h0, h1, h6, h2, h11, h3, g0, g1]
    refine ifB'.of (fun hlt2 => ?_) (fun hlt2 => ?_)
    · simp -dsimp -implicitDefEqProofs only [go_sem, h0, h1, h6, h2, h11, h3, g0, g1, u32_and_one, u32_shr1, u32_bit]
      refine ask.of (by decide) ?_
      refine ifB'.of (fun hod => ?_) (fun hod => ?_)
      · simp -dsimp -implicitDefEqProofs only [go_sem, h0, h1, h6, h2, h11, h3, g0, g1, u32_xor_poly]
        refine hK' _ (by omega) ?_
        simp -dsimp -implicitDefEqProofs only [go_sem, h0, h1, h6, h2, h11, h3, g0, g1, wrap_succ (show j < 4611686018427387904 by omega)]
        rw [crcN, hc, crcStep, if_pos (UInt32.toNat_inj.1 (Int.ofNat_inj.1 hod))]
      · simp -dsimp -implicitDefEqProofs only [go_sem, h0, h1, h6, h2, h11, h3, g0, g1]
        refine hK' _ (by omega) ?_
        simp -dsimp -implicitDefEqProofs only [go_sem, h0, h1, h6, h2, h11, h3, g0, g1, wrap_succ (show j < 4611686018427387904 by omega)]
        rw [crcN, hc, crcStep, if_neg (fun e => hod (by rw [e]; rfl))]
    · have : j = 8 := by omega
      subst this
      simp -dsimp -implicitDefEqProofs only [go_sem, h0, h1, h6, h2, h11, h3, g0, g1]
      have hl : (crcTab i ++ List.replicate (256 - i) 0).length = 256 := by simp only [List.length_append, crcTab_length, List.length_replicate]; omega
      refine ask.of (by omega) (ask.of (by omega) (hK _ hlt ?_))
      simp -dsimp -implicitDefEqProofs only [go_sem, h0, h1, h6, h2, h11, h3, g0, g1, wrap_succ (show i < 4611686018427387904 by omega)]
      have e : 256 - i = (256 - (i + 1)) + 1 := by omega
      rw [Nat.mul_one, e, List.replicate_succ, List.set_append_right _ _ (by rw [crcTab_length]; exact Nat.le_refl _), crcTab_length, Nat.sub_self, List.set_cons_zero]
      have e2 : crcTab (i + 1) = crcTab i ++ [c] := by rw [crcTab, List.range_succ, List.map_append, ← hc]; rfl
      rw [e2, List.append_assoc]
      rfl
  · have : i = 256 := by omega
    subst this
    have e0 : crcTab 256 ++ List.replicate (256 - 256) 0 = crcTab 256 := List.append_nil _
    rw [e0] at g1
    have e1 : List.take 256 (w32s (crcTab 256)) = w32s (crcTab 256) := by
      exact List.take_of_length_le (by rw [w32s_length, crcTab_length]; exact Nat.le_refl _)
    have e2 : Nat.ble 256 256 = true := rfl
    simp -dsimp -implicitDefEqProofs only [go_sem, h0, h1, h6, g0, g1, e1, e2, w32s_setAt (crcTab 256) (List.replicate 256 0) (by rw [crcTab_length, List.length_replicate]), List.map_id', List.length_replicate]
def stB (x : BitVec 32) : BitVec 32 := (x >>> 1) ^^^ (if x.getLsbD 0 then 3988292384 else 0)
def stN : Nat → BitVec 32 → BitVec 32
  | 0, x => x
  | n + 1, x => stB (stN n x)
theorem crcStep_bv (c : UInt32) : (crcStep c).toBitVec = stB c.toBitVec := by
  have h1 : (c / 2).toBitVec = c.toBitVec >>> 1 := by
    apply BitVec.eq_of_toNat_eq
    simp [BitVec.toNat_ushiftRight, Nat.shiftRight_eq_div_pow]
  have h2 : c.toBitVec.getLsbD 0 = decide (c % 2 = 1) := by
    rw [BitVec.getLsbD, Nat.testBit_zero]
    congr 1
    rw [← UInt32.toNat_inj]
    simp
  unfold crcStep stB
  rw [h2]
  by_cases h : c % 2 = 1
  · simp only [h, if_true, decide_true]
    rw [UInt32.toBitVec_xor, h1]; rfl
  · simp only [h, if_false, decide_false]
    rw [h1]; simp
theorem crcN_bv (n : Nat) (c : UInt32) : (crcN n c).toBitVec = stN n c.toBitVec := by
  induction n with
  | zero => rfl
  | succ n ih => rw [crcN, crcStep_bv, ih]; rfl
theorem stB_xor (a b : BitVec 32) : stB (a ^^^ b) = stB a ^^^ stB b := by
  unfold stB
  rw [BitVec.ushiftRight_xor_distrib, BitVec.getLsbD_xor]
  cases a.getLsbD 0 <;> cases b.getLsbD 0 <;> simp
  · rw [BitVec.xor_assoc]
  · rw [BitVec.xor_assoc, BitVec.xor_assoc, BitVec.xor_comm (b >>> 1)]
  · rw [BitVec.xor_assoc, ← BitVec.xor_assoc (3988292384#32) (b >>> 1), BitVec.xor_comm (3988292384#32) (b >>> 1), BitVec.xor_assoc, BitVec.xor_self, BitVec.xor_zero]
theorem stN_xor (n : Nat) (a b : BitVec 32) : stN n (a ^^^ b) = stN n a ^^^ stN n b := by
  induction n with
  | zero => rfl
  | succ n ih => rw [stN, ih, stB_xor]; rfl
theorem stN_low (x : BitVec 32) (h : ∀ i, i < 8 → x.getLsbD i = false) : ∀ n, n ≤ 8 → stN n x = x >>> n
  | 0, _ => by simp [stN]
  | n + 1, hn => by
    rw [stN, stN_low x h n (by omega), stB]
    have : (x >>> n).getLsbD 0 = false := by rw [BitVec.getLsbD_ushiftRight]; simpa using h n (by omega)
    rw [this, ← BitVec.shiftRight_add]
    simp
theorem st8 (x : BitVec 32) : stN 8 x = (x >>> 8) ^^^ stN 8 (x &&& 255) := by
  have hx : x = (x &&& ~~~255#32) ^^^ (x &&& 255#32) := by
    apply BitVec.eq_of_getLsbD_eq
    intro i hi
    simp only [BitVec.getLsbD_xor, BitVec.getLsbD_and, BitVec.getLsbD_not, hi, decide_true, Bool.true_and]
    cases x.getLsbD i <;> cases (255#32).getLsbD i <;> rfl
  have h255 : ∀ i, (255#32).getLsbD i = decide (i < 8) := fun i => by
    have : (255#32).getLsbD i = (2 ^ 8 - 1).testBit i := rfl
    rw [this, Nat.testBit_two_pow_sub_one]
  have hlow : stN 8 (x &&& ~~~255#32) = (x &&& ~~~255#32) >>> 8 := stN_low _ (fun i hi => by
    rw [BitVec.getLsbD_and, BitVec.getLsbD_not, h255]; simp [hi]) 8 (Nat.le_refl _)
  have hs : (x &&& ~~~255#32) >>> 8 = x >>> 8 := by
    apply BitVec.eq_of_getLsbD_eq
    intro i hi
    rw [BitVec.getLsbD_ushiftRight, BitVec.getLsbD_ushiftRight, BitVec.getLsbD_and, BitVec.getLsbD_not, h255]
    by_cases h : 8 + i < 32
    · simp [h]
    · simp [BitVec.getLsbD_of_ge x (8 + i) (by omega)]
  conv => lhs; rw [hx]
  rw [stN_xor, hlow, hs]
  rfl
theorem crc_byte (c : UInt32) (b : UInt8) : crcN 8 (c ^^^ b.toUInt32) = (c >>> 8) ^^^ crcN 8 (UInt32.ofNat (c.toUInt8 ^^^ b).toNat) := by
  apply UInt32.toBitVec_inj.1
  rw [crcN_bv, UInt32.toBitVec_xor, st8, UInt32.toBitVec_xor, crcN_bv]
  have hb : b.toUInt32.toBitVec = b.toBitVec.setWidth 32 := rfl
  have h1 : (c.toBitVec ^^^ b.toUInt32.toBitVec) >>> 8 = (c >>> 8).toBitVec := by
    apply BitVec.eq_of_toNat_eq
    have hbl := b.toNat_lt
    rw [BitVec.ushiftRight_xor_distrib]
    have : b.toUInt32.toBitVec >>> 8 = 0#32 := by
      apply BitVec.eq_of_toNat_eq
      rw [BitVec.toNat_ushiftRight, Nat.shiftRight_eq_div_pow]
      have : b.toUInt32.toBitVec.toNat = b.toNat := by simp
      rw [this]; simp; omega
    rw [this, BitVec.xor_zero]
    rfl
  have h2 : (c.toBitVec ^^^ b.toUInt32.toBitVec) &&& 255 = (UInt32.ofNat (c.toUInt8 ^^^ b).toNat).toBitVec := by
    apply BitVec.eq_of_toNat_eq
    have h3 : (UInt32.ofNat (c.toUInt8 ^^^ b).toNat).toBitVec.toNat = (c.toUInt8 ^^^ b).toNat := by
      have := (c.toUInt8 ^^^ b).toNat_lt
      show (UInt32.ofNat (c.toUInt8 ^^^ b).toNat).toNat = _
      rw [UInt32.toNat_ofNat_of_lt' (by show _ < 4294967296; omega)]
    rw [h3, BitVec.toNat_and, BitVec.toNat_xor, UInt8.toNat_xor]
    have h4 : b.toUInt32.toBitVec.toNat = b.toNat := by simp
    have h5 : (255 : BitVec 32).toNat = 2 ^ 8 - 1 := rfl
    rw [h4, h5, Nat.and_two_pow_sub_one_eq_mod, Nat.xor_mod_two_pow]
    have h6 : c.toUInt8.toNat = c.toBitVec.toNat % 2 ^ 8 := by simp
    have hbl := b.toNat_lt
    rw [h6, Nat.mod_eq_of_lt (show b.toNat < 2 ^ 8 from hbl)]
  rw [h1, h2]
theorem u32_not (a : UInt32) : IntKind.u32.wrap ((BitVec.ofInt IntKind.u32.bits (if IntKind.u32.signed = true then -1 else IntKind.u32.max) ^^^ BitVec.ofInt IntKind.u32.bits (a.toNat : Int)).toNat : Int) = ((a ^^^ 4294967295).toNat : Int) := by
  have := u32_xor 4294967295 a
  rw [UInt32.xor_comm] at this
  exact this
theorem pureCs_w32s : ∀ l : List UInt32, pureCs (w32s l)
  | [] => trivial
  | c :: l => ⟨trivial, pureCs_w32s l⟩
theorem pure_w32s (l : List UInt32) : (AV.agg (w32s l)).pure := pureCs_w32s l
theorem w32s_opn (id : Id) : ∀ (l : List UInt32) (q : Nat), opnCs id q (w32s l) = (w32s l, [])
  | [], _ => rfl
  | c :: l, q => by
    have := w32s_opn id l (q + 1)
    show ((opnC id q (w32 c)).1 :: (opnCs id (q + 1) (w32s l)).1, (opnC id q (w32 c)).2 ++ (opnCs id (q + 1) (w32s l)).2) = _
    rw [this]; rfl
attribute [go_sem] w32s_opn
theorem crcTab_at {k : Nat} (h : k < 256) : (crcTab 256)[k]'(by rw [crcTab_length]; exact h) = crcN 8 (UInt32.ofNat k) := by simp [crcTab]
theorem c_implCrc32 (bs : List UInt8) (hb : bs.length ≤ 1048576) : Meets Tryz.prog 157 [rowB bs] (fun r => r = .v (.int .u32 (crcB bs).toNat)) := by
  refine Meets.intro mixed (hint []) Tryz.func157 rfl (by decide) res_157 rty_157 (by kernel_rfl) ?_; 
  simp -dsimp -implicitDefEqProofs only [go_sem]
  refine CallE.of c_crcTable (by rintro r rfl; exact pure_w32s _) (by simp -dsimp -implicitDefEqProofs only [go_sem]) ?_
  rintro r rfl
  simp -dsimp -implicitDefEqProofs only [go_sem, List.length_replicate]
  refine LoopE.cnt bs.length (fun i s => s.env 8 = .rd .ent 5 1 (bytesA bs) ∧ s.env 9 = .v (.int .i64 bs.length) ∧ s.env 10 = .v (.int .i64 i) ∧ s.env 3 = .ptr [3] 0 0 0 ∧
    s.env 4 = .v (.int .u32 (crcU 4294967295 (bs.take i)).toNat) ∧ s.σ [3] = some (.box 189 (w32s (crcTab 256)))) ⟨by simp -dsimp -implicitDefEqProofs only [go_sem, initE], by simp -dsimp -implicitDefEqProofs only [go_sem, initE], by simp -dsimp -implicitDefEqProofs only [go_sem], by simp -dsimp -implicitDefEqProofs only [go_sem], by simp -dsimp -implicitDefEqProofs only [go_sem, List.take_zero] <;> rfl, by simp -dsimp -implicitDefEqProofs only [go_sem]⟩ ?_
  rintro i ⟨e, σ⟩ hi ⟨h8, h9, h10, h3, h4, g3⟩ K hK
  simp only at h8 h9 h10 h3 h4 g3
  generalize hc : crcU 4294967295 (bs.take i) = c at h4
  simp -dsimp -implicitDefEqProofs only [go_sem, h8, h9, h10, h3, h4, g3]
  refine ifB'.of (fun hlt => ?_) (fun hlt => ?_)
  · have hlt : i < bs.length := by omega
    have e1 := bytesA_at hlt
    have hk : (c.toUInt8 ^^^ bs[i]).toNat < 256 := (c.toUInt8 ^^^ bs[i]).toNat_lt
    have e2 := w32s_at (l := crcTab 256) (i := (c.toUInt8 ^^^ bs[i]).toNat) (by rw [crcTab_length]; exact hk)
    have e3 : (w32s (crcTab 256))[(c.toUInt8 ^^^ bs[i]).toNat * 1]? = some (.v (.int .u32 (crcN 8 (UInt32.ofNat (c.toUInt8 ^^^ bs[i]).toNat)).toNat)) := by
      rw [Nat.mul_one, e2, crcTab_at hk]
    simp -dsimp -implicitDefEqProofs only [go_sem, h8, h9, h10, h3, h4, g3, e1, e3, u32_shr8, u8_of_u32, u8_xor, u32_xor]
    refine ask.of (by omega) ⟨by decide, ask.of (by omega) (hK _ hlt ?_)⟩
    simp -dsimp -implicitDefEqProofs only [go_sem, h8, h9, h10, h3, h4, g3, wrap_succ (show i < 4611686018427387904 by omega)]
    rw [List.take_succ_eq_append_getElem hlt, crcU_snoc, hc, crc_byte]
  · have : i = bs.length := by omega
    subst this
    rw [List.take_length] at hc
    simp -dsimp -implicitDefEqProofs only [go_sem, h8, h9, h10, h3, h4, g3, u32_not, ← hc]
    rfl
end Go.Ev
set_option linter.unusedSimpArgs false
set_option linter.unusedVariables false
namespace Go.Ev
open Go Go.RowKit
def Look (a b : AV) : Prop := ∀ (C : Cx) (x : Value), Rep C true (.read .ent) a x → Rep C true (.read .ent) b x
theorem Look.refl (a : AV) : Look a a := fun _ _ h => h
def Looks : List AV → List AV → Prop
  | [], [] => True
  | a :: us, b :: bs => Look a b ∧ Looks us bs
  | _, _ => False
def LookEls : List (List AV) → List (List AV) → Prop
  | [], [] => True
  | a :: us, b :: bs => Looks a b ∧ LookEls us bs
  | _, _ => False
theorem Looks.len : ∀ {us bs : List AV}, Looks us bs → us.length = bs.length
  | [], [], _ => rfl
  | a :: us, b :: bs, h => by simp [Looks.len h.2]
  | [], _ :: _, h => h.elim
  | _ :: _, [], h => h.elim
theorem LookEls.len : ∀ {us bs : List (List AV)}, LookEls us bs → us.length = bs.length
  | [], [], _ => rfl
  | a :: us, b :: bs, h => by simp [LookEls.len h.2]
  | [], _ :: _, h => h.elim
  | _ :: _, [], h => h.elim
theorem RepVs.look {C : Cx} : ∀ {us bs : List AV} {vs : List Value} {q : Nat}, Looks us bs → RepVs C true (.read .ent) q us vs → RepVs C true (.read .ent) q bs vs
  | [], [], vs, q, _, h => h
  | a :: us, b :: bs, vs, q, hl, h => by
    obtain ⟨y, ys, rfl, h1, h2⟩ := h
    exact ⟨y, ys, rfl, hl.1 _ _ h1, RepVs.look hl.2 h2⟩
  | [], _ :: _, _, _, h, _ => h.elim
  | _ :: _, [], _, _, h, _ => h.elim
theorem RepCs.look {C : Cx} {b : Nat} : ∀ {us bs : List AV} {off q : Nat}, Looks us bs → RepCs C true (.read .ent) b off q us → RepCs C true (.read .ent) b off q bs
  | [], [], _, _, _, h => h
  | a :: us, c :: bs, off, q, hl, h => by
    obtain ⟨⟨y, h0, h1, h2⟩, h3⟩ := h
    exact ⟨⟨y, h0, h1, hl.1 _ _ h2⟩, RepCs.look hl.2 h3⟩
  | [], _ :: _, _, _, h, _ => h.elim
  | _ :: _, [], _, _, h, _ => h.elim
theorem RepEls.look {C : Cx} {b sz : Nat} : ∀ {us bs : List (List AV)} {off q : Nat}, LookEls us bs → RepEls C (.read .ent) b off q sz us → RepEls C (.read .ent) b off q sz bs
  | [], [], _, _, _, h => h
  | a :: us, c :: bs, off, q, hl, h => by
    obtain ⟨h1, h2, h3⟩ := h
    exact ⟨by rw [← Looks.len hl.1]; exact h1, RepCs.look hl.1 h2, RepEls.look hl.2 h3⟩
  | [], _ :: _, _, _, h, _ => h.elim
  | _ :: _, [], _, _, h, _ => h.elim
theorem Look.row {e sz : Nat} {us bs : List (List AV)} (h : LookEls us bs) : Look (.row e sz us) (.row e sz bs) := fun C x hr => by
  obtain ⟨ha, A, c, rfl, h1, h2, h3⟩ := hr
  have hl := h.len
  refine ⟨ha, A, c, by rw [hl], by omega, by omega, ?_⟩
  rcases h3 with h3 | ⟨b, off, h4, h5, h6⟩
  · left
    rw [h3] at hl
    exact List.eq_nil_of_length_eq_zero (by simpa using hl.symm)
  · exact .inr ⟨b, off, h4, h5, RepEls.look h h6⟩
theorem Look.rd (e sz : Nat) (els : List (List AV)) : Look (.rd .ent e sz els) (.row e sz els) := fun C x hr => by
  obtain ⟨_, _, A, c, rfl, h1, h2, h3⟩ := hr
  exact ⟨trivial, A, c, rfl, h1, h2, h3⟩
theorem Meets.look {P : Program} {f : FuncId} {us bs : List AV} {post : AV → Prop} (hl : Looks us bs) (h : Meets P f bs post) : Meets P f us post :=
  ⟨h.enters, fun w S F base vals hS hr => h.runs w S F base vals hS (hr.look hl)⟩
def byE (bs : List UInt8) : List AV := [.rd .ent 5 1 (bytesA bs)]
def rowBE (xs : List (List UInt8)) : AV := .row 48 1 (ra byE xs)
theorem look_byE : ∀ xs : List (List UInt8), LookEls (ra byE xs) (ra byC xs)
  | [] => trivial
  | x :: xs => ⟨⟨Look.rd _ _ _, trivial⟩, look_byE xs⟩
theorem look_rowBE (xs : List (List UInt8)) : Look (rowBE xs) (rowBB xs) := Look.row (look_byE xs)
theorem byE_snoc (xs : List (List UInt8)) (b : List UInt8) : ra byE xs ++ [[.rd .ent 5 1 (bytesA b)]] = ra byE (xs ++ [b]) := by simp [ra, byE]
theorem byE_asrw (xs : List (List UInt8)) : (ra byC xs).map (List.map (AV.asrw .ent)) = ra byE xs := by simp [ra, byC, byE, AV.asrw, Org.base]
attribute [go_sem] byE_snoc rowBE
end Go.Ev
set_option linter.unusedSimpArgs false
set_option linter.unusedVariables false
namespace Go.Ev
open Go Go.RowKit Go.Proofs
def fitsB (w : Nat) (x : Int) : Bool := decide (w = 8 ∨ (-(2 ^ (8 * w - 1) : Int) ≤ x ∧ x < 2 ^ (8 * w - 1)))
def uN (x : Int) : Nat := (x % 18446744073709551616).toNat
def leB (w : Nat) (x : Int) : List UInt8 := (List.range w).map fun j => UInt8.ofNat (uN x / 256 ^ j % 256)
theorem leB_length (w : Nat) (x : Int) : (leB w x).length = w := by simp [leB]
theorem leB_succ (w : Nat) (x : Int) : leB w x ++ [UInt8.ofNat (uN x / 256 ^ w % 256)] = leB (w + 1) x := by simp [leB, List.range_succ]
def packI (xs : List Int) (w : Nat) : List UInt8 := xs.flatMap (leB w)
theorem packI_length (xs : List Int) (w : Nat) : (packI xs w).length = w * xs.length := by
  induction xs with
  | nil => rfl
  | cons x xs ih => rw [packI, List.flatMap_cons, List.length_append, leB_length, List.length_cons, Nat.mul_add, ← ih]; simp [packI]; omega
theorem packI_succ {xs : List Int} (w : Nat) {i : Nat} (h : i < xs.length) : packI (xs.take i) w ++ leB w xs[i] = packI (xs.take (i + 1)) w := by
  rw [List.take_add_one, List.getElem?_eq_getElem h, packI, packI, List.flatMap_append]
  simp
theorem all_succ {xs : List Int} (w : Nat) {i : Nat} (h : i < xs.length) (h1 : (xs.take i).all (fitsB w) = true) (h2 : fitsB w xs[i] = true) : (xs.take (i + 1)).all (fitsB w) = true := by
  rw [List.take_add_one, List.getElem?_eq_getElem h, List.all_append, h1]
  simpa using h2
theorem all_not {xs : List Int} (w : Nat) {i : Nat} (h : i < xs.length) (h2 : fitsB w xs[i] = false) : xs.all (fitsB w) = false := by
  rw [List.all_eq_false]
  exact ⟨xs[i], List.getElem_mem h, by rw [h2]; decide⟩
def packIC (xs : List Int) (n : Int) : List UInt8 × Nat :=
  if isW n = true then (if xs.all (fitsB n.toNat) = true then (packI xs n.toNat, 0) else ([], 1)) else ([], 1)
theorem wrap_u64_eq (x : Int) : IntKind.u64.wrap x = (uN x : Int) := by
  rw [IntKind.wrap_u64, uN]; omega
theorem uN_lt (x : Int) : uN x < 18446744073709551616 := by unfold uN; omega
theorem sh_f {w : Nat} (h : w = 1 ∨ w = 2 ∨ w = 4) : IntKind.i64.wrap (1 * 2 ^ min (IntKind.u64.wrap (IntKind.i64.wrap (IntKind.i64.wrap (8 * (w : Int)) - 1))).toNat 64) = 2 ^ (8 * w - 1) := by
  rcases h with rfl | rfl | rfl <;> decide
theorem ng_f {w : Nat} (h : w = 1 ∨ w = 2 ∨ w = 4) : IntKind.i64.wrap (0 - (2 ^ (8 * w - 1) : Int)) = -(2 ^ (8 * w - 1) : Int) := by
  rcases h with rfl | rfl | rfl <;> decide
theorem c_l1fits (x : Int) (w : Nat) (hw : w = 1 ∨ w = 2 ∨ w = 4 ∨ w = 8) : Meets Tryz.prog 158 [.v (.int .i64 x), .v (.int .i64 w)] (fun r => r = .v (.bool (fitsB w x))) := by
  refine Meets.intro mixed (hint []) Tryz.func158 rfl (by decide) res_158 rty_158 (by kernel_rfl) ?_; 
  simp -dsimp -implicitDefEqProofs only [go_sem]
  refine ifB'.of (fun h8 => ?_) (fun h8 => ?_)
  · obtain rfl : w = 8 := by omega
    simp -dsimp -implicitDefEqProofs only [go_sem, show fitsB 8 x = true from rfl]
  have hw : w = 1 ∨ w = 2 ∨ w = 4 := by omega
  have e : fitsB w x = (decide (-(2 ^ (8 * w - 1) : Int) ≤ x) && decide (x < 2 ^ (8 * w - 1))) := by
    unfold fitsB
    rw [← Bool.decide_and]
    exact decide_eq_decide.2 ⟨fun h => h.resolve_left (by omega), .inr⟩
  simp -dsimp -implicitDefEqProofs only [go_sem, sh_f hw, ng_f hw, e]
  refine ifB'.of (fun h1 => ?_) (fun h1 => ?_)
  · simp -dsimp -implicitDefEqProofs only [go_sem, sh_f hw, decide_eq_true h1, Bool.true_and]
  · simp -dsimp -implicitDefEqProofs only [go_sem, decide_eq_false h1, Bool.false_and]
theorem c_l1little (x : Int) (w : Nat) (hw : w ≤ 8) : Meets Tryz.prog 109 [.v (.int .i64 x), .v (.int .i64 w)] (fun r => r = rowB (leB w x)) := by
  refine Meets.intro mixed (hint [(6, 148)]) Tryz.func109 rfl (by decide) res_109 rty_109 (by kernel_rfl) ?_; 
  simp -dsimp -implicitDefEqProofs only [go_sem]
  refine LoopE.cnt w (fun i s => s.env 1 = .v (.int .i64 w) ∧ s.env 5 = .v (.int .u64 ((uN x / 256 ^ i : Nat) : Int)) ∧ s.env 7 = .v (.int .i64 i) ∧ s.env 6 = .ref [6] ∧ s.σ [6] = some (.row 5 1 (bytesA (leB i x)))) ⟨by simp -dsimp -implicitDefEqProofs only [go_sem, initE], by simp -dsimp -implicitDefEqProofs only [go_sem, wrap_u64_eq] <;> simp, by simp -dsimp -implicitDefEqProofs only [go_sem] <;> simp, by simp -dsimp -implicitDefEqProofs only [go_sem], by simp -dsimp -implicitDefEqProofs only [go_sem]; rfl⟩ ?_
  rintro i ⟨e, σ⟩ hi ⟨h1, h5, h7, h6, hs⟩ K hK
  simp only at h1 h5 h7 h6 hs
  simp -dsimp -implicitDefEqProofs only [go_sem, h1, h5, h7, h6, hs]
  refine ifB'.of (fun hlt => ?_) (fun hlt => ?_)
  · have hlt : i < w := by omega
    have hu := uN_lt x
    have hu2 : uN x / 256 ^ i ≤ uN x := Nat.div_le_self _ _
    have e1 : ((uN x / 256 ^ i : Nat) : Int).tmod 256 = ((uN x / 256 ^ i % 256 : Nat) : Int) := rfl
    have e2 : IntKind.u64.wrap (((uN x / 256 ^ i : Nat) : Int).tdiv 256) = ((uN x / 256 ^ (i + 1) : Nat) : Int) := by
      rw [Nat.pow_succ, ← Nat.div_div_eq_div_mul]
      generalize uN x / 256 ^ i = y at *
      rw [IntKind.wrap_u64, Int.tdiv_eq_ediv_of_nonneg (by omega)]; omega
    simp -dsimp -implicitDefEqProofs only [go_sem, h1, h5, h7, h6, hs, e1, e2, u8_of_nat, leB_length]
    repeat with_reducible refine ask.of (by omega) ?_
    refine hK _ hlt ?_
    simp -dsimp -implicitDefEqProofs only [go_sem, h1, h5, h7, h6, hs, wrap_succ (show i < 4611686018427387904 by omega), e2, leB_succ]
  · obtain rfl : i = w := by omega
    simp -dsimp -implicitDefEqProofs only [go_sem, h1, h5, h7, h6, hs]
end Go.Ev
set_option linter.unusedSimpArgs false
set_option linter.unusedVariables false
namespace Go.Ev
open Go Go.RowKit Go.Proofs
theorem shr_byte (x : Int) (j : Nat) : (x / 256 ^ j).fdiv (2 ^ min (Int.toNat 8) 64) = x / 256 ^ (j + 1) := by
  have e : (2 : Int) ^ min (Int.toNat 8) 64 = 256 := rfl
  rw [e, Int.fdiv_eq_ediv_of_nonneg _ (by decide), Int.pow_succ, Int.ediv_ediv_of_nonneg (Int.le_of_lt (Int.pow_pos (by decide)))]
theorem u8_byte (x : Int) {j : Nat} (hj : j < 8) : IntKind.u8.wrap (x / 256 ^ j) = ((UInt8.ofNat (uN x / 256 ^ j % 256)).toNat : Int) := by
  have e : IntKind.u8.wrap (x / 256 ^ j) = x / 256 ^ j % 256 := by
    simp [IntKind.wrap, IntKind.bits, IntKind.signed]
  have e2 : ((UInt8.ofNat (uN x / 256 ^ j % 256)).toNat : Int) = ((uN x / 256 ^ j % 256 : Nat) : Int) := by simp
  rw [e, e2, uN]
  match j, hj with
  | 0, _ => simp only [Nat.pow_zero, Int.pow_zero, Nat.div_one, Int.ediv_one]; omega
  | 1, _ => simp only [Nat.reducePow, Int.reducePow]; omega
  | 2, _ => simp only [Nat.reducePow, Int.reducePow]; omega
  | 3, _ => simp only [Nat.reducePow, Int.reducePow]; omega
  | 4, _ => simp only [Nat.reducePow, Int.reducePow]; omega
  | 5, _ => simp only [Nat.reducePow, Int.reducePow]; omega
  | 6, _ => simp only [Nat.reducePow, Int.reducePow]; omega
  | 7, _ => simp only [Nat.reducePow, Int.reducePow]; omega
theorem back_i8 {x : Int} (hx : -9223372036854775808 ≤ x ∧ x ≤ 9223372036854775807) : decide (IntKind.i64.wrap (IntKind.i8.wrap x) = x) = fitsB 1 x := by
  have e0 : -128 ≤ IntKind.i8.wrap x ∧ IntKind.i8.wrap x ≤ 127 ∧ (IntKind.i8.wrap x = x ↔ -128 ≤ x ∧ x ≤ 127) := by
    simp [IntKind.wrap, IntKind.bits, IntKind.signed]
    split <;> omega
  rw [wrap_i64_of (by omega) (by omega)]
  unfold fitsB
  refine decide_eq_decide.2 ?_
  rw [e0.2.2]
  simp
  omega
theorem back_i16 {x : Int} (hx : -9223372036854775808 ≤ x ∧ x ≤ 9223372036854775807) : decide (IntKind.i64.wrap (IntKind.i16.wrap x) = x) = fitsB 2 x := by
  have e0 : -32768 ≤ IntKind.i16.wrap x ∧ IntKind.i16.wrap x ≤ 32767 ∧ (IntKind.i16.wrap x = x ↔ -32768 ≤ x ∧ x ≤ 32767) := by
    simp [IntKind.wrap, IntKind.bits, IntKind.signed]
    split <;> omega
  rw [wrap_i64_of (by omega) (by omega)]
  unfold fitsB
  refine decide_eq_decide.2 ?_
  rw [e0.2.2]
  simp
  omega
theorem back_i32 {x : Int} (hx : -9223372036854775808 ≤ x ∧ x ≤ 9223372036854775807) : decide (IntKind.i64.wrap (IntKind.i32.wrap x) = x) = fitsB 4 x := by
  have e0 : -2147483648 ≤ IntKind.i32.wrap x ∧ IntKind.i32.wrap x ≤ 2147483647 ∧ (IntKind.i32.wrap x = x ↔ -2147483648 ≤ x ∧ x ≤ 2147483647) := by
    simp [IntKind.wrap, IntKind.bits, IntKind.signed]
    split <;> omega
  rw [wrap_i64_of (by omega) (by omega)]
  unfold fitsB
  refine decide_eq_decide.2 ?_
  rw [e0.2.2]
  simp
  omega
theorem c_packed_i8 (xs : List Int) (hx : xs.length ≤ 1048576) (hr : ∀ x ∈ xs, -9223372036854775808 ≤ x ∧ x ≤ 9223372036854775807) : Meets Tryz.prog 159 [rowI xs, .v (.int .i64 1)] (fun r => r = .tup [rowB (packIC xs 1).1, .v (.int .i64 (packIC xs 1).2)]) := by
  have hw : isW 1 = true := rfl
  have fin := packIC.eq_1 xs 1
  rw [if_pos hw, show (1 : Int).toNat = 1 from rfl] at fin
  have em : IntKind.i64.wrap ((xs.length : Int) * 1) = ((1 * xs.length : Nat) : Int) := by rw [wrap_i64_of (by omega) (by omega)]; omega
  refine Meets.intro mixed (hint []) Tryz.func159 rfl (by decide) res_159 rty_159 (by kernel_rfl) ?_; 
  simp -dsimp -implicitDefEqProofs only [go_sem, em]
  repeat with_reducible refine ask.of (by omega) ?_
  refine LoopE.cnt xs.length (fun i s => s.env 15 = .rd .ent 3 1 (ra intC xs) ∧ s.env 1 = .v (.int .i64 1) ∧ s.env 16 = .v (.int .i64 xs.length) ∧ s.env 17 = .v (.int .i64 i) ∧ s.env 6 = .ref [14] ∧ s.σ [14] = some (.row 5 1 (bytesA (packI (xs.take i) 1))) ∧ (xs.take i).all (fitsB 1) = true) ⟨by simp -dsimp -implicitDefEqProofs only [go_sem, initE], by simp -dsimp -implicitDefEqProofs only [go_sem, initE], by simp -dsimp -implicitDefEqProofs only [go_sem], by simp -dsimp -implicitDefEqProofs only [go_sem] <;> simp, by simp -dsimp -implicitDefEqProofs only [go_sem], by simp -dsimp -implicitDefEqProofs only [go_sem]; rfl, by simp⟩ ?_
  rintro i ⟨e, σ⟩ hi ⟨h15, h1, h16, h17, h6, hs, hz⟩ K hK
  simp only at h15 h1 h16 h17 h6 hs
  simp -dsimp -implicitDefEqProofs only [go_sem, h15, h1, h16, h17, h6, hs]
  refine ifB'.of (fun hlt => ?_) (fun hlt => ?_)
  · have hlt : i < xs.length := by omega
    have hv := hr xs[i] (List.getElem_mem hlt)
    have hd : decide (IntKind.i64.wrap (IntKind.i8.wrap xs[i]) = xs[i]) = fitsB 1 xs[i] := back_i8 hv
    simp -dsimp -implicitDefEqProofs only [go_sem, h15, h1, h16, h17, h6, hs, intA_at hlt, hd]
    repeat with_reducible refine ask.of (by omega) ?_
    cases hf : fitsB 1 xs[i]
    · simp -dsimp -implicitDefEqProofs only [go_sem, h15, h1, h16, h17, h6, hs, hf]
      rw [fin, all_not 1 hlt hf]; rfl
    simp -dsimp -implicitDefEqProofs only [go_sem, h15, h1, h16, h17, h6, hs, hf]
    refine LoopE.cnt 1 (fun j s => s.env 15 = .rd .ent 3 1 (ra intC xs) ∧ s.env 1 = .v (.int .i64 1) ∧ s.env 16 = .v (.int .i64 xs.length) ∧ s.env 17 = .v (.int .i64 i) ∧ s.env 27 = .v (.int .i64 1) ∧ s.env 28 = .v (.int .i64 j) ∧ s.env 8 = .v (.int .i64 (xs[i] / 256 ^ j)) ∧ s.env 6 = .ref [14] ∧ s.σ [14] = some (.row 5 1 (bytesA (packI (xs.take i) 1 ++ leB j xs[i])))) ⟨by simp -dsimp -implicitDefEqProofs only [go_sem, h15, h1, h16, h17, h6, hs], by simp -dsimp -implicitDefEqProofs only [go_sem, h15, h1, h16, h17, h6, hs], by simp -dsimp -implicitDefEqProofs only [go_sem, h15, h1, h16, h17, h6, hs], by simp -dsimp -implicitDefEqProofs only [go_sem, h15, h1, h16, h17, h6, hs], by simp -dsimp -implicitDefEqProofs only [go_sem, h15, h1, h16, h17, h6, hs], by simp -dsimp -implicitDefEqProofs only [go_sem, h15, h1, h16, h17, h6, hs] <;> simp, by simp -dsimp -implicitDefEqProofs only [go_sem, h15, h1, h16, h17, h6, hs] <;> simp, by simp -dsimp -implicitDefEqProofs only [go_sem, h15, h1, h16, h17, h6, hs], by simp -dsimp -implicitDefEqProofs only [go_sem, h15, h1, h16, h17, h6, hs] <;> simp [leB]⟩ ?_
    rintro j ⟨e, σ⟩ hj ⟨h15, h1, h16, h17, ha, hb, h8, h6, hs⟩ K' hK'
    simp only at h15 h1 h16 h17 ha hb h8 h6 hs
    simp -dsimp -implicitDefEqProofs only [go_sem, h15, h1, h16, h17, ha, hb, h8, h6, hs]
    refine ifB'.of (fun hjt => ?_) (fun hjt => ?_)
    · have hjt : j < 1 := by omega
      simp -dsimp -implicitDefEqProofs only [go_sem, h15, h1, h16, h17, ha, hb, h8, h6, hs, u8_byte xs[i] (show j < 8 by omega), List.length_append, packI_length, leB_length, List.length_take, Nat.min_eq_left hi]
      repeat with_reducible refine ask.of (by omega) ?_
      refine hK' _ hjt ?_
      simp -dsimp -implicitDefEqProofs only [go_sem, h15, h1, h16, h17, ha, hb, h8, h6, hs, wrap_succ (show j < 4611686018427387904 by omega), shr_byte, List.append_assoc, leB_succ]
    · obtain rfl : j = 1 := by omega
      simp -dsimp -implicitDefEqProofs only [go_sem, h15, h1, h16, h17, ha, hb, h8, h6, hs]
      refine hK _ hlt ?_
      simp -dsimp -implicitDefEqProofs only [go_sem, h15, h1, h16, h17, ha, hb, h8, h6, hs, wrap_succ (show i < 4611686018427387904 by omega), packI_succ 1 hlt, all_succ 1 hlt hz hf]
  · obtain rfl : i = xs.length := by omega
    rw [List.take_length] at hz hs
    rw [if_pos hz] at fin
    simp -dsimp -implicitDefEqProofs only [go_sem, h15, h1, h16, h17, h6, hs, fin]
theorem c_packed_i16 (xs : List Int) (hx : xs.length ≤ 1048576) (hr : ∀ x ∈ xs, -9223372036854775808 ≤ x ∧ x ≤ 9223372036854775807) : Meets Tryz.prog 160 [rowI xs, .v (.int .i64 2)] (fun r => r = .tup [rowB (packIC xs 2).1, .v (.int .i64 (packIC xs 2).2)]) := by
  have hw : isW 2 = true := rfl
  have fin := packIC.eq_1 xs 2
  rw [if_pos hw, show (2 : Int).toNat = 2 from rfl] at fin
  have em : IntKind.i64.wrap ((xs.length : Int) * 2) = ((2 * xs.length : Nat) : Int) := by rw [wrap_i64_of (by omega) (by omega)]; omega
  refine Meets.intro mixed (hint []) Tryz.func160 rfl (by decide) res_160 rty_160 (by kernel_rfl) ?_; 
  simp -dsimp -implicitDefEqProofs only [go_sem, em]
  repeat with_reducible refine ask.of (by omega) ?_
  refine LoopE.cnt xs.length (fun i s => s.env 15 = .rd .ent 3 1 (ra intC xs) ∧ s.env 1 = .v (.int .i64 2) ∧ s.env 16 = .v (.int .i64 xs.length) ∧ s.env 17 = .v (.int .i64 i) ∧ s.env 6 = .ref [14] ∧ s.σ [14] = some (.row 5 1 (bytesA (packI (xs.take i) 2))) ∧ (xs.take i).all (fitsB 2) = true) ⟨by simp -dsimp -implicitDefEqProofs only [go_sem, initE], by simp -dsimp -implicitDefEqProofs only [go_sem, initE], by simp -dsimp -implicitDefEqProofs only [go_sem], by simp -dsimp -implicitDefEqProofs only [go_sem] <;> simp, by simp -dsimp -implicitDefEqProofs only [go_sem], by simp -dsimp -implicitDefEqProofs only [go_sem]; rfl, by simp⟩ ?_
  rintro i ⟨e, σ⟩ hi ⟨h15, h1, h16, h17, h6, hs, hz⟩ K hK
  simp only at h15 h1 h16 h17 h6 hs
  simp -dsimp -implicitDefEqProofs only [go_sem, h15, h1, h16, h17, h6, hs]
  refine ifB'.of (fun hlt => ?_) (fun hlt => ?_)
  · have hlt : i < xs.length := by omega
    have hv := hr xs[i] (List.getElem_mem hlt)
    have hd : decide (IntKind.i64.wrap (IntKind.i16.wrap xs[i]) = xs[i]) = fitsB 2 xs[i] := back_i16 hv
    simp -dsimp -implicitDefEqProofs only [go_sem, h15, h1, h16, h17, h6, hs, intA_at hlt, hd]
    repeat with_reducible refine ask.of (by omega) ?_
    cases hf : fitsB 2 xs[i]
    · simp -dsimp -implicitDefEqProofs only [go_sem, h15, h1, h16, h17, h6, hs, hf]
      rw [fin, all_not 2 hlt hf]; rfl
    simp -dsimp -implicitDefEqProofs only [go_sem, h15, h1, h16, h17, h6, hs, hf]
    refine LoopE.cnt 2 (fun j s => s.env 15 = .rd .ent 3 1 (ra intC xs) ∧ s.env 1 = .v (.int .i64 2) ∧ s.env 16 = .v (.int .i64 xs.length) ∧ s.env 17 = .v (.int .i64 i) ∧ s.env 27 = .v (.int .i64 2) ∧ s.env 28 = .v (.int .i64 j) ∧ s.env 8 = .v (.int .i64 (xs[i] / 256 ^ j)) ∧ s.env 6 = .ref [14] ∧ s.σ [14] = some (.row 5 1 (bytesA (packI (xs.take i) 2 ++ leB j xs[i])))) ⟨by simp -dsimp -implicitDefEqProofs only [go_sem, h15, h1, h16, h17, h6, hs], by simp -dsimp -implicitDefEqProofs only [go_sem, h15, h1, h16, h17, h6, hs], by simp -dsimp -implicitDefEqProofs only [go_sem, h15, h1, h16, h17, h6, hs], by simp -dsimp -implicitDefEqProofs only [go_sem, h15, h1, h16, h17, h6, hs], by simp -dsimp -implicitDefEqProofs only [go_sem, h15, h1, h16, h17, h6, hs], by simp -dsimp -implicitDefEqProofs only [go_sem, h15, h1, h16, h17, h6, hs] <;> simp, by simp -dsimp -implicitDefEqProofs only [go_sem, h15, h1, h16, h17, h6, hs] <;> simp, by simp -dsimp -implicitDefEqProofs only [go_sem, h15, h1, h16, h17, h6, hs], by simp -dsimp -implicitDefEqProofs only [go_sem, h15, h1, h16, h17, h6, hs] <;> simp [leB]⟩ ?_
    rintro j ⟨e, σ⟩ hj ⟨h15, h1, h16, h17, ha, hb, h8, h6, hs⟩ K' hK'
    simp only at h15 h1 h16 h17 ha hb h8 h6 hs
    simp -dsimp -implicitDefEqProofs only [go_sem, h15, h1, h16, h17, ha, hb, h8, h6, hs]
    refine ifB'.of (fun hjt => ?_) (fun hjt => ?_)
    · have hjt : j < 2 := by omega
      simp -dsimp -implicitDefEqProofs only [go_sem, h15, h1, h16, h17, ha, hb, h8, h6, hs, u8_byte xs[i] (show j < 8 by omega), List.length_append, packI_length, leB_length, List.length_take, Nat.min_eq_left hi]
      repeat with_reducible refine ask.of (by omega) ?_
      refine hK' _ hjt ?_
      simp -dsimp -implicitDefEqProofs only [go_sem, h15, h1, h16, h17, ha, hb, h8, h6, hs, wrap_succ (show j < 4611686018427387904 by omega), shr_byte, List.append_assoc, leB_succ]
    · obtain rfl : j = 2 := by omega
      simp -dsimp -implicitDefEqProofs only [go_sem, h15, h1, h16, h17, ha, hb, h8, h6, hs]
      refine hK _ hlt ?_
      simp -dsimp -implicitDefEqProofs only [go_sem, h15, h1, h16, h17, ha, hb, h8, h6, hs, wrap_succ (show i < 4611686018427387904 by omega), packI_succ 2 hlt, all_succ 2 hlt hz hf]
  · obtain rfl : i = xs.length := by omega
    rw [List.take_length] at hz hs
    rw [if_pos hz] at fin
    simp -dsimp -implicitDefEqProofs only [go_sem, h15, h1, h16, h17, h6, hs, fin]
theorem c_packed_i32 (xs : List Int) (hx : xs.length ≤ 1048576) (hr : ∀ x ∈ xs, -9223372036854775808 ≤ x ∧ x ≤ 9223372036854775807) : Meets Tryz.prog 161 [rowI xs, .v (.int .i64 4)] (fun r => r = .tup [rowB (packIC xs 4).1, .v (.int .i64 (packIC xs 4).2)]) := by
  have hw : isW 4 = true := rfl
  have fin := packIC.eq_1 xs 4
  rw [if_pos hw, show (4 : Int).toNat = 4 from rfl] at fin
  have em : IntKind.i64.wrap ((xs.length : Int) * 4) = ((4 * xs.length : Nat) : Int) := by rw [wrap_i64_of (by omega) (by omega)]; omega
  refine Meets.intro mixed (hint []) Tryz.func161 rfl (by decide) res_161 rty_161 (by kernel_rfl) ?_; 
  simp -dsimp -implicitDefEqProofs only [go_sem, em]
  repeat with_reducible refine ask.of (by omega) ?_
  refine LoopE.cnt xs.length (fun i s => s.env 15 = .rd .ent 3 1 (ra intC xs) ∧ s.env 1 = .v (.int .i64 4) ∧ s.env 16 = .v (.int .i64 xs.length) ∧ s.env 17 = .v (.int .i64 i) ∧ s.env 6 = .ref [14] ∧ s.σ [14] = some (.row 5 1 (bytesA (packI (xs.take i) 4))) ∧ (xs.take i).all (fitsB 4) = true) ⟨by simp -dsimp -implicitDefEqProofs only [go_sem, initE], by simp -dsimp -implicitDefEqProofs only [go_sem, initE], by simp -dsimp -implicitDefEqProofs only [go_sem], by simp -dsimp -implicitDefEqProofs only [go_sem] <;> simp, by simp -dsimp -implicitDefEqProofs only [go_sem], by simp -dsimp -implicitDefEqProofs only [go_sem]; rfl, by simp⟩ ?_
  rintro i ⟨e, σ⟩ hi ⟨h15, h1, h16, h17, h6, hs, hz⟩ K hK
  simp only at h15 h1 h16 h17 h6 hs
  simp -dsimp -implicitDefEqProofs only [go_sem, h15, h1, h16, h17, h6, hs]
  refine ifB'.of (fun hlt => ?_) (fun hlt => ?_)
  · have hlt : i < xs.length := by omega
    have hv := hr xs[i] (List.getElem_mem hlt)
    have hd : decide (IntKind.i64.wrap (IntKind.i32.wrap xs[i]) = xs[i]) = fitsB 4 xs[i] := back_i32 hv
    simp -dsimp -implicitDefEqProofs only [go_sem, h15, h1, h16, h17, h6, hs, intA_at hlt, hd]
    repeat with_reducible refine ask.of (by omega) ?_
    cases hf : fitsB 4 xs[i]
    · simp -dsimp -implicitDefEqProofs only [go_sem, h15, h1, h16, h17, h6, hs, hf]
      rw [fin, all_not 4 hlt hf]; rfl
    simp -dsimp -implicitDefEqProofs only [go_sem, h15, h1, h16, h17, h6, hs, hf]
    refine LoopE.cnt 4 (fun j s => s.env 15 = .rd .ent 3 1 (ra intC xs) ∧ s.env 1 = .v (.int .i64 4) ∧ s.env 16 = .v (.int .i64 xs.length) ∧ s.env 17 = .v (.int .i64 i) ∧ s.env 27 = .v (.int .i64 4) ∧ s.env 28 = .v (.int .i64 j) ∧ s.env 8 = .v (.int .i64 (xs[i] / 256 ^ j)) ∧ s.env 6 = .ref [14] ∧ s.σ [14] = some (.row 5 1 (bytesA (packI (xs.take i) 4 ++ leB j xs[i])))) ⟨by simp -dsimp -implicitDefEqProofs only [go_sem, h15, h1, h16, h17, h6, hs], by simp -dsimp -implicitDefEqProofs only [go_sem, h15, h1, h16, h17, h6, hs], by simp -dsimp -implicitDefEqProofs only [go_sem, h15, h1, h16, h17, h6, hs], by simp -dsimp -implicitDefEqProofs only [go_sem, h15, h1, h16, h17, h6, hs], by simp -dsimp -implicitDefEqProofs only [go_sem, h15, h1, h16, h17, h6, hs], by simp -dsimp -implicitDefEqProofs only [go_sem, h15, h1, h16, h17, h6, hs] <;> simp, by simp -dsimp -implicitDefEqProofs only [go_sem, h15, h1, h16, h17, h6, hs] <;> simp, by simp -dsimp -implicitDefEqProofs only [go_sem, h15, h1, h16, h17, h6, hs], by simp -dsimp -implicitDefEqProofs only [go_sem, h15, h1, h16, h17, h6, hs] <;> simp [leB]⟩ ?_
    rintro j ⟨e, σ⟩ hj ⟨h15, h1, h16, h17, ha, hb, h8, h6, hs⟩ K' hK'
    simp only at h15 h1 h16 h17 ha hb h8 h6 hs
    simp -dsimp -implicitDefEqProofs only [go_sem, h15, h1, h16, h17, ha, hb, h8, h6, hs]
    refine ifB'.of (fun hjt => ?_) (fun hjt => ?_)
    · have hjt : j < 4 := by omega
      simp -dsimp -implicitDefEqProofs only [go_sem, h15, h1, h16, h17, ha, hb, h8, h6, hs, u8_byte xs[i] (show j < 8 by omega), List.length_append, packI_length, leB_length, List.length_take, Nat.min_eq_left hi]
      repeat with_reducible refine ask.of (by omega) ?_
      refine hK' _ hjt ?_
      simp -dsimp -implicitDefEqProofs only [go_sem, h15, h1, h16, h17, ha, hb, h8, h6, hs, wrap_succ (show j < 4611686018427387904 by omega), shr_byte, List.append_assoc, leB_succ]
    · obtain rfl : j = 4 := by omega
      simp -dsimp -implicitDefEqProofs only [go_sem, h15, h1, h16, h17, ha, hb, h8, h6, hs]
      refine hK _ hlt ?_
      simp -dsimp -implicitDefEqProofs only [go_sem, h15, h1, h16, h17, ha, hb, h8, h6, hs, wrap_succ (show i < 4611686018427387904 by omega), packI_succ 4 hlt, all_succ 4 hlt hz hf]
  · obtain rfl : i = xs.length := by omega
    rw [List.take_length] at hz hs
    rw [if_pos hz] at fin
    simp -dsimp -implicitDefEqProofs only [go_sem, h15, h1, h16, h17, h6, hs, fin]
theorem c_packed_i64 (xs : List Int) (hx : xs.length ≤ 1048576) (hr : ∀ x ∈ xs, -9223372036854775808 ≤ x ∧ x ≤ 9223372036854775807) : Meets Tryz.prog 162 [rowI xs, .v (.int .i64 8)] (fun r => r = .tup [rowB (packIC xs 8).1, .v (.int .i64 (packIC xs 8).2)]) := by
  have hw : isW 8 = true := rfl
  have fin := packIC.eq_1 xs 8
  rw [if_pos hw, show (8 : Int).toNat = 8 from rfl] at fin
  have em : IntKind.i64.wrap ((xs.length : Int) * 8) = ((8 * xs.length : Nat) : Int) := by rw [wrap_i64_of (by omega) (by omega)]; omega
  refine Meets.intro mixed (hint []) Tryz.func162 rfl (by decide) res_162 rty_162 (by kernel_rfl) ?_; 
  simp -dsimp -implicitDefEqProofs only [go_sem, em]
  repeat with_reducible refine ask.of (by omega) ?_
  refine LoopE.cnt xs.length (fun i s => s.env 15 = .rd .ent 3 1 (ra intC xs) ∧ s.env 1 = .v (.int .i64 8) ∧ s.env 16 = .v (.int .i64 xs.length) ∧ s.env 17 = .v (.int .i64 i) ∧ s.env 6 = .ref [14] ∧ s.σ [14] = some (.row 5 1 (bytesA (packI (xs.take i) 8))) ∧ (xs.take i).all (fitsB 8) = true) ⟨by simp -dsimp -implicitDefEqProofs only [go_sem, initE], by simp -dsimp -implicitDefEqProofs only [go_sem, initE], by simp -dsimp -implicitDefEqProofs only [go_sem], by simp -dsimp -implicitDefEqProofs only [go_sem] <;> simp, by simp -dsimp -implicitDefEqProofs only [go_sem], by simp -dsimp -implicitDefEqProofs only [go_sem]; rfl, by simp⟩ ?_
  rintro i ⟨e, σ⟩ hi ⟨h15, h1, h16, h17, h6, hs, hz⟩ K hK
  simp only at h15 h1 h16 h17 h6 hs
  simp -dsimp -implicitDefEqProofs only [go_sem, h15, h1, h16, h17, h6, hs]
  refine ifB'.of (fun hlt => ?_) (fun hlt => ?_)
  · have hlt : i < xs.length := by omega
    have hv := hr xs[i] (List.getElem_mem hlt)
    have hd : decide (True) = fitsB 8 xs[i] := show decide True = fitsB 8 xs[i] from rfl
    simp -dsimp -implicitDefEqProofs only [go_sem, h15, h1, h16, h17, h6, hs, intA_at hlt, hd]
    repeat with_reducible refine ask.of (by omega) ?_
    cases hf : fitsB 8 xs[i]
    · simp -dsimp -implicitDefEqProofs only [go_sem, h15, h1, h16, h17, h6, hs, hf]
      rw [fin, all_not 8 hlt hf]; rfl
    simp -dsimp -implicitDefEqProofs only [go_sem, h15, h1, h16, h17, h6, hs, hf]
    refine LoopE.cnt 8 (fun j s => s.env 15 = .rd .ent 3 1 (ra intC xs) ∧ s.env 1 = .v (.int .i64 8) ∧ s.env 16 = .v (.int .i64 xs.length) ∧ s.env 17 = .v (.int .i64 i) ∧ s.env 25 = .v (.int .i64 8) ∧ s.env 26 = .v (.int .i64 j) ∧ s.env 8 = .v (.int .i64 (xs[i] / 256 ^ j)) ∧ s.env 6 = .ref [14] ∧ s.σ [14] = some (.row 5 1 (bytesA (packI (xs.take i) 8 ++ leB j xs[i])))) ⟨by simp -dsimp -implicitDefEqProofs only [go_sem, h15, h1, h16, h17, h6, hs], by simp -dsimp -implicitDefEqProofs only [go_sem, h15, h1, h16, h17, h6, hs], by simp -dsimp -implicitDefEqProofs only [go_sem, h15, h1, h16, h17, h6, hs], by simp -dsimp -implicitDefEqProofs only [go_sem, h15, h1, h16, h17, h6, hs], by simp -dsimp -implicitDefEqProofs only [go_sem, h15, h1, h16, h17, h6, hs], by simp -dsimp -implicitDefEqProofs only [go_sem, h15, h1, h16, h17, h6, hs] <;> simp, by simp -dsimp -implicitDefEqProofs only [go_sem, h15, h1, h16, h17, h6, hs] <;> simp, by simp -dsimp -implicitDefEqProofs only [go_sem, h15, h1, h16, h17, h6, hs], by simp -dsimp -implicitDefEqProofs only [go_sem, h15, h1, h16, h17, h6, hs] <;> simp [leB]⟩ ?_
    rintro j ⟨e, σ⟩ hj ⟨h15, h1, h16, h17, ha, hb, h8, h6, hs⟩ K' hK'
    simp only at h15 h1 h16 h17 ha hb h8 h6 hs
    simp -dsimp -implicitDefEqProofs only [go_sem, h15, h1, h16, h17, ha, hb, h8, h6, hs]
    refine ifB'.of (fun hjt => ?_) (fun hjt => ?_)
    · have hjt : j < 8 := by omega
      simp -dsimp -implicitDefEqProofs only [go_sem, h15, h1, h16, h17, ha, hb, h8, h6, hs, u8_byte xs[i] (show j < 8 by omega), List.length_append, packI_length, leB_length, List.length_take, Nat.min_eq_left hi]
      repeat with_reducible refine ask.of (by omega) ?_
      refine hK' _ hjt ?_
      simp -dsimp -implicitDefEqProofs only [go_sem, h15, h1, h16, h17, ha, hb, h8, h6, hs, wrap_succ (show j < 4611686018427387904 by omega), shr_byte, List.append_assoc, leB_succ]
    · obtain rfl : j = 8 := by omega
      simp -dsimp -implicitDefEqProofs only [go_sem, h15, h1, h16, h17, ha, hb, h8, h6, hs]
      refine hK _ hlt ?_
      simp -dsimp -implicitDefEqProofs only [go_sem, h15, h1, h16, h17, ha, hb, h8, h6, hs, wrap_succ (show i < 4611686018427387904 by omega), packI_succ 8 hlt, all_succ 8 hlt hz hf]
  · obtain rfl : i = xs.length := by omega
    rw [List.take_length] at hz hs
    rw [if_pos hz] at fin
    simp -dsimp -implicitDefEqProofs only [go_sem, h15, h1, h16, h17, h6, hs, fin]
theorem c_implPackInts (xs : List Int) (n : Int) (hx : xs.length ≤ 1048576) (hr : ∀ x ∈ xs, -9223372036854775808 ≤ x ∧ x ≤ 9223372036854775807) : Meets Tryz.prog 151 [rowI xs, .v (.int .i64 n)] (fun r => r = .tup [rowB (packIC xs n).1, .v (.int .i64 (packIC xs n).2)]) := by
  refine Meets.intro mixed (hint []) Tryz.func151 rfl (by decide) res_151 rty_151 (by kernel_rfl) ?_; 
  simp -dsimp -implicitDefEqProofs only [go_sem]
  refine ifB'.of (fun h1 => ?_) (fun h1 => ?_)
  · subst h1
    simp -dsimp -implicitDefEqProofs only [go_sem]
    refine CallE.of (c_packed_i8 xs hx hr) (by rintro r rfl; (repeat' first | exact trivial | exact pure_rowB _ | exact pure_rowO _ | exact pure_rowI _ | exact pure_rowBB _ | exact pure_rowPk _ _ | exact pure_rowSn _ _ | exact pure_rowFd _ _ | exact pure_rowBBB _ | exact pure_rowCl _ _ | exact pure_rowTb _ _ _ | refine And.intro ?_ ?_)) (by simp -dsimp -implicitDefEqProofs only [go_sem]) ?_
    rintro r rfl
    simp -dsimp -implicitDefEqProofs only [go_sem]
  simp -dsimp -implicitDefEqProofs only [go_sem]
  refine ifB'.of (fun h2 => ?_) (fun h2 => ?_)
  · subst h2
    simp -dsimp -implicitDefEqProofs only [go_sem]
    refine CallE.of (c_packed_i16 xs hx hr) (by rintro r rfl; (repeat' first | exact trivial | exact pure_rowB _ | exact pure_rowO _ | exact pure_rowI _ | exact pure_rowBB _ | exact pure_rowPk _ _ | exact pure_rowSn _ _ | exact pure_rowFd _ _ | exact pure_rowBBB _ | exact pure_rowCl _ _ | exact pure_rowTb _ _ _ | refine And.intro ?_ ?_)) (by simp -dsimp -implicitDefEqProofs only [go_sem]) ?_
    rintro r rfl
    simp -dsimp -implicitDefEqProofs only [go_sem]
  simp -dsimp -implicitDefEqProofs only [go_sem]
  refine ifB'.of (fun h4 => ?_) (fun h4 => ?_)
  · subst h4
    simp -dsimp -implicitDefEqProofs only [go_sem]
    refine CallE.of (c_packed_i32 xs hx hr) (by rintro r rfl; (repeat' first | exact trivial | exact pure_rowB _ | exact pure_rowO _ | exact pure_rowI _ | exact pure_rowBB _ | exact pure_rowPk _ _ | exact pure_rowSn _ _ | exact pure_rowFd _ _ | exact pure_rowBBB _ | exact pure_rowCl _ _ | exact pure_rowTb _ _ _ | refine And.intro ?_ ?_)) (by simp -dsimp -implicitDefEqProofs only [go_sem]) ?_
    rintro r rfl
    simp -dsimp -implicitDefEqProofs only [go_sem]
  simp -dsimp -implicitDefEqProofs only [go_sem]
  refine ifB'.of (fun h8 => ?_) (fun h8 => ?_)
  · subst h8
    simp -dsimp -implicitDefEqProofs only [go_sem]
    refine CallE.of (c_packed_i64 xs hx hr) (by rintro r rfl; (repeat' first | exact trivial | exact pure_rowB _ | exact pure_rowO _ | exact pure_rowI _ | exact pure_rowBB _ | exact pure_rowPk _ _ | exact pure_rowSn _ _ | exact pure_rowFd _ _ | exact pure_rowBBB _ | exact pure_rowCl _ _ | exact pure_rowTb _ _ _ | refine And.intro ?_ ?_)) (by simp -dsimp -implicitDefEqProofs only [go_sem]) ?_
    rintro r rfl
    simp -dsimp -implicitDefEqProofs only [go_sem]
  simp -dsimp -implicitDefEqProofs only [go_sem]
  rw [packIC, if_neg (by simp [isW, h1, h2, h4, h8])]
  rfl
end Go.Ev
set_option linter.unusedSimpArgs false
set_option linter.unusedVariables false
namespace Go.Ev
open Go Go.RowKit Go.Proofs
theorem bleR (n : Nat) : Nat.ble n n = true := by simp
structure Pk where
  a : Int
  b : Int
  c : Int
  d : Int
  e : Bool
  f : List UInt8
def pkC (p : Pk) : List AV := [.v (.int .i64 p.a), .v (.int .i64 p.b), .v (.int .i64 p.c), .v (.int .i64 p.d), .v (.bool p.e), .row 5 1 (bytesA p.f)]
theorem c_szPacket (p : Pk) (left : Nat) (hb : p.f.length ≤ 140737488355328) (hl : left ≤ 1048576) : Meets Tryz.prog 140 [.agg (pkC p), .v (.int .i64 left)] (fun r => r = .v (.int .i64 (szR left p.f.length))) := by
  refine Meets.intro mixed (hint []) Tryz.func140 rfl (by decide) res_140 rty_140 (by kernel_rfl) ?_; 
  simp -dsimp -implicitDefEqProofs only [go_sem, pkC]
  repeat with_reducible refine ask.of (by omega) ?_
  refine CallE.of (c_szByteS p.f left hb hl) (by rintro r rfl; (repeat' first | exact trivial | exact pure_rowB _ | exact pure_rowO _ | exact pure_rowI _ | exact pure_rowBB _ | exact pure_rowPk _ _ | exact pure_rowSn _ _ | exact pure_rowFd _ _ | exact pure_rowBBB _ | exact pure_rowCl _ _ | exact pure_rowTb _ _ _ | refine And.intro ?_ ?_)) (by simp -dsimp -implicitDefEqProofs only [go_sem]) ?_
  rintro r rfl
  simp -dsimp -implicitDefEqProofs only [go_sem]
  refine ifB'.of (fun h => ?_) (fun h => ?_)
  · simp -dsimp -implicitDefEqProofs only [go_sem]
    by_cases h2 : p.f.length ≤ left
    · rw [szR_ok h2] at h; omega
    · rw [szR_no h2]
  · simp -dsimp -implicitDefEqProofs only [go_sem]
theorem c_toPacket (p : Pk) (hb : p.f.length ≤ 1048576) : Meets Tryz.prog 149 [.agg (pkC p)] (fun r => r = .agg (pkC p)) := by
  refine Meets.intro mixed (hint []) Tryz.func149 rfl (by decide) res_149 rty_149 (by kernel_rfl) ?_; 
  simp -dsimp -implicitDefEqProofs only [go_sem, pkC]
  repeat with_reducible refine ask.of (by omega) ?_
  refine CallE.of (c_toByteS p.f hb) (by rintro r rfl; (repeat' first | exact trivial | exact pure_rowB _ | exact pure_rowO _ | exact pure_rowI _ | exact pure_rowBB _ | exact pure_rowPk _ _ | exact pure_rowSn _ _ | exact pure_rowFd _ _ | exact pure_rowBBB _ | exact pure_rowCl _ _ | exact pure_rowTb _ _ _ | refine And.intro ?_ ?_)) (by simp -dsimp -implicitDefEqProofs only [go_sem]) ?_
  rintro r rfl
  simp -dsimp -implicitDefEqProofs only [go_sem]
  repeat with_reducible refine ask.of (by omega) ?_
  simp -dsimp -implicitDefEqProofs only [go_sem, bleR]
theorem c_eqPacket (p : Pk) (hb : p.f.length ≤ 1048576) : Meets Tryz.prog 155 [.agg (pkC p), .agg (pkC p)] (fun r => r = .v (.bool true)) := by
  refine Meets.intro mixed (hint []) Tryz.func155 rfl (by decide) res_155 rty_155 (by kernel_rfl) ?_; 
  simp -dsimp -implicitDefEqProofs only [go_sem, pkC, decide_true]
  repeat with_reducible refine ask.of (by omega) ?_
  refine CallE.of (c_eqByteS p.f (by omega)) (by rintro r rfl; (repeat' first | exact trivial | exact pure_rowB _ | exact pure_rowO _ | exact pure_rowI _ | exact pure_rowBB _ | exact pure_rowPk _ _ | exact pure_rowSn _ _ | exact pure_rowFd _ _ | exact pure_rowBBB _ | exact pure_rowCl _ _ | exact pure_rowTb _ _ _ | refine And.intro ?_ ?_)) (by simp -dsimp -implicitDefEqProofs only [go_sem, Bool.not_true]) ?_
  rintro r rfl
  simp -dsimp -implicitDefEqProofs only [go_sem, Bool.not_true]
def okPk (p : Pk) : Prop := 1 ≤ p.a ∧ p.a ≤ 4 ∧ 1 ≤ p.b ∧ p.b ≤ 1000000000 ∧ 0 ≤ p.c ∧ p.c ≤ 1000000000000 ∧ 0 ≤ p.d ∧ p.d ≤ 1000000000 ∧
  (¬ p.a = 1 ∨ p.d = 0 ∧ p.c < 1000000000000 ∧ 1 ≤ p.f.length ∧ p.f.length ≤ 100) ∧ (p.a = 1 ∨ p.e.toNat = 0 ∧ p.f.length = 0) ∧ (¬ p.a = 3 ∨ p.c = 0) ∧ (¬ p.a = 4 ∨ p.c = 0 ∧ p.d = 0)
instance (p : Pk) : Decidable (okPk p) := by unfold okPk; infer_instance
def okB (p : Pk) : Bool := decide (okPk p)
theorem leaf_f {p : Pk} (h : ¬ okPk p) : false = okB p := by rw [okB, decide_eq_false h]
theorem leaf_t {p : Pk} (h : okPk p) : true = okB p := by rw [okB, decide_eq_true h]
theorem leaf_d {p : Pk} {q : Prop} [Decidable q] (h : q ↔ okPk p) : decide q = okB p := by rw [okB, decide_eq_decide.2 h]
set_option maxHeartbeats 2000000 in
theorem c_l5valid (p : Pk) (hb : p.f.length ≤ 1048576) : Meets Tryz.prog 105 [.agg (pkC p)] (fun r => r = .v (.bool (okB p))) := by
  refine Meets.intro mixed (hint []) Tryz.func105 rfl (by decide) res_105 rty_105 (by kernel_rfl) ?_; 
  simp -dsimp -implicitDefEqProofs only [go_sem, pkC]
  cases he : p.e <;> (repeat' (first | with_reducible refine ifB'.of (fun h => ?_) (fun h => ?_) | with_reducible refine ask.of (by omega) ?_ | (with_reducible refine leaf_f ?_; unfold okPk; simp only [he, Bool.toNat_false, Bool.toNat_true, true_and, false_and, or_false, or_true, and_true]; omega) | (with_reducible refine leaf_t ?_; unfold okPk; simp only [he, Bool.toNat_false, Bool.toNat_true, true_and, false_and, or_false, or_true, and_true]; omega) | (with_reducible refine leaf_d ?_; unfold okPk; simp only [he, Bool.toNat_false, Bool.toNat_true, true_and, false_and, or_false, or_true, and_true]; omega) | simp -dsimp -implicitDefEqProofs only [go_sem, he, decide_true]))
set_option maxHeartbeats 2000000 in
theorem c_packetOk (p : Pk) (hb : p.f.length ≤ 1048576) : Meets Tryz.prog 116 [.agg (pkC p)] (fun r => r = .v (.bool (okB p))) := by
  refine Meets.intro mixed (hint []) Tryz.func116 rfl (by decide) res_116 rty_116 (by kernel_rfl) ?_; 
  simp -dsimp -implicitDefEqProofs only [go_sem, pkC]
  cases he : p.e <;> (repeat' (first | with_reducible refine ifB'.of (fun h => ?_) (fun h => ?_) | with_reducible refine ask.of (by omega) ?_ | (with_reducible refine leaf_f ?_; unfold okPk; simp only [he, Bool.toNat_false, Bool.toNat_true, true_and, false_and, or_false, or_true, and_true]; omega) | (with_reducible refine leaf_t ?_; unfold okPk; simp only [he, Bool.toNat_false, Bool.toNat_true, true_and, false_and, or_false, or_true, and_true]; omega) | (with_reducible refine leaf_d ?_; unfold okPk; simp only [he, Bool.toNat_false, Bool.toNat_true, true_and, false_and, or_false, or_true, and_true]; omega) | simp -dsimp -implicitDefEqProofs only [go_sem, he, decide_true]))
end Go.Ev
set_option linter.unusedSimpArgs false
set_option linter.unusedVariables false
namespace Go.Ev
open Go Go.RowKit Go.Proofs
theorem wrap_8i {i : Nat} (h : i ≤ 8) : IntKind.i64.wrap (8 * (i : Int)) = ((8 * i : Nat) : Int) := by rw [wrap_i64_of (by omega) (by omega)]; omega
theorem shr_8i (x : Int) {i : Nat} (h : i < 8) : x.fdiv (2 ^ min (8 * i) 64) = x / 256 ^ i := by
  rw [Nat.min_eq_left (by omega), show (2 : Int) ^ (8 * i) = 256 ^ i by rw [Int.pow_mul]; rfl, Int.fdiv_eq_ediv_of_nonneg _ (Int.le_of_lt (Int.pow_pos (by decide)))]
theorem c_number (x : Int) (w : Nat) (hw : w ≤ 8) : Meets Tryz.prog 136 [.v (.int .i64 x), .v (.int .i64 w)] (fun r => r = rowB (leB w x)) := by
  refine Meets.intro mixed (hint []) Tryz.func136 rfl (by decide) res_136 rty_136 (by kernel_rfl) ?_; 
  simp -dsimp -implicitDefEqProofs only [go_sem]
  refine ask.of (by omega) ?_
  refine LoopE.cnt w (fun i s => s.env 0 = .v (.int .i64 x) ∧ s.env 5 = .ref [8] ∧ s.env 10 = .v (.int .i64 w) ∧ s.env 11 = .v (.int .i64 i) ∧ s.σ [8] = some (.row 5 1 (bytesA (leB i x ++ List.replicate (w - i) 0)))) ⟨by simp -dsimp -implicitDefEqProofs only [go_sem, initE], by simp -dsimp -implicitDefEqProofs only [go_sem], by simp -dsimp -implicitDefEqProofs only [go_sem] <;> simp, by simp -dsimp -implicitDefEqProofs only [go_sem] <;> simp, by simp -dsimp -implicitDefEqProofs only [go_sem] <;> simp [leB]⟩ ?_
  rintro i ⟨e, σ⟩ hi ⟨h0, h5, h10, h11, hs⟩ K hK
  simp only at h0 h5 h10 h11 hs
  simp -dsimp -implicitDefEqProofs only [go_sem, h0, h5, h10, h11, hs]
  refine ifB'.of (fun hlt => ?_) (fun hlt => ?_)
  · have hlt : i < w := by omega
    have hl : (leB i x ++ List.replicate (w - i) 0).length = w := by simp [leB_length]; omega
    simp -dsimp -implicitDefEqProofs only [go_sem, h0, h5, h10, h11, hs, wrap_8i (show i ≤ 8 by omega), shr_8i x (show i < 8 by omega), u8_byte x (show i < 8 by omega), hl]
    repeat (first | with_reducible refine ask.of (by omega) ?_ | simp -dsimp -implicitDefEqProofs only [go_sem, h0, h5, h10, h11, hs, wrap_8i (show i ≤ 8 by omega), shr_8i x (show i < 8 by omega), u8_byte x (show i < 8 by omega), hl, bytesA_at (show i < (leB i x ++ List.replicate (w - i) (0 : UInt8)).length by omega)])
    refine hK _ hlt ?_
    simp -dsimp -implicitDefEqProofs only [go_sem, h0, h5, h10, h11, hs, wrap_succ (show i < 4611686018427387904 by omega)]
    refine congrArg (fun l => some (OB.row 5 1 (bytesA l))) ?_
    have e : w - i = (w - (i + 1)) + 1 := by omega
    rw [e, List.replicate_succ, List.set_append_right _ _ (by rw [leB_length]; exact Nat.le_refl _), leB_length, Nat.sub_self, List.set_cons_zero, ← leB_succ, List.append_assoc]
    rfl
  · have : i = w := by omega
    subst this
    simp -dsimp -implicitDefEqProofs only [go_sem, h0, h5, h10, h11, hs]
    simp
theorem c_growB (n : Nat) (hn : n ≤ 1099511627776) : Meets Tryz.prog 166 [.v (.slice none 0 0), .v (.int .i64 n)] (fun r => r = rowB []) := by
  refine Meets.intro mixed (hint [(25, 1)]) Tryz.func166 rfl (by decide) res_166 rty_166 (by kernel_rfl) ?_; 
  simp -dsimp -implicitDefEqProofs only [go_sem, initE]
  with_reducible refine ifB'.no (by omega) ?_
  have e : IntKind.i64.wrap ((n : Int) - IntKind.i64.wrap 0) = n := by rw [show IntKind.i64.wrap 0 = 0 from rfl, wrap_i64_of (by omega) (by omega)]; omega
  simp -dsimp -implicitDefEqProofs only [go_sem, e, show IntKind.i64.wrap (0 - 0) = 0 from rfl, Int.sub_zero, wrap_nat (show n ≤ 9223372036854775807 by omega)]
  refine ifB'.of (fun h => ?_) (fun h => ?_)
  · simp -dsimp -implicitDefEqProofs only [go_sem, e]
    repeat (first | with_reducible refine ask.of (by omega) ?_ | simp -dsimp -implicitDefEqProofs only [go_sem, e, Int.toNat_zero, List.take_zero, List.drop_nil])
  · simp -dsimp -implicitDefEqProofs only [go_sem, e]
    rfl
theorem flat_take {xs : List (List UInt8)} {i : Nat} (h : i < xs.length) : (xs.take i).flatten ++ xs[i] = (xs.take (i + 1)).flatten := by
  rw [List.take_succ_eq_append_getElem h, List.flatten_append, List.flatten_singleton]
theorem flat_len (xs : List (List UInt8)) : xs.flatten.length = wBB xs := by
  induction xs with
  | nil => rfl
  | cons x xs ih => rw [List.flatten_cons, List.length_append, ih]; simp [wBB, szL]
theorem c_concatB (xs : List (List UInt8)) (hx : xs.length + wBB xs ≤ 1099511627776) : Meets Tryz.prog 156 [rowBB xs] (fun r => r = rowB xs.flatten) := by
  refine Meets.intro mixed (hint []) Tryz.func156 rfl (by decide) res_156 rty_156 (by kernel_rfl) ?_; 
  simp -dsimp -implicitDefEqProofs only [go_sem]
  refine LoopE.cnt xs.length (fun i s => s.env 0 = .rd .ent 48 1 (ra byC xs) ∧ s.env 3 = .v (.int .i64 (wBB (xs.take i) : Nat)) ∧ s.env 9 = .rd .ent 48 1 (ra byC xs) ∧ s.env 10 = .v (.int .i64 xs.length) ∧ s.env 11 = .v (.int .i64 i)) ⟨by simp -dsimp -implicitDefEqProofs only [go_sem, initE], by simp -dsimp -implicitDefEqProofs only [go_sem] <;> rfl, by simp -dsimp -implicitDefEqProofs only [go_sem, initE], by simp -dsimp -implicitDefEqProofs only [go_sem, initE], by simp -dsimp -implicitDefEqProofs only [go_sem]⟩ ?_
  rintro i ⟨e, σ⟩ hi ⟨h0, h3, h9, h10, h11⟩ K hK
  simp only at h0 h3 h9 h10 h11
  simp -dsimp -implicitDefEqProofs only [go_sem, h0, h3, h9, h10, h11]
  refine ifB'.of (fun hlt => ?_) (fun hlt => ?_)
  · have hlt : i < xs.length := by omega
    have hs : wBB (xs.take (i + 1)) = wBB (xs.take i) + xs[i].length := szL_take_succ List.length hlt
    have hsl : wBB (xs.take (i + 1)) ≤ wBB xs := szL_take_le List.length xs (i + 1)
    have e1 : IntKind.i64.wrap ((wBB (xs.take i) : Int) + xs[i].length) = (wBB (xs.take (i + 1)) : Nat) := by rw [wrap_i64_of (by omega) (by omega), hs]; omega
    simp -dsimp -implicitDefEqProofs only [go_sem, h0, h3, h9, h10, h11, byA_at hlt, e1]
    repeat (first | with_reducible refine ask.of (by omega) ?_ | simp -dsimp -implicitDefEqProofs only [go_sem, h0, h3, h9, h10, h11, byA_at hlt, e1])
    with_reducible refine ifB'.no (by omega) ?_
    simp -dsimp -implicitDefEqProofs only [go_sem, h0, h3, h9, h10, h11]
    refine hK _ hlt ?_
    simp -dsimp -implicitDefEqProofs only [go_sem, h0, h3, h9, h10, h11, wrap_succ (show i < 4611686018427387904 by omega)]
  · have : i = xs.length := by omega
    subst this
    have hw : wBB xs ≤ 1099511627776 := by omega
    rw [List.take_length] at h3
    simp -dsimp -implicitDefEqProofs only [go_sem, h0, h3, h9, h10, h11]
    refine CallE.lend (c_growB (wBB xs) hw) (by simp -dsimp -implicitDefEqProofs only [go_sem, h0, h3, h9, h10, h11]) ?_
    rintro r rfl
    simp -dsimp -implicitDefEqProofs only [go_sem, h0, h3, h9, h10, h11]
    refine LoopE.cnt xs.length (fun i s => s.env 6 = .ref [24] ∧ s.env 25 = .rd .ent 48 1 (ra byC xs) ∧ s.env 26 = .v (.int .i64 xs.length) ∧ s.env 27 = .v (.int .i64 i) ∧ s.σ [24] = some (.row 5 1 (bytesA (xs.take i).flatten))) ⟨by simp -dsimp -implicitDefEqProofs only [go_sem, h0, h3, h9, h10, h11], by simp -dsimp -implicitDefEqProofs only [go_sem, h0, h3, h9, h10, h11], by simp -dsimp -implicitDefEqProofs only [go_sem, h0, h3, h9, h10, h11], by simp -dsimp -implicitDefEqProofs only [go_sem, h0, h3, h9, h10, h11], by simp -dsimp -implicitDefEqProofs only [go_sem, h0, h3, h9, h10, h11] <;> rfl⟩ ?_
    rintro i ⟨e, σ⟩ hi ⟨h6, h25, h26, h27, hs⟩ K' hK'
    simp only at h6 h25 h26 h27 hs
    simp -dsimp -implicitDefEqProofs only [go_sem, h6, h25, h26, h27, hs]
    refine ifB'.of (fun hlt => ?_) (fun hlt => ?_)
    · have hlt : i < xs.length := by omega
      have hsl : wBB (xs.take (i + 1)) ≤ wBB xs := szL_take_le List.length xs (i + 1)
      have hfl : (xs.take i).flatten.length + xs[i].length = wBB (xs.take (i + 1)) := by rw [← flat_len, ← flat_take hlt, List.length_append]
      simp -dsimp -implicitDefEqProofs only [go_sem, h6, h25, h26, h27, hs, byA_at hlt]
      repeat (first | with_reducible refine ask.of (by omega) ?_ | simp -dsimp -implicitDefEqProofs only [go_sem, h6, h25, h26, h27, hs, byA_at hlt])
      refine hK' _ hlt ?_
      simp -dsimp -implicitDefEqProofs only [go_sem, h6, h25, h26, h27, hs, wrap_succ (show i < 4611686018427387904 by omega), flat_take hlt]
    · have : i = xs.length := by omega
      subst this
      simp -dsimp -implicitDefEqProofs only [go_sem, h6, h25, h26, h27, hs, List.take_length]
def sumB (xs : List (List UInt8)) : List UInt8 := xs.flatten ++ leB 4 (crcB xs.flatten).toNat
theorem wrap_u32i (c : UInt32) : IntKind.i64.wrap (c.toNat : Int) = (c.toNat : Int) := by have := c.toNat_lt; rw [wrap_i64_of (by omega) (by omega)]
theorem c_summed (xs : List (List UInt8)) (hx : xs.length + wBB xs ≤ 1048576) : Meets Tryz.prog 135 [rowBB xs] (fun r => r = rowB (sumB xs)) := by
  refine Meets.intro mixed (hint []) Tryz.func135 rfl (by decide) res_135 rty_135 (by kernel_rfl) ?_; 
  simp -dsimp -implicitDefEqProofs only [go_sem]
  refine CallE.of (c_concatB xs (by omega)) (by rintro r rfl; (repeat' first | exact trivial | exact pure_rowB _ | exact pure_rowO _ | exact pure_rowI _ | exact pure_rowBB _ | exact pure_rowPk _ _ | exact pure_rowSn _ _ | exact pure_rowFd _ _ | exact pure_rowBBB _ | exact pure_rowCl _ _ | exact pure_rowTb _ _ _ | refine And.intro ?_ ?_)) (by simp -dsimp -implicitDefEqProofs only [go_sem]) ?_
  rintro r rfl
  simp -dsimp -implicitDefEqProofs only [go_sem]
  have hl : xs.flatten.length ≤ 1048576 := by rw [flat_len]; omega
  refine CallE.of (c_implCrc32 xs.flatten hl) (by rintro r rfl; (repeat' first | exact trivial | exact pure_rowB _ | exact pure_rowO _ | exact pure_rowI _ | exact pure_rowBB _ | exact pure_rowPk _ _ | exact pure_rowSn _ _ | exact pure_rowFd _ _ | exact pure_rowBBB _ | exact pure_rowCl _ _ | exact pure_rowTb _ _ _ | refine And.intro ?_ ?_)) (by simp -dsimp -implicitDefEqProofs only [go_sem, wrap_u32i]) ?_
  rintro r rfl
  simp -dsimp -implicitDefEqProofs only [go_sem, wrap_u32i]
  refine CallE.of (c_number ((crcB xs.flatten).toNat) 4 (by omega)) (by rintro r rfl; (repeat' first | exact trivial | exact pure_rowB _ | exact pure_rowO _ | exact pure_rowI _ | exact pure_rowBB _ | exact pure_rowPk _ _ | exact pure_rowSn _ _ | exact pure_rowFd _ _ | exact pure_rowBBB _ | exact pure_rowCl _ _ | exact pure_rowTb _ _ _ | refine And.intro ?_ ?_)) (by simp -dsimp -implicitDefEqProofs only [go_sem, show ((4 : Nat) : Int) = 4 from rfl, wrap_u32i]) ?_
  rintro r rfl
  simp -dsimp -implicitDefEqProofs only [go_sem, show ((4 : Nat) : Int) = 4 from rfl, wrap_u32i]
  repeat (first | with_reducible refine ask.of (by simp only [leB_length]; omega) ?_ | simp -dsimp -implicitDefEqProofs only [go_sem, leB_length])
  rfl
end Go.Ev
set_option linter.unusedSimpArgs false
set_option linter.unusedVariables false
namespace Go.Ev
open Go Go.RowKit Go.Proofs
def lastB : Bool → UInt8
  | true => 1
  | false => 0
theorem lastB_t : lastB true = 1 := rfl
theorem lastB_f : lastB false = 0 := rfl
theorem bytesA_lit0 : [[AV.v (.int .u8 0)]] = bytesA [0] := rfl
theorem bytesA_lit1 : [[AV.v (.int .u8 1)]] = bytesA [1] := rfl
def pkParts (p : Pk) : List (List UInt8) := [[67, UInt8.ofNat p.a.toNat], leB 4 p.b, leB 8 p.c, leB 4 p.d, [lastB p.e], leB 2 p.f.length, p.f]
def encP (p : Pk) : List UInt8 := if okB p = true then sumB (pkParts p) else []
theorem pkParts_w (p : Pk) : wBB (pkParts p) = 21 + p.f.length := by simp [pkParts, wBB, szL, leB_length]; omega
theorem sumB_length (xs : List (List UInt8)) : (sumB xs).length = wBB xs + 4 := by rw [sumB, List.length_append, flat_len, leB_length]
theorem encP_le (p : Pk) : (encP p).length ≤ 25 + p.f.length := by
  unfold encP
  split
  · rw [sumB_length, pkParts_w]; omega
  · simp
theorem kindB {p : Pk} (h : okB p = true) : IntKind.u8.wrap p.a = ((UInt8.ofNat p.a.toNat).toNat : Int) := by
  have h : okPk p := of_decide_eq_true h
  have h1 := h.1
  have h2 := h.2.1
  obtain ⟨n, hn⟩ := Int.eq_ofNat_of_zero_le (show 0 ≤ p.a by omega)
  rw [hn]; exact u8_of_nat n
theorem bytes67 (b : UInt8) : [[AV.v (.int .u8 67)], [AV.v (.int .u8 (b.toNat : Int))]] = bytesA [67, b] := rfl
theorem c_specEncodePacket (p : Pk) (hb : p.f.length ≤ 1048576) : Meets Tryz.prog 92 [.agg (pkC p)] (fun r => r = rowB (encP p)) := by
  refine Meets.intro mixed (hint []) Tryz.func92 rfl (by decide) res_92 rty_92 (by kernel_rfl) ?_; 
  simp -dsimp -implicitDefEqProofs only [go_sem, pkC]
  repeat (first | with_reducible refine ask.of (by omega) ?_ | simp -dsimp -implicitDefEqProofs only [go_sem, bleR])
  refine CallE.of (c_l5valid p hb) (by rintro r rfl; (repeat' first | exact trivial | exact pure_rowB _ | exact pure_rowO _ | exact pure_rowI _ | exact pure_rowBB _ | exact pure_rowPk _ _ | exact pure_rowSn _ _ | exact pure_rowFd _ _ | exact pure_rowBBB _ | exact pure_rowCl _ _ | exact pure_rowTb _ _ _ | refine And.intro ?_ ?_)) (by simp -dsimp -implicitDefEqProofs only [go_sem, pkC]) ?_
  rintro r rfl
  simp -dsimp -implicitDefEqProofs only [go_sem, pkC]
  cases h : okB p
  · simp -dsimp -implicitDefEqProofs only [go_sem, h, Bool.not_false]
    rw [encP, h]; rfl
  have hk := kindB h
  have hl : 1 ≤ 100 := by decide
  have hf : p.f.length ≤ 100 := by
    have h : okPk p := of_decide_eq_true h
    unfold okPk at h
    omega
  have e : encP p = sumB (pkParts p) := by rw [encP, h]; rfl
  rw [e]
  simp -dsimp -implicitDefEqProofs only [go_sem, h, Bool.not_true]
  cases he : p.e
  all_goals
    simp -dsimp -implicitDefEqProofs only [go_sem, he, hk]
    repeat (first | with_reducible refine ask.of (by first | omega | decide) ?_ | simp -dsimp -implicitDefEqProofs only [go_sem, bleR, he, hk, bytes67])
    refine CallE.of (c_l1little p.b 4 (by omega)) (by rintro r rfl; (repeat' first | exact trivial | exact pure_rowB _ | exact pure_rowO _ | exact pure_rowI _ | exact pure_rowBB _ | exact pure_rowPk _ _ | exact pure_rowSn _ _ | exact pure_rowFd _ _ | exact pure_rowBBB _ | exact pure_rowCl _ _ | exact pure_rowTb _ _ _ | refine And.intro ?_ ?_)) (by simp -dsimp -implicitDefEqProofs only [go_sem, show ((4 : Nat) : Int) = 4 from rfl]) ?_
    rintro r rfl
    simp -dsimp -implicitDefEqProofs only [go_sem, show ((4 : Nat) : Int) = 4 from rfl]
    repeat (first | with_reducible refine ask.of (by first | omega | (simp only [List.length_append, List.length_cons, List.length_nil, leB_length]; omega)) ?_ | simp -dsimp -implicitDefEqProofs only [go_sem, bleR, leB_length, bytesA_lit1])
    refine CallE.of (c_l1little p.c 8 (by omega)) (by rintro r rfl; (repeat' first | exact trivial | exact pure_rowB _ | exact pure_rowO _ | exact pure_rowI _ | exact pure_rowBB _ | exact pure_rowPk _ _ | exact pure_rowSn _ _ | exact pure_rowFd _ _ | exact pure_rowBBB _ | exact pure_rowCl _ _ | exact pure_rowTb _ _ _ | refine And.intro ?_ ?_)) (by simp -dsimp -implicitDefEqProofs only [go_sem, show ((8 : Nat) : Int) = 8 from rfl]) ?_
    rintro r rfl
    simp -dsimp -implicitDefEqProofs only [go_sem, show ((8 : Nat) : Int) = 8 from rfl]
    repeat (first | with_reducible refine ask.of (by first | omega | (simp only [List.length_append, List.length_cons, List.length_nil, leB_length]; omega)) ?_ | simp -dsimp -implicitDefEqProofs only [go_sem, bleR, leB_length, bytesA_lit1])
    refine CallE.of (c_l1little p.d 4 (by omega)) (by rintro r rfl; (repeat' first | exact trivial | exact pure_rowB _ | exact pure_rowO _ | exact pure_rowI _ | exact pure_rowBB _ | exact pure_rowPk _ _ | exact pure_rowSn _ _ | exact pure_rowFd _ _ | exact pure_rowBBB _ | exact pure_rowCl _ _ | exact pure_rowTb _ _ _ | refine And.intro ?_ ?_)) (by simp -dsimp -implicitDefEqProofs only [go_sem, show ((4 : Nat) : Int) = 4 from rfl]) ?_
    rintro r rfl
    simp -dsimp -implicitDefEqProofs only [go_sem, show ((4 : Nat) : Int) = 4 from rfl]
    repeat (first | with_reducible refine ask.of (by first | omega | (simp only [List.length_append, List.length_cons, List.length_nil, leB_length]; omega)) ?_ | simp -dsimp -implicitDefEqProofs only [go_sem, bleR, leB_length, bytesA_lit1])
    refine CallE.of (c_l1little p.f.length 2 (by omega)) (by rintro r rfl; (repeat' first | exact trivial | exact pure_rowB _ | exact pure_rowO _ | exact pure_rowI _ | exact pure_rowBB _ | exact pure_rowPk _ _ | exact pure_rowSn _ _ | exact pure_rowFd _ _ | exact pure_rowBBB _ | exact pure_rowCl _ _ | exact pure_rowTb _ _ _ | refine And.intro ?_ ?_)) (by simp -dsimp -implicitDefEqProofs only [go_sem, show ((2 : Nat) : Int) = 2 from rfl]) ?_
    rintro r rfl
    simp -dsimp -implicitDefEqProofs only [go_sem, show ((2 : Nat) : Int) = 2 from rfl]
    repeat (first | with_reducible refine ask.of (by first | omega | (simp only [List.length_append, List.length_cons, List.length_nil, leB_length]; omega)) ?_ | simp -dsimp -implicitDefEqProofs only [go_sem, bleR, leB_length, bytesA_lit1])
    refine CallE.of (c_specCrc32 (pkParts p).flatten (by rw [flat_len, pkParts_w]; omega)) (by rintro r rfl; (repeat' first | exact trivial | exact pure_rowB _ | exact pure_rowO _ | exact pure_rowI _ | exact pure_rowBB _ | exact pure_rowPk _ _ | exact pure_rowSn _ _ | exact pure_rowFd _ _ | exact pure_rowBBB _ | exact pure_rowCl _ _ | exact pure_rowTb _ _ _ | refine And.intro ?_ ?_)) (by simp -dsimp -implicitDefEqProofs only [go_sem, pkParts, lastB_t, lastB_f, he, bytesA_lit1, List.flatten_cons, List.flatten_nil, List.append_nil, List.append_assoc, List.cons_append, List.nil_append]) ?_
    rintro r rfl
    simp -dsimp -implicitDefEqProofs only [go_sem, pkParts, lastB_t, lastB_f, he, bytesA_lit1, List.flatten_cons, List.flatten_nil, List.append_nil, List.append_assoc, List.cons_append, List.nil_append]
    simp -dsimp -implicitDefEqProofs only [go_sem, wrap_u32i]
    refine CallE.of (c_l1little (crcB (pkParts p).flatten).toNat 4 (by omega)) (by rintro r rfl; (repeat' first | exact trivial | exact pure_rowB _ | exact pure_rowO _ | exact pure_rowI _ | exact pure_rowBB _ | exact pure_rowPk _ _ | exact pure_rowSn _ _ | exact pure_rowFd _ _ | exact pure_rowBBB _ | exact pure_rowCl _ _ | exact pure_rowTb _ _ _ | refine And.intro ?_ ?_)) (by simp -dsimp -implicitDefEqProofs only [go_sem, show ((4 : Nat) : Int) = 4 from rfl, pkParts, lastB_t, lastB_f, he, bytesA_lit1, List.flatten_cons, List.flatten_nil, List.append_nil, List.append_assoc, List.cons_append, List.nil_append]) ?_
    rintro r rfl
    simp -dsimp -implicitDefEqProofs only [go_sem, show ((4 : Nat) : Int) = 4 from rfl, pkParts, lastB_t, lastB_f, he, bytesA_lit1, List.flatten_cons, List.flatten_nil, List.append_nil, List.append_assoc, List.cons_append, List.nil_append]
    repeat (first | with_reducible refine ask.of (by first | omega | (simp only [List.length_append, List.length_cons, List.length_nil, leB_length]; omega)) ?_ | simp -dsimp -implicitDefEqProofs only [go_sem, bleR, leB_length, bytesA_lit1])
    simp [sumB, pkParts, lastB_t, lastB_f, he]
theorem c_summed7 (p : Pk) (hf : p.f.length ≤ 100) : Meets Tryz.prog 135 [.row 48 1 [[.row 5 1 (bytesA [67, UInt8.ofNat p.a.toNat])], [.row 5 1 (bytesA (leB 4 p.b))], [.row 5 1 (bytesA (leB 8 p.c))], [.row 5 1 (bytesA (leB 4 p.d))], [.row 5 1 (bytesA [lastB p.e])], [.row 5 1 (bytesA (leB 2 p.f.length))], [.rd .ent 5 1 (bytesA p.f)]]] (fun r => r = rowB (sumB (pkParts p))) :=
  Meets.look (bs := [rowBB (pkParts p)]) ⟨Look.row ⟨⟨Look.refl _, trivial⟩, ⟨Look.refl _, trivial⟩, ⟨Look.refl _, trivial⟩, ⟨Look.refl _, trivial⟩, ⟨Look.refl _, trivial⟩, ⟨Look.refl _, trivial⟩, ⟨Look.rd _ _ _, trivial⟩, trivial⟩, trivial⟩ (c_summed (pkParts p) (by rw [pkParts_w]; simp [pkParts]; omega))
theorem c_implEncodePacket (p : Pk) (hb : p.f.length ≤ 1048576) : Meets Tryz.prog 97 [.agg (pkC p)] (fun r => r = rowB (encP p)) := by
  refine Meets.introO mixed (hint []) (fun k => (sel (k == 6) [999,0,1,2,4,5,7,8,10,11,13,15,16,17,19,20,1003,1014,6,9,12,18,3,14,21,22,23] [])) Tryz.func97 rfl (by decide) res_97 rty_97 (by kernel_rfl) ?_; 
  simp -dsimp -implicitDefEqProofs only [go_sem, pkC]
  repeat (first | with_reducible refine ask.of (by omega) ?_ | simp -dsimp -implicitDefEqProofs only [go_sem, bleR])
  refine CallE.of (c_packetOk p hb) (by rintro r rfl; (repeat' first | exact trivial | exact pure_rowB _ | exact pure_rowO _ | exact pure_rowI _ | exact pure_rowBB _ | exact pure_rowPk _ _ | exact pure_rowSn _ _ | exact pure_rowFd _ _ | exact pure_rowBBB _ | exact pure_rowCl _ _ | exact pure_rowTb _ _ _ | refine And.intro ?_ ?_)) (by simp -dsimp -implicitDefEqProofs only [go_sem, pkC]) ?_
  rintro r rfl
  simp -dsimp -implicitDefEqProofs only [go_sem, pkC]
  cases h : okB p
  · simp -dsimp -implicitDefEqProofs only [go_sem, h, Bool.not_false]
    rw [encP, h]; rfl
  have hk := kindB h
  have hf : p.f.length ≤ 100 := by
    have h : okPk p := of_decide_eq_true h
    unfold okPk at h
    omega
  have e : encP p = sumB (pkParts p) := by rw [encP, h]; rfl
  rw [e]
  simp -dsimp -implicitDefEqProofs only [go_sem, h, Bool.not_true]
  cases he : p.e
  all_goals
    simp -dsimp -implicitDefEqProofs only [go_sem, he, hk]
    repeat (first | with_reducible refine ask.of (by first | omega | decide) ?_ | simp -dsimp -implicitDefEqProofs only [go_sem, bleR, he, hk, bytes67, bytesA_lit1])
    refine CallE.of (c_number p.b 4 (by omega)) (by rintro r rfl; (repeat' first | exact trivial | exact pure_rowB _ | exact pure_rowO _ | exact pure_rowI _ | exact pure_rowBB _ | exact pure_rowPk _ _ | exact pure_rowSn _ _ | exact pure_rowFd _ _ | exact pure_rowBBB _ | exact pure_rowCl _ _ | exact pure_rowTb _ _ _ | refine And.intro ?_ ?_)) (by simp -dsimp -implicitDefEqProofs only [go_sem, show ((4 : Nat) : Int) = 4 from rfl]) ?_
    rintro r rfl
    simp -dsimp -implicitDefEqProofs only [go_sem, show ((4 : Nat) : Int) = 4 from rfl]
    repeat (first | with_reducible refine ask.of (by first | omega | decide) ?_ | simp -dsimp -implicitDefEqProofs only [go_sem, bleR, he, hk, bytes67, bytesA_lit1])
    refine CallE.of (c_number p.c 8 (by omega)) (by rintro r rfl; (repeat' first | exact trivial | exact pure_rowB _ | exact pure_rowO _ | exact pure_rowI _ | exact pure_rowBB _ | exact pure_rowPk _ _ | exact pure_rowSn _ _ | exact pure_rowFd _ _ | exact pure_rowBBB _ | exact pure_rowCl _ _ | exact pure_rowTb _ _ _ | refine And.intro ?_ ?_)) (by simp -dsimp -implicitDefEqProofs only [go_sem, show ((8 : Nat) : Int) = 8 from rfl]) ?_
    rintro r rfl
    simp -dsimp -implicitDefEqProofs only [go_sem, show ((8 : Nat) : Int) = 8 from rfl]
    repeat (first | with_reducible refine ask.of (by first | omega | decide) ?_ | simp -dsimp -implicitDefEqProofs only [go_sem, bleR, he, hk, bytes67, bytesA_lit1])
    refine CallE.of (c_number p.d 4 (by omega)) (by rintro r rfl; (repeat' first | exact trivial | exact pure_rowB _ | exact pure_rowO _ | exact pure_rowI _ | exact pure_rowBB _ | exact pure_rowPk _ _ | exact pure_rowSn _ _ | exact pure_rowFd _ _ | exact pure_rowBBB _ | exact pure_rowCl _ _ | exact pure_rowTb _ _ _ | refine And.intro ?_ ?_)) (by simp -dsimp -implicitDefEqProofs only [go_sem, show ((4 : Nat) : Int) = 4 from rfl]) ?_
    rintro r rfl
    simp -dsimp -implicitDefEqProofs only [go_sem, show ((4 : Nat) : Int) = 4 from rfl]
    repeat (first | with_reducible refine ask.of (by first | omega | decide) ?_ | simp -dsimp -implicitDefEqProofs only [go_sem, bleR, he, hk, bytes67, bytesA_lit1])
    refine CallE.of (c_number p.f.length 2 (by omega)) (by rintro r rfl; (repeat' first | exact trivial | exact pure_rowB _ | exact pure_rowO _ | exact pure_rowI _ | exact pure_rowBB _ | exact pure_rowPk _ _ | exact pure_rowSn _ _ | exact pure_rowFd _ _ | exact pure_rowBBB _ | exact pure_rowCl _ _ | exact pure_rowTb _ _ _ | refine And.intro ?_ ?_)) (by simp -dsimp -implicitDefEqProofs only [go_sem, show ((2 : Nat) : Int) = 2 from rfl]) ?_
    rintro r rfl
    simp -dsimp -implicitDefEqProofs only [go_sem, show ((2 : Nat) : Int) = 2 from rfl]
    repeat (first | with_reducible refine ask.of (by first | omega | decide) ?_ | simp -dsimp -implicitDefEqProofs only [go_sem, bleR, he, hk, bytes67, bytesA_lit1])
    refine CallE.of (c_summed7 p hf) (by rintro r rfl; (repeat' first | exact trivial | exact pure_rowB _ | exact pure_rowO _ | exact pure_rowI _ | exact pure_rowBB _ | exact pure_rowPk _ _ | exact pure_rowSn _ _ | exact pure_rowFd _ _ | exact pure_rowBBB _ | exact pure_rowCl _ _ | exact pure_rowTb _ _ _ | refine And.intro ?_ ?_)) (by simp -dsimp -implicitDefEqProofs only [go_sem, he, lastB_t, lastB_f, bytesA_lit1, bytesA_lit0]) ?_
    rintro r rfl
    simp -dsimp -implicitDefEqProofs only [go_sem, he, lastB_t, lastB_f, bytesA_lit1, bytesA_lit0]
end Go.Ev
set_option linter.unusedSimpArgs false
set_option linter.unusedVariables false
namespace Go.Ev
open Go Go.RowKit Go.Proofs
def padN (n : Nat) : Nat := (8 - n % 8) % 8
def pad8 (l : List UInt8) : List UInt8 := l ++ List.replicate (padN l.length) 0
def joinA (xs : List (List UInt8)) : List UInt8 := xs.foldl (fun acc p => pad8 (acc ++ p)) []
theorem pad8_length (l : List UInt8) : (pad8 l).length = l.length + padN l.length := by simp [pad8]
theorem padN_lt (n : Nat) : padN n < 8 := Nat.mod_lt _ (by decide)
theorem joinA_take {xs : List (List UInt8)} {i : Nat} (h : i < xs.length) : joinA (xs.take (i + 1)) = pad8 (joinA (xs.take i) ++ xs[i]) := by
  rw [List.take_succ_eq_append_getElem h, joinA, List.foldl_append]; rfl
theorem joinA_le (xs : List (List UInt8)) : ∀ i, i ≤ xs.length → (joinA (xs.take i)).length ≤ szL List.length (xs.take i) + 7 * i
  | 0, _ => by simp [joinA]
  | i + 1, h => by
    have h1 := joinA_le xs i (by omega)
    have h2 := padN_lt ((joinA (xs.take i) ++ xs[i]).length)
    rw [joinA_take (by omega), pad8_length, szL_take_succ _ (by omega)]
    simp only [List.length_append] at h2 ⊢
    omega
theorem tmod8 (n : Nat) : (n : Int).tmod 8 = ((n % 8 : Nat) : Int) := rfl
theorem pad_more {n j : Nat} (h : j ≤ padN n) : (n + j) % 8 = 0 ↔ j = padN n := by unfold padN at *; omega
theorem rep_snoc {α : Type} (l : List α) (j : Nat) (z : α) : (l ++ List.replicate j z) ++ [z] = l ++ List.replicate (j + 1) z := by
  rw [List.append_assoc, ← List.replicate_succ']
theorem c_specJoinAligned (xs : List (List UInt8)) (hx : xs.length + wBB xs ≤ 1048576) : Meets Tryz.prog 147 [rowBB xs] (fun r => r = rowB (joinA xs)) := by
  refine Meets.intro mixed (hint [(2, 148), (3, 148)]) Tryz.func147 rfl (by decide) res_147 rty_147 (by kernel_rfl) ?_; 
  simp -dsimp -implicitDefEqProofs only [go_sem]
  repeat with_reducible refine ask.of (by omega) ?_
  refine LoopE.cnt xs.length (fun i s => s.env 0 = .rd .ent 48 1 (ra byC xs) ∧ s.env 0 = .rd .ent 48 1 (ra byC xs) ∧ s.env 4 = .v (.int .i64 i) ∧ s.env 3 = .ref [3] ∧ s.σ [3] = some (.row 5 1 (bytesA (joinA (xs.take i))))) ⟨by simp -dsimp -implicitDefEqProofs only [go_sem, initE], by simp -dsimp -implicitDefEqProofs only [go_sem, initE], by simp -dsimp -implicitDefEqProofs only [go_sem], by simp -dsimp -implicitDefEqProofs only [go_sem], by simp -dsimp -implicitDefEqProofs only [go_sem, List.take_zero] <;> rfl⟩ ?_
  rintro i ⟨e, σ⟩ hi ⟨h0, hl, h4, h3, hs⟩ K hK
  simp only at h0 hl h4 h3 hs
  simp -dsimp -implicitDefEqProofs only [go_sem, h0, hl, h4, h3, hs]
  refine ifB'.of (fun hlt => ?_) (fun hlt => ?_)
  · have hlt : i < xs.length := by omega
    have hj := joinA_le xs i hi
    have hw := szL_at_le List.length hlt
    unfold wBB at hx
    simp -dsimp -implicitDefEqProofs only [go_sem, h0, hl, h4, h3, hs, byA_at hlt, bytesA_append]
    repeat with_reducible refine ask.of (by omega) ?_
    have hp := padN_lt (joinA (xs.take i) ++ xs[i]).length
    have hlen : (joinA (xs.take i) ++ xs[i]).length ≤ 16777216 := by simp only [List.length_append]; omega
    generalize hb : joinA (xs.take i) ++ xs[i] = b at hp hlen
    refine LoopE.cnt (padN b.length) (fun j s => s.env 0 = .rd .ent 48 1 (ra byC xs) ∧ s.env 0 = .rd .ent 48 1 (ra byC xs) ∧ s.env 4 = .v (.int .i64 i) ∧ s.env 3 = .ref [3] ∧ s.σ [3] = some (.row 5 1 (bytesA (b ++ List.replicate j 0)))) ⟨by simp -dsimp -implicitDefEqProofs only [go_sem, h0, hl, h4, h3, hs, hb], by simp -dsimp -implicitDefEqProofs only [go_sem, h0, hl, h4, h3, hs, hb], by simp -dsimp -implicitDefEqProofs only [go_sem, h0, hl, h4, h3, hs, hb], by simp -dsimp -implicitDefEqProofs only [go_sem, h0, hl, h4, h3, hs, hb], by simp -dsimp -implicitDefEqProofs only [go_sem, h0, hl, h4, h3, hs, hb] <;> simp⟩ ?_
    rintro j ⟨e, σ⟩ hj ⟨h0, hl, h4, h3, hs⟩ K' hK'
    simp only at h0 hl h4 h3 hs
    have hlj : (b ++ List.replicate j (0 : UInt8)).length = b.length + j := by simp
    simp -dsimp -implicitDefEqProofs only [go_sem, h0, hl, h4, h3, hs, hlj, tmod8]
    refine ifB'.of (fun hne => ?_) (fun hne => ?_)
    · have := (pad_more hj)
      simp -dsimp -implicitDefEqProofs only [go_sem, h0, hl, h4, h3, hs, Bool.not_true]
      have : j = padN b.length := this.1 (by omega)
      subst this
      refine hK _ hlt ?_
      simp -dsimp -implicitDefEqProofs only [go_sem, h0, hl, h4, h3, hs, wrap_succ (show i < 4611686018427387904 by omega), joinA_take hlt, hb]
      rfl
    · have := (pad_more hj)
      have hjl : j < padN b.length := by omega
      simp -dsimp -implicitDefEqProofs only [go_sem, h0, hl, h4, h3, hs, Bool.not_false, hlj]
      repeat with_reducible refine ask.of (by omega) ?_
      refine hK' _ hjl ?_
      simp -dsimp -implicitDefEqProofs only [go_sem, h0, hl, h4, h3, hs, rep_snoc]
  · have : i = xs.length := by omega
    subst this
    simp -dsimp -implicitDefEqProofs only [go_sem, h0, hl, h4, h3, hs, List.take_length]
theorem c_implJoinAligned (xs : List (List UInt8)) (hx : xs.length + wBB xs ≤ 1048576) : Meets Tryz.prog 164 [rowBB xs] (fun r => r = rowB (joinA xs)) := by
  refine Meets.intro mixed (hint [(2, 148)]) Tryz.func164 rfl (by decide) res_164 rty_164 (by kernel_rfl) ?_; 
  simp -dsimp -implicitDefEqProofs only [go_sem]
  repeat with_reducible refine ask.of (by omega) ?_
  refine LoopE.cnt xs.length (fun i s => s.env 7 = .rd .ent 48 1 (ra byC xs) ∧ s.env 8 = .v (.int .i64 xs.length) ∧ s.env 9 = .v (.int .i64 i) ∧ s.env 3 = .ref [6] ∧ s.σ [6] = some (.row 5 1 (bytesA (joinA (xs.take i))))) ⟨by simp -dsimp -implicitDefEqProofs only [go_sem, initE], by simp -dsimp -implicitDefEqProofs only [go_sem, initE], by simp -dsimp -implicitDefEqProofs only [go_sem], by simp -dsimp -implicitDefEqProofs only [go_sem], by simp -dsimp -implicitDefEqProofs only [go_sem, List.take_zero] <;> rfl⟩ ?_
  rintro i ⟨e, σ⟩ hi ⟨h0, hl, h4, h3, hs⟩ K hK
  simp only at h0 hl h4 h3 hs
  simp -dsimp -implicitDefEqProofs only [go_sem, h0, hl, h4, h3, hs]
  refine ifB'.of (fun hlt => ?_) (fun hlt => ?_)
  · have hlt : i < xs.length := by omega
    have hj := joinA_le xs i hi
    have hw := szL_at_le List.length hlt
    unfold wBB at hx
    simp -dsimp -implicitDefEqProofs only [go_sem, h0, hl, h4, h3, hs, byA_at hlt, bytesA_append]
    repeat with_reducible refine ask.of (by omega) ?_
    have hp := padN_lt (joinA (xs.take i) ++ xs[i]).length
    have hlen : (joinA (xs.take i) ++ xs[i]).length ≤ 16777216 := by simp only [List.length_append]; omega
    generalize hb : joinA (xs.take i) ++ xs[i] = b at hp hlen
    refine LoopE.cnt (padN b.length) (fun j s => s.env 7 = .rd .ent 48 1 (ra byC xs) ∧ s.env 8 = .v (.int .i64 xs.length) ∧ s.env 9 = .v (.int .i64 i) ∧ s.env 3 = .ref [6] ∧ s.σ [6] = some (.row 5 1 (bytesA (b ++ List.replicate j 0)))) ⟨by simp -dsimp -implicitDefEqProofs only [go_sem, h0, hl, h4, h3, hs, hb], by simp -dsimp -implicitDefEqProofs only [go_sem, h0, hl, h4, h3, hs, hb], by simp -dsimp -implicitDefEqProofs only [go_sem, h0, hl, h4, h3, hs, hb], by simp -dsimp -implicitDefEqProofs only [go_sem, h0, hl, h4, h3, hs, hb], by simp -dsimp -implicitDefEqProofs only [go_sem, h0, hl, h4, h3, hs, hb] <;> simp⟩ ?_
    rintro j ⟨e, σ⟩ hj ⟨h0, hl, h4, h3, hs⟩ K' hK'
    simp only at h0 hl h4 h3 hs
    have hlj : (b ++ List.replicate j (0 : UInt8)).length = b.length + j := by simp
    simp -dsimp -implicitDefEqProofs only [go_sem, h0, hl, h4, h3, hs, hlj, tmod8]
    refine ifB'.of (fun hne => ?_) (fun hne => ?_)
    · have := (pad_more hj)
      simp -dsimp -implicitDefEqProofs only [go_sem, h0, hl, h4, h3, hs, Bool.not_true]
      have : j = padN b.length := this.1 (by omega)
      subst this
      refine hK _ hlt ?_
      simp -dsimp -implicitDefEqProofs only [go_sem, h0, hl, h4, h3, hs, wrap_succ (show i < 4611686018427387904 by omega), joinA_take hlt, hb]
      rfl
    · have := (pad_more hj)
      have hjl : j < padN b.length := by omega
      simp -dsimp -implicitDefEqProofs only [go_sem, h0, hl, h4, h3, hs, Bool.not_false, hlj]
      repeat with_reducible refine ask.of (by omega) ?_
      refine hK' _ hjl ?_
      simp -dsimp -implicitDefEqProofs only [go_sem, h0, hl, h4, h3, hs, rep_snoc]
  · have : i = xs.length := by omega
    subst this
    simp -dsimp -implicitDefEqProofs only [go_sem, h0, hl, h4, h3, hs, List.take_length]
end Go.Ev
