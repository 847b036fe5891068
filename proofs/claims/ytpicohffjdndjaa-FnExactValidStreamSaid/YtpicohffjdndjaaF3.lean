/- Contracts: rows of fields that are valid. -/
import Derived.Test.YtpicohffjdndjaaF2
set_option linter.unusedSimpArgs false
set_option linter.unusedVariables false
namespace Go.Ev
open Go Go.RowKit Go.Proofs
def nms (xs : List Fd) : List (List UInt8) := xs.map Fd.f
theorem nms_length (xs : List Fd) : (nms xs).length = xs.length := by simp [nms]
theorem nms_at {xs : List Fd} {i : Nat} (h : i < (nms xs).length) : (nms xs)[i] = (xs[i]'(by simpa [nms] using h)).f := by simp [nms]
theorem nms_take (xs : List Fd) (i : Nat) : nms (xs.take i) = (nms xs).take i := by simp [nms, List.map_take]
theorem nms_snoc {xs : List Fd} {i : Nat} (h : i < xs.length) : nms (xs.take i) ++ [xs[i].f] = nms (xs.take (i + 1)) := by
  rw [List.take_succ_eq_append_getElem h, nms, nms, List.map_append]; rfl
theorem nms_nodup {xs : List Fd} {i : Nat} (h : i < xs.length) : (nms (xs.take (i + 1))).Nodup ↔ (nms (xs.take i)).Nodup ∧ xs[i].f ∉ nms (xs.take i) := by
  have := nodup_take_succ (xs := nms xs) (i := i) (by rwa [nms_length])
  rw [nms_at] at this
  rw [nms_take, nms_take]; exact this
def okF (xs : List Fd) : Prop := (1 ≤ xs.length ∧ xs.length ≤ 12) ∧ (∀ x ∈ xs, fdOk x) ∧ (nms xs).Nodup
instance (xs : List Fd) : Decidable (okF xs) := by unfold okF; infer_instance
theorem okF_f {xs : List Fd} (h : ¬ okF xs) : false = decide (okF xs) := (decide_eq_false h).symm
theorem okF_dup {xs : List Fd} {i : Nat} (h : i < xs.length) (hm : xs[i].f ∈ nms (xs.take i)) : ¬ okF xs := fun h' =>
  ((nms_nodup h).1 (by rw [nms_take]; exact nodup_take h'.2.2 _)).2 hm
theorem c_sValidFields (xs : List Fd) (hx : xs.length ≤ 1048576) (hb : ∀ b ∈ xs, b.f.length ≤ 1048576) : Meets Try.prog 21 [rowFd 96 xs] (fun r => r = .v (.bool (decide (okF xs)))) := by
  refine Meets.intro mixed (hint []) Try.func21 rfl (by decide) res_21 rty_21 (by kernel_rfl) ?_; 
  simp -dsimp -implicitDefEqProofs only [go_sem, Nat.reduceBEq, Nat.reduceAdd, Nat.reduceLeDiff, Nat.reduceSub, Int.reduceEq, rowFd]
  refine ifB'.of (fun h => ?_) (fun h => ?_)
  · simp -dsimp -implicitDefEqProofs only [go_sem, Nat.reduceBEq, Nat.reduceAdd, Nat.reduceLeDiff, Nat.reduceSub, Int.reduceEq]
    exact okF_f (fun h' => by have := h'.1; omega)
  simp -dsimp -implicitDefEqProofs only [go_sem, Nat.reduceBEq, Nat.reduceAdd, Nat.reduceLeDiff, Nat.reduceSub, Int.reduceEq]
  refine ifB'.of (fun h2 => ?_) (fun h2 => ?_)
  · simp -dsimp -implicitDefEqProofs only [go_sem, Nat.reduceBEq, Nat.reduceAdd, Nat.reduceLeDiff, Nat.reduceSub, Int.reduceEq]
    exact okF_f (fun h' => by have := h'.1; omega)
  simp -dsimp -implicitDefEqProofs only [go_sem, Nat.reduceBEq, Nat.reduceAdd, Nat.reduceLeDiff, Nat.reduceSub, Int.reduceEq]
  refine LoopE.cnt xs.length (fun i s => s.env 0 = .rd .ent 96 3 (ra fdC xs) ∧ s.env 3 = .v (.int .i64 i) ∧ (∀ x ∈ xs.take i, fdOk x) ∧ (nms (xs.take i)).Nodup) ⟨by simp -dsimp -implicitDefEqProofs only [go_sem, Nat.reduceBEq, Nat.reduceAdd, Nat.reduceLeDiff, Nat.reduceSub, Int.reduceEq, initE, rowFd], by simp -dsimp -implicitDefEqProofs only [go_sem, Nat.reduceBEq, Nat.reduceAdd, Nat.reduceLeDiff, Nat.reduceSub, Int.reduceEq], by simp, by simp [nms]⟩ ?_
  rintro i ⟨e, σ⟩ hi ⟨h0, h3, ha, hnd⟩ K hK
  simp only at h0 h3
  simp -dsimp -implicitDefEqProofs only [go_sem, Nat.reduceBEq, Nat.reduceAdd, Nat.reduceLeDiff, Nat.reduceSub, Int.reduceEq, h0, h3]
  refine ifB'.of (fun hlt => ?_) (fun hlt => ?_)
  · have hlt : i < xs.length := by omega
    simp -dsimp -implicitDefEqProofs only [go_sem, Nat.reduceBEq, Nat.reduceAdd, Nat.reduceLeDiff, Nat.reduceSub, Int.reduceEq, h0, h3, Fd_at hlt, fdC]
    repeat (first | with_reducible refine ask.of (by omega) ?_ | simp -dsimp -implicitDefEqProofs only [go_sem, Nat.reduceBEq, Nat.reduceAdd, Nat.reduceLeDiff, Nat.reduceSub, Int.reduceEq, h0, h3, Fd_at hlt, fdC, bleF])
    refine CallE.of (c_l2fieldOK xs[i] (hb _ (List.getElem_mem _))) (by rintro r rfl; (repeat' first | exact trivial | exact pure_rowB _ | exact pure_rowO _ | exact pure_rowI _ | exact pure_rowBB _ | exact pure_rowPk _ _ | exact pure_rowSn _ _ | exact pure_rowFd _ _ | exact pure_rowBBB _ | exact pure_rowCl _ _ | refine And.intro ?_ ?_)) (by simp -dsimp -implicitDefEqProofs only [go_sem, Nat.reduceBEq, Nat.reduceAdd, Nat.reduceLeDiff, Nat.reduceSub, Int.reduceEq, h0, h3, fdC]) ?_
    rintro r rfl
    simp -dsimp -implicitDefEqProofs only [go_sem, Nat.reduceBEq, Nat.reduceAdd, Nat.reduceLeDiff, Nat.reduceSub, Int.reduceEq, h0, h3, fdC]
    refine ifB'.of (fun hq => ?_) (fun hq => ?_)
    · simp -dsimp -implicitDefEqProofs only [go_sem, Nat.reduceBEq, Nat.reduceAdd, Nat.reduceLeDiff, Nat.reduceSub, Int.reduceEq, h0, h3]
      refine LoopE.cnt i (fun k s => s.env 0 = .rd .ent 96 3 (ra fdC xs) ∧ s.env 3 = .v (.int .i64 i) ∧ s.env 4 = .v (.int .i64 k) ∧ xs[i].f ∉ nms (xs.take k)) ⟨by simp -dsimp -implicitDefEqProofs only [go_sem, Nat.reduceBEq, Nat.reduceAdd, Nat.reduceLeDiff, Nat.reduceSub, Int.reduceEq, h0, h3], by simp -dsimp -implicitDefEqProofs only [go_sem, Nat.reduceBEq, Nat.reduceAdd, Nat.reduceLeDiff, Nat.reduceSub, Int.reduceEq, h0, h3], by simp -dsimp -implicitDefEqProofs only [go_sem, Nat.reduceBEq, Nat.reduceAdd, Nat.reduceLeDiff, Nat.reduceSub, Int.reduceEq, h0, h3], by simp [nms]⟩ ?_
      rintro k ⟨e, σ⟩ hki ⟨h0, h3, h4, hn⟩ K' hK'
      simp only at h0 h3 h4
      simp -dsimp -implicitDefEqProofs only [go_sem, Nat.reduceBEq, Nat.reduceAdd, Nat.reduceLeDiff, Nat.reduceSub, Int.reduceEq, h0, h3, h4]
      refine ifB'.of (fun hkl => ?_) (fun hkl => ?_)
      · have hkl : k < i := by omega
        have hkx : k < xs.length := by omega
        simp -dsimp -implicitDefEqProofs only [go_sem, Nat.reduceBEq, Nat.reduceAdd, Nat.reduceLeDiff, Nat.reduceSub, Int.reduceEq, h0, h3, h4, Fd_at hlt, Fd_at hkx, fdC]
        repeat (first | with_reducible refine ask.of (by omega) ?_ | simp -dsimp -implicitDefEqProofs only [go_sem, Nat.reduceBEq, Nat.reduceAdd, Nat.reduceLeDiff, Nat.reduceSub, Int.reduceEq, h0, h3, h4, Fd_at hlt, Fd_at hkx, fdC, bleF])
        refine CallE.of (c_l1same xs[k].f xs[i].f (by have := hb _ (List.getElem_mem hkx); omega) (by have := hb _ (List.getElem_mem hlt); omega)) (by rintro r rfl; (repeat' first | exact trivial | exact pure_rowB _ | exact pure_rowO _ | exact pure_rowI _ | exact pure_rowBB _ | exact pure_rowPk _ _ | exact pure_rowSn _ _ | exact pure_rowFd _ _ | exact pure_rowBBB _ | exact pure_rowCl _ _ | refine And.intro ?_ ?_)) (by simp -dsimp -implicitDefEqProofs only [go_sem, Nat.reduceBEq, Nat.reduceAdd, Nat.reduceLeDiff, Nat.reduceSub, Int.reduceEq, h0, h3, h4]) ?_
        rintro r rfl
        simp -dsimp -implicitDefEqProofs only [go_sem, Nat.reduceBEq, Nat.reduceAdd, Nat.reduceLeDiff, Nat.reduceSub, Int.reduceEq, h0, h3, h4]
        refine ifB'.of (fun hs => ?_) (fun hs => ?_)
        · simp -dsimp -implicitDefEqProofs only [go_sem, Nat.reduceBEq, Nat.reduceAdd, Nat.reduceLeDiff, Nat.reduceSub, Int.reduceEq, h0, h3, h4]
          refine okF_f (okF_dup hlt ?_)
          rw [← hs]
          exact List.mem_map_of_mem (List.mem_take_iff_getElem.2 ⟨k, by omega, rfl⟩)
        · simp -dsimp -implicitDefEqProofs only [go_sem, Nat.reduceBEq, Nat.reduceAdd, Nat.reduceLeDiff, Nat.reduceSub, Int.reduceEq, h0, h3, h4]
          refine hK' _ hkl ?_
          simp -dsimp -implicitDefEqProofs only [go_sem, Nat.reduceBEq, Nat.reduceAdd, Nat.reduceLeDiff, Nat.reduceSub, Int.reduceEq, h0, h3, h4, wrap_succ (show k < 4611686018427387904 by omega)]
          rw [← nms_snoc hkx]
          simp only [List.mem_append, List.mem_singleton, not_or]
          exact ⟨hn, fun h => hs h.symm⟩
      · have : k = i := by omega
        subst this
        simp -dsimp -implicitDefEqProofs only [go_sem, Nat.reduceBEq, Nat.reduceAdd, Nat.reduceLeDiff, Nat.reduceSub, Int.reduceEq, h0, h3, h4]
        refine hK _ hlt ?_
        simp -dsimp -implicitDefEqProofs only [go_sem, Nat.reduceBEq, Nat.reduceAdd, Nat.reduceLeDiff, Nat.reduceSub, Int.reduceEq, h0, h3, h4, wrap_succ (show k < 4611686018427387904 by omega)]
        exact ⟨all_take_succ hlt ha hq, (nms_nodup hlt).2 ⟨hnd, hn⟩⟩
    · simp -dsimp -implicitDefEqProofs only [go_sem, Nat.reduceBEq, Nat.reduceAdd, Nat.reduceLeDiff, Nat.reduceSub, Int.reduceEq, h0, h3]
      exact okF_f (fun h' => hq (h'.2.1 _ (List.getElem_mem _)))
  · have : i = xs.length := by omega
    subst this
    simp -dsimp -implicitDefEqProofs only [go_sem, Nat.reduceBEq, Nat.reduceAdd, Nat.reduceLeDiff, Nat.reduceSub, Int.reduceEq, h0, h3]
    rw [List.take_length] at ha hnd
    exact (decide_eq_true (show okF xs from ⟨⟨by omega, by omega⟩, ha, hnd⟩)).symm
theorem c_iValidFields (xs : List Fd) (hx : xs.length ≤ 1048576) (hb : ∀ b ∈ xs, b.f.length ≤ 1048576) : Meets Try.prog 23 [rowFd 96 xs] (fun r => r = .v (.bool (decide (okF xs)))) := by
  refine Meets.intro mixed (hint []) Try.func23 rfl (by decide) res_23 rty_23 (by kernel_rfl) ?_; 
  simp -dsimp -implicitDefEqProofs only [go_sem, Nat.reduceBEq, Nat.reduceAdd, Nat.reduceLeDiff, Nat.reduceSub, Int.reduceEq, rowFd]
  refine ifB'.of (fun h => ?_) (fun h => ?_)
  · simp -dsimp -implicitDefEqProofs only [go_sem, Nat.reduceBEq, Nat.reduceAdd, Nat.reduceLeDiff, Nat.reduceSub, Int.reduceEq]
    exact okF_f (fun h' => by have := h'.1; omega)
  simp -dsimp -implicitDefEqProofs only [go_sem, Nat.reduceBEq, Nat.reduceAdd, Nat.reduceLeDiff, Nat.reduceSub, Int.reduceEq]
  refine ifB'.of (fun h2 => ?_) (fun h2 => ?_)
  · simp -dsimp -implicitDefEqProofs only [go_sem, Nat.reduceBEq, Nat.reduceAdd, Nat.reduceLeDiff, Nat.reduceSub, Int.reduceEq]
    exact okF_f (fun h' => by have := h'.1; omega)
  simp -dsimp -implicitDefEqProofs only [go_sem, Nat.reduceBEq, Nat.reduceAdd, Nat.reduceLeDiff, Nat.reduceSub, Int.reduceEq]
  refine LoopE.cnt xs.length (fun i s => s.env 17 = .rd .ent 96 3 (ra fdC xs) ∧ s.env 18 = .v (.int .i64 xs.length) ∧ s.env 19 = .v (.int .i64 i) ∧ s.env 3 = .ref [16] ∧ s.σ [16] = some (.mp .string 3 (mpS (ixP (nms (xs.take i))))) ∧ (∀ x ∈ xs.take i, fdOk x) ∧ (nms (xs.take i)).Nodup) ⟨by simp -dsimp -implicitDefEqProofs only [go_sem, Nat.reduceBEq, Nat.reduceAdd, Nat.reduceLeDiff, Nat.reduceSub, Int.reduceEq, initE, rowFd], by simp -dsimp -implicitDefEqProofs only [go_sem, Nat.reduceBEq, Nat.reduceAdd, Nat.reduceLeDiff, Nat.reduceSub, Int.reduceEq, initE, rowFd], by simp -dsimp -implicitDefEqProofs only [go_sem, Nat.reduceBEq, Nat.reduceAdd, Nat.reduceLeDiff, Nat.reduceSub, Int.reduceEq], by simp -dsimp -implicitDefEqProofs only [go_sem, Nat.reduceBEq, Nat.reduceAdd, Nat.reduceLeDiff, Nat.reduceSub, Int.reduceEq], by simp -dsimp -implicitDefEqProofs only [go_sem, Nat.reduceBEq, Nat.reduceAdd, Nat.reduceLeDiff, Nat.reduceSub, Int.reduceEq] <;> rfl, by simp, by simp [nms]⟩ ?_
  rintro i ⟨e, σ⟩ hi ⟨h17, h18, h19, h3, hs, ha, hnd⟩ K hK
  simp only at h17 h18 h19 h3 hs
  simp -dsimp -implicitDefEqProofs only [go_sem, Nat.reduceBEq, Nat.reduceAdd, Nat.reduceLeDiff, Nat.reduceSub, Int.reduceEq, h17, h18, h19, h3, hs]
  refine ifB'.of (fun hlt => ?_) (fun hlt => ?_)
  · have hlt : i < xs.length := by omega
    simp -dsimp -implicitDefEqProofs only [go_sem, Nat.reduceBEq, Nat.reduceAdd, Nat.reduceLeDiff, Nat.reduceSub, Int.reduceEq, h17, h18, h19, h3, hs, Fd_at hlt, fdC]
    repeat (first | with_reducible refine ask.of (by omega) ?_ | simp -dsimp -implicitDefEqProofs only [go_sem, Nat.reduceBEq, Nat.reduceAdd, Nat.reduceLeDiff, Nat.reduceSub, Int.reduceEq, h17, h18, h19, h3, hs, Fd_at hlt, fdC, bleF, ixP_has])
    refine ifB'.of (fun hq => ?_) (fun hq => ?_)
    · simp -dsimp -implicitDefEqProofs only [go_sem, Nat.reduceBEq, Nat.reduceAdd, Nat.reduceLeDiff, Nat.reduceSub, Int.reduceEq, h17, h18, h19, h3, hs]
      exact okF_f (okF_dup hlt hq)
    · simp -dsimp -implicitDefEqProofs only [go_sem, Nat.reduceBEq, Nat.reduceAdd, Nat.reduceLeDiff, Nat.reduceSub, Int.reduceEq, h17, h18, h19, h3, hs]
      repeat (first | with_reducible refine ask.of (by omega) ?_ | simp -dsimp -implicitDefEqProofs only [go_sem, Nat.reduceBEq, Nat.reduceAdd, Nat.reduceLeDiff, Nat.reduceSub, Int.reduceEq, h17, h18, h19, h3, hs, Fd_at hlt, fdC, bleF, ixP_has])
      refine CallE.of (c_fieldOk xs[i] (hb _ (List.getElem_mem _))) (by rintro r rfl; (repeat' first | exact trivial | exact pure_rowB _ | exact pure_rowO _ | exact pure_rowI _ | exact pure_rowBB _ | exact pure_rowPk _ _ | exact pure_rowSn _ _ | exact pure_rowFd _ _ | exact pure_rowBBB _ | exact pure_rowCl _ _ | refine And.intro ?_ ?_)) (by simp -dsimp -implicitDefEqProofs only [go_sem, Nat.reduceBEq, Nat.reduceAdd, Nat.reduceLeDiff, Nat.reduceSub, Int.reduceEq, h17, h18, h19, h3, hs, fdC]) ?_
      rintro r rfl
      simp -dsimp -implicitDefEqProofs only [go_sem, Nat.reduceBEq, Nat.reduceAdd, Nat.reduceLeDiff, Nat.reduceSub, Int.reduceEq, h17, h18, h19, h3, hs, fdC]
      refine ifB'.of (fun hq2 => ?_) (fun hq2 => ?_)
      · simp -dsimp -implicitDefEqProofs only [go_sem, Nat.reduceBEq, Nat.reduceAdd, Nat.reduceLeDiff, Nat.reduceSub, Int.reduceEq, h17, h18, h19, h3, hs]
        have hp := ixP_put hq
        rw [nms_length, show (xs.take i).length = i by simp; omega, nms_snoc hlt] at hp
        repeat (first | with_reducible refine ask.of (by omega) ?_ | simp -dsimp -implicitDefEqProofs only [go_sem, Nat.reduceBEq, Nat.reduceAdd, Nat.reduceLeDiff, Nat.reduceSub, Int.reduceEq, h17, h18, h19, h3, hs, Fd_at hlt, fdC, bleF, hp])
        refine hK _ hlt ?_
        simp -dsimp -implicitDefEqProofs only [go_sem, Nat.reduceBEq, Nat.reduceAdd, Nat.reduceLeDiff, Nat.reduceSub, Int.reduceEq, h17, h18, h19, h3, hs, wrap_succ (show i < 4611686018427387904 by omega)]
        exact ⟨all_take_succ hlt ha hq2, (nms_nodup hlt).2 ⟨hnd, hq⟩⟩
      · simp -dsimp -implicitDefEqProofs only [go_sem, Nat.reduceBEq, Nat.reduceAdd, Nat.reduceLeDiff, Nat.reduceSub, Int.reduceEq, h17, h18, h19, h3, hs]
        exact okF_f (fun h' => hq2 (h'.2.1 _ (List.getElem_mem _)))
  · have : i = xs.length := by omega
    subst this
    simp -dsimp -implicitDefEqProofs only [go_sem, Nat.reduceBEq, Nat.reduceAdd, Nat.reduceLeDiff, Nat.reduceSub, Int.reduceEq, h17, h18, h19, h3, hs]
    rw [List.take_length] at ha hnd
    exact (decide_eq_true (show okF xs from ⟨⟨by omega, by omega⟩, ha, hnd⟩)).symm
end Go.Ev
