/- Contracts: messages are encoded. -/
import Derived.Test.YtpicohffjdndjaaM1
set_option linter.unusedSimpArgs false
set_option linter.unusedVariables false
namespace Go.Ev
open Go Go.RowKit Go.Proofs
theorem ms_f {x : Ms} (h : ¬ msOk x) : false = decide (msOk x) := by rw [decide_eq_false h]
theorem ms_t {x : Ms} (h : msOk x) : true = decide (msOk x) := by rw [decide_eq_true h]
theorem ms_d {x : Ms} {q : Prop} [Decidable q] (h : q ↔ msOk x) : decide q = decide (msOk x) := by rw [decide_eq_decide.2 h]
set_option maxHeartbeats 2000000 in
theorem c_messageOk (x : Ms) (hx : x.bs.length ≤ 1048576) : Meets Try.prog 123 [.agg (msC x)] (fun r => r = .v (.bool (decide (msOk x)))) := by
  refine Meets.intro mixed (hint []) Try.func123 rfl (by decide) res_123 rty_123 (by kernel_rfl) ?_; 
  simp -dsimp -implicitDefEqProofs only [go_sem, Nat.reduceBEq, Nat.reduceAdd, Nat.reduceLeDiff, Nat.reduceSub, Int.reduceEq, msC]
  repeat' (first | with_reducible refine ifB'.of (fun h => ?_) (fun h => ?_) | with_reducible refine ask.of (by omega) ?_ | ((with_reducible refine ms_f ?_); unfold msOk; omega) | ((with_reducible refine ms_t ?_); unfold msOk; omega) | ((with_reducible refine ms_d ?_); unfold msOk; omega) | simp -dsimp -implicitDefEqProofs only [go_sem, Nat.reduceBEq, Nat.reduceAdd, Nat.reduceLeDiff, Nat.reduceSub, Int.reduceEq, decide_true, Bool.not_true, Bool.not_false])
theorem bytes4 (a b : UInt8) : [[AV.v (.int .u8 67)], [AV.v (.int .u8 77)], [AV.v (.int .u8 (a.toNat : Int))], [AV.v (.int .u8 (b.toNat : Int))]] = bytesA [67, 77, a, b] := rfl
theorem bytes2 (a : UInt8) : [[AV.v (.int .u8 (a.toNat : Int))], [AV.v (.int .u8 0)]] = bytesA [a, 0] := rfl
theorem bytes8 (a b c d e : UInt8) : [[AV.v (.int .u8 67)], [AV.v (.int .u8 77)], [AV.v (.int .u8 (a.toNat : Int))], [AV.v (.int .u8 (b.toNat : Int))], [AV.v (.int .u8 (c.toNat : Int))], [AV.v (.int .u8 (d.toNat : Int))], [AV.v (.int .u8 (e.toNat : Int))], [AV.v (.int .u8 0)]] = bytesA [67, 77, a, b, c, d, e, 0] := rfl
theorem c_specJoinAlignedL (l : List UInt8) (bs : List (List UInt8)) (h : (l :: bs).length + wBB (l :: bs) ≤ 1048576) : Meets Try.prog 157 [.row 37 1 ([.row 5 1 (bytesA l)] :: ra byE bs)] (fun r => r = rowB (joinA (l :: bs))) :=
  Meets.look (bs := [rowBB (l :: bs)]) ⟨Look.row ⟨⟨Look.refl _, trivial⟩, look_byE bs⟩, trivial⟩ (c_specJoinAligned (l :: bs) h)
theorem c_implJoinAlignedL (l : List UInt8) (bs : List (List UInt8)) (h : (l :: bs).length + wBB (l :: bs) ≤ 1048576) : Meets Try.prog 50 [.row 37 1 ([.row 5 1 (bytesA l)] :: ra byE bs)] (fun r => r = rowB (joinA (l :: bs))) :=
  Meets.look (bs := [rowBB (l :: bs)]) ⟨Look.row ⟨⟨Look.refl _, trivial⟩, look_byE bs⟩, trivial⟩ (c_implJoinAligned (l :: bs) h)
theorem msBody_eq (x : Ms) : msBody x = headB x ++ joinA (lensB x.bs :: x.bs) ++ leB 4 (crcB (headB x ++ joinA (lensB x.bs :: x.bs))).toNat := by simp [msBody, sumB]
set_option maxHeartbeats 1000000 in
theorem c_l4encode (x : Ms) (h : msOk x) (hw : wBB x.bs ≤ 20000) : Meets Try.prog 122 [.agg (msC x)] (fun r => r = rowB (msBody x)) := by
  refine Meets.intro mixed (hint [(3, 137)]) Try.func122 rfl (by decide) res_122 rty_122 (by kernel_rfl) ?_; 
  have hl := h.2.2.2.2.2.2.1
  simp -dsimp -implicitDefEqProofs only [go_sem, Nat.reduceBEq, Nat.reduceAdd, Nat.reduceLeDiff, Nat.reduceSub, Int.reduceEq, msC]
  refine LoopE.cnt x.bs.length (fun i s => s.env 1 = .ptr [1] 0 0 0 ∧ s.env 3 = .ref [3] ∧ s.env 4 = .v (.int .i64 i) ∧ s.σ [1] = some (.box 72 [.v (.int .i64 x.k), .v (.int .i64 x.f), .v (.int .i64 x.n), .rd .ent 37 1 (ra byC x.bs)]) ∧ s.σ [3] = some (.row 5 1 (bytesA (lensB (x.bs.take i))))) ⟨by simp -dsimp -implicitDefEqProofs only [go_sem, Nat.reduceBEq, Nat.reduceAdd, Nat.reduceLeDiff, Nat.reduceSub, Int.reduceEq], by simp -dsimp -implicitDefEqProofs only [go_sem, Nat.reduceBEq, Nat.reduceAdd, Nat.reduceLeDiff, Nat.reduceSub, Int.reduceEq], by simp -dsimp -implicitDefEqProofs only [go_sem, Nat.reduceBEq, Nat.reduceAdd, Nat.reduceLeDiff, Nat.reduceSub, Int.reduceEq], by simp -dsimp -implicitDefEqProofs only [go_sem, Nat.reduceBEq, Nat.reduceAdd, Nat.reduceLeDiff, Nat.reduceSub, Int.reduceEq], by simp -dsimp -implicitDefEqProofs only [go_sem, Nat.reduceBEq, Nat.reduceAdd, Nat.reduceLeDiff, Nat.reduceSub, Int.reduceEq] <;> rfl⟩ ?_
  rintro i ⟨e, σ⟩ hi ⟨h1, h3, h4, hs1, hs3⟩ K hK
  simp only at h1 h3 h4 hs1 hs3
  simp -dsimp -implicitDefEqProofs only [go_sem, Nat.reduceBEq, Nat.reduceAdd, Nat.reduceLeDiff, Nat.reduceSub, Int.reduceEq, h1, h3, h4, hs1, hs3]
  repeat (first | with_reducible refine ask.of (by first | omega | decide) ?_ | simp -dsimp -implicitDefEqProofs only [go_sem, Nat.reduceBEq, Nat.reduceAdd, Nat.reduceLeDiff, Nat.reduceSub, Int.reduceEq, h1, h3, h4, hs1, hs3, bleM])
  refine ifB'.of (fun hlt => ?_) (fun hlt => ?_)
  · have hlt : i < x.bs.length := by omega
    have hll := lensB_length (x.bs.take i)
    have htl : (x.bs.take i).length = i := by simp; omega
    simp -dsimp -implicitDefEqProofs only [go_sem, Nat.reduceBEq, Nat.reduceAdd, Nat.reduceLeDiff, Nat.reduceSub, Int.reduceEq, h1, h3, h4, hs1, hs3, byA_at hlt]
    repeat (first | with_reducible refine ask.of (by first | omega | decide) ?_ | simp -dsimp -implicitDefEqProofs only [go_sem, Nat.reduceBEq, Nat.reduceAdd, Nat.reduceLeDiff, Nat.reduceSub, Int.reduceEq, h1, h3, h4, hs1, hs3, byA_at hlt, bleM])
    refine CallE.of (c_l1little x.bs[i].length 4 (by omega)) (by rintro r rfl; (repeat' first | exact trivial | exact pure_rowB _ | exact pure_rowO _ | exact pure_rowI _ | exact pure_rowBB _ | exact pure_rowPk _ _ | exact pure_rowSn _ _ | exact pure_rowFd _ _ | exact pure_rowCl _ _ | refine And.intro ?_ ?_)) (by simp -dsimp -implicitDefEqProofs only [go_sem, Nat.reduceBEq, Nat.reduceAdd, Nat.reduceLeDiff, Nat.reduceSub, Int.reduceEq, h1, h3, h4, hs1, hs3, show ((4 : Nat) : Int) = 4 from rfl]) ?_
    rintro r rfl
    simp -dsimp -implicitDefEqProofs only [go_sem, Nat.reduceBEq, Nat.reduceAdd, Nat.reduceLeDiff, Nat.reduceSub, Int.reduceEq, h1, h3, h4, hs1, hs3, show ((4 : Nat) : Int) = 4 from rfl]
    repeat (first | with_reducible refine ask.of (by first | omega | (rw [hll, htl, leB_length]; omega)) ?_ | simp -dsimp -implicitDefEqProofs only [go_sem, Nat.reduceBEq, Nat.reduceAdd, Nat.reduceLeDiff, Nat.reduceSub, Int.reduceEq, h1, h3, h4, hs1, hs3, leB_length])
    refine hK _ hlt ?_
    simp -dsimp -implicitDefEqProofs only [go_sem, Nat.reduceBEq, Nat.reduceAdd, Nat.reduceLeDiff, Nat.reduceSub, Int.reduceEq, h1, h3, h4, hs1, hs3, wrap_succ (show i < 4611686018427387904 by omega), lensB_succ hlt]
  · have : i = x.bs.length := by omega
    subst this
    rw [List.take_length] at hs3
    have hg := ms_good h hw
    have hj := joinA_len (lensB x.bs :: x.bs)
    have hll := lensB_length x.bs
    simp -dsimp -implicitDefEqProofs only [go_sem, Nat.reduceBEq, Nat.reduceAdd, Nat.reduceLeDiff, Nat.reduceSub, Int.reduceEq, h1, h3, h4, hs1, hs3, ms_b1 h, ms_b2 h]
    repeat (first | with_reducible refine ask.of (by first | omega | decide) ?_ | simp -dsimp -implicitDefEqProofs only [go_sem, Nat.reduceBEq, Nat.reduceAdd, Nat.reduceLeDiff, Nat.reduceSub, Int.reduceEq, h1, h3, h4, hs1, hs3, bleM, ms_b1 h, ms_b2 h, bytes4])
    refine CallE.of (c_l1little x.n 2 (by omega)) (by rintro r rfl; (repeat' first | exact trivial | exact pure_rowB _ | exact pure_rowO _ | exact pure_rowI _ | exact pure_rowBB _ | exact pure_rowPk _ _ | exact pure_rowSn _ _ | exact pure_rowFd _ _ | exact pure_rowCl _ _ | refine And.intro ?_ ?_)) (by simp -dsimp -implicitDefEqProofs only [go_sem, Nat.reduceBEq, Nat.reduceAdd, Nat.reduceLeDiff, Nat.reduceSub, Int.reduceEq, h1, h3, h4, hs1, hs3, show ((2 : Nat) : Int) = 2 from rfl]) ?_
    rintro r rfl
    simp -dsimp -implicitDefEqProofs only [go_sem, Nat.reduceBEq, Nat.reduceAdd, Nat.reduceLeDiff, Nat.reduceSub, Int.reduceEq, h1, h3, h4, hs1, hs3, show ((2 : Nat) : Int) = 2 from rfl]
    repeat (first | with_reducible refine ask.of (by first | omega | (simp only [List.length_append, List.length_cons, List.length_nil, leB_length]; omega)) ?_ | simp -dsimp -implicitDefEqProofs only [go_sem, Nat.reduceBEq, Nat.reduceAdd, Nat.reduceLeDiff, Nat.reduceSub, Int.reduceEq, h1, h3, h4, hs1, hs3, bleM, leB_length, u8_of_nat, bytes2, byE_asrw])
    refine CallE.of (c_specJoinAlignedL (lensB x.bs) x.bs (by omega)) (by rintro r rfl; (repeat' first | exact trivial | exact pure_rowB _ | exact pure_rowO _ | exact pure_rowI _ | exact pure_rowBB _ | exact pure_rowPk _ _ | exact pure_rowSn _ _ | exact pure_rowFd _ _ | exact pure_rowCl _ _ | refine And.intro ?_ ?_)) (by simp -dsimp -implicitDefEqProofs only [go_sem, Nat.reduceBEq, Nat.reduceAdd, Nat.reduceLeDiff, Nat.reduceSub, Int.reduceEq, h1, h3, h4, hs1, hs3]) ?_
    rintro r rfl
    simp -dsimp -implicitDefEqProofs only [go_sem, Nat.reduceBEq, Nat.reduceAdd, Nat.reduceLeDiff, Nat.reduceSub, Int.reduceEq, h1, h3, h4, hs1, hs3]
    have hjl : (headB x ++ joinA (lensB x.bs :: x.bs)).length ≤ 30000 := by
      have : wBB (lensB x.bs :: x.bs) = 4 * x.bs.length + wBB x.bs := by simp [wBB, szL, lensB_length]
      simp only [List.length_append, headB, List.length_cons, List.length_nil] at hj ⊢
      omega
    have hjl2 : (joinA (lensB x.bs :: x.bs)).length ≤ 30000 := by rw [List.length_append] at hjl; omega
    repeat (first | with_reducible refine ask.of (by first | omega | (simp only [List.length_append, List.length_cons, List.length_nil, leB_length]; omega)) ?_ | simp -dsimp -implicitDefEqProofs only [go_sem, Nat.reduceBEq, Nat.reduceAdd, Nat.reduceLeDiff, Nat.reduceSub, Int.reduceEq, h1, h3, h4, hs1, hs3, bleM, leB_length])
    refine CallE.of (c_specCrc32 (headB x ++ joinA (lensB x.bs :: x.bs)) (by omega)) (by rintro r rfl; (repeat' first | exact trivial | exact pure_rowB _ | exact pure_rowO _ | exact pure_rowI _ | exact pure_rowBB _ | exact pure_rowPk _ _ | exact pure_rowSn _ _ | exact pure_rowFd _ _ | exact pure_rowCl _ _ | refine And.intro ?_ ?_)) (by simp -dsimp -implicitDefEqProofs only [go_sem, Nat.reduceBEq, Nat.reduceAdd, Nat.reduceLeDiff, Nat.reduceSub, Int.reduceEq, h1, h3, h4, hs1, hs3, headB, leB2 h, List.cons_append, List.nil_append, List.append_assoc]) ?_
    rintro r rfl
    simp -dsimp -implicitDefEqProofs only [go_sem, Nat.reduceBEq, Nat.reduceAdd, Nat.reduceLeDiff, Nat.reduceSub, Int.reduceEq, h1, h3, h4, hs1, hs3, headB, leB2 h, List.cons_append, List.nil_append, List.append_assoc]
    simp -dsimp -implicitDefEqProofs only [go_sem, Nat.reduceBEq, Nat.reduceAdd, Nat.reduceLeDiff, Nat.reduceSub, Int.reduceEq, h1, h3, h4, hs1, hs3, wrap_u32i]
    refine CallE.of (c_l1little (crcB (headB x ++ joinA (lensB x.bs :: x.bs))).toNat 4 (by omega)) (by rintro r rfl; (repeat' first | exact trivial | exact pure_rowB _ | exact pure_rowO _ | exact pure_rowI _ | exact pure_rowBB _ | exact pure_rowPk _ _ | exact pure_rowSn _ _ | exact pure_rowFd _ _ | exact pure_rowCl _ _ | refine And.intro ?_ ?_)) (by simp -dsimp -implicitDefEqProofs only [go_sem, Nat.reduceBEq, Nat.reduceAdd, Nat.reduceLeDiff, Nat.reduceSub, Int.reduceEq, h1, h3, h4, hs1, hs3, show ((4 : Nat) : Int) = 4 from rfl, headB, leB2 h, List.cons_append, List.nil_append, List.append_assoc]) ?_
    rintro r rfl
    simp -dsimp -implicitDefEqProofs only [go_sem, Nat.reduceBEq, Nat.reduceAdd, Nat.reduceLeDiff, Nat.reduceSub, Int.reduceEq, h1, h3, h4, hs1, hs3, show ((4 : Nat) : Int) = 4 from rfl, headB, leB2 h, List.cons_append, List.nil_append, List.append_assoc]
    repeat (first | with_reducible refine ask.of (by first | omega | (simp only [List.length_append, List.length_cons, List.length_nil, leB_length]; omega)) ?_ | simp -dsimp -implicitDefEqProofs only [go_sem, Nat.reduceBEq, Nat.reduceAdd, Nat.reduceLeDiff, Nat.reduceSub, Int.reduceEq, h1, h3, h4, hs1, hs3, bleM, leB_length])
    simp [msBody_eq, headB, leB2 h]
end Go.Ev
