/- Contracts: messages out of bytes, the program's own way. -/
import Derived.Test.YtpicohffjdndjaaN2
set_option linter.unusedSimpArgs false
set_option linter.unusedVariables false
namespace Go.Ev
open Go Go.RowKit Go.Proofs
set_option maxHeartbeats 2000000 in
set_option maxRecDepth 8000 in
theorem c_implDecodeMessage (b : List UInt8) (hb : b.length ≤ 1048576) : Meets Try.prog 67 [rowB b] (fun r => r = decResM b) := by
  refine Meets.introO mixed (hint []) (fun k => (sel (k == 3) [999,0,1,2,3,4,5,6,7,8,9,1012,10,11,12,13] (sel (k == 14) [0,1,2,3,4,5,6,7,8,9,10,11,12] []))) Try.func67 rfl (by decide) res_67 rty_67 (by kernel_rfl) ?_; 
  simp -dsimp -implicitDefEqProofs only [go_sem, Nat.reduceBEq, Nat.reduceAdd, Nat.reduceLeDiff, Nat.reduceSub, Int.reduceEq]
  repeat (first | with_reducible refine ask.of (by omega) ?_ | simp -dsimp -implicitDefEqProofs only [go_sem, Nat.reduceBEq, Nat.reduceAdd, Nat.reduceLeDiff, Nat.reduceSub, Int.reduceEq])
  refine ifB'.of (fun h => ?_) (fun h12 => ?_)
  · simp -dsimp -implicitDefEqProofs only [go_sem, Nat.reduceBEq, Nat.reduceAdd, Nat.reduceLeDiff, Nat.reduceSub, Int.reduceEq]
    repeat (first | with_reducible refine ask.of (by omega) ?_ | simp -dsimp -implicitDefEqProofs only [go_sem, Nat.reduceBEq, Nat.reduceAdd, Nat.reduceLeDiff, Nat.reduceSub, Int.reduceEq, bleM])
    exact resM_no (fun h' => by have := h'.1; omega)
  simp -dsimp -implicitDefEqProofs only [go_sem, Nat.reduceBEq, Nat.reduceAdd, Nat.reduceLeDiff, Nat.reduceSub, Int.reduceEq]
  refine ifB'.of (fun h => ?_) (fun hL => ?_)
  · simp -dsimp -implicitDefEqProofs only [go_sem, Nat.reduceBEq, Nat.reduceAdd, Nat.reduceLeDiff, Nat.reduceSub, Int.reduceEq]
    repeat (first | with_reducible refine ask.of (by omega) ?_ | simp -dsimp -implicitDefEqProofs only [go_sem, Nat.reduceBEq, Nat.reduceAdd, Nat.reduceLeDiff, Nat.reduceSub, Int.reduceEq, bleM])
    exact resM_no (fun h' => by have := h'.2.1; omega)
  have n2 : 2 < b.length := by omega
  have n3 : 3 < b.length := by omega
  have n6 : 6 < b.length := by omega
  have hn : b[6].toNat = nOf b := by rw [at_getD n6]; rfl
  have hn8 : nOf b < 256 := by rw [← hn]; exact b[6].toNat_lt
  have c46 : List.drop (Int.toNat 4) (List.take 6 b) = cutB b 4 6 := rfl
  have l46 : (cutB b 4 6).length = 2 := cutB_length (by omega)
  simp -dsimp -implicitDefEqProofs only [go_sem, Nat.reduceBEq, Nat.reduceAdd, Nat.reduceLeDiff, Nat.reduceSub, Int.reduceEq, bytesA_at n2, bytesA_at n3, bytesA_at n6, show Int.toNat 2 = 2 from rfl, show Int.toNat 3 = 3 from rfl, show Int.toNat 6 = 6 from rfl]
  repeat (first | with_reducible refine ask.of (by omega) ?_ | simp -dsimp -implicitDefEqProofs only [go_sem, Nat.reduceBEq, Nat.reduceAdd, Nat.reduceLeDiff, Nat.reduceSub, Int.reduceEq, bytesA_at n2, bytesA_at n3, bytesA_at n6, show Int.toNat 2 = 2 from rfl, show Int.toNat 3 = 3 from rfl, show Int.toNat 6 = 6 from rfl, i64_u8])
  refine CallE.of (c_low (cutB b 4 6) (by omega)) (by rintro r rfl; (repeat' first | exact trivial | exact pure_rowB _ | exact pure_rowO _ | exact pure_rowI _ | exact pure_rowBB _ | exact pure_rowPk _ _ | exact pure_rowSn _ _ | exact pure_rowFd _ _ | exact pure_rowBBB _ | exact pure_rowCl _ _ | refine And.intro ?_ ?_)) (by simp -dsimp -implicitDefEqProofs only [go_sem, Nat.reduceBEq, Nat.reduceAdd, Nat.reduceLeDiff, Nat.reduceSub, Int.reduceEq, c46]) ?_
  rintro r rfl
  simp -dsimp -implicitDefEqProofs only [go_sem, Nat.reduceBEq, Nat.reduceAdd, Nat.reduceLeDiff, Nat.reduceSub, Int.reduceEq, c46]
  have e0 : IntKind.i64.wrap (nOf b : Int) = nOf b := wrap_nat (by omega)
  have e1 : IntKind.i64.wrap (4 * (nOf b : Int)) = ((4 * nOf b : Nat) : Int) := by rw [wrap_i64_of (by omega) (by omega)]; omega
  repeat (first | with_reducible refine ask.of (by omega) ?_ | simp -dsimp -implicitDefEqProofs only [go_sem, Nat.reduceBEq, Nat.reduceAdd, Nat.reduceLeDiff, Nat.reduceSub, Int.reduceEq, bleM, ble4_1, ble4_2, ble4_3, bytesA_at n6, show Int.toNat 6 = 6 from rfl, i64_u8, hn, e0, e1])
  refine CallE.of (c_aligned (4 * nOf b) (by omega)) (by rintro r rfl; (repeat' first | exact trivial | exact pure_rowB _ | exact pure_rowO _ | exact pure_rowI _ | exact pure_rowBB _ | exact pure_rowPk _ _ | exact pure_rowSn _ _ | exact pure_rowFd _ _ | exact pure_rowBBB _ | exact pure_rowCl _ _ | refine And.intro ?_ ?_)) (by simp -dsimp -implicitDefEqProofs only [go_sem, Nat.reduceBEq, Nat.reduceAdd, Nat.reduceLeDiff, Nat.reduceSub, Int.reduceEq]) ?_
  rintro r rfl
  simp -dsimp -implicitDefEqProofs only [go_sem, Nat.reduceBEq, Nat.reduceAdd, Nat.reduceLeDiff, Nat.reduceSub, Int.reduceEq]
  have h0 := ev_le (4 * nOf b)
  have e2 : IntKind.i64.wrap (8 + (ev (4 * nOf b) : Int)) = (atP b (nOf b) 0 : Nat) := by rw [wrap_i64_of (by omega) (by omega), atP]; omega
  simp -dsimp -implicitDefEqProofs only [go_sem, Nat.reduceBEq, Nat.reduceAdd, Nat.reduceLeDiff, Nat.reduceSub, Int.reduceEq, e2]
  repeat (first | with_reducible refine ask.of (by omega) ?_ | simp -dsimp -implicitDefEqProofs only [go_sem, Nat.reduceBEq, Nat.reduceAdd, Nat.reduceLeDiff, Nat.reduceSub, Int.reduceEq, bleM, e2])
  refine ifB'.of (fun hZ => ?_) (fun hZ => ?_)
  · simp -dsimp -implicitDefEqProofs only [go_sem, Nat.reduceBEq, Nat.reduceAdd, Nat.reduceLeDiff, Nat.reduceSub, Int.reduceEq]
    repeat (first | with_reducible refine ask.of (by omega) ?_ | simp -dsimp -implicitDefEqProofs only [go_sem, Nat.reduceBEq, Nat.reduceAdd, Nat.reduceLeDiff, Nat.reduceSub, Int.reduceEq, bleM])
    refine resM_no (fun h' => ?_)
    have e0 : atP b (nOf b) 0 = 8 + ev (4 * nOf b) := rfl
    by_cases h0 : 0 < nOf b
    · have := (h'.2.2.1 0 h0).2.1; omega
    · have h0 : nOf b = 0 := by omega
      rw [h0] at e0 hZ
      have e1 : ev (4 * 0) = 0 := rfl
      omega
  simp -dsimp -implicitDefEqProofs only [go_sem, Nat.reduceBEq, Nat.reduceAdd, Nat.reduceLeDiff, Nat.reduceSub, Int.reduceEq]
  have eP : atP b (nOf b) 0 = 8 + ev (4 * nOf b) := rfl
  have eC : atC b (nOf b) 0 = atP b (nOf b) 0 := Nat.min_eq_left (by omega)
  refine LoopE.cntW (nOf b) (fun i s => (∀ j, j < i → atC b (nOf b) j + szAt b j ≤ b.length) ∧ s.env 0 = .rd .ent 5 1 (bytesA b) ∧ s.env 44 = .v (.int .i64 (nOf b : Nat)) ∧ s.env 6 = .v (.int .i64 (atC b (nOf b) i : Nat)) ∧ s.env 45 = .v (.int .i64 i) ∧ s.env 4 = .ptr [4] 0 0 0 ∧ s.env 2 = .ptr [2] 0 0 0
    ∧ s.σ [4] = some (.box 72 [.v (.int .i64 (b[2].toNat : Int)), .v (.int .i64 (b[3].toNat : Int)), .v (.int .i64 (IntKind.i64.wrap (leN (cutB b 4 6)))), .ref [50]]) ∧ s.σ [50] = some (.row 37 1 (ra byC (bufsC b (nOf b) i)))
    ∧ s.σ [2] = some (.box 72 [.v (.int .i64 0), .v (.int .i64 0), .v (.int .i64 0), .v (.slice none 0 0)]))
    (Wk.box [4] 3 [50] 37 1 72 [.v (.int .i64 (b[2].toNat : Int)), .v (.int .i64 (b[3].toNat : Int)), .v (.int .i64 (IntKind.i64.wrap (leN (cutB b 4 6)))), .v (.slice none 0 0)] ?_ rfl rfl (Wk.refl _)) ?_ ?_
  · simp -dsimp -implicitDefEqProofs only [go_sem, Nat.reduceBEq, Nat.reduceAdd, Nat.reduceLeDiff, Nat.reduceSub, Int.reduceEq]
  · refine ⟨fun j hj => absurd hj (Nat.not_lt_zero _), by simp -dsimp -implicitDefEqProofs only [go_sem, Nat.reduceBEq, Nat.reduceAdd, Nat.reduceLeDiff, Nat.reduceSub, Int.reduceEq, initE], by simp -dsimp -implicitDefEqProofs only [go_sem, Nat.reduceBEq, Nat.reduceAdd, Nat.reduceLeDiff, Nat.reduceSub, Int.reduceEq], by simp -dsimp -implicitDefEqProofs only [go_sem, Nat.reduceBEq, Nat.reduceAdd, Nat.reduceLeDiff, Nat.reduceSub, Int.reduceEq, e2, eC], by simp -dsimp -implicitDefEqProofs only [go_sem, Nat.reduceBEq, Nat.reduceAdd, Nat.reduceLeDiff, Nat.reduceSub, Int.reduceEq], by simp -dsimp -implicitDefEqProofs only [go_sem, Nat.reduceBEq, Nat.reduceAdd, Nat.reduceLeDiff, Nat.reduceSub, Int.reduceEq], by simp -dsimp -implicitDefEqProofs only [go_sem, Nat.reduceBEq, Nat.reduceAdd, Nat.reduceLeDiff, Nat.reduceSub, Int.reduceEq], by simp -dsimp -implicitDefEqProofs only [go_sem, Nat.reduceBEq, Nat.reduceAdd, Nat.reduceLeDiff, Nat.reduceSub, Int.reduceEq] <;> rfl, by simp -dsimp -implicitDefEqProofs only [go_sem, Nat.reduceBEq, Nat.reduceAdd, Nat.reduceLeDiff, Nat.reduceSub, Int.reduceEq] <;> rfl, by simp -dsimp -implicitDefEqProofs only [go_sem, Nat.reduceBEq, Nat.reduceAdd, Nat.reduceLeDiff, Nat.reduceSub, Int.reduceEq]⟩
  rintro i ⟨e, σ⟩ hi ⟨hg, h00, h44, h6, h45, h4, h2, hs4, hs50, hs2⟩ K hK
  simp only at h00 h44 h6 h45 h4 h2 hs4 hs50 hs2
  simp -dsimp -implicitDefEqProofs only [go_sem, Nat.reduceBEq, Nat.reduceAdd, Nat.reduceLeDiff, Nat.reduceSub, Int.reduceEq, h00, h44, h6, h45, h4, h2, hs4, hs50, hs2]
  repeat (first | with_reducible refine ask.of (by first | omega | decide) ?_ | simp -dsimp -implicitDefEqProofs only [go_sem, Nat.reduceBEq, Nat.reduceAdd, Nat.reduceLeDiff, Nat.reduceSub, Int.reduceEq, h00, h44, h6, h45, h4, h2, hs4, hs50, hs2, bleM])
  refine ifB'.of (fun hlt => ?_) (fun hlt => ?_)
  · have hlt : i < nOf b := by omega
    have e3 : IntKind.i64.wrap (4 * (i : Int)) = ((4 * i : Nat) : Int) := by rw [wrap_i64_of (by omega) (by omega)]; omega
    have e4 : IntKind.i64.wrap (12 + ((4 * i : Nat) : Int)) = ((12 + 4 * i : Nat) : Int) := by rw [wrap_i64_of (by omega) (by omega)]; omega
    have e5 : IntKind.i64.wrap (8 + ((4 * i : Nat) : Int)) = ((8 + 4 * i : Nat) : Int) := by rw [wrap_i64_of (by omega) (by omega)]; omega
    simp -dsimp -implicitDefEqProofs only [go_sem, Nat.reduceBEq, Nat.reduceAdd, Nat.reduceLeDiff, Nat.reduceSub, Int.reduceEq, h00, h44, h6, h45, h4, h2, hs4, hs50, hs2, e3, e4, e5]
    repeat (first | with_reducible refine ask.of (by first | omega | decide) ?_ | simp -dsimp -implicitDefEqProofs only [go_sem, Nat.reduceBEq, Nat.reduceAdd, Nat.reduceLeDiff, Nat.reduceSub, Int.reduceEq, h00, h44, h6, h45, h4, h2, hs4, hs50, hs2, bleM, e3, e4, e5])
    have l4 : (cutB b (8 + 4 * i) (12 + 4 * i)).length = 4 := by rw [cutB_length (by omega)]; omega
    have hz := szAt_lt b i
    have e6 : IntKind.i64.wrap (leN (cutB b (8 + 4 * i) (12 + 4 * i)) : Nat) = (szAt b i : Nat) := by rw [← szAt]; exact wrap_nat (by omega)
    refine CallE.of (c_low (cutB b (8 + 4 * i) (12 + 4 * i)) (by omega)) (by rintro r rfl; (repeat' first | exact trivial | exact pure_rowB _ | exact pure_rowO _ | exact pure_rowI _ | exact pure_rowBB _ | exact pure_rowPk _ _ | exact pure_rowSn _ _ | exact pure_rowFd _ _ | exact pure_rowBBB _ | exact pure_rowCl _ _ | refine And.intro ?_ ?_)) (by simp -dsimp -implicitDefEqProofs only [go_sem, Nat.reduceBEq, Nat.reduceAdd, Nat.reduceLeDiff, Nat.reduceSub, Int.reduceEq, h00, h44, h6, h45, h4, h2, hs4, hs50, hs2, cut_eq]) ?_
    rintro r rfl
    simp -dsimp -implicitDefEqProofs only [go_sem, Nat.reduceBEq, Nat.reduceAdd, Nat.reduceLeDiff, Nat.reduceSub, Int.reduceEq, h00, h44, h6, h45, h4, h2, hs4, hs50, hs2, cut_eq]
    have hC : atC b (nOf b) i = min (atP b (nOf b) i) b.length := rfl
    have hC1 : atC b (nOf b) (i + 1) = min (atP b (nOf b) i + ev (szAt b i)) b.length := rfl
    simp -dsimp -implicitDefEqProofs only [go_sem, Nat.reduceBEq, Nat.reduceAdd, Nat.reduceLeDiff, Nat.reduceSub, Int.reduceEq, h00, h44, h6, h45, h4, h2, hs4, hs50, hs2, e6]
    repeat (first | with_reducible refine ask.of (by omega) ?_ | simp -dsimp -implicitDefEqProofs only [go_sem, Nat.reduceBEq, Nat.reduceAdd, Nat.reduceLeDiff, Nat.reduceSub, Int.reduceEq, h00, h44, h6, h45, h4, h2, hs4, hs50, hs2, bleM, e6])
    refine ifB'.of (fun hA => by omega) (fun hA => ?_)
    have e7 : IntKind.i64.wrap ((b.length : Int) - (atC b (nOf b) i : Nat)) = ((b.length - atC b (nOf b) i : Nat) : Int) := by rw [wrap_i64_of (by omega) (by omega)]; omega
    simp -dsimp -implicitDefEqProofs only [go_sem, Nat.reduceBEq, Nat.reduceAdd, Nat.reduceLeDiff, Nat.reduceSub, Int.reduceEq, h00, h44, h6, h45, h4, h2, hs4, hs50, hs2, e6, e7]
    repeat (first | with_reducible refine ask.of (by omega) ?_ | simp -dsimp -implicitDefEqProofs only [go_sem, Nat.reduceBEq, Nat.reduceAdd, Nat.reduceLeDiff, Nat.reduceSub, Int.reduceEq, h00, h44, h6, h45, h4, h2, hs4, hs50, hs2, bleM, e6, e7])
    refine ifB'.of (fun hB => ?_) (fun hB => ?_)
    · simp -dsimp -implicitDefEqProofs only [go_sem, Nat.reduceBEq, Nat.reduceAdd, Nat.reduceLeDiff, Nat.reduceSub, Int.reduceEq, h00, h44, h6, h45, h4, h2, hs4, hs50, hs2]
      repeat (first | with_reducible refine ask.of (by omega) ?_ | simp -dsimp -implicitDefEqProofs only [go_sem, Nat.reduceBEq, Nat.reduceAdd, Nat.reduceLeDiff, Nat.reduceSub, Int.reduceEq, h00, h44, h6, h45, h4, h2, hs4, hs50, hs2, bleM])
      exact resM_no (fun h' => by have hq := h'.2.2.1 i hlt; have q1 := hq.2.1; have q2 := hq.2.2; unfold atC at hB; omega)
    have e8 : IntKind.i64.wrap ((atC b (nOf b) i : Int) + (szAt b i : Nat)) = ((atC b (nOf b) i + szAt b i : Nat) : Int) := by rw [wrap_i64_of (by omega) (by omega)]; omega
    simp -dsimp -implicitDefEqProofs only [go_sem, Nat.reduceBEq, Nat.reduceAdd, Nat.reduceLeDiff, Nat.reduceSub, Int.reduceEq, h00, h44, h6, h45, h4, h2, hs4, hs50, hs2, e6, e8]
    repeat (first | with_reducible refine ask.of (by first | omega | decide) ?_ | simp -dsimp -implicitDefEqProofs only [go_sem, Nat.reduceBEq, Nat.reduceAdd, Nat.reduceLeDiff, Nat.reduceSub, Int.reduceEq, h00, h44, h6, h45, h4, h2, hs4, hs50, hs2, bleM, e6, e8, cut_eq])
    refine CallE.of (c_bytesClone (cutB b (atC b (nOf b) i) (atC b (nOf b) i + szAt b i)) (by rw [cutB_length (by omega)]; omega)) (by rintro r rfl; (repeat' first | exact trivial | exact pure_rowB _ | exact pure_rowO _ | exact pure_rowI _ | exact pure_rowBB _ | exact pure_rowPk _ _ | exact pure_rowSn _ _ | exact pure_rowFd _ _ | exact pure_rowBBB _ | exact pure_rowCl _ _ | refine And.intro ?_ ?_)) (by simp -dsimp -implicitDefEqProofs only [go_sem, Nat.reduceBEq, Nat.reduceAdd, Nat.reduceLeDiff, Nat.reduceSub, Int.reduceEq, h00, h44, h6, h45, h4, h2, hs4, hs50, hs2]) ?_
    rintro r rfl
    simp -dsimp -implicitDefEqProofs only [go_sem, Nat.reduceBEq, Nat.reduceAdd, Nat.reduceLeDiff, Nat.reduceSub, Int.reduceEq, h00, h44, h6, h45, h4, h2, hs4, hs50, hs2]
    repeat (first | with_reducible refine ask.of (by first | omega | decide | (simp only [ra_length, bufsC_length, List.length_cons, List.length_nil]; omega)) ?_ | simp -dsimp -implicitDefEqProofs only [go_sem, Nat.reduceBEq, Nat.reduceAdd, Nat.reduceLeDiff, Nat.reduceSub, Int.reduceEq, h00, h44, h6, h45, h4, h2, hs4, hs50, hs2, bleM, byC_snoc])
    refine CallE.of (c_aligned (szAt b i) (by omega)) (by rintro r rfl; (repeat' first | exact trivial | exact pure_rowB _ | exact pure_rowO _ | exact pure_rowI _ | exact pure_rowBB _ | exact pure_rowPk _ _ | exact pure_rowSn _ _ | exact pure_rowFd _ _ | exact pure_rowBBB _ | exact pure_rowCl _ _ | refine And.intro ?_ ?_)) (by simp -dsimp -implicitDefEqProofs only [go_sem, Nat.reduceBEq, Nat.reduceAdd, Nat.reduceLeDiff, Nat.reduceSub, Int.reduceEq, h00, h44, h6, h45, h4, h2, hs4, hs50, hs2]) ?_
    rintro r rfl
    simp -dsimp -implicitDefEqProofs only [go_sem, Nat.reduceBEq, Nat.reduceAdd, Nat.reduceLeDiff, Nat.reduceSub, Int.reduceEq, h00, h44, h6, h45, h4, h2, hs4, hs50, hs2]
    have h9 := ev_le (szAt b i)
    have e9 : IntKind.i64.wrap ((atC b (nOf b) i : Int) + (ev (szAt b i) : Nat)) = (atC b (nOf b) i + ev (szAt b i) : Nat) := by rw [wrap_i64_of (by omega) (by omega)]; omega
    simp -dsimp -implicitDefEqProofs only [go_sem, Nat.reduceBEq, Nat.reduceAdd, Nat.reduceLeDiff, Nat.reduceSub, Int.reduceEq, h00, h44, h6, h45, h4, h2, hs4, hs50, hs2, e9]
    by_cases hm : b.length < atC b (nOf b) i + ev (szAt b i)
    · have e10 : decide ((b.length : Int) < (atC b (nOf b) i + ev (szAt b i) : Nat)) = true := decide_eq_true (by omega)
      have e11 : b.length = atC b (nOf b) (i + 1) := by omega
      simp -dsimp -implicitDefEqProofs only [go_sem, Nat.reduceBEq, Nat.reduceAdd, Nat.reduceLeDiff, Nat.reduceSub, Int.reduceEq, h00, h44, h6, h45, h4, h2, hs4, hs50, hs2, e10]
      refine hK _ _ hlt (Wk.refl _) ?_
      simp -dsimp -implicitDefEqProofs only [go_sem, Nat.reduceBEq, Nat.reduceAdd, Nat.reduceLeDiff, Nat.reduceSub, Int.reduceEq, h00, h44, h6, h45, h4, h2, hs4, hs50, hs2, wrap_succ (show i < 4611686018427387904 by omega), ← e11]
      refine ⟨fun j hj => ?_, by rw [← bufsC_snoc, bufC]⟩
      by_cases hji : j < i
      · exact hg j hji
      · obtain rfl : j = i := by omega
        omega
    · have e10 : decide ((b.length : Int) < (atC b (nOf b) i + ev (szAt b i) : Nat)) = false := decide_eq_false (by omega)
      have e11 : atC b (nOf b) i + ev (szAt b i) = atC b (nOf b) (i + 1) := by omega
      simp -dsimp -implicitDefEqProofs only [go_sem, Nat.reduceBEq, Nat.reduceAdd, Nat.reduceLeDiff, Nat.reduceSub, Int.reduceEq, h00, h44, h6, h45, h4, h2, hs4, hs50, hs2, e10]
      refine hK _ _ hlt (Wk.refl _) ?_
      simp -dsimp -implicitDefEqProofs only [go_sem, Nat.reduceBEq, Nat.reduceAdd, Nat.reduceLeDiff, Nat.reduceSub, Int.reduceEq, h00, h44, h6, h45, h4, h2, hs4, hs50, hs2, wrap_succ (show i < 4611686018427387904 by omega), e11]
      refine ⟨fun j hj => ?_, by rw [← bufsC_snoc, bufC]⟩
      by_cases hji : j < i
      · exact hg j hji
      · obtain rfl : j = i := by omega
        omega
  · have hii : i = nOf b := by omega
    subst hii
    have hw := wBB_bufsC b (nOf b) (nOf b) hg
    have hC : atC b (nOf b) (nOf b) = min (atP b (nOf b) (nOf b)) b.length := rfl
    have hd := decM_impl (b := b) (by omega) (by omega) hg
    have hm : msC (msC2 b) = [.v (.int .i64 (b[2].toNat : Int)), .v (.int .i64 (b[3].toNat : Int)), .v (.int .i64 (IntKind.i64.wrap (leN (cutB b 4 6)))), .row 37 1 (ra byC (bufsC b (nOf b) (nOf b)))] := by rw [at_getD n2, at_getD n3]; rfl
    simp -dsimp -implicitDefEqProofs only [go_sem, Nat.reduceBEq, Nat.reduceAdd, Nat.reduceLeDiff, Nat.reduceSub, Int.reduceEq, h00, h44, h6, h45, h4, h2, hs4, hs50, hs2]
    repeat (first | with_reducible refine ask.of (by first | omega | decide) ?_ | simp -dsimp -implicitDefEqProofs only [go_sem, Nat.reduceBEq, Nat.reduceAdd, Nat.reduceLeDiff, Nat.reduceSub, Int.reduceEq, h00, h44, h6, h45, h4, h2, hs4, hs50, hs2, bleM])
    refine CallE.of (c_implEncodeMessage (msC2 b) (by show (bufsC b (nOf b) (nOf b)).length + wBB (bufsC b (nOf b) (nOf b)) ≤ _; rw [bufsC_length]; omega)) (by rintro r rfl; (repeat' first | exact trivial | exact pure_rowB _ | exact pure_rowO _ | exact pure_rowI _ | exact pure_rowBB _ | exact pure_rowPk _ _ | exact pure_rowSn _ _ | exact pure_rowFd _ _ | exact pure_rowBBB _ | exact pure_rowCl _ _ | refine And.intro ?_ ?_)) (by simp -dsimp -implicitDefEqProofs only [go_sem, Nat.reduceBEq, Nat.reduceAdd, Nat.reduceLeDiff, Nat.reduceSub, Int.reduceEq, h00, h44, h6, h45, h4, h2, hs4, hs50, hs2, hm]) ?_
    rintro r rfl
    simp -dsimp -implicitDefEqProofs only [go_sem, Nat.reduceBEq, Nat.reduceAdd, Nat.reduceLeDiff, Nat.reduceSub, Int.reduceEq, h00, h44, h6, h45, h4, h2, hs4, hs50, hs2, hm]
    have hel := encM_le (msC2 b)
    refine ifB'.of (fun hE0 => ?_) (fun hE0 => ?_)
    · simp -dsimp -implicitDefEqProofs only [go_sem, Nat.reduceBEq, Nat.reduceAdd, Nat.reduceLeDiff, Nat.reduceSub, Int.reduceEq, h00, h44, h6, h45, h4, h2, hs4, hs50, hs2]
      repeat (first | with_reducible refine ask.of (by omega) ?_ | simp -dsimp -implicitDefEqProofs only [go_sem, Nat.reduceBEq, Nat.reduceAdd, Nat.reduceLeDiff, Nat.reduceSub, Int.reduceEq, h00, h44, h6, h45, h4, h2, hs4, hs50, hs2, bleM])
      have hE1 : encM (msC2 b) ≠ b := fun e => by rw [e] at hE0; omega
      rw [decResM, hd.2 hE1]; rfl
    simp -dsimp -implicitDefEqProofs only [go_sem, Nat.reduceBEq, Nat.reduceAdd, Nat.reduceLeDiff, Nat.reduceSub, Int.reduceEq, h00, h44, h6, h45, h4, h2, hs4, hs50, hs2]
    refine CallE.of (c_bytesEqual (encM (msC2 b)) b (by omega) (by omega)) (by rintro r rfl; (repeat' first | exact trivial | exact pure_rowB _ | exact pure_rowO _ | exact pure_rowI _ | exact pure_rowBB _ | exact pure_rowPk _ _ | exact pure_rowSn _ _ | exact pure_rowFd _ _ | exact pure_rowBBB _ | exact pure_rowCl _ _ | refine And.intro ?_ ?_)) (by simp -dsimp -implicitDefEqProofs only [go_sem, Nat.reduceBEq, Nat.reduceAdd, Nat.reduceLeDiff, Nat.reduceSub, Int.reduceEq, h00, h44, h6, h45, h4, h2, hs4, hs50, hs2]) ?_
    rintro r rfl
    simp -dsimp -implicitDefEqProofs only [go_sem, Nat.reduceBEq, Nat.reduceAdd, Nat.reduceLeDiff, Nat.reduceSub, Int.reduceEq, h00, h44, h6, h45, h4, h2, hs4, hs50, hs2]
    refine ifB'.of (fun hE => ?_) (fun hE => ?_)
    · simp -dsimp -implicitDefEqProofs only [go_sem, Nat.reduceBEq, Nat.reduceAdd, Nat.reduceLeDiff, Nat.reduceSub, Int.reduceEq, h00, h44, h6, h45, h4, h2, hs4, hs50, hs2]
      repeat (first | with_reducible refine ask.of (by omega) ?_ | simp -dsimp -implicitDefEqProofs only [go_sem, Nat.reduceBEq, Nat.reduceAdd, Nat.reduceLeDiff, Nat.reduceSub, Int.reduceEq, h00, h44, h6, h45, h4, h2, hs4, hs50, hs2, bleM])
      rw [decResM, hd.1 hE, hm]
    · simp -dsimp -implicitDefEqProofs only [go_sem, Nat.reduceBEq, Nat.reduceAdd, Nat.reduceLeDiff, Nat.reduceSub, Int.reduceEq, h00, h44, h6, h45, h4, h2, hs4, hs50, hs2]
      repeat (first | with_reducible refine ask.of (by omega) ?_ | simp -dsimp -implicitDefEqProofs only [go_sem, Nat.reduceBEq, Nat.reduceAdd, Nat.reduceLeDiff, Nat.reduceSub, Int.reduceEq, h00, h44, h6, h45, h4, h2, hs4, hs50, hs2, bleM])
      rw [decResM, hd.2 hE]; rfl
end Go.Ev
