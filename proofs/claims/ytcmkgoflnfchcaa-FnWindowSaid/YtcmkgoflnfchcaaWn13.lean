/- Part 13 of what the row leans on: the evaluator, words, contracts of functions; pruned by a program of ours. -/
import Derived.Test.YtcmkgoflnfchcaaWn12
set_option linter.unusedSimpArgs false
set_option linter.unusedVariables false
namespace Go.Ev
open Go Go.RowKit Go.Proofs
theorem c_l5packet (p : Pk) (hb : p.f.length ≤ 1048576) : Meets Try.prog 106 [.agg (pkC p)] (fun r => r = .agg (pkC p)) := by
  refine Meets.intro mixed (hint []) Try.func106 rfl (by decide) res_106 rty_106 (by kernel_rfl) ?_; 
  simp -dsimp -implicitDefEqProofs only [go_sem, Nat.reduceBEq, Nat.reduceAdd, Nat.reduceLeDiff, Nat.reduceSub, Int.reduceEq, pkC]
  repeat (first | with_reducible refine ask.of (by omega) ?_ | simp -dsimp -implicitDefEqProofs only [go_sem, Nat.reduceBEq, Nat.reduceAdd, Nat.reduceLeDiff, Nat.reduceSub, Int.reduceEq, bleR])
  refine CallE.of (c_l1copy p.f (by omega)) (by rintro r rfl; (repeat' first | exact trivial | exact pure_rowB _ | exact pure_rowO _ | exact pure_rowI _ | exact pure_rowBB _ | exact pure_rowPk _ _ | exact pure_rowSn _ _ | exact pure_rowFd _ _ | exact pure_rowBBB _ | exact pure_rowCl _ _ | exact pure_rowTb _ _ _ | refine And.intro ?_ ?_)) (by simp -dsimp -implicitDefEqProofs only [go_sem, Nat.reduceBEq, Nat.reduceAdd, Nat.reduceLeDiff, Nat.reduceSub, Int.reduceEq]) ?_
  rintro r rfl
  simp -dsimp -implicitDefEqProofs only [go_sem, Nat.reduceBEq, Nat.reduceAdd, Nat.reduceLeDiff, Nat.reduceSub, Int.reduceEq]
  repeat (first | with_reducible refine ask.of (by omega) ?_ | simp -dsimp -implicitDefEqProofs only [go_sem, Nat.reduceBEq, Nat.reduceAdd, Nat.reduceLeDiff, Nat.reduceSub, Int.reduceEq, bleR])
theorem c_packetCopy (p : Pk) (hb : p.f.length ≤ 1048576) : Meets Try.prog 98 [.agg (pkC p)] (fun r => r = .agg (pkC p)) := by
  refine Meets.intro mixed (hint []) Try.func98 rfl (by decide) res_98 rty_98 (by kernel_rfl) ?_; 
  simp -dsimp -implicitDefEqProofs only [go_sem, Nat.reduceBEq, Nat.reduceAdd, Nat.reduceLeDiff, Nat.reduceSub, Int.reduceEq, pkC]
  repeat (first | with_reducible refine ask.of (by omega) ?_ | simp -dsimp -implicitDefEqProofs only [go_sem, Nat.reduceBEq, Nat.reduceAdd, Nat.reduceLeDiff, Nat.reduceSub, Int.reduceEq, bleR])
  refine CallE.of (c_bytesClone p.f (by omega)) (by rintro r rfl; (repeat' first | exact trivial | exact pure_rowB _ | exact pure_rowO _ | exact pure_rowI _ | exact pure_rowBB _ | exact pure_rowPk _ _ | exact pure_rowSn _ _ | exact pure_rowFd _ _ | exact pure_rowBBB _ | exact pure_rowCl _ _ | exact pure_rowTb _ _ _ | refine And.intro ?_ ?_)) (by simp -dsimp -implicitDefEqProofs only [go_sem, Nat.reduceBEq, Nat.reduceAdd, Nat.reduceLeDiff, Nat.reduceSub, Int.reduceEq]) ?_
  rintro r rfl
  simp -dsimp -implicitDefEqProofs only [go_sem, Nat.reduceBEq, Nat.reduceAdd, Nat.reduceLeDiff, Nat.reduceSub, Int.reduceEq]
  repeat (first | with_reducible refine ask.of (by omega) ?_ | simp -dsimp -implicitDefEqProofs only [go_sem, Nat.reduceBEq, Nat.reduceAdd, Nat.reduceLeDiff, Nat.reduceSub, Int.reduceEq, bleR])
theorem bl4 : Nat.ble 1 4 = true ∧ Nat.ble 2 4 = true ∧ Nat.ble 3 4 = true ∧ Nat.ble 1 1 = true ∧ Nat.ble 1 7 = true := ⟨rfl, rfl, rfl, rfl, rfl⟩
theorem cty_q : cty Try.prog 109 = [some (40, 7)] := by kernel_rfl
theorem ble67 : Nat.ble 6 7 = true := rfl
theorem sn_snoc {xs : List Sn} {s : Sn} : ra snC xs ++ [[.v (.int .i64 s.p.a), .v (.int .i64 s.p.b), .v (.int .i64 s.p.c), .v (.int .i64 s.p.d), .v (.bool s.p.e), .row 5 1 (bytesA s.p.f), .v (.int .i64 s.q)]] = ra snC (xs ++ [s]) := by simp [ra, snC]
theorem sn_take {xs : List Sn} {i : Nat} (h : i < xs.length) : xs.take i ++ [xs[i]] = xs.take (i + 1) := by simp
set_option maxRecDepth 8000 in
set_option maxHeartbeats 1000000 in
theorem c_l5out (x : LO) (hx : x.h.length ≤ 1048576) (hb : ∀ b ∈ x.h, b.p.f.length ≤ 1048576) : Meets Try.prog 188 [.agg (loC 40 x)] (fun r => r = .agg (loC 40 x)) := by
  refine Meets.introO mixed (hint []) (fun k => (sel (k == 5) [0,1,2,3,4,5,6,7,9,10,11,12,13,14,8,15,16,17,18,19] [])) Try.func188 rfl (by decide) res_188 rty_188 (by kernel_rfl) ?_; 
  simp -dsimp -implicitDefEqProofs only [go_sem, Nat.reduceBEq, Nat.reduceAdd, Nat.reduceLeDiff, Nat.reduceSub, Int.reduceEq, loC]
  repeat (first | with_reducible refine ask.of (by omega) ?_ | simp -dsimp -implicitDefEqProofs only [go_sem, Nat.reduceBEq, Nat.reduceAdd, Nat.reduceLeDiff, Nat.reduceSub, Int.reduceEq, bleR, bl4])
  refine LoopE.cntW x.h.length (fun i s => s.env 1 = .ptr [1] 0 0 0 ∧ s.env 2 = .ptr [2] 0 0 0 ∧ s.env 3 = .ptr [3] 0 0 0 ∧ s.env 4 = .v (.int .i64 i) ∧ s.σ [1] = some (.box 25 [.v (.int .i64 x.a), .v (.int .i64 x.b), .v (.int .i64 x.c), .rd .ent 40 7 (ra snC x.h)])
    ∧ s.σ [2] = some (.box 25 [.v (.int .i64 0), .v (.int .i64 0), .v (.int .i64 0), .v (.slice none 0 0)]) ∧ s.σ [3] = some (.box 25 [.v (.int .i64 x.a), .v (.int .i64 x.b), .v (.int .i64 x.c), .ref [50]]) ∧ s.σ [50] = some (.row 40 7 (ra snC (x.h.take i))))
    (Wk.box [3] 3 [50] 40 7 25 [.v (.int .i64 x.a), .v (.int .i64 x.b), .v (.int .i64 x.c), .v (.slice none 0 0)] ?_ rfl rfl (Wk.refl _)) ?_ ?_
  · simp -dsimp -implicitDefEqProofs only [go_sem, Nat.reduceBEq, Nat.reduceAdd, Nat.reduceLeDiff, Nat.reduceSub, Int.reduceEq]
  · refine ⟨by simp -dsimp -implicitDefEqProofs only [go_sem, Nat.reduceBEq, Nat.reduceAdd, Nat.reduceLeDiff, Nat.reduceSub, Int.reduceEq], by simp -dsimp -implicitDefEqProofs only [go_sem, Nat.reduceBEq, Nat.reduceAdd, Nat.reduceLeDiff, Nat.reduceSub, Int.reduceEq], by simp -dsimp -implicitDefEqProofs only [go_sem, Nat.reduceBEq, Nat.reduceAdd, Nat.reduceLeDiff, Nat.reduceSub, Int.reduceEq], by simp -dsimp -implicitDefEqProofs only [go_sem, Nat.reduceBEq, Nat.reduceAdd, Nat.reduceLeDiff, Nat.reduceSub, Int.reduceEq] <;> rfl, by simp -dsimp -implicitDefEqProofs only [go_sem, Nat.reduceBEq, Nat.reduceAdd, Nat.reduceLeDiff, Nat.reduceSub, Int.reduceEq], by simp -dsimp -implicitDefEqProofs only [go_sem, Nat.reduceBEq, Nat.reduceAdd, Nat.reduceLeDiff, Nat.reduceSub, Int.reduceEq], by simp -dsimp -implicitDefEqProofs only [go_sem, Nat.reduceBEq, Nat.reduceAdd, Nat.reduceLeDiff, Nat.reduceSub, Int.reduceEq] <;> rfl, by simp -dsimp -implicitDefEqProofs only [go_sem, Nat.reduceBEq, Nat.reduceAdd, Nat.reduceLeDiff, Nat.reduceSub, Int.reduceEq] <;> rfl⟩
  rintro i ⟨e, σ⟩ hi ⟨h1, h2, h3, h4, hs1, hs2, hs3, hs50⟩ K hK
  simp only at h1 h2 h3 h4 hs1 hs2 hs3 hs50
  simp -dsimp -implicitDefEqProofs only [go_sem, Nat.reduceBEq, Nat.reduceAdd, Nat.reduceLeDiff, Nat.reduceSub, Int.reduceEq, h1, h2, h3, h4, hs1, hs2, hs3, hs50]
  repeat (first | with_reducible refine ask.of (by omega) ?_ | simp -dsimp -implicitDefEqProofs only [go_sem, Nat.reduceBEq, Nat.reduceAdd, Nat.reduceLeDiff, Nat.reduceSub, Int.reduceEq, h1, h2, h3, h4, hs1, hs2, hs3, hs50, bleR])
  refine ifB'.of (fun hlt => ?_) (fun hlt => ?_)
  · have hlt : i < x.h.length := by omega
    have hp := hb _ (List.getElem_mem hlt)
    have htl : (x.h.take i).length = i := by simp; omega
    repeat (first | with_reducible refine ask.of (by omega) ?_ | simp -dsimp -implicitDefEqProofs only [go_sem, Nat.reduceBEq, Nat.reduceAdd, Nat.reduceLeDiff, Nat.reduceSub, Int.reduceEq, h1, h2, h3, h4, hs1, hs2, hs3, hs50, bleR, Sn_at hlt, snC, ble67])
    refine CallE.of (c_l5packet x.h[i].p hp) (by rintro r rfl; (repeat' first | exact trivial | exact pure_rowB _ | exact pure_rowO _ | exact pure_rowI _ | exact pure_rowBB _ | exact pure_rowPk _ _ | exact pure_rowSn _ _ | exact pure_rowFd _ _ | exact pure_rowBBB _ | exact pure_rowCl _ _ | exact pure_rowTb _ _ _ | refine And.intro ?_ ?_)) (by simp -dsimp -implicitDefEqProofs only [go_sem, Nat.reduceBEq, Nat.reduceAdd, Nat.reduceLeDiff, Nat.reduceSub, Int.reduceEq, h1, h2, h3, h4, hs1, hs2, hs3, hs50, pkC]) ?_
    rintro r rfl
    simp -dsimp -implicitDefEqProofs only [go_sem, Nat.reduceBEq, Nat.reduceAdd, Nat.reduceLeDiff, Nat.reduceSub, Int.reduceEq, h1, h2, h3, h4, hs1, hs2, hs3, hs50, pkC]
    repeat (first | with_reducible refine ask.of (by first | omega | decide | (simp only [ra_length, htl, List.length_cons, List.length_nil]; omega)) ?_ | simp -dsimp -implicitDefEqProofs only [go_sem, Nat.reduceBEq, Nat.reduceAdd, Nat.reduceLeDiff, Nat.reduceSub, Int.reduceEq, h1, h2, h3, h4, hs1, hs2, hs3, hs50, bleR, snC, ble67, sn_snoc, cty_q])
    refine hK _ _ hlt (Wk.refl _) ?_
    simp -dsimp -implicitDefEqProofs only [go_sem, Nat.reduceBEq, Nat.reduceAdd, Nat.reduceLeDiff, Nat.reduceSub, Int.reduceEq, h1, h2, h3, h4, hs1, hs2, hs3, hs50, wrap_succ (show i < 4611686018427387904 by omega), sn_snoc, sn_take hlt]
  · have : i = x.h.length := by omega
    subst this
    rw [List.take_length] at hs50
    simp -dsimp -implicitDefEqProofs only [go_sem, Nat.reduceBEq, Nat.reduceAdd, Nat.reduceLeDiff, Nat.reduceSub, Int.reduceEq, h1, h2, h3, h4, hs1, hs2, hs3, hs50]
    repeat (first | with_reducible refine ask.of (by omega) ?_ | simp -dsimp -implicitDefEqProofs only [go_sem, Nat.reduceBEq, Nat.reduceAdd, Nat.reduceLeDiff, Nat.reduceSub, Int.reduceEq, h1, h2, h3, h4, hs1, hs2, hs3, hs50, bleR, show Nat.ble 4 4 = true from rfl])
theorem c_put (xs : List Sn) (s : Sn) (hx : xs.length ≤ 1048576) (hb : s.p.f.length ≤ 1048576) : MeetsM Try.prog 95 [.mu (.bx 109 [.row 40 7 (ra snC xs)]), .mu (.agg (snC s))] (fun r rs => r = .tup [] ∧ rs = [.bx 109 [.row 40 7 (ra snC (xs ++ [s]))], .agg [.v (.int .i64 s.p.a), .v (.int .i64 s.p.b), .v (.int .i64 s.p.c), .v (.int .i64 s.p.d), .v (.bool s.p.e), .any, .v (.int .i64 s.q)]]) := by
  refine MeetsM.introO mixed (hint []) (fun k => (sel (k == 1) [0,1,2,3,4,5,6,7,8,9,10] [])) Try.func95 rfl (by decide) res_95 rty_95 (pts := parTys Try.prog 95) (by rw [par_95]; rfl) (by kernel_rfl) ?_; rw [par_95]; intro vals; 
  simp -dsimp -implicitDefEqProofs only [go_sem, Nat.reduceBEq, Nat.reduceAdd, Nat.reduceLeDiff, Nat.reduceSub, Int.reduceEq, snC]
  repeat (first | with_reducible refine ask.of (by first | omega | decide | (simp only [ra_length, List.length_cons, List.length_nil]; omega)) ?_ | simp -dsimp -implicitDefEqProofs only [go_sem, Nat.reduceBEq, Nat.reduceAdd, Nat.reduceLeDiff, Nat.reduceSub, Int.reduceEq, bleR, snC, ble67, sn_snoc, cty_q])
set_option maxRecDepth 8000 in
set_option maxHeartbeats 1000000 in
theorem c_outCopy (x : LO) (hx : x.h.length ≤ 1048576) (hb : ∀ b ∈ x.h, b.p.f.length ≤ 1048576) : Meets Try.prog 71 [.agg (loC 40 x)] (fun r => r = .agg (loC 40 x)) := by
  refine Meets.introO mixed (hint []) (fun k => (sel (k == 5) [998,0,1,3,4,2,5,2006] [])) Try.func71 rfl (by decide) res_71 rty_71 (by kernel_rfl) ?_; 
  simp -dsimp -implicitDefEqProofs only [go_sem, Nat.reduceBEq, Nat.reduceAdd, Nat.reduceLeDiff, Nat.reduceSub, Int.reduceEq, loC]
  repeat (first | with_reducible refine ask.of (by omega) ?_ | simp -dsimp -implicitDefEqProofs only [go_sem, Nat.reduceBEq, Nat.reduceAdd, Nat.reduceLeDiff, Nat.reduceSub, Int.reduceEq, bleR, bl4])
  refine LoopE.cntW x.h.length (fun i s => s.env 1 = .ptr [1] 0 0 0 ∧ s.env 2 = .ptr [2] 0 0 0 ∧ s.env 3 = .ptr [3] 0 0 0 ∧ s.env 8 = .rd .ent 40 7 (ra snC x.h) ∧ s.env 9 = .v (.int .i64 (x.h.length : Nat)) ∧ s.env 10 = .v (.int .i64 i) ∧ s.σ [1] = some (.box 25 [.v (.int .i64 x.a), .v (.int .i64 x.b), .v (.int .i64 x.c), .rd .ent 40 7 (ra snC x.h)])
    ∧ s.σ [2] = some (.box 25 [.v (.int .i64 0), .v (.int .i64 0), .v (.int .i64 0), .v (.slice none 0 0)]) ∧ s.σ [3] = some (.box 109 [.ref [1000002, 3, 0]]) ∧ s.σ [1000002, 3, 0] = some (.row 40 7 (ra snC (x.h.take i))))
    (Wk.box [3] 0 [1000002, 3, 0] 40 7 109 [.v (.slice none 0 0)] ?_ rfl rfl (Wk.refl _)) ?_ ?_
  · simp -dsimp -implicitDefEqProofs only [go_sem, Nat.reduceBEq, Nat.reduceAdd, Nat.reduceLeDiff, Nat.reduceSub, Int.reduceEq]
  · refine ⟨by simp -dsimp -implicitDefEqProofs only [go_sem, Nat.reduceBEq, Nat.reduceAdd, Nat.reduceLeDiff, Nat.reduceSub, Int.reduceEq], by simp -dsimp -implicitDefEqProofs only [go_sem, Nat.reduceBEq, Nat.reduceAdd, Nat.reduceLeDiff, Nat.reduceSub, Int.reduceEq], by simp -dsimp -implicitDefEqProofs only [go_sem, Nat.reduceBEq, Nat.reduceAdd, Nat.reduceLeDiff, Nat.reduceSub, Int.reduceEq], by simp -dsimp -implicitDefEqProofs only [go_sem, Nat.reduceBEq, Nat.reduceAdd, Nat.reduceLeDiff, Nat.reduceSub, Int.reduceEq], by simp -dsimp -implicitDefEqProofs only [go_sem, Nat.reduceBEq, Nat.reduceAdd, Nat.reduceLeDiff, Nat.reduceSub, Int.reduceEq], by simp -dsimp -implicitDefEqProofs only [go_sem, Nat.reduceBEq, Nat.reduceAdd, Nat.reduceLeDiff, Nat.reduceSub, Int.reduceEq] <;> rfl, by simp -dsimp -implicitDefEqProofs only [go_sem, Nat.reduceBEq, Nat.reduceAdd, Nat.reduceLeDiff, Nat.reduceSub, Int.reduceEq], by simp -dsimp -implicitDefEqProofs only [go_sem, Nat.reduceBEq, Nat.reduceAdd, Nat.reduceLeDiff, Nat.reduceSub, Int.reduceEq], by simp -dsimp -implicitDefEqProofs only [go_sem, Nat.reduceBEq, Nat.reduceAdd, Nat.reduceLeDiff, Nat.reduceSub, Int.reduceEq] <;> rfl, by simp -dsimp -implicitDefEqProofs only [go_sem, Nat.reduceBEq, Nat.reduceAdd, Nat.reduceLeDiff, Nat.reduceSub, Int.reduceEq] <;> rfl⟩
  rintro i ⟨e, σ⟩ hi ⟨h1, h2, h3, h8, h9, h10, hs1, hs2, hs3, hs50⟩ K hK
  simp only at h1 h2 h3 h8 h9 h10 hs1 hs2 hs3 hs50
  simp -dsimp -implicitDefEqProofs only [go_sem, Nat.reduceBEq, Nat.reduceAdd, Nat.reduceLeDiff, Nat.reduceSub, Int.reduceEq, h1, h2, h3, h8, h9, h10, hs1, hs2, hs3, hs50]
  refine ifB'.of (fun hlt => ?_) (fun hlt => ?_)
  · have hlt : i < x.h.length := by omega
    have hp := hb _ (List.getElem_mem hlt)
    have htl : (x.h.take i).length = i := by simp; omega
    repeat (first | with_reducible refine ask.of (by omega) ?_ | simp -dsimp -implicitDefEqProofs only [go_sem, Nat.reduceBEq, Nat.reduceAdd, Nat.reduceLeDiff, Nat.reduceSub, Int.reduceEq, h1, h2, h3, h8, h9, h10, hs1, hs2, hs3, hs50, bleR, Sn_at hlt, snC, ble67, bl4])
    refine CallE.of (c_packetCopy x.h[i].p hp) (by rintro r rfl; (repeat' first | exact trivial | exact pure_rowB _ | exact pure_rowO _ | exact pure_rowI _ | exact pure_rowBB _ | exact pure_rowPk _ _ | exact pure_rowSn _ _ | exact pure_rowFd _ _ | exact pure_rowBBB _ | exact pure_rowCl _ _ | exact pure_rowTb _ _ _ | refine And.intro ?_ ?_)) (by simp -dsimp -implicitDefEqProofs only [go_sem, Nat.reduceBEq, Nat.reduceAdd, Nat.reduceLeDiff, Nat.reduceSub, Int.reduceEq, h1, h2, h3, h8, h9, h10, hs1, hs2, hs3, hs50, pkC]) ?_
    rintro r rfl
    simp -dsimp -implicitDefEqProofs only [go_sem, Nat.reduceBEq, Nat.reduceAdd, Nat.reduceLeDiff, Nat.reduceSub, Int.reduceEq, h1, h2, h3, h8, h9, h10, hs1, hs2, hs3, hs50, pkC]
    repeat (first | with_reducible refine ask.of (by first | omega | decide) ?_ | simp -dsimp -implicitDefEqProofs only [go_sem, Nat.reduceBEq, Nat.reduceAdd, Nat.reduceLeDiff, Nat.reduceSub, Int.reduceEq, h1, h2, h3, h8, h9, h10, hs1, hs2, hs3, hs50, bleR, snC, ble67, bl4])
    refine CallE.mutLend (c_put (x.h.take i) x.h[i] (by omega) hp) (by simp -dsimp -implicitDefEqProofs only [go_sem, Nat.reduceBEq, Nat.reduceAdd, Nat.reduceLeDiff, Nat.reduceSub, Int.reduceEq, h1, h2, h3, h8, h9, h10, hs1, hs2, hs3, hs50]) (by simp -dsimp -implicitDefEqProofs only [go_sem, Nat.reduceBEq, Nat.reduceAdd, Nat.reduceLeDiff, Nat.reduceSub, Int.reduceEq, h1, h2, h3, h8, h9, h10, hs1, hs2, hs3, hs50, snC]) (by simp -dsimp -implicitDefEqProofs only [go_sem, Nat.reduceBEq, Nat.reduceAdd, Nat.reduceLeDiff, Nat.reduceSub, Int.reduceEq, h1, h2, h3, h8, h9, h10, hs1, hs2, hs3, hs50, snC]) ?_
    rintro r rs ⟨rfl, rfl⟩
    simp -dsimp -implicitDefEqProofs only [go_sem, Nat.reduceBEq, Nat.reduceAdd, Nat.reduceLeDiff, Nat.reduceSub, Int.reduceEq, h1, h2, h3, h8, h9, h10, hs1, hs2, hs3, hs50, snC]
    repeat (first | with_reducible refine ask.of (by first | omega | decide) ?_ | simp -dsimp -implicitDefEqProofs only [go_sem, Nat.reduceBEq, Nat.reduceAdd, Nat.reduceLeDiff, Nat.reduceSub, Int.reduceEq, h1, h2, h3, h8, h9, h10, hs1, hs2, hs3, hs50, bleR, snC, ble67, bl4])
    refine hK _ _ hlt (Wk.refl _) ?_
    simp -dsimp -implicitDefEqProofs only [go_sem, Nat.reduceBEq, Nat.reduceAdd, Nat.reduceLeDiff, Nat.reduceSub, Int.reduceEq, h1, h2, h3, h8, h9, h10, hs1, hs2, hs3, hs50, wrap_succ (show i < 4611686018427387904 by omega), sn_take hlt]
  · have : i = x.h.length := by omega
    subst this
    rw [List.take_length] at hs50
    simp -dsimp -implicitDefEqProofs only [go_sem, Nat.reduceBEq, Nat.reduceAdd, Nat.reduceLeDiff, Nat.reduceSub, Int.reduceEq, h1, h2, h3, h8, h9, h10, hs1, hs2, hs3, hs50]
    repeat (first | with_reducible refine ask.of (by omega) ?_ | simp -dsimp -implicitDefEqProofs only [go_sem, Nat.reduceBEq, Nat.reduceAdd, Nat.reduceLeDiff, Nat.reduceSub, Int.reduceEq, h1, h2, h3, h8, h9, h10, hs1, hs2, hs3, hs50, bleR, bl4])
end Go.Ev
set_option linter.unusedVariables false
namespace Go.Ev
open Go Go.RowKit
theorem CallV.ofE {P : Program} {f : FuncId} {args cs : List AV} {s : St} {d : Option Nat} {K : St → Prop} {all cargs ccs : List AV} {post : AV → Prop} (h : Meets P f all post) (hp : ∀ r, post r → r.pure)
    (ha : argsE P s false (parTys P f) args = some cargs) (hc : s.coeKL cs = some ccs) (he : cargs ++ ccs = all) (hk : ∀ r, post r → K (s.ret d r)) : CallV P f args cs s d K := by
  subst he
  exact CallV.of h hp ha hc hk
theorem tn0 : Int.toNat 0 = 0 := rfl
theorem tn1 : Int.toNat 1 = 1 := rfl
end Go.Ev
set_option linter.unusedSimpArgs false
set_option linter.unusedVariables false
namespace Go.Ev
open Go Go.RowKit Go.Proofs
theorem c_ackedFn (s : Sn) (q : Int) : Meets Try.prog 76 [.agg (snC s), .bx 3 [.v (.int .i64 q)]] (fun r => r = .v (.bool (decide (s.p.c < q)))) := by
  refine Meets.intro mixed (hint []) Try.func76 rfl (by decide) res_76 rty_76 (by kernel_rfl) ?_; 
  simp -dsimp -implicitDefEqProofs only [go_sem, Nat.reduceBEq, Nat.reduceAdd, Nat.reduceLeDiff, Nat.reduceSub, Int.reduceEq, snC]
  repeat (first | with_reducible refine ask.of (by omega) ?_ | simp -dsimp -implicitDefEqProofs only [go_sem, Nat.reduceBEq, Nat.reduceAdd, Nat.reduceLeDiff, Nat.reduceSub, Int.reduceEq, bl4])
theorem par_acked : parTys Try.prog 76 = [40] := by kernel_rfl
def qB (xs : List Sn) : AV := .bx 109 [.row 40 7 (ra snC xs)]
def dropQ (q : Int) (xs : List Sn) : List Sn := xs.dropWhile (fun s => decide (s.p.c < q))
theorem c_dropWhile (xs : List Sn) (q : Int) (hx : xs.length ≤ 1048576) : MeetsM Try.prog 75 [.mu (qB xs), .rd (.fn 76 [.bx 3 [.v (.int .i64 q)]])] (fun r rs => r = .tup [] ∧ rs = [qB (dropQ q xs), .any]) := by
  refine MeetsM.intro mixed (hint [(25, 1)]) Try.func75 rfl (by decide) res_75 rty_75 (pts := parTys Try.prog 75) (by rw [par_75]; rfl) (by kernel_rfl) ?_; rw [par_75]; intro vals; 
  simp -dsimp -implicitDefEqProofs only [go_sem, Nat.reduceBEq, Nat.reduceAdd, Nat.reduceLeDiff, Nat.reduceSub, Int.reduceEq, qB]
  refine LoopE.cnt xs.length (fun i s => s.env 0 = .ptr [1000000, 0, 0] 0 0 0 ∧ s.env 1 = .fn 76 [.rp .ent 3 1 [[.v (.int .i64 q)]] 0 0] ∧ s.σ [1000000, 0, 0] = some (.box 109 [.ref [1000000, 0, 1, 0]]) ∧ s.σ [1000000, 0, 1, 0] = some (.row 40 7 (ra snC (xs.drop i))) ∧ s.σ [1000001, 0] = some (.pin (.ptr [1000000, 0, 0] 0 0 0) (vals 0)) ∧ dropQ q (xs.drop i) = dropQ q xs) ⟨by simp -dsimp -implicitDefEqProofs only [go_sem, Nat.reduceBEq, Nat.reduceAdd, Nat.reduceLeDiff, Nat.reduceSub, Int.reduceEq], by simp -dsimp -implicitDefEqProofs only [go_sem, Nat.reduceBEq, Nat.reduceAdd, Nat.reduceLeDiff, Nat.reduceSub, Int.reduceEq], by simp -dsimp -implicitDefEqProofs only [go_sem, Nat.reduceBEq, Nat.reduceAdd, Nat.reduceLeDiff, Nat.reduceSub, Int.reduceEq], by simp -dsimp -implicitDefEqProofs only [go_sem, Nat.reduceBEq, Nat.reduceAdd, Nat.reduceLeDiff, Nat.reduceSub, Int.reduceEq], by simp -dsimp -implicitDefEqProofs only [go_sem, Nat.reduceBEq, Nat.reduceAdd, Nat.reduceLeDiff, Nat.reduceSub, Int.reduceEq], rfl⟩ ?_
  rintro i ⟨e, σ⟩ hi ⟨h0, h1, hs0, hs1, hs2, hd⟩ K hK
  simp only at h0 h1 hs0 hs1 hs2
  simp -dsimp -implicitDefEqProofs only [go_sem, Nat.reduceBEq, Nat.reduceAdd, Nat.reduceLeDiff, Nat.reduceSub, Int.reduceEq, h0, h1, hs0, hs1, hs2]
  repeat (first | with_reducible refine ask.of (by omega) ?_ | simp -dsimp -implicitDefEqProofs only [go_sem, Nat.reduceBEq, Nat.reduceAdd, Nat.reduceLeDiff, Nat.reduceSub, Int.reduceEq, h0, h1, hs0, hs1, hs2, bl4])
  have hl : (xs.drop i).length = xs.length - i := by simp
  refine ifB'.of (fun hlt => ?_) (fun hlt => ?_)
  · have hlt : 0 < (xs.drop i).length := by omega
    have hlt : i < xs.length := by omega
    have hat : (ra snC (xs.drop i))[0]? = some (snC xs[i]) := by rw [Sn_at (by omega)]; simp
    repeat (first | with_reducible refine ask.of (by first | omega | (constructor <;> omega)) ?_ | simp -dsimp -implicitDefEqProofs only [go_sem, Nat.reduceBEq, Nat.reduceAdd, Nat.reduceLeDiff, Nat.reduceSub, Int.reduceEq, h0, h1, hs0, hs1, hs2, bl4, hat, tn0, snC, ble67, bleR])
    refine CallV.ofE (c_ackedFn xs[i] q) (by rintro r rfl; (repeat' first | exact trivial | exact pure_rowB _ | exact pure_rowO _ | exact pure_rowI _ | exact pure_rowBB _ | exact pure_rowPk _ _ | exact pure_rowSn _ _ | exact pure_rowFd _ _ | exact pure_rowBBB _ | exact pure_rowCl _ _ | exact pure_rowTb _ _ _ | refine And.intro ?_ ?_)) (by first | (simp -dsimp -implicitDefEqProofs only [go_sem, Nat.reduceBEq, Nat.reduceAdd, Nat.reduceLeDiff, Nat.reduceSub, Int.reduceEq, h0, h1, hs0, hs1, hs2, snC, par_acked]; done) | (simp -dsimp -implicitDefEqProofs only [go_sem, Nat.reduceBEq, Nat.reduceAdd, Nat.reduceLeDiff, Nat.reduceSub, Int.reduceEq, h0, h1, hs0, hs1, hs2, snC, par_acked]; rfl)) (by first | (simp -dsimp -implicitDefEqProofs only [go_sem, Nat.reduceBEq, Nat.reduceAdd, Nat.reduceLeDiff, Nat.reduceSub, Int.reduceEq, h0, h1, hs0, hs1, hs2, snC, par_acked]; done) | (simp -dsimp -implicitDefEqProofs only [go_sem, Nat.reduceBEq, Nat.reduceAdd, Nat.reduceLeDiff, Nat.reduceSub, Int.reduceEq, h0, h1, hs0, hs1, hs2, snC, par_acked]; rfl)) (by first | rfl | (simp -dsimp -implicitDefEqProofs only [go_sem, Nat.reduceBEq, Nat.reduceAdd, Nat.reduceLeDiff, Nat.reduceSub, Int.reduceEq, h0, h1, hs0, hs1, hs2, snC, par_acked]; done)) ?_
    rintro r rfl
    simp -dsimp -implicitDefEqProofs only [go_sem, Nat.reduceBEq, Nat.reduceAdd, Nat.reduceLeDiff, Nat.reduceSub, Int.reduceEq, h0, h1, hs0, hs1, hs2, snC, par_acked]
    have hdr : dropQ q (xs.drop i) = if xs[i].p.c < q then dropQ q (xs.drop (i + 1)) else xs.drop i := by
      rw [dropQ, List.drop_eq_getElem_cons hlt, List.dropWhile_cons]
      simp only [decide_eq_true_eq]; rfl
    refine ifB'.of (fun hc => ?_) (fun hc => ?_)
    · repeat (first | with_reducible refine ask.of (by first | omega | (constructor <;> omega)) ?_ | simp -dsimp -implicitDefEqProofs only [go_sem, Nat.reduceBEq, Nat.reduceAdd, Nat.reduceLeDiff, Nat.reduceSub, Int.reduceEq, h0, h1, hs0, hs1, hs2, bl4, hat, tn0, snC, ble67, bleR])
      refine hK _ hlt ?_
      rw [if_pos hc] at hdr
      simp -dsimp -implicitDefEqProofs only [go_sem, Nat.reduceBEq, Nat.reduceAdd, Nat.reduceLeDiff, Nat.reduceSub, Int.reduceEq, h0, h1, hs0, hs1, hs2]
      exact ⟨by rw [tn1, List.take_length, List.drop_drop], hdr.symm.trans hd⟩
    · repeat (first | with_reducible refine ask.of (by first | omega | (constructor <;> omega)) ?_ | simp -dsimp -implicitDefEqProofs only [go_sem, Nat.reduceBEq, Nat.reduceAdd, Nat.reduceLeDiff, Nat.reduceSub, Int.reduceEq, h0, h1, hs0, hs1, hs2, bl4, hat, tn0, snC, ble67, bleR, cty_q])
      all_goals (rw [if_neg hc] at hdr; rw [← hd, hdr])
  · have hlt : ¬ 0 < (xs.drop i).length := by omega
    repeat (first | with_reducible refine ask.of (by first | omega | (constructor <;> omega)) ?_ | simp -dsimp -implicitDefEqProofs only [go_sem, Nat.reduceBEq, Nat.reduceAdd, Nat.reduceLeDiff, Nat.reduceSub, Int.reduceEq, h0, h1, hs0, hs1, hs2, bl4, cty_q, tn0])
    have hnil : xs.drop i = [] := List.eq_nil_of_length_eq_zero (by omega)
    rw [← hd, hnil]
    trivial
def lo0 : LO := ⟨0, 0, 0, []⟩
noncomputable def ackL (x : LO) (q : Int) : LO × Int := @ite _ (okLO x ∧ 0 ≤ q ∧ q ≤ x.b) (Classical.propDecidable _) ({ x with h := dropQ q x.h }, 0) (lo0, 1)
theorem ackL_yes {x : LO} {q : Int} (h : okLO x ∧ 0 ≤ q ∧ q ≤ x.b) : ackL x q = ({ x with h := dropQ q x.h }, 0) := @if_pos _ (Classical.propDecidable _) h _ _ _
theorem ackL_no {x : LO} {q : Int} (h : ¬ (okLO x ∧ 0 ≤ q ∧ q ≤ x.b)) : ackL x q = (lo0, 1) := @if_neg _ (Classical.propDecidable _) h _ _ _
noncomputable def resL (xc : LO × Int) : AV := .tup [.agg (loC 40 xc.1), .v (.int .i64 xc.2)]
theorem loB_t {x : LO} (h : loB x = true) : okLO x := of_decide_eq_true (inst := Classical.propDecidable _) h
theorem loB_f {x : LO} (h : loB x = false) : ¬ okLO x := of_decide_eq_false (inst := Classical.propDecidable _) h
theorem ack_no {x : LO} {q : Int} (h : ¬ (okLO x ∧ 0 ≤ q ∧ q ≤ x.b)) : AV.tup [.agg [.v (.int .i64 0), .v (.int .i64 0), .v (.int .i64 0), .row 40 7 []], .v (.int .i64 1)] = resL (ackL x q) := by rw [ackL_no h]; rfl
set_option maxRecDepth 8000 in
set_option maxHeartbeats 1000000 in
theorem c_implLinkAcked (x : LO) (q : Int) (hx : x.h.length ≤ 1048576) (hb : ∀ b ∈ x.h, b.p.f.length ≤ 1048576) : Meets Try.prog 15 [.agg (loC 40 x), .v (.int .i64 q)] (fun r => r = resL (ackL x q)) := by
  refine Meets.intro mixed (hint []) Try.func15 rfl (by decide) res_15 rty_15 (by kernel_rfl) ?_; 
  simp -dsimp -implicitDefEqProofs only [go_sem, Nat.reduceBEq, Nat.reduceAdd, Nat.reduceLeDiff, Nat.reduceSub, Int.reduceEq, loC]
  repeat (first | with_reducible refine ask.of (by omega) ?_ | simp -dsimp -implicitDefEqProofs only [go_sem, Nat.reduceBEq, Nat.reduceAdd, Nat.reduceLeDiff, Nat.reduceSub, Int.reduceEq, bleR, bl4])
  refine CallE.of (c_implValidOut x hx hb) (by rintro r rfl; (repeat' first | exact trivial | exact pure_rowB _ | exact pure_rowO _ | exact pure_rowI _ | exact pure_rowBB _ | exact pure_rowPk _ _ | exact pure_rowSn _ _ | exact pure_rowFd _ _ | exact pure_rowBBB _ | exact pure_rowCl _ _ | exact pure_rowTb _ _ _ | refine And.intro ?_ ?_)) (by simp -dsimp -implicitDefEqProofs only [go_sem, Nat.reduceBEq, Nat.reduceAdd, Nat.reduceLeDiff, Nat.reduceSub, Int.reduceEq, loC]) ?_
  rintro r rfl
  simp -dsimp -implicitDefEqProofs only [go_sem, Nat.reduceBEq, Nat.reduceAdd, Nat.reduceLeDiff, Nat.reduceSub, Int.reduceEq, loC]
  cases hv : loB x
  · have hv := loB_f hv
    repeat (first | with_reducible refine ask.of (by omega) ?_ | simp -dsimp -implicitDefEqProofs only [go_sem, Nat.reduceBEq, Nat.reduceAdd, Nat.reduceLeDiff, Nat.reduceSub, Int.reduceEq, bleR, bl4, Bool.not_false])
    exact ack_no fun h => hv h.1
  have hv := loB_t hv
  repeat' (first | with_reducible refine ifB'.of (fun h => ?_) (fun h => ?_) | with_reducible refine ask.of (by omega) ?_ | ((with_reducible refine ack_no ?_); omega) | simp -dsimp -implicitDefEqProofs only [go_sem, Nat.reduceBEq, Nat.reduceAdd, Nat.reduceLeDiff, Nat.reduceSub, Int.reduceEq, bleR, bl4, Bool.not_true])
  refine CallE.of (c_outCopy x hx hb) (by rintro r rfl; (repeat' first | exact trivial | exact pure_rowB _ | exact pure_rowO _ | exact pure_rowI _ | exact pure_rowBB _ | exact pure_rowPk _ _ | exact pure_rowSn _ _ | exact pure_rowFd _ _ | exact pure_rowBBB _ | exact pure_rowCl _ _ | exact pure_rowTb _ _ _ | refine And.intro ?_ ?_)) (by simp -dsimp -implicitDefEqProofs only [go_sem, Nat.reduceBEq, Nat.reduceAdd, Nat.reduceLeDiff, Nat.reduceSub, Int.reduceEq, loC]) ?_
  rintro r rfl
  simp -dsimp -implicitDefEqProofs only [go_sem, Nat.reduceBEq, Nat.reduceAdd, Nat.reduceLeDiff, Nat.reduceSub, Int.reduceEq, loC]
  repeat (first | with_reducible refine ask.of (by omega) ?_ | simp -dsimp -implicitDefEqProofs only [go_sem, Nat.reduceBEq, Nat.reduceAdd, Nat.reduceLeDiff, Nat.reduceSub, Int.reduceEq, bleR, bl4])
  refine CallE.mut (c_dropWhile x.h q (by omega)) (by simp -dsimp -implicitDefEqProofs only [go_sem, Nat.reduceBEq, Nat.reduceAdd, Nat.reduceLeDiff, Nat.reduceSub, Int.reduceEq]) (by rintro r rs ⟨rfl, rfl⟩; exact ⟨by (repeat' first | exact trivial | exact pure_rowB _ | exact pure_rowO _ | exact pure_rowI _ | exact pure_rowBB _ | exact pure_rowPk _ _ | exact pure_rowSn _ _ | exact pure_rowFd _ _ | exact pure_rowBBB _ | exact pure_rowCl _ _ | exact pure_rowTb _ _ _ | refine And.intro ?_ ?_), by first | exact ⟨by (repeat' first | exact trivial | exact pure_rowB _ | exact pure_rowO _ | exact pure_rowI _ | exact pure_rowBB _ | exact pure_rowPk _ _ | exact pure_rowSn _ _ | exact pure_rowFd _ _ | exact pure_rowBBB _ | exact pure_rowCl _ _ | exact pure_rowTb _ _ _ | refine And.intro ?_ ?_), trivial⟩ | exact ⟨by (repeat' first | exact trivial | exact pure_rowB _ | exact pure_rowO _ | exact pure_rowI _ | exact pure_rowBB _ | exact pure_rowPk _ _ | exact pure_rowSn _ _ | exact pure_rowFd _ _ | exact pure_rowBBB _ | exact pure_rowCl _ _ | exact pure_rowTb _ _ _ | refine And.intro ?_ ?_), trivial, trivial⟩⟩) (by simp -dsimp -implicitDefEqProofs only [go_sem, Nat.reduceBEq, Nat.reduceAdd, Nat.reduceLeDiff, Nat.reduceSub, Int.reduceEq, qB, cty_q]) (by simp -dsimp -implicitDefEqProofs only [go_sem, Nat.reduceBEq, Nat.reduceAdd, Nat.reduceLeDiff, Nat.reduceSub, Int.reduceEq, qB, cty_q]) ?_
  rintro r rs ⟨rfl, rfl⟩
  simp -dsimp -implicitDefEqProofs only [go_sem, Nat.reduceBEq, Nat.reduceAdd, Nat.reduceLeDiff, Nat.reduceSub, Int.reduceEq, qB, cty_q]
  repeat (first | with_reducible refine ask.of (by omega) ?_ | simp -dsimp -implicitDefEqProofs only [go_sem, Nat.reduceBEq, Nat.reduceAdd, Nat.reduceLeDiff, Nat.reduceSub, Int.reduceEq, bleR, bl4])
  rw [ackL_yes ⟨hv, by omega, by omega⟩]
  rfl
def keepQ (q : Int) (xs : List Sn) : List Sn := xs.filter (fun s => decide (q ≤ s.p.c))
theorem keep_drop (q : Int) : ∀ {xs : List Sn}, xs.Pairwise (fun s t => s.p.c ≤ t.p.c) → keepQ q xs = dropQ q xs
  | [], _ => rfl
  | s :: xs, h => by
    obtain ⟨h1, h2⟩ := List.pairwise_cons.1 h
    by_cases hc : s.p.c < q
    · rw [keepQ, dropQ, List.filter_cons_of_neg (by simpa using hc), List.dropWhile_cons_of_pos (by simpa using hc)]
      exact keep_drop q h2
    · rw [dropQ, List.dropWhile_cons_of_neg (by simpa using hc), keepQ, List.filter_eq_self.2]
      intro t ht
      rcases List.mem_cons.1 ht with rfl | ht
      · simpa using hc
      · have := h1 t ht
        simp; omega
theorem lo_pair {x : LO} (h : okLO x) : x.h.Pairwise (fun s t => s.p.c ≤ t.p.c) := by
  rw [List.pairwise_iff_getElem]
  intro i j hi hj hij
  have h1 := (h.2 i hi).2.2.2.1
  have h2 := (h.2 j hj).2.2.2.1
  omega
theorem keepQ_snoc (q : Int) {xs : List Sn} {i : Nat} (h : i < xs.length) : keepQ q (xs.take (i + 1)) = if q ≤ xs[i].p.c then keepQ q (xs.take i) ++ [xs[i]] else keepQ q (xs.take i) := by
  rw [← sn_take h, keepQ, List.filter_append]
  by_cases hc : q ≤ xs[i].p.c <;> simp [keepQ, hc]
set_option maxRecDepth 8000 in
set_option maxHeartbeats 1000000 in
theorem c_specLinkAcked (x : LO) (q : Int) (hx : x.h.length ≤ 1048576) (hb : ∀ b ∈ x.h, b.p.f.length ≤ 1048576) : Meets Try.prog 170 [.agg (loC 40 x), .v (.int .i64 q)] (fun r => r = resL (ackL x q)) := by
  refine Meets.introO mixed (hint []) (fun k => (sel (k == 9) [0,1,2,3,4,5,6,7,9,10,11,12,13,14,8,15,16,17,18,19] [])) Try.func170 rfl (by decide) res_170 rty_170 (by kernel_rfl) ?_; 
  simp -dsimp -implicitDefEqProofs only [go_sem, Nat.reduceBEq, Nat.reduceAdd, Nat.reduceLeDiff, Nat.reduceSub, Int.reduceEq, loC]
  repeat (first | with_reducible refine ask.of (by omega) ?_ | simp -dsimp -implicitDefEqProofs only [go_sem, Nat.reduceBEq, Nat.reduceAdd, Nat.reduceLeDiff, Nat.reduceSub, Int.reduceEq, bleR, bl4])
  refine CallE.of (c_specValidOut x hx hb) (by rintro r rfl; (repeat' first | exact trivial | exact pure_rowB _ | exact pure_rowO _ | exact pure_rowI _ | exact pure_rowBB _ | exact pure_rowPk _ _ | exact pure_rowSn _ _ | exact pure_rowFd _ _ | exact pure_rowBBB _ | exact pure_rowCl _ _ | exact pure_rowTb _ _ _ | refine And.intro ?_ ?_)) (by simp -dsimp -implicitDefEqProofs only [go_sem, Nat.reduceBEq, Nat.reduceAdd, Nat.reduceLeDiff, Nat.reduceSub, Int.reduceEq, loC]) ?_
  rintro r rfl
  simp -dsimp -implicitDefEqProofs only [go_sem, Nat.reduceBEq, Nat.reduceAdd, Nat.reduceLeDiff, Nat.reduceSub, Int.reduceEq, loC]
  cases hv : loB x
  · have hv := loB_f hv
    repeat (first | with_reducible refine ask.of (by omega) ?_ | simp -dsimp -implicitDefEqProofs only [go_sem, Nat.reduceBEq, Nat.reduceAdd, Nat.reduceLeDiff, Nat.reduceSub, Int.reduceEq, bleR, bl4, Bool.not_false])
    exact ack_no fun h => hv h.1
  have hv := loB_t hv
  repeat' (first | with_reducible refine ifB'.of (fun h => ?_) (fun h => ?_) | with_reducible refine ask.of (by omega) ?_ | ((with_reducible refine ack_no ?_); omega) | simp -dsimp -implicitDefEqProofs only [go_sem, Nat.reduceBEq, Nat.reduceAdd, Nat.reduceLeDiff, Nat.reduceSub, Int.reduceEq, bleR, bl4, Bool.not_true, initE])
  refine CallE.of (c_l5out x hx hb) (by rintro r rfl; (repeat' first | exact trivial | exact pure_rowB _ | exact pure_rowO _ | exact pure_rowI _ | exact pure_rowBB _ | exact pure_rowPk _ _ | exact pure_rowSn _ _ | exact pure_rowFd _ _ | exact pure_rowBBB _ | exact pure_rowCl _ _ | exact pure_rowTb _ _ _ | refine And.intro ?_ ?_)) (by simp -dsimp -implicitDefEqProofs only [go_sem, Nat.reduceBEq, Nat.reduceAdd, Nat.reduceLeDiff, Nat.reduceSub, Int.reduceEq, loC]) ?_
  rintro r rfl
  simp -dsimp -implicitDefEqProofs only [go_sem, Nat.reduceBEq, Nat.reduceAdd, Nat.reduceLeDiff, Nat.reduceSub, Int.reduceEq, loC]
  repeat (first | with_reducible refine ask.of (by omega) ?_ | simp -dsimp -implicitDefEqProofs only [go_sem, Nat.reduceBEq, Nat.reduceAdd, Nat.reduceLeDiff, Nat.reduceSub, Int.reduceEq, bleR, bl4])
  refine LoopE.cntW x.h.length (fun i s => s.env 1 = .v (.int .i64 q) ∧ s.env 2 = .ptr [2] 0 0 0 ∧ s.env 4 = .ptr [4] 0 0 0 ∧ s.env 6 = .ptr [6] 0 0 0 ∧ s.env 7 = .v (.int .i64 i) ∧ s.σ [2] = some (.box 25 [.v (.int .i64 x.a), .v (.int .i64 x.b), .v (.int .i64 x.c), .rd .ent 40 7 (ra snC x.h)])
    ∧ s.σ [4] = some (.box 25 [.v (.int .i64 0), .v (.int .i64 0), .v (.int .i64 0), .v (.slice none 0 0)]) ∧ s.σ [6] = some (.box 25 [.v (.int .i64 x.a), .v (.int .i64 x.b), .v (.int .i64 x.c), .ref [50]]) ∧ s.σ [50] = some (.row 40 7 (ra snC (keepQ q (x.h.take i)))))
    (Wk.box [6] 3 [50] 40 7 25 [.v (.int .i64 x.a), .v (.int .i64 x.b), .v (.int .i64 x.c), .v (.slice none 0 0)] ?_ rfl rfl (Wk.refl _)) ?_ ?_
  · simp -dsimp -implicitDefEqProofs only [go_sem, Nat.reduceBEq, Nat.reduceAdd, Nat.reduceLeDiff, Nat.reduceSub, Int.reduceEq]
  · refine ⟨by simp -dsimp -implicitDefEqProofs only [go_sem, Nat.reduceBEq, Nat.reduceAdd, Nat.reduceLeDiff, Nat.reduceSub, Int.reduceEq, initE], by simp -dsimp -implicitDefEqProofs only [go_sem, Nat.reduceBEq, Nat.reduceAdd, Nat.reduceLeDiff, Nat.reduceSub, Int.reduceEq], by simp -dsimp -implicitDefEqProofs only [go_sem, Nat.reduceBEq, Nat.reduceAdd, Nat.reduceLeDiff, Nat.reduceSub, Int.reduceEq], by simp -dsimp -implicitDefEqProofs only [go_sem, Nat.reduceBEq, Nat.reduceAdd, Nat.reduceLeDiff, Nat.reduceSub, Int.reduceEq], by simp -dsimp -implicitDefEqProofs only [go_sem, Nat.reduceBEq, Nat.reduceAdd, Nat.reduceLeDiff, Nat.reduceSub, Int.reduceEq] <;> rfl, by simp -dsimp -implicitDefEqProofs only [go_sem, Nat.reduceBEq, Nat.reduceAdd, Nat.reduceLeDiff, Nat.reduceSub, Int.reduceEq], by simp -dsimp -implicitDefEqProofs only [go_sem, Nat.reduceBEq, Nat.reduceAdd, Nat.reduceLeDiff, Nat.reduceSub, Int.reduceEq], by simp -dsimp -implicitDefEqProofs only [go_sem, Nat.reduceBEq, Nat.reduceAdd, Nat.reduceLeDiff, Nat.reduceSub, Int.reduceEq] <;> rfl, by simp -dsimp -implicitDefEqProofs only [go_sem, Nat.reduceBEq, Nat.reduceAdd, Nat.reduceLeDiff, Nat.reduceSub, Int.reduceEq] <;> rfl⟩
  rintro i ⟨e, σ⟩ hi ⟨h1, h2, h4, h6, h7, hs2, hs4, hs6, hs50⟩ K hK
  simp only at h1 h2 h4 h6 h7 hs2 hs4 hs6 hs50
  simp -dsimp -implicitDefEqProofs only [go_sem, Nat.reduceBEq, Nat.reduceAdd, Nat.reduceLeDiff, Nat.reduceSub, Int.reduceEq, h1, h2, h4, h6, h7, hs2, hs4, hs6, hs50]
  repeat (first | with_reducible refine ask.of (by omega) ?_ | simp -dsimp -implicitDefEqProofs only [go_sem, Nat.reduceBEq, Nat.reduceAdd, Nat.reduceLeDiff, Nat.reduceSub, Int.reduceEq, h1, h2, h4, h6, h7, hs2, hs4, hs6, hs50, bleR, bl4])
  refine ifB'.of (fun hlt => ?_) (fun hlt => ?_)
  · have hlt : i < x.h.length := by omega
    have hp := hb _ (List.getElem_mem hlt)
    have htl : (keepQ q (x.h.take i)).length ≤ i := by have := List.length_filter_le (fun s : Sn => decide (q ≤ s.p.c)) (x.h.take i); simp only [keepQ] at *; simp at this; omega
    have hks := keepQ_snoc q hlt
    repeat (first | with_reducible refine ask.of (by omega) ?_ | simp -dsimp -implicitDefEqProofs only [go_sem, Nat.reduceBEq, Nat.reduceAdd, Nat.reduceLeDiff, Nat.reduceSub, Int.reduceEq, h1, h2, h4, h6, h7, hs2, hs4, hs6, hs50, bleR, Sn_at hlt, snC, ble67, bl4])
    refine ifB'.of (fun hc => ?_) (fun hc => ?_)
    · rw [if_pos (by omega)] at hks
      repeat (first | with_reducible refine ask.of (by omega) ?_ | simp -dsimp -implicitDefEqProofs only [go_sem, Nat.reduceBEq, Nat.reduceAdd, Nat.reduceLeDiff, Nat.reduceSub, Int.reduceEq, h1, h2, h4, h6, h7, hs2, hs4, hs6, hs50, bleR, Sn_at hlt, snC, ble67, bl4])
      refine CallE.of (c_l5packet x.h[i].p hp) (by rintro r rfl; (repeat' first | exact trivial | exact pure_rowB _ | exact pure_rowO _ | exact pure_rowI _ | exact pure_rowBB _ | exact pure_rowPk _ _ | exact pure_rowSn _ _ | exact pure_rowFd _ _ | exact pure_rowBBB _ | exact pure_rowCl _ _ | exact pure_rowTb _ _ _ | refine And.intro ?_ ?_)) (by simp -dsimp -implicitDefEqProofs only [go_sem, Nat.reduceBEq, Nat.reduceAdd, Nat.reduceLeDiff, Nat.reduceSub, Int.reduceEq, h1, h2, h4, h6, h7, hs2, hs4, hs6, hs50, pkC]) ?_
      rintro r rfl
      simp -dsimp -implicitDefEqProofs only [go_sem, Nat.reduceBEq, Nat.reduceAdd, Nat.reduceLeDiff, Nat.reduceSub, Int.reduceEq, h1, h2, h4, h6, h7, hs2, hs4, hs6, hs50, pkC]
      repeat (first | with_reducible refine ask.of (by first | omega | decide | (simp only [ra_length, List.length_cons, List.length_nil]; omega)) ?_ | simp -dsimp -implicitDefEqProofs only [go_sem, Nat.reduceBEq, Nat.reduceAdd, Nat.reduceLeDiff, Nat.reduceSub, Int.reduceEq, h1, h2, h4, h6, h7, hs2, hs4, hs6, hs50, bleR, snC, ble67, bl4, sn_snoc])
      refine hK _ _ hlt (Wk.refl _) ?_
      simp -dsimp -implicitDefEqProofs only [go_sem, Nat.reduceBEq, Nat.reduceAdd, Nat.reduceLeDiff, Nat.reduceSub, Int.reduceEq, h1, h2, h4, h6, h7, hs2, hs4, hs6, hs50, wrap_succ (show i < 4611686018427387904 by omega), sn_snoc, hks]
    · rw [if_neg (by omega)] at hks
      repeat (first | with_reducible refine ask.of (by omega) ?_ | simp -dsimp -implicitDefEqProofs only [go_sem, Nat.reduceBEq, Nat.reduceAdd, Nat.reduceLeDiff, Nat.reduceSub, Int.reduceEq, h1, h2, h4, h6, h7, hs2, hs4, hs6, hs50, bleR, Sn_at hlt, snC, ble67, bl4])
      refine hK _ _ hlt (Wk.refl _) ?_
      simp -dsimp -implicitDefEqProofs only [go_sem, Nat.reduceBEq, Nat.reduceAdd, Nat.reduceLeDiff, Nat.reduceSub, Int.reduceEq, h1, h2, h4, h6, h7, hs2, hs4, hs6, hs50, wrap_succ (show i < 4611686018427387904 by omega), hks]
  · have : i = x.h.length := by omega
    subst this
    rw [List.take_length, keep_drop q (lo_pair hv)] at hs50
    simp -dsimp -implicitDefEqProofs only [go_sem, Nat.reduceBEq, Nat.reduceAdd, Nat.reduceLeDiff, Nat.reduceSub, Int.reduceEq, h1, h2, h4, h6, h7, hs2, hs4, hs6, hs50]
    repeat (first | with_reducible refine ask.of (by omega) ?_ | simp -dsimp -implicitDefEqProofs only [go_sem, Nat.reduceBEq, Nat.reduceAdd, Nat.reduceLeDiff, Nat.reduceSub, Int.reduceEq, h1, h2, h4, h6, h7, hs2, hs4, hs6, hs50, bleR, bl4])
    rw [ackL_yes ⟨hv, by omega, by omega⟩]
    rfl
end Go.Ev
