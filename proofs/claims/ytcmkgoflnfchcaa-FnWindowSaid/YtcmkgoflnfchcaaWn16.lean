/- Part 16 of what the row leans on: the evaluator, words, contracts of functions; pruned by a program of ours. -/
import Derived.Test.YtcmkgoflnfchcaaWn15
set_option linter.unusedSimpArgs false
set_option linter.unusedVariables false
namespace Go.Ev
open Go Go.RowKit Go.Proofs
theorem exLO {P : LO → Prop} {a b c : Int} {h : List Sn} (hp : P ⟨a, b, c, h⟩) : ∃ v, P v := ⟨_, hp⟩
theorem raZ {α : Type} (enc : α → List AV) : ra enc [] = [] := rfl
set_option maxRecDepth 8000 in
set_option maxHeartbeats 8000000 in
theorem x_l5spoilOut (x : LO) (hx : Bd x) (c : List UInt8) (p : Nat) (hp : p ≤ c.length) (hc : c.length ≤ 600) : ∃ v : LO, MeetsM Try.prog 147 [.mu (.agg (loC 40 x)), .mu (rdAt c p)] (fun r rs => r = .agg (loC 40 v) ∧ rs = [.agg [.v (.int .i64 x.a), .v (.int .i64 x.b), .v (.int .i64 x.c), .any], rdAt c (nxP c (nxP c p))]) ∧ Bd v := by
  have hq1 := nxP_le c hp
  have hN := c_next c p (by omega)
  have hN1 := c_next c (nxP c p) (by omega)
  have e8 := tmodL (nxV c p) 8
  have hk8 : nxV c p % 8 < 8 := Nat.mod_lt _ (by decide)
  simp only [show ((8 : Nat) : Int) = 8 from rfl] at e8
  generalize nxP c (nxP c p) = q2 at *
  generalize nxV c (nxP c p) = k2 at *
  generalize nxP c p = q1 at *
  generalize nxV c p % 8 = k at *
  have hxl := hx.1
  by_cases h0 : x.h = []
  · obtain ⟨xa, xb, xc, xh⟩ := x
    simp only at h0 hxl
    subst h0
    have hk : k = 0 ∨ k = 1 ∨ k = 2 ∨ 3 ≤ k := by omega
    rcases hk with hk | hk | hk | hk
    all_goals
      apply exLO
      refine And.intro ?_ ?_
      · refine MeetsM.introO mixed (hint []) (fun k => (sel (k == 16) [0,1,2,3,4,5,6,7,8,9,10,11,12] (sel (k == 18) [0,1,2,3,4,5,6,7,8,9] (sel (k == 20) [0,1,2,3,4,5,6,7,8,9,10] (sel (k == 22) [0,1,2,3,4,5,6,7,8,9,10] (sel (k == 23) [0,1,2,3,4,5,6,7,8,9,10] [])))))) Try.func147 rfl (by decide) res_147 rty_147 (pts := parTys Try.prog 147) (by rw [par_147]; rfl) (by kernel_rfl) ?_; rw [par_147]; intro vals; 
        simp -dsimp -implicitDefEqProofs only [go_sem, Nat.reduceBEq, Nat.reduceAdd, Nat.reduceLeDiff, Nat.reduceSub, Int.reduceEq, rdAt, loC, raZ]
        refine CallE.mutLend (hN) (by simp -dsimp -implicitDefEqProofs only [go_sem, Nat.reduceBEq, Nat.reduceAdd, Nat.reduceLeDiff, Nat.reduceSub, Int.reduceEq]) (by simp -dsimp -implicitDefEqProofs only [go_sem, Nat.reduceBEq, Nat.reduceAdd, Nat.reduceLeDiff, Nat.reduceSub, Int.reduceEq, rdAt]) (by simp -dsimp -implicitDefEqProofs only [go_sem, Nat.reduceBEq, Nat.reduceAdd, Nat.reduceLeDiff, Nat.reduceSub, Int.reduceEq, rdAt]) ?_
        rintro r rs ⟨rfl, rfl⟩
        simp -dsimp -implicitDefEqProofs only [go_sem, Nat.reduceBEq, Nat.reduceAdd, Nat.reduceLeDiff, Nat.reduceSub, Int.reduceEq, rdAt]
        simp -dsimp -implicitDefEqProofs only [go_sem, Nat.reduceBEq, Nat.reduceAdd, Nat.reduceLeDiff, Nat.reduceSub, Int.reduceEq, e8]
        refine CallE.mutLend (hN1) (by simp -dsimp -implicitDefEqProofs only [go_sem, Nat.reduceBEq, Nat.reduceAdd, Nat.reduceLeDiff, Nat.reduceSub, Int.reduceEq]) (by simp -dsimp -implicitDefEqProofs only [go_sem, Nat.reduceBEq, Nat.reduceAdd, Nat.reduceLeDiff, Nat.reduceSub, Int.reduceEq, rdAt]) (by simp -dsimp -implicitDefEqProofs only [go_sem, Nat.reduceBEq, Nat.reduceAdd, Nat.reduceLeDiff, Nat.reduceSub, Int.reduceEq, rdAt]) ?_
        rintro r rs ⟨rfl, rfl⟩
        simp -dsimp -implicitDefEqProofs only [go_sem, Nat.reduceBEq, Nat.reduceAdd, Nat.reduceLeDiff, Nat.reduceSub, Int.reduceEq, rdAt]
        repeat' (first | with_reducible refine ask.of (by first | omega | decide) ?_ | ((with_reducible refine ifB'.of (fun h => ?_) (fun h => ?_)) <;> first | (exfalso; omega) | (exfalso; simp at h; done) | skip) | simp -dsimp -implicitDefEqProofs only [go_sem, Nat.reduceBEq, Nat.reduceAdd, Nat.reduceLeDiff, Nat.reduceSub, Int.reduceEq, blA, bl4, bleR, bl67, cty_rd])
        all_goals (try rw [show AV.row 40 7 [] = AV.row 40 7 (ra snC []) from rfl])
        all_goals (first | exact ⟨rfl, rfl⟩ | exact rfl | skip)
      · exact ⟨Nat.zero_le _, fun b hb => by cases hb⟩
  · have hl0 : 0 < x.h.length := List.length_pos_iff.2 h0
    have hi : k2 % x.h.length < x.h.length := Nat.mod_lt _ hl0
    have ei := tmodL k2 x.h.length
    generalize k2 % x.h.length = i at *
    have hA : (ra snC x.h)[i]? = some (snC x.h[i]) := ra_at hi
    have hS : ∀ s, (ra snC x.h).set i (snC s) = ra snC (x.h.set i s) := fun s => ra_set (enc := snC) _ _ _
    have hB : ∀ (a b c' : Int) (s : Sn), s.p.f.length ≤ 1000 → Bd ⟨a, b, c', x.h.set i s⟩ := fun a b c' s hs => by
      refine ⟨by show (x.h.set i s).length ≤ 300; rw [List.length_set]; exact hx.1, fun b hb => ?_⟩
      rcases List.mem_or_eq_of_mem_set hb with hb | rfl
      · exact hx.2 b hb
      · exact hs
    have hF := hx.2 _ (List.getElem_mem hi)
    have hk : k = 0 ∨ k = 1 ∨ k = 2 ∨ k = 3 ∨ k = 4 ∨ k = 5 ∨ k = 6 ∨ k = 7 := by omega
    rcases hk with hk | hk | hk | hk | hk | hk | hk | hk
    · refine ⟨⟨x.a, IntKind.i64.wrap (x.b + 1), x.c, x.h⟩, ?_, hx⟩
      refine MeetsM.introO mixed (hint []) (fun k => (sel (k == 16) [0,1,2,3,4,5,6,7,8,9,10,11,12] (sel (k == 18) [0,1,2,3,4,5,6,7,8,9] (sel (k == 20) [0,1,2,3,4,5,6,7,8,9,10] (sel (k == 22) [0,1,2,3,4,5,6,7,8,9,10] (sel (k == 23) [0,1,2,3,4,5,6,7,8,9,10] [])))))) Try.func147 rfl (by decide) res_147 rty_147 (pts := parTys Try.prog 147) (by rw [par_147]; rfl) (by kernel_rfl) ?_; rw [par_147]; intro vals; 
      simp -dsimp -implicitDefEqProofs only [go_sem, Nat.reduceBEq, Nat.reduceAdd, Nat.reduceLeDiff, Nat.reduceSub, Int.reduceEq, rdAt, loC]
      refine CallE.mutLend (hN) (by simp -dsimp -implicitDefEqProofs only [go_sem, Nat.reduceBEq, Nat.reduceAdd, Nat.reduceLeDiff, Nat.reduceSub, Int.reduceEq]) (by simp -dsimp -implicitDefEqProofs only [go_sem, Nat.reduceBEq, Nat.reduceAdd, Nat.reduceLeDiff, Nat.reduceSub, Int.reduceEq, rdAt]) (by simp -dsimp -implicitDefEqProofs only [go_sem, Nat.reduceBEq, Nat.reduceAdd, Nat.reduceLeDiff, Nat.reduceSub, Int.reduceEq, rdAt]) ?_
      rintro r rs ⟨rfl, rfl⟩
      simp -dsimp -implicitDefEqProofs only [go_sem, Nat.reduceBEq, Nat.reduceAdd, Nat.reduceLeDiff, Nat.reduceSub, Int.reduceEq, rdAt]
      simp -dsimp -implicitDefEqProofs only [go_sem, Nat.reduceBEq, Nat.reduceAdd, Nat.reduceLeDiff, Nat.reduceSub, Int.reduceEq, e8]
      refine CallE.mutLend (hN1) (by simp -dsimp -implicitDefEqProofs only [go_sem, Nat.reduceBEq, Nat.reduceAdd, Nat.reduceLeDiff, Nat.reduceSub, Int.reduceEq]) (by simp -dsimp -implicitDefEqProofs only [go_sem, Nat.reduceBEq, Nat.reduceAdd, Nat.reduceLeDiff, Nat.reduceSub, Int.reduceEq, rdAt]) (by simp -dsimp -implicitDefEqProofs only [go_sem, Nat.reduceBEq, Nat.reduceAdd, Nat.reduceLeDiff, Nat.reduceSub, Int.reduceEq, rdAt]) ?_
      rintro r rs ⟨rfl, rfl⟩
      simp -dsimp -implicitDefEqProofs only [go_sem, Nat.reduceBEq, Nat.reduceAdd, Nat.reduceLeDiff, Nat.reduceSub, Int.reduceEq, rdAt]
      repeat' (first | with_reducible refine ask.of (by first | omega | decide | (simp only [ra_length, List.length_set]; omega)) ?_ | ((with_reducible refine ifB'.of (fun h => ?_) (fun h => ?_)) <;> first | (exfalso; omega) | skip) | simp -dsimp -implicitDefEqProofs only [go_sem, Nat.reduceBEq, Nat.reduceAdd, Nat.reduceLeDiff, Nat.reduceSub, Int.reduceEq, blA, bl4, bleR, bl67, cty_rd, ei, hA, snC])
      all_goals (first | exact ⟨rfl, rfl⟩ | skip)
    · refine ⟨⟨IntKind.i64.wrap (x.a + 1), x.b, x.c, x.h⟩, ?_, hx⟩
      refine MeetsM.introO mixed (hint []) (fun k => (sel (k == 16) [0,1,2,3,4,5,6,7,8,9,10,11,12] (sel (k == 18) [0,1,2,3,4,5,6,7,8,9] (sel (k == 20) [0,1,2,3,4,5,6,7,8,9,10] (sel (k == 22) [0,1,2,3,4,5,6,7,8,9,10] (sel (k == 23) [0,1,2,3,4,5,6,7,8,9,10] [])))))) Try.func147 rfl (by decide) res_147 rty_147 (pts := parTys Try.prog 147) (by rw [par_147]; rfl) (by kernel_rfl) ?_; rw [par_147]; intro vals; 
      simp -dsimp -implicitDefEqProofs only [go_sem, Nat.reduceBEq, Nat.reduceAdd, Nat.reduceLeDiff, Nat.reduceSub, Int.reduceEq, rdAt, loC]
      refine CallE.mutLend (hN) (by simp -dsimp -implicitDefEqProofs only [go_sem, Nat.reduceBEq, Nat.reduceAdd, Nat.reduceLeDiff, Nat.reduceSub, Int.reduceEq]) (by simp -dsimp -implicitDefEqProofs only [go_sem, Nat.reduceBEq, Nat.reduceAdd, Nat.reduceLeDiff, Nat.reduceSub, Int.reduceEq, rdAt]) (by simp -dsimp -implicitDefEqProofs only [go_sem, Nat.reduceBEq, Nat.reduceAdd, Nat.reduceLeDiff, Nat.reduceSub, Int.reduceEq, rdAt]) ?_
      rintro r rs ⟨rfl, rfl⟩
      simp -dsimp -implicitDefEqProofs only [go_sem, Nat.reduceBEq, Nat.reduceAdd, Nat.reduceLeDiff, Nat.reduceSub, Int.reduceEq, rdAt]
      simp -dsimp -implicitDefEqProofs only [go_sem, Nat.reduceBEq, Nat.reduceAdd, Nat.reduceLeDiff, Nat.reduceSub, Int.reduceEq, e8]
      refine CallE.mutLend (hN1) (by simp -dsimp -implicitDefEqProofs only [go_sem, Nat.reduceBEq, Nat.reduceAdd, Nat.reduceLeDiff, Nat.reduceSub, Int.reduceEq]) (by simp -dsimp -implicitDefEqProofs only [go_sem, Nat.reduceBEq, Nat.reduceAdd, Nat.reduceLeDiff, Nat.reduceSub, Int.reduceEq, rdAt]) (by simp -dsimp -implicitDefEqProofs only [go_sem, Nat.reduceBEq, Nat.reduceAdd, Nat.reduceLeDiff, Nat.reduceSub, Int.reduceEq, rdAt]) ?_
      rintro r rs ⟨rfl, rfl⟩
      simp -dsimp -implicitDefEqProofs only [go_sem, Nat.reduceBEq, Nat.reduceAdd, Nat.reduceLeDiff, Nat.reduceSub, Int.reduceEq, rdAt]
      repeat' (first | with_reducible refine ask.of (by first | omega | decide | (simp only [ra_length, List.length_set]; omega)) ?_ | ((with_reducible refine ifB'.of (fun h => ?_) (fun h => ?_)) <;> first | (exfalso; omega) | skip) | simp -dsimp -implicitDefEqProofs only [go_sem, Nat.reduceBEq, Nat.reduceAdd, Nat.reduceLeDiff, Nat.reduceSub, Int.reduceEq, blA, bl4, bleR, bl67, cty_rd, ei, hA, snC])
      all_goals (first | exact ⟨rfl, rfl⟩ | skip)
    · refine ⟨⟨x.a, x.b, 1000000001, x.h⟩, ?_, hx⟩
      refine MeetsM.introO mixed (hint []) (fun k => (sel (k == 16) [0,1,2,3,4,5,6,7,8,9,10,11,12] (sel (k == 18) [0,1,2,3,4,5,6,7,8,9] (sel (k == 20) [0,1,2,3,4,5,6,7,8,9,10] (sel (k == 22) [0,1,2,3,4,5,6,7,8,9,10] (sel (k == 23) [0,1,2,3,4,5,6,7,8,9,10] [])))))) Try.func147 rfl (by decide) res_147 rty_147 (pts := parTys Try.prog 147) (by rw [par_147]; rfl) (by kernel_rfl) ?_; rw [par_147]; intro vals; 
      simp -dsimp -implicitDefEqProofs only [go_sem, Nat.reduceBEq, Nat.reduceAdd, Nat.reduceLeDiff, Nat.reduceSub, Int.reduceEq, rdAt, loC]
      refine CallE.mutLend (hN) (by simp -dsimp -implicitDefEqProofs only [go_sem, Nat.reduceBEq, Nat.reduceAdd, Nat.reduceLeDiff, Nat.reduceSub, Int.reduceEq]) (by simp -dsimp -implicitDefEqProofs only [go_sem, Nat.reduceBEq, Nat.reduceAdd, Nat.reduceLeDiff, Nat.reduceSub, Int.reduceEq, rdAt]) (by simp -dsimp -implicitDefEqProofs only [go_sem, Nat.reduceBEq, Nat.reduceAdd, Nat.reduceLeDiff, Nat.reduceSub, Int.reduceEq, rdAt]) ?_
      rintro r rs ⟨rfl, rfl⟩
      simp -dsimp -implicitDefEqProofs only [go_sem, Nat.reduceBEq, Nat.reduceAdd, Nat.reduceLeDiff, Nat.reduceSub, Int.reduceEq, rdAt]
      simp -dsimp -implicitDefEqProofs only [go_sem, Nat.reduceBEq, Nat.reduceAdd, Nat.reduceLeDiff, Nat.reduceSub, Int.reduceEq, e8]
      refine CallE.mutLend (hN1) (by simp -dsimp -implicitDefEqProofs only [go_sem, Nat.reduceBEq, Nat.reduceAdd, Nat.reduceLeDiff, Nat.reduceSub, Int.reduceEq]) (by simp -dsimp -implicitDefEqProofs only [go_sem, Nat.reduceBEq, Nat.reduceAdd, Nat.reduceLeDiff, Nat.reduceSub, Int.reduceEq, rdAt]) (by simp -dsimp -implicitDefEqProofs only [go_sem, Nat.reduceBEq, Nat.reduceAdd, Nat.reduceLeDiff, Nat.reduceSub, Int.reduceEq, rdAt]) ?_
      rintro r rs ⟨rfl, rfl⟩
      simp -dsimp -implicitDefEqProofs only [go_sem, Nat.reduceBEq, Nat.reduceAdd, Nat.reduceLeDiff, Nat.reduceSub, Int.reduceEq, rdAt]
      repeat' (first | with_reducible refine ask.of (by first | omega | decide | (simp only [ra_length, List.length_set]; omega)) ?_ | ((with_reducible refine ifB'.of (fun h => ?_) (fun h => ?_)) <;> first | (exfalso; omega) | skip) | simp -dsimp -implicitDefEqProofs only [go_sem, Nat.reduceBEq, Nat.reduceAdd, Nat.reduceLeDiff, Nat.reduceSub, Int.reduceEq, blA, bl4, bleR, bl67, cty_rd, ei, hA, snC])
      all_goals (first | exact ⟨rfl, rfl⟩ | skip)
    · refine ⟨⟨x.a, x.b, x.c, x.h.set i ⟨x.h[i].p, IntKind.i64.wrap (x.c + 1)⟩⟩, ?_, hB _ _ _ _ (by first | exact hF | exact Nat.zero_le _)⟩
      refine MeetsM.introO mixed (hint []) (fun k => (sel (k == 16) [0,1,2,3,4,5,6,7,8,9,10,11,12] (sel (k == 18) [0,1,2,3,4,5,6,7,8,9] (sel (k == 20) [0,1,2,3,4,5,6,7,8,9,10] (sel (k == 22) [0,1,2,3,4,5,6,7,8,9,10] (sel (k == 23) [0,1,2,3,4,5,6,7,8,9,10] [])))))) Try.func147 rfl (by decide) res_147 rty_147 (pts := parTys Try.prog 147) (by rw [par_147]; rfl) (by kernel_rfl) ?_; rw [par_147]; intro vals; 
      simp -dsimp -implicitDefEqProofs only [go_sem, Nat.reduceBEq, Nat.reduceAdd, Nat.reduceLeDiff, Nat.reduceSub, Int.reduceEq, rdAt, loC]
      refine CallE.mutLend (hN) (by simp -dsimp -implicitDefEqProofs only [go_sem, Nat.reduceBEq, Nat.reduceAdd, Nat.reduceLeDiff, Nat.reduceSub, Int.reduceEq]) (by simp -dsimp -implicitDefEqProofs only [go_sem, Nat.reduceBEq, Nat.reduceAdd, Nat.reduceLeDiff, Nat.reduceSub, Int.reduceEq, rdAt]) (by simp -dsimp -implicitDefEqProofs only [go_sem, Nat.reduceBEq, Nat.reduceAdd, Nat.reduceLeDiff, Nat.reduceSub, Int.reduceEq, rdAt]) ?_
      rintro r rs ⟨rfl, rfl⟩
      simp -dsimp -implicitDefEqProofs only [go_sem, Nat.reduceBEq, Nat.reduceAdd, Nat.reduceLeDiff, Nat.reduceSub, Int.reduceEq, rdAt]
      simp -dsimp -implicitDefEqProofs only [go_sem, Nat.reduceBEq, Nat.reduceAdd, Nat.reduceLeDiff, Nat.reduceSub, Int.reduceEq, e8]
      refine CallE.mutLend (hN1) (by simp -dsimp -implicitDefEqProofs only [go_sem, Nat.reduceBEq, Nat.reduceAdd, Nat.reduceLeDiff, Nat.reduceSub, Int.reduceEq]) (by simp -dsimp -implicitDefEqProofs only [go_sem, Nat.reduceBEq, Nat.reduceAdd, Nat.reduceLeDiff, Nat.reduceSub, Int.reduceEq, rdAt]) (by simp -dsimp -implicitDefEqProofs only [go_sem, Nat.reduceBEq, Nat.reduceAdd, Nat.reduceLeDiff, Nat.reduceSub, Int.reduceEq, rdAt]) ?_
      rintro r rs ⟨rfl, rfl⟩
      simp -dsimp -implicitDefEqProofs only [go_sem, Nat.reduceBEq, Nat.reduceAdd, Nat.reduceLeDiff, Nat.reduceSub, Int.reduceEq, rdAt]
      repeat' (first | with_reducible refine ask.of (by first | omega | decide | (simp only [ra_length, List.length_set]; omega)) ?_ | ((with_reducible refine ifB'.of (fun h => ?_) (fun h => ?_)) <;> first | (exfalso; omega) | skip) | simp -dsimp -implicitDefEqProofs only [go_sem, Nat.reduceBEq, Nat.reduceAdd, Nat.reduceLeDiff, Nat.reduceSub, Int.reduceEq, blA, bl4, bleR, bl67, cty_rd, ei, hA, snC])
      rw [← hS ⟨x.h[i].p, IntKind.i64.wrap (x.c + 1)⟩]
      rfl
    · refine ⟨⟨x.a, x.b, x.c, x.h.set i ⟨x.h[i].p, -2⟩⟩, ?_, hB _ _ _ _ (by first | exact hF | exact Nat.zero_le _)⟩
      refine MeetsM.introO mixed (hint []) (fun k => (sel (k == 16) [0,1,2,3,4,5,6,7,8,9,10,11,12] (sel (k == 18) [0,1,2,3,4,5,6,7,8,9] (sel (k == 20) [0,1,2,3,4,5,6,7,8,9,10] (sel (k == 22) [0,1,2,3,4,5,6,7,8,9,10] (sel (k == 23) [0,1,2,3,4,5,6,7,8,9,10] [])))))) Try.func147 rfl (by decide) res_147 rty_147 (pts := parTys Try.prog 147) (by rw [par_147]; rfl) (by kernel_rfl) ?_; rw [par_147]; intro vals; 
      simp -dsimp -implicitDefEqProofs only [go_sem, Nat.reduceBEq, Nat.reduceAdd, Nat.reduceLeDiff, Nat.reduceSub, Int.reduceEq, rdAt, loC]
      refine CallE.mutLend (hN) (by simp -dsimp -implicitDefEqProofs only [go_sem, Nat.reduceBEq, Nat.reduceAdd, Nat.reduceLeDiff, Nat.reduceSub, Int.reduceEq]) (by simp -dsimp -implicitDefEqProofs only [go_sem, Nat.reduceBEq, Nat.reduceAdd, Nat.reduceLeDiff, Nat.reduceSub, Int.reduceEq, rdAt]) (by simp -dsimp -implicitDefEqProofs only [go_sem, Nat.reduceBEq, Nat.reduceAdd, Nat.reduceLeDiff, Nat.reduceSub, Int.reduceEq, rdAt]) ?_
      rintro r rs ⟨rfl, rfl⟩
      simp -dsimp -implicitDefEqProofs only [go_sem, Nat.reduceBEq, Nat.reduceAdd, Nat.reduceLeDiff, Nat.reduceSub, Int.reduceEq, rdAt]
      simp -dsimp -implicitDefEqProofs only [go_sem, Nat.reduceBEq, Nat.reduceAdd, Nat.reduceLeDiff, Nat.reduceSub, Int.reduceEq, e8]
      refine CallE.mutLend (hN1) (by simp -dsimp -implicitDefEqProofs only [go_sem, Nat.reduceBEq, Nat.reduceAdd, Nat.reduceLeDiff, Nat.reduceSub, Int.reduceEq]) (by simp -dsimp -implicitDefEqProofs only [go_sem, Nat.reduceBEq, Nat.reduceAdd, Nat.reduceLeDiff, Nat.reduceSub, Int.reduceEq, rdAt]) (by simp -dsimp -implicitDefEqProofs only [go_sem, Nat.reduceBEq, Nat.reduceAdd, Nat.reduceLeDiff, Nat.reduceSub, Int.reduceEq, rdAt]) ?_
      rintro r rs ⟨rfl, rfl⟩
      simp -dsimp -implicitDefEqProofs only [go_sem, Nat.reduceBEq, Nat.reduceAdd, Nat.reduceLeDiff, Nat.reduceSub, Int.reduceEq, rdAt]
      repeat' (first | with_reducible refine ask.of (by first | omega | decide | (simp only [ra_length, List.length_set]; omega)) ?_ | ((with_reducible refine ifB'.of (fun h => ?_) (fun h => ?_)) <;> first | (exfalso; omega) | skip) | simp -dsimp -implicitDefEqProofs only [go_sem, Nat.reduceBEq, Nat.reduceAdd, Nat.reduceLeDiff, Nat.reduceSub, Int.reduceEq, blA, bl4, bleR, bl67, cty_rd, ei, hA, snC])
      rw [← hS ⟨x.h[i].p, -2⟩]
      rfl
    · refine ⟨⟨x.a, x.b, x.c, x.h.set i ⟨⟨x.h[i].p.a, x.h[i].p.b, x.h[i].p.c, x.h[i].p.d, x.h[i].p.e, []⟩, x.h[i].q⟩⟩, ?_, hB _ _ _ _ (by first | exact hF | exact Nat.zero_le _)⟩
      refine MeetsM.introO mixed (hint []) (fun k => (sel (k == 16) [0,1,2,3,4,5,6,7,8,9,10,11,12] (sel (k == 18) [0,1,2,3,4,5,6,7,8,9] (sel (k == 20) [0,1,2,3,4,5,6,7,8,9,10] (sel (k == 22) [0,1,2,3,4,5,6,7,8,9,10] (sel (k == 23) [0,1,2,3,4,5,6,7,8,9,10] [])))))) Try.func147 rfl (by decide) res_147 rty_147 (pts := parTys Try.prog 147) (by rw [par_147]; rfl) (by kernel_rfl) ?_; rw [par_147]; intro vals; 
      simp -dsimp -implicitDefEqProofs only [go_sem, Nat.reduceBEq, Nat.reduceAdd, Nat.reduceLeDiff, Nat.reduceSub, Int.reduceEq, rdAt, loC]
      refine CallE.mutLend (hN) (by simp -dsimp -implicitDefEqProofs only [go_sem, Nat.reduceBEq, Nat.reduceAdd, Nat.reduceLeDiff, Nat.reduceSub, Int.reduceEq]) (by simp -dsimp -implicitDefEqProofs only [go_sem, Nat.reduceBEq, Nat.reduceAdd, Nat.reduceLeDiff, Nat.reduceSub, Int.reduceEq, rdAt]) (by simp -dsimp -implicitDefEqProofs only [go_sem, Nat.reduceBEq, Nat.reduceAdd, Nat.reduceLeDiff, Nat.reduceSub, Int.reduceEq, rdAt]) ?_
      rintro r rs ⟨rfl, rfl⟩
      simp -dsimp -implicitDefEqProofs only [go_sem, Nat.reduceBEq, Nat.reduceAdd, Nat.reduceLeDiff, Nat.reduceSub, Int.reduceEq, rdAt]
      simp -dsimp -implicitDefEqProofs only [go_sem, Nat.reduceBEq, Nat.reduceAdd, Nat.reduceLeDiff, Nat.reduceSub, Int.reduceEq, e8]
      refine CallE.mutLend (hN1) (by simp -dsimp -implicitDefEqProofs only [go_sem, Nat.reduceBEq, Nat.reduceAdd, Nat.reduceLeDiff, Nat.reduceSub, Int.reduceEq]) (by simp -dsimp -implicitDefEqProofs only [go_sem, Nat.reduceBEq, Nat.reduceAdd, Nat.reduceLeDiff, Nat.reduceSub, Int.reduceEq, rdAt]) (by simp -dsimp -implicitDefEqProofs only [go_sem, Nat.reduceBEq, Nat.reduceAdd, Nat.reduceLeDiff, Nat.reduceSub, Int.reduceEq, rdAt]) ?_
      rintro r rs ⟨rfl, rfl⟩
      simp -dsimp -implicitDefEqProofs only [go_sem, Nat.reduceBEq, Nat.reduceAdd, Nat.reduceLeDiff, Nat.reduceSub, Int.reduceEq, rdAt]
      repeat' (first | with_reducible refine ask.of (by first | omega | decide | (simp only [ra_length, List.length_set]; omega)) ?_ | ((with_reducible refine ifB'.of (fun h => ?_) (fun h => ?_)) <;> first | (exfalso; omega) | skip) | simp -dsimp -implicitDefEqProofs only [go_sem, Nat.reduceBEq, Nat.reduceAdd, Nat.reduceLeDiff, Nat.reduceSub, Int.reduceEq, blA, bl4, bleR, bl67, cty_rd, ei, hA, snC])
      rw [← hS ⟨⟨x.h[i].p.a, x.h[i].p.b, x.h[i].p.c, x.h[i].p.d, x.h[i].p.e, []⟩, x.h[i].q⟩]
      rfl
    · refine ⟨⟨x.a, x.b, x.c, x.h.set i ⟨⟨x.h[i].p.a, x.h[i].p.b, x.h[i].p.c, 1, x.h[i].p.e, x.h[i].p.f⟩, x.h[i].q⟩⟩, ?_, hB _ _ _ _ (by first | exact hF | exact Nat.zero_le _)⟩
      refine MeetsM.introO mixed (hint []) (fun k => (sel (k == 16) [0,1,2,3,4,5,6,7,8,9,10,11,12] (sel (k == 18) [0,1,2,3,4,5,6,7,8,9] (sel (k == 20) [0,1,2,3,4,5,6,7,8,9,10] (sel (k == 22) [0,1,2,3,4,5,6,7,8,9,10] (sel (k == 23) [0,1,2,3,4,5,6,7,8,9,10] [])))))) Try.func147 rfl (by decide) res_147 rty_147 (pts := parTys Try.prog 147) (by rw [par_147]; rfl) (by kernel_rfl) ?_; rw [par_147]; intro vals; 
      simp -dsimp -implicitDefEqProofs only [go_sem, Nat.reduceBEq, Nat.reduceAdd, Nat.reduceLeDiff, Nat.reduceSub, Int.reduceEq, rdAt, loC]
      refine CallE.mutLend (hN) (by simp -dsimp -implicitDefEqProofs only [go_sem, Nat.reduceBEq, Nat.reduceAdd, Nat.reduceLeDiff, Nat.reduceSub, Int.reduceEq]) (by simp -dsimp -implicitDefEqProofs only [go_sem, Nat.reduceBEq, Nat.reduceAdd, Nat.reduceLeDiff, Nat.reduceSub, Int.reduceEq, rdAt]) (by simp -dsimp -implicitDefEqProofs only [go_sem, Nat.reduceBEq, Nat.reduceAdd, Nat.reduceLeDiff, Nat.reduceSub, Int.reduceEq, rdAt]) ?_
      rintro r rs ⟨rfl, rfl⟩
      simp -dsimp -implicitDefEqProofs only [go_sem, Nat.reduceBEq, Nat.reduceAdd, Nat.reduceLeDiff, Nat.reduceSub, Int.reduceEq, rdAt]
      simp -dsimp -implicitDefEqProofs only [go_sem, Nat.reduceBEq, Nat.reduceAdd, Nat.reduceLeDiff, Nat.reduceSub, Int.reduceEq, e8]
      refine CallE.mutLend (hN1) (by simp -dsimp -implicitDefEqProofs only [go_sem, Nat.reduceBEq, Nat.reduceAdd, Nat.reduceLeDiff, Nat.reduceSub, Int.reduceEq]) (by simp -dsimp -implicitDefEqProofs only [go_sem, Nat.reduceBEq, Nat.reduceAdd, Nat.reduceLeDiff, Nat.reduceSub, Int.reduceEq, rdAt]) (by simp -dsimp -implicitDefEqProofs only [go_sem, Nat.reduceBEq, Nat.reduceAdd, Nat.reduceLeDiff, Nat.reduceSub, Int.reduceEq, rdAt]) ?_
      rintro r rs ⟨rfl, rfl⟩
      simp -dsimp -implicitDefEqProofs only [go_sem, Nat.reduceBEq, Nat.reduceAdd, Nat.reduceLeDiff, Nat.reduceSub, Int.reduceEq, rdAt]
      repeat' (first | with_reducible refine ask.of (by first | omega | decide | (simp only [ra_length, List.length_set]; omega)) ?_ | ((with_reducible refine ifB'.of (fun h => ?_) (fun h => ?_)) <;> first | (exfalso; omega) | skip) | simp -dsimp -implicitDefEqProofs only [go_sem, Nat.reduceBEq, Nat.reduceAdd, Nat.reduceLeDiff, Nat.reduceSub, Int.reduceEq, blA, bl4, bleR, bl67, cty_rd, ei, hA, snC])
      rw [← hS ⟨⟨x.h[i].p.a, x.h[i].p.b, x.h[i].p.c, 1, x.h[i].p.e, x.h[i].p.f⟩, x.h[i].q⟩]
      rfl
    · refine ⟨⟨x.a, x.b, x.c, x.h.set i ⟨⟨4, x.h[i].p.b, x.h[i].p.c, x.h[i].p.d, x.h[i].p.e, x.h[i].p.f⟩, x.h[i].q⟩⟩, ?_, hB _ _ _ _ (by first | exact hF | exact Nat.zero_le _)⟩
      refine MeetsM.introO mixed (hint []) (fun k => (sel (k == 16) [0,1,2,3,4,5,6,7,8,9,10,11,12] (sel (k == 18) [0,1,2,3,4,5,6,7,8,9] (sel (k == 20) [0,1,2,3,4,5,6,7,8,9,10] (sel (k == 22) [0,1,2,3,4,5,6,7,8,9,10] (sel (k == 23) [0,1,2,3,4,5,6,7,8,9,10] [])))))) Try.func147 rfl (by decide) res_147 rty_147 (pts := parTys Try.prog 147) (by rw [par_147]; rfl) (by kernel_rfl) ?_; rw [par_147]; intro vals; 
      simp -dsimp -implicitDefEqProofs only [go_sem, Nat.reduceBEq, Nat.reduceAdd, Nat.reduceLeDiff, Nat.reduceSub, Int.reduceEq, rdAt, loC]
      refine CallE.mutLend (hN) (by simp -dsimp -implicitDefEqProofs only [go_sem, Nat.reduceBEq, Nat.reduceAdd, Nat.reduceLeDiff, Nat.reduceSub, Int.reduceEq]) (by simp -dsimp -implicitDefEqProofs only [go_sem, Nat.reduceBEq, Nat.reduceAdd, Nat.reduceLeDiff, Nat.reduceSub, Int.reduceEq, rdAt]) (by simp -dsimp -implicitDefEqProofs only [go_sem, Nat.reduceBEq, Nat.reduceAdd, Nat.reduceLeDiff, Nat.reduceSub, Int.reduceEq, rdAt]) ?_
      rintro r rs ⟨rfl, rfl⟩
      simp -dsimp -implicitDefEqProofs only [go_sem, Nat.reduceBEq, Nat.reduceAdd, Nat.reduceLeDiff, Nat.reduceSub, Int.reduceEq, rdAt]
      simp -dsimp -implicitDefEqProofs only [go_sem, Nat.reduceBEq, Nat.reduceAdd, Nat.reduceLeDiff, Nat.reduceSub, Int.reduceEq, e8]
      refine CallE.mutLend (hN1) (by simp -dsimp -implicitDefEqProofs only [go_sem, Nat.reduceBEq, Nat.reduceAdd, Nat.reduceLeDiff, Nat.reduceSub, Int.reduceEq]) (by simp -dsimp -implicitDefEqProofs only [go_sem, Nat.reduceBEq, Nat.reduceAdd, Nat.reduceLeDiff, Nat.reduceSub, Int.reduceEq, rdAt]) (by simp -dsimp -implicitDefEqProofs only [go_sem, Nat.reduceBEq, Nat.reduceAdd, Nat.reduceLeDiff, Nat.reduceSub, Int.reduceEq, rdAt]) ?_
      rintro r rs ⟨rfl, rfl⟩
      simp -dsimp -implicitDefEqProofs only [go_sem, Nat.reduceBEq, Nat.reduceAdd, Nat.reduceLeDiff, Nat.reduceSub, Int.reduceEq, rdAt]
      repeat' (first | with_reducible refine ask.of (by first | omega | decide | (simp only [ra_length, List.length_set]; omega)) ?_ | ((with_reducible refine ifB'.of (fun h => ?_) (fun h => ?_)) <;> first | (exfalso; omega) | skip) | simp -dsimp -implicitDefEqProofs only [go_sem, Nat.reduceBEq, Nat.reduceAdd, Nat.reduceLeDiff, Nat.reduceSub, Int.reduceEq, blA, bl4, bleR, bl67, cty_rd, ei, hA, snC])
      rw [← hS ⟨⟨4, x.h[i].p.b, x.h[i].p.c, x.h[i].p.d, x.h[i].p.e, x.h[i].p.f⟩, x.h[i].q⟩]
      rfl
set_option maxRecDepth 8000 in
theorem x_l5anyOut (c : List UInt8) (p : Nat) (hp : p ≤ c.length) (hc : c.length ≤ 600) : ∃ v : LO, ∃ q : Nat, MeetsM Try.prog 68 [.mu (rdAt c p)] (fun r rs => r = .agg (loC 40 v) ∧ rs = [rdAt c q]) ∧ Bd v ∧ q ≤ c.length := by
  have hq1 := nxP_le c hp
  have hN := c_next c p (by omega)
  have e10 := tmodL (nxV c p) 10
  simp only [show ((10 : Nat) : Int) = 10 from rfl] at e10
  have hO := c_l5drawOut c (nxP c p) hq1 hc
  have hB := dwO_bd c (nxP c p)
  have hq2 : dwOP c (nxP c p) ≤ c.length := dwQ_le c (nxP_le c (nxP_le c hq1)) _
  generalize dwO c (nxP c p) = y at *
  generalize dwOP c (nxP c p) = q2 at *
  generalize nxP c p = q1 at *
  generalize nxV c p % 10 = k at *
  obtain ⟨v, hS, hv⟩ := x_l5spoilOut y hB c q2 hq2 hc
  by_cases hk : k = 0
  · refine ⟨v, nxP c (nxP c q2), ?_, hv, nxP_le c (nxP_le c hq2)⟩
    refine MeetsM.intro mixed (hint []) Try.func68 rfl (by decide) res_68 rty_68 (pts := parTys Try.prog 68) (by rw [par_68]; rfl) (by kernel_rfl) ?_; rw [par_68]; intro vals; 
    simp -dsimp -implicitDefEqProofs only [go_sem, Nat.reduceBEq, Nat.reduceAdd, Nat.reduceLeDiff, Nat.reduceSub, Int.reduceEq, rdAt]
    refine CallE.mutLend (hN) (by simp -dsimp -implicitDefEqProofs only [go_sem, Nat.reduceBEq, Nat.reduceAdd, Nat.reduceLeDiff, Nat.reduceSub, Int.reduceEq]) (by simp -dsimp -implicitDefEqProofs only [go_sem, Nat.reduceBEq, Nat.reduceAdd, Nat.reduceLeDiff, Nat.reduceSub, Int.reduceEq, rdAt]) (by simp -dsimp -implicitDefEqProofs only [go_sem, Nat.reduceBEq, Nat.reduceAdd, Nat.reduceLeDiff, Nat.reduceSub, Int.reduceEq, rdAt]) ?_
    rintro r rs ⟨rfl, rfl⟩
    simp -dsimp -implicitDefEqProofs only [go_sem, Nat.reduceBEq, Nat.reduceAdd, Nat.reduceLeDiff, Nat.reduceSub, Int.reduceEq, rdAt]
    simp -dsimp -implicitDefEqProofs only [go_sem, Nat.reduceBEq, Nat.reduceAdd, Nat.reduceLeDiff, Nat.reduceSub, Int.reduceEq, e10]
    refine CallE.mutLend (hO) (by simp -dsimp -implicitDefEqProofs only [go_sem, Nat.reduceBEq, Nat.reduceAdd, Nat.reduceLeDiff, Nat.reduceSub, Int.reduceEq]) (by simp -dsimp -implicitDefEqProofs only [go_sem, Nat.reduceBEq, Nat.reduceAdd, Nat.reduceLeDiff, Nat.reduceSub, Int.reduceEq, rdAt, loC]) (by simp -dsimp -implicitDefEqProofs only [go_sem, Nat.reduceBEq, Nat.reduceAdd, Nat.reduceLeDiff, Nat.reduceSub, Int.reduceEq, rdAt, loC]) ?_
    rintro r rs ⟨rfl, rfl⟩
    simp -dsimp -implicitDefEqProofs only [go_sem, Nat.reduceBEq, Nat.reduceAdd, Nat.reduceLeDiff, Nat.reduceSub, Int.reduceEq, rdAt, loC]
    repeat' (first | with_reducible refine ask.of (by first | omega | decide) ?_ | ((with_reducible refine ifB'.of (fun h => ?_) (fun h => ?_)) <;> first | (exfalso; omega) | skip) | simp -dsimp -implicitDefEqProofs only [go_sem, Nat.reduceBEq, Nat.reduceAdd, Nat.reduceLeDiff, Nat.reduceSub, Int.reduceEq, blA, bl4, bleR, bl67, cty_rd])
    refine CallE.mutLend (hS) (by simp -dsimp -implicitDefEqProofs only [go_sem, Nat.reduceBEq, Nat.reduceAdd, Nat.reduceLeDiff, Nat.reduceSub, Int.reduceEq]) (by simp -dsimp -implicitDefEqProofs only [go_sem, Nat.reduceBEq, Nat.reduceAdd, Nat.reduceLeDiff, Nat.reduceSub, Int.reduceEq, rdAt, loC]) (by simp -dsimp -implicitDefEqProofs only [go_sem, Nat.reduceBEq, Nat.reduceAdd, Nat.reduceLeDiff, Nat.reduceSub, Int.reduceEq, rdAt, loC]) ?_
    rintro r rs ⟨rfl, rfl⟩
    simp -dsimp -implicitDefEqProofs only [go_sem, Nat.reduceBEq, Nat.reduceAdd, Nat.reduceLeDiff, Nat.reduceSub, Int.reduceEq, rdAt, loC]
    repeat' (first | with_reducible refine ask.of (by first | omega | decide) ?_ | ((with_reducible refine ifB'.of (fun h => ?_) (fun h => ?_)) <;> first | (exfalso; omega) | skip) | simp -dsimp -implicitDefEqProofs only [go_sem, Nat.reduceBEq, Nat.reduceAdd, Nat.reduceLeDiff, Nat.reduceSub, Int.reduceEq, blA, bl4, bleR, bl67, cty_rd])
    all_goals (first | exact ⟨rfl, rfl⟩ | exact rfl | skip)
  · refine ⟨y, q2, ?_, hB, hq2⟩
    refine MeetsM.intro mixed (hint []) Try.func68 rfl (by decide) res_68 rty_68 (pts := parTys Try.prog 68) (by rw [par_68]; rfl) (by kernel_rfl) ?_; rw [par_68]; intro vals; 
    simp -dsimp -implicitDefEqProofs only [go_sem, Nat.reduceBEq, Nat.reduceAdd, Nat.reduceLeDiff, Nat.reduceSub, Int.reduceEq, rdAt]
    refine CallE.mutLend (hN) (by simp -dsimp -implicitDefEqProofs only [go_sem, Nat.reduceBEq, Nat.reduceAdd, Nat.reduceLeDiff, Nat.reduceSub, Int.reduceEq]) (by simp -dsimp -implicitDefEqProofs only [go_sem, Nat.reduceBEq, Nat.reduceAdd, Nat.reduceLeDiff, Nat.reduceSub, Int.reduceEq, rdAt]) (by simp -dsimp -implicitDefEqProofs only [go_sem, Nat.reduceBEq, Nat.reduceAdd, Nat.reduceLeDiff, Nat.reduceSub, Int.reduceEq, rdAt]) ?_
    rintro r rs ⟨rfl, rfl⟩
    simp -dsimp -implicitDefEqProofs only [go_sem, Nat.reduceBEq, Nat.reduceAdd, Nat.reduceLeDiff, Nat.reduceSub, Int.reduceEq, rdAt]
    simp -dsimp -implicitDefEqProofs only [go_sem, Nat.reduceBEq, Nat.reduceAdd, Nat.reduceLeDiff, Nat.reduceSub, Int.reduceEq, e10]
    refine CallE.mutLend (hO) (by simp -dsimp -implicitDefEqProofs only [go_sem, Nat.reduceBEq, Nat.reduceAdd, Nat.reduceLeDiff, Nat.reduceSub, Int.reduceEq]) (by simp -dsimp -implicitDefEqProofs only [go_sem, Nat.reduceBEq, Nat.reduceAdd, Nat.reduceLeDiff, Nat.reduceSub, Int.reduceEq, rdAt, loC]) (by simp -dsimp -implicitDefEqProofs only [go_sem, Nat.reduceBEq, Nat.reduceAdd, Nat.reduceLeDiff, Nat.reduceSub, Int.reduceEq, rdAt, loC]) ?_
    rintro r rs ⟨rfl, rfl⟩
    simp -dsimp -implicitDefEqProofs only [go_sem, Nat.reduceBEq, Nat.reduceAdd, Nat.reduceLeDiff, Nat.reduceSub, Int.reduceEq, rdAt, loC]
    repeat' (first | with_reducible refine ask.of (by first | omega | decide) ?_ | ((with_reducible refine ifB'.of (fun h => ?_) (fun h => ?_)) <;> first | (exfalso; omega) | skip) | simp -dsimp -implicitDefEqProofs only [go_sem, Nat.reduceBEq, Nat.reduceAdd, Nat.reduceLeDiff, Nat.reduceSub, Int.reduceEq, blA, bl4, bleR, bl67, cty_rd])
    all_goals (first | exact ⟨rfl, rfl⟩ | exact rfl | skip)
set_option maxRecDepth 8000 in
theorem x_DrawLinkTick (code : List UInt8) (hb : code.length ≤ 1048576) : ∃ v : LO, Meets Try.prog 10 [rowB code] (fun r => r = .agg (loC 40 v)) ∧ Bd v := by
  have hc := cd_len code
  have hO := c_l1open code hb
  have hq0 := nxP_le (cd code) (Nat.zero_le _)
  have hN := c_next (cd code) 0 (by omega)
  generalize cd code = c at *
  generalize nxP c 0 = q1 at *
  generalize nxV c 0 = k at *
  obtain ⟨v, q, hA, hv, hq⟩ := x_l5anyOut c q1 hq0 hc
  by_cases hk : k = 1
  · refine ⟨⟨v.a, v.b, 1000000000, v.h⟩, ?_, hv⟩
    refine Meets.intro mixed (hint []) Try.func10 rfl (by decide) res_10 rty_10 (by kernel_rfl) ?_; 
    simp -dsimp -implicitDefEqProofs only [go_sem, Nat.reduceBEq, Nat.reduceAdd, Nat.reduceLeDiff, Nat.reduceSub, Int.reduceEq, initE]
    refine CallE.lend (hO) (by simp -dsimp -implicitDefEqProofs only [go_sem, Nat.reduceBEq, Nat.reduceAdd, Nat.reduceLeDiff, Nat.reduceSub, Int.reduceEq, rdAt]) ?_
    rintro r rfl
    simp -dsimp -implicitDefEqProofs only [go_sem, Nat.reduceBEq, Nat.reduceAdd, Nat.reduceLeDiff, Nat.reduceSub, Int.reduceEq, rdAt]
    refine CallE.mutLend (hN) (by simp -dsimp -implicitDefEqProofs only [go_sem, Nat.reduceBEq, Nat.reduceAdd, Nat.reduceLeDiff, Nat.reduceSub, Int.reduceEq]) (by simp -dsimp -implicitDefEqProofs only [go_sem, Nat.reduceBEq, Nat.reduceAdd, Nat.reduceLeDiff, Nat.reduceSub, Int.reduceEq, rdAt]) (by simp -dsimp -implicitDefEqProofs only [go_sem, Nat.reduceBEq, Nat.reduceAdd, Nat.reduceLeDiff, Nat.reduceSub, Int.reduceEq, rdAt]) ?_
    rintro r rs ⟨rfl, rfl⟩
    simp -dsimp -implicitDefEqProofs only [go_sem, Nat.reduceBEq, Nat.reduceAdd, Nat.reduceLeDiff, Nat.reduceSub, Int.reduceEq, rdAt]
    refine CallE.mutLend (hA) (by simp -dsimp -implicitDefEqProofs only [go_sem, Nat.reduceBEq, Nat.reduceAdd, Nat.reduceLeDiff, Nat.reduceSub, Int.reduceEq]) (by simp -dsimp -implicitDefEqProofs only [go_sem, Nat.reduceBEq, Nat.reduceAdd, Nat.reduceLeDiff, Nat.reduceSub, Int.reduceEq, rdAt, loC]) (by simp -dsimp -implicitDefEqProofs only [go_sem, Nat.reduceBEq, Nat.reduceAdd, Nat.reduceLeDiff, Nat.reduceSub, Int.reduceEq, rdAt, loC]) ?_
    rintro r rs ⟨rfl, rfl⟩
    simp -dsimp -implicitDefEqProofs only [go_sem, Nat.reduceBEq, Nat.reduceAdd, Nat.reduceLeDiff, Nat.reduceSub, Int.reduceEq, rdAt, loC]
    repeat' (first | with_reducible refine ask.of (by first | omega | decide) ?_ | ((with_reducible refine ifB'.of (fun h => ?_) (fun h => ?_)) <;> first | (exfalso; omega) | skip) | simp -dsimp -implicitDefEqProofs only [go_sem, Nat.reduceBEq, Nat.reduceAdd, Nat.reduceLeDiff, Nat.reduceSub, Int.reduceEq, blA, bl4, bleR, bl67, cty_rd])
    all_goals (first | exact ⟨rfl, rfl⟩ | exact rfl | skip)
  · refine ⟨v, ?_, hv⟩
    refine Meets.intro mixed (hint []) Try.func10 rfl (by decide) res_10 rty_10 (by kernel_rfl) ?_; 
    simp -dsimp -implicitDefEqProofs only [go_sem, Nat.reduceBEq, Nat.reduceAdd, Nat.reduceLeDiff, Nat.reduceSub, Int.reduceEq, initE]
    refine CallE.lend (hO) (by simp -dsimp -implicitDefEqProofs only [go_sem, Nat.reduceBEq, Nat.reduceAdd, Nat.reduceLeDiff, Nat.reduceSub, Int.reduceEq, rdAt]) ?_
    rintro r rfl
    simp -dsimp -implicitDefEqProofs only [go_sem, Nat.reduceBEq, Nat.reduceAdd, Nat.reduceLeDiff, Nat.reduceSub, Int.reduceEq, rdAt]
    refine CallE.mutLend (hN) (by simp -dsimp -implicitDefEqProofs only [go_sem, Nat.reduceBEq, Nat.reduceAdd, Nat.reduceLeDiff, Nat.reduceSub, Int.reduceEq]) (by simp -dsimp -implicitDefEqProofs only [go_sem, Nat.reduceBEq, Nat.reduceAdd, Nat.reduceLeDiff, Nat.reduceSub, Int.reduceEq, rdAt]) (by simp -dsimp -implicitDefEqProofs only [go_sem, Nat.reduceBEq, Nat.reduceAdd, Nat.reduceLeDiff, Nat.reduceSub, Int.reduceEq, rdAt]) ?_
    rintro r rs ⟨rfl, rfl⟩
    simp -dsimp -implicitDefEqProofs only [go_sem, Nat.reduceBEq, Nat.reduceAdd, Nat.reduceLeDiff, Nat.reduceSub, Int.reduceEq, rdAt]
    refine CallE.mutLend (hA) (by simp -dsimp -implicitDefEqProofs only [go_sem, Nat.reduceBEq, Nat.reduceAdd, Nat.reduceLeDiff, Nat.reduceSub, Int.reduceEq]) (by simp -dsimp -implicitDefEqProofs only [go_sem, Nat.reduceBEq, Nat.reduceAdd, Nat.reduceLeDiff, Nat.reduceSub, Int.reduceEq, rdAt, loC]) (by simp -dsimp -implicitDefEqProofs only [go_sem, Nat.reduceBEq, Nat.reduceAdd, Nat.reduceLeDiff, Nat.reduceSub, Int.reduceEq, rdAt, loC]) ?_
    rintro r rs ⟨rfl, rfl⟩
    simp -dsimp -implicitDefEqProofs only [go_sem, Nat.reduceBEq, Nat.reduceAdd, Nat.reduceLeDiff, Nat.reduceSub, Int.reduceEq, rdAt, loC]
    repeat' (first | with_reducible refine ask.of (by first | omega | decide) ?_ | ((with_reducible refine ifB'.of (fun h => ?_) (fun h => ?_)) <;> first | (exfalso; omega) | skip) | simp -dsimp -implicitDefEqProofs only [go_sem, Nat.reduceBEq, Nat.reduceAdd, Nat.reduceLeDiff, Nat.reduceSub, Int.reduceEq, blA, bl4, bleR, bl67, cty_rd])
    all_goals (first | exact ⟨rfl, rfl⟩ | exact rfl | skip)
end Go.Ev
set_option linter.unusedSimpArgs false
set_option linter.unusedVariables false
namespace Go.Ev
open Go Go.RowKit Go.Proofs
def qAt (h : List Sn) (i : Nat) : Int := ((h[i]?).map (·.q)).getD 0
def pAt (h : List Sn) (i : Nat) : Pk := ((h[i]?).map (·.p)).getD ⟨0, 0, 0, 0, false, []⟩
theorem qAt_of {h : List Sn} {i : Nat} (hi : i < h.length) : qAt h i = h[i].q := by simp [qAt, hi]
theorem pAt_of {h : List Sn} {i : Nat} (hi : i < h.length) : pAt h i = h[i].p := by simp [pAt, hi]
theorem tkH_get (now : Int) (n : Nat) (h : List Sn) {i : Nat} (hi : i < h.length) : (tkH now n h)[i]? = some (if i < n then tkS now h[i] else h[i]) := by
  unfold tkH
  by_cases hn : i < n
  · rw [if_pos hn, List.getElem?_append_left (by simp; omega)]
    simp [hn, hi]
  · rw [if_neg hn, List.getElem?_append_right (by simp; omega)]
    simp only [List.length_map, List.length_take, List.getElem?_drop]
    rw [show n + (i - min n h.length) = i by omega]
    simp [hi]
theorem tkS_p (now : Int) (s : Sn) : (tkS now s).p = s.p := by unfold tkS; cases dueB now s <;> rfl
def dueQ (now q : Int) : Prop := q = -1 ∨ q ≤ now - 4
instance (now q : Int) : Decidable (dueQ now q) := by unfold dueQ; infer_instance
theorem tkS_q (now : Int) (s : Sn) : (tkS now s).q = if dueQ now s.q then now else s.q := by
  by_cases h : s.q = -1 ∨ s.q ≤ now - 4
  · rw [tkS_due h, if_pos (show dueQ now s.q from h)]
  · rw [tkS_not h, if_neg (show ¬ dueQ now s.q from h)]
theorem tkH_p (now : Int) (n : Nat) (h : List Sn) (i : Nat) : pAt (tkH now n h) i = pAt h i := by
  by_cases hi : i < h.length
  · have := tkH_get now n h hi
    unfold pAt
    rw [this]
    split
    · simp [tkS_p, hi]
    · simp [hi]
  · have h2 : ¬ i < (tkH now n h).length := by rw [tkH_len]; exact hi
    simp [pAt, List.getElem?_eq_none (Nat.le_of_not_lt hi), List.getElem?_eq_none (Nat.le_of_not_lt h2)]
theorem tkH_q (now : Int) (n : Nat) (h : List Sn) {i : Nat} (hi : i < h.length) : qAt (tkH now n h) i = if i < n ∧ dueQ now (qAt h i) then now else qAt h i := by
  have h1 := tkH_get now n h hi
  rw [qAt_of hi]
  unfold qAt
  rw [h1]
  by_cases hn : i < n
  · rw [if_pos hn]
    simp [tkS_q, hn]
  · simp [hn]
def tkX (x : LO) : LO := ⟨x.a, x.b, x.c + 1, tkH (x.c + 1) (min 8 x.h.length) x.h⟩
def tkI (x : LO) : Nat → LO
  | 0 => x
  | t + 1 => tkX (tkI x t)
theorem tkI_len (x : LO) : ∀ t, (tkI x t).h.length = x.h.length
  | 0 => rfl
  | t + 1 => by rw [tkI, tkX, tkH_len]; exact tkI_len x t
theorem tkI_b (x : LO) : ∀ t, (tkI x t).b = x.b
  | 0 => rfl
  | t + 1 => tkI_b x t
theorem tkI_c (x : LO) : ∀ t : Nat, (tkI x t).c = x.c + t
  | 0 => by simp [tkI]
  | t + 1 => by
    have := tkI_c x t
    show (tkI x t).c + 1 = _
    rw [this]; omega
theorem tkI_p (x : LO) (i : Nat) : ∀ t, pAt (tkI x t).h i = pAt x.h i
  | 0 => rfl
  | t + 1 => by rw [tkI, tkX, tkH_p]; exact tkI_p x i t
theorem tkX_ok {x : LO} (h : okLO x) (hc : x.c < 1000000000) : okLO (tkX x) := by
  obtain ⟨⟨h1, h2, h3, h4, h5, h6, h7⟩, hA⟩ := h
  have hl : (tkX x).h.length = x.h.length := tkH_len ..
  refine ⟨⟨h1, h2, h3, h4, by show 0 ≤ x.c + 1; omega, by show x.c + 1 ≤ _; omega, by rw [hl]; exact h7⟩, fun i hi => ?_⟩
  have hi' : i < x.h.length := by rw [← hl]; exact hi
  obtain ⟨g1, g2, g3, g4, g5, g6⟩ := hA i hi'
  have ep : (tkX x).h[i].p = x.h[i].p := by
    have := tkH_p (x.c + 1) (min 8 x.h.length) x.h i
    rw [pAt_of hi'] at this
    rw [← this]
    exact (pAt_of (h := (tkX x).h) hi).symm
  have eq := tkH_q (x.c + 1) (min 8 x.h.length) x.h hi'
  have eq2 : qAt (tkX x).h i = (tkX x).h[i].q := qAt_of hi
  have eq : (tkX x).h[i].q = if i < min 8 x.h.length ∧ dueQ (x.c + 1) (qAt x.h i) then x.c + 1 else qAt x.h i := by rw [← eq2]; exact eq
  rw [qAt_of hi'] at eq
  unfold loAt
  rw [ep, hl, eq]
  refine ⟨g1, g2, g3, g4, ?_, ?_⟩
  · split <;> omega
  · show _ ≤ x.c + 1
    split <;> omega
theorem tkI_ok {x : LO} (h : okLO x) (hc : x.c ≤ 999999980) : ∀ t, t ≤ 12 → okLO (tkI x t)
  | 0, _ => h
  | t + 1, ht => tkX_ok (tkI_ok h hc t (by omega)) (by rw [tkI_c]; omega)
def dueI (now : Int) (n : Nat) (h : List Sn) : List Nat := (List.range n).filter fun i => decide (dueQ now (qAt h i))
theorem tkO_I (now : Int) (h : List Sn) : ∀ n, n ≤ h.length → tkO now n h = (dueI now n h).map fun i => encP (pAt h i)
  | 0, _ => by simp [tkO_zero, dueI]
  | n + 1, hn => by
    have hn' : n < h.length := by omega
    have ih := tkO_I now h n (by omega)
    unfold dueI at ih ⊢
    rw [List.range_succ, List.filter_append, List.map_append, ← ih]
    by_cases hd : h[n].q = -1 ∨ h[n].q ≤ now - 4
    · have : decide (dueQ now (qAt h n)) = true := decide_eq_true (by rw [qAt_of hn']; exact hd)
      rw [tkO_due now hn' hd]
      simp [this, pAt_of hn']
    · have : decide (dueQ now (qAt h n)) = false := decide_eq_false (by rw [qAt_of hn']; exact hd)
      rw [tkO_keep now hn' hd]
      simp [this]
def wI (x : LO) (t : Nat) : List Nat := dueI (x.c + t + 1) (min 8 x.h.length) (tkI x t).h
theorem tick_I {x : LO} (h : okLO x) (hc : x.c ≤ 999999980) {t : Nat} (ht : t < 12) : tickL (tkI x t) = (tkI x (t + 1), (wI x t).map (fun i => encP (pAt x.h i)), 0) := by
  rw [tickL_yes (tkI_ok h hc t (by omega)) (by rw [tkI_c]; omega), tkO_I _ _ _ (by rw [tkI_len]; omega), tkI_c, tkI_len]
  unfold wI
  have e : (fun i => encP (pAt (tkI x t).h i)) = fun i => encP (pAt x.h i) := funext fun i => by rw [tkI_p]
  rw [e]
  show (_, _, _) = _
  rw [tkI, tkX, tkI_c, tkI_len]
theorem wI_mem {x : LO} {t i : Nat} : i ∈ wI x t ↔ i < min 8 x.h.length ∧ dueQ (x.c + t + 1) (qAt (tkI x t).h i) := by
  unfold wI dueI
  simp
theorem wI_asc (x : LO) (t : Nat) : (wI x t).Pairwise (· < ·) := List.Pairwise.filter _ List.pairwise_lt_range
theorem wI_len (x : LO) (t : Nat) : (wI x t).length ≤ 8 := by
  unfold wI dueI
  have := List.length_filter_le (fun i => decide (dueQ (x.c + t + 1) (qAt (tkI x t).h i))) (List.range (min 8 x.h.length))
  simp at this
  omega
def Wl (x : LO) (t : Nat) (l : List Int) : Prop := l.length = x.h.length ∧ ∀ i (hi : i < l.length), i < x.h.length →
  (l[i] = -1 ∧ qAt (tkI x t).h i = qAt x.h i ∧ (i < 8 → 0 < t → ¬ dueQ (x.c + t) (qAt x.h i))) ∨ ∃ τ : Nat, τ < t ∧ l[i] = τ ∧ qAt (tkI x t).h i = x.c + τ + 1
theorem Wl_zero (x : LO) : Wl x 0 (List.replicate x.h.length (-1)) := ⟨by simp, fun i hi h => .inl ⟨by simp, rfl, fun _ h => absurd h (by omega)⟩⟩
theorem Wl_far {x : LO} {t : Nat} {l : List Int} (h : Wl x t l) (hx : okLO x) {i : Nat} (hi : i ∈ wI x t) (hl : i < l.length) : l[i] = -1 ∨ 0 ≤ l[i] ∧ l[i] + 4 ≤ t := by
  obtain ⟨h1, h2⟩ := wI_mem.1 hi
  have hin : i < x.h.length := by omega
  have hc := hx.1.2.2.2.2.1
  rcases h.2 i hl hin with ⟨g1, _⟩ | ⟨τ, g1, g2, g3⟩
  · exact .inl g1
  · right
    rw [g3] at h2
    unfold dueQ at h2
    omega
theorem Wl_step {x : LO} {t : Nat} {l l' : List Int} (h : Wl x t l) (hlen : l'.length = l.length)
    (h1 : ∀ i (hi : i < l'.length), i ∈ wI x t → l'[i] = t) (h2 : ∀ i (hi : i < l'.length) (hj : i < l.length), ¬ i ∈ wI x t → l'[i] = l[i]) : Wl x (t + 1) l' := by
  refine ⟨hlen.trans h.1, fun i hi hin => ?_⟩
  have hil : i < l.length := by omega
  have hq : qAt (tkI x (t + 1)).h i = if i < min 8 x.h.length ∧ dueQ (x.c + t + 1) (qAt (tkI x t).h i) then x.c + t + 1 else qAt (tkI x t).h i := by
    rw [tkI, tkX, tkH_q _ _ _ (by rw [tkI_len]; exact hin), tkI_c, tkI_len]
  by_cases hm : i ∈ wI x t
  · right
    refine ⟨t, by omega, h1 i hi hm, ?_⟩
    rw [hq, if_pos (wI_mem.1 hm)]
  · rw [if_neg (fun hh => hm (wI_mem.2 hh))] at hq
    rw [h2 i hi hil hm, hq]
    rcases h.2 i hil hin with ⟨g1, g2, g3⟩ | ⟨τ, g1, g2, g3⟩
    · refine .inl ⟨g1, g2, fun h8 _ hd => hm (wI_mem.2 ⟨by omega, ?_⟩)⟩
      rw [g2]
      have : x.c + ((t + 1 : Nat) : Int) = x.c + t + 1 := by omega
      rw [this] at hd
      exact hd
    · exact .inr ⟨τ, by omega, g2, g3⟩
theorem Wl_end {x : LO} {l : List Int} (h : Wl x 12 l) (hx : okLO x) {i : Nat} (hi : i < l.length) (h8 : i < 8) : 0 ≤ l[i] := by
  have hin : i < x.h.length := by rw [← h.1]; exact hi
  rcases h.2 i hi hin with ⟨g1, g2, g3⟩ | ⟨τ, g1, g2, g3⟩
  · exfalso
    have h3 := g3 h8 (by omega)
    have h4 := (hx.2 i hin).2.2.2.2.2
    rw [qAt_of hin] at h3
    unfold dueQ at h3
    omega
  · omega
theorem dropWhile_of {α : Type} {f : α → Bool} : ∀ {xs : List α} {k : Nat}, k ≤ xs.length → (∀ i (h : i < xs.length), i < k → f xs[i] = true) → (∀ (h : k < xs.length), f xs[k] = false) → xs.dropWhile f = xs.drop k
  | [], k, _, _, _ => by simp
  | x :: xs, 0, _, _, h2 => by
    have := h2 (by simp)
    simp only [List.getElem_cons_zero] at this
    simp [List.dropWhile, this]
  | x :: xs, k + 1, hk, h1, h2 => by
    have h0 := h1 0 (by simp) (by omega)
    simp only [List.getElem_cons_zero] at h0
    rw [List.dropWhile_cons_of_pos h0, List.drop_succ_cons]
    exact dropWhile_of (by simpa using hk) (fun i h hi => h1 (i + 1) (Nat.succ_lt_succ h) (by omega)) (fun h => h2 (Nat.succ_lt_succ h))
theorem ack_I {x : LO} (hx : okLO x) {w : Nat} (hw : w ≤ x.h.length) {q : Int} (hq : w = x.h.length ∧ q ≤ x.b - w ∨ q = x.b - w) : dropQ q x.h = x.h.drop (x.h.length - w) := by
  have hc : ∀ i (h : i < x.h.length), x.h[i].p.c = x.b - x.h.length + i := fun i h => (hx.2 i h).2.2.2.1
  refine dropWhile_of (by omega) (fun i h hi => ?_) (fun h => ?_)
  · refine decide_eq_true ?_
    rw [hc i h]
    rcases hq with ⟨h1, _⟩ | h1 <;> omega
  · refine decide_eq_false ?_
    rw [hc _ h]
    rcases hq with ⟨h1, h2⟩ | h1 <;> omega
end Go.Ev
set_option linter.unusedSimpArgs false
set_option linter.unusedVariables false
namespace Go.Ev
open Go Go.RowKit Go.Proofs
structure Fd where
  f : List UInt8
  k : Int
  w : Int
structure Cl where
  z : Bool
  i : Int
  f : List UInt8
def fdC (x : Fd) : List AV := [.row 5 1 (bytesA x.f), .v (.int .i64 x.k), .v (.int .i64 x.w)]
def clC (x : Cl) : List AV := [.v (.bool x.z), .v (.int .i64 x.i), .row 5 1 (bytesA x.f)]
def rowFd (T : Nat) (ps : List Fd) : AV := .row T 3 (ra fdC ps)
def rowCl (T : Nat) (ps : List Cl) : AV := .row T 3 (ra clC ps)
theorem pure_rowFd (T : Nat) (ps : List Fd) : (rowFd T ps).pure := pureEls_ra (enc := fdC) (fun x => ⟨pureEls_bytes _, trivial, trivial, trivial⟩) ps
theorem pure_rowCl (T : Nat) (ps : List Cl) : (rowCl T ps).pure := pureEls_ra (enc := clC) (fun x => ⟨trivial, trivial, pureEls_bytes _, trivial⟩) ps
end Go.Ev
set_option linter.unusedSimpArgs false
set_option linter.unusedVariables false
namespace Go.Ev
open Go Go.RowKit Go.Proofs
def dstep (acc : List (List UInt8)) (c : Cl) : List (List UInt8) := if c.z = false ∧ c.f ∉ acc then acc ++ [c.f] else acc
def dst (xs : List Cl) : List (List UInt8) := xs.foldl dstep []
end Go.Ev
set_option linter.unusedSimpArgs false
set_option linter.unusedVariables false
namespace Go.Ev
open Go Go.RowKit Go.Proofs
def ev (n : Nat) : Nat := (n + 7) / 8 * 8
end Go.Ev
set_option linter.unusedSimpArgs false
set_option linter.unusedVariables false
namespace Go.Ev
open Go Go.RowKit Go.Proofs
theorem cut_mid {xs ys zs : List UInt8} {l h : Nat} (hl : l = xs.length) (hh : h = xs.length + ys.length) : cutB (xs ++ (ys ++ zs)) l h = ys := by
  subst hl hh
  rw [cutB, ← List.append_assoc, List.take_left' (by rw [List.length_append]), List.drop_left' rfl]
theorem num_leB {w : Nat} (hw : w ≤ 8) {x : Int} (h0 : 0 ≤ x) (h1 : x < 9223372036854775808) (h2 : x < (256 ^ w : Nat)) : IntKind.i64.wrap (leN (leB w x)) = x := by
  rw [leN_leB]
  have e : uN x = x.toNat := by unfold uN; omega
  rw [e, Nat.mod_eq_of_lt (by omega), wrap_i64_of (by omega) (by omega)]
  omega
theorem encP_shape {p : Pk} (h : okB p = true) : encP p = [67, UInt8.ofNat p.a.toNat] ++ (leB 4 p.b ++ (leB 8 p.c ++ (leB 4 p.d ++ ([lastB p.e] ++ (leB 2 p.f.length ++ (p.f ++ leB 4 (crcB (pkParts p).flatten).toNat)))))) := by
  rw [encP, if_pos h, sumB]
  simp [pkParts]
theorem decP_encP {p : Pk} (h : okB p = true) : decP (encP p) = (p, 0) := by
  have hp : okPk p := of_decide_eq_true h
  have hs := encP_shape h
  obtain ⟨h1, h2, h3, h4, h5, h6, h7, h8, h9⟩ := hp
  have hfl : p.f.length ≤ 100 := by
    rcases h9 with h9 | h9
    · omega
    · have := h9; omega
  have hlen : (encP p).length = 25 + p.f.length := by rw [hs]; simp [leB_length]; omega
  have e1 : (encP p).getD 1 0 = UInt8.ofNat p.a.toNat := by rw [hs]; rfl
  have ea : ((UInt8.ofNat p.a.toNat).toNat : Int) = p.a := by simp; omega
  have e2 : cutB (encP p) 2 6 = leB 4 p.b := by rw [hs]; exact cut_mid rfl (by simp [leB_length])
  have e3 : cutB (encP p) 6 14 = leB 8 p.c := by
    rw [hs, ← List.append_assoc]; exact cut_mid (by simp [leB_length]) (by simp [leB_length])
  have e4 : cutB (encP p) 14 18 = leB 4 p.d := by
    rw [hs, ← List.append_assoc, ← List.append_assoc]; exact cut_mid (by simp [leB_length]) (by simp [leB_length])
  have e5 : cutB (encP p) 21 ((encP p).length - 4) = p.f := by
    rw [hlen]
    rw [hs, ← List.append_assoc, ← List.append_assoc, ← List.append_assoc, ← List.append_assoc, ← List.append_assoc]; exact cut_mid (by simp [leB_length]) (by simp [leB_length]; omega)
  have e6 : cutB (encP p) 18 19 = [lastB p.e] := by
    rw [hs, ← List.append_assoc, ← List.append_assoc, ← List.append_assoc]; exact cut_mid (by simp [leB_length]) (by simp [leB_length])
  have e7 : (encP p).getD 18 0 = lastB p.e := by
    have h18 : 18 < (encP p).length := by omega
    have : (cutB (encP p) 18 19)[0]? = (encP p)[18]? := by simp [cutB]
    rw [e6] at this
    rw [List.getD, ← this]; rfl
  have e8 : decide ((lastB p.e).toNat = 1) = p.e := by cases p.e <;> rfl
  have hk : pkOf (encP p) = p := by
    unfold pkOf numAt
    rw [e1, ea, e2, e3, e4, e5, e7, e8, num_leB (by decide) (by omega) (by omega) (by omega), num_leB (by decide) (by omega) (by omega) (by omega), num_leB (by decide) (by omega) (by omega) (by omega)]
  rw [decP, if_pos ⟨by omega, by rw [hk]⟩, hk]
end Go.Ev
set_option linter.unusedSimpArgs false
set_option linter.unusedVariables false
namespace Go.Ev
open Go Go.RowKit Go.Proofs
def tkAt (c : List UInt8) (i : Nat) : Nat := (c.getD (i % c.length) 0).toNat
theorem c_take (c : List UInt8) (i : Nat) (hi : i < 1000) (hb : c.length ≤ 1048576) : Meets Try.prog 14 [rowB c, .v (.int .i64 i)] (fun r => r = .v (.int .i64 (tkAt c i : Nat))) := by
  refine Meets.intro mixed (hint []) Try.func14 rfl (by decide) res_14 rty_14 (by kernel_rfl) ?_; 
  simp -dsimp -implicitDefEqProofs only [go_sem, Nat.reduceBEq, Nat.reduceAdd, Nat.reduceLeDiff, Nat.reduceSub, Int.reduceEq, initE]
  refine ifB'.of (fun h => ?_) (fun h => ?_)
  · have h : c = [] := List.eq_nil_of_length_eq_zero (by omega)
    subst h
    simp -dsimp -implicitDefEqProofs only [go_sem, Nat.reduceBEq, Nat.reduceAdd, Nat.reduceLeDiff, Nat.reduceSub, Int.reduceEq]
    rfl
  · have hl : 0 < c.length := by omega
    have hm : i % c.length < c.length := Nat.mod_lt _ hl
    have e1 : tkAt c i = c[i % c.length].toNat := by unfold tkAt; simp [hm]
    have et := tmodL i c.length
    have ew : IntKind.i64.wrap (c[i % c.length].toNat : Int) = (c[i % c.length].toNat : Int) := by have := c[i % c.length].toNat_lt; rw [wrap_i64_of (by omega) (by omega)]
    repeat (first | with_reducible refine ask.of (by first | omega | decide) ?_ | simp -dsimp -implicitDefEqProofs only [go_sem, Nat.reduceBEq, Nat.reduceAdd, Nat.reduceLeDiff, Nat.reduceSub, Int.reduceEq, et, bytesA_at hm, ew, e1])
    try rw [e1]
end Go.Ev
set_option linter.unusedSimpArgs false
set_option linter.unusedVariables false
namespace Go.Ev
open Go Go.RowKit Go.Proofs
theorem int_rep (n i : Nat) : (List.replicate n [AV.v (.int .i64 0)]) = ra intC (List.replicate n 0) := by simp [ra, intC]
def lstM (n i : Nat) : List Int := List.replicate i (-1) ++ List.replicate (n - i) 0
theorem lstM_len {n i : Nat} (h : i ≤ n) : (lstM n i).length = n := by simp [lstM]; omega
theorem lstM_set {n i : Nat} (h : i < n) : (ra intC (lstM n i)).set i [AV.v (.int .i64 (-1))] = ra intC (lstM n (i + 1)) := by
  rw [show [AV.v (.int .i64 (-1))] = intC (-1) from rfl, ra_set]
  congr 1
  unfold lstM
  rw [List.set_append_right _ _ (by simp), List.length_replicate, Nat.sub_self, show n - i = (n - (i + 1)) + 1 by omega, List.replicate_succ, List.set_cons_zero, List.replicate_succ', List.append_assoc]
  rfl
theorem lstM_zero (n : Nat) : lstM n 0 = List.replicate n 0 := by simp [lstM]
theorem lstM_all (n : Nat) : lstM n n = List.replicate n (-1) := by simp [lstM]
def Wj (x : LO) (t : Nat) (l l' : List Int) (j : Nat) (pv : Int) : Prop := l'.length = l.length ∧ (∀ i (hi : i < l'.length), i ∈ (wI x t).take j → l'[i] = t) ∧ (∀ i (hi : i < l'.length) (hk : i < l.length), ¬ i ∈ (wI x t).take j → l'[i] = l[i]) ∧ ∀ a ∈ (wI x t).drop j, pv < (a : Int)
theorem Wj_zero (x : LO) (t : Nat) (l : List Int) : Wj x t l l 0 (-1) := ⟨rfl, fun i hi h => by simp at h, fun i hi hk _ => rfl, fun a _ => by omega⟩
theorem Wj_end {x : LO} {t : Nat} {l l' : List Int} {pv : Int} (h : Wl x t l) (hj : Wj x t l l' (wI x t).length pv) : Wl x (t + 1) l' := by
  obtain ⟨h1, h2, h3, _⟩ := hj
  rw [List.take_length] at h2 h3
  exact Wl_step h h1 h2 h3
theorem Wj_step {x : LO} {t : Nat} {l l' : List Int} {j : Nat} {pv : Int} (h : Wj x t l l' j pv) (hj : j < (wI x t).length) : Wj x t l (l'.set ((wI x t)[j]) t) (j + 1) ((wI x t)[j] : Nat) := by
  obtain ⟨h1, h2, h3, h4⟩ := h
  refine ⟨by rw [List.length_set]; exact h1, fun i hi hm => ?_, fun i hi hk hm => ?_, fun a ha => ?_⟩
  · rw [List.getElem_set]
    split
    · rfl
    · rename_i hne
      rw [List.take_succ_eq_append_getElem hj] at hm
      rcases List.mem_append.1 hm with hm | hm
      · exact h2 i (by simpa using hi) hm
      · exact absurd (by simpa using hm) (Ne.symm hne)
  · rw [List.take_succ_eq_append_getElem hj] at hm
    rw [List.getElem_set, if_neg (fun e => hm (by rw [e]; simp))]
    exact h3 i (by simpa using hi) hk (fun h => hm (List.mem_append_left _ h))
  · have hp := wI_asc x t
    rw [← List.take_append_drop j (wI x t), List.drop_eq_getElem_cons hj] at hp
    have := (List.pairwise_append.1 hp).2.1
    have := List.rel_of_pairwise_cons this ha
    omega
theorem Wj_not {x : LO} {t j : Nat} (hj : j < (wI x t).length) : ¬ (wI x t)[j] ∈ (wI x t).take j := fun hm => by
  have hp := wI_asc x t
  rw [← List.take_append_drop j (wI x t), List.drop_eq_getElem_cons hj] at hp
  have := (List.pairwise_append.1 hp).2.2 _ hm _ List.mem_cons_self
  omega
theorem okB_len {p : Pk} (h : okB p = true) : p.f.length ≤ 1048576 := by
  have : okPk p := of_decide_eq_true h
  have := this.2.2.2.2
  omega
theorem tkI_bd {x : LO} (h : Bd x) : ∀ t, Bd (tkI x t)
  | 0 => h
  | t + 1 => by
    have ih := tkI_bd h t
    refine ⟨?_, fun b hb => ?_⟩
    · show (tkH _ _ (tkI x t).h).length ≤ 300
      rw [tkH_len]; exact ih.1
    · rcases List.mem_append.1 hb with hb | hb
      · obtain ⟨s, hs, rfl⟩ := List.mem_map.1 hb
        rw [tkS_p]
        exact ih.2 s (List.mem_of_mem_take hs)
      · exact ih.2 b (List.mem_of_mem_drop hb)
theorem encP_bd {x : LO} (h : Bd x) (i : Nat) : (encP (pAt x.h i)).length ≤ 1100 := by
  have hp : (pAt x.h i).f.length ≤ 1000 := by
    by_cases hi : i < x.h.length
    · rw [pAt_of hi]; exact h.2 _ (List.getElem_mem hi)
    · simp [pAt, List.getElem?_eq_none (Nat.le_of_not_lt hi)]
  unfold encP
  split
  · simp [sumB, pkParts, leB_length]; omega
  · exact Nat.zero_le _
set_option maxRecDepth 10000 in
set_option maxHeartbeats 16000000 in
theorem c_FnWindow (code more : List UInt8) : Meets Try.prog 3 [rowB code, rowB more] (fun r => r = .v (.bool true)) := by
  by_cases hb : code.length ≤ 1048576 ∧ more.length ≤ 1048576
  · obtain ⟨hb, hbm⟩ := hb
    obtain ⟨x, hX, hB⟩ := x_DrawLinkTick code hb
    have hV := c_specValidOut x hB.a hB.b
    by_cases hok : okLO x
    · rw [← lo_t hok] at hV
      by_cases hc : x.c ≤ 999999980
      · have h0 := hok.1
        have hbase : IntKind.i64.wrap (x.b - (x.h.length : Int)) = x.b - x.h.length := by rw [wrap_i64_of (by omega) (by omega)]
        refine Meets.introO mixed (hint []) (fun k => (sel (k == 37) [0,1,2,3,4,5,6] [])) Try.func3 rfl (by decide) res_3 rty_3 (by kernel_rfl) ?_; 
        simp -dsimp -implicitDefEqProofs only [go_sem, Nat.reduceBEq, Nat.reduceAdd, Nat.reduceLeDiff, Nat.reduceSub, Int.reduceEq, initE]
        repeat' (first | with_reducible refine ask.of (by first | omega | decide | (simp only [ra_length, bytesA_length, List.length_cons, List.length_nil]; omega)) ?_ | ((with_reducible refine ifB'.of (fun h => ?_) (fun h => ?_)) <;> first | (exfalso; omega) | (exfalso; exact h trivial) | skip) | simp -dsimp -implicitDefEqProofs only [go_sem, Nat.reduceBEq, Nat.reduceAdd, Nat.reduceLeDiff, Nat.reduceSub, Int.reduceEq, initE, blA, bl4, bleR, bl67])
        refine CallE.of (hX) (by rintro r rfl; (repeat' first | exact trivial | exact pure_rowB _ | exact pure_rowO _ | exact pure_rowI _ | exact pure_rowBB _ | exact pure_rowPk _ _ | exact pure_rowSn _ _ | exact pure_rowFd _ _ | exact pure_rowBBB _ | exact pure_rowCl _ _ | exact pure_rowTb _ _ _ | refine And.intro ?_ ?_)) (by simp -dsimp -implicitDefEqProofs only [go_sem, Nat.reduceBEq, Nat.reduceAdd, Nat.reduceLeDiff, Nat.reduceSub, Int.reduceEq, loC]) ?_
        rintro r rfl
        simp -dsimp -implicitDefEqProofs only [go_sem, Nat.reduceBEq, Nat.reduceAdd, Nat.reduceLeDiff, Nat.reduceSub, Int.reduceEq, loC]
        repeat' (first | with_reducible refine ask.of (by first | omega | decide | (simp only [ra_length, bytesA_length, List.length_cons, List.length_nil]; omega)) ?_ | ((with_reducible refine ifB'.of (fun h => ?_) (fun h => ?_)) <;> first | (exfalso; omega) | (exfalso; exact h trivial) | skip) | simp -dsimp -implicitDefEqProofs only [go_sem, Nat.reduceBEq, Nat.reduceAdd, Nat.reduceLeDiff, Nat.reduceSub, Int.reduceEq, blA, bl4, bleR, bl67])
        refine CallE.of (hV) (by rintro r rfl; (repeat' first | exact trivial | exact pure_rowB _ | exact pure_rowO _ | exact pure_rowI _ | exact pure_rowBB _ | exact pure_rowPk _ _ | exact pure_rowSn _ _ | exact pure_rowFd _ _ | exact pure_rowBBB _ | exact pure_rowCl _ _ | exact pure_rowTb _ _ _ | refine And.intro ?_ ?_)) (by simp -dsimp -implicitDefEqProofs only [go_sem, Nat.reduceBEq, Nat.reduceAdd, Nat.reduceLeDiff, Nat.reduceSub, Int.reduceEq, loC]) ?_
        rintro r rfl
        simp -dsimp -implicitDefEqProofs only [go_sem, Nat.reduceBEq, Nat.reduceAdd, Nat.reduceLeDiff, Nat.reduceSub, Int.reduceEq, loC]
        repeat' (first | with_reducible refine ask.of (by first | omega | decide | (simp only [ra_length, bytesA_length, List.length_cons, List.length_nil]; omega)) ?_ | ((with_reducible refine ifB'.of (fun h => ?_) (fun h => ?_)) <;> first | (exfalso; omega) | (exfalso; exact h trivial) | skip) | simp -dsimp -implicitDefEqProofs only [go_sem, Nat.reduceBEq, Nat.reduceAdd, Nat.reduceLeDiff, Nat.reduceSub, Int.reduceEq, Bool.not_true, decide_true, blA, bl4, bleR, bl67])
        refine CallE.of (hX) (by rintro r rfl; (repeat' first | exact trivial | exact pure_rowB _ | exact pure_rowO _ | exact pure_rowI _ | exact pure_rowBB _ | exact pure_rowPk _ _ | exact pure_rowSn _ _ | exact pure_rowFd _ _ | exact pure_rowBBB _ | exact pure_rowCl _ _ | exact pure_rowTb _ _ _ | refine And.intro ?_ ?_)) (by simp -dsimp -implicitDefEqProofs only [go_sem, Nat.reduceBEq, Nat.reduceAdd, Nat.reduceLeDiff, Nat.reduceSub, Int.reduceEq, loC]) ?_
        rintro r rfl
        simp -dsimp -implicitDefEqProofs only [go_sem, Nat.reduceBEq, Nat.reduceAdd, Nat.reduceLeDiff, Nat.reduceSub, Int.reduceEq, loC]
        repeat' (first | with_reducible refine ask.of (by first | omega | decide | (simp only [ra_length, bytesA_length, List.length_cons, List.length_nil]; omega)) ?_ | ((with_reducible refine ifB'.of (fun h => ?_) (fun h => ?_)) <;> first | (exfalso; omega) | (exfalso; exact h trivial) | skip) | simp -dsimp -implicitDefEqProofs only [go_sem, Nat.reduceBEq, Nat.reduceAdd, Nat.reduceLeDiff, Nat.reduceSub, Int.reduceEq, hbase, Int.toNat_natCast, int_rep, blA, bl4, bleR, bl67])
        refine LoopE.cnt x.h.length (fun i s => s.env 1 = .rd .ent 5 1 (bytesA more) ∧ s.env 5 = .ptr [5] 0 0 0 ∧ s.env 6 = .ptr [6] 0 0 0 ∧ s.env 7 = .v (.int .i64 (x.b - (x.h.length : Int))) ∧ s.env 8 = .ref [53] ∧ s.σ [5] = some (.box 25 [.v (.int .i64 x.a), .v (.int .i64 x.b), .v (.int .i64 x.c), .ref [33, 3]]) ∧ s.σ [33, 3] = some (.row 40 7 (ra snC x.h)) ∧ s.env 9 = .v (.int .i64 (i : Nat)) ∧ s.σ [6] = some (.box 25 [.v (.int .i64 x.a), .v (.int .i64 x.b), .v (.int .i64 x.c), .ref [43, 3]]) ∧ s.σ [43, 3] = some (.row 40 7 (ra snC x.h)) ∧ s.σ [53] = some (.row 3 1 (ra intC (lstM x.h.length i)))) (by refine ⟨?_, ?_, ?_, ?_, ?_, ?_, ?_, ?_, ?_, ?_, ?_⟩ <;> first | (simp -dsimp -implicitDefEqProofs only [go_sem, Nat.reduceBEq, Nat.reduceAdd, Nat.reduceLeDiff, Nat.reduceSub, Int.reduceEq, initE, lstM_zero]; done) | (simp -dsimp -implicitDefEqProofs only [go_sem, Nat.reduceBEq, Nat.reduceAdd, Nat.reduceLeDiff, Nat.reduceSub, Int.reduceEq, initE, lstM_zero] <;> rfl)) ?_
        rintro i ⟨e, σ⟩ hi ⟨h1, h5, h6, h7, h8, s5, s33, h9, s6, s43, s53⟩ K hK
        simp only at h1 h5 h6 h7 h8 s5 s33 h9 s6 s43 s53
        have hll := lstM_len hi
        simp -dsimp -implicitDefEqProofs only [go_sem, Nat.reduceBEq, Nat.reduceAdd, Nat.reduceLeDiff, Nat.reduceSub, Int.reduceEq, h1, h5, h6, h7, h8, s5, s33, h9, s6, s43, s53, hll]
        refine ifB'.of (fun hlt => ?_) (fun hlt => ?_)
        · have hlt : i < x.h.length := by omega
          have hls := lstM_set hlt
          have hA : (ra intC (lstM x.h.length i))[i]? = some (intC ((lstM x.h.length i)[i]'(by omega))) := ra_at _
          repeat' (first | with_reducible refine ask.of (by first | omega | decide | (simp only [ra_length, bytesA_length, List.length_cons, List.length_nil]; omega)) ?_ | ((with_reducible refine ifB'.of (fun h => ?_) (fun h => ?_)) <;> first | (exfalso; omega) | (exfalso; exact h trivial) | skip) | simp -dsimp -implicitDefEqProofs only [go_sem, Nat.reduceBEq, Nat.reduceAdd, Nat.reduceLeDiff, Nat.reduceSub, Int.reduceEq, h1, h5, h6, h7, h8, s5, s33, h9, s6, s43, s53, hll, hls, hA, intC, blA, bl4, bleR, bl67])
          refine hK _ hlt ?_
          simp -dsimp -implicitDefEqProofs only [go_sem, Nat.reduceBEq, Nat.reduceAdd, Nat.reduceLeDiff, Nat.reduceSub, Int.reduceEq, h1, h5, h6, h7, h8, s5, s33, h9, s6, s43, s53, hll, hls, wrap_succ (show i < 4611686018427387904 by omega)]
        have hin : i = x.h.length := by omega
        subst hin
        clear hK
        rw [lstM_all] at s53
        simp -dsimp -implicitDefEqProofs only [go_sem, Nat.reduceBEq, Nat.reduceAdd, Nat.reduceLeDiff, Nat.reduceSub, Int.reduceEq, h1, h5, h6, h7, h8, s5, s33, h9, s6, s43, s53]
        refine LoopE.cntW 12 (fun t s => s.env 1 = .rd .ent 5 1 (bytesA more) ∧ s.env 5 = .ptr [5] 0 0 0 ∧ s.env 6 = .ptr [6] 0 0 0 ∧ s.env 7 = .v (.int .i64 (x.b - (x.h.length : Int))) ∧ s.env 8 = .ref [53] ∧ s.σ [5] = some (.box 25 [.v (.int .i64 x.a), .v (.int .i64 x.b), .v (.int .i64 x.c), .ref [33, 3]]) ∧ s.σ [33, 3] = some (.row 40 7 (ra snC x.h)) ∧ s.env 10 = .v (.int .i64 (t : Nat)) ∧ s.σ [6] = some (.box 25 [.v (.int .i64 (tkI x t).a), .v (.int .i64 (tkI x t).b), .v (.int .i64 (tkI x t).c), .ref [90]]) ∧ s.σ [90] = some (.row 40 7 (ra snC (tkI x t).h)) ∧ ∃ l, Wl x t l ∧ s.σ [53] = some (.row 3 1 (ra intC l)))
          (Wk.mv [6] 3 [43, 3] [90] 40 7 25 [.v (.int .i64 x.a), .v (.int .i64 x.b), .v (.int .i64 x.c), .ref [43, 3]] (ra snC x.h) ?_ rfl ?_ rfl rfl (Wk.refl _)) ?_ ?_
        · simp -dsimp -implicitDefEqProofs only [go_sem, Nat.reduceBEq, Nat.reduceAdd, Nat.reduceLeDiff, Nat.reduceSub, Int.reduceEq, s6]
        · simp -dsimp -implicitDefEqProofs only [go_sem, Nat.reduceBEq, Nat.reduceAdd, Nat.reduceLeDiff, Nat.reduceSub, Int.reduceEq, s43]
        · refine ⟨?_, ?_, ?_, ?_, ?_, ?_, ?_, ?_, ?_, ?_, ⟨_, Wl_zero x, ?_⟩⟩ <;> first | (simp -dsimp -implicitDefEqProofs only [go_sem, Nat.reduceBEq, Nat.reduceAdd, Nat.reduceLeDiff, Nat.reduceSub, Int.reduceEq, h1, h5, h6, h7, h8, s5, s33, s6, s43, s53, tkI]; done) | (simp -dsimp -implicitDefEqProofs only [go_sem, Nat.reduceBEq, Nat.reduceAdd, Nat.reduceLeDiff, Nat.reduceSub, Int.reduceEq, h1, h5, h6, h7, h8, s5, s33, s6, s43, s53, tkI] <;> rfl)
        clear h1 h5 h6 h7 h8 s5 s33 h9 s6 s43 s53 hll
        rintro t ⟨e, σ⟩ ht ⟨h1, h5, h6, h7, h8, s5, s33, h10, s6, s90, l, hW, s53⟩ K hK
        simp only at h1 h5 h6 h7 h8 s5 s33 h10 s6 s90 s53
        simp -dsimp -implicitDefEqProofs only [go_sem, Nat.reduceBEq, Nat.reduceAdd, Nat.reduceLeDiff, Nat.reduceSub, Int.reduceEq, h1, h5, h6, h7, h8, s5, s33, h10, s6, s90, s53]
        refine ifB'.of (fun hlt => ?_) (fun hlt => ?_)
        · have hlt : t < 12 := by omega
          have hTb : (tkI x t).h.length ≤ 1048576 := by rw [tkI_len]; exact hB.a
          have hTf : ∀ b ∈ (tkI x t).h, b.p.f.length ≤ 1048576 := fun b hb => by
            have := tkI_bd hB t
            exact Bd.b this b hb
          have hT := c_implLinkTick (tkI x t) hTb hTf
          rw [tick_I hok hc hlt] at hT
          have hol := wI_len x t
          have hos : ∀ o ∈ (wI x t).map (fun i => encP (pAt x.h i)), o.length ≤ 1100 := fun o ho => by
            obtain ⟨i, _, rfl⟩ := List.mem_map.1 ho
            exact encP_bd hB i
          have hoL : ((wI x t).map (fun i => encP (pAt x.h i))).length = (wI x t).length := List.length_map ..
          have hcw : IntKind.i64.wrap ((tkI x t).c + 1) = (tkI x (t + 1)).c := by rw [tkI_c, tkI_c, wrap_i64_of (by omega) (by omega)]; omega
          have hhl := tkI_len x (t + 1)
          repeat' (first | with_reducible refine ask.of (by first | omega | decide | (simp only [ra_length, bytesA_length, List.length_cons, List.length_nil]; omega)) ?_ | ((with_reducible refine ifB'.of (fun h => ?_) (fun h => ?_)) <;> first | (exfalso; omega) | (exfalso; exact h trivial) | skip) | simp -dsimp -implicitDefEqProofs only [go_sem, Nat.reduceBEq, Nat.reduceAdd, Nat.reduceLeDiff, Nat.reduceSub, Int.reduceEq, h1, h5, h6, h7, h8, s5, s33, h10, s6, s90, s53, blA, bl4, bleR, bl67])
          refine CallE.of (hT) (by rintro r rfl; (repeat' first | exact trivial | exact pure_rowB _ | exact pure_rowBB _ | exact pure_rowPk _ _ | exact pure_rowSn _ _ | refine And.intro ?_ ?_)) (by simp -dsimp -implicitDefEqProofs only [go_sem, Nat.reduceBEq, Nat.reduceAdd, Nat.reduceLeDiff, Nat.reduceSub, Int.reduceEq, h1, h5, h6, h7, h8, s5, s33, h10, s6, s90, s53, loC]) ?_
          rintro r rfl
          simp -dsimp -implicitDefEqProofs only [go_sem, Nat.reduceBEq, Nat.reduceAdd, Nat.reduceLeDiff, Nat.reduceSub, Int.reduceEq, h1, h5, h6, h7, h8, s5, s33, h10, s6, s90, s53, resT, loC]
          have d8 : decide ((8 : Int) < ((wI x t).length : Int)) = false := decide_eq_false (by omega)
          repeat' (first | with_reducible refine ask.of (by first | omega | decide | (simp only [ra_length, bytesA_length, List.length_cons, List.length_nil]; omega)) ?_ | ((with_reducible refine ifB'.of (fun h => ?_) (fun h => ?_)) <;> first | (exfalso; omega) | (exfalso; exact h trivial) | skip) | simp -dsimp -implicitDefEqProofs only [go_sem, Nat.reduceBEq, Nat.reduceAdd, Nat.reduceLeDiff, Nat.reduceSub, Int.reduceEq, h1, h5, h6, h7, h8, s5, s33, h10, s6, s90, s53, decide_true, Bool.not_true, hcw, hhl, tkI_len, List.length_map, d8, blA, bl4, bleR, bl67])
          refine LoopE.cnt (wI x t).length (fun j s => s.env 1 = .rd .ent 5 1 (bytesA more) ∧ s.env 5 = .ptr [5] 0 0 0 ∧ s.env 6 = .ptr [6] 0 0 0 ∧ s.env 7 = .v (.int .i64 (x.b - (x.h.length : Int))) ∧ s.env 8 = .ref [53] ∧ s.σ [5] = some (.box 25 [.v (.int .i64 x.a), .v (.int .i64 x.b), .v (.int .i64 x.c), .ref [33, 3]]) ∧ s.σ [33, 3] = some (.row 40 7 (ra snC x.h)) ∧ s.env 10 = .v (.int .i64 (t : Nat)) ∧ s.env 11 = .ptr [11] 0 0 0 ∧ s.env 12 = .ref [69, 1] ∧ s.env 15 = .v (.int .i64 (j : Nat)) ∧ s.σ [6] = some (.box 25 [.v (.int .i64 (tkI x t).a), .v (.int .i64 (tkI x t).b), .v (.int .i64 (tkI x t).c), .ref [90]]) ∧ s.σ [90] = some (.row 40 7 (ra snC (tkI x t).h)) ∧
            s.σ [11] = some (.box 25 [.v (.int .i64 (tkI x (t + 1)).a), .v (.int .i64 (tkI x (t + 1)).b), .v (.int .i64 (tkI x (t + 1)).c), .ref [69, 0, 3]]) ∧ s.σ [69, 0, 3] = some (.row 40 7 (ra snC (tkI x (t + 1)).h)) ∧ s.σ [69, 1] = some (.row 22 1 (ra byC ((wI x t).map fun i => encP (pAt x.h i)))) ∧
            ∃ l' : List Int, ∃ pv : Int, (Wj x t l l' j pv) ∧ s.env 14 = .v (.int .i64 pv) ∧ s.σ [53] = some (.row 3 1 (ra intC l')))
            (by refine ⟨?_, ?_, ?_, ?_, ?_, ?_, ?_, ?_, ?_, ?_, ?_, ?_, ?_, ?_, ?_, ?_, _, _, Wj_zero x t l, ?_, ?_⟩ <;> first | (simp -dsimp -implicitDefEqProofs only [go_sem, Nat.reduceBEq, Nat.reduceAdd, Nat.reduceLeDiff, Nat.reduceSub, Int.reduceEq, h1, h5, h6, h7, h8, s5, s33, h10, s6, s90, s53]; done) | (simp -dsimp -implicitDefEqProofs only [go_sem, Nat.reduceBEq, Nat.reduceAdd, Nat.reduceLeDiff, Nat.reduceSub, Int.reduceEq, h1, h5, h6, h7, h8, s5, s33, h10, s6, s90, s53] <;> rfl)) ?_
          clear h1 h5 h6 h7 h8 s5 s33 h10 s6 s90 s53
          rintro j ⟨e, σ⟩ hj ⟨h1, h5, h6, h7, h8, s5, s33, h10, h11, h12, h15, s6, s90, s11, s69, s691, l', pv, hJ, h14, s53⟩ K2 hK2
          simp only at h1 h5 h6 h7 h8 s5 s33 h10 h11 h12 h15 s6 s90 s11 s69 s691 h14 s53
          simp -dsimp -implicitDefEqProofs only [go_sem, Nat.reduceBEq, Nat.reduceAdd, Nat.reduceLeDiff, Nat.reduceSub, Int.reduceEq, h1, h5, h6, h7, h8, s5, s33, h10, s6, s90, s53, h11, h12, h15, s11, s69, s691, h14, List.length_map]
          refine ifB'.of (fun hjl => ?_) (fun hjl => ?_)
          · have hjl : j < (wI x t).length := by omega
            have hm : (wI x t)[j] ∈ wI x t := List.getElem_mem _
            have hnm := Wj_not (x := x) (t := t) hjl
            have hlast := hJ.2.2.2 ((wI x t)[j]) (by rw [List.drop_eq_getElem_cons hjl]; exact List.mem_cons_self)
            have hstep := Wj_step hJ hjl
            have hA : (ra byC ((wI x t).map fun i => encP (pAt x.h i)))[j]? = some (byC (encP (pAt x.h ((wI x t)[j])))) := by rw [ra_at (by rw [hoL]; exact hjl), List.getElem_map]
            have hi8 := (wI_mem.1 hm).1
            have hfar := Wl_far hW hok hm
            have hkeep := hJ.2.2.1 ((wI x t)[j])
            have hl' : l'.length = x.h.length := hJ.1.trans hW.1
            have hll : l.length = x.h.length := hW.1
            generalize (wI x t)[j] = i at *
            have hin : i < x.h.length := by omega
            have hpok : okB (pAt x.h i) = true := by rw [pAt_of hin]; exact decide_eq_true (hok.2 i hin).1
            have hpc : (pAt x.h i).c = x.b - x.h.length + i := by rw [pAt_of hin]; exact (hok.2 i hin).2.2.2.1
            have hD := c_implDecodePacket (encP (pAt x.h i)) (by have := encP_bd hB i; omega)
            rw [decRes, decP_encP hpok] at hD
            generalize pAt x.h i = p at *
            have hw : IntKind.i64.wrap (p.c - (x.b - (x.h.length : Int))) = ((i : Nat) : Int) := by rw [hpc, wrap_i64_of (by omega) (by omega)]; omega
            have d1 : decide (((i : Nat) : Int) < 0) = false := decide_eq_false (by omega)
            have d2 : decide ((x.h.length : Int) ≤ ((i : Nat) : Int)) = false := decide_eq_false (by omega)
            have d3 : decide ((8 : Int) ≤ ((i : Nat) : Int)) = false := decide_eq_false (by omega)
            have d4 : decide (((i : Nat) : Int) ≤ pv) = false := decide_eq_false (by omega)
            have hil : i < l'.length := by omega
            have hB' : (ra intC l')[i]? = some (intC l'[i]) := ra_at hil
            have hfar := hfar (by omega)
            rw [← hkeep hil (by omega) hnm] at hfar
            have hst : (ra intC l').set i [AV.v (.int .i64 (t : Nat))] = ra intC (l'.set i (t : Nat)) := ra_set (enc := intC) _ _ _
            have hpl : p.f.length ≤ 1048576 := okB_len hpok
            repeat' (first | with_reducible refine ask.of (by first | omega | decide | (simp only [ra_length, bytesA_length, List.length_cons, List.length_nil]; omega)) ?_ | ((with_reducible refine ifB'.of (fun h => ?_) (fun h => ?_)) <;> first | (exfalso; omega) | (exfalso; exact h trivial) | skip) | simp -dsimp -implicitDefEqProofs only [go_sem, Nat.reduceBEq, Nat.reduceAdd, Nat.reduceLeDiff, Nat.reduceSub, Int.reduceEq, h1, h5, h6, h7, h8, s5, s33, h10, s6, s90, s53, h11, h12, h15, s11, s69, s691, h14, hA, byC, blA, bl4, bleR, bl67])
            refine CallE.of (hD) (by rintro r rfl; (repeat' first | exact trivial | exact pure_rowB _ | exact pure_rowBB _ | exact pure_rowPk _ _ | exact pure_rowSn _ _ | refine And.intro ?_ ?_)) (by simp -dsimp -implicitDefEqProofs only [go_sem, Nat.reduceBEq, Nat.reduceAdd, Nat.reduceLeDiff, Nat.reduceSub, Int.reduceEq, h1, h5, h6, h7, h8, s5, s33, h10, s6, s90, s53, h11, h12, h15, s11, s69, s691, h14]) ?_
            rintro r rfl
            generalize l'[i] = v at *
            rcases hfar with hv | ⟨hv, hv4⟩
            · subst hv
              repeat' (first | with_reducible refine ask.of (by first | omega | decide | (simp only [ra_length, bytesA_length, List.length_cons, List.length_nil]; omega)) ?_ | ((with_reducible refine ifB'.of (fun h => ?_) (fun h => ?_)) <;> first | (exfalso; omega) | (exfalso; exact h trivial) | skip) | simp -dsimp -implicitDefEqProofs only [go_sem, Nat.reduceBEq, Nat.reduceAdd, Nat.reduceLeDiff, Nat.reduceSub, Int.reduceEq, h1, h5, h6, h7, h8, s5, s33, h10, s6, s90, s53, h11, h12, h15, s11, s69, s691, h14, pkC, hw, d1, d2, d3, d4, decide_true, decide_false, Bool.not_true, hl', ra_length, hB', intC, hst, show decide ((0 : Int) ≤ -1) = false from rfl, blA, bl4, bleR, bl67])
              refine hK2 _ hjl ?_
              simp -dsimp -implicitDefEqProofs only [go_sem, Nat.reduceBEq, Nat.reduceAdd, Nat.reduceLeDiff, Nat.reduceSub, Int.reduceEq, h1, h5, h6, h7, h8, s5, s33, h10, s6, s90, s53, h11, h12, h15, s11, s69, s691, h14, wrap_succ (show j < 4611686018427387904 by omega)]
              exact ⟨_, _, hstep, rfl, rfl⟩
            · have d5 : decide ((0 : Int) ≤ v) = true := decide_eq_true hv
              have d6 : IntKind.i64.wrap ((t : Int) - v) = (t : Int) - v := by rw [wrap_i64_of (by omega) (by omega)]
              have d7 : decide ((t : Int) - v < 4) = false := decide_eq_false (by omega)
              repeat' (first | with_reducible refine ask.of (by first | omega | decide | (simp only [ra_length, bytesA_length, List.length_cons, List.length_nil]; omega)) ?_ | ((with_reducible refine ifB'.of (fun h => ?_) (fun h => ?_)) <;> first | (exfalso; omega) | (exfalso; exact h trivial) | skip) | simp -dsimp -implicitDefEqProofs only [go_sem, Nat.reduceBEq, Nat.reduceAdd, Nat.reduceLeDiff, Nat.reduceSub, Int.reduceEq, h1, h5, h6, h7, h8, s5, s33, h10, s6, s90, s53, h11, h12, h15, s11, s69, s691, h14, pkC, hw, d1, d2, d3, d4, d5, d6, d7, decide_true, decide_false, Bool.not_true, hl', ra_length, hB', intC, hst, blA, bl4, bleR, bl67])
              refine hK2 _ hjl ?_
              simp -dsimp -implicitDefEqProofs only [go_sem, Nat.reduceBEq, Nat.reduceAdd, Nat.reduceLeDiff, Nat.reduceSub, Int.reduceEq, h1, h5, h6, h7, h8, s5, s33, h10, s6, s90, s53, h11, h12, h15, s11, s69, s691, h14, wrap_succ (show j < 4611686018427387904 by omega)]
              exact ⟨_, _, hstep, rfl, rfl⟩
          · have hje : j = (wI x t).length := by omega
            subst hje
            clear hK2
            repeat' (first | with_reducible refine ask.of (by first | omega | decide | (simp only [ra_length, bytesA_length, List.length_cons, List.length_nil]; omega)) ?_ | ((with_reducible refine ifB'.of (fun h => ?_) (fun h => ?_)) <;> first | (exfalso; omega) | (exfalso; exact h trivial) | skip) | simp -dsimp -implicitDefEqProofs only [go_sem, Nat.reduceBEq, Nat.reduceAdd, Nat.reduceLeDiff, Nat.reduceSub, Int.reduceEq, h1, h5, h6, h7, h8, s5, s33, h10, s6, s90, s53, h11, h12, h15, s11, s69, s691, h14, blA, bl4, bleR, bl67])
            refine hK _ _ hlt (Wk.mv [6] 3 [69, 0, 3] [90] 40 7 25 [.v (.int .i64 (tkI x (t + 1)).a), .v (.int .i64 (tkI x (t + 1)).b), .v (.int .i64 (tkI x (t + 1)).c), .ref [69, 0, 3]] (ra snC (tkI x (t + 1)).h) ?_ rfl ?_ rfl rfl (Wk.refl _)) ?_
            · simp -dsimp -implicitDefEqProofs only [go_sem, Nat.reduceBEq, Nat.reduceAdd, Nat.reduceLeDiff, Nat.reduceSub, Int.reduceEq, h1, h5, h6, h7, h8, s5, s33, h10, s6, s90, s53, s11, s69]
            · simp -dsimp -implicitDefEqProofs only [go_sem, Nat.reduceBEq, Nat.reduceAdd, Nat.reduceLeDiff, Nat.reduceSub, Int.reduceEq, h1, h5, h6, h7, h8, s5, s33, h10, s6, s90, s53, s11, s69]
            · simp -dsimp -implicitDefEqProofs only [go_sem, Nat.reduceBEq, Nat.reduceAdd, Nat.reduceLeDiff, Nat.reduceSub, Int.reduceEq, h1, h5, h6, h7, h8, s5, s33, h10, s6, s90, s53, h11, h12, h15, s11, s69, wrap_succ (show t < 4611686018427387904 by omega)]
              exact ⟨_, Wj_end hW hJ, rfl⟩
        · have ht12 : t = 12 := by omega
          subst ht12
          clear hK
          have hll : l.length = x.h.length := hW.1
          simp -dsimp -implicitDefEqProofs only [go_sem, Nat.reduceBEq, Nat.reduceAdd, Nat.reduceLeDiff, Nat.reduceSub, Int.reduceEq, h1, h5, h6, h7, h8, s5, s33, h10, s6, s90, s53]
          refine LoopE.cnt (min 8 x.h.length) (fun i s => s.env 1 = .rd .ent 5 1 (bytesA more) ∧ s.env 5 = .ptr [5] 0 0 0 ∧ s.env 6 = .ptr [6] 0 0 0 ∧ s.env 7 = .v (.int .i64 (x.b - (x.h.length : Int))) ∧ s.env 8 = .ref [53] ∧ s.σ [5] = some (.box 25 [.v (.int .i64 x.a), .v (.int .i64 x.b), .v (.int .i64 x.c), .ref [33, 3]]) ∧ s.σ [33, 3] = some (.row 40 7 (ra snC x.h)) ∧ s.env 19 = .v (.int .i64 (i : Nat)) ∧ s.σ [6] = some (.box 25 [.v (.int .i64 (tkI x 12).a), .v (.int .i64 (tkI x 12).b), .v (.int .i64 (tkI x 12).c), .ref [90]]) ∧ s.σ [90] = some (.row 40 7 (ra snC (tkI x 12).h)) ∧ s.σ [53] = some (.row 3 1 (ra intC l)))
            (by refine ⟨?_, ?_, ?_, ?_, ?_, ?_, ?_, ?_, ?_, ?_, ?_⟩ <;> first | (simp -dsimp -implicitDefEqProofs only [go_sem, Nat.reduceBEq, Nat.reduceAdd, Nat.reduceLeDiff, Nat.reduceSub, Int.reduceEq, h1, h5, h6, h7, h8, s5, s33, h10, s6, s90, s53]; done) | (simp -dsimp -implicitDefEqProofs only [go_sem, Nat.reduceBEq, Nat.reduceAdd, Nat.reduceLeDiff, Nat.reduceSub, Int.reduceEq, h1, h5, h6, h7, h8, s5, s33, h10, s6, s90, s53] <;> rfl)) ?_
          clear h1 h5 h6 h7 h8 s5 s33 h10 s6 s90 s53
          rintro i ⟨e, σ⟩ hi ⟨h1, h5, h6, h7, h8, s5, s33, h19, s6, s90, s53⟩ K hK
          simp only at h1 h5 h6 h7 h8 s5 s33 h19 s6 s90 s53
          by_cases hlt : i < min 8 x.h.length
          · have e1 : decide (((i : Nat) : Int) < (x.h.length : Int)) = true := decide_eq_true (by omega)
            have e2 : decide (((i : Nat) : Int) < 8) = true := decide_eq_true (by omega)
            have hil : i < l.length := by omega
            have hA : (ra intC l)[i]? = some (intC l[i]) := ra_at hil
            have e3 := Wl_end hW hok hil (by omega)
            repeat' (first | with_reducible refine ask.of (by first | omega | decide | (simp only [ra_length, bytesA_length, List.length_cons, List.length_nil]; omega)) ?_ | ((with_reducible refine ifB'.of (fun h => ?_) (fun h => ?_)) <;> first | (exfalso; omega) | (exfalso; exact h trivial) | skip) | simp -dsimp -implicitDefEqProofs only [go_sem, Nat.reduceBEq, Nat.reduceAdd, Nat.reduceLeDiff, Nat.reduceSub, Int.reduceEq, h1, h5, h6, h7, h8, s5, s33, h19, s6, s90, s53, hll, e1, e2, hA, intC, blA, bl4, bleR, bl67])
            refine hK _ hlt ?_
            simp -dsimp -implicitDefEqProofs only [go_sem, Nat.reduceBEq, Nat.reduceAdd, Nat.reduceLeDiff, Nat.reduceSub, Int.reduceEq, h1, h5, h6, h7, h8, s5, s33, h19, s6, s90, s53, wrap_succ (show i < 4611686018427387904 by omega)]
          · clear hK
            have ht0 := c_take more 0 (by decide) hbm
            have et5 := tmodL (tkAt more 0) 5
            have hd5 : tkAt more 0 % 5 < 5 := Nat.mod_lt _ (by decide)
            simp only [show ((0 : Nat) : Int) = 0 from rfl, show ((5 : Nat) : Int) = 5 from rfl] at ht0 et5
            generalize tkAt more 0 = k0 at *
            generalize k0 % 5 = d at *
            have wq : IntKind.i64.wrap (x.b - (d : Int)) = x.b - d := by rw [wrap_i64_of (by omega) (by omega)]
            have wd : IntKind.i64.wrap (x.b - (x.b - (d : Int))) = (d : Int) := by rw [wrap_i64_of (by omega) (by omega)]; omega
            have hTb : (tkI x 12).h.length ≤ 1048576 := by rw [tkI_len]; exact hB.a
            have hTf : ∀ b ∈ (tkI x 12).h, b.p.f.length ≤ 1048576 := Bd.b (tkI_bd hB 12)
            have hAck := c_implLinkAcked (tkI x 12) (x.b - d) hTb hTf
            by_cases hqn : x.b - d < 0
            · by_cases hN8 : x.h.length ≤ 8
              · have e1 : decide (((i : Nat) : Int) < (x.h.length : Int)) = false := decide_eq_false (by omega)
                repeat' (first | with_reducible refine ask.of (by first | omega | decide | (simp only [ra_length, bytesA_length, List.length_cons, List.length_nil]; omega)) ?_ | ((with_reducible refine ifB'.of (fun h => ?_) (fun h => ?_)) <;> first | (exfalso; omega) | (exfalso; exact h trivial) | skip) | simp -dsimp -implicitDefEqProofs only [go_sem, Nat.reduceBEq, Nat.reduceAdd, Nat.reduceLeDiff, Nat.reduceSub, Int.reduceEq, h1, h5, h6, h7, h8, s5, s33, h19, s6, s90, s53, hll, e1, blA, bl4, bleR, bl67])
                refine CallE.of (ht0) (by rintro r rfl; (repeat' first | exact trivial | exact pure_rowB _ | exact pure_rowBB _ | exact pure_rowPk _ _ | exact pure_rowSn _ _ | refine And.intro ?_ ?_)) (by simp -dsimp -implicitDefEqProofs only [go_sem, Nat.reduceBEq, Nat.reduceAdd, Nat.reduceLeDiff, Nat.reduceSub, Int.reduceEq, h1, h5, h6, h7, h8, s5, s33, h19, s6, s90, s53]) ?_
                rintro r rfl
                repeat' (first | with_reducible refine ask.of (by first | omega | decide | (simp only [ra_length, bytesA_length, List.length_cons, List.length_nil]; omega)) ?_ | ((with_reducible refine ifB'.of (fun h => ?_) (fun h => ?_)) <;> first | (exfalso; omega) | (exfalso; exact h trivial) | skip) | simp -dsimp -implicitDefEqProofs only [go_sem, Nat.reduceBEq, Nat.reduceAdd, Nat.reduceLeDiff, Nat.reduceSub, Int.reduceEq, h1, h5, h6, h7, h8, s5, s33, h19, s6, s90, s53, et5, wq, blA, bl4, bleR, bl67])
              · have e1 : decide (((i : Nat) : Int) < (x.h.length : Int)) = true := decide_eq_true (by omega)
                have e2 : decide (((i : Nat) : Int) < 8) = false := decide_eq_false (by omega)
                repeat' (first | with_reducible refine ask.of (by first | omega | decide | (simp only [ra_length, bytesA_length, List.length_cons, List.length_nil]; omega)) ?_ | ((with_reducible refine ifB'.of (fun h => ?_) (fun h => ?_)) <;> first | (exfalso; omega) | (exfalso; exact h trivial) | skip) | simp -dsimp -implicitDefEqProofs only [go_sem, Nat.reduceBEq, Nat.reduceAdd, Nat.reduceLeDiff, Nat.reduceSub, Int.reduceEq, h1, h5, h6, h7, h8, s5, s33, h19, s6, s90, s53, hll, e1, e2, blA, bl4, bleR, bl67])
                refine CallE.of (ht0) (by rintro r rfl; (repeat' first | exact trivial | exact pure_rowB _ | exact pure_rowBB _ | exact pure_rowPk _ _ | exact pure_rowSn _ _ | refine And.intro ?_ ?_)) (by simp -dsimp -implicitDefEqProofs only [go_sem, Nat.reduceBEq, Nat.reduceAdd, Nat.reduceLeDiff, Nat.reduceSub, Int.reduceEq, h1, h5, h6, h7, h8, s5, s33, h19, s6, s90, s53]) ?_
                rintro r rfl
                repeat' (first | with_reducible refine ask.of (by first | omega | decide | (simp only [ra_length, bytesA_length, List.length_cons, List.length_nil]; omega)) ?_ | ((with_reducible refine ifB'.of (fun h => ?_) (fun h => ?_)) <;> first | (exfalso; omega) | (exfalso; exact h trivial) | skip) | simp -dsimp -implicitDefEqProofs only [go_sem, Nat.reduceBEq, Nat.reduceAdd, Nat.reduceLeDiff, Nat.reduceSub, Int.reduceEq, h1, h5, h6, h7, h8, s5, s33, h19, s6, s90, s53, et5, wq, blA, bl4, bleR, bl67])
            · have hTo := tkI_ok hok hc 12 (by decide)
              rw [ackL_yes ⟨hTo, by omega, by rw [tkI_b]; omega⟩, ack_I hTo (w := min x.h.length d) (by rw [tkI_len]; omega) (by rw [tkI_len, tkI_b]; omega)] at hAck
              have hDl : ((tkI x 12).h.drop ((tkI x 12).h.length - min x.h.length d)).length = min x.h.length d := by rw [List.length_drop, tkI_len]; omega
              have hD0 : 0 < min x.h.length d → ∃ s0, ((tkI x 12).h.drop ((tkI x 12).h.length - min x.h.length d))[0]? = some s0 ∧ s0.p.c = x.b - (min x.h.length d : Nat) := fun h0 => by
                have hlt : (tkI x 12).h.length - min x.h.length d < (tkI x 12).h.length := by rw [tkI_len]; omega
                refine ⟨(tkI x 12).h[(tkI x 12).h.length - min x.h.length d], ?_, ?_⟩
                · rw [List.getElem?_drop, Nat.add_zero, List.getElem?_eq_getElem hlt]
                · rw [(hTo.2 _ hlt).2.2.2.1, tkI_b, tkI_len]; omega
              generalize (tkI x 12).h.drop ((tkI x 12).h.length - min x.h.length d) = D at *
              by_cases hN8 : x.h.length ≤ 8
              · have e1 : decide (((i : Nat) : Int) < (x.h.length : Int)) = false := decide_eq_false (by omega)
                repeat' (first | with_reducible refine ask.of (by first | omega | decide | (simp only [ra_length, bytesA_length, List.length_cons, List.length_nil]; omega)) ?_ | ((with_reducible refine ifB'.of (fun h => ?_) (fun h => ?_)) <;> first | (exfalso; omega) | (exfalso; exact h trivial) | skip) | simp -dsimp -implicitDefEqProofs only [go_sem, Nat.reduceBEq, Nat.reduceAdd, Nat.reduceLeDiff, Nat.reduceSub, Int.reduceEq, h1, h5, h6, h7, h8, s5, s33, h19, s6, s90, s53, hll, e1, decide_true, decide_false, blA, bl4, bleR, bl67])
                refine CallE.of (ht0) (by rintro r rfl; (repeat' first | exact trivial | exact pure_rowB _ | exact pure_rowBB _ | exact pure_rowPk _ _ | exact pure_rowSn _ _ | refine And.intro ?_ ?_)) (by simp -dsimp -implicitDefEqProofs only [go_sem, Nat.reduceBEq, Nat.reduceAdd, Nat.reduceLeDiff, Nat.reduceSub, Int.reduceEq, h1, h5, h6, h7, h8, s5, s33, h19, s6, s90, s53]) ?_
                rintro r rfl
                repeat' (first | with_reducible refine ask.of (by first | omega | decide | (simp only [ra_length, bytesA_length, List.length_cons, List.length_nil]; omega)) ?_ | ((with_reducible refine ifB'.of (fun h => ?_) (fun h => ?_)) <;> first | (exfalso; omega) | (exfalso; exact h trivial) | skip) | simp -dsimp -implicitDefEqProofs only [go_sem, Nat.reduceBEq, Nat.reduceAdd, Nat.reduceLeDiff, Nat.reduceSub, Int.reduceEq, h1, h5, h6, h7, h8, s5, s33, h19, s6, s90, s53, et5, wq, blA, bl4, bleR, bl67])
                refine CallE.of (hAck) (by rintro r rfl; (repeat' first | exact trivial | exact pure_rowB _ | exact pure_rowBB _ | exact pure_rowPk _ _ | exact pure_rowSn _ _ | refine And.intro ?_ ?_)) (by simp -dsimp -implicitDefEqProofs only [go_sem, Nat.reduceBEq, Nat.reduceAdd, Nat.reduceLeDiff, Nat.reduceSub, Int.reduceEq, h1, h5, h6, h7, h8, s5, s33, h19, s6, s90, s53, loC]) ?_
                rintro r rfl
                by_cases hdN : d ≤ x.h.length
                · rw [Nat.min_eq_right hdN] at hDl hD0
                  by_cases hd0 : d = 0
                  · clear hD0
                    repeat' (first | with_reducible refine ask.of (by first | omega | decide | (simp only [ra_length, bytesA_length, List.length_cons, List.length_nil]; omega)) ?_ | ((with_reducible refine ifB'.of (fun h => ?_) (fun h => ?_)) <;> first | (exfalso; omega) | (exfalso; exact h trivial) | skip) | simp -dsimp -implicitDefEqProofs only [go_sem, Nat.reduceBEq, Nat.reduceAdd, Nat.reduceLeDiff, Nat.reduceSub, Int.reduceEq, h1, h5, h6, h7, h8, s5, s33, h19, s6, s90, s53, resL, loC, wd, decide_true, decide_false, Bool.not_true, hDl, blA, bl4, bleR, bl67])
                  · obtain ⟨s0, hs0, hs1⟩ := hD0 (Nat.pos_of_ne_zero hd0)
                    have hs2 : (ra snC D)[0]? = some (snC s0) := ra_at' hs0; clear hD0
                    repeat' (first | with_reducible refine ask.of (by first | omega | decide | (simp only [ra_length, bytesA_length, List.length_cons, List.length_nil]; omega)) ?_ | ((with_reducible refine ifB'.of (fun h => ?_) (fun h => ?_)) <;> first | (exfalso; omega) | (exfalso; exact h trivial) | skip) | simp -dsimp -implicitDefEqProofs only [go_sem, Nat.reduceBEq, Nat.reduceAdd, Nat.reduceLeDiff, Nat.reduceSub, Int.reduceEq, h1, h5, h6, h7, h8, s5, s33, h19, s6, s90, s53, resL, loC, wd, decide_true, decide_false, Bool.not_true, hDl, hs2, snC, hs1, wq, hbase, show Int.toNat 0 = 0 from rfl, blA, bl4, bleR, bl67])
                    done
                · rw [Nat.min_eq_left (Nat.le_of_not_le hdN)] at hDl hD0
                  by_cases hd0 : x.h.length = 0
                  · clear hD0
                    repeat' (first | with_reducible refine ask.of (by first | omega | decide | (simp only [ra_length, bytesA_length, List.length_cons, List.length_nil]; omega)) ?_ | ((with_reducible refine ifB'.of (fun h => ?_) (fun h => ?_)) <;> first | (exfalso; omega) | (exfalso; exact h trivial) | skip) | simp -dsimp -implicitDefEqProofs only [go_sem, Nat.reduceBEq, Nat.reduceAdd, Nat.reduceLeDiff, Nat.reduceSub, Int.reduceEq, h1, h5, h6, h7, h8, s5, s33, h19, s6, s90, s53, resL, loC, wd, decide_true, decide_false, Bool.not_true, hDl, blA, bl4, bleR, bl67])
                  · obtain ⟨s0, hs0, hs1⟩ := hD0 (Nat.pos_of_ne_zero hd0)
                    have hs2 : (ra snC D)[0]? = some (snC s0) := ra_at' hs0; clear hD0
                    repeat' (first | with_reducible refine ask.of (by first | omega | decide | (simp only [ra_length, bytesA_length, List.length_cons, List.length_nil]; omega)) ?_ | ((with_reducible refine ifB'.of (fun h => ?_) (fun h => ?_)) <;> first | (exfalso; omega) | (exfalso; exact h trivial) | skip) | simp -dsimp -implicitDefEqProofs only [go_sem, Nat.reduceBEq, Nat.reduceAdd, Nat.reduceLeDiff, Nat.reduceSub, Int.reduceEq, h1, h5, h6, h7, h8, s5, s33, h19, s6, s90, s53, resL, loC, wd, decide_true, decide_false, Bool.not_true, hDl, hs2, snC, hs1, wq, hbase, show Int.toNat 0 = 0 from rfl, blA, bl4, bleR, bl67])
                    done

              · have e1 : decide (((i : Nat) : Int) < (x.h.length : Int)) = true := decide_eq_true (by omega)
                have e2 : decide (((i : Nat) : Int) < 8) = false := decide_eq_false (by omega)
                repeat' (first | with_reducible refine ask.of (by first | omega | decide | (simp only [ra_length, bytesA_length, List.length_cons, List.length_nil]; omega)) ?_ | ((with_reducible refine ifB'.of (fun h => ?_) (fun h => ?_)) <;> first | (exfalso; omega) | (exfalso; exact h trivial) | skip) | simp -dsimp -implicitDefEqProofs only [go_sem, Nat.reduceBEq, Nat.reduceAdd, Nat.reduceLeDiff, Nat.reduceSub, Int.reduceEq, h1, h5, h6, h7, h8, s5, s33, h19, s6, s90, s53, hll, e1, e2, decide_true, decide_false, blA, bl4, bleR, bl67])
                refine CallE.of (ht0) (by rintro r rfl; (repeat' first | exact trivial | exact pure_rowB _ | exact pure_rowBB _ | exact pure_rowPk _ _ | exact pure_rowSn _ _ | refine And.intro ?_ ?_)) (by simp -dsimp -implicitDefEqProofs only [go_sem, Nat.reduceBEq, Nat.reduceAdd, Nat.reduceLeDiff, Nat.reduceSub, Int.reduceEq, h1, h5, h6, h7, h8, s5, s33, h19, s6, s90, s53]) ?_
                rintro r rfl
                repeat' (first | with_reducible refine ask.of (by first | omega | decide | (simp only [ra_length, bytesA_length, List.length_cons, List.length_nil]; omega)) ?_ | ((with_reducible refine ifB'.of (fun h => ?_) (fun h => ?_)) <;> first | (exfalso; omega) | (exfalso; exact h trivial) | skip) | simp -dsimp -implicitDefEqProofs only [go_sem, Nat.reduceBEq, Nat.reduceAdd, Nat.reduceLeDiff, Nat.reduceSub, Int.reduceEq, h1, h5, h6, h7, h8, s5, s33, h19, s6, s90, s53, et5, wq, blA, bl4, bleR, bl67])
                refine CallE.of (hAck) (by rintro r rfl; (repeat' first | exact trivial | exact pure_rowB _ | exact pure_rowBB _ | exact pure_rowPk _ _ | exact pure_rowSn _ _ | refine And.intro ?_ ?_)) (by simp -dsimp -implicitDefEqProofs only [go_sem, Nat.reduceBEq, Nat.reduceAdd, Nat.reduceLeDiff, Nat.reduceSub, Int.reduceEq, h1, h5, h6, h7, h8, s5, s33, h19, s6, s90, s53, loC]) ?_
                rintro r rfl
                by_cases hdN : d ≤ x.h.length
                · rw [Nat.min_eq_right hdN] at hDl hD0
                  by_cases hd0 : d = 0
                  · clear hD0
                    repeat' (first | with_reducible refine ask.of (by first | omega | decide | (simp only [ra_length, bytesA_length, List.length_cons, List.length_nil]; omega)) ?_ | ((with_reducible refine ifB'.of (fun h => ?_) (fun h => ?_)) <;> first | (exfalso; omega) | (exfalso; exact h trivial) | skip) | simp -dsimp -implicitDefEqProofs only [go_sem, Nat.reduceBEq, Nat.reduceAdd, Nat.reduceLeDiff, Nat.reduceSub, Int.reduceEq, h1, h5, h6, h7, h8, s5, s33, h19, s6, s90, s53, resL, loC, wd, decide_true, decide_false, Bool.not_true, hDl, blA, bl4, bleR, bl67])
                  · obtain ⟨s0, hs0, hs1⟩ := hD0 (Nat.pos_of_ne_zero hd0)
                    have hs2 : (ra snC D)[0]? = some (snC s0) := ra_at' hs0; clear hD0
                    repeat' (first | with_reducible refine ask.of (by first | omega | decide | (simp only [ra_length, bytesA_length, List.length_cons, List.length_nil]; omega)) ?_ | ((with_reducible refine ifB'.of (fun h => ?_) (fun h => ?_)) <;> first | (exfalso; omega) | (exfalso; exact h trivial) | skip) | simp -dsimp -implicitDefEqProofs only [go_sem, Nat.reduceBEq, Nat.reduceAdd, Nat.reduceLeDiff, Nat.reduceSub, Int.reduceEq, h1, h5, h6, h7, h8, s5, s33, h19, s6, s90, s53, resL, loC, wd, decide_true, decide_false, Bool.not_true, hDl, hs2, snC, hs1, wq, hbase, show Int.toNat 0 = 0 from rfl, blA, bl4, bleR, bl67])
                    done
                · rw [Nat.min_eq_left (Nat.le_of_not_le hdN)] at hDl hD0
                  by_cases hd0 : x.h.length = 0
                  · clear hD0
                    repeat' (first | with_reducible refine ask.of (by first | omega | decide | (simp only [ra_length, bytesA_length, List.length_cons, List.length_nil]; omega)) ?_ | ((with_reducible refine ifB'.of (fun h => ?_) (fun h => ?_)) <;> first | (exfalso; omega) | (exfalso; exact h trivial) | skip) | simp -dsimp -implicitDefEqProofs only [go_sem, Nat.reduceBEq, Nat.reduceAdd, Nat.reduceLeDiff, Nat.reduceSub, Int.reduceEq, h1, h5, h6, h7, h8, s5, s33, h19, s6, s90, s53, resL, loC, wd, decide_true, decide_false, Bool.not_true, hDl, blA, bl4, bleR, bl67])
                  · obtain ⟨s0, hs0, hs1⟩ := hD0 (Nat.pos_of_ne_zero hd0)
                    have hs2 : (ra snC D)[0]? = some (snC s0) := ra_at' hs0; clear hD0
                    repeat' (first | with_reducible refine ask.of (by first | omega | decide | (simp only [ra_length, bytesA_length, List.length_cons, List.length_nil]; omega)) ?_ | ((with_reducible refine ifB'.of (fun h => ?_) (fun h => ?_)) <;> first | (exfalso; omega) | (exfalso; exact h trivial) | skip) | simp -dsimp -implicitDefEqProofs only [go_sem, Nat.reduceBEq, Nat.reduceAdd, Nat.reduceLeDiff, Nat.reduceSub, Int.reduceEq, h1, h5, h6, h7, h8, s5, s33, h19, s6, s90, s53, resL, loC, wd, decide_true, decide_false, Bool.not_true, hDl, hs2, snC, hs1, wq, hbase, show Int.toNat 0 = 0 from rfl, blA, bl4, bleR, bl67])
                    done

      · refine Meets.introO mixed (hint []) (fun k => (sel (k == 37) [0,1,2,3,4,5,6] [])) Try.func3 rfl (by decide) res_3 rty_3 (by kernel_rfl) ?_; 
        simp -dsimp -implicitDefEqProofs only [go_sem, Nat.reduceBEq, Nat.reduceAdd, Nat.reduceLeDiff, Nat.reduceSub, Int.reduceEq, initE]
        repeat' (first | with_reducible refine ask.of (by first | omega | decide | (simp only [ra_length, bytesA_length, List.length_cons, List.length_nil]; omega)) ?_ | ((with_reducible refine ifB'.of (fun h => ?_) (fun h => ?_)) <;> first | (exfalso; omega) | (exfalso; exact h trivial) | skip) | simp -dsimp -implicitDefEqProofs only [go_sem, Nat.reduceBEq, Nat.reduceAdd, Nat.reduceLeDiff, Nat.reduceSub, Int.reduceEq, initE, blA, bl4, bleR, bl67])
        refine CallE.of (hX) (by rintro r rfl; (repeat' first | exact trivial | exact pure_rowB _ | exact pure_rowO _ | exact pure_rowI _ | exact pure_rowBB _ | exact pure_rowPk _ _ | exact pure_rowSn _ _ | exact pure_rowFd _ _ | exact pure_rowBBB _ | exact pure_rowCl _ _ | exact pure_rowTb _ _ _ | refine And.intro ?_ ?_)) (by simp -dsimp -implicitDefEqProofs only [go_sem, Nat.reduceBEq, Nat.reduceAdd, Nat.reduceLeDiff, Nat.reduceSub, Int.reduceEq, loC]) ?_
        rintro r rfl
        simp -dsimp -implicitDefEqProofs only [go_sem, Nat.reduceBEq, Nat.reduceAdd, Nat.reduceLeDiff, Nat.reduceSub, Int.reduceEq, loC]
        repeat' (first | with_reducible refine ask.of (by first | omega | decide | (simp only [ra_length, bytesA_length, List.length_cons, List.length_nil]; omega)) ?_ | ((with_reducible refine ifB'.of (fun h => ?_) (fun h => ?_)) <;> first | (exfalso; omega) | (exfalso; exact h trivial) | skip) | simp -dsimp -implicitDefEqProofs only [go_sem, Nat.reduceBEq, Nat.reduceAdd, Nat.reduceLeDiff, Nat.reduceSub, Int.reduceEq, blA, bl4, bleR, bl67])
        refine CallE.of (hV) (by rintro r rfl; (repeat' first | exact trivial | exact pure_rowB _ | exact pure_rowO _ | exact pure_rowI _ | exact pure_rowBB _ | exact pure_rowPk _ _ | exact pure_rowSn _ _ | exact pure_rowFd _ _ | exact pure_rowBBB _ | exact pure_rowCl _ _ | exact pure_rowTb _ _ _ | refine And.intro ?_ ?_)) (by simp -dsimp -implicitDefEqProofs only [go_sem, Nat.reduceBEq, Nat.reduceAdd, Nat.reduceLeDiff, Nat.reduceSub, Int.reduceEq, loC]) ?_
        rintro r rfl
        simp -dsimp -implicitDefEqProofs only [go_sem, Nat.reduceBEq, Nat.reduceAdd, Nat.reduceLeDiff, Nat.reduceSub, Int.reduceEq, loC]
        repeat' (first | with_reducible refine ask.of (by first | omega | decide | (simp only [ra_length, bytesA_length, List.length_cons, List.length_nil]; omega)) ?_ | ((with_reducible refine ifB'.of (fun h => ?_) (fun h => ?_)) <;> first | (exfalso; omega) | (exfalso; exact h trivial) | skip) | simp -dsimp -implicitDefEqProofs only [go_sem, Nat.reduceBEq, Nat.reduceAdd, Nat.reduceLeDiff, Nat.reduceSub, Int.reduceEq, Bool.not_true, decide_true, blA, bl4, bleR, bl67])
    · rw [← lo_f hok] at hV
      refine Meets.introO mixed (hint []) (fun k => (sel (k == 37) [0,1,2,3,4,5,6] [])) Try.func3 rfl (by decide) res_3 rty_3 (by kernel_rfl) ?_; 
      simp -dsimp -implicitDefEqProofs only [go_sem, Nat.reduceBEq, Nat.reduceAdd, Nat.reduceLeDiff, Nat.reduceSub, Int.reduceEq, initE]
      repeat' (first | with_reducible refine ask.of (by first | omega | decide | (simp only [ra_length, bytesA_length, List.length_cons, List.length_nil]; omega)) ?_ | ((with_reducible refine ifB'.of (fun h => ?_) (fun h => ?_)) <;> first | (exfalso; omega) | (exfalso; exact h trivial) | skip) | simp -dsimp -implicitDefEqProofs only [go_sem, Nat.reduceBEq, Nat.reduceAdd, Nat.reduceLeDiff, Nat.reduceSub, Int.reduceEq, initE, blA, bl4, bleR, bl67])
      refine CallE.of (hX) (by rintro r rfl; (repeat' first | exact trivial | exact pure_rowB _ | exact pure_rowO _ | exact pure_rowI _ | exact pure_rowBB _ | exact pure_rowPk _ _ | exact pure_rowSn _ _ | exact pure_rowFd _ _ | exact pure_rowBBB _ | exact pure_rowCl _ _ | exact pure_rowTb _ _ _ | refine And.intro ?_ ?_)) (by simp -dsimp -implicitDefEqProofs only [go_sem, Nat.reduceBEq, Nat.reduceAdd, Nat.reduceLeDiff, Nat.reduceSub, Int.reduceEq, loC]) ?_
      rintro r rfl
      simp -dsimp -implicitDefEqProofs only [go_sem, Nat.reduceBEq, Nat.reduceAdd, Nat.reduceLeDiff, Nat.reduceSub, Int.reduceEq, loC]
      repeat' (first | with_reducible refine ask.of (by first | omega | decide | (simp only [ra_length, bytesA_length, List.length_cons, List.length_nil]; omega)) ?_ | ((with_reducible refine ifB'.of (fun h => ?_) (fun h => ?_)) <;> first | (exfalso; omega) | (exfalso; exact h trivial) | skip) | simp -dsimp -implicitDefEqProofs only [go_sem, Nat.reduceBEq, Nat.reduceAdd, Nat.reduceLeDiff, Nat.reduceSub, Int.reduceEq, blA, bl4, bleR, bl67])
      refine CallE.of (hV) (by rintro r rfl; (repeat' first | exact trivial | exact pure_rowB _ | exact pure_rowO _ | exact pure_rowI _ | exact pure_rowBB _ | exact pure_rowPk _ _ | exact pure_rowSn _ _ | exact pure_rowFd _ _ | exact pure_rowBBB _ | exact pure_rowCl _ _ | exact pure_rowTb _ _ _ | refine And.intro ?_ ?_)) (by simp -dsimp -implicitDefEqProofs only [go_sem, Nat.reduceBEq, Nat.reduceAdd, Nat.reduceLeDiff, Nat.reduceSub, Int.reduceEq, loC]) ?_
      rintro r rfl
      simp -dsimp -implicitDefEqProofs only [go_sem, Nat.reduceBEq, Nat.reduceAdd, Nat.reduceLeDiff, Nat.reduceSub, Int.reduceEq, loC]
      repeat' (first | with_reducible refine ask.of (by first | omega | decide | (simp only [ra_length, bytesA_length, List.length_cons, List.length_nil]; omega)) ?_ | ((with_reducible refine ifB'.of (fun h => ?_) (fun h => ?_)) <;> first | (exfalso; omega) | (exfalso; exact h trivial) | skip) | simp -dsimp -implicitDefEqProofs only [go_sem, Nat.reduceBEq, Nat.reduceAdd, Nat.reduceLeDiff, Nat.reduceSub, Int.reduceEq, Bool.not_false, blA, bl4, bleR, bl67])
  · refine Meets.introO mixed (hint []) (fun k => (sel (k == 37) [0,1,2,3,4,5,6] [])) Try.func3 rfl (by decide) res_3 rty_3 (by kernel_rfl) ?_; 
    simp -dsimp -implicitDefEqProofs only [go_sem, Nat.reduceBEq, Nat.reduceAdd, Nat.reduceLeDiff, Nat.reduceSub, Int.reduceEq, initE]
    repeat' (first | with_reducible refine ask.of (by first | omega | decide | (simp only [ra_length, bytesA_length, List.length_cons, List.length_nil]; omega)) ?_ | ((with_reducible refine ifB'.of (fun h => ?_) (fun h => ?_)) <;> first | (exfalso; omega) | (exfalso; exact h trivial) | skip) | simp -dsimp -implicitDefEqProofs only [go_sem, Nat.reduceBEq, Nat.reduceAdd, Nat.reduceLeDiff, Nat.reduceSub, Int.reduceEq, initE, blA, bl4, bleR, bl67])
end Go.Ev
