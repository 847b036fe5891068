/- Part 13 of what the row leans on: the evaluator, words, contracts of functions; pruned by a program of ours. -/
import Derived.Test.YtcmkgoflnfchcaaFo12
set_option linter.unusedSimpArgs false
set_option linter.unusedVariables false
namespace Go.Ev
open Go Go.RowKit Go.Proofs
theorem exMs {P : Ms → Prop} {a b c : Int} {d : List (List UInt8)} (h : P ⟨a, b, c, d⟩) : ∃ v, P v := ⟨_, h⟩
theorem least_of {P : Nat → Prop} : ∀ n, P n → ∃ J, J ≤ n ∧ P J ∧ ∀ j, j < J → ¬ P j := by
  intro n
  induction n using Nat.strongRecOn with
  | ind n ih =>
    intro h
    by_cases hx : ∃ j, j < n ∧ P j
    · obtain ⟨j, hj, hp⟩ := hx
      obtain ⟨J, h1, h2, h3⟩ := ih j hj hp
      exact ⟨J, by omega, h2, h3⟩
    · exact ⟨n, Nat.le_refl _, h, fun j hj hp => hx ⟨j, hj, hp⟩⟩
theorem byA_snoc0 (xs : List (List UInt8)) : ra byC xs ++ [[.row 5 1 []]] = ra byC (xs ++ [[]]) := by simp [ra, byC, bytesA]
theorem wBB_bd {o : List (List UInt8)} {n : Nat} (h : ∀ b ∈ o, b.length ≤ n) : wBB o ≤ o.length * n := by
  induction o with
  | nil => simp [wBB, szL]
  | cons b o ih =>
    have h1 := h b List.mem_cons_self
    have h2 := ih fun c hc => h c (List.mem_cons_of_mem _ hc)
    simp only [wBB, szL, List.map_cons, List.sum_cons, List.length_cons, Nat.succ_mul] at h2 ⊢
    omega
theorem wBB_app (a b : List (List UInt8)) : wBB (a ++ b) = wBB a + wBB b := by simp [wBB, szL]
theorem wBB_rep0 : ∀ n : Nat, wBB (List.replicate n []) = 0
  | 0 => rfl
  | n + 1 => by
    have := wBB_rep0 n
    simp only [wBB, szL, List.replicate_succ, List.map_cons, List.sum_cons, List.length_nil] at this ⊢
    omega
set_option maxRecDepth 8000 in
set_option maxHeartbeats 16000000 in
theorem x_DrawEncodeMessage (code : List UInt8) (hb : code.length ≤ 1048576) : ∃ v : Ms, Meets Try.prog 16 [rowB code] (fun r => r = .agg (msC v)) ∧ v.bs.length + wBB v.bs ≤ 20200 := by
  have hc := cd_len code
  have hO := c_l1open code hb
  have hq0 := nxP_le (cd code) (Nat.zero_le _)
  have hq1 := nxP_le (cd code) hq0
  have hk := nxV_lt (cd code) 0
  have hk1 := nxV_lt (cd code) (nxP (cd code) 0)
  have hN := c_next (cd code) 0 (by omega)
  have hN1 := c_next (cd code) (nxP (cd code) 0) (by omega)
  have e4 := tmodL (nxV (cd code) 0) 4
  have a1 := addL 1 (n := nxV (cd code) 0 % 4) (by omega) (by decide)
  generalize cd code = c at *
  generalize nxP c (nxP c 0) = q2 at *
  generalize nxV c (nxP c 0) = k1 at *
  generalize nxP c 0 = q1 at *
  generalize nxV c 0 = k at *
  have hq2 := nxP_le c hq1
  have hN2 := c_next c q2 (by omega)
  have e12 := tmodL (nxV c q2) 12
  simp only [show ((4 : Nat) : Int) = 4 from rfl, show ((12 : Nat) : Int) = 12 from rfl, show ((1 : Nat) : Int) = 1 from rfl] at e4 a1 e12
  by_cases hk9 : k = 250
  · have hq3 : (nxP c q2) ≤ c.length := by omega
    have hN3 := c_next c (nxP c q2) (by omega)
    have e6 := tmodL (nxV c (nxP c q2)) 6
    have hn6 : nxV c (nxP c q2) % 6 < 6 := Nat.mod_lt _ (by decide)
    have hq4 := nxP_le c hq3
    simp only [show ((6 : Nat) : Int) = 6 from rfl] at e6
    generalize hnv : nxV c (nxP c q2) % 6 = n at *
    generalize hpv : nxP c (nxP c q2) = q4 at *
    have hql := fun i => jP_le c hq4 i
    have hjl := fun i => jL_length c q4 i
    have hjm : ∀ i, ∀ b ∈ jL c q4 i, b.length ≤ 20 := fun i b h => by have := jL_mem h; omega
    have hjw := fun i => wBB_bd (hjm i)
    apply exMs
    refine And.intro ?_ ?_
    · refine Meets.introO mixed (hint []) (fun k => (sel (k == 10) [996,0,2,906,1,2003,4,5,6,7,2003,905,1,4,5,6,7,4,1,5,6,7] (sel (k == 18) [996,0,3,912,1,905,2,2004,5,6,7,2004,5,6,2,7,2004,5,6,1,2,7] []))) Try.func16 rfl (by decide) res_16 rty_16 (by kernel_rfl) ?_; 
      simp -dsimp -implicitDefEqProofs only [go_sem, Nat.reduceBEq, Nat.reduceAdd, Nat.reduceLeDiff, Nat.reduceSub, Int.reduceEq, initE]
      refine CallE.lend (hO) (by simp -dsimp -implicitDefEqProofs only [go_sem, Nat.reduceBEq, Nat.reduceAdd, Nat.reduceLeDiff, Nat.reduceSub, Int.reduceEq, rdAt]) ?_
      rintro r rfl
      simp -dsimp -implicitDefEqProofs only [go_sem, Nat.reduceBEq, Nat.reduceAdd, Nat.reduceLeDiff, Nat.reduceSub, Int.reduceEq, rdAt]
      refine CallE.mutLend (hN) (by simp -dsimp -implicitDefEqProofs only [go_sem, Nat.reduceBEq, Nat.reduceAdd, Nat.reduceLeDiff, Nat.reduceSub, Int.reduceEq]) (by simp -dsimp -implicitDefEqProofs only [go_sem, Nat.reduceBEq, Nat.reduceAdd, Nat.reduceLeDiff, Nat.reduceSub, Int.reduceEq, rdAt]) (by simp -dsimp -implicitDefEqProofs only [go_sem, Nat.reduceBEq, Nat.reduceAdd, Nat.reduceLeDiff, Nat.reduceSub, Int.reduceEq, rdAt]) ?_
      rintro r rs ⟨rfl, rfl⟩
      simp -dsimp -implicitDefEqProofs only [go_sem, Nat.reduceBEq, Nat.reduceAdd, Nat.reduceLeDiff, Nat.reduceSub, Int.reduceEq, rdAt]
      simp -dsimp -implicitDefEqProofs only [go_sem, Nat.reduceBEq, Nat.reduceAdd, Nat.reduceLeDiff, Nat.reduceSub, Int.reduceEq, e4, a1]
      refine CallE.mutLend (hN1) (by simp -dsimp -implicitDefEqProofs only [go_sem, Nat.reduceBEq, Nat.reduceAdd, Nat.reduceLeDiff, Nat.reduceSub, Int.reduceEq]) (by simp -dsimp -implicitDefEqProofs only [go_sem, Nat.reduceBEq, Nat.reduceAdd, Nat.reduceLeDiff, Nat.reduceSub, Int.reduceEq, rdAt]) (by simp -dsimp -implicitDefEqProofs only [go_sem, Nat.reduceBEq, Nat.reduceAdd, Nat.reduceLeDiff, Nat.reduceSub, Int.reduceEq, rdAt]) ?_
      rintro r rs ⟨rfl, rfl⟩
      simp -dsimp -implicitDefEqProofs only [go_sem, Nat.reduceBEq, Nat.reduceAdd, Nat.reduceLeDiff, Nat.reduceSub, Int.reduceEq, rdAt]
      repeat' (first | with_reducible refine ask.of (by first | omega | decide) ?_ | ((with_reducible refine ifB'.of (fun h => ?_) (fun h => ?_)) <;> first | (exfalso; omega) | skip) | simp -dsimp -implicitDefEqProofs only [go_sem, Nat.reduceBEq, Nat.reduceAdd, Nat.reduceLeDiff, Nat.reduceSub, Int.reduceEq, blA, cty_rd, e4, a1, e12, e6])
      refine CallE.mutLend (hN2) (by simp -dsimp -implicitDefEqProofs only [go_sem, Nat.reduceBEq, Nat.reduceAdd, Nat.reduceLeDiff, Nat.reduceSub, Int.reduceEq]) (by simp -dsimp -implicitDefEqProofs only [go_sem, Nat.reduceBEq, Nat.reduceAdd, Nat.reduceLeDiff, Nat.reduceSub, Int.reduceEq, rdAt]) (by simp -dsimp -implicitDefEqProofs only [go_sem, Nat.reduceBEq, Nat.reduceAdd, Nat.reduceLeDiff, Nat.reduceSub, Int.reduceEq, rdAt]) ?_
      rintro r rs ⟨rfl, rfl⟩
      simp -dsimp -implicitDefEqProofs only [go_sem, Nat.reduceBEq, Nat.reduceAdd, Nat.reduceLeDiff, Nat.reduceSub, Int.reduceEq, rdAt]
      repeat' (first | with_reducible refine ask.of (by first | omega | decide) ?_ | ((with_reducible refine ifB'.of (fun h => ?_) (fun h => ?_)) <;> first | (exfalso; omega) | skip) | simp -dsimp -implicitDefEqProofs only [go_sem, Nat.reduceBEq, Nat.reduceAdd, Nat.reduceLeDiff, Nat.reduceSub, Int.reduceEq, blA, cty_rd, e4, a1, e12, e6])
      refine CallE.mutLend (hN3) (by simp -dsimp -implicitDefEqProofs only [go_sem, Nat.reduceBEq, Nat.reduceAdd, Nat.reduceLeDiff, Nat.reduceSub, Int.reduceEq]) (by simp -dsimp -implicitDefEqProofs only [go_sem, Nat.reduceBEq, Nat.reduceAdd, Nat.reduceLeDiff, Nat.reduceSub, Int.reduceEq, rdAt]) (by simp -dsimp -implicitDefEqProofs only [go_sem, Nat.reduceBEq, Nat.reduceAdd, Nat.reduceLeDiff, Nat.reduceSub, Int.reduceEq, rdAt]) ?_
      rintro r rs ⟨rfl, rfl⟩
      simp -dsimp -implicitDefEqProofs only [go_sem, Nat.reduceBEq, Nat.reduceAdd, Nat.reduceLeDiff, Nat.reduceSub, Int.reduceEq, rdAt]
      repeat' (first | with_reducible refine ask.of (by first | omega | decide) ?_ | ((with_reducible refine ifB'.of (fun h => ?_) (fun h => ?_)) <;> first | (exfalso; omega) | skip) | simp -dsimp -implicitDefEqProofs only [go_sem, Nat.reduceBEq, Nat.reduceAdd, Nat.reduceLeDiff, Nat.reduceSub, Int.reduceEq, blA, cty_rd, e4, a1, e12, e6, hpv])
      refine LoopE.cntW n (fun i s => s.env 2 = .ptr [2] 0 0 0 ∧ s.env 3 = .ptr [9, 0] 0 0 0 ∧ s.env 4 = .v (.int .i64 k) ∧ s.env 5 = .ptr [5] 0 0 0 ∧ s.env 6 = .v (.int .i64 n) ∧ s.env 7 = .v (.int .i64 i) ∧ s.σ [2] = some (.box 43 [.v (.int .i64 0), .v (.int .i64 0), .v (.int .i64 0), .v (.slice none 0 0)]) ∧
        s.σ [9, 0] = some (.box 121 [.rd .ent 5 1 (bytesA c), .v (.int .i64 (jP c q4 i : Nat))]) ∧ s.σ [5] = some (.box 43 [.v (.int .i64 (1 + k % 4 : Nat)), .v (.int .i64 ((nxV c q2 % 12 : Nat) : Int)), .v (.int .i64 k1), .ref [90]]) ∧ s.σ [90] = some (.row 22 1 (ra byC (jL c q4 i))))
        (Wk.box [5] 3 [90] 22 1 43 [.v (.int .i64 (1 + k % 4 : Nat)), .v (.int .i64 ((nxV c q2 % 12 : Nat) : Int)), .v (.int .i64 k1), .v (.slice none 0 0)] ?_ rfl rfl (Wk.refl _)) ?_ ?_
      · simp -dsimp -implicitDefEqProofs only [go_sem, Nat.reduceBEq, Nat.reduceAdd, Nat.reduceLeDiff, Nat.reduceSub, Int.reduceEq]
      · refine ⟨by simp -dsimp -implicitDefEqProofs only [go_sem, Nat.reduceBEq, Nat.reduceAdd, Nat.reduceLeDiff, Nat.reduceSub, Int.reduceEq], by simp -dsimp -implicitDefEqProofs only [go_sem, Nat.reduceBEq, Nat.reduceAdd, Nat.reduceLeDiff, Nat.reduceSub, Int.reduceEq], by simp -dsimp -implicitDefEqProofs only [go_sem, Nat.reduceBEq, Nat.reduceAdd, Nat.reduceLeDiff, Nat.reduceSub, Int.reduceEq], by simp -dsimp -implicitDefEqProofs only [go_sem, Nat.reduceBEq, Nat.reduceAdd, Nat.reduceLeDiff, Nat.reduceSub, Int.reduceEq], by simp -dsimp -implicitDefEqProofs only [go_sem, Nat.reduceBEq, Nat.reduceAdd, Nat.reduceLeDiff, Nat.reduceSub, Int.reduceEq], by simp -dsimp -implicitDefEqProofs only [go_sem, Nat.reduceBEq, Nat.reduceAdd, Nat.reduceLeDiff, Nat.reduceSub, Int.reduceEq] <;> rfl, by simp -dsimp -implicitDefEqProofs only [go_sem, Nat.reduceBEq, Nat.reduceAdd, Nat.reduceLeDiff, Nat.reduceSub, Int.reduceEq], by simp -dsimp -implicitDefEqProofs only [go_sem, Nat.reduceBEq, Nat.reduceAdd, Nat.reduceLeDiff, Nat.reduceSub, Int.reduceEq] <;> rfl, by simp -dsimp -implicitDefEqProofs only [go_sem, Nat.reduceBEq, Nat.reduceAdd, Nat.reduceLeDiff, Nat.reduceSub, Int.reduceEq] <;> rfl, by simp -dsimp -implicitDefEqProofs only [go_sem, Nat.reduceBEq, Nat.reduceAdd, Nat.reduceLeDiff, Nat.reduceSub, Int.reduceEq] <;> rfl⟩
      rintro i ⟨e, σ⟩ hi ⟨h2, h3, h4, h5, h6, h7, s2, s9, s5, s90⟩ K hK
      simp only at h2 h3 h4 h5 h6 h7 s2 s9 s5 s90
      simp -dsimp -implicitDefEqProofs only [go_sem, Nat.reduceBEq, Nat.reduceAdd, Nat.reduceLeDiff, Nat.reduceSub, Int.reduceEq, h2, h3, h4, h5, h6, h7, s2, s9, s5, s90]
      refine ifB'.of (fun hlt => ?_) (fun hlt => ?_)
      · have hlt : i < n := by omega
        have hql9 := hql i
        have hjl9 := hjl i
        repeat' (first | with_reducible refine And.intro ?_ ?_ | with_reducible refine ask.of (by first | omega | decide | (simp only [ra_length, List.length_cons, List.length_nil]; omega)) ?_ | (refine CallE.mutLend (c_l1drawBytes c (jP c q4 i) 20 (hql i) hc (by decide) (by decide)) (by simp -dsimp -implicitDefEqProofs only [go_sem, Nat.reduceBEq, Nat.reduceAdd, Nat.reduceLeDiff, Nat.reduceSub, Int.reduceEq, h2, h3, h4, h5, h6, h7, s2, s9, s5, s90]) (by simp -dsimp -implicitDefEqProofs only [go_sem, Nat.reduceBEq, Nat.reduceAdd, Nat.reduceLeDiff, Nat.reduceSub, Int.reduceEq, h2, h3, h4, h5, h6, h7, s2, s9, s5, s90, rdAt, show ((20 : Nat) : Int) = 20 from rfl]) (by simp -dsimp -implicitDefEqProofs only [go_sem, Nat.reduceBEq, Nat.reduceAdd, Nat.reduceLeDiff, Nat.reduceSub, Int.reduceEq, h2, h3, h4, h5, h6, h7, s2, s9, s5, s90, rdAt, show ((20 : Nat) : Int) = 20 from rfl]) ?_; rintro r rs ⟨rfl, rfl⟩) | simp -dsimp -implicitDefEqProofs only [go_sem, Nat.reduceBEq, Nat.reduceAdd, Nat.reduceLeDiff, Nat.reduceSub, Int.reduceEq, h2, h3, h4, h5, h6, h7, s2, s9, s5, s90, blA, rdAt, hjl9])
        all_goals
          refine hK _ _ hlt (Wk.refl _) ?_
          simp -dsimp -implicitDefEqProofs only [go_sem, Nat.reduceBEq, Nat.reduceAdd, Nat.reduceLeDiff, Nat.reduceSub, Int.reduceEq, h2, h3, h4, h5, h6, h7, s2, s9, s5, s90, wrap_succ (show i < 4611686018427387904 by omega), jP, jL_snoc]
      · have hin : i = n := by omega
        subst hin
        clear hK
        have hjl9 := hjl i
        repeat' (first | with_reducible refine ask.of (by first | omega | decide) ?_ | ((with_reducible refine ifB'.of (fun h => ?_) (fun h => ?_)) <;> first | (exfalso; omega) | skip) | simp -dsimp -implicitDefEqProofs only [go_sem, Nat.reduceBEq, Nat.reduceAdd, Nat.reduceLeDiff, Nat.reduceSub, Int.reduceEq, h2, h3, h4, h5, h6, h7, s2, s9, s5, s90, blA, cty_rd])
        exact rfl
    · show (jL c q4 n).length + wBB (jL c q4 n) ≤ 20200
      have := hjl n
      have := hjw n
      rw [hjl n] at this
      omega
  have hk250 := hk9
  clear hk9
  by_cases hk9 : k = 251
  · have hq3 : q2 ≤ c.length := by omega
    have hN3 := c_next c q2 (by omega)
    have e6 := tmodL (nxV c q2) 6
    have hn6 : nxV c q2 % 6 < 6 := Nat.mod_lt _ (by decide)
    have hq4 := nxP_le c hq3
    simp only [show ((6 : Nat) : Int) = 6 from rfl] at e6
    generalize hnv : nxV c q2 % 6 = n at *
    generalize hpv : nxP c q2 = q4 at *
    have hql := fun i => jP_le c hq4 i
    have hjl := fun i => jL_length c q4 i
    have hjm : ∀ i, ∀ b ∈ jL c q4 i, b.length ≤ 20 := fun i b h => by have := jL_mem h; omega
    have hjw := fun i => wBB_bd (hjm i)
    apply exMs
    refine And.intro ?_ ?_
    · refine Meets.introO mixed (hint []) (fun k => (sel (k == 10) [996,0,2,906,1,2003,4,5,6,7,2003,905,1,4,5,6,7,4,1,5,6,7] (sel (k == 18) [996,0,3,912,1,905,2,2004,5,6,7,2004,5,6,2,7,2004,5,6,1,2,7] []))) Try.func16 rfl (by decide) res_16 rty_16 (by kernel_rfl) ?_; 
      simp -dsimp -implicitDefEqProofs only [go_sem, Nat.reduceBEq, Nat.reduceAdd, Nat.reduceLeDiff, Nat.reduceSub, Int.reduceEq, initE]
      refine CallE.lend (hO) (by simp -dsimp -implicitDefEqProofs only [go_sem, Nat.reduceBEq, Nat.reduceAdd, Nat.reduceLeDiff, Nat.reduceSub, Int.reduceEq, rdAt]) ?_
      rintro r rfl
      simp -dsimp -implicitDefEqProofs only [go_sem, Nat.reduceBEq, Nat.reduceAdd, Nat.reduceLeDiff, Nat.reduceSub, Int.reduceEq, rdAt]
      refine CallE.mutLend (hN) (by simp -dsimp -implicitDefEqProofs only [go_sem, Nat.reduceBEq, Nat.reduceAdd, Nat.reduceLeDiff, Nat.reduceSub, Int.reduceEq]) (by simp -dsimp -implicitDefEqProofs only [go_sem, Nat.reduceBEq, Nat.reduceAdd, Nat.reduceLeDiff, Nat.reduceSub, Int.reduceEq, rdAt]) (by simp -dsimp -implicitDefEqProofs only [go_sem, Nat.reduceBEq, Nat.reduceAdd, Nat.reduceLeDiff, Nat.reduceSub, Int.reduceEq, rdAt]) ?_
      rintro r rs ⟨rfl, rfl⟩
      simp -dsimp -implicitDefEqProofs only [go_sem, Nat.reduceBEq, Nat.reduceAdd, Nat.reduceLeDiff, Nat.reduceSub, Int.reduceEq, rdAt]
      simp -dsimp -implicitDefEqProofs only [go_sem, Nat.reduceBEq, Nat.reduceAdd, Nat.reduceLeDiff, Nat.reduceSub, Int.reduceEq, e4, a1]
      refine CallE.mutLend (hN1) (by simp -dsimp -implicitDefEqProofs only [go_sem, Nat.reduceBEq, Nat.reduceAdd, Nat.reduceLeDiff, Nat.reduceSub, Int.reduceEq]) (by simp -dsimp -implicitDefEqProofs only [go_sem, Nat.reduceBEq, Nat.reduceAdd, Nat.reduceLeDiff, Nat.reduceSub, Int.reduceEq, rdAt]) (by simp -dsimp -implicitDefEqProofs only [go_sem, Nat.reduceBEq, Nat.reduceAdd, Nat.reduceLeDiff, Nat.reduceSub, Int.reduceEq, rdAt]) ?_
      rintro r rs ⟨rfl, rfl⟩
      simp -dsimp -implicitDefEqProofs only [go_sem, Nat.reduceBEq, Nat.reduceAdd, Nat.reduceLeDiff, Nat.reduceSub, Int.reduceEq, rdAt]
      repeat' (first | with_reducible refine ask.of (by first | omega | decide) ?_ | ((with_reducible refine ifB'.of (fun h => ?_) (fun h => ?_)) <;> first | (exfalso; omega) | skip) | simp -dsimp -implicitDefEqProofs only [go_sem, Nat.reduceBEq, Nat.reduceAdd, Nat.reduceLeDiff, Nat.reduceSub, Int.reduceEq, blA, cty_rd, e4, a1, e12, e6])
      refine CallE.mutLend (hN3) (by simp -dsimp -implicitDefEqProofs only [go_sem, Nat.reduceBEq, Nat.reduceAdd, Nat.reduceLeDiff, Nat.reduceSub, Int.reduceEq]) (by simp -dsimp -implicitDefEqProofs only [go_sem, Nat.reduceBEq, Nat.reduceAdd, Nat.reduceLeDiff, Nat.reduceSub, Int.reduceEq, rdAt]) (by simp -dsimp -implicitDefEqProofs only [go_sem, Nat.reduceBEq, Nat.reduceAdd, Nat.reduceLeDiff, Nat.reduceSub, Int.reduceEq, rdAt]) ?_
      rintro r rs ⟨rfl, rfl⟩
      simp -dsimp -implicitDefEqProofs only [go_sem, Nat.reduceBEq, Nat.reduceAdd, Nat.reduceLeDiff, Nat.reduceSub, Int.reduceEq, rdAt]
      repeat' (first | with_reducible refine ask.of (by first | omega | decide) ?_ | ((with_reducible refine ifB'.of (fun h => ?_) (fun h => ?_)) <;> first | (exfalso; omega) | skip) | simp -dsimp -implicitDefEqProofs only [go_sem, Nat.reduceBEq, Nat.reduceAdd, Nat.reduceLeDiff, Nat.reduceSub, Int.reduceEq, blA, cty_rd, e4, a1, e12, e6, hpv])
      refine LoopE.cntW n (fun i s => s.env 2 = .ptr [2] 0 0 0 ∧ s.env 3 = .ptr [9, 0] 0 0 0 ∧ s.env 4 = .v (.int .i64 k) ∧ s.env 5 = .ptr [5] 0 0 0 ∧ s.env 6 = .v (.int .i64 n) ∧ s.env 7 = .v (.int .i64 i) ∧ s.σ [2] = some (.box 43 [.v (.int .i64 0), .v (.int .i64 0), .v (.int .i64 0), .v (.slice none 0 0)]) ∧
        s.σ [9, 0] = some (.box 121 [.rd .ent 5 1 (bytesA c), .v (.int .i64 (jP c q4 i : Nat))]) ∧ s.σ [5] = some (.box 43 [.v (.int .i64 (1 + k % 4 : Nat)), .v (.int .i64 0), .v (.int .i64 k1), .ref [90]]) ∧ s.σ [90] = some (.row 22 1 (ra byC (jL c q4 i))))
        (Wk.box [5] 3 [90] 22 1 43 [.v (.int .i64 (1 + k % 4 : Nat)), .v (.int .i64 0), .v (.int .i64 k1), .v (.slice none 0 0)] ?_ rfl rfl (Wk.refl _)) ?_ ?_
      · simp -dsimp -implicitDefEqProofs only [go_sem, Nat.reduceBEq, Nat.reduceAdd, Nat.reduceLeDiff, Nat.reduceSub, Int.reduceEq]
      · refine ⟨by simp -dsimp -implicitDefEqProofs only [go_sem, Nat.reduceBEq, Nat.reduceAdd, Nat.reduceLeDiff, Nat.reduceSub, Int.reduceEq], by simp -dsimp -implicitDefEqProofs only [go_sem, Nat.reduceBEq, Nat.reduceAdd, Nat.reduceLeDiff, Nat.reduceSub, Int.reduceEq], by simp -dsimp -implicitDefEqProofs only [go_sem, Nat.reduceBEq, Nat.reduceAdd, Nat.reduceLeDiff, Nat.reduceSub, Int.reduceEq], by simp -dsimp -implicitDefEqProofs only [go_sem, Nat.reduceBEq, Nat.reduceAdd, Nat.reduceLeDiff, Nat.reduceSub, Int.reduceEq], by simp -dsimp -implicitDefEqProofs only [go_sem, Nat.reduceBEq, Nat.reduceAdd, Nat.reduceLeDiff, Nat.reduceSub, Int.reduceEq], by simp -dsimp -implicitDefEqProofs only [go_sem, Nat.reduceBEq, Nat.reduceAdd, Nat.reduceLeDiff, Nat.reduceSub, Int.reduceEq] <;> rfl, by simp -dsimp -implicitDefEqProofs only [go_sem, Nat.reduceBEq, Nat.reduceAdd, Nat.reduceLeDiff, Nat.reduceSub, Int.reduceEq], by simp -dsimp -implicitDefEqProofs only [go_sem, Nat.reduceBEq, Nat.reduceAdd, Nat.reduceLeDiff, Nat.reduceSub, Int.reduceEq] <;> rfl, by simp -dsimp -implicitDefEqProofs only [go_sem, Nat.reduceBEq, Nat.reduceAdd, Nat.reduceLeDiff, Nat.reduceSub, Int.reduceEq] <;> rfl, by simp -dsimp -implicitDefEqProofs only [go_sem, Nat.reduceBEq, Nat.reduceAdd, Nat.reduceLeDiff, Nat.reduceSub, Int.reduceEq] <;> rfl⟩
      rintro i ⟨e, σ⟩ hi ⟨h2, h3, h4, h5, h6, h7, s2, s9, s5, s90⟩ K hK
      simp only at h2 h3 h4 h5 h6 h7 s2 s9 s5 s90
      simp -dsimp -implicitDefEqProofs only [go_sem, Nat.reduceBEq, Nat.reduceAdd, Nat.reduceLeDiff, Nat.reduceSub, Int.reduceEq, h2, h3, h4, h5, h6, h7, s2, s9, s5, s90]
      refine ifB'.of (fun hlt => ?_) (fun hlt => ?_)
      · have hlt : i < n := by omega
        have hql9 := hql i
        have hjl9 := hjl i
        repeat' (first | with_reducible refine And.intro ?_ ?_ | with_reducible refine ask.of (by first | omega | decide | (simp only [ra_length, List.length_cons, List.length_nil]; omega)) ?_ | (refine CallE.mutLend (c_l1drawBytes c (jP c q4 i) 20 (hql i) hc (by decide) (by decide)) (by simp -dsimp -implicitDefEqProofs only [go_sem, Nat.reduceBEq, Nat.reduceAdd, Nat.reduceLeDiff, Nat.reduceSub, Int.reduceEq, h2, h3, h4, h5, h6, h7, s2, s9, s5, s90]) (by simp -dsimp -implicitDefEqProofs only [go_sem, Nat.reduceBEq, Nat.reduceAdd, Nat.reduceLeDiff, Nat.reduceSub, Int.reduceEq, h2, h3, h4, h5, h6, h7, s2, s9, s5, s90, rdAt, show ((20 : Nat) : Int) = 20 from rfl]) (by simp -dsimp -implicitDefEqProofs only [go_sem, Nat.reduceBEq, Nat.reduceAdd, Nat.reduceLeDiff, Nat.reduceSub, Int.reduceEq, h2, h3, h4, h5, h6, h7, s2, s9, s5, s90, rdAt, show ((20 : Nat) : Int) = 20 from rfl]) ?_; rintro r rs ⟨rfl, rfl⟩) | simp -dsimp -implicitDefEqProofs only [go_sem, Nat.reduceBEq, Nat.reduceAdd, Nat.reduceLeDiff, Nat.reduceSub, Int.reduceEq, h2, h3, h4, h5, h6, h7, s2, s9, s5, s90, blA, rdAt, hjl9])
        all_goals
          refine hK _ _ hlt (Wk.refl _) ?_
          simp -dsimp -implicitDefEqProofs only [go_sem, Nat.reduceBEq, Nat.reduceAdd, Nat.reduceLeDiff, Nat.reduceSub, Int.reduceEq, h2, h3, h4, h5, h6, h7, s2, s9, s5, s90, wrap_succ (show i < 4611686018427387904 by omega), jP, jL_snoc]
      · have hin : i = n := by omega
        subst hin
        clear hK
        have hjl9 := hjl i
        have e251 : ∀ x : Nat, x ≤ 1000 → IntKind.i64.wrap (IntKind.i64.wrap ((x : Int) + 12) - 1) = ((x + 11 : Nat) : Int) := fun x hx => by rw [wrap_i64_of (show -9223372036854775808 ≤ (x : Int) + 12 by omega) (by omega), wrap_i64_of (by omega) (by omega)]; omega
        have e251 := e251 0 (by decide)
        simp only [show ((0 : Nat) : Int) = 0 from rfl] at e251
        repeat' (first | with_reducible refine ask.of (by first | omega | decide) ?_ | ((with_reducible refine ifB'.of (fun h => ?_) (fun h => ?_)) <;> first | (exfalso; omega) | skip) | simp -dsimp -implicitDefEqProofs only [go_sem, Nat.reduceBEq, Nat.reduceAdd, Nat.reduceLeDiff, Nat.reduceSub, Int.reduceEq, h2, h3, h4, h5, h6, h7, s2, s9, s5, s90, blA, cty_rd, e251])
        exact rfl
    · show (jL c q4 n).length + wBB (jL c q4 n) ≤ 20200
      have := hjl n
      have := hjw n
      rw [hjl n] at this
      omega
  have hk251 := hk9
  clear hk9
  by_cases hk9 : k = 252
  · have hq3 : q2 ≤ c.length := by omega
    have hN3 := c_next c q2 (by omega)
    have e6 := tmodL (nxV c q2) 6
    have hn6 : nxV c q2 % 6 < 6 := Nat.mod_lt _ (by decide)
    have hq4 := nxP_le c hq3
    simp only [show ((6 : Nat) : Int) = 6 from rfl] at e6
    generalize hnv : nxV c q2 % 6 = n at *
    generalize hpv : nxP c q2 = q4 at *
    have hql := fun i => jP_le c hq4 i
    have hjl := fun i => jL_length c q4 i
    have hjm : ∀ i, ∀ b ∈ jL c q4 i, b.length ≤ 20 := fun i b h => by have := jL_mem h; omega
    have hjw := fun i => wBB_bd (hjm i)
    apply exMs
    refine And.intro ?_ ?_
    · refine Meets.introO mixed (hint []) (fun k => (sel (k == 10) [996,0,2,906,1,2003,4,5,6,7,2003,905,1,4,5,6,7,4,1,5,6,7] (sel (k == 18) [996,0,3,912,1,905,2,2004,5,6,7,2004,5,6,2,7,2004,5,6,1,2,7] []))) Try.func16 rfl (by decide) res_16 rty_16 (by kernel_rfl) ?_; 
      simp -dsimp -implicitDefEqProofs only [go_sem, Nat.reduceBEq, Nat.reduceAdd, Nat.reduceLeDiff, Nat.reduceSub, Int.reduceEq, initE]
      refine CallE.lend (hO) (by simp -dsimp -implicitDefEqProofs only [go_sem, Nat.reduceBEq, Nat.reduceAdd, Nat.reduceLeDiff, Nat.reduceSub, Int.reduceEq, rdAt]) ?_
      rintro r rfl
      simp -dsimp -implicitDefEqProofs only [go_sem, Nat.reduceBEq, Nat.reduceAdd, Nat.reduceLeDiff, Nat.reduceSub, Int.reduceEq, rdAt]
      refine CallE.mutLend (hN) (by simp -dsimp -implicitDefEqProofs only [go_sem, Nat.reduceBEq, Nat.reduceAdd, Nat.reduceLeDiff, Nat.reduceSub, Int.reduceEq]) (by simp -dsimp -implicitDefEqProofs only [go_sem, Nat.reduceBEq, Nat.reduceAdd, Nat.reduceLeDiff, Nat.reduceSub, Int.reduceEq, rdAt]) (by simp -dsimp -implicitDefEqProofs only [go_sem, Nat.reduceBEq, Nat.reduceAdd, Nat.reduceLeDiff, Nat.reduceSub, Int.reduceEq, rdAt]) ?_
      rintro r rs ⟨rfl, rfl⟩
      simp -dsimp -implicitDefEqProofs only [go_sem, Nat.reduceBEq, Nat.reduceAdd, Nat.reduceLeDiff, Nat.reduceSub, Int.reduceEq, rdAt]
      simp -dsimp -implicitDefEqProofs only [go_sem, Nat.reduceBEq, Nat.reduceAdd, Nat.reduceLeDiff, Nat.reduceSub, Int.reduceEq, e4, a1]
      refine CallE.mutLend (hN1) (by simp -dsimp -implicitDefEqProofs only [go_sem, Nat.reduceBEq, Nat.reduceAdd, Nat.reduceLeDiff, Nat.reduceSub, Int.reduceEq]) (by simp -dsimp -implicitDefEqProofs only [go_sem, Nat.reduceBEq, Nat.reduceAdd, Nat.reduceLeDiff, Nat.reduceSub, Int.reduceEq, rdAt]) (by simp -dsimp -implicitDefEqProofs only [go_sem, Nat.reduceBEq, Nat.reduceAdd, Nat.reduceLeDiff, Nat.reduceSub, Int.reduceEq, rdAt]) ?_
      rintro r rs ⟨rfl, rfl⟩
      simp -dsimp -implicitDefEqProofs only [go_sem, Nat.reduceBEq, Nat.reduceAdd, Nat.reduceLeDiff, Nat.reduceSub, Int.reduceEq, rdAt]
      repeat' (first | with_reducible refine ask.of (by first | omega | decide) ?_ | ((with_reducible refine ifB'.of (fun h => ?_) (fun h => ?_)) <;> first | (exfalso; omega) | skip) | simp -dsimp -implicitDefEqProofs only [go_sem, Nat.reduceBEq, Nat.reduceAdd, Nat.reduceLeDiff, Nat.reduceSub, Int.reduceEq, blA, cty_rd, e4, a1, e12, e6])
      refine CallE.mutLend (hN3) (by simp -dsimp -implicitDefEqProofs only [go_sem, Nat.reduceBEq, Nat.reduceAdd, Nat.reduceLeDiff, Nat.reduceSub, Int.reduceEq]) (by simp -dsimp -implicitDefEqProofs only [go_sem, Nat.reduceBEq, Nat.reduceAdd, Nat.reduceLeDiff, Nat.reduceSub, Int.reduceEq, rdAt]) (by simp -dsimp -implicitDefEqProofs only [go_sem, Nat.reduceBEq, Nat.reduceAdd, Nat.reduceLeDiff, Nat.reduceSub, Int.reduceEq, rdAt]) ?_
      rintro r rs ⟨rfl, rfl⟩
      simp -dsimp -implicitDefEqProofs only [go_sem, Nat.reduceBEq, Nat.reduceAdd, Nat.reduceLeDiff, Nat.reduceSub, Int.reduceEq, rdAt]
      repeat' (first | with_reducible refine ask.of (by first | omega | decide) ?_ | ((with_reducible refine ifB'.of (fun h => ?_) (fun h => ?_)) <;> first | (exfalso; omega) | skip) | simp -dsimp -implicitDefEqProofs only [go_sem, Nat.reduceBEq, Nat.reduceAdd, Nat.reduceLeDiff, Nat.reduceSub, Int.reduceEq, blA, cty_rd, e4, a1, e12, e6, hpv])
      refine LoopE.cntW n (fun i s => s.env 2 = .ptr [2] 0 0 0 ∧ s.env 3 = .ptr [9, 0] 0 0 0 ∧ s.env 4 = .v (.int .i64 k) ∧ s.env 5 = .ptr [5] 0 0 0 ∧ s.env 6 = .v (.int .i64 n) ∧ s.env 7 = .v (.int .i64 i) ∧ s.σ [2] = some (.box 43 [.v (.int .i64 0), .v (.int .i64 0), .v (.int .i64 0), .v (.slice none 0 0)]) ∧
        s.σ [9, 0] = some (.box 121 [.rd .ent 5 1 (bytesA c), .v (.int .i64 (jP c q4 i : Nat))]) ∧ s.σ [5] = some (.box 43 [.v (.int .i64 (1 + k % 4 : Nat)), .v (.int .i64 0), .v (.int .i64 k1), .ref [90]]) ∧ s.σ [90] = some (.row 22 1 (ra byC (jL c q4 i))))
        (Wk.box [5] 3 [90] 22 1 43 [.v (.int .i64 (1 + k % 4 : Nat)), .v (.int .i64 0), .v (.int .i64 k1), .v (.slice none 0 0)] ?_ rfl rfl (Wk.refl _)) ?_ ?_
      · simp -dsimp -implicitDefEqProofs only [go_sem, Nat.reduceBEq, Nat.reduceAdd, Nat.reduceLeDiff, Nat.reduceSub, Int.reduceEq]
      · refine ⟨by simp -dsimp -implicitDefEqProofs only [go_sem, Nat.reduceBEq, Nat.reduceAdd, Nat.reduceLeDiff, Nat.reduceSub, Int.reduceEq], by simp -dsimp -implicitDefEqProofs only [go_sem, Nat.reduceBEq, Nat.reduceAdd, Nat.reduceLeDiff, Nat.reduceSub, Int.reduceEq], by simp -dsimp -implicitDefEqProofs only [go_sem, Nat.reduceBEq, Nat.reduceAdd, Nat.reduceLeDiff, Nat.reduceSub, Int.reduceEq], by simp -dsimp -implicitDefEqProofs only [go_sem, Nat.reduceBEq, Nat.reduceAdd, Nat.reduceLeDiff, Nat.reduceSub, Int.reduceEq], by simp -dsimp -implicitDefEqProofs only [go_sem, Nat.reduceBEq, Nat.reduceAdd, Nat.reduceLeDiff, Nat.reduceSub, Int.reduceEq], by simp -dsimp -implicitDefEqProofs only [go_sem, Nat.reduceBEq, Nat.reduceAdd, Nat.reduceLeDiff, Nat.reduceSub, Int.reduceEq] <;> rfl, by simp -dsimp -implicitDefEqProofs only [go_sem, Nat.reduceBEq, Nat.reduceAdd, Nat.reduceLeDiff, Nat.reduceSub, Int.reduceEq], by simp -dsimp -implicitDefEqProofs only [go_sem, Nat.reduceBEq, Nat.reduceAdd, Nat.reduceLeDiff, Nat.reduceSub, Int.reduceEq] <;> rfl, by simp -dsimp -implicitDefEqProofs only [go_sem, Nat.reduceBEq, Nat.reduceAdd, Nat.reduceLeDiff, Nat.reduceSub, Int.reduceEq] <;> rfl, by simp -dsimp -implicitDefEqProofs only [go_sem, Nat.reduceBEq, Nat.reduceAdd, Nat.reduceLeDiff, Nat.reduceSub, Int.reduceEq] <;> rfl⟩
      rintro i ⟨e, σ⟩ hi ⟨h2, h3, h4, h5, h6, h7, s2, s9, s5, s90⟩ K hK
      simp only at h2 h3 h4 h5 h6 h7 s2 s9 s5 s90
      simp -dsimp -implicitDefEqProofs only [go_sem, Nat.reduceBEq, Nat.reduceAdd, Nat.reduceLeDiff, Nat.reduceSub, Int.reduceEq, h2, h3, h4, h5, h6, h7, s2, s9, s5, s90]
      refine ifB'.of (fun hlt => ?_) (fun hlt => ?_)
      · have hlt : i < n := by omega
        have hql9 := hql i
        have hjl9 := hjl i
        repeat' (first | with_reducible refine And.intro ?_ ?_ | with_reducible refine ask.of (by first | omega | decide | (simp only [ra_length, List.length_cons, List.length_nil]; omega)) ?_ | (refine CallE.mutLend (c_l1drawBytes c (jP c q4 i) 20 (hql i) hc (by decide) (by decide)) (by simp -dsimp -implicitDefEqProofs only [go_sem, Nat.reduceBEq, Nat.reduceAdd, Nat.reduceLeDiff, Nat.reduceSub, Int.reduceEq, h2, h3, h4, h5, h6, h7, s2, s9, s5, s90]) (by simp -dsimp -implicitDefEqProofs only [go_sem, Nat.reduceBEq, Nat.reduceAdd, Nat.reduceLeDiff, Nat.reduceSub, Int.reduceEq, h2, h3, h4, h5, h6, h7, s2, s9, s5, s90, rdAt, show ((20 : Nat) : Int) = 20 from rfl]) (by simp -dsimp -implicitDefEqProofs only [go_sem, Nat.reduceBEq, Nat.reduceAdd, Nat.reduceLeDiff, Nat.reduceSub, Int.reduceEq, h2, h3, h4, h5, h6, h7, s2, s9, s5, s90, rdAt, show ((20 : Nat) : Int) = 20 from rfl]) ?_; rintro r rs ⟨rfl, rfl⟩) | simp -dsimp -implicitDefEqProofs only [go_sem, Nat.reduceBEq, Nat.reduceAdd, Nat.reduceLeDiff, Nat.reduceSub, Int.reduceEq, h2, h3, h4, h5, h6, h7, s2, s9, s5, s90, blA, rdAt, hjl9])
        all_goals
          refine hK _ _ hlt (Wk.refl _) ?_
          simp -dsimp -implicitDefEqProofs only [go_sem, Nat.reduceBEq, Nat.reduceAdd, Nat.reduceLeDiff, Nat.reduceSub, Int.reduceEq, h2, h3, h4, h5, h6, h7, s2, s9, s5, s90, wrap_succ (show i < 4611686018427387904 by omega), jP, jL_snoc]
      · have hin : i = n := by omega
        subst hin
        clear hK
        have hjl9 := hjl i
        have hnp := hql i
        have e2 := tmodL (nxV c (jP c q4 i)) 2
        have a9 := addL 1000 (n := nxV c (jP c q4 i) % 2) (by omega) (by decide)
        simp only [show ((2 : Nat) : Int) = 2 from rfl, show ((1000 : Nat) : Int) = 1000 from rfl] at e2 a9
        repeat' (first | with_reducible refine ask.of (by first | omega | decide) ?_ | ((with_reducible refine ifB'.of (fun h => ?_) (fun h => ?_)) <;> first | (exfalso; omega) | skip) | simp -dsimp -implicitDefEqProofs only [go_sem, Nat.reduceBEq, Nat.reduceAdd, Nat.reduceLeDiff, Nat.reduceSub, Int.reduceEq, h2, h3, h4, h5, h6, h7, s2, s9, s5, s90, blA, cty_rd])
        refine CallE.mutLend (c_next c (jP c q4 i) (by omega)) (by simp -dsimp -implicitDefEqProofs only [go_sem, Nat.reduceBEq, Nat.reduceAdd, Nat.reduceLeDiff, Nat.reduceSub, Int.reduceEq, h2, h3, h4, h5, h6, h7, s2, s9, s5, s90]) (by simp -dsimp -implicitDefEqProofs only [go_sem, Nat.reduceBEq, Nat.reduceAdd, Nat.reduceLeDiff, Nat.reduceSub, Int.reduceEq, h2, h3, h4, h5, h6, h7, s2, s9, s5, s90, rdAt]) (by simp -dsimp -implicitDefEqProofs only [go_sem, Nat.reduceBEq, Nat.reduceAdd, Nat.reduceLeDiff, Nat.reduceSub, Int.reduceEq, h2, h3, h4, h5, h6, h7, s2, s9, s5, s90, rdAt]) ?_
        rintro r rs ⟨rfl, rfl⟩
        simp -dsimp -implicitDefEqProofs only [go_sem, Nat.reduceBEq, Nat.reduceAdd, Nat.reduceLeDiff, Nat.reduceSub, Int.reduceEq, h2, h3, h4, h5, h6, h7, s2, s9, s5, s90, rdAt]
        repeat' (first | with_reducible refine ask.of (by first | omega | decide) ?_ | ((with_reducible refine ifB'.of (fun h => ?_) (fun h => ?_)) <;> first | (exfalso; omega) | skip) | simp -dsimp -implicitDefEqProofs only [go_sem, Nat.reduceBEq, Nat.reduceAdd, Nat.reduceLeDiff, Nat.reduceSub, Int.reduceEq, h2, h3, h4, h5, h6, h7, s2, s9, s5, s90, blA, cty_rd, e2, a9])
        exact rfl
    · show (jL c q4 n).length + wBB (jL c q4 n) ≤ 20200
      have := hjl n
      have := hjw n
      rw [hjl n] at this
      omega
  have hk252 := hk9
  clear hk9
  by_cases hk9 : k = 253
  · have hq3 : (nxP c q2) ≤ c.length := by omega
    have hN3 := c_next c (nxP c q2) (by omega)
    have e6 := tmodL (nxV c (nxP c q2)) 6
    have hn6 : nxV c (nxP c q2) % 6 < 6 := Nat.mod_lt _ (by decide)
    have hq4 := nxP_le c hq3
    simp only [show ((6 : Nat) : Int) = 6 from rfl] at e6
    generalize hnv : nxV c (nxP c q2) % 6 = n at *
    generalize hpv : nxP c (nxP c q2) = q4 at *
    have hql := fun i => jP_le c hq4 i
    have hjl := fun i => jL_length c q4 i
    have hjm : ∀ i, ∀ b ∈ jL c q4 i, b.length ≤ 20 := fun i b h => by have := jL_mem h; omega
    have hjw := fun i => wBB_bd (hjm i)
    have hP0 := hql n
    obtain ⟨J, hJ1, hJ2, hJ3⟩ := least_of (P := fun j => ¬ (n + j < 40 + nxV c (drP c (jP c q4 n) j) % 2)) 41 (by omega)
    have hJ3 : ∀ j, j < J → n + j < 40 + nxV c (drP c (jP c q4 n) j) % 2 := fun j hj => Classical.byContradiction fun h => hJ3 j hj h
    have hdp := fun j => drP_le c hP0 j
    apply exMs
    refine And.intro ?_ ?_
    · refine Meets.introO mixed (hint []) (fun k => (sel (k == 10) [996,0,2,906,1,2003,4,5,6,7,2003,905,1,4,5,6,7,4,1,5,6,7] (sel (k == 18) [996,0,3,912,1,905,2,2004,5,6,7,2004,5,6,2,7,2004,5,6,1,2,7] []))) Try.func16 rfl (by decide) res_16 rty_16 (by kernel_rfl) ?_; 
      simp -dsimp -implicitDefEqProofs only [go_sem, Nat.reduceBEq, Nat.reduceAdd, Nat.reduceLeDiff, Nat.reduceSub, Int.reduceEq, initE]
      refine CallE.lend (hO) (by simp -dsimp -implicitDefEqProofs only [go_sem, Nat.reduceBEq, Nat.reduceAdd, Nat.reduceLeDiff, Nat.reduceSub, Int.reduceEq, rdAt]) ?_
      rintro r rfl
      simp -dsimp -implicitDefEqProofs only [go_sem, Nat.reduceBEq, Nat.reduceAdd, Nat.reduceLeDiff, Nat.reduceSub, Int.reduceEq, rdAt]
      refine CallE.mutLend (hN) (by simp -dsimp -implicitDefEqProofs only [go_sem, Nat.reduceBEq, Nat.reduceAdd, Nat.reduceLeDiff, Nat.reduceSub, Int.reduceEq]) (by simp -dsimp -implicitDefEqProofs only [go_sem, Nat.reduceBEq, Nat.reduceAdd, Nat.reduceLeDiff, Nat.reduceSub, Int.reduceEq, rdAt]) (by simp -dsimp -implicitDefEqProofs only [go_sem, Nat.reduceBEq, Nat.reduceAdd, Nat.reduceLeDiff, Nat.reduceSub, Int.reduceEq, rdAt]) ?_
      rintro r rs ⟨rfl, rfl⟩
      simp -dsimp -implicitDefEqProofs only [go_sem, Nat.reduceBEq, Nat.reduceAdd, Nat.reduceLeDiff, Nat.reduceSub, Int.reduceEq, rdAt]
      simp -dsimp -implicitDefEqProofs only [go_sem, Nat.reduceBEq, Nat.reduceAdd, Nat.reduceLeDiff, Nat.reduceSub, Int.reduceEq, e4, a1]
      refine CallE.mutLend (hN1) (by simp -dsimp -implicitDefEqProofs only [go_sem, Nat.reduceBEq, Nat.reduceAdd, Nat.reduceLeDiff, Nat.reduceSub, Int.reduceEq]) (by simp -dsimp -implicitDefEqProofs only [go_sem, Nat.reduceBEq, Nat.reduceAdd, Nat.reduceLeDiff, Nat.reduceSub, Int.reduceEq, rdAt]) (by simp -dsimp -implicitDefEqProofs only [go_sem, Nat.reduceBEq, Nat.reduceAdd, Nat.reduceLeDiff, Nat.reduceSub, Int.reduceEq, rdAt]) ?_
      rintro r rs ⟨rfl, rfl⟩
      simp -dsimp -implicitDefEqProofs only [go_sem, Nat.reduceBEq, Nat.reduceAdd, Nat.reduceLeDiff, Nat.reduceSub, Int.reduceEq, rdAt]
      repeat' (first | with_reducible refine ask.of (by first | omega | decide) ?_ | ((with_reducible refine ifB'.of (fun h => ?_) (fun h => ?_)) <;> first | (exfalso; omega) | skip) | simp -dsimp -implicitDefEqProofs only [go_sem, Nat.reduceBEq, Nat.reduceAdd, Nat.reduceLeDiff, Nat.reduceSub, Int.reduceEq, blA, cty_rd, e4, a1, e12, e6])
      refine CallE.mutLend (hN2) (by simp -dsimp -implicitDefEqProofs only [go_sem, Nat.reduceBEq, Nat.reduceAdd, Nat.reduceLeDiff, Nat.reduceSub, Int.reduceEq]) (by simp -dsimp -implicitDefEqProofs only [go_sem, Nat.reduceBEq, Nat.reduceAdd, Nat.reduceLeDiff, Nat.reduceSub, Int.reduceEq, rdAt]) (by simp -dsimp -implicitDefEqProofs only [go_sem, Nat.reduceBEq, Nat.reduceAdd, Nat.reduceLeDiff, Nat.reduceSub, Int.reduceEq, rdAt]) ?_
      rintro r rs ⟨rfl, rfl⟩
      simp -dsimp -implicitDefEqProofs only [go_sem, Nat.reduceBEq, Nat.reduceAdd, Nat.reduceLeDiff, Nat.reduceSub, Int.reduceEq, rdAt]
      repeat' (first | with_reducible refine ask.of (by first | omega | decide) ?_ | ((with_reducible refine ifB'.of (fun h => ?_) (fun h => ?_)) <;> first | (exfalso; omega) | skip) | simp -dsimp -implicitDefEqProofs only [go_sem, Nat.reduceBEq, Nat.reduceAdd, Nat.reduceLeDiff, Nat.reduceSub, Int.reduceEq, blA, cty_rd, e4, a1, e12, e6])
      refine CallE.mutLend (hN3) (by simp -dsimp -implicitDefEqProofs only [go_sem, Nat.reduceBEq, Nat.reduceAdd, Nat.reduceLeDiff, Nat.reduceSub, Int.reduceEq]) (by simp -dsimp -implicitDefEqProofs only [go_sem, Nat.reduceBEq, Nat.reduceAdd, Nat.reduceLeDiff, Nat.reduceSub, Int.reduceEq, rdAt]) (by simp -dsimp -implicitDefEqProofs only [go_sem, Nat.reduceBEq, Nat.reduceAdd, Nat.reduceLeDiff, Nat.reduceSub, Int.reduceEq, rdAt]) ?_
      rintro r rs ⟨rfl, rfl⟩
      simp -dsimp -implicitDefEqProofs only [go_sem, Nat.reduceBEq, Nat.reduceAdd, Nat.reduceLeDiff, Nat.reduceSub, Int.reduceEq, rdAt]
      repeat' (first | with_reducible refine ask.of (by first | omega | decide) ?_ | ((with_reducible refine ifB'.of (fun h => ?_) (fun h => ?_)) <;> first | (exfalso; omega) | skip) | simp -dsimp -implicitDefEqProofs only [go_sem, Nat.reduceBEq, Nat.reduceAdd, Nat.reduceLeDiff, Nat.reduceSub, Int.reduceEq, blA, cty_rd, e4, a1, e12, e6, hpv])
      refine LoopE.cntW n (fun i s => s.env 2 = .ptr [2] 0 0 0 ∧ s.env 3 = .ptr [9, 0] 0 0 0 ∧ s.env 4 = .v (.int .i64 k) ∧ s.env 5 = .ptr [5] 0 0 0 ∧ s.env 6 = .v (.int .i64 n) ∧ s.env 7 = .v (.int .i64 i) ∧ s.σ [2] = some (.box 43 [.v (.int .i64 0), .v (.int .i64 0), .v (.int .i64 0), .v (.slice none 0 0)]) ∧
        s.σ [9, 0] = some (.box 121 [.rd .ent 5 1 (bytesA c), .v (.int .i64 (jP c q4 i : Nat))]) ∧ s.σ [5] = some (.box 43 [.v (.int .i64 (1 + k % 4 : Nat)), .v (.int .i64 ((nxV c q2 % 12 : Nat) : Int)), .v (.int .i64 k1), .ref [90]]) ∧ s.σ [90] = some (.row 22 1 (ra byC (jL c q4 i))))
        (Wk.box [5] 3 [90] 22 1 43 [.v (.int .i64 (1 + k % 4 : Nat)), .v (.int .i64 ((nxV c q2 % 12 : Nat) : Int)), .v (.int .i64 k1), .v (.slice none 0 0)] ?_ rfl rfl (Wk.refl _)) ?_ ?_
      · simp -dsimp -implicitDefEqProofs only [go_sem, Nat.reduceBEq, Nat.reduceAdd, Nat.reduceLeDiff, Nat.reduceSub, Int.reduceEq]
      · refine ⟨by simp -dsimp -implicitDefEqProofs only [go_sem, Nat.reduceBEq, Nat.reduceAdd, Nat.reduceLeDiff, Nat.reduceSub, Int.reduceEq], by simp -dsimp -implicitDefEqProofs only [go_sem, Nat.reduceBEq, Nat.reduceAdd, Nat.reduceLeDiff, Nat.reduceSub, Int.reduceEq], by simp -dsimp -implicitDefEqProofs only [go_sem, Nat.reduceBEq, Nat.reduceAdd, Nat.reduceLeDiff, Nat.reduceSub, Int.reduceEq], by simp -dsimp -implicitDefEqProofs only [go_sem, Nat.reduceBEq, Nat.reduceAdd, Nat.reduceLeDiff, Nat.reduceSub, Int.reduceEq], by simp -dsimp -implicitDefEqProofs only [go_sem, Nat.reduceBEq, Nat.reduceAdd, Nat.reduceLeDiff, Nat.reduceSub, Int.reduceEq], by simp -dsimp -implicitDefEqProofs only [go_sem, Nat.reduceBEq, Nat.reduceAdd, Nat.reduceLeDiff, Nat.reduceSub, Int.reduceEq] <;> rfl, by simp -dsimp -implicitDefEqProofs only [go_sem, Nat.reduceBEq, Nat.reduceAdd, Nat.reduceLeDiff, Nat.reduceSub, Int.reduceEq], by simp -dsimp -implicitDefEqProofs only [go_sem, Nat.reduceBEq, Nat.reduceAdd, Nat.reduceLeDiff, Nat.reduceSub, Int.reduceEq] <;> rfl, by simp -dsimp -implicitDefEqProofs only [go_sem, Nat.reduceBEq, Nat.reduceAdd, Nat.reduceLeDiff, Nat.reduceSub, Int.reduceEq] <;> rfl, by simp -dsimp -implicitDefEqProofs only [go_sem, Nat.reduceBEq, Nat.reduceAdd, Nat.reduceLeDiff, Nat.reduceSub, Int.reduceEq] <;> rfl⟩
      rintro i ⟨e, σ⟩ hi ⟨h2, h3, h4, h5, h6, h7, s2, s9, s5, s90⟩ K hK
      simp only at h2 h3 h4 h5 h6 h7 s2 s9 s5 s90
      simp -dsimp -implicitDefEqProofs only [go_sem, Nat.reduceBEq, Nat.reduceAdd, Nat.reduceLeDiff, Nat.reduceSub, Int.reduceEq, h2, h3, h4, h5, h6, h7, s2, s9, s5, s90]
      refine ifB'.of (fun hlt => ?_) (fun hlt => ?_)
      · have hlt : i < n := by omega
        have hql9 := hql i
        have hjl9 := hjl i
        repeat' (first | with_reducible refine And.intro ?_ ?_ | with_reducible refine ask.of (by first | omega | decide | (simp only [ra_length, List.length_cons, List.length_nil]; omega)) ?_ | (refine CallE.mutLend (c_l1drawBytes c (jP c q4 i) 20 (hql i) hc (by decide) (by decide)) (by simp -dsimp -implicitDefEqProofs only [go_sem, Nat.reduceBEq, Nat.reduceAdd, Nat.reduceLeDiff, Nat.reduceSub, Int.reduceEq, h2, h3, h4, h5, h6, h7, s2, s9, s5, s90]) (by simp -dsimp -implicitDefEqProofs only [go_sem, Nat.reduceBEq, Nat.reduceAdd, Nat.reduceLeDiff, Nat.reduceSub, Int.reduceEq, h2, h3, h4, h5, h6, h7, s2, s9, s5, s90, rdAt, show ((20 : Nat) : Int) = 20 from rfl]) (by simp -dsimp -implicitDefEqProofs only [go_sem, Nat.reduceBEq, Nat.reduceAdd, Nat.reduceLeDiff, Nat.reduceSub, Int.reduceEq, h2, h3, h4, h5, h6, h7, s2, s9, s5, s90, rdAt, show ((20 : Nat) : Int) = 20 from rfl]) ?_; rintro r rs ⟨rfl, rfl⟩) | simp -dsimp -implicitDefEqProofs only [go_sem, Nat.reduceBEq, Nat.reduceAdd, Nat.reduceLeDiff, Nat.reduceSub, Int.reduceEq, h2, h3, h4, h5, h6, h7, s2, s9, s5, s90, blA, rdAt, hjl9])
        all_goals
          refine hK _ _ hlt (Wk.refl _) ?_
          simp -dsimp -implicitDefEqProofs only [go_sem, Nat.reduceBEq, Nat.reduceAdd, Nat.reduceLeDiff, Nat.reduceSub, Int.reduceEq, h2, h3, h4, h5, h6, h7, s2, s9, s5, s90, wrap_succ (show i < 4611686018427387904 by omega), jP, jL_snoc]
      · have hin : i = n := by omega
        subst hin
        clear hK
        have hjl9 := hjl i
        repeat' (first | with_reducible refine ask.of (by first | omega | decide) ?_ | ((with_reducible refine ifB'.of (fun h => ?_) (fun h => ?_)) <;> first | (exfalso; omega) | skip) | simp -dsimp -implicitDefEqProofs only [go_sem, Nat.reduceBEq, Nat.reduceAdd, Nat.reduceLeDiff, Nat.reduceSub, Int.reduceEq, h2, h3, h4, h5, h6, h7, s2, s9, s5, s90, blA, cty_rd])
        refine LoopE.cnt J (fun j s => s.env 2 = .ptr [2] 0 0 0 ∧ s.env 3 = .ptr [9, 0] 0 0 0 ∧ s.env 4 = .v (.int .i64 k) ∧ s.env 5 = .ptr [5] 0 0 0 ∧ s.σ [2] = some (.box 43 [.v (.int .i64 0), .v (.int .i64 0), .v (.int .i64 0), .v (.slice none 0 0)]) ∧
          s.σ [9, 0] = some (.box 121 [.rd .ent 5 1 (bytesA c), .v (.int .i64 (drP c (jP c q4 i) j : Nat))]) ∧ s.σ [5] = some (.box 43 [.v (.int .i64 (1 + k % 4 : Nat)), .v (.int .i64 ((nxV c q2 % 12 : Nat) : Int)), .v (.int .i64 k1), .ref [90]]) ∧ s.σ [90] = some (.row 22 1 (ra byC (jL c q4 i ++ List.replicate j []))))
          ⟨by simp -dsimp -implicitDefEqProofs only [go_sem, Nat.reduceBEq, Nat.reduceAdd, Nat.reduceLeDiff, Nat.reduceSub, Int.reduceEq, h2, h3, h4, h5, h6, h7, s2, s9, s5, s90], by simp -dsimp -implicitDefEqProofs only [go_sem, Nat.reduceBEq, Nat.reduceAdd, Nat.reduceLeDiff, Nat.reduceSub, Int.reduceEq, h2, h3, h4, h5, h6, h7, s2, s9, s5, s90], by simp -dsimp -implicitDefEqProofs only [go_sem, Nat.reduceBEq, Nat.reduceAdd, Nat.reduceLeDiff, Nat.reduceSub, Int.reduceEq, h2, h3, h4, h5, h6, h7, s2, s9, s5, s90], by simp -dsimp -implicitDefEqProofs only [go_sem, Nat.reduceBEq, Nat.reduceAdd, Nat.reduceLeDiff, Nat.reduceSub, Int.reduceEq, h2, h3, h4, h5, h6, h7, s2, s9, s5, s90], by simp -dsimp -implicitDefEqProofs only [go_sem, Nat.reduceBEq, Nat.reduceAdd, Nat.reduceLeDiff, Nat.reduceSub, Int.reduceEq, h2, h3, h4, h5, h6, h7, s2, s9, s5, s90], by simp -dsimp -implicitDefEqProofs only [go_sem, Nat.reduceBEq, Nat.reduceAdd, Nat.reduceLeDiff, Nat.reduceSub, Int.reduceEq, h2, h3, h4, h5, h6, h7, s2, s9, s5, s90] <;> rfl, by simp -dsimp -implicitDefEqProofs only [go_sem, Nat.reduceBEq, Nat.reduceAdd, Nat.reduceLeDiff, Nat.reduceSub, Int.reduceEq, h2, h3, h4, h5, h6, h7, s2, s9, s5, s90], by simp -dsimp -implicitDefEqProofs only [go_sem, Nat.reduceBEq, Nat.reduceAdd, Nat.reduceLeDiff, Nat.reduceSub, Int.reduceEq, h2, h3, h4, h5, h6, h7, s2, s9, s5, s90] <;> simp⟩ ?_
        clear h2 h3 h4 h5 h6 h7 s2 s9 s5 s90
        rintro j ⟨e, σ⟩ hj ⟨h2, h3, h4, h5, s2, s9, s5, s90⟩ K hK
        simp only at h2 h3 h4 h5 s2 s9 s5 s90
        have hdj := hdp j
        have e2 := tmodL (nxV c (drP c (jP c q4 i) j)) 2
        have a9 := addL 40 (n := nxV c (drP c (jP c q4 i) j) % 2) (by omega) (by decide)
        simp only [show ((2 : Nat) : Int) = 2 from rfl, show ((40 : Nat) : Int) = 40 from rfl] at e2 a9
        have hll : (jL c q4 i ++ List.replicate j []).length = i + j := by rw [List.length_append, hjl9, List.length_replicate]
        repeat' (first | with_reducible refine And.intro ?_ ?_ | with_reducible refine ask.of (by first | omega | decide) ?_ | (refine CallE.mutLend (c_next c (drP c (jP c q4 i) j) (by omega)) (by simp -dsimp -implicitDefEqProofs only [go_sem, Nat.reduceBEq, Nat.reduceAdd, Nat.reduceLeDiff, Nat.reduceSub, Int.reduceEq, h2, h3, h4, h5, s2, s9, s5, s90]) (by simp -dsimp -implicitDefEqProofs only [go_sem, Nat.reduceBEq, Nat.reduceAdd, Nat.reduceLeDiff, Nat.reduceSub, Int.reduceEq, h2, h3, h4, h5, s2, s9, s5, s90, rdAt]) (by simp -dsimp -implicitDefEqProofs only [go_sem, Nat.reduceBEq, Nat.reduceAdd, Nat.reduceLeDiff, Nat.reduceSub, Int.reduceEq, h2, h3, h4, h5, s2, s9, s5, s90, rdAt]) ?_; rintro r rs ⟨rfl, rfl⟩) | simp -dsimp -implicitDefEqProofs only [go_sem, Nat.reduceBEq, Nat.reduceAdd, Nat.reduceLeDiff, Nat.reduceSub, Int.reduceEq, h2, h3, h4, h5, s2, s9, s5, s90, blA, rdAt, e2, a9, hll])
        all_goals
          refine ifB'.of (fun hlt2 => ?_) (fun hlt2 => ?_)
          · have hjJ : j < J := by
              rcases Nat.lt_or_ge j J with h | h
              · exact h
              · have : j = J := by omega
                subst this
                exact absurd (by omega) hJ2
            repeat (first | with_reducible refine ask.of (by first | omega | decide | (simp only [ra_length, hll, List.length_cons, List.length_nil]; omega)) ?_ | simp -dsimp -implicitDefEqProofs only [go_sem, Nat.reduceBEq, Nat.reduceAdd, Nat.reduceLeDiff, Nat.reduceSub, Int.reduceEq, h2, h3, h4, h5, s2, s9, s5, s90, blA, hll])
            refine hK _ hjJ ?_
            simp -dsimp -implicitDefEqProofs only [go_sem, Nat.reduceBEq, Nat.reduceAdd, Nat.reduceLeDiff, Nat.reduceSub, Int.reduceEq, h2, h3, h4, h5, s2, s9, s5, s90, byA_snoc0, List.append_assoc, fill_snoc, drP]
          · have hjJ : j = J := by
              rcases Nat.lt_or_ge j J with h | h
              · exact absurd (hJ3 j h) (by omega)
              · omega
            subst hjJ
            repeat' (first | with_reducible refine ask.of (by first | omega | decide) ?_ | ((with_reducible refine ifB'.of (fun h => ?_) (fun h => ?_)) <;> first | (exfalso; omega) | skip) | simp -dsimp -implicitDefEqProofs only [go_sem, Nat.reduceBEq, Nat.reduceAdd, Nat.reduceLeDiff, Nat.reduceSub, Int.reduceEq, h2, h3, h4, h5, s2, s9, s5, s90, blA, cty_rd])
            exact rfl
    · show (jL c q4 n ++ List.replicate J []).length + wBB (jL c q4 n ++ List.replicate J []) ≤ 20200
      rw [wBB_app, wBB_rep0, List.length_append, List.length_replicate]
      have := hjl n
      have := hjw n
      rw [hjl n] at this
      omega
  have hk253 := hk9
  clear hk9
  by_cases hk9 : k = 254
  · have hq3 : (nxP c q2) ≤ c.length := by omega
    have hN3 := c_next c (nxP c q2) (by omega)
    have e6 := tmodL (nxV c (nxP c q2)) 6
    have hn6 : nxV c (nxP c q2) % 6 < 6 := Nat.mod_lt _ (by decide)
    have hq4 := nxP_le c hq3
    simp only [show ((6 : Nat) : Int) = 6 from rfl] at e6
    generalize hnv : nxV c (nxP c q2) % 6 = n at *
    generalize hpv : nxP c (nxP c q2) = q4 at *
    have hql := fun i => jP_le c hq4 i
    have hjl := fun i => jL_length c q4 i
    have hjm : ∀ i, ∀ b ∈ jL c q4 i, b.length ≤ 20 := fun i b h => by have := jL_mem h; omega
    have hjw := fun i => wBB_bd (hjm i)
    apply exMs
    refine And.intro ?_ ?_
    · refine Meets.introO mixed (hint []) (fun k => (sel (k == 10) [996,0,2,906,1,2003,4,5,6,7,2003,905,1,4,5,6,7,4,1,5,6,7] (sel (k == 18) [996,0,3,912,1,905,2,2004,5,6,7,2004,5,6,2,7,2004,5,6,1,2,7] []))) Try.func16 rfl (by decide) res_16 rty_16 (by kernel_rfl) ?_; 
      simp -dsimp -implicitDefEqProofs only [go_sem, Nat.reduceBEq, Nat.reduceAdd, Nat.reduceLeDiff, Nat.reduceSub, Int.reduceEq, initE]
      refine CallE.lend (hO) (by simp -dsimp -implicitDefEqProofs only [go_sem, Nat.reduceBEq, Nat.reduceAdd, Nat.reduceLeDiff, Nat.reduceSub, Int.reduceEq, rdAt]) ?_
      rintro r rfl
      simp -dsimp -implicitDefEqProofs only [go_sem, Nat.reduceBEq, Nat.reduceAdd, Nat.reduceLeDiff, Nat.reduceSub, Int.reduceEq, rdAt]
      refine CallE.mutLend (hN) (by simp -dsimp -implicitDefEqProofs only [go_sem, Nat.reduceBEq, Nat.reduceAdd, Nat.reduceLeDiff, Nat.reduceSub, Int.reduceEq]) (by simp -dsimp -implicitDefEqProofs only [go_sem, Nat.reduceBEq, Nat.reduceAdd, Nat.reduceLeDiff, Nat.reduceSub, Int.reduceEq, rdAt]) (by simp -dsimp -implicitDefEqProofs only [go_sem, Nat.reduceBEq, Nat.reduceAdd, Nat.reduceLeDiff, Nat.reduceSub, Int.reduceEq, rdAt]) ?_
      rintro r rs ⟨rfl, rfl⟩
      simp -dsimp -implicitDefEqProofs only [go_sem, Nat.reduceBEq, Nat.reduceAdd, Nat.reduceLeDiff, Nat.reduceSub, Int.reduceEq, rdAt]
      simp -dsimp -implicitDefEqProofs only [go_sem, Nat.reduceBEq, Nat.reduceAdd, Nat.reduceLeDiff, Nat.reduceSub, Int.reduceEq, e4, a1]
      refine CallE.mutLend (hN1) (by simp -dsimp -implicitDefEqProofs only [go_sem, Nat.reduceBEq, Nat.reduceAdd, Nat.reduceLeDiff, Nat.reduceSub, Int.reduceEq]) (by simp -dsimp -implicitDefEqProofs only [go_sem, Nat.reduceBEq, Nat.reduceAdd, Nat.reduceLeDiff, Nat.reduceSub, Int.reduceEq, rdAt]) (by simp -dsimp -implicitDefEqProofs only [go_sem, Nat.reduceBEq, Nat.reduceAdd, Nat.reduceLeDiff, Nat.reduceSub, Int.reduceEq, rdAt]) ?_
      rintro r rs ⟨rfl, rfl⟩
      simp -dsimp -implicitDefEqProofs only [go_sem, Nat.reduceBEq, Nat.reduceAdd, Nat.reduceLeDiff, Nat.reduceSub, Int.reduceEq, rdAt]
      repeat' (first | with_reducible refine ask.of (by first | omega | decide) ?_ | ((with_reducible refine ifB'.of (fun h => ?_) (fun h => ?_)) <;> first | (exfalso; omega) | skip) | simp -dsimp -implicitDefEqProofs only [go_sem, Nat.reduceBEq, Nat.reduceAdd, Nat.reduceLeDiff, Nat.reduceSub, Int.reduceEq, blA, cty_rd, e4, a1, e12, e6])
      refine CallE.mutLend (hN2) (by simp -dsimp -implicitDefEqProofs only [go_sem, Nat.reduceBEq, Nat.reduceAdd, Nat.reduceLeDiff, Nat.reduceSub, Int.reduceEq]) (by simp -dsimp -implicitDefEqProofs only [go_sem, Nat.reduceBEq, Nat.reduceAdd, Nat.reduceLeDiff, Nat.reduceSub, Int.reduceEq, rdAt]) (by simp -dsimp -implicitDefEqProofs only [go_sem, Nat.reduceBEq, Nat.reduceAdd, Nat.reduceLeDiff, Nat.reduceSub, Int.reduceEq, rdAt]) ?_
      rintro r rs ⟨rfl, rfl⟩
      simp -dsimp -implicitDefEqProofs only [go_sem, Nat.reduceBEq, Nat.reduceAdd, Nat.reduceLeDiff, Nat.reduceSub, Int.reduceEq, rdAt]
      repeat' (first | with_reducible refine ask.of (by first | omega | decide) ?_ | ((with_reducible refine ifB'.of (fun h => ?_) (fun h => ?_)) <;> first | (exfalso; omega) | skip) | simp -dsimp -implicitDefEqProofs only [go_sem, Nat.reduceBEq, Nat.reduceAdd, Nat.reduceLeDiff, Nat.reduceSub, Int.reduceEq, blA, cty_rd, e4, a1, e12, e6])
      refine CallE.mutLend (hN3) (by simp -dsimp -implicitDefEqProofs only [go_sem, Nat.reduceBEq, Nat.reduceAdd, Nat.reduceLeDiff, Nat.reduceSub, Int.reduceEq]) (by simp -dsimp -implicitDefEqProofs only [go_sem, Nat.reduceBEq, Nat.reduceAdd, Nat.reduceLeDiff, Nat.reduceSub, Int.reduceEq, rdAt]) (by simp -dsimp -implicitDefEqProofs only [go_sem, Nat.reduceBEq, Nat.reduceAdd, Nat.reduceLeDiff, Nat.reduceSub, Int.reduceEq, rdAt]) ?_
      rintro r rs ⟨rfl, rfl⟩
      simp -dsimp -implicitDefEqProofs only [go_sem, Nat.reduceBEq, Nat.reduceAdd, Nat.reduceLeDiff, Nat.reduceSub, Int.reduceEq, rdAt]
      repeat' (first | with_reducible refine ask.of (by first | omega | decide) ?_ | ((with_reducible refine ifB'.of (fun h => ?_) (fun h => ?_)) <;> first | (exfalso; omega) | skip) | simp -dsimp -implicitDefEqProofs only [go_sem, Nat.reduceBEq, Nat.reduceAdd, Nat.reduceLeDiff, Nat.reduceSub, Int.reduceEq, blA, cty_rd, e4, a1, e12, e6, hpv])
      refine LoopE.cntW n (fun i s => s.env 2 = .ptr [2] 0 0 0 ∧ s.env 3 = .ptr [9, 0] 0 0 0 ∧ s.env 4 = .v (.int .i64 k) ∧ s.env 5 = .ptr [5] 0 0 0 ∧ s.env 6 = .v (.int .i64 n) ∧ s.env 7 = .v (.int .i64 i) ∧ s.σ [2] = some (.box 43 [.v (.int .i64 0), .v (.int .i64 0), .v (.int .i64 0), .v (.slice none 0 0)]) ∧
        s.σ [9, 0] = some (.box 121 [.rd .ent 5 1 (bytesA c), .v (.int .i64 (jP c q4 i : Nat))]) ∧ s.σ [5] = some (.box 43 [.v (.int .i64 (1 + k % 4 : Nat)), .v (.int .i64 ((nxV c q2 % 12 : Nat) : Int)), .v (.int .i64 k1), .ref [90]]) ∧ s.σ [90] = some (.row 22 1 (ra byC (jL c q4 i))))
        (Wk.box [5] 3 [90] 22 1 43 [.v (.int .i64 (1 + k % 4 : Nat)), .v (.int .i64 ((nxV c q2 % 12 : Nat) : Int)), .v (.int .i64 k1), .v (.slice none 0 0)] ?_ rfl rfl (Wk.refl _)) ?_ ?_
      · simp -dsimp -implicitDefEqProofs only [go_sem, Nat.reduceBEq, Nat.reduceAdd, Nat.reduceLeDiff, Nat.reduceSub, Int.reduceEq]
      · refine ⟨by simp -dsimp -implicitDefEqProofs only [go_sem, Nat.reduceBEq, Nat.reduceAdd, Nat.reduceLeDiff, Nat.reduceSub, Int.reduceEq], by simp -dsimp -implicitDefEqProofs only [go_sem, Nat.reduceBEq, Nat.reduceAdd, Nat.reduceLeDiff, Nat.reduceSub, Int.reduceEq], by simp -dsimp -implicitDefEqProofs only [go_sem, Nat.reduceBEq, Nat.reduceAdd, Nat.reduceLeDiff, Nat.reduceSub, Int.reduceEq], by simp -dsimp -implicitDefEqProofs only [go_sem, Nat.reduceBEq, Nat.reduceAdd, Nat.reduceLeDiff, Nat.reduceSub, Int.reduceEq], by simp -dsimp -implicitDefEqProofs only [go_sem, Nat.reduceBEq, Nat.reduceAdd, Nat.reduceLeDiff, Nat.reduceSub, Int.reduceEq], by simp -dsimp -implicitDefEqProofs only [go_sem, Nat.reduceBEq, Nat.reduceAdd, Nat.reduceLeDiff, Nat.reduceSub, Int.reduceEq] <;> rfl, by simp -dsimp -implicitDefEqProofs only [go_sem, Nat.reduceBEq, Nat.reduceAdd, Nat.reduceLeDiff, Nat.reduceSub, Int.reduceEq], by simp -dsimp -implicitDefEqProofs only [go_sem, Nat.reduceBEq, Nat.reduceAdd, Nat.reduceLeDiff, Nat.reduceSub, Int.reduceEq] <;> rfl, by simp -dsimp -implicitDefEqProofs only [go_sem, Nat.reduceBEq, Nat.reduceAdd, Nat.reduceLeDiff, Nat.reduceSub, Int.reduceEq] <;> rfl, by simp -dsimp -implicitDefEqProofs only [go_sem, Nat.reduceBEq, Nat.reduceAdd, Nat.reduceLeDiff, Nat.reduceSub, Int.reduceEq] <;> rfl⟩
      rintro i ⟨e, σ⟩ hi ⟨h2, h3, h4, h5, h6, h7, s2, s9, s5, s90⟩ K hK
      simp only at h2 h3 h4 h5 h6 h7 s2 s9 s5 s90
      simp -dsimp -implicitDefEqProofs only [go_sem, Nat.reduceBEq, Nat.reduceAdd, Nat.reduceLeDiff, Nat.reduceSub, Int.reduceEq, h2, h3, h4, h5, h6, h7, s2, s9, s5, s90]
      refine ifB'.of (fun hlt => ?_) (fun hlt => ?_)
      · have hlt : i < n := by omega
        have hql9 := hql i
        have hjl9 := hjl i
        repeat' (first | with_reducible refine And.intro ?_ ?_ | with_reducible refine ask.of (by first | omega | decide | (simp only [ra_length, List.length_cons, List.length_nil]; omega)) ?_ | (refine CallE.mutLend (c_l1drawBytes c (jP c q4 i) 20 (hql i) hc (by decide) (by decide)) (by simp -dsimp -implicitDefEqProofs only [go_sem, Nat.reduceBEq, Nat.reduceAdd, Nat.reduceLeDiff, Nat.reduceSub, Int.reduceEq, h2, h3, h4, h5, h6, h7, s2, s9, s5, s90]) (by simp -dsimp -implicitDefEqProofs only [go_sem, Nat.reduceBEq, Nat.reduceAdd, Nat.reduceLeDiff, Nat.reduceSub, Int.reduceEq, h2, h3, h4, h5, h6, h7, s2, s9, s5, s90, rdAt, show ((20 : Nat) : Int) = 20 from rfl]) (by simp -dsimp -implicitDefEqProofs only [go_sem, Nat.reduceBEq, Nat.reduceAdd, Nat.reduceLeDiff, Nat.reduceSub, Int.reduceEq, h2, h3, h4, h5, h6, h7, s2, s9, s5, s90, rdAt, show ((20 : Nat) : Int) = 20 from rfl]) ?_; rintro r rs ⟨rfl, rfl⟩) | simp -dsimp -implicitDefEqProofs only [go_sem, Nat.reduceBEq, Nat.reduceAdd, Nat.reduceLeDiff, Nat.reduceSub, Int.reduceEq, h2, h3, h4, h5, h6, h7, s2, s9, s5, s90, blA, rdAt, hjl9])
        all_goals
          refine hK _ _ hlt (Wk.refl _) ?_
          simp -dsimp -implicitDefEqProofs only [go_sem, Nat.reduceBEq, Nat.reduceAdd, Nat.reduceLeDiff, Nat.reduceSub, Int.reduceEq, h2, h3, h4, h5, h6, h7, s2, s9, s5, s90, wrap_succ (show i < 4611686018427387904 by omega), jP, jL_snoc]
      · have hin : i = n := by omega
        subst hin
        clear hK
        have hjl9 := hjl i
        have hnp := hql i
        have e16 := tmodL (nxV c (jP c q4 i)) 16
        have a9 := addL 19972 (n := nxV c (jP c q4 i) % 16) (by omega) (by decide)
        have hF := c_l1fill 7 (19972 + nxV c (jP c q4 i) % 16) (by omega)
        simp only [show ((16 : Nat) : Int) = 16 from rfl, show ((19972 : Nat) : Int) = 19972 from rfl] at e16 a9
        have hF : Meets Try.prog 78 [.v (.int .u8 7), .v (.int .i64 ((19972 + nxV c (jP c q4 i) % 16 : Nat) : Int))] (fun r => r = rowB (List.replicate (19972 + nxV c (jP c q4 i) % 16) 7)) := hF
        repeat' (first | with_reducible refine ask.of (by first | omega | decide) ?_ | ((with_reducible refine ifB'.of (fun h => ?_) (fun h => ?_)) <;> first | (exfalso; omega) | skip) | simp -dsimp -implicitDefEqProofs only [go_sem, Nat.reduceBEq, Nat.reduceAdd, Nat.reduceLeDiff, Nat.reduceSub, Int.reduceEq, h2, h3, h4, h5, h6, h7, s2, s9, s5, s90, blA, cty_rd])
        refine CallE.mutLend (c_next c (jP c q4 i) (by omega)) (by simp -dsimp -implicitDefEqProofs only [go_sem, Nat.reduceBEq, Nat.reduceAdd, Nat.reduceLeDiff, Nat.reduceSub, Int.reduceEq, h2, h3, h4, h5, h6, h7, s2, s9, s5, s90]) (by simp -dsimp -implicitDefEqProofs only [go_sem, Nat.reduceBEq, Nat.reduceAdd, Nat.reduceLeDiff, Nat.reduceSub, Int.reduceEq, h2, h3, h4, h5, h6, h7, s2, s9, s5, s90, rdAt]) (by simp -dsimp -implicitDefEqProofs only [go_sem, Nat.reduceBEq, Nat.reduceAdd, Nat.reduceLeDiff, Nat.reduceSub, Int.reduceEq, h2, h3, h4, h5, h6, h7, s2, s9, s5, s90, rdAt]) ?_
        rintro r rs ⟨rfl, rfl⟩
        simp -dsimp -implicitDefEqProofs only [go_sem, Nat.reduceBEq, Nat.reduceAdd, Nat.reduceLeDiff, Nat.reduceSub, Int.reduceEq, h2, h3, h4, h5, h6, h7, s2, s9, s5, s90, rdAt]
        repeat' (first | with_reducible refine ask.of (by first | omega | decide) ?_ | ((with_reducible refine ifB'.of (fun h => ?_) (fun h => ?_)) <;> first | (exfalso; omega) | skip) | simp -dsimp -implicitDefEqProofs only [go_sem, Nat.reduceBEq, Nat.reduceAdd, Nat.reduceLeDiff, Nat.reduceSub, Int.reduceEq, h2, h3, h4, h5, h6, h7, s2, s9, s5, s90, blA, cty_rd, e16, a9])
        refine CallE.of (hF) (by rintro r rfl; exact pure_rowB _) (by simp -dsimp -implicitDefEqProofs only [go_sem, Nat.reduceBEq, Nat.reduceAdd, Nat.reduceLeDiff, Nat.reduceSub, Int.reduceEq, h2, h3, h4, h5, h6, h7, s2, s9, s5, s90]) ?_
        rintro r rfl
        repeat' (first | with_reducible refine ask.of (by first | omega | decide) ?_ | ((with_reducible refine ifB'.of (fun h => ?_) (fun h => ?_)) <;> first | (exfalso; omega) | skip) | simp -dsimp -implicitDefEqProofs only [go_sem, Nat.reduceBEq, Nat.reduceAdd, Nat.reduceLeDiff, Nat.reduceSub, Int.reduceEq, h2, h3, h4, h5, h6, h7, s2, s9, s5, s90, blA, cty_rd])
        rw [show [[AV.row 5 1 (bytesA (List.replicate (19972 + nxV c (jP c q4 i) % 16) 7))]] = ra byC [List.replicate (19972 + nxV c (jP c q4 i) % 16) 7] from rfl]
        exact rfl
    · simp [wBB, szL]; omega
  have hk254 := hk9
  clear hk9
  by_cases hk9 : k = 255
  · have hq3 : q2 ≤ c.length := by omega
    have hN3 := c_next c q2 (by omega)
    have e6 := tmodL (nxV c q2) 6
    have hn6 : nxV c q2 % 6 < 6 := Nat.mod_lt _ (by decide)
    have hq4 := nxP_le c hq3
    simp only [show ((6 : Nat) : Int) = 6 from rfl] at e6
    generalize hnv : nxV c q2 % 6 = n at *
    generalize hpv : nxP c q2 = q4 at *
    have hql := fun i => jP_le c hq4 i
    have hjl := fun i => jL_length c q4 i
    have hjm : ∀ i, ∀ b ∈ jL c q4 i, b.length ≤ 20 := fun i b h => by have := jL_mem h; omega
    have hjw := fun i => wBB_bd (hjm i)
    apply exMs
    refine And.intro ?_ ?_
    · refine Meets.introO mixed (hint []) (fun k => (sel (k == 10) [996,0,2,906,1,2003,4,5,6,7,2003,905,1,4,5,6,7,4,1,5,6,7] (sel (k == 18) [996,0,3,912,1,905,2,2004,5,6,7,2004,5,6,2,7,2004,5,6,1,2,7] []))) Try.func16 rfl (by decide) res_16 rty_16 (by kernel_rfl) ?_; 
      simp -dsimp -implicitDefEqProofs only [go_sem, Nat.reduceBEq, Nat.reduceAdd, Nat.reduceLeDiff, Nat.reduceSub, Int.reduceEq, initE]
      refine CallE.lend (hO) (by simp -dsimp -implicitDefEqProofs only [go_sem, Nat.reduceBEq, Nat.reduceAdd, Nat.reduceLeDiff, Nat.reduceSub, Int.reduceEq, rdAt]) ?_
      rintro r rfl
      simp -dsimp -implicitDefEqProofs only [go_sem, Nat.reduceBEq, Nat.reduceAdd, Nat.reduceLeDiff, Nat.reduceSub, Int.reduceEq, rdAt]
      refine CallE.mutLend (hN) (by simp -dsimp -implicitDefEqProofs only [go_sem, Nat.reduceBEq, Nat.reduceAdd, Nat.reduceLeDiff, Nat.reduceSub, Int.reduceEq]) (by simp -dsimp -implicitDefEqProofs only [go_sem, Nat.reduceBEq, Nat.reduceAdd, Nat.reduceLeDiff, Nat.reduceSub, Int.reduceEq, rdAt]) (by simp -dsimp -implicitDefEqProofs only [go_sem, Nat.reduceBEq, Nat.reduceAdd, Nat.reduceLeDiff, Nat.reduceSub, Int.reduceEq, rdAt]) ?_
      rintro r rs ⟨rfl, rfl⟩
      simp -dsimp -implicitDefEqProofs only [go_sem, Nat.reduceBEq, Nat.reduceAdd, Nat.reduceLeDiff, Nat.reduceSub, Int.reduceEq, rdAt]
      simp -dsimp -implicitDefEqProofs only [go_sem, Nat.reduceBEq, Nat.reduceAdd, Nat.reduceLeDiff, Nat.reduceSub, Int.reduceEq, e4, a1]
      refine CallE.mutLend (hN1) (by simp -dsimp -implicitDefEqProofs only [go_sem, Nat.reduceBEq, Nat.reduceAdd, Nat.reduceLeDiff, Nat.reduceSub, Int.reduceEq]) (by simp -dsimp -implicitDefEqProofs only [go_sem, Nat.reduceBEq, Nat.reduceAdd, Nat.reduceLeDiff, Nat.reduceSub, Int.reduceEq, rdAt]) (by simp -dsimp -implicitDefEqProofs only [go_sem, Nat.reduceBEq, Nat.reduceAdd, Nat.reduceLeDiff, Nat.reduceSub, Int.reduceEq, rdAt]) ?_
      rintro r rs ⟨rfl, rfl⟩
      simp -dsimp -implicitDefEqProofs only [go_sem, Nat.reduceBEq, Nat.reduceAdd, Nat.reduceLeDiff, Nat.reduceSub, Int.reduceEq, rdAt]
      repeat' (first | with_reducible refine ask.of (by first | omega | decide) ?_ | ((with_reducible refine ifB'.of (fun h => ?_) (fun h => ?_)) <;> first | (exfalso; omega) | skip) | simp -dsimp -implicitDefEqProofs only [go_sem, Nat.reduceBEq, Nat.reduceAdd, Nat.reduceLeDiff, Nat.reduceSub, Int.reduceEq, blA, cty_rd, e4, a1, e12, e6])
      refine CallE.mutLend (hN3) (by simp -dsimp -implicitDefEqProofs only [go_sem, Nat.reduceBEq, Nat.reduceAdd, Nat.reduceLeDiff, Nat.reduceSub, Int.reduceEq]) (by simp -dsimp -implicitDefEqProofs only [go_sem, Nat.reduceBEq, Nat.reduceAdd, Nat.reduceLeDiff, Nat.reduceSub, Int.reduceEq, rdAt]) (by simp -dsimp -implicitDefEqProofs only [go_sem, Nat.reduceBEq, Nat.reduceAdd, Nat.reduceLeDiff, Nat.reduceSub, Int.reduceEq, rdAt]) ?_
      rintro r rs ⟨rfl, rfl⟩
      simp -dsimp -implicitDefEqProofs only [go_sem, Nat.reduceBEq, Nat.reduceAdd, Nat.reduceLeDiff, Nat.reduceSub, Int.reduceEq, rdAt]
      repeat' (first | with_reducible refine ask.of (by first | omega | decide) ?_ | ((with_reducible refine ifB'.of (fun h => ?_) (fun h => ?_)) <;> first | (exfalso; omega) | skip) | simp -dsimp -implicitDefEqProofs only [go_sem, Nat.reduceBEq, Nat.reduceAdd, Nat.reduceLeDiff, Nat.reduceSub, Int.reduceEq, blA, cty_rd, e4, a1, e12, e6, hpv])
      refine LoopE.cntW n (fun i s => s.env 2 = .ptr [2] 0 0 0 ∧ s.env 3 = .ptr [9, 0] 0 0 0 ∧ s.env 4 = .v (.int .i64 k) ∧ s.env 5 = .ptr [5] 0 0 0 ∧ s.env 6 = .v (.int .i64 n) ∧ s.env 7 = .v (.int .i64 i) ∧ s.σ [2] = some (.box 43 [.v (.int .i64 0), .v (.int .i64 0), .v (.int .i64 0), .v (.slice none 0 0)]) ∧
        s.σ [9, 0] = some (.box 121 [.rd .ent 5 1 (bytesA c), .v (.int .i64 (jP c q4 i : Nat))]) ∧ s.σ [5] = some (.box 43 [.v (.int .i64 (1 + k % 4 : Nat)), .v (.int .i64 0), .v (.int .i64 k1), .ref [90]]) ∧ s.σ [90] = some (.row 22 1 (ra byC (jL c q4 i))))
        (Wk.box [5] 3 [90] 22 1 43 [.v (.int .i64 (1 + k % 4 : Nat)), .v (.int .i64 0), .v (.int .i64 k1), .v (.slice none 0 0)] ?_ rfl rfl (Wk.refl _)) ?_ ?_
      · simp -dsimp -implicitDefEqProofs only [go_sem, Nat.reduceBEq, Nat.reduceAdd, Nat.reduceLeDiff, Nat.reduceSub, Int.reduceEq]
      · refine ⟨by simp -dsimp -implicitDefEqProofs only [go_sem, Nat.reduceBEq, Nat.reduceAdd, Nat.reduceLeDiff, Nat.reduceSub, Int.reduceEq], by simp -dsimp -implicitDefEqProofs only [go_sem, Nat.reduceBEq, Nat.reduceAdd, Nat.reduceLeDiff, Nat.reduceSub, Int.reduceEq], by simp -dsimp -implicitDefEqProofs only [go_sem, Nat.reduceBEq, Nat.reduceAdd, Nat.reduceLeDiff, Nat.reduceSub, Int.reduceEq], by simp -dsimp -implicitDefEqProofs only [go_sem, Nat.reduceBEq, Nat.reduceAdd, Nat.reduceLeDiff, Nat.reduceSub, Int.reduceEq], by simp -dsimp -implicitDefEqProofs only [go_sem, Nat.reduceBEq, Nat.reduceAdd, Nat.reduceLeDiff, Nat.reduceSub, Int.reduceEq], by simp -dsimp -implicitDefEqProofs only [go_sem, Nat.reduceBEq, Nat.reduceAdd, Nat.reduceLeDiff, Nat.reduceSub, Int.reduceEq] <;> rfl, by simp -dsimp -implicitDefEqProofs only [go_sem, Nat.reduceBEq, Nat.reduceAdd, Nat.reduceLeDiff, Nat.reduceSub, Int.reduceEq], by simp -dsimp -implicitDefEqProofs only [go_sem, Nat.reduceBEq, Nat.reduceAdd, Nat.reduceLeDiff, Nat.reduceSub, Int.reduceEq] <;> rfl, by simp -dsimp -implicitDefEqProofs only [go_sem, Nat.reduceBEq, Nat.reduceAdd, Nat.reduceLeDiff, Nat.reduceSub, Int.reduceEq] <;> rfl, by simp -dsimp -implicitDefEqProofs only [go_sem, Nat.reduceBEq, Nat.reduceAdd, Nat.reduceLeDiff, Nat.reduceSub, Int.reduceEq] <;> rfl⟩
      rintro i ⟨e, σ⟩ hi ⟨h2, h3, h4, h5, h6, h7, s2, s9, s5, s90⟩ K hK
      simp only at h2 h3 h4 h5 h6 h7 s2 s9 s5 s90
      simp -dsimp -implicitDefEqProofs only [go_sem, Nat.reduceBEq, Nat.reduceAdd, Nat.reduceLeDiff, Nat.reduceSub, Int.reduceEq, h2, h3, h4, h5, h6, h7, s2, s9, s5, s90]
      refine ifB'.of (fun hlt => ?_) (fun hlt => ?_)
      · have hlt : i < n := by omega
        have hql9 := hql i
        have hjl9 := hjl i
        repeat' (first | with_reducible refine And.intro ?_ ?_ | with_reducible refine ask.of (by first | omega | decide | (simp only [ra_length, List.length_cons, List.length_nil]; omega)) ?_ | (refine CallE.mutLend (c_l1drawBytes c (jP c q4 i) 20 (hql i) hc (by decide) (by decide)) (by simp -dsimp -implicitDefEqProofs only [go_sem, Nat.reduceBEq, Nat.reduceAdd, Nat.reduceLeDiff, Nat.reduceSub, Int.reduceEq, h2, h3, h4, h5, h6, h7, s2, s9, s5, s90]) (by simp -dsimp -implicitDefEqProofs only [go_sem, Nat.reduceBEq, Nat.reduceAdd, Nat.reduceLeDiff, Nat.reduceSub, Int.reduceEq, h2, h3, h4, h5, h6, h7, s2, s9, s5, s90, rdAt, show ((20 : Nat) : Int) = 20 from rfl]) (by simp -dsimp -implicitDefEqProofs only [go_sem, Nat.reduceBEq, Nat.reduceAdd, Nat.reduceLeDiff, Nat.reduceSub, Int.reduceEq, h2, h3, h4, h5, h6, h7, s2, s9, s5, s90, rdAt, show ((20 : Nat) : Int) = 20 from rfl]) ?_; rintro r rs ⟨rfl, rfl⟩) | simp -dsimp -implicitDefEqProofs only [go_sem, Nat.reduceBEq, Nat.reduceAdd, Nat.reduceLeDiff, Nat.reduceSub, Int.reduceEq, h2, h3, h4, h5, h6, h7, s2, s9, s5, s90, blA, rdAt, hjl9])
        all_goals
          refine hK _ _ hlt (Wk.refl _) ?_
          simp -dsimp -implicitDefEqProofs only [go_sem, Nat.reduceBEq, Nat.reduceAdd, Nat.reduceLeDiff, Nat.reduceSub, Int.reduceEq, h2, h3, h4, h5, h6, h7, s2, s9, s5, s90, wrap_succ (show i < 4611686018427387904 by omega), jP, jL_snoc]
      · have hin : i = n := by omega
        subst hin
        clear hK
        have hjl9 := hjl i
        repeat' (first | with_reducible refine ask.of (by first | omega | decide) ?_ | ((with_reducible refine ifB'.of (fun h => ?_) (fun h => ?_)) <;> first | (exfalso; omega) | skip) | simp -dsimp -implicitDefEqProofs only [go_sem, Nat.reduceBEq, Nat.reduceAdd, Nat.reduceLeDiff, Nat.reduceSub, Int.reduceEq, h2, h3, h4, h5, h6, h7, s2, s9, s5, s90, blA, cty_rd])
        exact rfl
    · show (jL c q4 n).length + wBB (jL c q4 n) ≤ 20200
      have := hjl n
      have := hjw n
      rw [hjl n] at this
      omega
  have hk255 := hk9
  clear hk9
  by_cases hk9 : k % 4 = 1
  · have hq3 : (nxP c q2) ≤ c.length := by omega
    have hN3 := c_next c (nxP c q2) (by omega)
    have e6 := tmodL (nxV c (nxP c q2)) 6
    have hn6 : nxV c (nxP c q2) % 6 < 6 := Nat.mod_lt _ (by decide)
    have hq4 := nxP_le c hq3
    simp only [show ((6 : Nat) : Int) = 6 from rfl] at e6
    generalize hnv : nxV c (nxP c q2) % 6 = n at *
    generalize hpv : nxP c (nxP c q2) = q4 at *
    have hql := fun i => jP_le c hq4 i
    have hjl := fun i => jL_length c q4 i
    have hjm : ∀ i, ∀ b ∈ jL c q4 i, b.length ≤ 20 := fun i b h => by have := jL_mem h; omega
    have hjw := fun i => wBB_bd (hjm i)
    apply exMs
    refine And.intro ?_ ?_
    · refine Meets.introO mixed (hint []) (fun k => (sel (k == 10) [996,0,2,906,1,2003,4,5,6,7,2003,905,1,4,5,6,7,4,1,5,6,7] (sel (k == 18) [996,0,3,912,1,905,2,2004,5,6,7,2004,5,6,2,7,2004,5,6,1,2,7] []))) Try.func16 rfl (by decide) res_16 rty_16 (by kernel_rfl) ?_; 
      simp -dsimp -implicitDefEqProofs only [go_sem, Nat.reduceBEq, Nat.reduceAdd, Nat.reduceLeDiff, Nat.reduceSub, Int.reduceEq, initE]
      refine CallE.lend (hO) (by simp -dsimp -implicitDefEqProofs only [go_sem, Nat.reduceBEq, Nat.reduceAdd, Nat.reduceLeDiff, Nat.reduceSub, Int.reduceEq, rdAt]) ?_
      rintro r rfl
      simp -dsimp -implicitDefEqProofs only [go_sem, Nat.reduceBEq, Nat.reduceAdd, Nat.reduceLeDiff, Nat.reduceSub, Int.reduceEq, rdAt]
      refine CallE.mutLend (hN) (by simp -dsimp -implicitDefEqProofs only [go_sem, Nat.reduceBEq, Nat.reduceAdd, Nat.reduceLeDiff, Nat.reduceSub, Int.reduceEq]) (by simp -dsimp -implicitDefEqProofs only [go_sem, Nat.reduceBEq, Nat.reduceAdd, Nat.reduceLeDiff, Nat.reduceSub, Int.reduceEq, rdAt]) (by simp -dsimp -implicitDefEqProofs only [go_sem, Nat.reduceBEq, Nat.reduceAdd, Nat.reduceLeDiff, Nat.reduceSub, Int.reduceEq, rdAt]) ?_
      rintro r rs ⟨rfl, rfl⟩
      simp -dsimp -implicitDefEqProofs only [go_sem, Nat.reduceBEq, Nat.reduceAdd, Nat.reduceLeDiff, Nat.reduceSub, Int.reduceEq, rdAt]
      simp -dsimp -implicitDefEqProofs only [go_sem, Nat.reduceBEq, Nat.reduceAdd, Nat.reduceLeDiff, Nat.reduceSub, Int.reduceEq, e4, a1]
      refine CallE.mutLend (hN1) (by simp -dsimp -implicitDefEqProofs only [go_sem, Nat.reduceBEq, Nat.reduceAdd, Nat.reduceLeDiff, Nat.reduceSub, Int.reduceEq]) (by simp -dsimp -implicitDefEqProofs only [go_sem, Nat.reduceBEq, Nat.reduceAdd, Nat.reduceLeDiff, Nat.reduceSub, Int.reduceEq, rdAt]) (by simp -dsimp -implicitDefEqProofs only [go_sem, Nat.reduceBEq, Nat.reduceAdd, Nat.reduceLeDiff, Nat.reduceSub, Int.reduceEq, rdAt]) ?_
      rintro r rs ⟨rfl, rfl⟩
      simp -dsimp -implicitDefEqProofs only [go_sem, Nat.reduceBEq, Nat.reduceAdd, Nat.reduceLeDiff, Nat.reduceSub, Int.reduceEq, rdAt]
      repeat' (first | with_reducible refine ask.of (by first | omega | decide) ?_ | ((with_reducible refine ifB'.of (fun h => ?_) (fun h => ?_)) <;> first | (exfalso; omega) | skip) | simp -dsimp -implicitDefEqProofs only [go_sem, Nat.reduceBEq, Nat.reduceAdd, Nat.reduceLeDiff, Nat.reduceSub, Int.reduceEq, blA, cty_rd, e4, a1, e12, e6])
      refine CallE.mutLend (hN2) (by simp -dsimp -implicitDefEqProofs only [go_sem, Nat.reduceBEq, Nat.reduceAdd, Nat.reduceLeDiff, Nat.reduceSub, Int.reduceEq]) (by simp -dsimp -implicitDefEqProofs only [go_sem, Nat.reduceBEq, Nat.reduceAdd, Nat.reduceLeDiff, Nat.reduceSub, Int.reduceEq, rdAt]) (by simp -dsimp -implicitDefEqProofs only [go_sem, Nat.reduceBEq, Nat.reduceAdd, Nat.reduceLeDiff, Nat.reduceSub, Int.reduceEq, rdAt]) ?_
      rintro r rs ⟨rfl, rfl⟩
      simp -dsimp -implicitDefEqProofs only [go_sem, Nat.reduceBEq, Nat.reduceAdd, Nat.reduceLeDiff, Nat.reduceSub, Int.reduceEq, rdAt]
      repeat' (first | with_reducible refine ask.of (by first | omega | decide) ?_ | ((with_reducible refine ifB'.of (fun h => ?_) (fun h => ?_)) <;> first | (exfalso; omega) | skip) | simp -dsimp -implicitDefEqProofs only [go_sem, Nat.reduceBEq, Nat.reduceAdd, Nat.reduceLeDiff, Nat.reduceSub, Int.reduceEq, blA, cty_rd, e4, a1, e12, e6])
      refine CallE.mutLend (hN3) (by simp -dsimp -implicitDefEqProofs only [go_sem, Nat.reduceBEq, Nat.reduceAdd, Nat.reduceLeDiff, Nat.reduceSub, Int.reduceEq]) (by simp -dsimp -implicitDefEqProofs only [go_sem, Nat.reduceBEq, Nat.reduceAdd, Nat.reduceLeDiff, Nat.reduceSub, Int.reduceEq, rdAt]) (by simp -dsimp -implicitDefEqProofs only [go_sem, Nat.reduceBEq, Nat.reduceAdd, Nat.reduceLeDiff, Nat.reduceSub, Int.reduceEq, rdAt]) ?_
      rintro r rs ⟨rfl, rfl⟩
      simp -dsimp -implicitDefEqProofs only [go_sem, Nat.reduceBEq, Nat.reduceAdd, Nat.reduceLeDiff, Nat.reduceSub, Int.reduceEq, rdAt]
      repeat' (first | with_reducible refine ask.of (by first | omega | decide) ?_ | ((with_reducible refine ifB'.of (fun h => ?_) (fun h => ?_)) <;> first | (exfalso; omega) | skip) | simp -dsimp -implicitDefEqProofs only [go_sem, Nat.reduceBEq, Nat.reduceAdd, Nat.reduceLeDiff, Nat.reduceSub, Int.reduceEq, blA, cty_rd, e4, a1, e12, e6, hpv])
      refine LoopE.cntW n (fun i s => s.env 2 = .ptr [2] 0 0 0 ∧ s.env 3 = .ptr [9, 0] 0 0 0 ∧ s.env 4 = .v (.int .i64 k) ∧ s.env 5 = .ptr [5] 0 0 0 ∧ s.env 6 = .v (.int .i64 n) ∧ s.env 7 = .v (.int .i64 i) ∧ s.σ [2] = some (.box 43 [.v (.int .i64 0), .v (.int .i64 0), .v (.int .i64 0), .v (.slice none 0 0)]) ∧
        s.σ [9, 0] = some (.box 121 [.rd .ent 5 1 (bytesA c), .v (.int .i64 (jP c q4 i : Nat))]) ∧ s.σ [5] = some (.box 43 [.v (.int .i64 (1 + k % 4 : Nat)), .v (.int .i64 ((nxV c q2 % 12 : Nat) : Int)), .v (.int .i64 k1), .ref [90]]) ∧ s.σ [90] = some (.row 22 1 (ra byC (jL c q4 i))))
        (Wk.box [5] 3 [90] 22 1 43 [.v (.int .i64 (1 + k % 4 : Nat)), .v (.int .i64 ((nxV c q2 % 12 : Nat) : Int)), .v (.int .i64 k1), .v (.slice none 0 0)] ?_ rfl rfl (Wk.refl _)) ?_ ?_
      · simp -dsimp -implicitDefEqProofs only [go_sem, Nat.reduceBEq, Nat.reduceAdd, Nat.reduceLeDiff, Nat.reduceSub, Int.reduceEq]
      · refine ⟨by simp -dsimp -implicitDefEqProofs only [go_sem, Nat.reduceBEq, Nat.reduceAdd, Nat.reduceLeDiff, Nat.reduceSub, Int.reduceEq], by simp -dsimp -implicitDefEqProofs only [go_sem, Nat.reduceBEq, Nat.reduceAdd, Nat.reduceLeDiff, Nat.reduceSub, Int.reduceEq], by simp -dsimp -implicitDefEqProofs only [go_sem, Nat.reduceBEq, Nat.reduceAdd, Nat.reduceLeDiff, Nat.reduceSub, Int.reduceEq], by simp -dsimp -implicitDefEqProofs only [go_sem, Nat.reduceBEq, Nat.reduceAdd, Nat.reduceLeDiff, Nat.reduceSub, Int.reduceEq], by simp -dsimp -implicitDefEqProofs only [go_sem, Nat.reduceBEq, Nat.reduceAdd, Nat.reduceLeDiff, Nat.reduceSub, Int.reduceEq], by simp -dsimp -implicitDefEqProofs only [go_sem, Nat.reduceBEq, Nat.reduceAdd, Nat.reduceLeDiff, Nat.reduceSub, Int.reduceEq] <;> rfl, by simp -dsimp -implicitDefEqProofs only [go_sem, Nat.reduceBEq, Nat.reduceAdd, Nat.reduceLeDiff, Nat.reduceSub, Int.reduceEq], by simp -dsimp -implicitDefEqProofs only [go_sem, Nat.reduceBEq, Nat.reduceAdd, Nat.reduceLeDiff, Nat.reduceSub, Int.reduceEq] <;> rfl, by simp -dsimp -implicitDefEqProofs only [go_sem, Nat.reduceBEq, Nat.reduceAdd, Nat.reduceLeDiff, Nat.reduceSub, Int.reduceEq] <;> rfl, by simp -dsimp -implicitDefEqProofs only [go_sem, Nat.reduceBEq, Nat.reduceAdd, Nat.reduceLeDiff, Nat.reduceSub, Int.reduceEq] <;> rfl⟩
      rintro i ⟨e, σ⟩ hi ⟨h2, h3, h4, h5, h6, h7, s2, s9, s5, s90⟩ K hK
      simp only at h2 h3 h4 h5 h6 h7 s2 s9 s5 s90
      simp -dsimp -implicitDefEqProofs only [go_sem, Nat.reduceBEq, Nat.reduceAdd, Nat.reduceLeDiff, Nat.reduceSub, Int.reduceEq, h2, h3, h4, h5, h6, h7, s2, s9, s5, s90]
      refine ifB'.of (fun hlt => ?_) (fun hlt => ?_)
      · have hlt : i < n := by omega
        have hql9 := hql i
        have hjl9 := hjl i
        repeat' (first | with_reducible refine And.intro ?_ ?_ | with_reducible refine ask.of (by first | omega | decide | (simp only [ra_length, List.length_cons, List.length_nil]; omega)) ?_ | (refine CallE.mutLend (c_l1drawBytes c (jP c q4 i) 20 (hql i) hc (by decide) (by decide)) (by simp -dsimp -implicitDefEqProofs only [go_sem, Nat.reduceBEq, Nat.reduceAdd, Nat.reduceLeDiff, Nat.reduceSub, Int.reduceEq, h2, h3, h4, h5, h6, h7, s2, s9, s5, s90]) (by simp -dsimp -implicitDefEqProofs only [go_sem, Nat.reduceBEq, Nat.reduceAdd, Nat.reduceLeDiff, Nat.reduceSub, Int.reduceEq, h2, h3, h4, h5, h6, h7, s2, s9, s5, s90, rdAt, show ((20 : Nat) : Int) = 20 from rfl]) (by simp -dsimp -implicitDefEqProofs only [go_sem, Nat.reduceBEq, Nat.reduceAdd, Nat.reduceLeDiff, Nat.reduceSub, Int.reduceEq, h2, h3, h4, h5, h6, h7, s2, s9, s5, s90, rdAt, show ((20 : Nat) : Int) = 20 from rfl]) ?_; rintro r rs ⟨rfl, rfl⟩) | simp -dsimp -implicitDefEqProofs only [go_sem, Nat.reduceBEq, Nat.reduceAdd, Nat.reduceLeDiff, Nat.reduceSub, Int.reduceEq, h2, h3, h4, h5, h6, h7, s2, s9, s5, s90, blA, rdAt, hjl9])
        all_goals
          refine hK _ _ hlt (Wk.refl _) ?_
          simp -dsimp -implicitDefEqProofs only [go_sem, Nat.reduceBEq, Nat.reduceAdd, Nat.reduceLeDiff, Nat.reduceSub, Int.reduceEq, h2, h3, h4, h5, h6, h7, s2, s9, s5, s90, wrap_succ (show i < 4611686018427387904 by omega), jP, jL_snoc]
      · have hin : i = n := by omega
        subst hin
        clear hK
        have hjl9 := hjl i
        repeat' (first | with_reducible refine ask.of (by first | omega | decide) ?_ | ((with_reducible refine ifB'.of (fun h => ?_) (fun h => ?_)) <;> first | (exfalso; omega) | skip) | simp -dsimp -implicitDefEqProofs only [go_sem, Nat.reduceBEq, Nat.reduceAdd, Nat.reduceLeDiff, Nat.reduceSub, Int.reduceEq, h2, h3, h4, h5, h6, h7, s2, s9, s5, s90, blA, cty_rd])
        exact rfl
    · show (jL c q4 n).length + wBB (jL c q4 n) ≤ 20200
      have := hjl n
      have := hjw n
      rw [hjl n] at this
      omega
  have hm1 := hk9
  clear hk9
  by_cases hk9 : k % 4 = 2
  · have hq3 : (nxP c q2) ≤ c.length := by omega
    have hN3 := c_next c (nxP c q2) (by omega)
    have e6 := tmodL (nxV c (nxP c q2)) 6
    have hn6 : nxV c (nxP c q2) % 6 < 6 := Nat.mod_lt _ (by decide)
    have hq4 := nxP_le c hq3
    simp only [show ((6 : Nat) : Int) = 6 from rfl] at e6
    generalize hnv : nxV c (nxP c q2) % 6 = n at *
    generalize hpv : nxP c (nxP c q2) = q4 at *
    have hql := fun i => jP_le c hq4 i
    have hjl := fun i => jL_length c q4 i
    have hjm : ∀ i, ∀ b ∈ jL c q4 i, b.length ≤ 20 := fun i b h => by have := jL_mem h; omega
    have hjw := fun i => wBB_bd (hjm i)
    apply exMs
    refine And.intro ?_ ?_
    · refine Meets.introO mixed (hint []) (fun k => (sel (k == 10) [996,0,2,906,1,2003,4,5,6,7,2003,905,1,4,5,6,7,4,1,5,6,7] (sel (k == 18) [996,0,3,912,1,905,2,2004,5,6,7,2004,5,6,2,7,2004,5,6,1,2,7] []))) Try.func16 rfl (by decide) res_16 rty_16 (by kernel_rfl) ?_; 
      simp -dsimp -implicitDefEqProofs only [go_sem, Nat.reduceBEq, Nat.reduceAdd, Nat.reduceLeDiff, Nat.reduceSub, Int.reduceEq, initE]
      refine CallE.lend (hO) (by simp -dsimp -implicitDefEqProofs only [go_sem, Nat.reduceBEq, Nat.reduceAdd, Nat.reduceLeDiff, Nat.reduceSub, Int.reduceEq, rdAt]) ?_
      rintro r rfl
      simp -dsimp -implicitDefEqProofs only [go_sem, Nat.reduceBEq, Nat.reduceAdd, Nat.reduceLeDiff, Nat.reduceSub, Int.reduceEq, rdAt]
      refine CallE.mutLend (hN) (by simp -dsimp -implicitDefEqProofs only [go_sem, Nat.reduceBEq, Nat.reduceAdd, Nat.reduceLeDiff, Nat.reduceSub, Int.reduceEq]) (by simp -dsimp -implicitDefEqProofs only [go_sem, Nat.reduceBEq, Nat.reduceAdd, Nat.reduceLeDiff, Nat.reduceSub, Int.reduceEq, rdAt]) (by simp -dsimp -implicitDefEqProofs only [go_sem, Nat.reduceBEq, Nat.reduceAdd, Nat.reduceLeDiff, Nat.reduceSub, Int.reduceEq, rdAt]) ?_
      rintro r rs ⟨rfl, rfl⟩
      simp -dsimp -implicitDefEqProofs only [go_sem, Nat.reduceBEq, Nat.reduceAdd, Nat.reduceLeDiff, Nat.reduceSub, Int.reduceEq, rdAt]
      simp -dsimp -implicitDefEqProofs only [go_sem, Nat.reduceBEq, Nat.reduceAdd, Nat.reduceLeDiff, Nat.reduceSub, Int.reduceEq, e4, a1]
      refine CallE.mutLend (hN1) (by simp -dsimp -implicitDefEqProofs only [go_sem, Nat.reduceBEq, Nat.reduceAdd, Nat.reduceLeDiff, Nat.reduceSub, Int.reduceEq]) (by simp -dsimp -implicitDefEqProofs only [go_sem, Nat.reduceBEq, Nat.reduceAdd, Nat.reduceLeDiff, Nat.reduceSub, Int.reduceEq, rdAt]) (by simp -dsimp -implicitDefEqProofs only [go_sem, Nat.reduceBEq, Nat.reduceAdd, Nat.reduceLeDiff, Nat.reduceSub, Int.reduceEq, rdAt]) ?_
      rintro r rs ⟨rfl, rfl⟩
      simp -dsimp -implicitDefEqProofs only [go_sem, Nat.reduceBEq, Nat.reduceAdd, Nat.reduceLeDiff, Nat.reduceSub, Int.reduceEq, rdAt]
      repeat' (first | with_reducible refine ask.of (by first | omega | decide) ?_ | ((with_reducible refine ifB'.of (fun h => ?_) (fun h => ?_)) <;> first | (exfalso; omega) | skip) | simp -dsimp -implicitDefEqProofs only [go_sem, Nat.reduceBEq, Nat.reduceAdd, Nat.reduceLeDiff, Nat.reduceSub, Int.reduceEq, blA, cty_rd, e4, a1, e12, e6])
      refine CallE.mutLend (hN2) (by simp -dsimp -implicitDefEqProofs only [go_sem, Nat.reduceBEq, Nat.reduceAdd, Nat.reduceLeDiff, Nat.reduceSub, Int.reduceEq]) (by simp -dsimp -implicitDefEqProofs only [go_sem, Nat.reduceBEq, Nat.reduceAdd, Nat.reduceLeDiff, Nat.reduceSub, Int.reduceEq, rdAt]) (by simp -dsimp -implicitDefEqProofs only [go_sem, Nat.reduceBEq, Nat.reduceAdd, Nat.reduceLeDiff, Nat.reduceSub, Int.reduceEq, rdAt]) ?_
      rintro r rs ⟨rfl, rfl⟩
      simp -dsimp -implicitDefEqProofs only [go_sem, Nat.reduceBEq, Nat.reduceAdd, Nat.reduceLeDiff, Nat.reduceSub, Int.reduceEq, rdAt]
      repeat' (first | with_reducible refine ask.of (by first | omega | decide) ?_ | ((with_reducible refine ifB'.of (fun h => ?_) (fun h => ?_)) <;> first | (exfalso; omega) | skip) | simp -dsimp -implicitDefEqProofs only [go_sem, Nat.reduceBEq, Nat.reduceAdd, Nat.reduceLeDiff, Nat.reduceSub, Int.reduceEq, blA, cty_rd, e4, a1, e12, e6])
      refine CallE.mutLend (hN3) (by simp -dsimp -implicitDefEqProofs only [go_sem, Nat.reduceBEq, Nat.reduceAdd, Nat.reduceLeDiff, Nat.reduceSub, Int.reduceEq]) (by simp -dsimp -implicitDefEqProofs only [go_sem, Nat.reduceBEq, Nat.reduceAdd, Nat.reduceLeDiff, Nat.reduceSub, Int.reduceEq, rdAt]) (by simp -dsimp -implicitDefEqProofs only [go_sem, Nat.reduceBEq, Nat.reduceAdd, Nat.reduceLeDiff, Nat.reduceSub, Int.reduceEq, rdAt]) ?_
      rintro r rs ⟨rfl, rfl⟩
      simp -dsimp -implicitDefEqProofs only [go_sem, Nat.reduceBEq, Nat.reduceAdd, Nat.reduceLeDiff, Nat.reduceSub, Int.reduceEq, rdAt]
      repeat' (first | with_reducible refine ask.of (by first | omega | decide) ?_ | ((with_reducible refine ifB'.of (fun h => ?_) (fun h => ?_)) <;> first | (exfalso; omega) | skip) | simp -dsimp -implicitDefEqProofs only [go_sem, Nat.reduceBEq, Nat.reduceAdd, Nat.reduceLeDiff, Nat.reduceSub, Int.reduceEq, blA, cty_rd, e4, a1, e12, e6, hpv])
      refine LoopE.cntW n (fun i s => s.env 2 = .ptr [2] 0 0 0 ∧ s.env 3 = .ptr [9, 0] 0 0 0 ∧ s.env 4 = .v (.int .i64 k) ∧ s.env 5 = .ptr [5] 0 0 0 ∧ s.env 6 = .v (.int .i64 n) ∧ s.env 7 = .v (.int .i64 i) ∧ s.σ [2] = some (.box 43 [.v (.int .i64 0), .v (.int .i64 0), .v (.int .i64 0), .v (.slice none 0 0)]) ∧
        s.σ [9, 0] = some (.box 121 [.rd .ent 5 1 (bytesA c), .v (.int .i64 (jP c q4 i : Nat))]) ∧ s.σ [5] = some (.box 43 [.v (.int .i64 (1 + k % 4 : Nat)), .v (.int .i64 ((nxV c q2 % 12 : Nat) : Int)), .v (.int .i64 k1), .ref [90]]) ∧ s.σ [90] = some (.row 22 1 (ra byC (jL c q4 i))))
        (Wk.box [5] 3 [90] 22 1 43 [.v (.int .i64 (1 + k % 4 : Nat)), .v (.int .i64 ((nxV c q2 % 12 : Nat) : Int)), .v (.int .i64 k1), .v (.slice none 0 0)] ?_ rfl rfl (Wk.refl _)) ?_ ?_
      · simp -dsimp -implicitDefEqProofs only [go_sem, Nat.reduceBEq, Nat.reduceAdd, Nat.reduceLeDiff, Nat.reduceSub, Int.reduceEq]
      · refine ⟨by simp -dsimp -implicitDefEqProofs only [go_sem, Nat.reduceBEq, Nat.reduceAdd, Nat.reduceLeDiff, Nat.reduceSub, Int.reduceEq], by simp -dsimp -implicitDefEqProofs only [go_sem, Nat.reduceBEq, Nat.reduceAdd, Nat.reduceLeDiff, Nat.reduceSub, Int.reduceEq], by simp -dsimp -implicitDefEqProofs only [go_sem, Nat.reduceBEq, Nat.reduceAdd, Nat.reduceLeDiff, Nat.reduceSub, Int.reduceEq], by simp -dsimp -implicitDefEqProofs only [go_sem, Nat.reduceBEq, Nat.reduceAdd, Nat.reduceLeDiff, Nat.reduceSub, Int.reduceEq], by simp -dsimp -implicitDefEqProofs only [go_sem, Nat.reduceBEq, Nat.reduceAdd, Nat.reduceLeDiff, Nat.reduceSub, Int.reduceEq], by simp -dsimp -implicitDefEqProofs only [go_sem, Nat.reduceBEq, Nat.reduceAdd, Nat.reduceLeDiff, Nat.reduceSub, Int.reduceEq] <;> rfl, by simp -dsimp -implicitDefEqProofs only [go_sem, Nat.reduceBEq, Nat.reduceAdd, Nat.reduceLeDiff, Nat.reduceSub, Int.reduceEq], by simp -dsimp -implicitDefEqProofs only [go_sem, Nat.reduceBEq, Nat.reduceAdd, Nat.reduceLeDiff, Nat.reduceSub, Int.reduceEq] <;> rfl, by simp -dsimp -implicitDefEqProofs only [go_sem, Nat.reduceBEq, Nat.reduceAdd, Nat.reduceLeDiff, Nat.reduceSub, Int.reduceEq] <;> rfl, by simp -dsimp -implicitDefEqProofs only [go_sem, Nat.reduceBEq, Nat.reduceAdd, Nat.reduceLeDiff, Nat.reduceSub, Int.reduceEq] <;> rfl⟩
      rintro i ⟨e, σ⟩ hi ⟨h2, h3, h4, h5, h6, h7, s2, s9, s5, s90⟩ K hK
      simp only at h2 h3 h4 h5 h6 h7 s2 s9 s5 s90
      simp -dsimp -implicitDefEqProofs only [go_sem, Nat.reduceBEq, Nat.reduceAdd, Nat.reduceLeDiff, Nat.reduceSub, Int.reduceEq, h2, h3, h4, h5, h6, h7, s2, s9, s5, s90]
      refine ifB'.of (fun hlt => ?_) (fun hlt => ?_)
      · have hlt : i < n := by omega
        have hql9 := hql i
        have hjl9 := hjl i
        repeat' (first | with_reducible refine And.intro ?_ ?_ | with_reducible refine ask.of (by first | omega | decide | (simp only [ra_length, List.length_cons, List.length_nil]; omega)) ?_ | (refine CallE.mutLend (c_l1drawBytes c (jP c q4 i) 20 (hql i) hc (by decide) (by decide)) (by simp -dsimp -implicitDefEqProofs only [go_sem, Nat.reduceBEq, Nat.reduceAdd, Nat.reduceLeDiff, Nat.reduceSub, Int.reduceEq, h2, h3, h4, h5, h6, h7, s2, s9, s5, s90]) (by simp -dsimp -implicitDefEqProofs only [go_sem, Nat.reduceBEq, Nat.reduceAdd, Nat.reduceLeDiff, Nat.reduceSub, Int.reduceEq, h2, h3, h4, h5, h6, h7, s2, s9, s5, s90, rdAt, show ((20 : Nat) : Int) = 20 from rfl]) (by simp -dsimp -implicitDefEqProofs only [go_sem, Nat.reduceBEq, Nat.reduceAdd, Nat.reduceLeDiff, Nat.reduceSub, Int.reduceEq, h2, h3, h4, h5, h6, h7, s2, s9, s5, s90, rdAt, show ((20 : Nat) : Int) = 20 from rfl]) ?_; rintro r rs ⟨rfl, rfl⟩) | simp -dsimp -implicitDefEqProofs only [go_sem, Nat.reduceBEq, Nat.reduceAdd, Nat.reduceLeDiff, Nat.reduceSub, Int.reduceEq, h2, h3, h4, h5, h6, h7, s2, s9, s5, s90, blA, rdAt, hjl9])
        all_goals
          refine hK _ _ hlt (Wk.refl _) ?_
          simp -dsimp -implicitDefEqProofs only [go_sem, Nat.reduceBEq, Nat.reduceAdd, Nat.reduceLeDiff, Nat.reduceSub, Int.reduceEq, h2, h3, h4, h5, h6, h7, s2, s9, s5, s90, wrap_succ (show i < 4611686018427387904 by omega), jP, jL_snoc]
      · have hin : i = n := by omega
        subst hin
        clear hK
        have hjl9 := hjl i
        repeat' (first | with_reducible refine ask.of (by first | omega | decide) ?_ | ((with_reducible refine ifB'.of (fun h => ?_) (fun h => ?_)) <;> first | (exfalso; omega) | skip) | simp -dsimp -implicitDefEqProofs only [go_sem, Nat.reduceBEq, Nat.reduceAdd, Nat.reduceLeDiff, Nat.reduceSub, Int.reduceEq, h2, h3, h4, h5, h6, h7, s2, s9, s5, s90, blA, cty_rd])
        exact rfl
    · show (jL c q4 n).length + wBB (jL c q4 n) ≤ 20200
      have := hjl n
      have := hjw n
      rw [hjl n] at this
      omega
  have hm2 := hk9
  clear hk9
  · have hq3 : q2 ≤ c.length := by omega
    have hN3 := c_next c q2 (by omega)
    have e6 := tmodL (nxV c q2) 6
    have hn6 : nxV c q2 % 6 < 6 := Nat.mod_lt _ (by decide)
    have hq4 := nxP_le c hq3
    simp only [show ((6 : Nat) : Int) = 6 from rfl] at e6
    generalize hnv : nxV c q2 % 6 = n at *
    generalize hpv : nxP c q2 = q4 at *
    have hql := fun i => jP_le c hq4 i
    have hjl := fun i => jL_length c q4 i
    have hjm : ∀ i, ∀ b ∈ jL c q4 i, b.length ≤ 20 := fun i b h => by have := jL_mem h; omega
    have hjw := fun i => wBB_bd (hjm i)
    apply exMs
    refine And.intro ?_ ?_
    · refine Meets.introO mixed (hint []) (fun k => (sel (k == 10) [996,0,2,906,1,2003,4,5,6,7,2003,905,1,4,5,6,7,4,1,5,6,7] (sel (k == 18) [996,0,3,912,1,905,2,2004,5,6,7,2004,5,6,2,7,2004,5,6,1,2,7] []))) Try.func16 rfl (by decide) res_16 rty_16 (by kernel_rfl) ?_; 
      simp -dsimp -implicitDefEqProofs only [go_sem, Nat.reduceBEq, Nat.reduceAdd, Nat.reduceLeDiff, Nat.reduceSub, Int.reduceEq, initE]
      refine CallE.lend (hO) (by simp -dsimp -implicitDefEqProofs only [go_sem, Nat.reduceBEq, Nat.reduceAdd, Nat.reduceLeDiff, Nat.reduceSub, Int.reduceEq, rdAt]) ?_
      rintro r rfl
      simp -dsimp -implicitDefEqProofs only [go_sem, Nat.reduceBEq, Nat.reduceAdd, Nat.reduceLeDiff, Nat.reduceSub, Int.reduceEq, rdAt]
      refine CallE.mutLend (hN) (by simp -dsimp -implicitDefEqProofs only [go_sem, Nat.reduceBEq, Nat.reduceAdd, Nat.reduceLeDiff, Nat.reduceSub, Int.reduceEq]) (by simp -dsimp -implicitDefEqProofs only [go_sem, Nat.reduceBEq, Nat.reduceAdd, Nat.reduceLeDiff, Nat.reduceSub, Int.reduceEq, rdAt]) (by simp -dsimp -implicitDefEqProofs only [go_sem, Nat.reduceBEq, Nat.reduceAdd, Nat.reduceLeDiff, Nat.reduceSub, Int.reduceEq, rdAt]) ?_
      rintro r rs ⟨rfl, rfl⟩
      simp -dsimp -implicitDefEqProofs only [go_sem, Nat.reduceBEq, Nat.reduceAdd, Nat.reduceLeDiff, Nat.reduceSub, Int.reduceEq, rdAt]
      simp -dsimp -implicitDefEqProofs only [go_sem, Nat.reduceBEq, Nat.reduceAdd, Nat.reduceLeDiff, Nat.reduceSub, Int.reduceEq, e4, a1]
      refine CallE.mutLend (hN1) (by simp -dsimp -implicitDefEqProofs only [go_sem, Nat.reduceBEq, Nat.reduceAdd, Nat.reduceLeDiff, Nat.reduceSub, Int.reduceEq]) (by simp -dsimp -implicitDefEqProofs only [go_sem, Nat.reduceBEq, Nat.reduceAdd, Nat.reduceLeDiff, Nat.reduceSub, Int.reduceEq, rdAt]) (by simp -dsimp -implicitDefEqProofs only [go_sem, Nat.reduceBEq, Nat.reduceAdd, Nat.reduceLeDiff, Nat.reduceSub, Int.reduceEq, rdAt]) ?_
      rintro r rs ⟨rfl, rfl⟩
      simp -dsimp -implicitDefEqProofs only [go_sem, Nat.reduceBEq, Nat.reduceAdd, Nat.reduceLeDiff, Nat.reduceSub, Int.reduceEq, rdAt]
      repeat' (first | with_reducible refine ask.of (by first | omega | decide) ?_ | ((with_reducible refine ifB'.of (fun h => ?_) (fun h => ?_)) <;> first | (exfalso; omega) | skip) | simp -dsimp -implicitDefEqProofs only [go_sem, Nat.reduceBEq, Nat.reduceAdd, Nat.reduceLeDiff, Nat.reduceSub, Int.reduceEq, blA, cty_rd, e4, a1, e12, e6])
      refine CallE.mutLend (hN3) (by simp -dsimp -implicitDefEqProofs only [go_sem, Nat.reduceBEq, Nat.reduceAdd, Nat.reduceLeDiff, Nat.reduceSub, Int.reduceEq]) (by simp -dsimp -implicitDefEqProofs only [go_sem, Nat.reduceBEq, Nat.reduceAdd, Nat.reduceLeDiff, Nat.reduceSub, Int.reduceEq, rdAt]) (by simp -dsimp -implicitDefEqProofs only [go_sem, Nat.reduceBEq, Nat.reduceAdd, Nat.reduceLeDiff, Nat.reduceSub, Int.reduceEq, rdAt]) ?_
      rintro r rs ⟨rfl, rfl⟩
      simp -dsimp -implicitDefEqProofs only [go_sem, Nat.reduceBEq, Nat.reduceAdd, Nat.reduceLeDiff, Nat.reduceSub, Int.reduceEq, rdAt]
      repeat' (first | with_reducible refine ask.of (by first | omega | decide) ?_ | ((with_reducible refine ifB'.of (fun h => ?_) (fun h => ?_)) <;> first | (exfalso; omega) | skip) | simp -dsimp -implicitDefEqProofs only [go_sem, Nat.reduceBEq, Nat.reduceAdd, Nat.reduceLeDiff, Nat.reduceSub, Int.reduceEq, blA, cty_rd, e4, a1, e12, e6, hpv])
      refine LoopE.cntW n (fun i s => s.env 2 = .ptr [2] 0 0 0 ∧ s.env 3 = .ptr [9, 0] 0 0 0 ∧ s.env 4 = .v (.int .i64 k) ∧ s.env 5 = .ptr [5] 0 0 0 ∧ s.env 6 = .v (.int .i64 n) ∧ s.env 7 = .v (.int .i64 i) ∧ s.σ [2] = some (.box 43 [.v (.int .i64 0), .v (.int .i64 0), .v (.int .i64 0), .v (.slice none 0 0)]) ∧
        s.σ [9, 0] = some (.box 121 [.rd .ent 5 1 (bytesA c), .v (.int .i64 (jP c q4 i : Nat))]) ∧ s.σ [5] = some (.box 43 [.v (.int .i64 (1 + k % 4 : Nat)), .v (.int .i64 0), .v (.int .i64 k1), .ref [90]]) ∧ s.σ [90] = some (.row 22 1 (ra byC (jL c q4 i))))
        (Wk.box [5] 3 [90] 22 1 43 [.v (.int .i64 (1 + k % 4 : Nat)), .v (.int .i64 0), .v (.int .i64 k1), .v (.slice none 0 0)] ?_ rfl rfl (Wk.refl _)) ?_ ?_
      · simp -dsimp -implicitDefEqProofs only [go_sem, Nat.reduceBEq, Nat.reduceAdd, Nat.reduceLeDiff, Nat.reduceSub, Int.reduceEq]
      · refine ⟨by simp -dsimp -implicitDefEqProofs only [go_sem, Nat.reduceBEq, Nat.reduceAdd, Nat.reduceLeDiff, Nat.reduceSub, Int.reduceEq], by simp -dsimp -implicitDefEqProofs only [go_sem, Nat.reduceBEq, Nat.reduceAdd, Nat.reduceLeDiff, Nat.reduceSub, Int.reduceEq], by simp -dsimp -implicitDefEqProofs only [go_sem, Nat.reduceBEq, Nat.reduceAdd, Nat.reduceLeDiff, Nat.reduceSub, Int.reduceEq], by simp -dsimp -implicitDefEqProofs only [go_sem, Nat.reduceBEq, Nat.reduceAdd, Nat.reduceLeDiff, Nat.reduceSub, Int.reduceEq], by simp -dsimp -implicitDefEqProofs only [go_sem, Nat.reduceBEq, Nat.reduceAdd, Nat.reduceLeDiff, Nat.reduceSub, Int.reduceEq], by simp -dsimp -implicitDefEqProofs only [go_sem, Nat.reduceBEq, Nat.reduceAdd, Nat.reduceLeDiff, Nat.reduceSub, Int.reduceEq] <;> rfl, by simp -dsimp -implicitDefEqProofs only [go_sem, Nat.reduceBEq, Nat.reduceAdd, Nat.reduceLeDiff, Nat.reduceSub, Int.reduceEq], by simp -dsimp -implicitDefEqProofs only [go_sem, Nat.reduceBEq, Nat.reduceAdd, Nat.reduceLeDiff, Nat.reduceSub, Int.reduceEq] <;> rfl, by simp -dsimp -implicitDefEqProofs only [go_sem, Nat.reduceBEq, Nat.reduceAdd, Nat.reduceLeDiff, Nat.reduceSub, Int.reduceEq] <;> rfl, by simp -dsimp -implicitDefEqProofs only [go_sem, Nat.reduceBEq, Nat.reduceAdd, Nat.reduceLeDiff, Nat.reduceSub, Int.reduceEq] <;> rfl⟩
      rintro i ⟨e, σ⟩ hi ⟨h2, h3, h4, h5, h6, h7, s2, s9, s5, s90⟩ K hK
      simp only at h2 h3 h4 h5 h6 h7 s2 s9 s5 s90
      simp -dsimp -implicitDefEqProofs only [go_sem, Nat.reduceBEq, Nat.reduceAdd, Nat.reduceLeDiff, Nat.reduceSub, Int.reduceEq, h2, h3, h4, h5, h6, h7, s2, s9, s5, s90]
      refine ifB'.of (fun hlt => ?_) (fun hlt => ?_)
      · have hlt : i < n := by omega
        have hql9 := hql i
        have hjl9 := hjl i
        repeat' (first | with_reducible refine And.intro ?_ ?_ | with_reducible refine ask.of (by first | omega | decide | (simp only [ra_length, List.length_cons, List.length_nil]; omega)) ?_ | (refine CallE.mutLend (c_l1drawBytes c (jP c q4 i) 20 (hql i) hc (by decide) (by decide)) (by simp -dsimp -implicitDefEqProofs only [go_sem, Nat.reduceBEq, Nat.reduceAdd, Nat.reduceLeDiff, Nat.reduceSub, Int.reduceEq, h2, h3, h4, h5, h6, h7, s2, s9, s5, s90]) (by simp -dsimp -implicitDefEqProofs only [go_sem, Nat.reduceBEq, Nat.reduceAdd, Nat.reduceLeDiff, Nat.reduceSub, Int.reduceEq, h2, h3, h4, h5, h6, h7, s2, s9, s5, s90, rdAt, show ((20 : Nat) : Int) = 20 from rfl]) (by simp -dsimp -implicitDefEqProofs only [go_sem, Nat.reduceBEq, Nat.reduceAdd, Nat.reduceLeDiff, Nat.reduceSub, Int.reduceEq, h2, h3, h4, h5, h6, h7, s2, s9, s5, s90, rdAt, show ((20 : Nat) : Int) = 20 from rfl]) ?_; rintro r rs ⟨rfl, rfl⟩) | simp -dsimp -implicitDefEqProofs only [go_sem, Nat.reduceBEq, Nat.reduceAdd, Nat.reduceLeDiff, Nat.reduceSub, Int.reduceEq, h2, h3, h4, h5, h6, h7, s2, s9, s5, s90, blA, rdAt, hjl9])
        all_goals
          refine hK _ _ hlt (Wk.refl _) ?_
          simp -dsimp -implicitDefEqProofs only [go_sem, Nat.reduceBEq, Nat.reduceAdd, Nat.reduceLeDiff, Nat.reduceSub, Int.reduceEq, h2, h3, h4, h5, h6, h7, s2, s9, s5, s90, wrap_succ (show i < 4611686018427387904 by omega), jP, jL_snoc]
      · have hin : i = n := by omega
        subst hin
        clear hK
        have hjl9 := hjl i
        repeat' (first | with_reducible refine ask.of (by first | omega | decide) ?_ | ((with_reducible refine ifB'.of (fun h => ?_) (fun h => ?_)) <;> first | (exfalso; omega) | skip) | simp -dsimp -implicitDefEqProofs only [go_sem, Nat.reduceBEq, Nat.reduceAdd, Nat.reduceLeDiff, Nat.reduceSub, Int.reduceEq, h2, h3, h4, h5, h6, h7, s2, s9, s5, s90, blA, cty_rd])
        exact rfl
    · show (jL c q4 n).length + wBB (jL c q4 n) ≤ 20200
      have := hjl n
      have := hjw n
      rw [hjl n] at this
      omega
end Go.Ev
set_option linter.unusedSimpArgs false
set_option linter.unusedVariables false
namespace Go.Ev
open Go Go.RowKit Go.Proofs
set_option maxRecDepth 8000 in
set_option maxHeartbeats 2000000 in
theorem x_DrawDecodeMessage (code : List UInt8) (hb : code.length ≤ 1048576) : ∃ v : List UInt8, Meets Try.prog 23 [rowB code] (fun r => r = rowB v) ∧ v.length ≤ 20001 := by
  have hc := cd_len code
  have hO := c_l1open code hb
  have hq0 := nxP_le (cd code) (Nat.zero_le _)
  have hk := nxV_lt (cd code) 0
  have hN := c_next (cd code) 0 (by omega)
  have e2 := tmodL (nxV (cd code) 0) 2
  simp only [show ((2 : Nat) : Int) = 2 from rfl] at e2
  generalize cd code = c at *
  generalize nxP c 0 = q1 at *
  generalize nxV c 0 = k at *
  obtain ⟨x, hX, hxl⟩ := x_DrawEncodeMessage (c.drop q1) (by simp; omega)
  have hE := c_specEncodeMessage x (by omega)
  have hel : (encM x).length ≤ 20000 := by
    unfold encM
    split
    · rename_i h; exact h.2.2
    · exact Nat.zero_le _
  have d2 := tdivL 2 (n := c.length) (by omega)
  simp only [show ((2 : Nat) : Int) = 2 from rfl] at d2
  obtain ⟨v, q9, hS, hvl, _⟩ := x_l4spoil (encM x) c (c.length / 2) (by omega) hc (by omega)
  by_cases h2 : k % 2 = 0
  · refine ⟨v, ?_, by omega⟩
    refine Meets.introO mixed (hint []) (fun k => (sel (k == 3) [0,1,2,3,4,5,6,7,8,9,10,11] (sel (k == 5) [998,0,1,2,3,4,5,6,7,8,9,10,11,12,2013,14] []))) Try.func23 rfl (by decide) res_23 rty_23 (by kernel_rfl) ?_; 
    simp -dsimp -implicitDefEqProofs only [go_sem, Nat.reduceBEq, Nat.reduceAdd, Nat.reduceLeDiff, Nat.reduceSub, Int.reduceEq, initE]
    refine CallE.lend (hO) (by simp -dsimp -implicitDefEqProofs only [go_sem, Nat.reduceBEq, Nat.reduceAdd, Nat.reduceLeDiff, Nat.reduceSub, Int.reduceEq, rdAt]) ?_
    rintro r rfl
    simp -dsimp -implicitDefEqProofs only [go_sem, Nat.reduceBEq, Nat.reduceAdd, Nat.reduceLeDiff, Nat.reduceSub, Int.reduceEq, rdAt]
    refine CallE.mutLend (hN) (by simp -dsimp -implicitDefEqProofs only [go_sem, Nat.reduceBEq, Nat.reduceAdd, Nat.reduceLeDiff, Nat.reduceSub, Int.reduceEq]) (by simp -dsimp -implicitDefEqProofs only [go_sem, Nat.reduceBEq, Nat.reduceAdd, Nat.reduceLeDiff, Nat.reduceSub, Int.reduceEq, rdAt]) (by simp -dsimp -implicitDefEqProofs only [go_sem, Nat.reduceBEq, Nat.reduceAdd, Nat.reduceLeDiff, Nat.reduceSub, Int.reduceEq, rdAt]) ?_
    rintro r rs ⟨rfl, rfl⟩
    simp -dsimp -implicitDefEqProofs only [go_sem, Nat.reduceBEq, Nat.reduceAdd, Nat.reduceLeDiff, Nat.reduceSub, Int.reduceEq, rdAt]
    repeat' (first | with_reducible refine ask.of (by first | omega | decide) ?_ | ((with_reducible refine ifB'.of (fun h => ?_) (fun h => ?_)) <;> first | (exfalso; omega) | skip) | simp -dsimp -implicitDefEqProofs only [go_sem, Nat.reduceBEq, Nat.reduceAdd, Nat.reduceLeDiff, Nat.reduceSub, Int.reduceEq, e2, blA, d2])
    refine CallE.of (hX) (by rintro r rfl; (repeat' first | exact trivial | exact pure_rowB _ | exact pure_rowO _ | exact pure_rowI _ | exact pure_rowBB _ | exact pure_rowPk _ _ | exact pure_rowSn _ _ | exact pure_rowFd _ _ | exact pure_rowBBB _ | exact pure_rowCl _ _ | exact pure_rowTb _ _ _ | refine And.intro ?_ ?_)) (by simp -dsimp -implicitDefEqProofs only [go_sem, Nat.reduceBEq, Nat.reduceAdd, Nat.reduceLeDiff, Nat.reduceSub, Int.reduceEq, msC, List.take_length]) ?_
    rintro r rfl
    simp -dsimp -implicitDefEqProofs only [go_sem, Nat.reduceBEq, Nat.reduceAdd, Nat.reduceLeDiff, Nat.reduceSub, Int.reduceEq, msC, List.take_length]
    refine CallE.of (hE) (by rintro r rfl; (repeat' first | exact trivial | exact pure_rowB _ | exact pure_rowO _ | exact pure_rowI _ | exact pure_rowBB _ | exact pure_rowPk _ _ | exact pure_rowSn _ _ | exact pure_rowFd _ _ | exact pure_rowBBB _ | exact pure_rowCl _ _ | exact pure_rowTb _ _ _ | refine And.intro ?_ ?_)) (by simp -dsimp -implicitDefEqProofs only [go_sem, Nat.reduceBEq, Nat.reduceAdd, Nat.reduceLeDiff, Nat.reduceSub, Int.reduceEq, msC]) ?_
    rintro r rfl
    simp -dsimp -implicitDefEqProofs only [go_sem, Nat.reduceBEq, Nat.reduceAdd, Nat.reduceLeDiff, Nat.reduceSub, Int.reduceEq, msC]
    repeat' (first | with_reducible refine ask.of (by first | omega | decide) ?_ | ((with_reducible refine ifB'.of (fun h => ?_) (fun h => ?_)) <;> first | (exfalso; omega) | skip) | simp -dsimp -implicitDefEqProofs only [go_sem, Nat.reduceBEq, Nat.reduceAdd, Nat.reduceLeDiff, Nat.reduceSub, Int.reduceEq, e2, blA, d2])
    refine CallE.mutLend (hS) (by simp -dsimp -implicitDefEqProofs only [go_sem, Nat.reduceBEq, Nat.reduceAdd, Nat.reduceLeDiff, Nat.reduceSub, Int.reduceEq]) (by simp -dsimp -implicitDefEqProofs only [go_sem, Nat.reduceBEq, Nat.reduceAdd, Nat.reduceLeDiff, Nat.reduceSub, Int.reduceEq, rdAt]) (by simp -dsimp -implicitDefEqProofs only [go_sem, Nat.reduceBEq, Nat.reduceAdd, Nat.reduceLeDiff, Nat.reduceSub, Int.reduceEq, rdAt]) ?_
    rintro r rs ⟨rfl, rfl⟩
    simp -dsimp -implicitDefEqProofs only [go_sem, Nat.reduceBEq, Nat.reduceAdd, Nat.reduceLeDiff, Nat.reduceSub, Int.reduceEq, rdAt]
  · refine ⟨encM x, ?_, by omega⟩
    refine Meets.introO mixed (hint []) (fun k => (sel (k == 3) [0,1,2,3,4,5,6,7,8,9,10,11] (sel (k == 5) [998,0,1,2,3,4,5,6,7,8,9,10,11,12,2013,14] []))) Try.func23 rfl (by decide) res_23 rty_23 (by kernel_rfl) ?_; 
    simp -dsimp -implicitDefEqProofs only [go_sem, Nat.reduceBEq, Nat.reduceAdd, Nat.reduceLeDiff, Nat.reduceSub, Int.reduceEq, initE]
    refine CallE.lend (hO) (by simp -dsimp -implicitDefEqProofs only [go_sem, Nat.reduceBEq, Nat.reduceAdd, Nat.reduceLeDiff, Nat.reduceSub, Int.reduceEq, rdAt]) ?_
    rintro r rfl
    simp -dsimp -implicitDefEqProofs only [go_sem, Nat.reduceBEq, Nat.reduceAdd, Nat.reduceLeDiff, Nat.reduceSub, Int.reduceEq, rdAt]
    refine CallE.mutLend (hN) (by simp -dsimp -implicitDefEqProofs only [go_sem, Nat.reduceBEq, Nat.reduceAdd, Nat.reduceLeDiff, Nat.reduceSub, Int.reduceEq]) (by simp -dsimp -implicitDefEqProofs only [go_sem, Nat.reduceBEq, Nat.reduceAdd, Nat.reduceLeDiff, Nat.reduceSub, Int.reduceEq, rdAt]) (by simp -dsimp -implicitDefEqProofs only [go_sem, Nat.reduceBEq, Nat.reduceAdd, Nat.reduceLeDiff, Nat.reduceSub, Int.reduceEq, rdAt]) ?_
    rintro r rs ⟨rfl, rfl⟩
    simp -dsimp -implicitDefEqProofs only [go_sem, Nat.reduceBEq, Nat.reduceAdd, Nat.reduceLeDiff, Nat.reduceSub, Int.reduceEq, rdAt]
    repeat' (first | with_reducible refine ask.of (by first | omega | decide) ?_ | ((with_reducible refine ifB'.of (fun h => ?_) (fun h => ?_)) <;> first | (exfalso; omega) | skip) | simp -dsimp -implicitDefEqProofs only [go_sem, Nat.reduceBEq, Nat.reduceAdd, Nat.reduceLeDiff, Nat.reduceSub, Int.reduceEq, e2, blA, d2])
    refine CallE.of (hX) (by rintro r rfl; (repeat' first | exact trivial | exact pure_rowB _ | exact pure_rowO _ | exact pure_rowI _ | exact pure_rowBB _ | exact pure_rowPk _ _ | exact pure_rowSn _ _ | exact pure_rowFd _ _ | exact pure_rowBBB _ | exact pure_rowCl _ _ | exact pure_rowTb _ _ _ | refine And.intro ?_ ?_)) (by simp -dsimp -implicitDefEqProofs only [go_sem, Nat.reduceBEq, Nat.reduceAdd, Nat.reduceLeDiff, Nat.reduceSub, Int.reduceEq, msC, List.take_length]) ?_
    rintro r rfl
    simp -dsimp -implicitDefEqProofs only [go_sem, Nat.reduceBEq, Nat.reduceAdd, Nat.reduceLeDiff, Nat.reduceSub, Int.reduceEq, msC, List.take_length]
    refine CallE.of (hE) (by rintro r rfl; (repeat' first | exact trivial | exact pure_rowB _ | exact pure_rowO _ | exact pure_rowI _ | exact pure_rowBB _ | exact pure_rowPk _ _ | exact pure_rowSn _ _ | exact pure_rowFd _ _ | exact pure_rowBBB _ | exact pure_rowCl _ _ | exact pure_rowTb _ _ _ | refine And.intro ?_ ?_)) (by simp -dsimp -implicitDefEqProofs only [go_sem, Nat.reduceBEq, Nat.reduceAdd, Nat.reduceLeDiff, Nat.reduceSub, Int.reduceEq, msC]) ?_
    rintro r rfl
    simp -dsimp -implicitDefEqProofs only [go_sem, Nat.reduceBEq, Nat.reduceAdd, Nat.reduceLeDiff, Nat.reduceSub, Int.reduceEq, msC]
    repeat' (first | with_reducible refine ask.of (by first | omega | decide) ?_ | ((with_reducible refine ifB'.of (fun h => ?_) (fun h => ?_)) <;> first | (exfalso; omega) | skip) | simp -dsimp -implicitDefEqProofs only [go_sem, Nat.reduceBEq, Nat.reduceAdd, Nat.reduceLeDiff, Nat.reduceSub, Int.reduceEq, e2, blA, d2])
end Go.Ev
set_option linter.unusedSimpArgs false
set_option linter.unusedVariables false
namespace Go.Ev
open Go Go.RowKit Go.Proofs
set_option maxHeartbeats 2000000 in
set_option maxRecDepth 8000 in
theorem c_implDecodeMessage (b : List UInt8) (hb : b.length ≤ 1048576) : Meets Try.prog 20 [rowB b] (fun r => r = decResM b) := by
  refine Meets.introO mixed (hint []) (fun k => (sel (k == 3) [999,0,1,2,3,4,5,6,7,8,9,1012,10,11,12,13] (sel (k == 14) [0,1,2,3,4,5,6,7,8,9,10,11,12] []))) Try.func20 rfl (by decide) res_20 rty_20 (by kernel_rfl) ?_; 
  simp -dsimp -implicitDefEqProofs only [go_sem, Nat.reduceBEq, Nat.reduceAdd, Nat.reduceLeDiff, Nat.reduceSub, Int.reduceEq]
  repeat (first | with_reducible refine ask.of (by omega) ?_ | simp -dsimp -implicitDefEqProofs only [go_sem, Nat.reduceBEq, Nat.reduceAdd, Nat.reduceLeDiff, Nat.reduceSub, Int.reduceEq])
  refine ifB'.of (fun h => ?_) (fun h12 => ?_)
  · simp -dsimp -implicitDefEqProofs only [go_sem, Nat.reduceBEq, Nat.reduceAdd, Nat.reduceLeDiff, Nat.reduceSub, Int.reduceEq]
    repeat (first | with_reducible refine ask.of (by omega) ?_ | simp -dsimp -implicitDefEqProofs only [go_sem, Nat.reduceBEq, Nat.reduceAdd, Nat.reduceLeDiff, Nat.reduceSub, Int.reduceEq, bleM])
    exact resM_no (fun h' => by have := h'.1; omega)
  simp -dsimp -implicitDefEqProofs only [go_sem, Nat.reduceBEq, Nat.reduceAdd, Nat.reduceLeDiff, Nat.reduceSub, Int.reduceEq]
  refine ifB'.of (fun h => ?_) (fun hL => ?_)
  · simp -dsimp -implicitDefEqProofs only [go_sem, Nat.reduceBEq, Nat.reduceAdd, Nat.reduceLeDiff, Nat.reduceSub, Int.reduceEq]
    repeat (first | with_reducible refine ask.of (by omega) ?_ | simp -dsimp -implicitDefEqProofs only [go_sem, Nat.reduceBEq, Nat.reduceAdd, Nat.reduceLeDiff, Nat.reduceSub, Int.reduceEq, bleM])
    exact resM_no (fun h' => by have := h'.2.1; omega)
  have n2 : 2 < b.length := by omega
  have n3 : 3 < b.length := by omega
  have n6 : 6 < b.length := by omega
  have hn : b[6].toNat = nOf b := by rw [at_getD n6]; rfl
  have hn8 : nOf b < 256 := by rw [← hn]; exact b[6].toNat_lt
  have c46 : List.drop (Int.toNat 4) (List.take 6 b) = cutB b 4 6 := rfl
  have l46 : (cutB b 4 6).length = 2 := cutB_length (by omega)
  simp -dsimp -implicitDefEqProofs only [go_sem, Nat.reduceBEq, Nat.reduceAdd, Nat.reduceLeDiff, Nat.reduceSub, Int.reduceEq, bytesA_at n2, bytesA_at n3, bytesA_at n6, show Int.toNat 2 = 2 from rfl, show Int.toNat 3 = 3 from rfl, show Int.toNat 6 = 6 from rfl]
  repeat (first | with_reducible refine ask.of (by omega) ?_ | simp -dsimp -implicitDefEqProofs only [go_sem, Nat.reduceBEq, Nat.reduceAdd, Nat.reduceLeDiff, Nat.reduceSub, Int.reduceEq, bytesA_at n2, bytesA_at n3, bytesA_at n6, show Int.toNat 2 = 2 from rfl, show Int.toNat 3 = 3 from rfl, show Int.toNat 6 = 6 from rfl, i64_u8])
  refine CallE.of (c_low (cutB b 4 6) (by omega)) (by rintro r rfl; (repeat' first | exact trivial | exact pure_rowB _ | exact pure_rowO _ | exact pure_rowI _ | exact pure_rowBB _ | exact pure_rowPk _ _ | exact pure_rowSn _ _ | exact pure_rowFd _ _ | exact pure_rowBBB _ | exact pure_rowCl _ _ | exact pure_rowTb _ _ _ | refine And.intro ?_ ?_)) (by simp -dsimp -implicitDefEqProofs only [go_sem, Nat.reduceBEq, Nat.reduceAdd, Nat.reduceLeDiff, Nat.reduceSub, Int.reduceEq, c46]) ?_
  rintro r rfl
  simp -dsimp -implicitDefEqProofs only [go_sem, Nat.reduceBEq, Nat.reduceAdd, Nat.reduceLeDiff, Nat.reduceSub, Int.reduceEq, c46]
  have e0 : IntKind.i64.wrap (nOf b : Int) = nOf b := wrap_nat (by omega)
  have e1 : IntKind.i64.wrap (4 * (nOf b : Int)) = ((4 * nOf b : Nat) : Int) := by rw [wrap_i64_of (by omega) (by omega)]; omega
  repeat (first | with_reducible refine ask.of (by omega) ?_ | simp -dsimp -implicitDefEqProofs only [go_sem, Nat.reduceBEq, Nat.reduceAdd, Nat.reduceLeDiff, Nat.reduceSub, Int.reduceEq, bleM, ble4_1, ble4_2, ble4_3, bytesA_at n6, show Int.toNat 6 = 6 from rfl, i64_u8, hn, e0, e1])
  refine CallE.of (c_aligned (4 * nOf b) (by omega)) (by rintro r rfl; (repeat' first | exact trivial | exact pure_rowB _ | exact pure_rowO _ | exact pure_rowI _ | exact pure_rowBB _ | exact pure_rowPk _ _ | exact pure_rowSn _ _ | exact pure_rowFd _ _ | exact pure_rowBBB _ | exact pure_rowCl _ _ | exact pure_rowTb _ _ _ | refine And.intro ?_ ?_)) (by simp -dsimp -implicitDefEqProofs only [go_sem, Nat.reduceBEq, Nat.reduceAdd, Nat.reduceLeDiff, Nat.reduceSub, Int.reduceEq]) ?_
  rintro r rfl
  simp -dsimp -implicitDefEqProofs only [go_sem, Nat.reduceBEq, Nat.reduceAdd, Nat.reduceLeDiff, Nat.reduceSub, Int.reduceEq]
  have h0 := ev_le (4 * nOf b)
  have e2 : IntKind.i64.wrap (8 + (ev (4 * nOf b) : Int)) = (atP b (nOf b) 0 : Nat) := by rw [wrap_i64_of (by omega) (by omega), atP]; omega
  simp -dsimp -implicitDefEqProofs only [go_sem, Nat.reduceBEq, Nat.reduceAdd, Nat.reduceLeDiff, Nat.reduceSub, Int.reduceEq, e2]
  repeat (first | with_reducible refine ask.of (by omega) ?_ | simp -dsimp -implicitDefEqProofs only [go_sem, Nat.reduceBEq, Nat.reduceAdd, Nat.reduceLeDiff, Nat.reduceSub, Int.reduceEq, bleM, e2])
  refine ifB'.of (fun hZ => ?_) (fun hZ => ?_)
  · simp -dsimp -implicitDefEqProofs only [go_sem, Nat.reduceBEq, Nat.reduceAdd, Nat.reduceLeDiff, Nat.reduceSub, Int.reduceEq]
    repeat (first | with_reducible refine ask.of (by omega) ?_ | simp -dsimp -implicitDefEqProofs only [go_sem, Nat.reduceBEq, Nat.reduceAdd, Nat.reduceLeDiff, Nat.reduceSub, Int.reduceEq, bleM])
    refine resM_no (fun h' => ?_)
    have e0 : atP b (nOf b) 0 = 8 + ev (4 * nOf b) := rfl
    by_cases h0 : 0 < nOf b
    · have := (h'.2.2.1 0 h0).2.1; omega
    · have h0 : nOf b = 0 := by omega
      rw [h0] at e0 hZ
      have e1 : ev (4 * 0) = 0 := rfl
      omega
  simp -dsimp -implicitDefEqProofs only [go_sem, Nat.reduceBEq, Nat.reduceAdd, Nat.reduceLeDiff, Nat.reduceSub, Int.reduceEq]
  have eP : atP b (nOf b) 0 = 8 + ev (4 * nOf b) := rfl
  have eC : atC b (nOf b) 0 = atP b (nOf b) 0 := Nat.min_eq_left (by omega)
  refine LoopE.cntW (nOf b) (fun i s => (∀ j, j < i → atC b (nOf b) j + szAt b j ≤ b.length) ∧ s.env 0 = .rd .ent 5 1 (bytesA b) ∧ s.env 44 = .v (.int .i64 (nOf b : Nat)) ∧ s.env 6 = .v (.int .i64 (atC b (nOf b) i : Nat)) ∧ s.env 45 = .v (.int .i64 i) ∧ s.env 4 = .ptr [4] 0 0 0 ∧ s.env 2 = .ptr [2] 0 0 0
    ∧ s.σ [4] = some (.box 43 [.v (.int .i64 (b[2].toNat : Int)), .v (.int .i64 (b[3].toNat : Int)), .v (.int .i64 (IntKind.i64.wrap (leN (cutB b 4 6)))), .ref [50]]) ∧ s.σ [50] = some (.row 22 1 (ra byC (bufsC b (nOf b) i)))
    ∧ s.σ [2] = some (.box 43 [.v (.int .i64 0), .v (.int .i64 0), .v (.int .i64 0), .v (.slice none 0 0)]))
    (Wk.box [4] 3 [50] 22 1 43 [.v (.int .i64 (b[2].toNat : Int)), .v (.int .i64 (b[3].toNat : Int)), .v (.int .i64 (IntKind.i64.wrap (leN (cutB b 4 6)))), .v (.slice none 0 0)] ?_ rfl rfl (Wk.refl _)) ?_ ?_
  · simp -dsimp -implicitDefEqProofs only [go_sem, Nat.reduceBEq, Nat.reduceAdd, Nat.reduceLeDiff, Nat.reduceSub, Int.reduceEq]
  · refine ⟨fun j hj => absurd hj (Nat.not_lt_zero _), by simp -dsimp -implicitDefEqProofs only [go_sem, Nat.reduceBEq, Nat.reduceAdd, Nat.reduceLeDiff, Nat.reduceSub, Int.reduceEq, initE], by simp -dsimp -implicitDefEqProofs only [go_sem, Nat.reduceBEq, Nat.reduceAdd, Nat.reduceLeDiff, Nat.reduceSub, Int.reduceEq], by simp -dsimp -implicitDefEqProofs only [go_sem, Nat.reduceBEq, Nat.reduceAdd, Nat.reduceLeDiff, Nat.reduceSub, Int.reduceEq, e2, eC], by simp -dsimp -implicitDefEqProofs only [go_sem, Nat.reduceBEq, Nat.reduceAdd, Nat.reduceLeDiff, Nat.reduceSub, Int.reduceEq], by simp -dsimp -implicitDefEqProofs only [go_sem, Nat.reduceBEq, Nat.reduceAdd, Nat.reduceLeDiff, Nat.reduceSub, Int.reduceEq], by simp -dsimp -implicitDefEqProofs only [go_sem, Nat.reduceBEq, Nat.reduceAdd, Nat.reduceLeDiff, Nat.reduceSub, Int.reduceEq], by simp -dsimp -implicitDefEqProofs only [go_sem, Nat.reduceBEq, Nat.reduceAdd, Nat.reduceLeDiff, Nat.reduceSub, Int.reduceEq] <;> rfl, by simp -dsimp -implicitDefEqProofs only [go_sem, Nat.reduceBEq, Nat.reduceAdd, Nat.reduceLeDiff, Nat.reduceSub, Int.reduceEq] <;> rfl, by simp -dsimp -implicitDefEqProofs only [go_sem, Nat.reduceBEq, Nat.reduceAdd, Nat.reduceLeDiff, Nat.reduceSub, Int.reduceEq]⟩
  rintro i ⟨e, σ⟩ hi ⟨hg, h00, h44, h6, h45, h4, h2, hs4, hs50, hs2⟩ K hK
  simp only at h00 h44 h6 h45 h4 h2 hs4 hs50 hs2
  simp -dsimp -implicitDefEqProofs only [go_sem, Nat.reduceBEq, Nat.reduceAdd, Nat.reduceLeDiff, Nat.reduceSub, Int.reduceEq, h00, h44, h6, h45, h4, h2, hs4, hs50, hs2]
  repeat (first | with_reducible refine ask.of (by first | omega | decide) ?_ | simp -dsimp -implicitDefEqProofs only [go_sem, Nat.reduceBEq, Nat.reduceAdd, Nat.reduceLeDiff, Nat.reduceSub, Int.reduceEq, h00, h44, h6, h45, h4, h2, hs4, hs50, hs2, bleM])
  refine ifB'.of (fun hlt => ?_) (fun hlt => ?_)
  · have hlt : i < nOf b := by omega
    have e3 : IntKind.i64.wrap (4 * (i : Int)) = ((4 * i : Nat) : Int) := by rw [wrap_i64_of (by omega) (by omega)]; omega
    have e4 : IntKind.i64.wrap (12 + ((4 * i : Nat) : Int)) = ((12 + 4 * i : Nat) : Int) := by rw [wrap_i64_of (by omega) (by omega)]; omega
    have e5 : IntKind.i64.wrap (8 + ((4 * i : Nat) : Int)) = ((8 + 4 * i : Nat) : Int) := by rw [wrap_i64_of (by omega) (by omega)]; omega
    simp -dsimp -implicitDefEqProofs only [go_sem, Nat.reduceBEq, Nat.reduceAdd, Nat.reduceLeDiff, Nat.reduceSub, Int.reduceEq, h00, h44, h6, h45, h4, h2, hs4, hs50, hs2, e3, e4, e5]
    repeat (first | with_reducible refine ask.of (by first | omega | decide) ?_ | simp -dsimp -implicitDefEqProofs only [go_sem, Nat.reduceBEq, Nat.reduceAdd, Nat.reduceLeDiff, Nat.reduceSub, Int.reduceEq, h00, h44, h6, h45, h4, h2, hs4, hs50, hs2, bleM, e3, e4, e5])
    have l4 : (cutB b (8 + 4 * i) (12 + 4 * i)).length = 4 := by rw [cutB_length (by omega)]; omega
    have hz := szAt_lt b i
    have e6 : IntKind.i64.wrap (leN (cutB b (8 + 4 * i) (12 + 4 * i)) : Nat) = (szAt b i : Nat) := by rw [← szAt]; exact wrap_nat (by omega)
    refine CallE.of (c_low (cutB b (8 + 4 * i) (12 + 4 * i)) (by omega)) (by rintro r rfl; (repeat' first | exact trivial | exact pure_rowB _ | exact pure_rowO _ | exact pure_rowI _ | exact pure_rowBB _ | exact pure_rowPk _ _ | exact pure_rowSn _ _ | exact pure_rowFd _ _ | exact pure_rowBBB _ | exact pure_rowCl _ _ | exact pure_rowTb _ _ _ | refine And.intro ?_ ?_)) (by simp -dsimp -implicitDefEqProofs only [go_sem, Nat.reduceBEq, Nat.reduceAdd, Nat.reduceLeDiff, Nat.reduceSub, Int.reduceEq, h00, h44, h6, h45, h4, h2, hs4, hs50, hs2, cut_eq]) ?_
    rintro r rfl
    simp -dsimp -implicitDefEqProofs only [go_sem, Nat.reduceBEq, Nat.reduceAdd, Nat.reduceLeDiff, Nat.reduceSub, Int.reduceEq, h00, h44, h6, h45, h4, h2, hs4, hs50, hs2, cut_eq]
    have hC : atC b (nOf b) i = min (atP b (nOf b) i) b.length := rfl
    have hC1 : atC b (nOf b) (i + 1) = min (atP b (nOf b) i + ev (szAt b i)) b.length := rfl
    simp -dsimp -implicitDefEqProofs only [go_sem, Nat.reduceBEq, Nat.reduceAdd, Nat.reduceLeDiff, Nat.reduceSub, Int.reduceEq, h00, h44, h6, h45, h4, h2, hs4, hs50, hs2, e6]
    repeat (first | with_reducible refine ask.of (by omega) ?_ | simp -dsimp -implicitDefEqProofs only [go_sem, Nat.reduceBEq, Nat.reduceAdd, Nat.reduceLeDiff, Nat.reduceSub, Int.reduceEq, h00, h44, h6, h45, h4, h2, hs4, hs50, hs2, bleM, e6])
    refine ifB'.of (fun hA => by omega) (fun hA => ?_)
    have e7 : IntKind.i64.wrap ((b.length : Int) - (atC b (nOf b) i : Nat)) = ((b.length - atC b (nOf b) i : Nat) : Int) := by rw [wrap_i64_of (by omega) (by omega)]; omega
    simp -dsimp -implicitDefEqProofs only [go_sem, Nat.reduceBEq, Nat.reduceAdd, Nat.reduceLeDiff, Nat.reduceSub, Int.reduceEq, h00, h44, h6, h45, h4, h2, hs4, hs50, hs2, e6, e7]
    repeat (first | with_reducible refine ask.of (by omega) ?_ | simp -dsimp -implicitDefEqProofs only [go_sem, Nat.reduceBEq, Nat.reduceAdd, Nat.reduceLeDiff, Nat.reduceSub, Int.reduceEq, h00, h44, h6, h45, h4, h2, hs4, hs50, hs2, bleM, e6, e7])
    refine ifB'.of (fun hB => ?_) (fun hB => ?_)
    · simp -dsimp -implicitDefEqProofs only [go_sem, Nat.reduceBEq, Nat.reduceAdd, Nat.reduceLeDiff, Nat.reduceSub, Int.reduceEq, h00, h44, h6, h45, h4, h2, hs4, hs50, hs2]
      repeat (first | with_reducible refine ask.of (by omega) ?_ | simp -dsimp -implicitDefEqProofs only [go_sem, Nat.reduceBEq, Nat.reduceAdd, Nat.reduceLeDiff, Nat.reduceSub, Int.reduceEq, h00, h44, h6, h45, h4, h2, hs4, hs50, hs2, bleM])
      exact resM_no (fun h' => by have hq := h'.2.2.1 i hlt; have q1 := hq.2.1; have q2 := hq.2.2; unfold atC at hB; omega)
    have e8 : IntKind.i64.wrap ((atC b (nOf b) i : Int) + (szAt b i : Nat)) = ((atC b (nOf b) i + szAt b i : Nat) : Int) := by rw [wrap_i64_of (by omega) (by omega)]; omega
    simp -dsimp -implicitDefEqProofs only [go_sem, Nat.reduceBEq, Nat.reduceAdd, Nat.reduceLeDiff, Nat.reduceSub, Int.reduceEq, h00, h44, h6, h45, h4, h2, hs4, hs50, hs2, e6, e8]
    repeat (first | with_reducible refine ask.of (by first | omega | decide) ?_ | simp -dsimp -implicitDefEqProofs only [go_sem, Nat.reduceBEq, Nat.reduceAdd, Nat.reduceLeDiff, Nat.reduceSub, Int.reduceEq, h00, h44, h6, h45, h4, h2, hs4, hs50, hs2, bleM, e6, e8, cut_eq])
    refine CallE.of (c_bytesClone (cutB b (atC b (nOf b) i) (atC b (nOf b) i + szAt b i)) (by rw [cutB_length (by omega)]; omega)) (by rintro r rfl; (repeat' first | exact trivial | exact pure_rowB _ | exact pure_rowO _ | exact pure_rowI _ | exact pure_rowBB _ | exact pure_rowPk _ _ | exact pure_rowSn _ _ | exact pure_rowFd _ _ | exact pure_rowBBB _ | exact pure_rowCl _ _ | exact pure_rowTb _ _ _ | refine And.intro ?_ ?_)) (by simp -dsimp -implicitDefEqProofs only [go_sem, Nat.reduceBEq, Nat.reduceAdd, Nat.reduceLeDiff, Nat.reduceSub, Int.reduceEq, h00, h44, h6, h45, h4, h2, hs4, hs50, hs2]) ?_
    rintro r rfl
    simp -dsimp -implicitDefEqProofs only [go_sem, Nat.reduceBEq, Nat.reduceAdd, Nat.reduceLeDiff, Nat.reduceSub, Int.reduceEq, h00, h44, h6, h45, h4, h2, hs4, hs50, hs2]
    repeat (first | with_reducible refine ask.of (by first | omega | decide | (simp only [ra_length, bufsC_length, List.length_cons, List.length_nil]; omega)) ?_ | simp -dsimp -implicitDefEqProofs only [go_sem, Nat.reduceBEq, Nat.reduceAdd, Nat.reduceLeDiff, Nat.reduceSub, Int.reduceEq, h00, h44, h6, h45, h4, h2, hs4, hs50, hs2, bleM, byC_snoc])
    refine CallE.of (c_aligned (szAt b i) (by omega)) (by rintro r rfl; (repeat' first | exact trivial | exact pure_rowB _ | exact pure_rowO _ | exact pure_rowI _ | exact pure_rowBB _ | exact pure_rowPk _ _ | exact pure_rowSn _ _ | exact pure_rowFd _ _ | exact pure_rowBBB _ | exact pure_rowCl _ _ | exact pure_rowTb _ _ _ | refine And.intro ?_ ?_)) (by simp -dsimp -implicitDefEqProofs only [go_sem, Nat.reduceBEq, Nat.reduceAdd, Nat.reduceLeDiff, Nat.reduceSub, Int.reduceEq, h00, h44, h6, h45, h4, h2, hs4, hs50, hs2]) ?_
    rintro r rfl
    simp -dsimp -implicitDefEqProofs only [go_sem, Nat.reduceBEq, Nat.reduceAdd, Nat.reduceLeDiff, Nat.reduceSub, Int.reduceEq, h00, h44, h6, h45, h4, h2, hs4, hs50, hs2]
    have h9 := ev_le (szAt b i)
    have e9 : IntKind.i64.wrap ((atC b (nOf b) i : Int) + (ev (szAt b i) : Nat)) = (atC b (nOf b) i + ev (szAt b i) : Nat) := by rw [wrap_i64_of (by omega) (by omega)]; omega
    simp -dsimp -implicitDefEqProofs only [go_sem, Nat.reduceBEq, Nat.reduceAdd, Nat.reduceLeDiff, Nat.reduceSub, Int.reduceEq, h00, h44, h6, h45, h4, h2, hs4, hs50, hs2, e9]
    by_cases hm : b.length < atC b (nOf b) i + ev (szAt b i)
    · have e10 : decide ((b.length : Int) < (atC b (nOf b) i + ev (szAt b i) : Nat)) = true := decide_eq_true (by omega)
      have e11 : b.length = atC b (nOf b) (i + 1) := by omega
      simp -dsimp -implicitDefEqProofs only [go_sem, Nat.reduceBEq, Nat.reduceAdd, Nat.reduceLeDiff, Nat.reduceSub, Int.reduceEq, h00, h44, h6, h45, h4, h2, hs4, hs50, hs2, e10]
      refine hK _ _ hlt (Wk.refl _) ?_
      simp -dsimp -implicitDefEqProofs only [go_sem, Nat.reduceBEq, Nat.reduceAdd, Nat.reduceLeDiff, Nat.reduceSub, Int.reduceEq, h00, h44, h6, h45, h4, h2, hs4, hs50, hs2, wrap_succ (show i < 4611686018427387904 by omega), ← e11]
      refine ⟨fun j hj => ?_, by rw [← bufsC_snoc, bufC]⟩
      by_cases hji : j < i
      · exact hg j hji
      · obtain rfl : j = i := by omega
        omega
    · have e10 : decide ((b.length : Int) < (atC b (nOf b) i + ev (szAt b i) : Nat)) = false := decide_eq_false (by omega)
      have e11 : atC b (nOf b) i + ev (szAt b i) = atC b (nOf b) (i + 1) := by omega
      simp -dsimp -implicitDefEqProofs only [go_sem, Nat.reduceBEq, Nat.reduceAdd, Nat.reduceLeDiff, Nat.reduceSub, Int.reduceEq, h00, h44, h6, h45, h4, h2, hs4, hs50, hs2, e10]
      refine hK _ _ hlt (Wk.refl _) ?_
      simp -dsimp -implicitDefEqProofs only [go_sem, Nat.reduceBEq, Nat.reduceAdd, Nat.reduceLeDiff, Nat.reduceSub, Int.reduceEq, h00, h44, h6, h45, h4, h2, hs4, hs50, hs2, wrap_succ (show i < 4611686018427387904 by omega), e11]
      refine ⟨fun j hj => ?_, by rw [← bufsC_snoc, bufC]⟩
      by_cases hji : j < i
      · exact hg j hji
      · obtain rfl : j = i := by omega
        omega
  · have hii : i = nOf b := by omega
    subst hii
    have hw := wBB_bufsC b (nOf b) (nOf b) hg
    have hC : atC b (nOf b) (nOf b) = min (atP b (nOf b) (nOf b)) b.length := rfl
    have hd := decM_impl (b := b) (by omega) (by omega) hg
    have hm : msC (msC2 b) = [.v (.int .i64 (b[2].toNat : Int)), .v (.int .i64 (b[3].toNat : Int)), .v (.int .i64 (IntKind.i64.wrap (leN (cutB b 4 6)))), .row 22 1 (ra byC (bufsC b (nOf b) (nOf b)))] := by rw [at_getD n2, at_getD n3]; rfl
    simp -dsimp -implicitDefEqProofs only [go_sem, Nat.reduceBEq, Nat.reduceAdd, Nat.reduceLeDiff, Nat.reduceSub, Int.reduceEq, h00, h44, h6, h45, h4, h2, hs4, hs50, hs2]
    repeat (first | with_reducible refine ask.of (by first | omega | decide) ?_ | simp -dsimp -implicitDefEqProofs only [go_sem, Nat.reduceBEq, Nat.reduceAdd, Nat.reduceLeDiff, Nat.reduceSub, Int.reduceEq, h00, h44, h6, h45, h4, h2, hs4, hs50, hs2, bleM])
    refine CallE.of (c_implEncodeMessage (msC2 b) (by show (bufsC b (nOf b) (nOf b)).length + wBB (bufsC b (nOf b) (nOf b)) ≤ _; rw [bufsC_length]; omega)) (by rintro r rfl; (repeat' first | exact trivial | exact pure_rowB _ | exact pure_rowO _ | exact pure_rowI _ | exact pure_rowBB _ | exact pure_rowPk _ _ | exact pure_rowSn _ _ | exact pure_rowFd _ _ | exact pure_rowBBB _ | exact pure_rowCl _ _ | exact pure_rowTb _ _ _ | refine And.intro ?_ ?_)) (by simp -dsimp -implicitDefEqProofs only [go_sem, Nat.reduceBEq, Nat.reduceAdd, Nat.reduceLeDiff, Nat.reduceSub, Int.reduceEq, h00, h44, h6, h45, h4, h2, hs4, hs50, hs2, hm]) ?_
    rintro r rfl
    simp -dsimp -implicitDefEqProofs only [go_sem, Nat.reduceBEq, Nat.reduceAdd, Nat.reduceLeDiff, Nat.reduceSub, Int.reduceEq, h00, h44, h6, h45, h4, h2, hs4, hs50, hs2, hm]
    have hel := encM_le (msC2 b)
    refine ifB'.of (fun hE0 => ?_) (fun hE0 => ?_)
    · simp -dsimp -implicitDefEqProofs only [go_sem, Nat.reduceBEq, Nat.reduceAdd, Nat.reduceLeDiff, Nat.reduceSub, Int.reduceEq, h00, h44, h6, h45, h4, h2, hs4, hs50, hs2]
      repeat (first | with_reducible refine ask.of (by omega) ?_ | simp -dsimp -implicitDefEqProofs only [go_sem, Nat.reduceBEq, Nat.reduceAdd, Nat.reduceLeDiff, Nat.reduceSub, Int.reduceEq, h00, h44, h6, h45, h4, h2, hs4, hs50, hs2, bleM])
      have hE1 : encM (msC2 b) ≠ b := fun e => by rw [e] at hE0; omega
      rw [decResM, hd.2 hE1]; rfl
    simp -dsimp -implicitDefEqProofs only [go_sem, Nat.reduceBEq, Nat.reduceAdd, Nat.reduceLeDiff, Nat.reduceSub, Int.reduceEq, h00, h44, h6, h45, h4, h2, hs4, hs50, hs2]
    refine CallE.of (c_bytesEqual (encM (msC2 b)) b (by omega) (by omega)) (by rintro r rfl; (repeat' first | exact trivial | exact pure_rowB _ | exact pure_rowO _ | exact pure_rowI _ | exact pure_rowBB _ | exact pure_rowPk _ _ | exact pure_rowSn _ _ | exact pure_rowFd _ _ | exact pure_rowBBB _ | exact pure_rowCl _ _ | exact pure_rowTb _ _ _ | refine And.intro ?_ ?_)) (by simp -dsimp -implicitDefEqProofs only [go_sem, Nat.reduceBEq, Nat.reduceAdd, Nat.reduceLeDiff, Nat.reduceSub, Int.reduceEq, h00, h44, h6, h45, h4, h2, hs4, hs50, hs2]) ?_
    rintro r rfl
    simp -dsimp -implicitDefEqProofs only [go_sem, Nat.reduceBEq, Nat.reduceAdd, Nat.reduceLeDiff, Nat.reduceSub, Int.reduceEq, h00, h44, h6, h45, h4, h2, hs4, hs50, hs2]
    refine ifB'.of (fun hE => ?_) (fun hE => ?_)
    · simp -dsimp -implicitDefEqProofs only [go_sem, Nat.reduceBEq, Nat.reduceAdd, Nat.reduceLeDiff, Nat.reduceSub, Int.reduceEq, h00, h44, h6, h45, h4, h2, hs4, hs50, hs2]
      repeat (first | with_reducible refine ask.of (by omega) ?_ | simp -dsimp -implicitDefEqProofs only [go_sem, Nat.reduceBEq, Nat.reduceAdd, Nat.reduceLeDiff, Nat.reduceSub, Int.reduceEq, h00, h44, h6, h45, h4, h2, hs4, hs50, hs2, bleM])
      rw [decResM, hd.1 hE, hm]
    · simp -dsimp -implicitDefEqProofs only [go_sem, Nat.reduceBEq, Nat.reduceAdd, Nat.reduceLeDiff, Nat.reduceSub, Int.reduceEq, h00, h44, h6, h45, h4, h2, hs4, hs50, hs2]
      repeat (first | with_reducible refine ask.of (by omega) ?_ | simp -dsimp -implicitDefEqProofs only [go_sem, Nat.reduceBEq, Nat.reduceAdd, Nat.reduceLeDiff, Nat.reduceSub, Int.reduceEq, h00, h44, h6, h45, h4, h2, hs4, hs50, hs2, bleM])
      rw [decResM, hd.2 hE]; rfl
end Go.Ev
