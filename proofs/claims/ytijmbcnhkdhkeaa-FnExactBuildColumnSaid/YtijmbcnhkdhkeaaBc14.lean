/- Part 14 of what the row leans on: the evaluator, words, contracts of functions; pruned by a program of ours. -/
import Derived.Test.YtijmbcnhkdhkeaaBc13
set_option linter.unusedSimpArgs false
set_option linter.unusedVariables false
namespace Go.Ev
open Go Go.RowKit Go.Proofs
def cellsB (f : Fd) (cs : List Cl) : Prop := fdOk f ∧ cs.length ≤ 100 ∧ ∀ c ∈ cs, clOk f c
instance (f : Fd) (cs : List Cl) : Decidable (cellsB f cs) := by unfold cellsB; infer_instance
theorem cs_f {f : Fd} {cs : List Cl} [Decidable (cellsB f cs)] (h : ¬ cellsB f cs) : false = decide (cellsB f cs) := (decide_eq_false h).symm
set_option maxRecDepth 8000 in
theorem c_l2cellsOK (f : Fd) (cs : List Cl) (hf : f.f.length ≤ 1048576) (hx : cs.length ≤ 1048576) (hb : ∀ c ∈ cs, c.f.length ≤ 1048576) : Meets Try.prog 95 [.agg (fdC f), rowCl 151 cs] (fun r => r = .v (.bool (decide (cellsB f cs)))) := by
  refine Meets.introO mixed (hint []) (fun k => (sel (k == 6) [0,1,2,3,4,5,6] [])) Try.func95 rfl (by decide) res_95 rty_95 (by kernel_rfl) ?_; 
  simp -dsimp -implicitDefEqProofs only [go_sem, Nat.reduceBEq, Nat.reduceAdd, Nat.reduceLeDiff, Nat.reduceSub, Int.reduceEq, fdC, rowCl]
  repeat (first | with_reducible refine ask.of (by first | omega | decide) ?_ | simp -dsimp -implicitDefEqProofs only [go_sem, Nat.reduceBEq, Nat.reduceAdd, Nat.reduceLeDiff, Nat.reduceSub, Int.reduceEq, initE, rowCl, bl3])
  refine CallE.of (c_l2fieldOK f hf) (by rintro r rfl; (repeat' first | exact trivial | exact pure_rowB _ | exact pure_rowO _ | exact pure_rowI _ | exact pure_rowBB _ | exact pure_rowPk _ _ | exact pure_rowSn _ _ | exact pure_rowFd _ _ | exact pure_rowBBB _ | exact pure_rowCl _ _ | exact pure_rowTb _ _ _ | refine And.intro ?_ ?_)) (by simp -dsimp -implicitDefEqProofs only [go_sem, Nat.reduceBEq, Nat.reduceAdd, Nat.reduceLeDiff, Nat.reduceSub, Int.reduceEq, fdC]) ?_
  rintro r rfl
  simp -dsimp -implicitDefEqProofs only [go_sem, Nat.reduceBEq, Nat.reduceAdd, Nat.reduceLeDiff, Nat.reduceSub, Int.reduceEq, fdC]
  by_cases h1 : fdOk f
  · repeat (first | with_reducible refine ask.of (by first | omega | decide) ?_ | simp -dsimp -implicitDefEqProofs only [go_sem, Nat.reduceBEq, Nat.reduceAdd, Nat.reduceLeDiff, Nat.reduceSub, Int.reduceEq, decide_eq_true h1, Bool.not_true, initE, rowCl, bl3])
    refine ifB'.of (fun h2 => ?_) (fun h2 => ?_)
    · simp -dsimp -implicitDefEqProofs only [go_sem, Nat.reduceBEq, Nat.reduceAdd, Nat.reduceLeDiff, Nat.reduceSub, Int.reduceEq]
      exact cs_f fun h => by have := h.2.1; omega
    repeat (first | with_reducible refine ask.of (by first | omega | decide) ?_ | simp -dsimp -implicitDefEqProofs only [go_sem, Nat.reduceBEq, Nat.reduceAdd, Nat.reduceLeDiff, Nat.reduceSub, Int.reduceEq, initE, rowCl, bl3])
    refine LoopE.cnt cs.length (fun i s => s.env 1 = .rd .ent 151 3 (ra clC cs) ∧ s.env 2 = .ptr [2] 0 0 0 ∧ s.env 5 = .v (.int .i64 i) ∧ s.σ [2] = some (.box 78 [.rd .ent 5 1 (bytesA f.f), .v (.int .i64 f.k), .v (.int .i64 f.w)]) ∧ ∀ c ∈ cs.take i, clOk f c) ⟨by simp -dsimp -implicitDefEqProofs only [go_sem, Nat.reduceBEq, Nat.reduceAdd, Nat.reduceLeDiff, Nat.reduceSub, Int.reduceEq, initE, rowCl], by simp -dsimp -implicitDefEqProofs only [go_sem, Nat.reduceBEq, Nat.reduceAdd, Nat.reduceLeDiff, Nat.reduceSub, Int.reduceEq], by simp -dsimp -implicitDefEqProofs only [go_sem, Nat.reduceBEq, Nat.reduceAdd, Nat.reduceLeDiff, Nat.reduceSub, Int.reduceEq] <;> rfl, by simp -dsimp -implicitDefEqProofs only [go_sem, Nat.reduceBEq, Nat.reduceAdd, Nat.reduceLeDiff, Nat.reduceSub, Int.reduceEq, initE], by simp⟩ ?_
    rintro i ⟨e, σ⟩ hi ⟨g1, g2, g5, s2, hall⟩ K hK
    simp only at g1 g2 g5 s2
    simp -dsimp -implicitDefEqProofs only [go_sem, Nat.reduceBEq, Nat.reduceAdd, Nat.reduceLeDiff, Nat.reduceSub, Int.reduceEq, g1, g2, g5, s2]
    refine ifB'.of (fun hlt => ?_) (fun hlt => ?_)
    · have hlt : i < cs.length := by omega
      repeat (first | with_reducible refine ask.of (by first | omega | decide) ?_ | simp -dsimp -implicitDefEqProofs only [go_sem, Nat.reduceBEq, Nat.reduceAdd, Nat.reduceLeDiff, Nat.reduceSub, Int.reduceEq, g1, g2, g5, s2, Cl_at hlt, clC, bl3])
      refine CallE.of (c_l2cellOK f cs[i] h1 (hb _ (List.getElem_mem hlt))) (by rintro r rfl; (repeat' first | exact trivial | exact pure_rowB _ | exact pure_rowO _ | exact pure_rowI _ | exact pure_rowBB _ | exact pure_rowPk _ _ | exact pure_rowSn _ _ | exact pure_rowFd _ _ | exact pure_rowBBB _ | exact pure_rowCl _ _ | exact pure_rowTb _ _ _ | refine And.intro ?_ ?_)) (by simp -dsimp -implicitDefEqProofs only [go_sem, Nat.reduceBEq, Nat.reduceAdd, Nat.reduceLeDiff, Nat.reduceSub, Int.reduceEq, g1, g2, g5, s2, fdC, clC]) ?_
      rintro r rfl
      simp -dsimp -implicitDefEqProofs only [go_sem, Nat.reduceBEq, Nat.reduceAdd, Nat.reduceLeDiff, Nat.reduceSub, Int.reduceEq, g1, g2, g5, s2, fdC, clC]
      by_cases hc : clOk f cs[i]
      · repeat (first | with_reducible refine ask.of (by first | omega | decide) ?_ | simp -dsimp -implicitDefEqProofs only [go_sem, Nat.reduceBEq, Nat.reduceAdd, Nat.reduceLeDiff, Nat.reduceSub, Int.reduceEq, g1, g2, g5, s2, decide_eq_true hc, Bool.not_true, bl3])
        refine hK _ hlt ?_
        simp -dsimp -implicitDefEqProofs only [go_sem, Nat.reduceBEq, Nat.reduceAdd, Nat.reduceLeDiff, Nat.reduceSub, Int.reduceEq, g1, g2, g5, s2, wrap_succ (show i < 4611686018427387904 by omega)]
        intro c hcm
        rw [List.take_succ_eq_append_getElem hlt] at hcm
        rcases List.mem_append.1 hcm with hcm | hcm
        · exact hall c hcm
        · rw [List.mem_singleton.1 hcm]; exact hc
      · simp -dsimp -implicitDefEqProofs only [go_sem, Nat.reduceBEq, Nat.reduceAdd, Nat.reduceLeDiff, Nat.reduceSub, Int.reduceEq, g1, g2, g5, s2, decide_eq_false hc, Bool.not_false]
        exact cs_f fun h => hc (h.2.2 _ (List.getElem_mem hlt))
    · have : i = cs.length := by omega
      subst this
      rw [List.take_length] at hall
      simp -dsimp -implicitDefEqProofs only [go_sem, Nat.reduceBEq, Nat.reduceAdd, Nat.reduceLeDiff, Nat.reduceSub, Int.reduceEq, g1, g2, g5, s2]
      exact (decide_eq_true (show cellsB f cs from ⟨h1, by omega, hall⟩)).symm
  · simp -dsimp -implicitDefEqProofs only [go_sem, Nat.reduceBEq, Nat.reduceAdd, Nat.reduceLeDiff, Nat.reduceSub, Int.reduceEq, decide_eq_false h1, Bool.not_false]
    exact cs_f fun h => h1 h.1
theorem mem_snocB (l : List Bool) (b : Bool) : decide (false ∉ l ++ [b]) = (decide (false ∉ l) && b) := by
  cases b
  · rw [Bool.and_false]; exact decide_eq_false (by simp)
  · rw [Bool.and_true]; exact decide_eq_decide.2 (by simp)
set_option maxRecDepth 8000 in
theorem c_l2validity (cs : List Cl) (hx : cs.length ≤ 1048576) : Meets Try.prog 124 [rowCl 151 cs] (fun r => r = rowB (validB cs)) := by
  refine Meets.intro mixed (hint [(3, 272)]) Try.func124 rfl (by decide) res_124 rty_124 (by kernel_rfl) ?_; 
  simp -dsimp -implicitDefEqProofs only [go_sem, Nat.reduceBEq, Nat.reduceAdd, Nat.reduceLeDiff, Nat.reduceSub, Int.reduceEq, rowCl]
  refine LoopE.cnt cs.length (fun i s => s.env 0 = .rd .ent 151 3 (ra clC cs) ∧ s.env 3 = .ref [3] ∧ s.env 4 = .v (.bool (decide (false ∉ thereL (cs.take i)))) ∧ s.env 5 = .v (.int .i64 i) ∧ s.σ [3] = some (.row 4 1 (ra boolC (thereL (cs.take i))))) ⟨by simp -dsimp -implicitDefEqProofs only [go_sem, Nat.reduceBEq, Nat.reduceAdd, Nat.reduceLeDiff, Nat.reduceSub, Int.reduceEq, initE, rowCl], by simp -dsimp -implicitDefEqProofs only [go_sem, Nat.reduceBEq, Nat.reduceAdd, Nat.reduceLeDiff, Nat.reduceSub, Int.reduceEq], by simp -dsimp -implicitDefEqProofs only [go_sem, Nat.reduceBEq, Nat.reduceAdd, Nat.reduceLeDiff, Nat.reduceSub, Int.reduceEq] <;> rfl, by simp -dsimp -implicitDefEqProofs only [go_sem, Nat.reduceBEq, Nat.reduceAdd, Nat.reduceLeDiff, Nat.reduceSub, Int.reduceEq] <;> rfl, by simp -dsimp -implicitDefEqProofs only [go_sem, Nat.reduceBEq, Nat.reduceAdd, Nat.reduceLeDiff, Nat.reduceSub, Int.reduceEq] <;> rfl⟩ ?_
  rintro i ⟨e, σ⟩ hi ⟨g0, g3, g4, g5, s3⟩ K hK
  simp only at g0 g3 g4 g5 s3
  simp -dsimp -implicitDefEqProofs only [go_sem, Nat.reduceBEq, Nat.reduceAdd, Nat.reduceLeDiff, Nat.reduceSub, Int.reduceEq, g0, g3, g4, g5, s3]
  have hl : (thereL (cs.take i)).length = i := by rw [there_len]; simp; omega
  refine ifB'.of (fun hlt => ?_) (fun hlt => ?_)
  · have hlt : i < cs.length := by omega
    repeat (first | with_reducible refine ask.of (by first | omega | decide) ?_ | simp -dsimp -implicitDefEqProofs only [go_sem, Nat.reduceBEq, Nat.reduceAdd, Nat.reduceLeDiff, Nat.reduceSub, Int.reduceEq, g0, g3, g4, g5, s3, Cl_at hlt, clC, bl3, hl])
    have hs := mem_snocB (thereL (cs.take i)) (!cs[i].z)
    rw [there_succ hlt] at hs
    cases hq : decide (false ∉ thereL (cs.take i))
    · rw [hq, Bool.false_and] at hs
      repeat (first | with_reducible refine ask.of (by first | omega | decide) ?_ | simp -dsimp -implicitDefEqProofs only [go_sem, Nat.reduceBEq, Nat.reduceAdd, Nat.reduceLeDiff, Nat.reduceSub, Int.reduceEq, g0, g3, g4, g5, s3, hq, Cl_at hlt, clC, bl3, hl])
      refine hK _ hlt ?_
      simp -dsimp -implicitDefEqProofs only [go_sem, Nat.reduceBEq, Nat.reduceAdd, Nat.reduceLeDiff, Nat.reduceSub, Int.reduceEq, g0, g3, g4, g5, s3, wrap_succ (show i < 4611686018427387904 by omega), there_succ hlt, hs]
    · rw [hq, Bool.true_and] at hs
      repeat (first | with_reducible refine ask.of (by first | omega | decide) ?_ | simp -dsimp -implicitDefEqProofs only [go_sem, Nat.reduceBEq, Nat.reduceAdd, Nat.reduceLeDiff, Nat.reduceSub, Int.reduceEq, g0, g3, g4, g5, s3, hq, Cl_at hlt, clC, bl3, hl])
      refine hK _ hlt ?_
      simp -dsimp -implicitDefEqProofs only [go_sem, Nat.reduceBEq, Nat.reduceAdd, Nat.reduceLeDiff, Nat.reduceSub, Int.reduceEq, g0, g3, g4, g5, s3, wrap_succ (show i < 4611686018427387904 by omega), there_succ hlt, hs]
  · have : i = cs.length := by omega
    subst this
    rw [List.take_length] at s3 g4
    by_cases hm : false ∈ thereL cs
    · have hd : decide (false ∉ thereL cs) = false := decide_eq_false fun h => h hm
      rw [hd] at g4
      have hvB : validB cs = packB (thereL cs) := if_pos hm
      simp -dsimp -implicitDefEqProofs only [go_sem, Nat.reduceBEq, Nat.reduceAdd, Nat.reduceLeDiff, Nat.reduceSub, Int.reduceEq, g0, g3, g4, g5, s3]
      refine CallE.of (c_sPackBits (thereL cs) (by rw [there_len]; omega)) (by rintro r rfl; (repeat' first | exact trivial | exact pure_rowB _ | exact pure_rowO _ | exact pure_rowI _ | exact pure_rowBB _ | exact pure_rowPk _ _ | exact pure_rowSn _ _ | exact pure_rowFd _ _ | exact pure_rowBBB _ | exact pure_rowCl _ _ | exact pure_rowTb _ _ _ | refine And.intro ?_ ?_)) (by simp -dsimp -implicitDefEqProofs only [go_sem, Nat.reduceBEq, Nat.reduceAdd, Nat.reduceLeDiff, Nat.reduceSub, Int.reduceEq, g0, g3, g4, g5, s3]) ?_
      rintro r rfl
      simp -dsimp -implicitDefEqProofs only [go_sem, Nat.reduceBEq, Nat.reduceAdd, Nat.reduceLeDiff, Nat.reduceSub, Int.reduceEq, g0, g3, g4, g5, s3]
      rw [hvB]
    · have hd : decide (false ∉ thereL cs) = true := decide_eq_true hm
      rw [hd] at g4
      have hvB : validB cs = [] := if_neg hm
      simp -dsimp -implicitDefEqProofs only [go_sem, Nat.reduceBEq, Nat.reduceAdd, Nat.reduceLeDiff, Nat.reduceSub, Int.reduceEq, g0, g3, g4, g5, s3]
      rw [hvB]; rfl
def txL (cs : List Cl) : List (List UInt8) := cs.map fun c => c.f
theorem txL_len (cs : List Cl) : (txL cs).length = cs.length := by simp [txL]
theorem txL_at {cs : List Cl} {i : Nat} (h : i < cs.length) : (txL cs)[i]'(by rw [txL_len]; exact h) = cs[i].f := by simp [txL]
set_option maxRecDepth 8000 in
theorem c_l2textBuffers (cs : List Cl) (hx0 : cs.length ≤ 1000) (hx : szL clW cs ≤ 1048576) : Meets Try.prog 126 [rowBB (txL cs)] (fun r => r = rowBB [(packIC (offL cs) 4).1, dataL cs]) := by
  refine Meets.intro mixed (hint [(4, 125)]) Try.func126 rfl (by decide) res_126 rty_126 (by kernel_rfl) ?_; 
  simp -dsimp -implicitDefEqProofs only [go_sem, Nat.reduceBEq, Nat.reduceAdd, Nat.reduceLeDiff, Nat.reduceSub, Int.reduceEq]
  repeat (first | with_reducible refine ask.of (by first | omega | decide) ?_ | simp -dsimp -implicitDefEqProofs only [go_sem, Nat.reduceBEq, Nat.reduceAdd, Nat.reduceLeDiff, Nat.reduceSub, Int.reduceEq, initE, bl3])
  refine LoopE.cnt cs.length (fun i s => s.env 0 = .rd .ent 25 1 (ra byC (txL cs)) ∧ s.env 3 = .ref [8] ∧ s.env 4 = .ref [4] ∧ s.env 5 = .v (.int .i64 i) ∧ s.σ [8] = some (.row 3 1 (ra intC (offP cs i))) ∧ s.σ [4] = some (.row 5 1 (bytesA (dataL (cs.take i))))) ⟨by simp -dsimp -implicitDefEqProofs only [go_sem, Nat.reduceBEq, Nat.reduceAdd, Nat.reduceLeDiff, Nat.reduceSub, Int.reduceEq, initE], by simp -dsimp -implicitDefEqProofs only [go_sem, Nat.reduceBEq, Nat.reduceAdd, Nat.reduceLeDiff, Nat.reduceSub, Int.reduceEq], by simp -dsimp -implicitDefEqProofs only [go_sem, Nat.reduceBEq, Nat.reduceAdd, Nat.reduceLeDiff, Nat.reduceSub, Int.reduceEq], by simp -dsimp -implicitDefEqProofs only [go_sem, Nat.reduceBEq, Nat.reduceAdd, Nat.reduceLeDiff, Nat.reduceSub, Int.reduceEq] <;> rfl, by simp -dsimp -implicitDefEqProofs only [go_sem, Nat.reduceBEq, Nat.reduceAdd, Nat.reduceLeDiff, Nat.reduceSub, Int.reduceEq] <;> rfl, by simp -dsimp -implicitDefEqProofs only [go_sem, Nat.reduceBEq, Nat.reduceAdd, Nat.reduceLeDiff, Nat.reduceSub, Int.reduceEq] <;> rfl⟩ ?_
  rintro i ⟨e, σ⟩ hi ⟨g0, g3, g4, g5, s8, s4⟩ K hK
  simp only at g0 g3 g4 g5 s8 s4
  simp -dsimp -implicitDefEqProofs only [go_sem, Nat.reduceBEq, Nat.reduceAdd, Nat.reduceLeDiff, Nat.reduceSub, Int.reduceEq, g0, g3, g4, g5, s8, s4, txL_len]
  refine ifB'.of (fun hlt => ?_) (fun hlt => ?_)
  · have hlt : i < cs.length := by omega
    have hat : (ra byC (txL cs))[i]? = some [.row 5 1 (bytesA cs[i].f)] := by
      have := byA_at (xs := txL cs) (i := i) (by rw [txL_len]; exact hlt)
      rwa [txL_at hlt] at this
    have hw1 := szL_take_succ clW hlt
    have hw2 := szL_take_le clW cs (i + 1)
    have hl := data_len (cs.take i)
    have hl2 := data_len (cs.take (i + 1))
    have hww : clW cs[i] = cs[i].f.length := rfl
    have hol := offP_len cs i
    repeat (first | with_reducible refine ask.of (by first | omega | decide) ?_ | simp -dsimp -implicitDefEqProofs only [go_sem, Nat.reduceBEq, Nat.reduceAdd, Nat.reduceLeDiff, Nat.reduceSub, Int.reduceEq, g0, g3, g4, g5, s8, s4, hat, bl3, txL_len, data_take hlt, hol, hl2])
    refine hK _ hlt ?_
    simp -dsimp -implicitDefEqProofs only [go_sem, Nat.reduceBEq, Nat.reduceAdd, Nat.reduceLeDiff, Nat.reduceSub, Int.reduceEq, g0, g3, g4, g5, s8, s4, wrap_succ (show i < 4611686018427387904 by omega)]
    rw [offP_snoc]
  · have : i = cs.length := by omega
    subst this
    rw [List.take_length] at s4
    simp -dsimp -implicitDefEqProofs only [go_sem, Nat.reduceBEq, Nat.reduceAdd, Nat.reduceLeDiff, Nat.reduceSub, Int.reduceEq, g0, g3, g4, g5, s8, s4]
    refine CallE.of (c_specPackInts (offL cs) 4 (by rw [offL, offP_len]; omega)) (by rintro r rfl; (repeat' first | exact trivial | exact pure_rowB _ | exact pure_rowO _ | exact pure_rowI _ | exact pure_rowBB _ | exact pure_rowPk _ _ | exact pure_rowSn _ _ | exact pure_rowFd _ _ | exact pure_rowBBB _ | exact pure_rowCl _ _ | exact pure_rowTb _ _ _ | refine And.intro ?_ ?_)) (by simp -dsimp -implicitDefEqProofs only [go_sem, Nat.reduceBEq, Nat.reduceAdd, Nat.reduceLeDiff, Nat.reduceSub, Int.reduceEq, g0, g3, g4, g5, s8, s4, offL]) ?_
    rintro r rfl
    simp -dsimp -implicitDefEqProofs only [go_sem, Nat.reduceBEq, Nat.reduceAdd, Nat.reduceLeDiff, Nat.reduceSub, Int.reduceEq, g0, g3, g4, g5, s8, s4, offL]
    repeat (first | with_reducible refine ask.of (by first | omega | decide) ?_ | simp -dsimp -implicitDefEqProofs only [go_sem, Nat.reduceBEq, Nat.reduceAdd, Nat.reduceLeDiff, Nat.reduceSub, Int.reduceEq, g0, g3, g4, g5, s8, s4, bl3])
    rfl
def intsQ (f : Fd) (vs : List (List UInt8)) (cs : List Cl) : List Int := if f.k = 3 then plcL vs cs else intsL cs
theorem intsQ_succ {f : Fd} {vs : List (List UInt8)} {cs : List Cl} {i : Nat} (h : i < cs.length) : intsQ f vs (cs.take i) ++ [if f.k = 3 then plc vs cs[i] else cs[i].i] = intsQ f vs (cs.take (i + 1)) := by
  unfold intsQ
  by_cases hk : f.k = 3
  · rw [if_pos hk, if_pos hk, if_pos hk]; exact map_takeS (plc vs) h
  · rw [if_neg hk, if_neg hk, if_neg hk]; exact map_takeS (fun c : Cl => c.i) h
theorem intsQ_len (f : Fd) (vs : List (List UInt8)) (cs : List Cl) : (intsQ f vs cs).length = cs.length := by unfold intsQ; split <;> simp [plcL, intsL]
theorem txE_succ {cs : List Cl} {i : Nat} (h : i < cs.length) : txL (cs.take i) ++ [cs[i].f] = txL (cs.take (i + 1)) := map_takeS (fun c : Cl => c.f) h
theorem bits_succ {cs : List Cl} {i : Nat} (h : i < cs.length) : bitsL (cs.take i) ++ [decide (cs[i].i = 1)] = bitsL (cs.take (i + 1)) := map_takeS (fun c : Cl => decide (c.i = 1)) h
theorem c_l2textBuffersE (cs : List Cl) (hx0 : cs.length ≤ 1000) (hx : szL clW cs ≤ 1048576) : Meets Try.prog 126 [rowBE (txL cs)] (fun r => r = rowBB [(packIC (offL cs) 4).1, dataL cs]) :=
  Meets.look (bs := [rowBB (txL cs)]) ⟨look_rowBE _, trivial⟩ (c_l2textBuffers cs hx0 hx)
set_option maxRecDepth 8000 in
set_option maxHeartbeats 4000000 in
theorem c_specBuildColumn (f : Fd) (cs : List Cl) (vs : List (List UInt8)) (hf : f.f.length ≤ 1048576) (hc : cs.length + szL clW cs ≤ 1048576) (hv : vs.length + wBB vs ≤ 1048576) : Meets Try.prog 49 [.agg (fdC f), rowCl 151 cs, rowBB vs] (fun r => r = resB (bldL f cs vs)) := by
  refine Meets.intro mixed (hint [(9, 272), (10, 273), (11, 139)]) Try.func49 rfl (by decide) res_49 rty_49 (by kernel_rfl) ?_; 
  simp -dsimp -implicitDefEqProofs only [go_sem, Nat.reduceBEq, Nat.reduceAdd, Nat.reduceLeDiff, Nat.reduceSub, Int.reduceEq, fdC, rowCl]
  have hcb : ∀ c ∈ cs, c.f.length ≤ 1048576 := fun c h => by have := clW_mem h; omega
  have hvb : ∀ b ∈ vs, b.length ≤ 140737488355328 := fun b hb => by have := mem_wBB hb; omega
  repeat (first | with_reducible refine ask.of (by first | omega | decide) ?_ | simp -dsimp -implicitDefEqProofs only [go_sem, Nat.reduceBEq, Nat.reduceAdd, Nat.reduceLeDiff, Nat.reduceSub, Int.reduceEq, initE, rowCl, bl3])
  refine CallE.of (c_l2cellsOK f cs hf (by omega) hcb) (by rintro r rfl; (repeat' first | exact trivial | exact pure_rowB _ | exact pure_rowO _ | exact pure_rowI _ | exact pure_rowBB _ | exact pure_rowPk _ _ | exact pure_rowSn _ _ | exact pure_rowFd _ _ | exact pure_rowBBB _ | exact pure_rowCl _ _ | exact pure_rowTb _ _ _ | refine And.intro ?_ ?_)) (by simp -dsimp -implicitDefEqProofs only [go_sem, Nat.reduceBEq, Nat.reduceAdd, Nat.reduceLeDiff, Nat.reduceSub, Int.reduceEq, fdC, rowCl]) ?_
  rintro r rfl
  simp -dsimp -implicitDefEqProofs only [go_sem, Nat.reduceBEq, Nat.reduceAdd, Nat.reduceLeDiff, Nat.reduceSub, Int.reduceEq, fdC, rowCl]
  by_cases h1 : cellsB f cs
  · repeat (first | with_reducible refine ask.of (by first | omega | decide) ?_ | simp -dsimp -implicitDefEqProofs only [go_sem, Nat.reduceBEq, Nat.reduceAdd, Nat.reduceLeDiff, Nat.reduceSub, Int.reduceEq, decide_eq_true h1, Bool.not_true, initE, rowCl, bl3])
    refine CallE.of (c_sValidDict vs hv) (by rintro r rfl; (repeat' first | exact trivial | exact pure_rowB _ | exact pure_rowO _ | exact pure_rowI _ | exact pure_rowBB _ | exact pure_rowPk _ _ | exact pure_rowSn _ _ | exact pure_rowFd _ _ | exact pure_rowBBB _ | exact pure_rowCl _ _ | exact pure_rowTb _ _ _ | refine And.intro ?_ ?_)) (by simp -dsimp -implicitDefEqProofs only [go_sem, Nat.reduceBEq, Nat.reduceAdd, Nat.reduceLeDiff, Nat.reduceSub, Int.reduceEq]) ?_
    rintro r rfl
    simp -dsimp -implicitDefEqProofs only [go_sem, Nat.reduceBEq, Nat.reduceAdd, Nat.reduceLeDiff, Nat.reduceSub, Int.reduceEq]
    by_cases h2 : okD vs
    · have h3 := h1.2.1
      repeat (first | with_reducible refine ask.of (by first | omega | decide) ?_ | simp -dsimp -implicitDefEqProofs only [go_sem, Nat.reduceBEq, Nat.reduceAdd, Nat.reduceLeDiff, Nat.reduceSub, Int.reduceEq, decide_eq_true h2, Bool.not_true, initE, rowCl, bl3])
      refine CallE.of (c_l2validity cs (by omega)) (by rintro r rfl; (repeat' first | exact trivial | exact pure_rowB _ | exact pure_rowO _ | exact pure_rowI _ | exact pure_rowBB _ | exact pure_rowPk _ _ | exact pure_rowSn _ _ | exact pure_rowFd _ _ | exact pure_rowBBB _ | exact pure_rowCl _ _ | exact pure_rowTb _ _ _ | refine And.intro ?_ ?_)) (by simp -dsimp -implicitDefEqProofs only [go_sem, Nat.reduceBEq, Nat.reduceAdd, Nat.reduceLeDiff, Nat.reduceSub, Int.reduceEq, rowCl]) ?_
      rintro r rfl
      simp -dsimp -implicitDefEqProofs only [go_sem, Nat.reduceBEq, Nat.reduceAdd, Nat.reduceLeDiff, Nat.reduceSub, Int.reduceEq, rowCl]
      repeat (first | with_reducible refine ask.of (by first | omega | decide) ?_ | simp -dsimp -implicitDefEqProofs only [go_sem, Nat.reduceBEq, Nat.reduceAdd, Nat.reduceLeDiff, Nat.reduceSub, Int.reduceEq, initE, rowCl, bl3])
      refine LoopE.cnt cs.length (fun i s => s.env 1 = .rd .ent 151 3 (ra clC cs) ∧ s.env 2 = .rd .ent 25 1 (ra byC vs) ∧ s.env 3 = .ptr [3] 0 0 0 ∧ s.env 8 = .ref [29] ∧ s.env 9 = .ref [9] ∧ s.env 10 = .ref [10] ∧ s.env 11 = .ref [11] ∧ s.env 12 = .v (.int .i64 i) ∧
        s.σ [3] = some (.box 78 [.rd .ent 5 1 (bytesA f.f), .v (.int .i64 f.k), .v (.int .i64 f.w)]) ∧ s.σ [29] = some (.row 25 1 (ra byC [validB cs])) ∧ s.σ [9] = some (.row 4 1 (ra boolC (bitsL (cs.take i)))) ∧ s.σ [10] = some (.row 3 1 (ra intC (intsQ f vs (cs.take i)))) ∧ s.σ [11] = some (.row 25 1 (ra byE (txL (cs.take i)))) ∧
        (f.k = 3 → ∀ c ∈ cs.take i, c.z = false → c.f ∈ vs)) ⟨by simp -dsimp -implicitDefEqProofs only [go_sem, Nat.reduceBEq, Nat.reduceAdd, Nat.reduceLeDiff, Nat.reduceSub, Int.reduceEq, initE, rowCl], by simp -dsimp -implicitDefEqProofs only [go_sem, Nat.reduceBEq, Nat.reduceAdd, Nat.reduceLeDiff, Nat.reduceSub, Int.reduceEq, initE], by simp -dsimp -implicitDefEqProofs only [go_sem, Nat.reduceBEq, Nat.reduceAdd, Nat.reduceLeDiff, Nat.reduceSub, Int.reduceEq], by simp -dsimp -implicitDefEqProofs only [go_sem, Nat.reduceBEq, Nat.reduceAdd, Nat.reduceLeDiff, Nat.reduceSub, Int.reduceEq], by simp -dsimp -implicitDefEqProofs only [go_sem, Nat.reduceBEq, Nat.reduceAdd, Nat.reduceLeDiff, Nat.reduceSub, Int.reduceEq], by simp -dsimp -implicitDefEqProofs only [go_sem, Nat.reduceBEq, Nat.reduceAdd, Nat.reduceLeDiff, Nat.reduceSub, Int.reduceEq], by simp -dsimp -implicitDefEqProofs only [go_sem, Nat.reduceBEq, Nat.reduceAdd, Nat.reduceLeDiff, Nat.reduceSub, Int.reduceEq], by simp -dsimp -implicitDefEqProofs only [go_sem, Nat.reduceBEq, Nat.reduceAdd, Nat.reduceLeDiff, Nat.reduceSub, Int.reduceEq] <;> rfl, by simp -dsimp -implicitDefEqProofs only [go_sem, Nat.reduceBEq, Nat.reduceAdd, Nat.reduceLeDiff, Nat.reduceSub, Int.reduceEq, initE], by simp -dsimp -implicitDefEqProofs only [go_sem, Nat.reduceBEq, Nat.reduceAdd, Nat.reduceLeDiff, Nat.reduceSub, Int.reduceEq] <;> rfl, by simp -dsimp -implicitDefEqProofs only [go_sem, Nat.reduceBEq, Nat.reduceAdd, Nat.reduceLeDiff, Nat.reduceSub, Int.reduceEq] <;> rfl, by simp -dsimp -implicitDefEqProofs only [go_sem, Nat.reduceBEq, Nat.reduceAdd, Nat.reduceLeDiff, Nat.reduceSub, Int.reduceEq] <;> (unfold intsQ; simp [plcL, intsL]; rfl), by simp -dsimp -implicitDefEqProofs only [go_sem, Nat.reduceBEq, Nat.reduceAdd, Nat.reduceLeDiff, Nat.reduceSub, Int.reduceEq] <;> rfl, by simp⟩ ?_
      rintro i ⟨e, σ⟩ hii ⟨g1, g2, g3, g8, g9, g10, g11, g12, s3, s29, s9, s10, s11, hall⟩ K hK
      simp only at g1 g2 g3 g8 g9 g10 g11 g12 s3 s29 s9 s10 s11
      simp -dsimp -implicitDefEqProofs only [go_sem, Nat.reduceBEq, Nat.reduceAdd, Nat.reduceLeDiff, Nat.reduceSub, Int.reduceEq, g1, g2, g3, g8, g9, g10, g11, g12, s3, s29, s9, s10, s11]
      refine ifB'.of (fun hlt => ?_) (fun hlt => ?_)
      · have hlt : i < cs.length := by omega
        have hl1 : (bitsL (cs.take i)).length = i := by simp [bitsL]; omega
        have hl2 : (intsQ f vs (cs.take i)).length = i := by rw [intsQ_len]; simp; omega
        have hl3 : (txL (cs.take i)).length = i := by rw [txL_len]; simp; omega
        have hal : (f.k = 3 → cs[i].z = false → cs[i].f ∈ vs) → (f.k = 3 → ∀ c ∈ cs.take (i + 1), c.z = false → c.f ∈ vs) := fun h hk c hcm => by
          rw [List.take_succ_eq_append_getElem hlt] at hcm
          rcases List.mem_append.1 hcm with hcm | hcm
          · exact hall hk c hcm
          · rw [List.mem_singleton.1 hcm]; exact h hk
        have hsn := intsQ_succ (f := f) (vs := vs) hlt
        repeat (first | with_reducible refine ask.of (by first | omega | decide) ?_ | simp -dsimp -implicitDefEqProofs only [go_sem, Nat.reduceBEq, Nat.reduceAdd, Nat.reduceLeDiff, Nat.reduceSub, Int.reduceEq, g1, g2, g3, g8, g9, g10, g11, g12, s3, s29, s9, s10, s11, Cl_at hlt, clC, bl3, hl1, hl2, hl3, bits_succ hlt, txE_succ hlt])
        have hKK : ∀ x : Int, x = (if f.k = 3 then plc vs cs[i] else cs[i].i) → intsQ f vs (cs.take i) ++ [x] = intsQ f vs (cs.take (i + 1)) := fun x hx => by rw [hx]; exact hsn
        refine ifB'.of (fun hk => ?_) (fun hk => ?_)
        · cases hz : cs[i].z
          · repeat (first | with_reducible refine ask.of (by first | omega | decide) ?_ | simp -dsimp -implicitDefEqProofs only [go_sem, Nat.reduceBEq, Nat.reduceAdd, Nat.reduceLeDiff, Nat.reduceSub, Int.reduceEq, g1, g2, g3, g8, g9, g10, g11, g12, s3, s29, s9, s10, s11, hz, bl3])
            refine CallE.of (c_l2place vs cs[i].f (by omega) hvb (by have := hcb _ (List.getElem_mem hlt); omega)) (by rintro r rfl; (repeat' first | exact trivial | exact pure_rowB _ | exact pure_rowO _ | exact pure_rowI _ | exact pure_rowBB _ | exact pure_rowPk _ _ | exact pure_rowSn _ _ | exact pure_rowFd _ _ | exact pure_rowBBB _ | exact pure_rowCl _ _ | exact pure_rowTb _ _ _ | refine And.intro ?_ ?_)) (by simp -dsimp -implicitDefEqProofs only [go_sem, Nat.reduceBEq, Nat.reduceAdd, Nat.reduceLeDiff, Nat.reduceSub, Int.reduceEq, g1, g2, g3, g8, g9, g10, g11, g12, s3, s29, s9, s10, s11]) ?_
            rintro r rfl
            simp -dsimp -implicitDefEqProofs only [go_sem, Nat.reduceBEq, Nat.reduceAdd, Nat.reduceLeDiff, Nat.reduceSub, Int.reduceEq, g1, g2, g3, g8, g9, g10, g11, g12, s3, s29, s9, s10, s11]
            have hpl := plI_nonneg vs cs[i].f
            refine ifB'.of (fun hq => ?_) (fun hq => ?_)
            · simp -dsimp -implicitDefEqProofs only [go_sem, Nat.reduceBEq, Nat.reduceAdd, Nat.reduceLeDiff, Nat.reduceSub, Int.reduceEq, g1, g2, g3, g8, g9, g10, g11, g12, s3, s29, s9, s10, s11]
              exact bld_no fun h => by have := hpl.2 (h.2.2 hk _ (List.getElem_mem hlt) hz); omega
            · have hx := hKK (plI vs cs[i].f) (by rw [if_pos hk]; unfold plc; rw [hz]; rfl)
              repeat (first | with_reducible refine ask.of (by first | omega | decide) ?_ | simp -dsimp -implicitDefEqProofs only [go_sem, Nat.reduceBEq, Nat.reduceAdd, Nat.reduceLeDiff, Nat.reduceSub, Int.reduceEq, g1, g2, g3, g8, g9, g10, g11, g12, s3, s29, s9, s10, s11, bl3, hl2])
              refine hK _ hlt ?_
              simp -dsimp -implicitDefEqProofs only [go_sem, Nat.reduceBEq, Nat.reduceAdd, Nat.reduceLeDiff, Nat.reduceSub, Int.reduceEq, g1, g2, g3, g8, g9, g10, g11, g12, s3, s29, s9, s10, s11, wrap_succ (show i < 4611686018427387904 by omega), hx]
              exact hal fun _ _ => hpl.1 (by omega)
          · have hx := hKK 0 (by rw [if_pos hk]; unfold plc; rw [hz]; rfl)
            repeat (first | with_reducible refine ask.of (by first | omega | decide) ?_ | simp -dsimp -implicitDefEqProofs only [go_sem, Nat.reduceBEq, Nat.reduceAdd, Nat.reduceLeDiff, Nat.reduceSub, Int.reduceEq, g1, g2, g3, g8, g9, g10, g11, g12, s3, s29, s9, s10, s11, hz, bl3, hl2])
            refine hK _ hlt ?_
            simp -dsimp -implicitDefEqProofs only [go_sem, Nat.reduceBEq, Nat.reduceAdd, Nat.reduceLeDiff, Nat.reduceSub, Int.reduceEq, g1, g2, g3, g8, g9, g10, g11, g12, s3, s29, s9, s10, s11, wrap_succ (show i < 4611686018427387904 by omega), hx]
            exact hal fun _ h => by rw [hz] at h; cases h
        · have hx := hKK cs[i].i (by rw [if_neg hk])
          repeat (first | with_reducible refine ask.of (by first | omega | decide) ?_ | simp -dsimp -implicitDefEqProofs only [go_sem, Nat.reduceBEq, Nat.reduceAdd, Nat.reduceLeDiff, Nat.reduceSub, Int.reduceEq, g1, g2, g3, g8, g9, g10, g11, g12, s3, s29, s9, s10, s11, Cl_at hlt, clC, bl3, hl2])
          refine hK _ hlt ?_
          simp -dsimp -implicitDefEqProofs only [go_sem, Nat.reduceBEq, Nat.reduceAdd, Nat.reduceLeDiff, Nat.reduceSub, Int.reduceEq, g1, g2, g3, g8, g9, g10, g11, g12, s3, s29, s9, s10, s11, wrap_succ (show i < 4611686018427387904 by omega), hx]
          exact hal fun h => absurd h hk
      · have : i = cs.length := by omega
        subst this
        rw [List.take_length] at s9 s10 s11 hall
        have hC : bcOk f cs vs := ⟨⟨h1.1, h3, h2⟩, h1.2.2, hall⟩
        have hkk := bk_cases h1.1
        rw [bldL_yes hC]
        repeat (first | with_reducible refine ask.of (by first | omega | decide) ?_ | simp -dsimp -implicitDefEqProofs only [go_sem, Nat.reduceBEq, Nat.reduceAdd, Nat.reduceLeDiff, Nat.reduceSub, Int.reduceEq, g1, g2, g3, g8, g9, g10, g11, g12, s3, s29, s9, s10, s11, bl3])
        refine ifB'.of (fun hk => ?_) (fun hk => ?_)
        · simp -dsimp -implicitDefEqProofs only [go_sem, Nat.reduceBEq, Nat.reduceAdd, Nat.reduceLeDiff, Nat.reduceSub, Int.reduceEq, g1, g2, g3, g8, g9, g10, g11, g12, s3, s29, s9, s10, s11]
          refine CallE.of (c_sPackBits (bitsL cs) (by simp [bitsL]; omega)) (by rintro r rfl; (repeat' first | exact trivial | exact pure_rowB _ | exact pure_rowO _ | exact pure_rowI _ | exact pure_rowBB _ | exact pure_rowPk _ _ | exact pure_rowSn _ _ | exact pure_rowFd _ _ | exact pure_rowBBB _ | exact pure_rowCl _ _ | exact pure_rowTb _ _ _ | refine And.intro ?_ ?_)) (by simp -dsimp -implicitDefEqProofs only [go_sem, Nat.reduceBEq, Nat.reduceAdd, Nat.reduceLeDiff, Nat.reduceSub, Int.reduceEq, g1, g2, g3, g8, g9, g10, g11, g12, s3, s29, s9, s10, s11]) ?_
          rintro r rfl
          simp -dsimp -implicitDefEqProofs only [go_sem, Nat.reduceBEq, Nat.reduceAdd, Nat.reduceLeDiff, Nat.reduceSub, Int.reduceEq, g1, g2, g3, g8, g9, g10, g11, g12, s3, s29, s9, s10, s11]
          repeat (first | with_reducible refine ask.of (by first | omega | decide) ?_ | simp -dsimp -implicitDefEqProofs only [go_sem, Nat.reduceBEq, Nat.reduceAdd, Nat.reduceLeDiff, Nat.reduceSub, Int.reduceEq, g1, g2, g3, g8, g9, g10, g11, g12, s3, s29, s9, s10, s11, bl3])
          rw [bodyB, if_pos hk]; rfl
        repeat (first | with_reducible refine ask.of (by first | omega | decide) ?_ | simp -dsimp -implicitDefEqProofs only [go_sem, Nat.reduceBEq, Nat.reduceAdd, Nat.reduceLeDiff, Nat.reduceSub, Int.reduceEq, g1, g2, g3, g8, g9, g10, g11, g12, s3, s29, s9, s10, s11, bl3])
        refine ifB'.of (fun hk2 => ?_) (fun hk2 => ?_)
        · simp -dsimp -implicitDefEqProofs only [go_sem, Nat.reduceBEq, Nat.reduceAdd, Nat.reduceLeDiff, Nat.reduceSub, Int.reduceEq, g1, g2, g3, g8, g9, g10, g11, g12, s3, s29, s9, s10, s11]
          refine CallE.of (c_l2textBuffersE cs (by omega) (by omega)) (by rintro r rfl; (repeat' first | exact trivial | exact pure_rowB _ | exact pure_rowO _ | exact pure_rowI _ | exact pure_rowBB _ | exact pure_rowPk _ _ | exact pure_rowSn _ _ | exact pure_rowFd _ _ | exact pure_rowBBB _ | exact pure_rowCl _ _ | exact pure_rowTb _ _ _ | refine And.intro ?_ ?_)) (by simp -dsimp -implicitDefEqProofs only [go_sem, Nat.reduceBEq, Nat.reduceAdd, Nat.reduceLeDiff, Nat.reduceSub, Int.reduceEq, g1, g2, g3, g8, g9, g10, g11, g12, s3, s29, s9, s10, s11, rowBE]) ?_
          rintro r rfl
          simp -dsimp -implicitDefEqProofs only [go_sem, Nat.reduceBEq, Nat.reduceAdd, Nat.reduceLeDiff, Nat.reduceSub, Int.reduceEq, g1, g2, g3, g8, g9, g10, g11, g12, s3, s29, s9, s10, s11, rowBE]
          repeat (first | with_reducible refine ask.of (by first | omega | decide) ?_ | simp -dsimp -implicitDefEqProofs only [go_sem, Nat.reduceBEq, Nat.reduceAdd, Nat.reduceLeDiff, Nat.reduceSub, Int.reduceEq, g1, g2, g3, g8, g9, g10, g11, g12, s3, s29, s9, s10, s11, bl3])
          rw [bodyB, if_neg hk, if_neg (by omega), if_pos hk2]; rfl
        repeat (first | with_reducible refine ask.of (by first | omega | decide) ?_ | simp -dsimp -implicitDefEqProofs only [go_sem, Nat.reduceBEq, Nat.reduceAdd, Nat.reduceLeDiff, Nat.reduceSub, Int.reduceEq, g1, g2, g3, g8, g9, g10, g11, g12, s3, s29, s9, s10, s11, bl3])
        refine ifB'.of (fun hk3 => ?_) (fun hk3 => ?_)
        · have e : intsQ f vs cs = plcL vs cs := if_pos hk3
          rw [e] at s10
          simp -dsimp -implicitDefEqProofs only [go_sem, Nat.reduceBEq, Nat.reduceAdd, Nat.reduceLeDiff, Nat.reduceSub, Int.reduceEq, g1, g2, g3, g8, g9, g10, g11, g12, s3, s29, s9, s10, s11]
          refine CallE.of (c_specPackInts (plcL vs cs) 1 (by simp [plcL]; omega)) (by rintro r rfl; (repeat' first | exact trivial | exact pure_rowB _ | exact pure_rowO _ | exact pure_rowI _ | exact pure_rowBB _ | exact pure_rowPk _ _ | exact pure_rowSn _ _ | exact pure_rowFd _ _ | exact pure_rowBBB _ | exact pure_rowCl _ _ | exact pure_rowTb _ _ _ | refine And.intro ?_ ?_)) (by simp -dsimp -implicitDefEqProofs only [go_sem, Nat.reduceBEq, Nat.reduceAdd, Nat.reduceLeDiff, Nat.reduceSub, Int.reduceEq, g1, g2, g3, g8, g9, g10, g11, g12, s3, s29, s9, s10, s11]) ?_
          rintro r rfl
          simp -dsimp -implicitDefEqProofs only [go_sem, Nat.reduceBEq, Nat.reduceAdd, Nat.reduceLeDiff, Nat.reduceSub, Int.reduceEq, g1, g2, g3, g8, g9, g10, g11, g12, s3, s29, s9, s10, s11]
          repeat (first | with_reducible refine ask.of (by first | omega | decide) ?_ | simp -dsimp -implicitDefEqProofs only [go_sem, Nat.reduceBEq, Nat.reduceAdd, Nat.reduceLeDiff, Nat.reduceSub, Int.reduceEq, g1, g2, g3, g8, g9, g10, g11, g12, s3, s29, s9, s10, s11, bl3])
          rw [bodyB, if_neg hk, if_neg (by omega), if_neg hk2]; rfl
        · have e : intsQ f vs cs = intsL cs := if_neg hk3
          rw [e] at s10
          simp -dsimp -implicitDefEqProofs only [go_sem, Nat.reduceBEq, Nat.reduceAdd, Nat.reduceLeDiff, Nat.reduceSub, Int.reduceEq, g1, g2, g3, g8, g9, g10, g11, g12, s3, s29, s9, s10, s11]
          refine CallE.of (c_specPackInts (intsL cs) f.w (by simp [intsL]; omega)) (by rintro r rfl; (repeat' first | exact trivial | exact pure_rowB _ | exact pure_rowO _ | exact pure_rowI _ | exact pure_rowBB _ | exact pure_rowPk _ _ | exact pure_rowSn _ _ | exact pure_rowFd _ _ | exact pure_rowBBB _ | exact pure_rowCl _ _ | exact pure_rowTb _ _ _ | refine And.intro ?_ ?_)) (by simp -dsimp -implicitDefEqProofs only [go_sem, Nat.reduceBEq, Nat.reduceAdd, Nat.reduceLeDiff, Nat.reduceSub, Int.reduceEq, g1, g2, g3, g8, g9, g10, g11, g12, s3, s29, s9, s10, s11]) ?_
          rintro r rfl
          simp -dsimp -implicitDefEqProofs only [go_sem, Nat.reduceBEq, Nat.reduceAdd, Nat.reduceLeDiff, Nat.reduceSub, Int.reduceEq, g1, g2, g3, g8, g9, g10, g11, g12, s3, s29, s9, s10, s11]
          repeat (first | with_reducible refine ask.of (by first | omega | decide) ?_ | simp -dsimp -implicitDefEqProofs only [go_sem, Nat.reduceBEq, Nat.reduceAdd, Nat.reduceLeDiff, Nat.reduceSub, Int.reduceEq, g1, g2, g3, g8, g9, g10, g11, g12, s3, s29, s9, s10, s11, bl3])
          rw [bodyB, if_neg hk, if_pos (by omega)]; rfl
    · repeat' (first | exact bld_no fun h => h2 h.1.2.2 | with_reducible refine ask.of (by first | omega | decide) ?_ | simp -dsimp -implicitDefEqProofs only [go_sem, Nat.reduceBEq, Nat.reduceAdd, Nat.reduceLeDiff, Nat.reduceSub, Int.reduceEq, decide_eq_false h2, Bool.not_false, initE, rowCl, bl3])
  · repeat' (first | exact bld_no fun h => h1 ⟨h.1.1, h.1.2.1, h.2.1⟩ | with_reducible refine ask.of (by first | omega | decide) ?_ | simp -dsimp -implicitDefEqProofs only [go_sem, Nat.reduceBEq, Nat.reduceAdd, Nat.reduceLeDiff, Nat.reduceSub, Int.reduceEq, decide_eq_false h1, Bool.not_false, initE, rowCl, bl3])
end Go.Ev
set_option linter.unusedSimpArgs false
set_option linter.unusedVariables false
namespace Go.Ev
open Go Go.RowKit Go.Proofs
theorem wrapM (m j : Nat) (h : m + j < 4611686018427387904) : IntKind.i64.wrap (((m + j : Nat) : Int) + 1) = ((m + (j + 1) : Nat) : Int) := by rw [wrap_i64_of (by omega) (by omega)]; omega
def mkCl (k : Nat) (c : Cl) : Cl := ⟨decide ((k : Int).tmod 3 = 0), ((k + 1 : Nat) : Int), mkB (k + 2) c.f.length⟩
def szCl (c : Cl) : Nat := 2 + c.f.length
def mkClS (k : Nat) (xs : List Cl) : List Cl := mkL mkCl szCl k xs
theorem mkCl_at' {xs : List Cl} {i : Nat} {s : Cl} (h : xs[i]? = some s) : (ra clC xs)[i]? = some (clC s) := ra_at' h
theorem mkCl_set (xs : List Cl) (i : Nat) (s : Cl) : (ra clC xs).set i [.v (.bool s.z), .v (.int .i64 s.i), .row 5 1 (bytesA s.f)] = ra clC (xs.set i s) := ra_set (enc := clC) xs i s
set_option maxHeartbeats 4000000 in
set_option maxRecDepth 8000 in
theorem c_markCellS (xs : List Cl) (k : Nat) (hk : k + szL szCl xs ≤ 4611686018427387904) (hx : xs.length ≤ 1048576) (hb : ∀ b ∈ xs, b.f.length ≤ 1048576) : MeetsM Try.prog 32 [.mu (rowCl 151 xs), .rd (.v (.int .i64 k))] (fun r rs => r = .v (.int .i64 ((k + szL szCl xs : Nat) : Int)) ∧ rs = [rowCl 151 (mkClS k xs), .any]) := by
  refine MeetsM.intro mixed (hint []) Try.func32 rfl (by decide) res_32 rty_32 (pts := parTys Try.prog 32) (by rw [par_32]; rfl) (by kernel_rfl) ?_; rw [par_32]; intro vals; 
  simp -dsimp -implicitDefEqProofs only [go_sem, Nat.reduceBEq, Nat.reduceAdd, Nat.reduceLeDiff, Nat.reduceSub, Int.reduceEq, rowCl]
  refine LoopE.cnt xs.length (fun i s => s.env 0 = .ref [1000000, 0] ∧ s.env 1 = .v (.int .i64 ((k + szL szCl (xs.take i) : Nat) : Int)) ∧ s.env 5 = .v (.int .i64 i) ∧ s.σ [1000000, 0] = some (.row 151 3 (ra clC (mkLP mkCl szCl k xs i))) ∧ s.σ [1000001, 0] = some (.pin (.ref [1000000, 0]) (vals 0))) ⟨by simp -dsimp -implicitDefEqProofs only [go_sem, Nat.reduceBEq, Nat.reduceAdd, Nat.reduceLeDiff, Nat.reduceSub, Int.reduceEq], by simp -dsimp -implicitDefEqProofs only [go_sem, Nat.reduceBEq, Nat.reduceAdd, Nat.reduceLeDiff, Nat.reduceSub, Int.reduceEq] <;> simp [szL], by simp -dsimp -implicitDefEqProofs only [go_sem, Nat.reduceBEq, Nat.reduceAdd, Nat.reduceLeDiff, Nat.reduceSub, Int.reduceEq] <;> simp, by simp -dsimp -implicitDefEqProofs only [go_sem, Nat.reduceBEq, Nat.reduceAdd, Nat.reduceLeDiff, Nat.reduceSub, Int.reduceEq, mkLP_zero], by simp -dsimp -implicitDefEqProofs only [go_sem, Nat.reduceBEq, Nat.reduceAdd, Nat.reduceLeDiff, Nat.reduceSub, Int.reduceEq]⟩ ?_
  rintro i ⟨e, σ⟩ hi ⟨h0, h1, h5, hs, hp⟩ K hK
  simp only at h0 h1 h5 hs hp
  have hl := mkLP_length mkCl szCl k hi
  simp -dsimp -implicitDefEqProofs only [go_sem, Nat.reduceBEq, Nat.reduceAdd, Nat.reduceLeDiff, Nat.reduceSub, Int.reduceEq, h0, h1, h5, hs, hp, hl]
  refine ifB'.of (fun hlt => ?_) (fun hlt => ?_)
  · have hlt : i < xs.length := by omega
    have hw := szL_at_le szCl hlt
    have hpb := hb _ (List.getElem_mem hlt)
    have hat := mkCl_at' (mkLP_at mkCl szCl k hlt)
    have hgs : ∀ c : List AV, ((ra clC (mkLP mkCl szCl k xs i)).set i c)[i]? = some c := fun c => by rw [List.getElem?_set_self]; rw [ra_length]; omega
    obtain ⟨m, hm⟩ : ∃ m, k + szL szCl (xs.take i) = m := ⟨_, rfl⟩
    rw [hm] at h1
    have hwm : m + szCl xs[i] ≤ 4611686018427387904 := by omega
    unfold szCl at hwm
    have e0 : IntKind.i64.wrap ((m : Int) + 1) = ((m + 1 : Nat) : Int) := wrapM m 0 (by omega)
    have e1 := wrapM m 1 (by omega)
    repeat (first | with_reducible refine ask.of (by first | omega | decide | (simp [hl]; omega)) ?_ | simp -dsimp -implicitDefEqProofs only [go_sem, Nat.reduceBEq, Nat.reduceAdd, Nat.reduceLeDiff, Nat.reduceSub, Int.reduceEq, h0, h1, h5, hs, hp, hl, hat, clC, hgs, List.set_set, List.length_set, bl3, e0, e1])
    refine CallE.mut (c_markByteS xs[i].f (m + 2) (by omega) (by omega)) (by simp -dsimp -implicitDefEqProofs only [go_sem, Nat.reduceBEq, Nat.reduceAdd, Nat.reduceLeDiff, Nat.reduceSub, Int.reduceEq, h0, h1, h5, hs, hp]) (by rintro r rs ⟨rfl, rfl⟩; exact ⟨by (repeat' first | exact trivial | exact pure_rowB _ | exact pure_rowO _ | exact pure_rowI _ | exact pure_rowBB _ | exact pure_rowPk _ _ | exact pure_rowSn _ _ | exact pure_rowFd _ _ | exact pure_rowBBB _ | exact pure_rowCl _ _ | exact pure_rowTb _ _ _ | refine And.intro ?_ ?_), by first | exact ⟨by (repeat' first | exact trivial | exact pure_rowB _ | exact pure_rowO _ | exact pure_rowI _ | exact pure_rowBB _ | exact pure_rowPk _ _ | exact pure_rowSn _ _ | exact pure_rowFd _ _ | exact pure_rowBBB _ | exact pure_rowCl _ _ | exact pure_rowTb _ _ _ | refine And.intro ?_ ?_), trivial⟩ | exact ⟨by (repeat' first | exact trivial | exact pure_rowB _ | exact pure_rowO _ | exact pure_rowI _ | exact pure_rowBB _ | exact pure_rowPk _ _ | exact pure_rowSn _ _ | exact pure_rowFd _ _ | exact pure_rowBBB _ | exact pure_rowCl _ _ | exact pure_rowTb _ _ _ | refine And.intro ?_ ?_), trivial, trivial⟩⟩) (by simp -dsimp -implicitDefEqProofs only [go_sem, Nat.reduceBEq, Nat.reduceAdd, Nat.reduceLeDiff, Nat.reduceSub, Int.reduceEq, h0, h1, h5, hs, hp, hgs, hat, List.set_set, clC]) (by simp -dsimp -implicitDefEqProofs only [go_sem, Nat.reduceBEq, Nat.reduceAdd, Nat.reduceLeDiff, Nat.reduceSub, Int.reduceEq, h0, h1, h5, hs, hp, hgs, hat, List.set_set, clC]) ?_
    rintro r rs ⟨rfl, rfl⟩
    simp -dsimp -implicitDefEqProofs only [go_sem, Nat.reduceBEq, Nat.reduceAdd, Nat.reduceLeDiff, Nat.reduceSub, Int.reduceEq, h0, h1, h5, hs, hp, hgs, hat, List.set_set, clC]
    repeat (first | with_reducible refine ask.of (by first | omega | decide | (simp [hl]; omega)) ?_ | simp -dsimp -implicitDefEqProofs only [go_sem, Nat.reduceBEq, Nat.reduceAdd, Nat.reduceLeDiff, Nat.reduceSub, Int.reduceEq, h0, h1, h5, hs, hp, hl, hgs, List.set_set, List.length_set, bl3, e0, e1])
    refine hK _ hlt ?_
    simp -dsimp -implicitDefEqProofs only [go_sem, Nat.reduceBEq, Nat.reduceAdd, Nat.reduceLeDiff, Nat.reduceSub, Int.reduceEq, h0, h1, h5, hs, hp, hgs, List.set_set, wrap_succ (show i < 4611686018427387904 by omega), szL_take_succ szCl hlt]
    refine ⟨by rw [← hm]; unfold szCl; omega, ?_⟩
    rw [← mkLP_set mkCl szCl k hlt (y := mkCl m xs[i]) (by rw [hm]), ← mkCl_set]
    rfl
  · have : i = xs.length := by omega
    subst this
    simp -dsimp -implicitDefEqProofs only [go_sem, Nat.reduceBEq, Nat.reduceAdd, Nat.reduceLeDiff, Nat.reduceSub, Int.reduceEq, h0, h1, h5, hs, hp, mkLP_full, List.take_length]
    rfl
end Go.Ev
set_option linter.unusedSimpArgs false
set_option linter.unusedVariables false
namespace Go.Ev
open Go Go.RowKit Go.Proofs
theorem c_markField (f : Fd) (k : Nat) (hk : k + f.f.length ≤ 4611686018427387904) (hb : f.f.length ≤ 1048576) : MeetsM Try.prog 53 [.mu (.agg (fdC f)), .rd (.v (.int .i64 k))] (fun r rs => r = .v (.int .i64 ((k + f.f.length : Nat) : Int)) ∧ rs = [.agg (fdC ⟨mkB k f.f.length, f.k, f.w⟩), .any]) := by
  refine MeetsM.intro mixed (hint []) Try.func53 rfl (by decide) res_53 rty_53 (pts := parTys Try.prog 53) (by rw [par_53]; rfl) (by kernel_rfl) ?_; rw [par_53]; intro vals; 
  simp -dsimp -implicitDefEqProofs only [go_sem, Nat.reduceBEq, Nat.reduceAdd, Nat.reduceLeDiff, Nat.reduceSub, Int.reduceEq, fdC]
  repeat (first | with_reducible refine ask.of (by first | omega | decide) ?_ | simp -dsimp -implicitDefEqProofs only [go_sem, Nat.reduceBEq, Nat.reduceAdd, Nat.reduceLeDiff, Nat.reduceSub, Int.reduceEq, bl3])
  refine CallE.mut (c_markByteS f.f k hk (by omega)) (by simp -dsimp -implicitDefEqProofs only [go_sem, Nat.reduceBEq, Nat.reduceAdd, Nat.reduceLeDiff, Nat.reduceSub, Int.reduceEq]) (by rintro r rs ⟨rfl, rfl⟩; exact ⟨by (repeat' first | exact trivial | exact pure_rowB _ | exact pure_rowO _ | exact pure_rowI _ | exact pure_rowBB _ | exact pure_rowPk _ _ | exact pure_rowSn _ _ | exact pure_rowFd _ _ | exact pure_rowBBB _ | exact pure_rowCl _ _ | exact pure_rowTb _ _ _ | refine And.intro ?_ ?_), by first | exact ⟨by (repeat' first | exact trivial | exact pure_rowB _ | exact pure_rowO _ | exact pure_rowI _ | exact pure_rowBB _ | exact pure_rowPk _ _ | exact pure_rowSn _ _ | exact pure_rowFd _ _ | exact pure_rowBBB _ | exact pure_rowCl _ _ | exact pure_rowTb _ _ _ | refine And.intro ?_ ?_), trivial⟩ | exact ⟨by (repeat' first | exact trivial | exact pure_rowB _ | exact pure_rowO _ | exact pure_rowI _ | exact pure_rowBB _ | exact pure_rowPk _ _ | exact pure_rowSn _ _ | exact pure_rowFd _ _ | exact pure_rowBBB _ | exact pure_rowCl _ _ | exact pure_rowTb _ _ _ | refine And.intro ?_ ?_), trivial, trivial⟩⟩) (by simp -dsimp -implicitDefEqProofs only [go_sem, Nat.reduceBEq, Nat.reduceAdd, Nat.reduceLeDiff, Nat.reduceSub, Int.reduceEq]) (by simp -dsimp -implicitDefEqProofs only [go_sem, Nat.reduceBEq, Nat.reduceAdd, Nat.reduceLeDiff, Nat.reduceSub, Int.reduceEq]) ?_
  rintro r rs ⟨rfl, rfl⟩
  simp -dsimp -implicitDefEqProofs only [go_sem, Nat.reduceBEq, Nat.reduceAdd, Nat.reduceLeDiff, Nat.reduceSub, Int.reduceEq]
  repeat (first | with_reducible refine ask.of (by first | omega | decide) ?_ | simp -dsimp -implicitDefEqProofs only [go_sem, Nat.reduceBEq, Nat.reduceAdd, Nat.reduceLeDiff, Nat.reduceSub, Int.reduceEq, bl3])
theorem packI_le {xs : List Int} {w : Int} (h : xs.length ≤ 1000) : (packIC xs w).1.length ≤ 8000 := by
  unfold packIC
  split
  · rename_i hw
    split
    · show (packI xs w.toNat).length ≤ 8000
      have hw' : w = 1 ∨ w = 2 ∨ w = 4 ∨ w = 8 := by rw [isW_iff] at hw; exact of_decide_eq_true hw
      rw [packI_length]
      rcases hw' with rfl | rfl | rfl | rfl <;> simp <;> omega
    · exact Nat.zero_le _
  · exact Nat.zero_le _
theorem bldL_T {f : Fd} {cs : List Cl} {vs : List (List UInt8)} (hc : szL clW cs ≤ 1048576) : (bldL f cs vs).1.length ≤ 3 ∧ ∀ b ∈ (bldL f cs vs).1, b.length ≤ 1048576 := by
  by_cases h : bcOk f cs vs
  · rw [bldL_yes h]
    have h3 := h.1.2.1
    have hv : (validB cs).length ≤ 1048576 := by
      unfold validB
      split
      · rw [packB_length]; unfold packN; rw [there_len]; omega
      · exact Nat.zero_le _
    have hbits : (packB (bitsL cs)).length ≤ 1048576 := by rw [packB_length]; unfold packN; simp [bitsL]; omega
    have hints := packI_le (xs := intsL cs) (w := f.w) (by simp [intsL]; omega)
    have hoffs := packI_le (xs := offL cs) (w := 4) (by rw [offL, offP_len]; omega)
    have hplcs := packI_le (xs := plcL vs cs) (w := 1) (by simp [plcL]; omega)
    have hdata := data_len cs
    unfold bodyB
    split
    · exact ⟨by simp, fun b hb => by simp at hb; rcases hb with rfl | rfl <;> omega⟩
    split
    · exact ⟨by simp, fun b hb => by simp at hb; rcases hb with rfl | rfl <;> omega⟩
    split
    · exact ⟨by simp, fun b hb => by simp at hb; rcases hb with rfl | rfl | rfl <;> omega⟩
    · exact ⟨by simp, fun b hb => by simp at hb; rcases hb with rfl | rfl <;> omega⟩
  · rw [bldL_no h]; exact ⟨Nat.zero_le _, fun b hb => by cases hb⟩
theorem wBB_small {o : List (List UInt8)} {n : Nat} (h : ∀ b ∈ o, b.length ≤ n) : wBB o ≤ o.length * n := by
  induction o with
  | nil => simp [wBB, szL]
  | cons b o ih =>
    have h1 := h b List.mem_cons_self
    have h2 := ih fun c hc => h c (List.mem_cons_of_mem _ hc)
    simp only [wBB, szL, List.map_cons, List.sum_cons, List.length_cons, Nat.succ_mul] at h2 ⊢
    omega
theorem szCl_le (cs : List Cl) : szL szCl cs ≤ 3 * cs.length + szL clW cs := by
  induction cs with
  | nil => exact Nat.zero_le _
  | cons x xs ih => simp only [szL, List.map_cons, List.sum_cons, szCl, clW, List.length_cons] at ih ⊢; omega
set_option maxRecDepth 8000 in
set_option maxHeartbeats 8000000 in
theorem c_FnExactBuildColumn (f : Fd) (hp0 : f.f.length ≤ 140737488355328) (cs : List Cl) (hp1 : cs.length ≤ 140737488355328 ∧ ∀ p ∈ cs, p.f.length ≤ 140737488355328 ∧ -9223372036854775808 ≤ p.i ∧ p.i ≤ 9223372036854775807) (vs : List (List UInt8)) (hp2 : vs.length * 24 ≤ reachBytes ∧ ∀ a ∈ vs, a.length * 1 ≤ reachBytes ∧ ∀ c ∈ a, True) : Meets Try.prog 7 [.agg (fdC f), rowCl 145 cs, rowBB vs] (fun r => r = .v (.bool true)) := by
  have hr : reachBytes = 140737488351232 := rfl
  have h1 : vs.length ≤ 140737488355328 := by omega
  have h2 : ∀ b ∈ vs, b.length ≤ 140737488355328 := fun b hb => by have := (hp2.2 b hb).1; omega
  refine Meets.introO mixed (hint []) (fun k => (sel (k == 18) [0,1,2,3,4] [])) Try.func7 rfl (by decide) res_7 rty_7 (by kernel_rfl) ?_; 
  simp -dsimp -implicitDefEqProofs only [go_sem, Nat.reduceBEq, Nat.reduceAdd, Nat.reduceLeDiff, Nat.reduceSub, Int.reduceEq, fdC, rowCl]
  repeat (first | with_reducible refine ask.of (by first | omega | decide) ?_ | simp -dsimp -implicitDefEqProofs only [go_sem, Nat.reduceBEq, Nat.reduceAdd, Nat.reduceLeDiff, Nat.reduceSub, Int.reduceEq, bl3])
  refine CallE.of (c_szField f 1048576 hp0 (by omega)) (by rintro r rfl; (repeat' first | exact trivial | exact pure_rowB _ | exact pure_rowO _ | exact pure_rowI _ | exact pure_rowBB _ | exact pure_rowPk _ _ | exact pure_rowSn _ _ | exact pure_rowFd _ _ | exact pure_rowBBB _ | exact pure_rowCl _ _ | exact pure_rowTb _ _ _ | refine And.intro ?_ ?_)) (by simp -dsimp -implicitDefEqProofs only [go_sem, Nat.reduceBEq, Nat.reduceAdd, Nat.reduceLeDiff, Nat.reduceSub, Int.reduceEq, fdC]) ?_
  rintro r rfl
  simp -dsimp -implicitDefEqProofs only [go_sem, Nat.reduceBEq, Nat.reduceAdd, Nat.reduceLeDiff, Nat.reduceSub, Int.reduceEq, fdC]
  refine ifB'.of (fun h => ?_) (fun h => ?_)
  · simp -dsimp -implicitDefEqProofs only [go_sem, Nat.reduceBEq, Nat.reduceAdd, Nat.reduceLeDiff, Nat.reduceSub, Int.reduceEq]
  have hw0 : f.f.length ≤ 1048576 := Classical.byContradiction fun h' => h (by rw [szR_no h']; decide)
  rw [szR_ok hw0]
  repeat (first | with_reducible refine ask.of (by first | omega | decide) ?_ | simp -dsimp -implicitDefEqProofs only [go_sem, Nat.reduceBEq, Nat.reduceAdd, Nat.reduceLeDiff, Nat.reduceSub, Int.reduceEq, bl3])
  refine CallE.of (c_szCellS cs (1048576 - f.f.length) (by omega) hp1.1 (fun b hb => (hp1.2 b hb).1)) (by rintro r rfl; (repeat' first | exact trivial | exact pure_rowB _ | exact pure_rowO _ | exact pure_rowI _ | exact pure_rowBB _ | exact pure_rowPk _ _ | exact pure_rowSn _ _ | exact pure_rowFd _ _ | exact pure_rowBBB _ | exact pure_rowCl _ _ | exact pure_rowTb _ _ _ | refine And.intro ?_ ?_)) (by simp -dsimp -implicitDefEqProofs only [go_sem, Nat.reduceBEq, Nat.reduceAdd, Nat.reduceLeDiff, Nat.reduceSub, Int.reduceEq, rowCl]) ?_
  rintro r rfl
  simp -dsimp -implicitDefEqProofs only [go_sem, Nat.reduceBEq, Nat.reduceAdd, Nat.reduceLeDiff, Nat.reduceSub, Int.reduceEq, rowCl]
  refine ifB'.of (fun h => ?_) (fun h => ?_)
  · simp -dsimp -implicitDefEqProofs only [go_sem, Nat.reduceBEq, Nat.reduceAdd, Nat.reduceLeDiff, Nat.reduceSub, Int.reduceEq]
  have hw1 : cs.length + szL clW cs ≤ 1048576 - f.f.length := Classical.byContradiction fun h' => h (by rw [szR_no h']; decide)
  rw [szR_ok hw1]
  repeat (first | with_reducible refine ask.of (by first | omega | decide) ?_ | simp -dsimp -implicitDefEqProofs only [go_sem, Nat.reduceBEq, Nat.reduceAdd, Nat.reduceLeDiff, Nat.reduceSub, Int.reduceEq, bl3])
  refine CallE.of (c_szByteSS vs (1048576 - f.f.length - (cs.length + szL clW cs)) (by omega) h1 h2) (by rintro r rfl; (repeat' first | exact trivial | exact pure_rowB _ | exact pure_rowO _ | exact pure_rowI _ | exact pure_rowBB _ | exact pure_rowPk _ _ | exact pure_rowSn _ _ | exact pure_rowFd _ _ | exact pure_rowBBB _ | exact pure_rowCl _ _ | exact pure_rowTb _ _ _ | refine And.intro ?_ ?_)) (by simp -dsimp -implicitDefEqProofs only [go_sem, Nat.reduceBEq, Nat.reduceAdd, Nat.reduceLeDiff, Nat.reduceSub, Int.reduceEq]) ?_
  rintro r rfl
  simp -dsimp -implicitDefEqProofs only [go_sem, Nat.reduceBEq, Nat.reduceAdd, Nat.reduceLeDiff, Nat.reduceSub, Int.reduceEq]
  refine ifB'.of (fun h => ?_) (fun h => ?_)
  · simp -dsimp -implicitDefEqProofs only [go_sem, Nat.reduceBEq, Nat.reduceAdd, Nat.reduceLeDiff, Nat.reduceSub, Int.reduceEq]
  have hw2 : vs.length + wBB vs ≤ 1048576 - f.f.length - (cs.length + szL clW cs) := Classical.byContradiction fun h' => h (by rw [szR_no h']; decide)
  have hcb : ∀ c ∈ cs, c.f.length ≤ 1048576 := fun c h => by have := clW_mem h; omega
  have hvb : ∀ b ∈ vs, b.length ≤ 1048576 := fun b hb => by have := mem_wBB hb; omega
  have hcs := szCl_le cs
  have hs := c_specBuildColumn f cs vs hw0 (by omega) (by omega)
  have hi := c_implBuildColumn f cs vs hw0 (by omega) (fun c h => (hp1.2 c h).2) (by omega)
  have hy := bldL_T (f := f) (cs := cs) (vs := vs) (by omega)
  unfold resB at hs hi
  generalize bldL f cs vs = yc at *
  obtain ⟨y, c⟩ := yc
  simp only at hs hi hy
  obtain ⟨hy1, hy2⟩ := hy
  have hyw := wBB_small hy2
  have hy3 : ∀ b ∈ y, b.length ≤ 8388608 := fun b h => by have := hy2 b h; omega
  have hyw2 : wBB y ≤ 3145728 := Nat.le_trans hyw (Nat.le_trans (Nat.mul_le_mul_right _ hy1) (by decide))
  repeat' (first
    | with_reducible refine ask.of (by omega) ?_
    | (refine CallE.of (hs) ?_ ?_ ?_; rotate_left; (· (simp -dsimp -implicitDefEqProofs only [go_sem, Nat.reduceBEq, Nat.reduceAdd, Nat.reduceLeDiff, Nat.reduceSub, Int.reduceEq, bl3, fdC, rowCl, Bool.not_true, decide_true]; done)); rotate_left; (· (rintro r rfl; (repeat' first | exact trivial | exact pure_rowB _ | exact pure_rowO _ | exact pure_rowI _ | exact pure_rowBB _ | exact pure_rowPk _ _ | exact pure_rowSn _ _ | exact pure_rowFd _ _ | exact pure_rowBBB _ | exact pure_rowCl _ _ | exact pure_rowTb _ _ _ | refine And.intro ?_ ?_))); rintro r rfl; try simp -dsimp -implicitDefEqProofs only [go_sem, Nat.reduceBEq, Nat.reduceAdd, Nat.reduceLeDiff, Nat.reduceSub, Int.reduceEq, bl3, fdC, rowCl, Bool.not_true, decide_true])
    | (refine CallE.of (hi) ?_ ?_ ?_; rotate_left; (· (simp -dsimp -implicitDefEqProofs only [go_sem, Nat.reduceBEq, Nat.reduceAdd, Nat.reduceLeDiff, Nat.reduceSub, Int.reduceEq, bl3, fdC, rowCl, Bool.not_true, decide_true]; done)); rotate_left; (· (rintro r rfl; (repeat' first | exact trivial | exact pure_rowB _ | exact pure_rowO _ | exact pure_rowI _ | exact pure_rowBB _ | exact pure_rowPk _ _ | exact pure_rowSn _ _ | exact pure_rowFd _ _ | exact pure_rowBBB _ | exact pure_rowCl _ _ | exact pure_rowTb _ _ _ | refine And.intro ?_ ?_))); rintro r rfl; try simp -dsimp -implicitDefEqProofs only [go_sem, Nat.reduceBEq, Nat.reduceAdd, Nat.reduceLeDiff, Nat.reduceSub, Int.reduceEq, bl3, fdC, rowCl, Bool.not_true, decide_true])
    | (refine CallE.of (c_toField f hw0) ?_ ?_ ?_; rotate_left; (· (simp -dsimp -implicitDefEqProofs only [go_sem, Nat.reduceBEq, Nat.reduceAdd, Nat.reduceLeDiff, Nat.reduceSub, Int.reduceEq, bl3, fdC, rowCl, Bool.not_true, decide_true]; done)); rotate_left; (· (rintro r rfl; (repeat' first | exact trivial | exact pure_rowB _ | exact pure_rowO _ | exact pure_rowI _ | exact pure_rowBB _ | exact pure_rowPk _ _ | exact pure_rowSn _ _ | exact pure_rowFd _ _ | exact pure_rowBBB _ | exact pure_rowCl _ _ | exact pure_rowTb _ _ _ | refine And.intro ?_ ?_))); rintro r rfl; try simp -dsimp -implicitDefEqProofs only [go_sem, Nat.reduceBEq, Nat.reduceAdd, Nat.reduceLeDiff, Nat.reduceSub, Int.reduceEq, bl3, fdC, rowCl, Bool.not_true, decide_true])
    | (refine CallE.of (c_toCellS cs (by omega) hcb) ?_ ?_ ?_; rotate_left; (· (simp -dsimp -implicitDefEqProofs only [go_sem, Nat.reduceBEq, Nat.reduceAdd, Nat.reduceLeDiff, Nat.reduceSub, Int.reduceEq, bl3, fdC, rowCl, Bool.not_true, decide_true]; done)); rotate_left; (· (rintro r rfl; (repeat' first | exact trivial | exact pure_rowB _ | exact pure_rowO _ | exact pure_rowI _ | exact pure_rowBB _ | exact pure_rowPk _ _ | exact pure_rowSn _ _ | exact pure_rowFd _ _ | exact pure_rowBBB _ | exact pure_rowCl _ _ | exact pure_rowTb _ _ _ | refine And.intro ?_ ?_))); rintro r rfl; try simp -dsimp -implicitDefEqProofs only [go_sem, Nat.reduceBEq, Nat.reduceAdd, Nat.reduceLeDiff, Nat.reduceSub, Int.reduceEq, bl3, fdC, rowCl, Bool.not_true, decide_true])
    | (refine CallE.of (c_toByteSS vs (by omega) hvb) ?_ ?_ ?_; rotate_left; (· (simp -dsimp -implicitDefEqProofs only [go_sem, Nat.reduceBEq, Nat.reduceAdd, Nat.reduceLeDiff, Nat.reduceSub, Int.reduceEq, bl3, fdC, rowCl, Bool.not_true, decide_true]; done)); rotate_left; (· (rintro r rfl; (repeat' first | exact trivial | exact pure_rowB _ | exact pure_rowO _ | exact pure_rowI _ | exact pure_rowBB _ | exact pure_rowPk _ _ | exact pure_rowSn _ _ | exact pure_rowFd _ _ | exact pure_rowBBB _ | exact pure_rowCl _ _ | exact pure_rowTb _ _ _ | refine And.intro ?_ ?_))); rintro r rfl; try simp -dsimp -implicitDefEqProofs only [go_sem, Nat.reduceBEq, Nat.reduceAdd, Nat.reduceLeDiff, Nat.reduceSub, Int.reduceEq, bl3, fdC, rowCl, Bool.not_true, decide_true])
    | (refine CallE.of (c_eqByteSS y (by omega) hy3) ?_ ?_ ?_; rotate_left; (· (simp -dsimp -implicitDefEqProofs only [go_sem, Nat.reduceBEq, Nat.reduceAdd, Nat.reduceLeDiff, Nat.reduceSub, Int.reduceEq, bl3, fdC, rowCl, Bool.not_true, decide_true]; done)); rotate_left; (· (rintro r rfl; (repeat' first | exact trivial | exact pure_rowB _ | exact pure_rowO _ | exact pure_rowI _ | exact pure_rowBB _ | exact pure_rowPk _ _ | exact pure_rowSn _ _ | exact pure_rowFd _ _ | exact pure_rowBBB _ | exact pure_rowCl _ _ | exact pure_rowTb _ _ _ | refine And.intro ?_ ?_))); rintro r rfl; try simp -dsimp -implicitDefEqProofs only [go_sem, Nat.reduceBEq, Nat.reduceAdd, Nat.reduceLeDiff, Nat.reduceSub, Int.reduceEq, bl3, fdC, rowCl, Bool.not_true, decide_true])
    | (refine CallE.of (c_eqField f hw0) ?_ ?_ ?_; rotate_left; (· (simp -dsimp -implicitDefEqProofs only [go_sem, Nat.reduceBEq, Nat.reduceAdd, Nat.reduceLeDiff, Nat.reduceSub, Int.reduceEq, bl3, fdC, rowCl, Bool.not_true, decide_true]; done)); rotate_left; (· (rintro r rfl; (repeat' first | exact trivial | exact pure_rowB _ | exact pure_rowO _ | exact pure_rowI _ | exact pure_rowBB _ | exact pure_rowPk _ _ | exact pure_rowSn _ _ | exact pure_rowFd _ _ | exact pure_rowBBB _ | exact pure_rowCl _ _ | exact pure_rowTb _ _ _ | refine And.intro ?_ ?_))); rintro r rfl; try simp -dsimp -implicitDefEqProofs only [go_sem, Nat.reduceBEq, Nat.reduceAdd, Nat.reduceLeDiff, Nat.reduceSub, Int.reduceEq, bl3, fdC, rowCl, Bool.not_true, decide_true])
    | (refine CallE.of (c_eqCellS cs (by omega) hcb) ?_ ?_ ?_; rotate_left; (· (simp -dsimp -implicitDefEqProofs only [go_sem, Nat.reduceBEq, Nat.reduceAdd, Nat.reduceLeDiff, Nat.reduceSub, Int.reduceEq, bl3, fdC, rowCl, Bool.not_true, decide_true]; done)); rotate_left; (· (rintro r rfl; (repeat' first | exact trivial | exact pure_rowB _ | exact pure_rowO _ | exact pure_rowI _ | exact pure_rowBB _ | exact pure_rowPk _ _ | exact pure_rowSn _ _ | exact pure_rowFd _ _ | exact pure_rowBBB _ | exact pure_rowCl _ _ | exact pure_rowTb _ _ _ | refine And.intro ?_ ?_))); rintro r rfl; try simp -dsimp -implicitDefEqProofs only [go_sem, Nat.reduceBEq, Nat.reduceAdd, Nat.reduceLeDiff, Nat.reduceSub, Int.reduceEq, bl3, fdC, rowCl, Bool.not_true, decide_true])
    | (refine CallE.of (c_eqByteSS vs (by omega) (fun b h => by have := hvb b h; omega)) ?_ ?_ ?_; rotate_left; (· (simp -dsimp -implicitDefEqProofs only [go_sem, Nat.reduceBEq, Nat.reduceAdd, Nat.reduceLeDiff, Nat.reduceSub, Int.reduceEq, bl3, fdC, rowCl, Bool.not_true, decide_true]; done)); rotate_left; (· (rintro r rfl; (repeat' first | exact trivial | exact pure_rowB _ | exact pure_rowO _ | exact pure_rowI _ | exact pure_rowBB _ | exact pure_rowPk _ _ | exact pure_rowSn _ _ | exact pure_rowFd _ _ | exact pure_rowBBB _ | exact pure_rowCl _ _ | exact pure_rowTb _ _ _ | refine And.intro ?_ ?_))); rintro r rfl; try simp -dsimp -implicitDefEqProofs only [go_sem, Nat.reduceBEq, Nat.reduceAdd, Nat.reduceLeDiff, Nat.reduceSub, Int.reduceEq, bl3, fdC, rowCl, Bool.not_true, decide_true])
    | (refine CallE.mut (c_markField f 1 (by omega) hw0) (by simp -dsimp -implicitDefEqProofs only [go_sem, Nat.reduceBEq, Nat.reduceAdd, Nat.reduceLeDiff, Nat.reduceSub, Int.reduceEq]) ?_ ?_ ?_ ?_; rotate_left; (· (simp -dsimp -implicitDefEqProofs only [go_sem, Nat.reduceBEq, Nat.reduceAdd, Nat.reduceLeDiff, Nat.reduceSub, Int.reduceEq, bl3, fdC, rowCl, Bool.not_true, decide_true]; done)); (· (simp -dsimp -implicitDefEqProofs only [go_sem, Nat.reduceBEq, Nat.reduceAdd, Nat.reduceLeDiff, Nat.reduceSub, Int.reduceEq, bl3, fdC, rowCl, Bool.not_true, decide_true]; done)); rotate_left; (· (rintro r rs ⟨rfl, rfl⟩; exact ⟨by (repeat' first | exact trivial | exact pure_rowB _ | exact pure_rowO _ | exact pure_rowI _ | exact pure_rowBB _ | exact pure_rowPk _ _ | exact pure_rowSn _ _ | exact pure_rowFd _ _ | exact pure_rowBBB _ | exact pure_rowCl _ _ | exact pure_rowTb _ _ _ | refine And.intro ?_ ?_), by first | exact ⟨by (repeat' first | exact trivial | exact pure_rowB _ | exact pure_rowO _ | exact pure_rowI _ | exact pure_rowBB _ | exact pure_rowPk _ _ | exact pure_rowSn _ _ | exact pure_rowFd _ _ | exact pure_rowBBB _ | exact pure_rowCl _ _ | exact pure_rowTb _ _ _ | refine And.intro ?_ ?_), trivial⟩ | exact ⟨by (repeat' first | exact trivial | exact pure_rowB _ | exact pure_rowO _ | exact pure_rowI _ | exact pure_rowBB _ | exact pure_rowPk _ _ | exact pure_rowSn _ _ | exact pure_rowFd _ _ | exact pure_rowBBB _ | exact pure_rowCl _ _ | exact pure_rowTb _ _ _ | refine And.intro ?_ ?_), trivial, trivial⟩⟩)); rintro r rs ⟨rfl, rfl⟩; try simp -dsimp -implicitDefEqProofs only [go_sem, Nat.reduceBEq, Nat.reduceAdd, Nat.reduceLeDiff, Nat.reduceSub, Int.reduceEq, bl3, fdC, rowCl, Bool.not_true, decide_true])
    | (refine CallE.mut (c_markCellS cs (1 + f.f.length) (by omega) (by omega) hcb) (by simp -dsimp -implicitDefEqProofs only [go_sem, Nat.reduceBEq, Nat.reduceAdd, Nat.reduceLeDiff, Nat.reduceSub, Int.reduceEq]) ?_ ?_ ?_ ?_; rotate_left; (· (simp -dsimp -implicitDefEqProofs only [go_sem, Nat.reduceBEq, Nat.reduceAdd, Nat.reduceLeDiff, Nat.reduceSub, Int.reduceEq, bl3, fdC, rowCl, Bool.not_true, decide_true]; done)); (· (simp -dsimp -implicitDefEqProofs only [go_sem, Nat.reduceBEq, Nat.reduceAdd, Nat.reduceLeDiff, Nat.reduceSub, Int.reduceEq, bl3, fdC, rowCl, Bool.not_true, decide_true]; done)); rotate_left; (· (rintro r rs ⟨rfl, rfl⟩; exact ⟨by (repeat' first | exact trivial | exact pure_rowB _ | exact pure_rowO _ | exact pure_rowI _ | exact pure_rowBB _ | exact pure_rowPk _ _ | exact pure_rowSn _ _ | exact pure_rowFd _ _ | exact pure_rowBBB _ | exact pure_rowCl _ _ | exact pure_rowTb _ _ _ | refine And.intro ?_ ?_), by first | exact ⟨by (repeat' first | exact trivial | exact pure_rowB _ | exact pure_rowO _ | exact pure_rowI _ | exact pure_rowBB _ | exact pure_rowPk _ _ | exact pure_rowSn _ _ | exact pure_rowFd _ _ | exact pure_rowBBB _ | exact pure_rowCl _ _ | exact pure_rowTb _ _ _ | refine And.intro ?_ ?_), trivial⟩ | exact ⟨by (repeat' first | exact trivial | exact pure_rowB _ | exact pure_rowO _ | exact pure_rowI _ | exact pure_rowBB _ | exact pure_rowPk _ _ | exact pure_rowSn _ _ | exact pure_rowFd _ _ | exact pure_rowBBB _ | exact pure_rowCl _ _ | exact pure_rowTb _ _ _ | refine And.intro ?_ ?_), trivial, trivial⟩⟩)); rintro r rs ⟨rfl, rfl⟩; try simp -dsimp -implicitDefEqProofs only [go_sem, Nat.reduceBEq, Nat.reduceAdd, Nat.reduceLeDiff, Nat.reduceSub, Int.reduceEq, bl3, fdC, rowCl, Bool.not_true, decide_true])
    | (refine CallE.mut (c_markByteSS vs (1 + f.f.length + szL szCl cs) (by omega) (by omega) (fun b h => by have := hvb b h; omega)) (by simp -dsimp -implicitDefEqProofs only [go_sem, Nat.reduceBEq, Nat.reduceAdd, Nat.reduceLeDiff, Nat.reduceSub, Int.reduceEq]) ?_ ?_ ?_ ?_; rotate_left; (· (simp -dsimp -implicitDefEqProofs only [go_sem, Nat.reduceBEq, Nat.reduceAdd, Nat.reduceLeDiff, Nat.reduceSub, Int.reduceEq, bl3, fdC, rowCl, Bool.not_true, decide_true]; done)); (· (simp -dsimp -implicitDefEqProofs only [go_sem, Nat.reduceBEq, Nat.reduceAdd, Nat.reduceLeDiff, Nat.reduceSub, Int.reduceEq, bl3, fdC, rowCl, Bool.not_true, decide_true]; done)); rotate_left; (· (rintro r rs ⟨rfl, rfl⟩; exact ⟨by (repeat' first | exact trivial | exact pure_rowB _ | exact pure_rowO _ | exact pure_rowI _ | exact pure_rowBB _ | exact pure_rowPk _ _ | exact pure_rowSn _ _ | exact pure_rowFd _ _ | exact pure_rowBBB _ | exact pure_rowCl _ _ | exact pure_rowTb _ _ _ | refine And.intro ?_ ?_), by first | exact ⟨by (repeat' first | exact trivial | exact pure_rowB _ | exact pure_rowO _ | exact pure_rowI _ | exact pure_rowBB _ | exact pure_rowPk _ _ | exact pure_rowSn _ _ | exact pure_rowFd _ _ | exact pure_rowBBB _ | exact pure_rowCl _ _ | exact pure_rowTb _ _ _ | refine And.intro ?_ ?_), trivial⟩ | exact ⟨by (repeat' first | exact trivial | exact pure_rowB _ | exact pure_rowO _ | exact pure_rowI _ | exact pure_rowBB _ | exact pure_rowPk _ _ | exact pure_rowSn _ _ | exact pure_rowFd _ _ | exact pure_rowBBB _ | exact pure_rowCl _ _ | exact pure_rowTb _ _ _ | refine And.intro ?_ ?_), trivial, trivial⟩⟩)); rintro r rs ⟨rfl, rfl⟩; try simp -dsimp -implicitDefEqProofs only [go_sem, Nat.reduceBEq, Nat.reduceAdd, Nat.reduceLeDiff, Nat.reduceSub, Int.reduceEq, bl3, fdC, rowCl, Bool.not_true, decide_true])
    | (refine CallE.mut (c_markByteSS y 1 (by omega) (by omega) hy3) (by simp -dsimp -implicitDefEqProofs only [go_sem, Nat.reduceBEq, Nat.reduceAdd, Nat.reduceLeDiff, Nat.reduceSub, Int.reduceEq]) ?_ ?_ ?_ ?_; rotate_left; (· (simp -dsimp -implicitDefEqProofs only [go_sem, Nat.reduceBEq, Nat.reduceAdd, Nat.reduceLeDiff, Nat.reduceSub, Int.reduceEq, bl3, fdC, rowCl, Bool.not_true, decide_true]; done)); (· (simp -dsimp -implicitDefEqProofs only [go_sem, Nat.reduceBEq, Nat.reduceAdd, Nat.reduceLeDiff, Nat.reduceSub, Int.reduceEq, bl3, fdC, rowCl, Bool.not_true, decide_true]; done)); rotate_left; (· (rintro r rs ⟨rfl, rfl⟩; exact ⟨by (repeat' first | exact trivial | exact pure_rowB _ | exact pure_rowO _ | exact pure_rowI _ | exact pure_rowBB _ | exact pure_rowPk _ _ | exact pure_rowSn _ _ | exact pure_rowFd _ _ | exact pure_rowBBB _ | exact pure_rowCl _ _ | exact pure_rowTb _ _ _ | refine And.intro ?_ ?_), by first | exact ⟨by (repeat' first | exact trivial | exact pure_rowB _ | exact pure_rowO _ | exact pure_rowI _ | exact pure_rowBB _ | exact pure_rowPk _ _ | exact pure_rowSn _ _ | exact pure_rowFd _ _ | exact pure_rowBBB _ | exact pure_rowCl _ _ | exact pure_rowTb _ _ _ | refine And.intro ?_ ?_), trivial⟩ | exact ⟨by (repeat' first | exact trivial | exact pure_rowB _ | exact pure_rowO _ | exact pure_rowI _ | exact pure_rowBB _ | exact pure_rowPk _ _ | exact pure_rowSn _ _ | exact pure_rowFd _ _ | exact pure_rowBBB _ | exact pure_rowCl _ _ | exact pure_rowTb _ _ _ | refine And.intro ?_ ?_), trivial, trivial⟩⟩)); rintro r rs ⟨rfl, rfl⟩; try simp -dsimp -implicitDefEqProofs only [go_sem, Nat.reduceBEq, Nat.reduceAdd, Nat.reduceLeDiff, Nat.reduceSub, Int.reduceEq, bl3, fdC, rowCl, Bool.not_true, decide_true])
    | (refine CallE.of (c_heldByteSS y 1 (by omega) (by omega) hy3) ?_ ?_ ?_; rotate_left; (· (simp -dsimp -implicitDefEqProofs only [go_sem, Nat.reduceBEq, Nat.reduceAdd, Nat.reduceLeDiff, Nat.reduceSub, Int.reduceEq, bl3, fdC, rowCl, Bool.not_true, decide_true]; done)); rotate_left; (· (rintro r rfl; (repeat' first | exact trivial | exact pure_rowB _ | exact pure_rowO _ | exact pure_rowI _ | exact pure_rowBB _ | exact pure_rowPk _ _ | exact pure_rowSn _ _ | exact pure_rowFd _ _ | exact pure_rowBBB _ | exact pure_rowCl _ _ | exact pure_rowTb _ _ _ | refine And.intro ?_ ?_))); rintro r rfl; try simp -dsimp -implicitDefEqProofs only [go_sem, Nat.reduceBEq, Nat.reduceAdd, Nat.reduceLeDiff, Nat.reduceSub, Int.reduceEq, bl3, fdC, rowCl, Bool.not_true, decide_true])
    | with_reducible refine ifB'.no (by omega) ?_
    | simp -dsimp -implicitDefEqProofs only [go_sem, Nat.reduceBEq, Nat.reduceAdd, Nat.reduceLeDiff, Nat.reduceSub, Int.reduceEq, bl3, fdC, rowCl, Bool.not_true, decide_true])
end Go.Ev
set_option linter.unusedSimpArgs false
set_option linter.unusedVariables false
namespace Go.Ev
open Go Go.RowKit
variable {P : Program}
theorem RepVs.shift {C : Cx} {cl : Bool} {o : Org} : ∀ {us : List AV} {vs : List Value} {q q' : Nat}, RepVs C cl (.read o) q us vs → RepVs C cl (.read o) q' us vs
  | [], vs, q, q', h => h
  | c :: cs, vs, q, q', h => by
    obtain ⟨y, ys, e, h1, h2⟩ := h
    exact ⟨y, ys, e, h1, RepVs.shift h2⟩
theorem RepVs.app {C : Cx} {cl : Bool} {o : Org} {bs : List AV} {ws : List Value} : ∀ {us : List AV} {vs : List Value} {q : Nat}, RepVs C cl (.read o) q us vs → RepVs C cl (.read o) 0 bs ws → RepVs C cl (.read o) q (us ++ bs) (vs ++ ws)
  | [], vs, q, h, h' => by
    have e : vs = [] := h
    rw [e]; exact h'.shift
  | c :: cs, vs, q, h, h' => by
    obtain ⟨y, ys, e, h1, h2⟩ := h
    exact ⟨y, ys ++ ws, by rw [e]; rfl, h1, RepVs.app h2 h'⟩
def OpensG (P : Program) (fs : List Field) (off tot : Nat) {α : Type} (enc : α → List AV) (inv : α → Prop) : Prop :=
  ∀ {H : Type} (eh : TypeId × Value → H) (W : World) (n : Nat) (cs : List Value) (xs : List (DataW H × List MemPlace)), cs.length = tot → xs.length = fs.length →
    (∀ (i : Nat) (f : Field), fs[i]? = some f → DataW.trod eh P W 0 (fun _ => true) true n f.type ((cs.drop f.offset).take (P.cellsOf f.type)) = xs[i]?) → (∀ m ∈ DataW.weightsEach P (fs.map (·.type)) (xs.map (·.1)), m ≤ reachBytes) →
    ∃ a : α, inv a ∧ RepVs (inC W) true (.read .ent) 0 (enc a) (cs.drop off)
theorem OpensG.nil {tot : Nat} : OpensG P [] tot tot (fun _ : Unit => []) (fun _ => True) := fun eh W n cs xs h _ _ _ => ⟨(), trivial, by rw [List.drop_of_length_le (by omega)]; rfl⟩
theorem OpensG.cons {f : Field} {fs : List Field} {off k tot : Nat} {α β : Type} {enc : α → List AV} {inv : α → Prop} {encs : β → List AV} {invs : β → Prop} (hoff : f.offset = off) (hk : P.cellsOf f.type = k) (h : Opens P f.type enc inv) (hs : OpensG P fs (off + k) tot encs invs) :
    OpensG P (f :: fs) off tot (fun p : α × β => enc p.1 ++ encs p.2) (fun p => inv p.1 ∧ invs p.2) := fun eh W n cs xs hl hx hf hw => by
  match xs, hx with
  | x :: xs, hx =>
    have h0 := hf 0 f rfl
    rw [hoff, hk] at h0
    obtain ⟨a, ha, hra⟩ := h eh W n _ x h0 (fun m hm => hw m (by simp only [List.map_cons, DataW.weightsEach, List.mem_append]; exact .inl hm))
    obtain ⟨b, hb, hrb⟩ := hs eh W n cs xs hl (by simpa using hx) (fun i g hg => by simpa using hf (i + 1) g (by simpa using hg)) (fun m hm => hw m (by simp only [List.map_cons, DataW.weightsEach, List.mem_append]; exact .inr hm))
    refine ⟨(a, b), ⟨ha, hb⟩, ?_⟩
    have e : cs.drop off = (cs.drop off).take k ++ cs.drop (off + k) := by rw [← List.drop_drop, List.take_append_drop]
    rw [e]
    exact hra.app hrb
theorem Opens.struct {t : TypeId} {fs : Array Field} {tot : Nat} (ht : P.underlying t = some (.struct fs)) (htot : P.cellsOf t = tot) {α : Type} {enc : α → List AV} {inv : α → Prop} (h : OpensG P fs.toList 0 tot enc inv) : Opens P t enc inv := fun eh W fuel cs x hx hw => by
  obtain ⟨xs, n, _, rfl, hl, hlen, hf⟩ := DataW.trod_struct ht hx
  obtain ⟨a, ha, hr⟩ := h eh W n cs xs (by rw [hl, htot]) (by simpa using hlen) (fun i f hi => hf i f (by simpa using hi)) (fun m hm => hw m (by simp only [DataW.weights, ht]; exact hm))
  exact ⟨a, ha, hr⟩
theorem Opens.map {t : TypeId} {α β : Type} {enc : α → List AV} {inv : α → Prop} {enc' : β → List AV} {inv' : β → Prop} (g : α → β) (he : ∀ a, enc' (g a) = enc a) (hi : ∀ a, inv a → inv' (g a)) (h : Opens P t enc inv) : Opens P t enc' inv' := fun eh W fuel cs x hx hw => by
  obtain ⟨a, ha, hr⟩ := h eh W fuel cs x hx hw
  exact ⟨g a, hi a ha, by rw [he]; exact hr⟩
end Go.Ev
