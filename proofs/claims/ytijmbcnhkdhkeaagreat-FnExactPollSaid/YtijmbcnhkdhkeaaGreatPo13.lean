/- Part 13 of what the row leans on: the evaluator, words, contracts of functions; pruned by a program of ours. -/
import Derived.Test.YtijmbcnhkdhkeaaGreatPo12
set_option linter.unusedSimpArgs false
set_option linter.unusedVariables false
namespace Go.Ev
open Go Go.RowKit Go.Proofs
def tbW (x : Tb) : Nat := x.c.length + szL clW x.c
def tb0 : Tb := ⟨0, []⟩
def tOk (x : Tb) (n : Nat) : Prop := x.c.length ≤ n ∧ ∀ c ∈ x.c, c.f.length ≤ n
def rowTb (T C : Nat) (xs : List Tb) : AV := .row T 2 (ra (tbC C) xs)
theorem bl22 : Nat.ble 1 2 = true ∧ Nat.ble 2 2 = true := ⟨rfl, rfl⟩
theorem pure_rowTb (T C : Nat) (xs : List Tb) : (rowTb T C xs).pure := pureEls_ra (enc := tbC C) (fun x => ⟨trivial, pureEls_ra (enc := clC) (fun x => ⟨trivial, trivial, pureEls_bytes _, trivial⟩) x.c, trivial⟩) xs
theorem tbA_at {C : Nat} {xs : List Tb} {i : Nat} (h : i < xs.length) : (ra (tbC C) xs)[i]? = some [.v (.int .i64 xs[i].r), .row C 3 (ra clC xs[i].c)] := ra_at h
theorem tbA_set (C : Nat) (xs : List Tb) (i : Nat) (x : Tb) : (ra (tbC C) xs).set i [.v (.int .i64 x.r), .row C 3 (ra clC x.c)] = ra (tbC C) (xs.set i x) := ra_set (enc := tbC C) xs i x
theorem tbA_zeros (C n : Nat) : List.replicate n [AV.v (.int .i64 0), AV.row C 3 []] = ra (tbC C) (List.replicate n tb0) := by simp [ra, tbC, tb0]
theorem tb_snoc (C : Nat) (xs : List Tb) (x : Tb) : ra (tbC C) xs ++ [[.v (.int .i64 x.r), .row C 3 (ra clC x.c)]] = ra (tbC C) (xs ++ [x]) := by simp [ra, tbC]
theorem tb_takeS {C : Nat} {xs : List Tb} {i : Nat} (h : i < xs.length) : ra (tbC C) (xs.take i) ++ [[.v (.int .i64 xs[i].r), .row C 3 (ra clC xs[i].c)]] = ra (tbC C) (xs.take (i + 1)) := by rw [tb_snoc, List.take_succ_eq_append_getElem h]
theorem cl_snoc (xs : List Cl) (x : Cl) : ra clC xs ++ [[.v (.bool x.z), .v (.int .i64 x.i), .row 5 1 (bytesA x.f)]] = ra clC (xs ++ [x]) := by simp [ra, clC]
theorem cl_takeS {xs : List Cl} {i : Nat} (h : i < xs.length) : ra clC (xs.take i) ++ [[.v (.bool xs[i].z), .v (.int .i64 xs[i].i), .row 5 1 (bytesA xs[i].f)]] = ra clC (xs.take (i + 1)) := by rw [cl_snoc, List.take_succ_eq_append_getElem h]
theorem clW_mem {xs : List Cl} {b : Cl} (h : b ∈ xs) : b.f.length ≤ szL clW xs := mem_clW h
theorem tbW_ok {x : Tb} {n : Nat} (h : tbW x ≤ n) : tOk x n := ⟨by unfold tbW at h; omega, fun c hc => by have := clW_mem hc; unfold tbW at h; omega⟩
theorem mem_tbW {xs : List Tb} {b : Tb} (h : b ∈ xs) : tbW b ≤ szL tbW xs := by
  obtain ⟨i, hi, rfl⟩ := List.mem_iff_getElem.1 h
  have := szL_at_le tbW hi
  omega
theorem c_szTableS (xs : List Tb) (left : Nat) (hl : left ≤ 1048576) (hx : xs.length ≤ 140737488355328) (hb : ∀ b ∈ xs, tOk b 140737488355328) : Meets Tryz.prog 31 [rowTb 60 132 xs, .v (.int .i64 left)] (fun r => r = .v (.int .i64 (szR left (xs.length + szL tbW xs)))) := by
  refine Meets.intro mixed (hint []) Tryz.func31 rfl (by decide) res_31 rty_31 (by kernel_rfl) ?_; 
  have e : IntKind.i64.wrap ((left : Int) - xs.length) = (left : Int) - xs.length := wrap_i64_of (by omega) (by omega)
  simp -dsimp -implicitDefEqProofs only [go_sem, Nat.reduceBEq, Nat.reduceAdd, Nat.reduceLeDiff, Nat.reduceSub, Int.reduceEq, e, rowTb]
  refine ifB'.of (fun h => ?_) (fun h => ?_)
  · simp -dsimp -implicitDefEqProofs only [go_sem, Nat.reduceBEq, Nat.reduceAdd, Nat.reduceLeDiff, Nat.reduceSub, Int.reduceEq]
    rw [szR_no (by omega)]
  simp -dsimp -implicitDefEqProofs only [go_sem, Nat.reduceBEq, Nat.reduceAdd, Nat.reduceLeDiff, Nat.reduceSub, Int.reduceEq, e]
  refine LoopE.cnt xs.length (fun i s => s.env 0 = .rd .ent 60 2 (ra (tbC 132) xs) ∧ s.env 5 = .v (.int .i64 i) ∧ xs.length + szL tbW (xs.take i) ≤ left ∧ s.env 1 = .v (.int .i64 ((left - (xs.length + szL tbW (xs.take i)) : Nat) : Int))) ⟨by simp -dsimp -implicitDefEqProofs only [go_sem, Nat.reduceBEq, Nat.reduceAdd, Nat.reduceLeDiff, Nat.reduceSub, Int.reduceEq, initE, rowTb], by simp -dsimp -implicitDefEqProofs only [go_sem, Nat.reduceBEq, Nat.reduceAdd, Nat.reduceLeDiff, Nat.reduceSub, Int.reduceEq] <;> simp, by simp [szL]; omega, by simp -dsimp -implicitDefEqProofs only [go_sem, Nat.reduceBEq, Nat.reduceAdd, Nat.reduceLeDiff, Nat.reduceSub, Int.reduceEq] <;> (congr 2; simp [szL]; omega)⟩ ?_
  rintro i ⟨e, σ⟩ hi ⟨h0, h5, hle, h1⟩ K hK
  simp only at h0 h5 h1
  simp -dsimp -implicitDefEqProofs only [go_sem, Nat.reduceBEq, Nat.reduceAdd, Nat.reduceLeDiff, Nat.reduceSub, Int.reduceEq, h0, h5, h1]
  refine ifB'.of (fun hlt => ?_) (fun hlt => ?_)
  · have hlt : i < xs.length := by omega
    have hs := szL_take_succ tbW hlt
    have hw := szL_take_le tbW xs (i + 1)
    have hbi := hb _ (List.getElem_mem hlt)
    have hww : tbW xs[i] = xs[i].c.length + szL clW xs[i].c := rfl
    repeat (first | with_reducible refine ask.of (by omega) ?_ | simp -dsimp -implicitDefEqProofs only [go_sem, Nat.reduceBEq, Nat.reduceAdd, Nat.reduceLeDiff, Nat.reduceSub, Int.reduceEq, h0, h5, h1, tbA_at hlt, bl22])
    refine CallE.of (c_szTable xs[i] (left - (xs.length + szL tbW (xs.take i))) (by omega) hbi.1 hbi.2) (by rintro r rfl; (repeat' first | exact trivial | exact pure_rowB _ | exact pure_rowO _ | exact pure_rowI _ | exact pure_rowBB _ | exact pure_rowPk _ _ | exact pure_rowSn _ _ | exact pure_rowFd _ _ | exact pure_rowBBB _ | exact pure_rowCl _ _ | exact pure_rowTb _ _ _ | refine And.intro ?_ ?_)) (by simp -dsimp -implicitDefEqProofs only [go_sem, Nat.reduceBEq, Nat.reduceAdd, Nat.reduceLeDiff, Nat.reduceSub, Int.reduceEq, h0, h5, h1, tbC]) ?_
    rintro r rfl
    simp -dsimp -implicitDefEqProofs only [go_sem, Nat.reduceBEq, Nat.reduceAdd, Nat.reduceLeDiff, Nat.reduceSub, Int.reduceEq, h0, h5, h1, tbC]
    refine ifB'.of (fun hn => ?_) (fun hn => ?_)
    · have : ¬ tbW xs[i] ≤ left - (xs.length + szL tbW (xs.take i)) := fun h => by rw [hww] at h; rw [szR_ok h] at hn; omega
      simp -dsimp -implicitDefEqProofs only [go_sem, Nat.reduceBEq, Nat.reduceAdd, Nat.reduceLeDiff, Nat.reduceSub, Int.reduceEq, h0, h5, h1]
      rw [szR_no (by omega)]
    · have h : xs[i].c.length + szL clW xs[i].c ≤ left - (xs.length + szL tbW (xs.take i)) := Classical.byContradiction fun h => by rw [szR_no h] at hn; omega
      simp -dsimp -implicitDefEqProofs only [go_sem, Nat.reduceBEq, Nat.reduceAdd, Nat.reduceLeDiff, Nat.reduceSub, Int.reduceEq, h0, h5, h1]
      refine hK _ hlt ?_
      simp -dsimp -implicitDefEqProofs only [go_sem, Nat.reduceBEq, Nat.reduceAdd, Nat.reduceLeDiff, Nat.reduceSub, Int.reduceEq, h0, h5, h1, wrap_succ (show i < 4611686018427387904 by omega), szR_ok h, hs, hww]
      exact ⟨by omega, by omega⟩
  · have : i = xs.length := by omega
    subst this
    simp -dsimp -implicitDefEqProofs only [go_sem, Nat.reduceBEq, Nat.reduceAdd, Nat.reduceLeDiff, Nat.reduceSub, Int.reduceEq, h0, h5, h1]
    rw [List.take_length] at hle ⊢
    rw [szR_ok (by omega)]
theorem c_toTableS (xs : List Tb) (hx : xs.length ≤ 1048576) (hb : ∀ b ∈ xs, tOk b 1048576) : Meets Tryz.prog 35 [rowTb 60 132 xs] (fun r => r = rowTb 73 126 xs) := by
  refine Meets.intro mixed (hint []) Tryz.func35 rfl (by decide) res_35 rty_35 (by kernel_rfl) ?_; 
  simp -dsimp -implicitDefEqProofs only [go_sem, Nat.reduceBEq, Nat.reduceAdd, Nat.reduceLeDiff, Nat.reduceSub, Int.reduceEq, rowTb]
  refine ask.of (by omega) ?_
  refine LoopE.cnt xs.length (fun i s => s.env 0 = .rd .ent 60 2 (ra (tbC 132) xs) ∧ s.env 3 = .ref [7] ∧ s.env 4 = .v (.int .i64 i) ∧ s.σ [7] = some (.row 73 2 (ra (tbC 126) (xs.take i ++ List.replicate (xs.length - i) tb0)))) ⟨by simp -dsimp -implicitDefEqProofs only [go_sem, Nat.reduceBEq, Nat.reduceAdd, Nat.reduceLeDiff, Nat.reduceSub, Int.reduceEq, initE, rowTb], by simp -dsimp -implicitDefEqProofs only [go_sem, Nat.reduceBEq, Nat.reduceAdd, Nat.reduceLeDiff, Nat.reduceSub, Int.reduceEq], by simp -dsimp -implicitDefEqProofs only [go_sem, Nat.reduceBEq, Nat.reduceAdd, Nat.reduceLeDiff, Nat.reduceSub, Int.reduceEq] <;> simp, by simp -dsimp -implicitDefEqProofs only [go_sem, Nat.reduceBEq, Nat.reduceAdd, Nat.reduceLeDiff, Nat.reduceSub, Int.reduceEq, tbA_zeros] <;> simp⟩ ?_
  rintro i ⟨e, σ⟩ hi ⟨h0, h3, h4, hs⟩ K hK
  simp only at h0 h3 h4 hs
  simp -dsimp -implicitDefEqProofs only [go_sem, Nat.reduceBEq, Nat.reduceAdd, Nat.reduceLeDiff, Nat.reduceSub, Int.reduceEq, h0, h3, h4, hs]
  refine ifB'.of (fun hlt => ?_) (fun hlt => ?_)
  · have hlt : i < xs.length := by omega
    have hl : (List.take i xs ++ List.replicate (xs.length - i) tb0).length = xs.length := by simp; omega
    have hbi := hb _ (List.getElem_mem hlt)
    repeat (first | with_reducible refine ask.of (by omega) ?_ | simp -dsimp -implicitDefEqProofs only [go_sem, Nat.reduceBEq, Nat.reduceAdd, Nat.reduceLeDiff, Nat.reduceSub, Int.reduceEq, h0, h3, h4, hs, tbA_at hlt, bl22])
    refine CallE.of (c_toTable xs[i] hbi.1 hbi.2) (by rintro r rfl; (repeat' first | exact trivial | exact pure_rowB _ | exact pure_rowO _ | exact pure_rowI _ | exact pure_rowBB _ | exact pure_rowPk _ _ | exact pure_rowSn _ _ | exact pure_rowFd _ _ | exact pure_rowBBB _ | exact pure_rowCl _ _ | exact pure_rowTb _ _ _ | refine And.intro ?_ ?_)) (by simp -dsimp -implicitDefEqProofs only [go_sem, Nat.reduceBEq, Nat.reduceAdd, Nat.reduceLeDiff, Nat.reduceSub, Int.reduceEq, h0, h3, h4, hs, tbC]) ?_
    rintro r rfl
    simp -dsimp -implicitDefEqProofs only [go_sem, Nat.reduceBEq, Nat.reduceAdd, Nat.reduceLeDiff, Nat.reduceSub, Int.reduceEq, h0, h3, h4, hs, tbC]
    simp -dsimp -implicitDefEqProofs only [go_sem, Nat.reduceBEq, Nat.reduceAdd, Nat.reduceLeDiff, Nat.reduceSub, Int.reduceEq, h0, h3, h4, hs, hl]
    repeat (first | with_reducible refine ask.of (by omega) ?_ | simp -dsimp -implicitDefEqProofs only [go_sem, Nat.reduceBEq, Nat.reduceAdd, Nat.reduceLeDiff, Nat.reduceSub, Int.reduceEq, h0, h3, h4, hs, hl, tbA_at (C := 126) (show i < (List.take i xs ++ List.replicate (xs.length - i) tb0).length by omega), bl22])
    refine hK _ hlt ?_
    simp -dsimp -implicitDefEqProofs only [go_sem, Nat.reduceBEq, Nat.reduceAdd, Nat.reduceLeDiff, Nat.reduceSub, Int.reduceEq, h0, h3, h4, hs, wrap_succ (show i < 4611686018427387904 by omega)]
    exact congrArg (fun l => some (OB.row _ 2 l)) ((tbA_set _ _ i xs[i]).trans (congrArg (ra (tbC 126)) (fill_set xs tb0 hlt)))
  · have : i = xs.length := by omega
    subst this
    simp -dsimp -implicitDefEqProofs only [go_sem, Nat.reduceBEq, Nat.reduceAdd, Nat.reduceLeDiff, Nat.reduceSub, Int.reduceEq, h0, h3, h4, hs, rowTb]
    simp
theorem c_eqTableS (xs : List Tb) (hx : xs.length ≤ 1048576) (hb : ∀ b ∈ xs, tOk b 1048576) : Meets Tryz.prog 15 [rowTb 73 126 xs, rowTb 73 126 xs] (fun r => r = .v (.bool true)) := by
  refine Meets.intro mixed (hint []) Tryz.func15 rfl (by decide) res_15 rty_15 (by kernel_rfl) ?_; 
  simp -dsimp -implicitDefEqProofs only [go_sem, Nat.reduceBEq, Nat.reduceAdd, Nat.reduceLeDiff, Nat.reduceSub, Int.reduceEq, decide_true, Bool.not_true, rowTb]
  refine LoopE.cnt xs.length (fun i s => s.env 0 = .rd .ent 73 2 (ra (tbC 126) xs) ∧ s.env 1 = .rd .ent 73 2 (ra (tbC 126) xs) ∧ s.env 5 = .v (.int .i64 i)) ⟨by simp -dsimp -implicitDefEqProofs only [go_sem, Nat.reduceBEq, Nat.reduceAdd, Nat.reduceLeDiff, Nat.reduceSub, Int.reduceEq, initE, rowTb], by simp -dsimp -implicitDefEqProofs only [go_sem, Nat.reduceBEq, Nat.reduceAdd, Nat.reduceLeDiff, Nat.reduceSub, Int.reduceEq, initE, rowTb], by simp -dsimp -implicitDefEqProofs only [go_sem, Nat.reduceBEq, Nat.reduceAdd, Nat.reduceLeDiff, Nat.reduceSub, Int.reduceEq] <;> simp⟩ ?_
  rintro i ⟨e, σ⟩ hi ⟨h0, h1, h5⟩ K hK
  simp only at h0 h1 h5
  simp -dsimp -implicitDefEqProofs only [go_sem, Nat.reduceBEq, Nat.reduceAdd, Nat.reduceLeDiff, Nat.reduceSub, Int.reduceEq, h0, h1, h5]
  refine ifB'.of (fun hlt => ?_) (fun hlt => ?_)
  · have hlt : i < xs.length := by omega
    have hbi := hb _ (List.getElem_mem hlt)
    repeat (first | with_reducible refine ask.of (by omega) ?_ | simp -dsimp -implicitDefEqProofs only [go_sem, Nat.reduceBEq, Nat.reduceAdd, Nat.reduceLeDiff, Nat.reduceSub, Int.reduceEq, h0, h1, h5, tbA_at hlt, bl22])
    refine CallE.of (c_eqTable xs[i] hbi.1 hbi.2) (by rintro r rfl; (repeat' first | exact trivial | exact pure_rowB _ | exact pure_rowO _ | exact pure_rowI _ | exact pure_rowBB _ | exact pure_rowPk _ _ | exact pure_rowSn _ _ | exact pure_rowFd _ _ | exact pure_rowBBB _ | exact pure_rowCl _ _ | exact pure_rowTb _ _ _ | refine And.intro ?_ ?_)) (by simp -dsimp -implicitDefEqProofs only [go_sem, Nat.reduceBEq, Nat.reduceAdd, Nat.reduceLeDiff, Nat.reduceSub, Int.reduceEq, h0, h1, h5, Bool.not_true, tbC]) ?_
    rintro r rfl
    simp -dsimp -implicitDefEqProofs only [go_sem, Nat.reduceBEq, Nat.reduceAdd, Nat.reduceLeDiff, Nat.reduceSub, Int.reduceEq, h0, h1, h5, Bool.not_true, tbC]
    refine hK _ hlt ?_
    simp -dsimp -implicitDefEqProofs only [go_sem, Nat.reduceBEq, Nat.reduceAdd, Nat.reduceLeDiff, Nat.reduceSub, Int.reduceEq, h0, h1, h5, wrap_succ (show i < 4611686018427387904 by omega)]
  · simp -dsimp -implicitDefEqProofs only [go_sem, Nat.reduceBEq, Nat.reduceAdd, Nat.reduceLeDiff, Nat.reduceSub, Int.reduceEq, h0, h1, h5]
set_option maxRecDepth 8000 in
theorem c_l6table (x : Tb) (hx : tOk x 1048576) : Meets Tryz.prog 54 [.agg (tbC 126 x)] (fun r => r = .agg (tbC 126 x)) := by
  refine Meets.introO mixed (hint []) (fun k => (sel (k == 6) [0,1,2,3,4,5,6,7,8,9,10,11,12,13] [])) Tryz.func54 rfl (by decide) res_54 rty_54 (by kernel_rfl) ?_; 
  simp -dsimp -implicitDefEqProofs only [go_sem, Nat.reduceBEq, Nat.reduceAdd, Nat.reduceLeDiff, Nat.reduceSub, Int.reduceEq, tbC]
  repeat (first | with_reducible refine ask.of (by first | omega | decide) ?_ | simp -dsimp -implicitDefEqProofs only [go_sem, Nat.reduceBEq, Nat.reduceAdd, Nat.reduceLeDiff, Nat.reduceSub, Int.reduceEq, bl22, bl3])
  refine LoopE.cntW x.c.length (fun i s => s.env 1 = .ptr [1] 0 0 0 ∧ s.env 2 = .ptr [2] 0 0 0 ∧ s.env 3 = .ptr [3] 0 0 0 ∧ s.env 4 = .v (.int .i64 i) ∧ s.σ [1] = some (.box 73 [.v (.int .i64 x.r), .rd .ent 126 3 (ra clC x.c)])
    ∧ s.σ [2] = some (.box 73 [.v (.int .i64 0), .v (.slice none 0 0)]) ∧ s.σ [3] = some (.box 73 [.v (.int .i64 x.r), .ref [50]]) ∧ s.σ [50] = some (.row 126 3 (ra clC (x.c.take i))))
    (Wk.box [3] 1 [50] 126 3 73 [.v (.int .i64 x.r), .v (.slice none 0 0)] ?_ rfl rfl (Wk.refl _)) ?_ ?_
  · simp -dsimp -implicitDefEqProofs only [go_sem, Nat.reduceBEq, Nat.reduceAdd, Nat.reduceLeDiff, Nat.reduceSub, Int.reduceEq]
  · refine ⟨by simp -dsimp -implicitDefEqProofs only [go_sem, Nat.reduceBEq, Nat.reduceAdd, Nat.reduceLeDiff, Nat.reduceSub, Int.reduceEq], by simp -dsimp -implicitDefEqProofs only [go_sem, Nat.reduceBEq, Nat.reduceAdd, Nat.reduceLeDiff, Nat.reduceSub, Int.reduceEq], by simp -dsimp -implicitDefEqProofs only [go_sem, Nat.reduceBEq, Nat.reduceAdd, Nat.reduceLeDiff, Nat.reduceSub, Int.reduceEq], by simp -dsimp -implicitDefEqProofs only [go_sem, Nat.reduceBEq, Nat.reduceAdd, Nat.reduceLeDiff, Nat.reduceSub, Int.reduceEq] <;> rfl, by simp -dsimp -implicitDefEqProofs only [go_sem, Nat.reduceBEq, Nat.reduceAdd, Nat.reduceLeDiff, Nat.reduceSub, Int.reduceEq], by simp -dsimp -implicitDefEqProofs only [go_sem, Nat.reduceBEq, Nat.reduceAdd, Nat.reduceLeDiff, Nat.reduceSub, Int.reduceEq], by simp -dsimp -implicitDefEqProofs only [go_sem, Nat.reduceBEq, Nat.reduceAdd, Nat.reduceLeDiff, Nat.reduceSub, Int.reduceEq] <;> rfl, by simp -dsimp -implicitDefEqProofs only [go_sem, Nat.reduceBEq, Nat.reduceAdd, Nat.reduceLeDiff, Nat.reduceSub, Int.reduceEq] <;> rfl⟩
  rintro i ⟨e, σ⟩ hi ⟨h1, h2, h3, h4, hs1, hs2, hs3, hs50⟩ K hK
  simp only at h1 h2 h3 h4 hs1 hs2 hs3 hs50
  simp -dsimp -implicitDefEqProofs only [go_sem, Nat.reduceBEq, Nat.reduceAdd, Nat.reduceLeDiff, Nat.reduceSub, Int.reduceEq, h1, h2, h3, h4, hs1, hs2, hs3, hs50]
  repeat (first | with_reducible refine ask.of (by first | omega | decide) ?_ | simp -dsimp -implicitDefEqProofs only [go_sem, Nat.reduceBEq, Nat.reduceAdd, Nat.reduceLeDiff, Nat.reduceSub, Int.reduceEq, h1, h2, h3, h4, hs1, hs2, hs3, hs50, bl22, bl3])
  refine ifB'.of (fun hlt => ?_) (fun hlt => ?_)
  · have hlt : i < x.c.length := by omega
    have hp := hx.2 _ (List.getElem_mem hlt)
    have hx1 := hx.1
    repeat (first | with_reducible refine ask.of (by first | omega | decide) ?_ | simp -dsimp -implicitDefEqProofs only [go_sem, Nat.reduceBEq, Nat.reduceAdd, Nat.reduceLeDiff, Nat.reduceSub, Int.reduceEq, h1, h2, h3, h4, hs1, hs2, hs3, hs50, bl22, bl3, Cl_at hlt, clC])
    refine CallE.of (c_l1copy x.c[i].f (by omega)) (by rintro r rfl; (repeat' first | exact trivial | exact pure_rowB _ | exact pure_rowO _ | exact pure_rowI _ | exact pure_rowBB _ | exact pure_rowPk _ _ | exact pure_rowSn _ _ | exact pure_rowFd _ _ | exact pure_rowBBB _ | exact pure_rowCl _ _ | exact pure_rowTb _ _ _ | refine And.intro ?_ ?_)) (by simp -dsimp -implicitDefEqProofs only [go_sem, Nat.reduceBEq, Nat.reduceAdd, Nat.reduceLeDiff, Nat.reduceSub, Int.reduceEq, h1, h2, h3, h4, hs1, hs2, hs3, hs50]) ?_
    rintro r rfl
    simp -dsimp -implicitDefEqProofs only [go_sem, Nat.reduceBEq, Nat.reduceAdd, Nat.reduceLeDiff, Nat.reduceSub, Int.reduceEq, h1, h2, h3, h4, hs1, hs2, hs3, hs50]
    repeat (first | with_reducible refine ask.of (by first | omega | decide | (simp; omega)) ?_ | simp -dsimp -implicitDefEqProofs only [go_sem, Nat.reduceBEq, Nat.reduceAdd, Nat.reduceLeDiff, Nat.reduceSub, Int.reduceEq, h1, h2, h3, h4, hs1, hs2, hs3, hs50, bl22, bl3, Cl_at hlt, clC])
    refine hK _ _ hlt (Wk.refl _) ?_
    simp -dsimp -implicitDefEqProofs only [go_sem, Nat.reduceBEq, Nat.reduceAdd, Nat.reduceLeDiff, Nat.reduceSub, Int.reduceEq, h1, h2, h3, h4, hs1, hs2, hs3, hs50, wrap_succ (show i < 4611686018427387904 by omega), cl_takeS hlt]
  · have : i = x.c.length := by omega
    subst this
    rw [List.take_length] at hs50
    simp -dsimp -implicitDefEqProofs only [go_sem, Nat.reduceBEq, Nat.reduceAdd, Nat.reduceLeDiff, Nat.reduceSub, Int.reduceEq, h1, h2, h3, h4, hs1, hs2, hs3, hs50]
    repeat (first | with_reducible refine ask.of (by first | omega | decide) ?_ | simp -dsimp -implicitDefEqProofs only [go_sem, Nat.reduceBEq, Nat.reduceAdd, Nat.reduceLeDiff, Nat.reduceSub, Int.reduceEq, h1, h2, h3, h4, hs1, hs2, hs3, hs50, bl22, bl3])
end Go.Ev
set_option linter.unusedSimpArgs false
set_option linter.unusedVariables false
namespace Go.Ev
open Go Go.RowKit Go.Proofs
set_option maxHeartbeats 1000000 in
theorem c_specValidStream (x : Sm) (h1 : x.fs.length ≤ 1048576) (h2 : ∀ b ∈ x.fs, b.f.length ≤ 1048576) (h3 : x.ds.length ≤ 1048576) (h4 : ∀ b ∈ x.ds, b.length + wBB b ≤ 1048576) : Meets Tryz.prog 73 [.agg (smC 138 x)] (fun r => r = .v (.bool (smB x))) := by
  refine Meets.intro mixed (hint []) Tryz.func73 rfl (by decide) res_73 rty_73 (by kernel_rfl) ?_; 
  simp -dsimp -implicitDefEqProofs only [go_sem, Nat.reduceBEq, Nat.reduceAdd, Nat.reduceLeDiff, Nat.reduceSub, Int.reduceEq, smC]
  cases ho : x.o
  · repeat' (first | with_reducible refine ifB'.of (fun h => ?_) (fun h => ?_) | with_reducible refine ask.of (by omega) ?_ | ((with_reducible refine sm_f ?_); unfold okS; simp only [ho, if_false, Bool.false_eq_true]; omega) | ((with_reducible refine sm_t ?_); unfold okS; simp only [ho, if_false, Bool.false_eq_true]; omega) | ((with_reducible refine sm_d ?_); unfold okS; simp only [ho, if_false, Bool.false_eq_true]; omega) | simp -dsimp -implicitDefEqProofs only [go_sem, Nat.reduceBEq, Nat.reduceAdd, Nat.reduceLeDiff, Nat.reduceSub, Int.reduceEq, ho, Bool.not_false])
  have fin : (okF x.fs ∧ 0 ≤ x.s ∧ x.s ≤ 1000000000 ∧ x.ds.length = x.fs.length ∧ ∀ i (h : i < x.ds.length), smAt x i h) ↔ okS x := by unfold okS; rw [if_pos ho]
  simp -dsimp -implicitDefEqProofs only [go_sem, Nat.reduceBEq, Nat.reduceAdd, Nat.reduceLeDiff, Nat.reduceSub, Int.reduceEq, ho, Bool.not_true]
  repeat (first | with_reducible refine ask.of (by omega) ?_ | simp -dsimp -implicitDefEqProofs only [go_sem, Nat.reduceBEq, Nat.reduceAdd, Nat.reduceLeDiff, Nat.reduceSub, Int.reduceEq, bleF])
  refine CallE.of (c_sValidFields x.fs h1 h2) (by rintro r rfl; (repeat' first | exact trivial | exact pure_rowB _ | exact pure_rowO _ | exact pure_rowI _ | exact pure_rowBB _ | exact pure_rowPk _ _ | exact pure_rowSn _ _ | exact pure_rowFd _ _ | exact pure_rowBBB _ | exact pure_rowCl _ _ | exact pure_rowTb _ _ _ | refine And.intro ?_ ?_)) (by simp -dsimp -implicitDefEqProofs only [go_sem, Nat.reduceBEq, Nat.reduceAdd, Nat.reduceLeDiff, Nat.reduceSub, Int.reduceEq, rowFd]) ?_
  rintro r rfl
  simp -dsimp -implicitDefEqProofs only [go_sem, Nat.reduceBEq, Nat.reduceAdd, Nat.reduceLeDiff, Nat.reduceSub, Int.reduceEq, rowFd]
  by_cases hF : okF x.fs
  case neg =>
    simp -dsimp -implicitDefEqProofs only [go_sem, Nat.reduceBEq, Nat.reduceAdd, Nat.reduceLeDiff, Nat.reduceSub, Int.reduceEq, decide_eq_false hF, Bool.not_false]
    exact sm_f (fun h => hF (fin.2 h).1)
  simp -dsimp -implicitDefEqProofs only [go_sem, Nat.reduceBEq, Nat.reduceAdd, Nat.reduceLeDiff, Nat.reduceSub, Int.reduceEq, decide_eq_true hF, Bool.not_true]
  repeat (first | with_reducible refine ask.of (by omega) ?_ | simp -dsimp -implicitDefEqProofs only [go_sem, Nat.reduceBEq, Nat.reduceAdd, Nat.reduceLeDiff, Nat.reduceSub, Int.reduceEq, bleF])
  refine ifB'.of (fun h => ?_) (fun hs0 => ?_)
  · simp -dsimp -implicitDefEqProofs only [go_sem, Nat.reduceBEq, Nat.reduceAdd, Nat.reduceLeDiff, Nat.reduceSub, Int.reduceEq]
    exact sm_f (fun h' => by have := (fin.2 h').2.1; omega)
  simp -dsimp -implicitDefEqProofs only [go_sem, Nat.reduceBEq, Nat.reduceAdd, Nat.reduceLeDiff, Nat.reduceSub, Int.reduceEq]
  repeat (first | with_reducible refine ask.of (by omega) ?_ | simp -dsimp -implicitDefEqProofs only [go_sem, Nat.reduceBEq, Nat.reduceAdd, Nat.reduceLeDiff, Nat.reduceSub, Int.reduceEq, bleF])
  refine ifB'.of (fun h => ?_) (fun hs1 => ?_)
  · simp -dsimp -implicitDefEqProofs only [go_sem, Nat.reduceBEq, Nat.reduceAdd, Nat.reduceLeDiff, Nat.reduceSub, Int.reduceEq]
    exact sm_f (fun h' => by have := (fin.2 h').2.2.1; omega)
  simp -dsimp -implicitDefEqProofs only [go_sem, Nat.reduceBEq, Nat.reduceAdd, Nat.reduceLeDiff, Nat.reduceSub, Int.reduceEq]
  repeat (first | with_reducible refine ask.of (by omega) ?_ | simp -dsimp -implicitDefEqProofs only [go_sem, Nat.reduceBEq, Nat.reduceAdd, Nat.reduceLeDiff, Nat.reduceSub, Int.reduceEq, bleF])
  refine ifB'.of (fun hl => ?_) (fun hl => ?_)
  case refine_2 =>
    simp -dsimp -implicitDefEqProofs only [go_sem, Nat.reduceBEq, Nat.reduceAdd, Nat.reduceLeDiff, Nat.reduceSub, Int.reduceEq]
    exact sm_f (fun h' => by have := (fin.2 h').2.2.2.1; omega)
  have hl : x.ds.length = x.fs.length := by omega
  simp -dsimp -implicitDefEqProofs only [go_sem, Nat.reduceBEq, Nat.reduceAdd, Nat.reduceLeDiff, Nat.reduceSub, Int.reduceEq]
  repeat (first | with_reducible refine ask.of (by omega) ?_ | simp -dsimp -implicitDefEqProofs only [go_sem, Nat.reduceBEq, Nat.reduceAdd, Nat.reduceLeDiff, Nat.reduceSub, Int.reduceEq, bleF])
  refine LoopE.cnt x.ds.length (fun i s => s.env 1 = .ptr [1] 0 0 0 ∧ s.env 3 = .v (.int .i64 i) ∧ s.σ [1] = some (.box 39 [.v (.bool true), .rd .ent 138 3 (ra fdC x.fs), .v (.int .i64 x.s), .rd .ent 139 1 (ra bbC x.ds)]) ∧ (True) ∧ ∀ j (h : j < x.ds.length), j < i → smAt x j h) ⟨by simp -dsimp -implicitDefEqProofs only [go_sem, Nat.reduceBEq, Nat.reduceAdd, Nat.reduceLeDiff, Nat.reduceSub, Int.reduceEq], by simp -dsimp -implicitDefEqProofs only [go_sem, Nat.reduceBEq, Nat.reduceAdd, Nat.reduceLeDiff, Nat.reduceSub, Int.reduceEq], by simp -dsimp -implicitDefEqProofs only [go_sem, Nat.reduceBEq, Nat.reduceAdd, Nat.reduceLeDiff, Nat.reduceSub, Int.reduceEq, ho], trivial, fun j _ h => absurd h (by omega)⟩ ?_
  rintro i ⟨e, σ⟩ hi ⟨e1, e3, hs, hm, ha⟩ K hK
  simp only at e1 e3 hs
  
  simp -dsimp -implicitDefEqProofs only [go_sem, Nat.reduceBEq, Nat.reduceAdd, Nat.reduceLeDiff, Nat.reduceSub, Int.reduceEq, e1, e3, hs]
  repeat (first | with_reducible refine ask.of (by omega) ?_ | simp -dsimp -implicitDefEqProofs only [go_sem, Nat.reduceBEq, Nat.reduceAdd, Nat.reduceLeDiff, Nat.reduceSub, Int.reduceEq, e1, e3, hs, bleF])
  refine ifB'.of (fun hlt => ?_) (fun hlt => ?_)
  · have hlt : i < x.ds.length := by omega
    have hlf : i < x.fs.length := by omega
    simp -dsimp -implicitDefEqProofs only [go_sem, Nat.reduceBEq, Nat.reduceAdd, Nat.reduceLeDiff, Nat.reduceSub, Int.reduceEq, e1, e3, hs, bbA_at hlt]
    repeat (first | with_reducible refine ask.of (by omega) ?_ | simp -dsimp -implicitDefEqProofs only [go_sem, Nat.reduceBEq, Nat.reduceAdd, Nat.reduceLeDiff, Nat.reduceSub, Int.reduceEq, e1, e3, hs, bleF, bbA_at hlt])
    refine CallE.of (c_sValidDict x.ds[i] (h4 _ (List.getElem_mem _))) (by rintro r rfl; (repeat' first | exact trivial | exact pure_rowB _ | exact pure_rowO _ | exact pure_rowI _ | exact pure_rowBB _ | exact pure_rowPk _ _ | exact pure_rowSn _ _ | exact pure_rowFd _ _ | exact pure_rowBBB _ | exact pure_rowCl _ _ | exact pure_rowTb _ _ _ | refine And.intro ?_ ?_)) (by simp -dsimp -implicitDefEqProofs only [go_sem, Nat.reduceBEq, Nat.reduceAdd, Nat.reduceLeDiff, Nat.reduceSub, Int.reduceEq, e1, e3, hs]) ?_
    rintro r rfl
    simp -dsimp -implicitDefEqProofs only [go_sem, Nat.reduceBEq, Nat.reduceAdd, Nat.reduceLeDiff, Nat.reduceSub, Int.reduceEq, e1, e3, hs]
    by_cases hk : okD x.ds[i]
    case neg =>
      simp -dsimp -implicitDefEqProofs only [go_sem, Nat.reduceBEq, Nat.reduceAdd, Nat.reduceLeDiff, Nat.reduceSub, Int.reduceEq, e1, e3, hs, decide_eq_false hk, Bool.not_false]
      exact sm_f (fun h => hk ((fin.2 h).2.2.2.2 i hlt).1)
    simp -dsimp -implicitDefEqProofs only [go_sem, Nat.reduceBEq, Nat.reduceAdd, Nat.reduceLeDiff, Nat.reduceSub, Int.reduceEq, e1, e3, hs, decide_eq_true hk, Bool.not_true]
    repeat (first | with_reducible refine ask.of (by omega) ?_ | simp -dsimp -implicitDefEqProofs only [go_sem, Nat.reduceBEq, Nat.reduceAdd, Nat.reduceLeDiff, Nat.reduceSub, Int.reduceEq, e1, e3, hs, bleF, Fd_at hlf, fdC])
    refine ifB'.of (fun h3 => ?_) (fun h3 => ?_)
    · simp -dsimp -implicitDefEqProofs only [go_sem, Nat.reduceBEq, Nat.reduceAdd, Nat.reduceLeDiff, Nat.reduceSub, Int.reduceEq, e1, e3, hs]
      refine hK _ hlt ?_
      simp -dsimp -implicitDefEqProofs only [go_sem, Nat.reduceBEq, Nat.reduceAdd, Nat.reduceLeDiff, Nat.reduceSub, Int.reduceEq, e1, e3, hs, wrap_succ (show i < 4611686018427387904 by omega), ho]
      try refine ⟨⟨rfl, rfl⟩, ?_⟩
      try refine ⟨trivial, ?_⟩
      intro j hj hji
      by_cases hje : j = i
      · subst hje
        exact ⟨hk, hlf, .inl h3⟩
      · exact ha j hj (by omega)
    · simp -dsimp -implicitDefEqProofs only [go_sem, Nat.reduceBEq, Nat.reduceAdd, Nat.reduceLeDiff, Nat.reduceSub, Int.reduceEq, e1, e3, hs]
      repeat (first | with_reducible refine ask.of (by omega) ?_ | simp -dsimp -implicitDefEqProofs only [go_sem, Nat.reduceBEq, Nat.reduceAdd, Nat.reduceLeDiff, Nat.reduceSub, Int.reduceEq, e1, e3, hs, bleF, bbA_at hlt])
      refine ifB'.of (fun h5 => ?_) (fun h5 => ?_)
      · simp -dsimp -implicitDefEqProofs only [go_sem, Nat.reduceBEq, Nat.reduceAdd, Nat.reduceLeDiff, Nat.reduceSub, Int.reduceEq, e1, e3, hs]
        refine sm_f (fun h => ?_)
        obtain ⟨_, _, h6⟩ := (fin.2 h).2.2.2.2 i hlt
        rcases h6 with h6 | h6
        · exact h3 h6
        · omega
      · simp -dsimp -implicitDefEqProofs only [go_sem, Nat.reduceBEq, Nat.reduceAdd, Nat.reduceLeDiff, Nat.reduceSub, Int.reduceEq, e1, e3, hs]
        refine hK _ hlt ?_
        simp -dsimp -implicitDefEqProofs only [go_sem, Nat.reduceBEq, Nat.reduceAdd, Nat.reduceLeDiff, Nat.reduceSub, Int.reduceEq, e1, e3, hs, wrap_succ (show i < 4611686018427387904 by omega), ho]
        try refine ⟨⟨rfl, rfl⟩, ?_⟩
        try refine ⟨trivial, ?_⟩
        intro j hj hji
        by_cases hje : j = i
        · subst hje
          exact ⟨hk, hlf, .inr (by omega)⟩
        · exact ha j hj (by omega)
  · simp -dsimp -implicitDefEqProofs only [go_sem, Nat.reduceBEq, Nat.reduceAdd, Nat.reduceLeDiff, Nat.reduceSub, Int.reduceEq, e1, e3, hs]
    exact sm_t (fin.1 ⟨hF, by omega, by omega, hl, fun j hj => ha j hj (by omega)⟩)
set_option maxHeartbeats 1000000 in
theorem c_implValidStream (x : Sm) (h1 : x.fs.length ≤ 1048576) (h2 : ∀ b ∈ x.fs, b.f.length ≤ 1048576) (h3 : x.ds.length ≤ 1048576) (h4 : ∀ b ∈ x.ds, b.length + wBB b ≤ 1048576) : Meets Tryz.prog 78 [.agg (smC 138 x)] (fun r => r = .v (.bool (smB x))) := by
  refine Meets.intro mixed (hint []) Tryz.func78 rfl (by decide) res_78 rty_78 (by kernel_rfl) ?_; 
  simp -dsimp -implicitDefEqProofs only [go_sem, Nat.reduceBEq, Nat.reduceAdd, Nat.reduceLeDiff, Nat.reduceSub, Int.reduceEq, smC]
  cases ho : x.o
  · repeat' (first | with_reducible refine ifB'.of (fun h => ?_) (fun h => ?_) | with_reducible refine ask.of (by omega) ?_ | ((with_reducible refine sm_f ?_); unfold okS; simp only [ho, if_false, Bool.false_eq_true]; omega) | ((with_reducible refine sm_t ?_); unfold okS; simp only [ho, if_false, Bool.false_eq_true]; omega) | ((with_reducible refine sm_d ?_); unfold okS; simp only [ho, if_false, Bool.false_eq_true]; omega) | simp -dsimp -implicitDefEqProofs only [go_sem, Nat.reduceBEq, Nat.reduceAdd, Nat.reduceLeDiff, Nat.reduceSub, Int.reduceEq, ho, Bool.not_false])
  have fin : (okF x.fs ∧ 0 ≤ x.s ∧ x.s ≤ 1000000000 ∧ x.ds.length = x.fs.length ∧ ∀ i (h : i < x.ds.length), smAt x i h) ↔ okS x := by unfold okS; rw [if_pos ho]
  simp -dsimp -implicitDefEqProofs only [go_sem, Nat.reduceBEq, Nat.reduceAdd, Nat.reduceLeDiff, Nat.reduceSub, Int.reduceEq, ho, Bool.not_true]
  repeat (first | with_reducible refine ask.of (by omega) ?_ | simp -dsimp -implicitDefEqProofs only [go_sem, Nat.reduceBEq, Nat.reduceAdd, Nat.reduceLeDiff, Nat.reduceSub, Int.reduceEq, bleF])
  refine CallE.of (c_iValidFields x.fs h1 h2) (by rintro r rfl; (repeat' first | exact trivial | exact pure_rowB _ | exact pure_rowO _ | exact pure_rowI _ | exact pure_rowBB _ | exact pure_rowPk _ _ | exact pure_rowSn _ _ | exact pure_rowFd _ _ | exact pure_rowBBB _ | exact pure_rowCl _ _ | exact pure_rowTb _ _ _ | refine And.intro ?_ ?_)) (by simp -dsimp -implicitDefEqProofs only [go_sem, Nat.reduceBEq, Nat.reduceAdd, Nat.reduceLeDiff, Nat.reduceSub, Int.reduceEq, rowFd]) ?_
  rintro r rfl
  simp -dsimp -implicitDefEqProofs only [go_sem, Nat.reduceBEq, Nat.reduceAdd, Nat.reduceLeDiff, Nat.reduceSub, Int.reduceEq, rowFd]
  by_cases hF : okF x.fs
  case neg =>
    simp -dsimp -implicitDefEqProofs only [go_sem, Nat.reduceBEq, Nat.reduceAdd, Nat.reduceLeDiff, Nat.reduceSub, Int.reduceEq, decide_eq_false hF, Bool.not_false]
    exact sm_f (fun h => hF (fin.2 h).1)
  simp -dsimp -implicitDefEqProofs only [go_sem, Nat.reduceBEq, Nat.reduceAdd, Nat.reduceLeDiff, Nat.reduceSub, Int.reduceEq, decide_eq_true hF, Bool.not_true]
  repeat (first | with_reducible refine ask.of (by omega) ?_ | simp -dsimp -implicitDefEqProofs only [go_sem, Nat.reduceBEq, Nat.reduceAdd, Nat.reduceLeDiff, Nat.reduceSub, Int.reduceEq, bleF])
  refine ifB'.of (fun h => ?_) (fun hs0 => ?_)
  · simp -dsimp -implicitDefEqProofs only [go_sem, Nat.reduceBEq, Nat.reduceAdd, Nat.reduceLeDiff, Nat.reduceSub, Int.reduceEq]
    exact sm_f (fun h' => by have := (fin.2 h').2.1; omega)
  simp -dsimp -implicitDefEqProofs only [go_sem, Nat.reduceBEq, Nat.reduceAdd, Nat.reduceLeDiff, Nat.reduceSub, Int.reduceEq]
  repeat (first | with_reducible refine ask.of (by omega) ?_ | simp -dsimp -implicitDefEqProofs only [go_sem, Nat.reduceBEq, Nat.reduceAdd, Nat.reduceLeDiff, Nat.reduceSub, Int.reduceEq, bleF])
  refine ifB'.of (fun h => ?_) (fun hs1 => ?_)
  · simp -dsimp -implicitDefEqProofs only [go_sem, Nat.reduceBEq, Nat.reduceAdd, Nat.reduceLeDiff, Nat.reduceSub, Int.reduceEq]
    exact sm_f (fun h' => by have := (fin.2 h').2.2.1; omega)
  simp -dsimp -implicitDefEqProofs only [go_sem, Nat.reduceBEq, Nat.reduceAdd, Nat.reduceLeDiff, Nat.reduceSub, Int.reduceEq]
  repeat (first | with_reducible refine ask.of (by omega) ?_ | simp -dsimp -implicitDefEqProofs only [go_sem, Nat.reduceBEq, Nat.reduceAdd, Nat.reduceLeDiff, Nat.reduceSub, Int.reduceEq, bleF])
  refine ifB'.of (fun hl => ?_) (fun hl => ?_)
  case refine_2 =>
    simp -dsimp -implicitDefEqProofs only [go_sem, Nat.reduceBEq, Nat.reduceAdd, Nat.reduceLeDiff, Nat.reduceSub, Int.reduceEq]
    exact sm_f (fun h' => by have := (fin.2 h').2.2.2.1; omega)
  have hl : x.ds.length = x.fs.length := by omega
  simp -dsimp -implicitDefEqProofs only [go_sem, Nat.reduceBEq, Nat.reduceAdd, Nat.reduceLeDiff, Nat.reduceSub, Int.reduceEq]
  repeat (first | with_reducible refine ask.of (by omega) ?_ | simp -dsimp -implicitDefEqProofs only [go_sem, Nat.reduceBEq, Nat.reduceAdd, Nat.reduceLeDiff, Nat.reduceSub, Int.reduceEq, bleF])
  refine LoopE.cnt x.ds.length (fun i s => s.env 1 = .ptr [1] 0 0 0 ∧ s.env 49 = .v (.int .i64 i) ∧ s.σ [1] = some (.box 39 [.v (.bool true), .rd .ent 138 3 (ra fdC x.fs), .v (.int .i64 x.s), .rd .ent 139 1 (ra bbC x.ds)]) ∧ (s.env 47 = .rd .ent 139 1 (ra bbC x.ds) ∧ s.env 48 = .v (.int .i64 x.ds.length)) ∧ ∀ j (h : j < x.ds.length), j < i → smAt x j h) ⟨by simp -dsimp -implicitDefEqProofs only [go_sem, Nat.reduceBEq, Nat.reduceAdd, Nat.reduceLeDiff, Nat.reduceSub, Int.reduceEq], by simp -dsimp -implicitDefEqProofs only [go_sem, Nat.reduceBEq, Nat.reduceAdd, Nat.reduceLeDiff, Nat.reduceSub, Int.reduceEq], by simp -dsimp -implicitDefEqProofs only [go_sem, Nat.reduceBEq, Nat.reduceAdd, Nat.reduceLeDiff, Nat.reduceSub, Int.reduceEq, ho], ⟨by simp -dsimp -implicitDefEqProofs only [go_sem, Nat.reduceBEq, Nat.reduceAdd, Nat.reduceLeDiff, Nat.reduceSub, Int.reduceEq], by simp -dsimp -implicitDefEqProofs only [go_sem, Nat.reduceBEq, Nat.reduceAdd, Nat.reduceLeDiff, Nat.reduceSub, Int.reduceEq]⟩, fun j _ h => absurd h (by omega)⟩ ?_
  rintro i ⟨e, σ⟩ hi ⟨e1, e3, hs, ⟨h47, h48⟩, ha⟩ K hK
  simp only at e1 e3 hs
  simp only at h47 h48
  simp -dsimp -implicitDefEqProofs only [go_sem, Nat.reduceBEq, Nat.reduceAdd, Nat.reduceLeDiff, Nat.reduceSub, Int.reduceEq, e1, e3, hs, h47, h48]
  repeat (first | with_reducible refine ask.of (by omega) ?_ | simp -dsimp -implicitDefEqProofs only [go_sem, Nat.reduceBEq, Nat.reduceAdd, Nat.reduceLeDiff, Nat.reduceSub, Int.reduceEq, e1, e3, hs, h47, h48, bleF])
  refine ifB'.of (fun hlt => ?_) (fun hlt => ?_)
  · have hlt : i < x.ds.length := by omega
    have hlf : i < x.fs.length := by omega
    simp -dsimp -implicitDefEqProofs only [go_sem, Nat.reduceBEq, Nat.reduceAdd, Nat.reduceLeDiff, Nat.reduceSub, Int.reduceEq, e1, e3, hs, h47, h48, bbA_at hlt]
    repeat (first | with_reducible refine ask.of (by omega) ?_ | simp -dsimp -implicitDefEqProofs only [go_sem, Nat.reduceBEq, Nat.reduceAdd, Nat.reduceLeDiff, Nat.reduceSub, Int.reduceEq, e1, e3, hs, h47, h48, bleF, bbA_at hlt])
    refine CallE.of (c_iValidDict x.ds[i] (h4 _ (List.getElem_mem _))) (by rintro r rfl; (repeat' first | exact trivial | exact pure_rowB _ | exact pure_rowO _ | exact pure_rowI _ | exact pure_rowBB _ | exact pure_rowPk _ _ | exact pure_rowSn _ _ | exact pure_rowFd _ _ | exact pure_rowBBB _ | exact pure_rowCl _ _ | exact pure_rowTb _ _ _ | refine And.intro ?_ ?_)) (by simp -dsimp -implicitDefEqProofs only [go_sem, Nat.reduceBEq, Nat.reduceAdd, Nat.reduceLeDiff, Nat.reduceSub, Int.reduceEq, e1, e3, hs, h47, h48]) ?_
    rintro r rfl
    simp -dsimp -implicitDefEqProofs only [go_sem, Nat.reduceBEq, Nat.reduceAdd, Nat.reduceLeDiff, Nat.reduceSub, Int.reduceEq, e1, e3, hs, h47, h48]
    by_cases hk : okD x.ds[i]
    case neg =>
      simp -dsimp -implicitDefEqProofs only [go_sem, Nat.reduceBEq, Nat.reduceAdd, Nat.reduceLeDiff, Nat.reduceSub, Int.reduceEq, e1, e3, hs, h47, h48, decide_eq_false hk, Bool.not_false]
      exact sm_f (fun h => hk ((fin.2 h).2.2.2.2 i hlt).1)
    simp -dsimp -implicitDefEqProofs only [go_sem, Nat.reduceBEq, Nat.reduceAdd, Nat.reduceLeDiff, Nat.reduceSub, Int.reduceEq, e1, e3, hs, h47, h48, decide_eq_true hk, Bool.not_true]
    repeat (first | with_reducible refine ask.of (by omega) ?_ | simp -dsimp -implicitDefEqProofs only [go_sem, Nat.reduceBEq, Nat.reduceAdd, Nat.reduceLeDiff, Nat.reduceSub, Int.reduceEq, e1, e3, hs, h47, h48, bleF, Fd_at hlf, fdC])
    refine ifB'.of (fun h3 => ?_) (fun h3 => ?_)
    · simp -dsimp -implicitDefEqProofs only [go_sem, Nat.reduceBEq, Nat.reduceAdd, Nat.reduceLeDiff, Nat.reduceSub, Int.reduceEq, e1, e3, hs, h47, h48]
      refine hK _ hlt ?_
      simp -dsimp -implicitDefEqProofs only [go_sem, Nat.reduceBEq, Nat.reduceAdd, Nat.reduceLeDiff, Nat.reduceSub, Int.reduceEq, e1, e3, hs, h47, h48, wrap_succ (show i < 4611686018427387904 by omega), ho]
      try refine ⟨⟨rfl, rfl⟩, ?_⟩
      try refine ⟨trivial, ?_⟩
      intro j hj hji
      by_cases hje : j = i
      · subst hje
        exact ⟨hk, hlf, .inl h3⟩
      · exact ha j hj (by omega)
    · simp -dsimp -implicitDefEqProofs only [go_sem, Nat.reduceBEq, Nat.reduceAdd, Nat.reduceLeDiff, Nat.reduceSub, Int.reduceEq, e1, e3, hs, h47, h48]
      repeat (first | with_reducible refine ask.of (by omega) ?_ | simp -dsimp -implicitDefEqProofs only [go_sem, Nat.reduceBEq, Nat.reduceAdd, Nat.reduceLeDiff, Nat.reduceSub, Int.reduceEq, e1, e3, hs, h47, h48, bleF, bbA_at hlt])
      refine ifB'.of (fun h5 => ?_) (fun h5 => ?_)
      · simp -dsimp -implicitDefEqProofs only [go_sem, Nat.reduceBEq, Nat.reduceAdd, Nat.reduceLeDiff, Nat.reduceSub, Int.reduceEq, e1, e3, hs, h47, h48]
        refine sm_f (fun h => ?_)
        obtain ⟨_, _, h6⟩ := (fin.2 h).2.2.2.2 i hlt
        rcases h6 with h6 | h6
        · exact h3 h6
        · omega
      · simp -dsimp -implicitDefEqProofs only [go_sem, Nat.reduceBEq, Nat.reduceAdd, Nat.reduceLeDiff, Nat.reduceSub, Int.reduceEq, e1, e3, hs, h47, h48]
        refine hK _ hlt ?_
        simp -dsimp -implicitDefEqProofs only [go_sem, Nat.reduceBEq, Nat.reduceAdd, Nat.reduceLeDiff, Nat.reduceSub, Int.reduceEq, e1, e3, hs, h47, h48, wrap_succ (show i < 4611686018427387904 by omega), ho]
        try refine ⟨⟨rfl, rfl⟩, ?_⟩
        try refine ⟨trivial, ?_⟩
        intro j hj hji
        by_cases hje : j = i
        · subst hje
          exact ⟨hk, hlf, .inr (by omega)⟩
        · exact ha j hj (by omega)
  · simp -dsimp -implicitDefEqProofs only [go_sem, Nat.reduceBEq, Nat.reduceAdd, Nat.reduceLeDiff, Nat.reduceSub, Int.reduceEq, e1, e3, hs, h47, h48]
    exact sm_t (fin.1 ⟨hF, by omega, by omega, hl, fun j hj => ha j hj (by omega)⟩)
end Go.Ev
set_option linter.unusedVariables false
namespace Go.Ev
open Go Go.RowKit
theorem CallV.ofE {P : Program} {f : FuncId} {args cs : List AV} {s : St} {d : Option Nat} {K : St → Prop} {all cargs ccs : List AV} {post : AV → Prop} (h : Meets P f all post) (hp : ∀ r, post r → r.pure)
    (ha : argsE P s false (parTys P f) args = some cargs) (hc : s.coeKL cs = some ccs) (he : cargs ++ ccs = all) (hk : ∀ r, post r → K (s.ret d r)) : CallV P f args cs s d K := by
  subst he
  exact CallV.of h hp ha hc hk
end Go.Ev
set_option linter.unusedSimpArgs false
set_option linter.unusedVariables false
namespace Go.Ev
open Go Go.RowKit Go.Proofs
structure Sn where
  p : Pk
  q : Int
def snC (s : Sn) : List AV := [.v (.int .i64 s.p.a), .v (.int .i64 s.p.b), .v (.int .i64 s.p.c), .v (.int .i64 s.p.d), .v (.bool s.p.e), .row 5 1 (bytesA s.p.f), .v (.int .i64 s.q)]
def pkW (p : Pk) : Nat := p.f.length
def pk0 : Pk := ⟨0, 0, 0, 0, false, []⟩
def rowPk (T : Nat) (ps : List Pk) : AV := .row T 6 (ra pkC ps)
def rowSn (T : Nat) (ps : List Sn) : AV := .row T 7 (ra snC ps)
theorem pure_rowPk (T : Nat) (ps : List Pk) : (rowPk T ps).pure := pureEls_ra (enc := pkC) (fun x => ⟨trivial, trivial, trivial, trivial, trivial, pureEls_bytes _, trivial⟩) ps
theorem pure_rowSn (T : Nat) (ps : List Sn) : (rowSn T ps).pure := pureEls_ra (enc := snC) (fun x => ⟨trivial, trivial, trivial, trivial, trivial, pureEls_bytes _, trivial, trivial⟩) ps
theorem Pk_at {xs : List Pk} {i : Nat} (h : i < xs.length) : (ra pkC xs)[i]? = some (pkC xs[i]) := ra_at h
theorem c_szPacketS (xs : List Pk) (left : Nat) (hl : left ≤ 1048576) (hx : xs.length ≤ 140737488355328) (hb : ∀ b ∈ xs, b.f.length ≤ 140737488355328) : Meets Tryz.prog 69 [rowPk 153 xs, .v (.int .i64 left)] (fun r => r = .v (.int .i64 (szR left (xs.length + szL pkW xs)))) := by
  refine Meets.intro mixed (hint []) Tryz.func69 rfl (by decide) res_69 rty_69 (by kernel_rfl) ?_; 
  have e : IntKind.i64.wrap ((left : Int) - xs.length) = (left : Int) - xs.length := wrap_i64_of (by omega) (by omega)
  simp -dsimp -implicitDefEqProofs only [go_sem, Nat.reduceBEq, Nat.reduceAdd, Nat.reduceLeDiff, Nat.reduceSub, Int.reduceEq, e, rowPk]
  refine ifB'.of (fun h => ?_) (fun h => ?_)
  · simp -dsimp -implicitDefEqProofs only [go_sem, Nat.reduceBEq, Nat.reduceAdd, Nat.reduceLeDiff, Nat.reduceSub, Int.reduceEq]
    rw [szR_no (by omega)]
  simp -dsimp -implicitDefEqProofs only [go_sem, Nat.reduceBEq, Nat.reduceAdd, Nat.reduceLeDiff, Nat.reduceSub, Int.reduceEq, e]
  refine LoopE.cnt xs.length (fun i s => s.env 0 = .rd .ent 153 6 (ra pkC xs) ∧ s.env 5 = .v (.int .i64 i) ∧ xs.length + szL pkW (xs.take i) ≤ left ∧ s.env 1 = .v (.int .i64 ((left - (xs.length + szL pkW (xs.take i)) : Nat) : Int))) ⟨by simp -dsimp -implicitDefEqProofs only [go_sem, Nat.reduceBEq, Nat.reduceAdd, Nat.reduceLeDiff, Nat.reduceSub, Int.reduceEq, initE, rowPk], by simp -dsimp -implicitDefEqProofs only [go_sem, Nat.reduceBEq, Nat.reduceAdd, Nat.reduceLeDiff, Nat.reduceSub, Int.reduceEq] <;> simp, by simp [szL]; omega, by simp -dsimp -implicitDefEqProofs only [go_sem, Nat.reduceBEq, Nat.reduceAdd, Nat.reduceLeDiff, Nat.reduceSub, Int.reduceEq] <;> (simp [szL]; omega)⟩ ?_
  rintro i ⟨e, σ⟩ hi ⟨h0, h5, hle, h1⟩ K hK
  simp only at h0 h5 h1
  simp -dsimp -implicitDefEqProofs only [go_sem, Nat.reduceBEq, Nat.reduceAdd, Nat.reduceLeDiff, Nat.reduceSub, Int.reduceEq, h0, h5, h1]
  refine ifB'.of (fun hlt => ?_) (fun hlt => ?_)
  · have hlt : i < xs.length := by omega
    have hs := szL_take_succ pkW hlt
    have hw := szL_take_le pkW xs (i + 1)
    have hww : pkW xs[i] = xs[i].f.length := rfl
    simp -dsimp -implicitDefEqProofs only [go_sem, Nat.reduceBEq, Nat.reduceAdd, Nat.reduceLeDiff, Nat.reduceSub, Int.reduceEq, h0, h5, h1, Pk_at hlt, pkC]
    repeat with_reducible refine ask.of (by omega) ?_
    simp -dsimp -implicitDefEqProofs only [go_sem, Nat.reduceBEq, Nat.reduceAdd, Nat.reduceLeDiff, Nat.reduceSub, Int.reduceEq, h0, h5, h1, Pk_at hlt, pkC, bleR]
    refine CallE.of (c_szPacket xs[i] (left - (xs.length + szL pkW (xs.take i))) (hb _ (List.getElem_mem _)) (by omega)) (by rintro r rfl; (repeat' first | exact trivial | exact pure_rowB _ | exact pure_rowO _ | exact pure_rowI _ | exact pure_rowBB _ | exact pure_rowPk _ _ | exact pure_rowSn _ _ | exact pure_rowFd _ _ | exact pure_rowBBB _ | exact pure_rowCl _ _ | exact pure_rowTb _ _ _ | refine And.intro ?_ ?_)) (by simp -dsimp -implicitDefEqProofs only [go_sem, Nat.reduceBEq, Nat.reduceAdd, Nat.reduceLeDiff, Nat.reduceSub, Int.reduceEq, h0, h5, h1, pkC]) ?_
    rintro r rfl
    simp -dsimp -implicitDefEqProofs only [go_sem, Nat.reduceBEq, Nat.reduceAdd, Nat.reduceLeDiff, Nat.reduceSub, Int.reduceEq, h0, h5, h1, pkC]
    refine ifB'.of (fun hn => ?_) (fun hn => ?_)
    · have : ¬ xs[i].f.length ≤ left - (xs.length + szL pkW (xs.take i)) := fun h => by rw [szR_ok h] at hn; omega
      simp -dsimp -implicitDefEqProofs only [go_sem, Nat.reduceBEq, Nat.reduceAdd, Nat.reduceLeDiff, Nat.reduceSub, Int.reduceEq, h0, h5, h1]
      rw [szR_no (by omega)]
    · have h : xs[i].f.length ≤ left - (xs.length + szL pkW (xs.take i)) := Classical.byContradiction fun h => by rw [szR_no h] at hn; omega
      simp -dsimp -implicitDefEqProofs only [go_sem, Nat.reduceBEq, Nat.reduceAdd, Nat.reduceLeDiff, Nat.reduceSub, Int.reduceEq, h0, h5, h1]
      refine hK _ hlt ?_
      simp -dsimp -implicitDefEqProofs only [go_sem, Nat.reduceBEq, Nat.reduceAdd, Nat.reduceLeDiff, Nat.reduceSub, Int.reduceEq, h0, h5, h1, wrap_succ (show i < 4611686018427387904 by omega), szR_ok h, hs]
      exact ⟨by omega, by omega⟩
  · have : i = xs.length := by omega
    subst this
    simp -dsimp -implicitDefEqProofs only [go_sem, Nat.reduceBEq, Nat.reduceAdd, Nat.reduceLeDiff, Nat.reduceSub, Int.reduceEq, h0, h5, h1]
    rw [List.take_length] at hle ⊢
    rw [szR_ok (by omega)]
theorem Pk_set (xs : List Pk) (i : Nat) (x : Pk) : (ra pkC xs).set i (pkC x) = ra pkC (xs.set i x) := ra_set xs i x
theorem c_toPacketS (xs : List Pk) (hx : xs.length ≤ 1048576) (hb : ∀ b ∈ xs, b.f.length ≤ 1048576) : Meets Tryz.prog 75 [rowPk 153 xs] (fun r => r = rowPk 155 xs) := by
  refine Meets.intro mixed (hint []) Tryz.func75 rfl (by decide) res_75 rty_75 (by kernel_rfl) ?_; 
  simp -dsimp -implicitDefEqProofs only [go_sem, Nat.reduceBEq, Nat.reduceAdd, Nat.reduceLeDiff, Nat.reduceSub, Int.reduceEq, rowPk]
  refine ask.of (by omega) ?_
  refine LoopE.cnt xs.length (fun i s => s.env 0 = .rd .ent 153 6 (ra pkC xs) ∧ s.env 3 = .ref [7] ∧ s.env 4 = .v (.int .i64 i) ∧ s.σ [7] = some (.row 155 6 (ra pkC (xs.take i ++ List.replicate (xs.length - i) pk0)))) ⟨by simp -dsimp -implicitDefEqProofs only [go_sem, Nat.reduceBEq, Nat.reduceAdd, Nat.reduceLeDiff, Nat.reduceSub, Int.reduceEq, initE, rowPk], by simp -dsimp -implicitDefEqProofs only [go_sem, Nat.reduceBEq, Nat.reduceAdd, Nat.reduceLeDiff, Nat.reduceSub, Int.reduceEq], by simp -dsimp -implicitDefEqProofs only [go_sem, Nat.reduceBEq, Nat.reduceAdd, Nat.reduceLeDiff, Nat.reduceSub, Int.reduceEq] <;> simp, by simp -dsimp -implicitDefEqProofs only [go_sem, Nat.reduceBEq, Nat.reduceAdd, Nat.reduceLeDiff, Nat.reduceSub, Int.reduceEq] <;> simp [ra, pkC, pk0, pk0, bytesA]⟩ ?_
  rintro i ⟨e, σ⟩ hi ⟨h0, h3, h4, hs⟩ K hK
  simp only at h0 h3 h4 hs
  simp -dsimp -implicitDefEqProofs only [go_sem, Nat.reduceBEq, Nat.reduceAdd, Nat.reduceLeDiff, Nat.reduceSub, Int.reduceEq, h0, h3, h4, hs]
  refine ifB'.of (fun hlt => ?_) (fun hlt => ?_)
  · have hlt : i < xs.length := by omega
    have hl : (List.take i xs ++ List.replicate (xs.length - i) pk0).length = xs.length := by simp; omega
    simp -dsimp -implicitDefEqProofs only [go_sem, Nat.reduceBEq, Nat.reduceAdd, Nat.reduceLeDiff, Nat.reduceSub, Int.reduceEq, h0, h3, h4, hs, Pk_at hlt, pkC]
    repeat with_reducible refine ask.of (by omega) ?_
    simp -dsimp -implicitDefEqProofs only [go_sem, Nat.reduceBEq, Nat.reduceAdd, Nat.reduceLeDiff, Nat.reduceSub, Int.reduceEq, h0, h3, h4, hs, Pk_at hlt, pkC, bleR]
    refine CallE.of (c_toPacket xs[i] (hb _ (List.getElem_mem _))) (by rintro r rfl; (repeat' first | exact trivial | exact pure_rowB _ | exact pure_rowO _ | exact pure_rowI _ | exact pure_rowBB _ | exact pure_rowPk _ _ | exact pure_rowSn _ _ | exact pure_rowFd _ _ | exact pure_rowBBB _ | exact pure_rowCl _ _ | exact pure_rowTb _ _ _ | refine And.intro ?_ ?_)) (by simp -dsimp -implicitDefEqProofs only [go_sem, Nat.reduceBEq, Nat.reduceAdd, Nat.reduceLeDiff, Nat.reduceSub, Int.reduceEq, h0, h3, h4, hs, pkC]) ?_
    rintro r rfl
    simp -dsimp -implicitDefEqProofs only [go_sem, Nat.reduceBEq, Nat.reduceAdd, Nat.reduceLeDiff, Nat.reduceSub, Int.reduceEq, h0, h3, h4, hs, pkC]
    simp -dsimp -implicitDefEqProofs only [go_sem, Nat.reduceBEq, Nat.reduceAdd, Nat.reduceLeDiff, Nat.reduceSub, Int.reduceEq, h0, h3, h4, hs, hl]
    repeat with_reducible refine ask.of (by omega) ?_
    simp -dsimp -implicitDefEqProofs only [go_sem, Nat.reduceBEq, Nat.reduceAdd, Nat.reduceLeDiff, Nat.reduceSub, Int.reduceEq, h0, h3, h4, hs, Pk_at (show i < (List.take i xs ++ List.replicate (xs.length - i) pk0).length by omega), pkC, bleR]
    refine hK _ hlt ?_
    simp -dsimp -implicitDefEqProofs only [go_sem, Nat.reduceBEq, Nat.reduceAdd, Nat.reduceLeDiff, Nat.reduceSub, Int.reduceEq, h0, h3, h4, hs, wrap_succ (show i < 4611686018427387904 by omega)]
    exact congrArg (fun l => some (OB.row _ 6 l)) ((Pk_set _ i xs[i]).trans (congrArg (ra pkC) (fill_set xs pk0 hlt)))
  · have : i = xs.length := by omega
    subst this
    simp -dsimp -implicitDefEqProofs only [go_sem, Nat.reduceBEq, Nat.reduceAdd, Nat.reduceLeDiff, Nat.reduceSub, Int.reduceEq, h0, h3, h4, hs, rowPk]
    simp
theorem c_eqPacketS (xs : List Pk) (hx : xs.length ≤ 1048576) (hb : ∀ b ∈ xs, b.f.length ≤ 1048576) : Meets Tryz.prog 82 [rowPk 155 xs, rowPk 155 xs] (fun r => r = .v (.bool true)) := by
  refine Meets.intro mixed (hint []) Tryz.func82 rfl (by decide) res_82 rty_82 (by kernel_rfl) ?_; 
  simp -dsimp -implicitDefEqProofs only [go_sem, Nat.reduceBEq, Nat.reduceAdd, Nat.reduceLeDiff, Nat.reduceSub, Int.reduceEq, decide_true, Bool.not_true, rowPk]
  refine LoopE.cnt xs.length (fun i s => s.env 0 = .rd .ent 155 6 (ra pkC xs) ∧ s.env 1 = .rd .ent 155 6 (ra pkC xs) ∧ s.env 5 = .v (.int .i64 i)) ⟨by simp -dsimp -implicitDefEqProofs only [go_sem, Nat.reduceBEq, Nat.reduceAdd, Nat.reduceLeDiff, Nat.reduceSub, Int.reduceEq, initE, rowPk], by simp -dsimp -implicitDefEqProofs only [go_sem, Nat.reduceBEq, Nat.reduceAdd, Nat.reduceLeDiff, Nat.reduceSub, Int.reduceEq, initE, rowPk], by simp -dsimp -implicitDefEqProofs only [go_sem, Nat.reduceBEq, Nat.reduceAdd, Nat.reduceLeDiff, Nat.reduceSub, Int.reduceEq] <;> simp⟩ ?_
  rintro i ⟨e, σ⟩ hi ⟨h0, h1, h5⟩ K hK
  simp only at h0 h1 h5
  simp -dsimp -implicitDefEqProofs only [go_sem, Nat.reduceBEq, Nat.reduceAdd, Nat.reduceLeDiff, Nat.reduceSub, Int.reduceEq, h0, h1, h5]
  refine ifB'.of (fun hlt => ?_) (fun hlt => ?_)
  · have hlt : i < xs.length := by omega
    simp -dsimp -implicitDefEqProofs only [go_sem, Nat.reduceBEq, Nat.reduceAdd, Nat.reduceLeDiff, Nat.reduceSub, Int.reduceEq, h0, h1, h5, Pk_at hlt, pkC]
    repeat (first | with_reducible refine ask.of (by omega) ?_ | simp -dsimp -implicitDefEqProofs only [go_sem, Nat.reduceBEq, Nat.reduceAdd, Nat.reduceLeDiff, Nat.reduceSub, Int.reduceEq, h0, h1, h5, Pk_at hlt, pkC, bleR])
    refine CallE.of (c_eqPacket xs[i] (hb _ (List.getElem_mem _))) (by rintro r rfl; (repeat' first | exact trivial | exact pure_rowB _ | exact pure_rowO _ | exact pure_rowI _ | exact pure_rowBB _ | exact pure_rowPk _ _ | exact pure_rowSn _ _ | exact pure_rowFd _ _ | exact pure_rowBBB _ | exact pure_rowCl _ _ | exact pure_rowTb _ _ _ | refine And.intro ?_ ?_)) (by simp -dsimp -implicitDefEqProofs only [go_sem, Nat.reduceBEq, Nat.reduceAdd, Nat.reduceLeDiff, Nat.reduceSub, Int.reduceEq, h0, h1, h5, Bool.not_true, pkC]) ?_
    rintro r rfl
    simp -dsimp -implicitDefEqProofs only [go_sem, Nat.reduceBEq, Nat.reduceAdd, Nat.reduceLeDiff, Nat.reduceSub, Int.reduceEq, h0, h1, h5, Bool.not_true, pkC]
    refine hK _ hlt ?_
    simp -dsimp -implicitDefEqProofs only [go_sem, Nat.reduceBEq, Nat.reduceAdd, Nat.reduceLeDiff, Nat.reduceSub, Int.reduceEq, h0, h1, h5, wrap_succ (show i < 4611686018427387904 by omega)]
  · simp -dsimp -implicitDefEqProofs only [go_sem, Nat.reduceBEq, Nat.reduceAdd, Nat.reduceLeDiff, Nat.reduceSub, Int.reduceEq, h0, h1, h5]
end Go.Ev
set_option linter.unusedSimpArgs false
set_option linter.unusedVariables false
namespace Go.Ev
open Go Go.RowKit Go.Proofs
structure LI where
  a : Int
  b : Int
  h : List Pk
  f : List UInt8
def liC (T : Nat) (x : LI) : List AV := [.v (.int .i64 x.a), .v (.int .i64 x.b), .row T 6 (ra pkC x.h), .row 5 1 (bytesA x.f)]
def liW (x : LI) : Nat := x.h.length + szL pkW x.h + x.f.length
theorem c_szLinkIn (x : LI) (left : Nat) (hl : left ≤ 1048576) (hx : x.h.length ≤ 140737488355328) (hb : ∀ b ∈ x.h, b.f.length ≤ 140737488355328) (hf : x.f.length ≤ 140737488355328) : Meets Tryz.prog 29 [.agg (liC 153 x), .v (.int .i64 left)] (fun r => r = .v (.int .i64 (szR left (liW x)))) := by
  refine Meets.intro mixed (hint []) Tryz.func29 rfl (by decide) res_29 rty_29 (by kernel_rfl) ?_; 
  simp -dsimp -implicitDefEqProofs only [go_sem, Nat.reduceBEq, Nat.reduceAdd, Nat.reduceLeDiff, Nat.reduceSub, Int.reduceEq, liC]
  repeat (first | with_reducible refine ask.of (by omega) ?_ | simp -dsimp -implicitDefEqProofs only [go_sem, Nat.reduceBEq, Nat.reduceAdd, Nat.reduceLeDiff, Nat.reduceSub, Int.reduceEq, bleR])
  refine CallE.of (c_szPacketS x.h left hl hx hb) (by rintro r rfl; (repeat' first | exact trivial | exact pure_rowB _ | exact pure_rowO _ | exact pure_rowI _ | exact pure_rowBB _ | exact pure_rowPk _ _ | exact pure_rowSn _ _ | exact pure_rowFd _ _ | exact pure_rowBBB _ | exact pure_rowCl _ _ | exact pure_rowTb _ _ _ | refine And.intro ?_ ?_)) (by simp -dsimp -implicitDefEqProofs only [go_sem, Nat.reduceBEq, Nat.reduceAdd, Nat.reduceLeDiff, Nat.reduceSub, Int.reduceEq, rowPk]) ?_
  rintro r rfl
  simp -dsimp -implicitDefEqProofs only [go_sem, Nat.reduceBEq, Nat.reduceAdd, Nat.reduceLeDiff, Nat.reduceSub, Int.reduceEq, rowPk]
  by_cases h2 : x.h.length + szL pkW x.h ≤ left
  · rw [szR_ok h2]
    refine ifB'.of (fun h => by omega) (fun h => ?_)
    repeat (first | with_reducible refine ask.of (by omega) ?_ | simp -dsimp -implicitDefEqProofs only [go_sem, Nat.reduceBEq, Nat.reduceAdd, Nat.reduceLeDiff, Nat.reduceSub, Int.reduceEq, bleR])
    refine CallE.of (c_szByteS x.f (left - (x.h.length + szL pkW x.h)) hf (by omega)) (by rintro r rfl; (repeat' first | exact trivial | exact pure_rowB _ | exact pure_rowO _ | exact pure_rowI _ | exact pure_rowBB _ | exact pure_rowPk _ _ | exact pure_rowSn _ _ | exact pure_rowFd _ _ | exact pure_rowBBB _ | exact pure_rowCl _ _ | exact pure_rowTb _ _ _ | refine And.intro ?_ ?_)) (by simp -dsimp -implicitDefEqProofs only [go_sem, Nat.reduceBEq, Nat.reduceAdd, Nat.reduceLeDiff, Nat.reduceSub, Int.reduceEq]) ?_
    rintro r rfl
    simp -dsimp -implicitDefEqProofs only [go_sem, Nat.reduceBEq, Nat.reduceAdd, Nat.reduceLeDiff, Nat.reduceSub, Int.reduceEq]
    by_cases h3 : x.f.length ≤ left - (x.h.length + szL pkW x.h)
    · rw [szR_ok h3]
      refine ifB'.of (fun h => by omega) (fun h => ?_)
      simp -dsimp -implicitDefEqProofs only [go_sem, Nat.reduceBEq, Nat.reduceAdd, Nat.reduceLeDiff, Nat.reduceSub, Int.reduceEq]
      rw [szR_ok (by unfold liW; omega), liW]; omega
    · rw [szR_no h3]
      simp -dsimp -implicitDefEqProofs only [go_sem, Nat.reduceBEq, Nat.reduceAdd, Nat.reduceLeDiff, Nat.reduceSub, Int.reduceEq, show decide ((-1 : Int) < 0) = true from rfl]
      rw [szR_no (by unfold liW; omega)]
  · rw [szR_no h2]
    simp -dsimp -implicitDefEqProofs only [go_sem, Nat.reduceBEq, Nat.reduceAdd, Nat.reduceLeDiff, Nat.reduceSub, Int.reduceEq, show decide ((-1 : Int) < 0) = true from rfl]
    rw [szR_no (by unfold liW; omega)]
theorem c_toLinkIn (x : LI) (hx : x.h.length ≤ 1048576) (hb : ∀ b ∈ x.h, b.f.length ≤ 1048576) (hf : x.f.length ≤ 1048576) : Meets Tryz.prog 33 [.agg (liC 153 x)] (fun r => r = .agg (liC 155 x)) := by
  refine Meets.intro mixed (hint []) Tryz.func33 rfl (by decide) res_33 rty_33 (by kernel_rfl) ?_; 
  simp -dsimp -implicitDefEqProofs only [go_sem, Nat.reduceBEq, Nat.reduceAdd, Nat.reduceLeDiff, Nat.reduceSub, Int.reduceEq, liC]
  repeat (first | with_reducible refine ask.of (by omega) ?_ | simp -dsimp -implicitDefEqProofs only [go_sem, Nat.reduceBEq, Nat.reduceAdd, Nat.reduceLeDiff, Nat.reduceSub, Int.reduceEq, bleR])
  refine CallE.of (c_toPacketS x.h hx hb) (by rintro r rfl; (repeat' first | exact trivial | exact pure_rowB _ | exact pure_rowO _ | exact pure_rowI _ | exact pure_rowBB _ | exact pure_rowPk _ _ | exact pure_rowSn _ _ | exact pure_rowFd _ _ | exact pure_rowBBB _ | exact pure_rowCl _ _ | exact pure_rowTb _ _ _ | refine And.intro ?_ ?_)) (by simp -dsimp -implicitDefEqProofs only [go_sem, Nat.reduceBEq, Nat.reduceAdd, Nat.reduceLeDiff, Nat.reduceSub, Int.reduceEq, rowPk]) ?_
  rintro r rfl
  simp -dsimp -implicitDefEqProofs only [go_sem, Nat.reduceBEq, Nat.reduceAdd, Nat.reduceLeDiff, Nat.reduceSub, Int.reduceEq, rowPk]
  repeat (first | with_reducible refine ask.of (by omega) ?_ | simp -dsimp -implicitDefEqProofs only [go_sem, Nat.reduceBEq, Nat.reduceAdd, Nat.reduceLeDiff, Nat.reduceSub, Int.reduceEq, bleR])
  refine CallE.of (c_toByteS x.f hf) (by rintro r rfl; (repeat' first | exact trivial | exact pure_rowB _ | exact pure_rowO _ | exact pure_rowI _ | exact pure_rowBB _ | exact pure_rowPk _ _ | exact pure_rowSn _ _ | exact pure_rowFd _ _ | exact pure_rowBBB _ | exact pure_rowCl _ _ | exact pure_rowTb _ _ _ | refine And.intro ?_ ?_)) (by simp -dsimp -implicitDefEqProofs only [go_sem, Nat.reduceBEq, Nat.reduceAdd, Nat.reduceLeDiff, Nat.reduceSub, Int.reduceEq, rowPk]) ?_
  rintro r rfl
  simp -dsimp -implicitDefEqProofs only [go_sem, Nat.reduceBEq, Nat.reduceAdd, Nat.reduceLeDiff, Nat.reduceSub, Int.reduceEq, rowPk]
  repeat (first | with_reducible refine ask.of (by omega) ?_ | simp -dsimp -implicitDefEqProofs only [go_sem, Nat.reduceBEq, Nat.reduceAdd, Nat.reduceLeDiff, Nat.reduceSub, Int.reduceEq, bleR])
theorem c_eqLinkIn (x : LI) (hx : x.h.length ≤ 1048576) (hb : ∀ b ∈ x.h, b.f.length ≤ 1048576) (hf : x.f.length ≤ 1048576) : Meets Tryz.prog 37 [.agg (liC 155 x), .agg (liC 155 x)] (fun r => r = .v (.bool true)) := by
  refine Meets.intro mixed (hint []) Tryz.func37 rfl (by decide) res_37 rty_37 (by kernel_rfl) ?_; 
  simp -dsimp -implicitDefEqProofs only [go_sem, Nat.reduceBEq, Nat.reduceAdd, Nat.reduceLeDiff, Nat.reduceSub, Int.reduceEq, liC, decide_true]
  repeat (first | with_reducible refine ask.of (by omega) ?_ | simp -dsimp -implicitDefEqProofs only [go_sem, Nat.reduceBEq, Nat.reduceAdd, Nat.reduceLeDiff, Nat.reduceSub, Int.reduceEq, bleR, decide_true])
  refine CallE.of (c_eqPacketS x.h hx hb) (by rintro r rfl; (repeat' first | exact trivial | exact pure_rowB _ | exact pure_rowO _ | exact pure_rowI _ | exact pure_rowBB _ | exact pure_rowPk _ _ | exact pure_rowSn _ _ | exact pure_rowFd _ _ | exact pure_rowBBB _ | exact pure_rowCl _ _ | exact pure_rowTb _ _ _ | refine And.intro ?_ ?_)) (by simp -dsimp -implicitDefEqProofs only [go_sem, Nat.reduceBEq, Nat.reduceAdd, Nat.reduceLeDiff, Nat.reduceSub, Int.reduceEq, rowPk, Bool.not_true]) ?_
  rintro r rfl
  simp -dsimp -implicitDefEqProofs only [go_sem, Nat.reduceBEq, Nat.reduceAdd, Nat.reduceLeDiff, Nat.reduceSub, Int.reduceEq, rowPk, Bool.not_true]
  repeat (first | with_reducible refine ask.of (by omega) ?_ | simp -dsimp -implicitDefEqProofs only [go_sem, Nat.reduceBEq, Nat.reduceAdd, Nat.reduceLeDiff, Nat.reduceSub, Int.reduceEq, bleR, decide_true])
  refine CallE.of (c_eqByteS x.f (by omega)) (by rintro r rfl; (repeat' first | exact trivial | exact pure_rowB _ | exact pure_rowO _ | exact pure_rowI _ | exact pure_rowBB _ | exact pure_rowPk _ _ | exact pure_rowSn _ _ | exact pure_rowFd _ _ | exact pure_rowBBB _ | exact pure_rowCl _ _ | exact pure_rowTb _ _ _ | refine And.intro ?_ ?_)) (by simp -dsimp -implicitDefEqProofs only [go_sem, Nat.reduceBEq, Nat.reduceAdd, Nat.reduceLeDiff, Nat.reduceSub, Int.reduceEq, Bool.not_true]) ?_
  rintro r rfl
  simp -dsimp -implicitDefEqProofs only [go_sem, Nat.reduceBEq, Nat.reduceAdd, Nat.reduceLeDiff, Nat.reduceSub, Int.reduceEq, Bool.not_true]
theorem c_l5data (p : Pk) (n : Int) (hb : p.f.length ≤ 1048576) : Meets Tryz.prog 128 [.agg (pkC p), .v (.int .i64 n)] (fun r => r = .v (.bool (okB p && (decide (p.a = 1) && decide (p.b = n))))) := by
  refine Meets.intro mixed (hint []) Tryz.func128 rfl (by decide) res_128 rty_128 (by kernel_rfl) ?_; 
  simp -dsimp -implicitDefEqProofs only [go_sem, Nat.reduceBEq, Nat.reduceAdd, Nat.reduceLeDiff, Nat.reduceSub, Int.reduceEq, pkC]
  repeat (first | with_reducible refine ask.of (by omega) ?_ | simp -dsimp -implicitDefEqProofs only [go_sem, Nat.reduceBEq, Nat.reduceAdd, Nat.reduceLeDiff, Nat.reduceSub, Int.reduceEq, bleR, decide_true])
  refine CallE.of (c_l5valid p hb) (by rintro r rfl; (repeat' first | exact trivial | exact pure_rowB _ | exact pure_rowO _ | exact pure_rowI _ | exact pure_rowBB _ | exact pure_rowPk _ _ | exact pure_rowSn _ _ | exact pure_rowFd _ _ | exact pure_rowBBB _ | exact pure_rowCl _ _ | exact pure_rowTb _ _ _ | refine And.intro ?_ ?_)) (by simp -dsimp -implicitDefEqProofs only [go_sem, Nat.reduceBEq, Nat.reduceAdd, Nat.reduceLeDiff, Nat.reduceSub, Int.reduceEq, pkC]) ?_
  rintro r rfl
  simp -dsimp -implicitDefEqProofs only [go_sem, Nat.reduceBEq, Nat.reduceAdd, Nat.reduceLeDiff, Nat.reduceSub, Int.reduceEq, pkC]
  cases h : okB p
  · simp -dsimp -implicitDefEqProofs only [go_sem, Nat.reduceBEq, Nat.reduceAdd, Nat.reduceLeDiff, Nat.reduceSub, Int.reduceEq, h, Bool.false_and]
  simp -dsimp -implicitDefEqProofs only [go_sem, Nat.reduceBEq, Nat.reduceAdd, Nat.reduceLeDiff, Nat.reduceSub, Int.reduceEq, h, Bool.true_and]
  repeat (first | with_reducible refine ask.of (by omega) ?_ | simp -dsimp -implicitDefEqProofs only [go_sem, Nat.reduceBEq, Nat.reduceAdd, Nat.reduceLeDiff, Nat.reduceSub, Int.reduceEq, h, Bool.true_and])
  refine ifB'.of (fun h1 => ?_) (fun h1 => ?_)
  · simp -dsimp -implicitDefEqProofs only [go_sem, Nat.reduceBEq, Nat.reduceAdd, Nat.reduceLeDiff, Nat.reduceSub, Int.reduceEq, decide_eq_true h1, Bool.true_and]
    repeat (first | with_reducible refine ask.of (by omega) ?_ | simp -dsimp -implicitDefEqProofs only [go_sem, Nat.reduceBEq, Nat.reduceAdd, Nat.reduceLeDiff, Nat.reduceSub, Int.reduceEq, decide_eq_true h1, Bool.true_and])
  · simp -dsimp -implicitDefEqProofs only [go_sem, Nat.reduceBEq, Nat.reduceAdd, Nat.reduceLeDiff, Nat.reduceSub, Int.reduceEq, decide_eq_false h1, Bool.false_and]
def liAt (x : LI) (i : Nat) (h : i < x.h.length) : Prop := okPk x.h[i] ∧ x.h[i].a = 1 ∧ x.h[i].b = x.a ∧ x.b < x.h[i].c ∧ x.h[i].c < x.b + 8 ∧ (i = 0 ∨ ∃ h0 : i - 1 < x.h.length, x.h[i - 1].c < x.h[i].c)
def okLI (x : LI) : Prop := (0 ≤ x.a ∧ x.a ≤ 1000000000 ∧ 0 ≤ x.b ∧ x.b ≤ 1000000000000 ∧ x.f.length ≤ 20000) ∧ ∀ i (h : i < x.h.length), liAt x i h
noncomputable def liB (x : LI) : Bool := @decide (okLI x) (Classical.propDecidable _)
theorem li_f {x : LI} (h : ¬ okLI x) : false = liB x := (@decide_eq_false _ (Classical.propDecidable _) h).symm
theorem li_t {x : LI} (h : okLI x) : true = liB x := (@decide_eq_true _ (Classical.propDecidable _) h).symm
theorem c_specValidIn (x : LI) (hx : x.h.length ≤ 1048576) (hb : ∀ b ∈ x.h, b.f.length ≤ 1048576) (hf : x.f.length ≤ 1048576) : Meets Tryz.prog 72 [.agg (liC 155 x)] (fun r => r = .v (.bool (liB x))) := by
  refine Meets.introO mixed (hint []) (fun k => (sel (k == 7) [0,1,2,3,4,5,6,7,8,9,10,11,12,13,14,15,16,17,18,19,20,21,22,23,24,25,26,27,28,29,30,31,32,33,34,35] [])) Tryz.func72 rfl (by decide) res_72 rty_72 (by kernel_rfl) ?_; 
  simp -dsimp -implicitDefEqProofs only [go_sem, Nat.reduceBEq, Nat.reduceAdd, Nat.reduceLeDiff, Nat.reduceSub, Int.reduceEq, liC, decide_true]
  repeat' (first | with_reducible refine ifB'.of (fun h => ?_) (fun h => ?_) | with_reducible refine ask.of (by omega) ?_ | ((with_reducible refine li_f ?_); exact fun (hh : okLI x) => by have := hh.1; omega) | simp -dsimp -implicitDefEqProofs only [go_sem, Nat.reduceBEq, Nat.reduceAdd, Nat.reduceLeDiff, Nat.reduceSub, Int.reduceEq, decide_true, bleR])
  refine LoopE.cnt x.h.length (fun i s => s.env 1 = .ptr [1] 0 0 0 ∧ s.env 3 = .v (.int .i64 i) ∧ s.σ [1] = some (.box 36 [.v (.int .i64 x.a), .v (.int .i64 x.b), .rd .ent 155 6 (ra pkC x.h), .rd .ent 5 1 (bytesA x.f)]) ∧ ∀ j (hj : j < x.h.length), j < i → liAt x j hj) ⟨by simp -dsimp -implicitDefEqProofs only [go_sem, Nat.reduceBEq, Nat.reduceAdd, Nat.reduceLeDiff, Nat.reduceSub, Int.reduceEq], by simp -dsimp -implicitDefEqProofs only [go_sem, Nat.reduceBEq, Nat.reduceAdd, Nat.reduceLeDiff, Nat.reduceSub, Int.reduceEq] <;> simp, by simp -dsimp -implicitDefEqProofs only [go_sem, Nat.reduceBEq, Nat.reduceAdd, Nat.reduceLeDiff, Nat.reduceSub, Int.reduceEq], fun j hj h => absurd h (by omega)⟩ ?_
  rintro i ⟨e, σ⟩ hi ⟨h1, h3, hs, hz⟩ K hK
  simp only at h1 h3 hs
  repeat (first | with_reducible refine ask.of (by omega) ?_ | simp -dsimp -implicitDefEqProofs only [go_sem, Nat.reduceBEq, Nat.reduceAdd, Nat.reduceLeDiff, Nat.reduceSub, Int.reduceEq, h1, h3, hs, bleR])
  refine ifB'.of (fun hlt => ?_) (fun hlt => ?_)
  · have hlt : i < x.h.length := by omega
    repeat (first | with_reducible refine ask.of (by omega) ?_ | simp -dsimp -implicitDefEqProofs only [go_sem, Nat.reduceBEq, Nat.reduceAdd, Nat.reduceLeDiff, Nat.reduceSub, Int.reduceEq, h1, h3, hs, bleR, Pk_at hlt, pkC])
    refine CallE.of (c_l5data x.h[i] x.a (hb _ (List.getElem_mem _))) (by rintro r rfl; (repeat' first | exact trivial | exact pure_rowB _ | exact pure_rowO _ | exact pure_rowI _ | exact pure_rowBB _ | exact pure_rowPk _ _ | exact pure_rowSn _ _ | exact pure_rowFd _ _ | exact pure_rowBBB _ | exact pure_rowCl _ _ | exact pure_rowTb _ _ _ | refine And.intro ?_ ?_)) (by simp -dsimp -implicitDefEqProofs only [go_sem, Nat.reduceBEq, Nat.reduceAdd, Nat.reduceLeDiff, Nat.reduceSub, Int.reduceEq, h1, h3, hs, pkC]) ?_
    rintro r rfl
    simp -dsimp -implicitDefEqProofs only [go_sem, Nat.reduceBEq, Nat.reduceAdd, Nat.reduceLeDiff, Nat.reduceSub, Int.reduceEq, h1, h3, hs, pkC]
    cases h5 : (okB x.h[i] && (decide (x.h[i].a = 1) && decide (x.h[i].b = x.a)))
    · repeat (first | with_reducible refine ask.of (by omega) ?_ | simp -dsimp -implicitDefEqProofs only [go_sem, Nat.reduceBEq, Nat.reduceAdd, Nat.reduceLeDiff, Nat.reduceSub, Int.reduceEq, h1, h3, hs, h5, Bool.not_false])
      exact li_f fun (hh : okLI x) => by
        have h6 := hh.2 i hlt
        unfold liAt at h6
        rw [okB, decide_eq_true h6.1, decide_eq_true h6.2.1, decide_eq_true h6.2.2.1] at h5
        cases h5
    · have h6 : okPk x.h[i] ∧ x.h[i].a = 1 ∧ x.h[i].b = x.a := by simpa [okB] using h5
      have e9 : IntKind.i64.wrap (x.b + 8) = x.b + 8 := wrap_i64_of (by omega) (by omega)
      rcases Nat.eq_zero_or_pos i with h0 | h0
      · have e0 : ¬ 0 < (i : Int) := by omega
        repeat' (first | with_reducible refine ifB'.of (fun h => ?_) (fun h => ?_) | with_reducible refine ask.of (by omega) ?_ | ((with_reducible refine li_f ?_); exact fun (hh : okLI x) => by { have h7 := hh.2 i hlt; unfold liAt at h7; omega }) | simp -dsimp -implicitDefEqProofs only [go_sem, Nat.reduceBEq, Nat.reduceAdd, Nat.reduceLeDiff, Nat.reduceSub, Int.reduceEq, h1, h3, hs, h5, Bool.not_true, e9, e0, decide_false])
        refine hK _ hlt ?_
        simp -dsimp -implicitDefEqProofs only [go_sem, Nat.reduceBEq, Nat.reduceAdd, Nat.reduceLeDiff, Nat.reduceSub, Int.reduceEq, h1, h3, hs, wrap_succ (show i < 4611686018427387904 by omega)]
        exact fun j hj hjt => by
          by_cases hji : j = i
          · subst hji; exact ⟨h6.1, h6.2.1, h6.2.2, by omega, by omega, .inl h0⟩
          · exact hz j hj (by omega)
      · have e0 : 0 < (i : Int) := by omega
        have e8 : IntKind.i64.wrap ((i : Int) - 1) = ((i - 1 : Nat) : Int) := by rw [wrap_i64_of (by omega) (by omega)]; omega
        have hl1 : i - 1 < x.h.length := by omega
        repeat' (first | with_reducible refine ifB'.of (fun h => ?_) (fun h => ?_) | with_reducible refine ask.of (by omega) ?_ | ((with_reducible refine li_f ?_); exact fun (hh : okLI x) => by { have h7 := hh.2 i hlt; unfold liAt at h7; rcases h7 with ⟨_, _, _, h7, h8, h9 | ⟨h9, h10⟩⟩ <;> omega }) | simp -dsimp -implicitDefEqProofs only [go_sem, Nat.reduceBEq, Nat.reduceAdd, Nat.reduceLeDiff, Nat.reduceSub, Int.reduceEq, h1, h3, hs, h5, Bool.not_true, e9, e0, decide_true, e8, Pk_at hl1, pkC])
        refine hK _ hlt ?_
        simp -dsimp -implicitDefEqProofs only [go_sem, Nat.reduceBEq, Nat.reduceAdd, Nat.reduceLeDiff, Nat.reduceSub, Int.reduceEq, h1, h3, hs, wrap_succ (show i < 4611686018427387904 by omega)]
        exact fun j hj hjt => by
          by_cases hji : j = i
          · subst hji; exact ⟨h6.1, h6.2.1, h6.2.2, by omega, by omega, .inr ⟨hl1, by omega⟩⟩
          · exact hz j hj (by omega)
  · have hi : i = x.h.length := by omega
    simp -dsimp -implicitDefEqProofs only [go_sem, Nat.reduceBEq, Nat.reduceAdd, Nat.reduceLeDiff, Nat.reduceSub, Int.reduceEq, h1, h3, hs]
    exact li_t ⟨by omega, fun j hj => hz j hj (by omega)⟩
end Go.Ev
set_option linter.unusedSimpArgs false
set_option linter.unusedVariables false
namespace Go.Ev
open Go Go.RowKit Go.Proofs
def tsOk (fs : List Fd) (xs : List Tb) : Prop := xs.length ≤ 20 ∧ ∀ t ∈ xs, okT fs t.r t.c
noncomputable def tsB (fs : List Fd) (xs : List Tb) : Bool := @decide (tsOk fs xs) (Classical.propDecidable _)
theorem ts_f {fs : List Fd} {xs : List Tb} (h : ¬ tsOk fs xs) : false = tsB fs xs := (@decide_eq_false _ (Classical.propDecidable _) h).symm
theorem ts_t {fs : List Fd} {xs : List Tb} (h : tsOk fs xs) : true = tsB fs xs := (@decide_eq_true _ (Classical.propDecidable _) h).symm
theorem tsB_t {fs : List Fd} {xs : List Tb} (h : tsB fs xs = true) : tsOk fs xs := of_decide_eq_true (inst := Classical.propDecidable _) h
theorem tbB_t {fs : List Fd} {r : Int} {xs : List Cl} (h : tbB fs r xs = true) : okT fs r xs := of_decide_eq_true (inst := Classical.propDecidable _) h
theorem tbB_f {fs : List Fd} {r : Int} {xs : List Cl} (h : tbB fs r xs = false) : ¬ okT fs r xs := of_decide_eq_false (inst := Classical.propDecidable _) h
def tbGood (t : Tb) : Prop := t.c.length + szL clW t.c ≤ 1048576 ∧ ∀ c ∈ t.c, i64r c.i
set_option maxRecDepth 8000 in
theorem c_tablesOK (fs : List Fd) (xs : List Tb) (hf : fs.length ≤ 1048576) (hfb : ∀ b ∈ fs, b.f.length ≤ 1048576) (hx : xs.length ≤ 1048576) (hg : ∀ t ∈ xs, tbGood t) : Meets Tryz.prog 101 [rowFd 138 fs, rowTb 73 126 xs] (fun r => r = .v (.bool (tsB fs xs))) := by
  refine Meets.intro mixed (hint []) Tryz.func101 rfl (by decide) res_101 rty_101 (by kernel_rfl) ?_; 
  simp -dsimp -implicitDefEqProofs only [go_sem, Nat.reduceBEq, Nat.reduceAdd, Nat.reduceLeDiff, Nat.reduceSub, Int.reduceEq, rowFd, rowTb]
  refine ifB'.of (fun h => ?_) (fun h => ?_)
  · simp -dsimp -implicitDefEqProofs only [go_sem, Nat.reduceBEq, Nat.reduceAdd, Nat.reduceLeDiff, Nat.reduceSub, Int.reduceEq]
    exact ts_f fun hh => by have := hh.1; omega
  simp -dsimp -implicitDefEqProofs only [go_sem, Nat.reduceBEq, Nat.reduceAdd, Nat.reduceLeDiff, Nat.reduceSub, Int.reduceEq]
  refine LoopE.cnt xs.length (fun i s => s.env 0 = .rd .ent 138 3 (ra fdC fs) ∧ s.env 1 = .rd .ent 73 2 (ra (tbC 126) xs) ∧ s.env 5 = .v (.int .i64 i) ∧ ∀ t ∈ xs.take i, okT fs t.r t.c) ⟨by simp -dsimp -implicitDefEqProofs only [go_sem, Nat.reduceBEq, Nat.reduceAdd, Nat.reduceLeDiff, Nat.reduceSub, Int.reduceEq, initE, rowFd], by simp -dsimp -implicitDefEqProofs only [go_sem, Nat.reduceBEq, Nat.reduceAdd, Nat.reduceLeDiff, Nat.reduceSub, Int.reduceEq, initE, rowTb], by simp -dsimp -implicitDefEqProofs only [go_sem, Nat.reduceBEq, Nat.reduceAdd, Nat.reduceLeDiff, Nat.reduceSub, Int.reduceEq] <;> rfl, by simp⟩ ?_
  rintro i ⟨e, σ⟩ hi ⟨h0, h1, h5, hall⟩ K hK
  simp only at h0 h1 h5
  simp -dsimp -implicitDefEqProofs only [go_sem, Nat.reduceBEq, Nat.reduceAdd, Nat.reduceLeDiff, Nat.reduceSub, Int.reduceEq, h0, h1, h5]
  refine ifB'.of (fun hlt => ?_) (fun hlt => ?_)
  · have hlt : i < xs.length := by omega
    have hgi := hg _ (List.getElem_mem hlt)
    repeat (first | with_reducible refine ask.of (by first | omega | decide) ?_ | simp -dsimp -implicitDefEqProofs only [go_sem, Nat.reduceBEq, Nat.reduceAdd, Nat.reduceLeDiff, Nat.reduceSub, Int.reduceEq, h0, h1, h5, tbA_at hlt, bl22])
    refine CallE.of (c_sValidTable fs xs[i].r xs[i].c hf hfb hgi.1) (by rintro r rfl; (repeat' first | exact trivial | exact pure_rowB _ | exact pure_rowO _ | exact pure_rowI _ | exact pure_rowBB _ | exact pure_rowPk _ _ | exact pure_rowSn _ _ | exact pure_rowFd _ _ | exact pure_rowBBB _ | exact pure_rowCl _ _ | exact pure_rowTb _ _ _ | refine And.intro ?_ ?_)) (by simp -dsimp -implicitDefEqProofs only [go_sem, Nat.reduceBEq, Nat.reduceAdd, Nat.reduceLeDiff, Nat.reduceSub, Int.reduceEq, h0, h1, h5, tbC, rowFd]) ?_
    rintro r rfl
    simp -dsimp -implicitDefEqProofs only [go_sem, Nat.reduceBEq, Nat.reduceAdd, Nat.reduceLeDiff, Nat.reduceSub, Int.reduceEq, h0, h1, h5, tbC, rowFd]
    cases hv : tbB fs xs[i].r xs[i].c
    · simp -dsimp -implicitDefEqProofs only [go_sem, Nat.reduceBEq, Nat.reduceAdd, Nat.reduceLeDiff, Nat.reduceSub, Int.reduceEq, h0, h1, h5, Bool.not_false]
      exact ts_f fun hh => tbB_f hv (hh.2 _ (List.getElem_mem hlt))
    · simp -dsimp -implicitDefEqProofs only [go_sem, Nat.reduceBEq, Nat.reduceAdd, Nat.reduceLeDiff, Nat.reduceSub, Int.reduceEq, h0, h1, h5, Bool.not_true]
      refine hK _ hlt ?_
      simp -dsimp -implicitDefEqProofs only [go_sem, Nat.reduceBEq, Nat.reduceAdd, Nat.reduceLeDiff, Nat.reduceSub, Int.reduceEq, h0, h1, h5, wrap_succ (show i < 4611686018427387904 by omega)]
      intro t ht
      rw [List.take_succ_eq_append_getElem hlt] at ht
      rcases List.mem_append.1 ht with ht | ht
      · exact hall t ht
      · rw [List.mem_singleton.1 ht]; exact tbB_t hv
  · have : i = xs.length := by omega
    subst this
    rw [List.take_length] at hall
    simp -dsimp -implicitDefEqProofs only [go_sem, Nat.reduceBEq, Nat.reduceAdd, Nat.reduceLeDiff, Nat.reduceSub, Int.reduceEq, h0, h1, h5]
    exact ts_t ⟨by omega, hall⟩
set_option maxRecDepth 8000 in
theorem c_indexFuncT (g T : Nat) (cs : List AV) (p : Tb → Bool) (xs : List Tb) (hx : xs.length ≤ 1048576) (hM : ∀ t ∈ xs, Meets Tryz.prog g [.agg (tbC 126 t), .bx T cs] (fun r => r = .v (.bool (p t)))) (hp : parTys Tryz.prog g = [73]) :
    Meets Tryz.prog 134 [rowTb 73 126 xs, .fn g [.bx T cs]] (fun r => ∃ k : Int, r = .v (.int .i64 k) ∧ (0 ≤ k ↔ ∃ t ∈ xs, p t = true)) := by
  refine Meets.intro mixed (hint []) Tryz.func134 rfl (by decide) res_134 rty_134 (by kernel_rfl) ?_; 
  simp -dsimp -implicitDefEqProofs only [go_sem, Nat.reduceBEq, Nat.reduceAdd, Nat.reduceLeDiff, Nat.reduceSub, Int.reduceEq, rowTb]
  refine LoopE.cnt xs.length (fun i s => s.env 0 = .rd .ent 73 2 (ra (tbC 126) xs) ∧ s.env 1 = .fn g [.rp .ent T cs.length [cs] 0 0] ∧ s.env 7 = .v (.int .i64 xs.length) ∧ s.env 8 = .v (.int .i64 i) ∧ ∀ t ∈ xs.take i, p t = false) ⟨by simp -dsimp -implicitDefEqProofs only [go_sem, Nat.reduceBEq, Nat.reduceAdd, Nat.reduceLeDiff, Nat.reduceSub, Int.reduceEq, initE, rowTb], by simp -dsimp -implicitDefEqProofs only [go_sem, Nat.reduceBEq, Nat.reduceAdd, Nat.reduceLeDiff, Nat.reduceSub, Int.reduceEq, initE], by simp -dsimp -implicitDefEqProofs only [go_sem, Nat.reduceBEq, Nat.reduceAdd, Nat.reduceLeDiff, Nat.reduceSub, Int.reduceEq], by simp -dsimp -implicitDefEqProofs only [go_sem, Nat.reduceBEq, Nat.reduceAdd, Nat.reduceLeDiff, Nat.reduceSub, Int.reduceEq] <;> rfl, by simp⟩ ?_
  rintro i ⟨e, σ⟩ hi ⟨h0, h1, h7, h8, hall⟩ K hK
  simp only at h0 h1 h7 h8
  simp -dsimp -implicitDefEqProofs only [go_sem, Nat.reduceBEq, Nat.reduceAdd, Nat.reduceLeDiff, Nat.reduceSub, Int.reduceEq, h0, h1, h7, h8]
  refine ifB'.of (fun hlt => ?_) (fun hlt => ?_)
  · have hlt : i < xs.length := by omega
    repeat (first | with_reducible refine ask.of (by first | omega | decide) ?_ | simp -dsimp -implicitDefEqProofs only [go_sem, Nat.reduceBEq, Nat.reduceAdd, Nat.reduceLeDiff, Nat.reduceSub, Int.reduceEq, h0, h1, h7, h8, tbA_at hlt, bl22])
    refine CallV.ofE (hM xs[i] (List.getElem_mem hlt)) (by rintro r rfl; (repeat' first | exact trivial | exact pure_rowB _ | exact pure_rowO _ | exact pure_rowI _ | exact pure_rowBB _ | exact pure_rowPk _ _ | exact pure_rowSn _ _ | exact pure_rowFd _ _ | exact pure_rowBBB _ | exact pure_rowCl _ _ | exact pure_rowTb _ _ _ | refine And.intro ?_ ?_)) (by first | (simp -dsimp -implicitDefEqProofs only [go_sem, Nat.reduceBEq, Nat.reduceAdd, Nat.reduceLeDiff, Nat.reduceSub, Int.reduceEq, h0, h1, h7, h8, tbC, hp]; done) | (simp -dsimp -implicitDefEqProofs only [go_sem, Nat.reduceBEq, Nat.reduceAdd, Nat.reduceLeDiff, Nat.reduceSub, Int.reduceEq, h0, h1, h7, h8, tbC, hp]; rfl)) (by first | (simp -dsimp -implicitDefEqProofs only [go_sem, Nat.reduceBEq, Nat.reduceAdd, Nat.reduceLeDiff, Nat.reduceSub, Int.reduceEq, h0, h1, h7, h8, tbC, hp]; done) | (simp -dsimp -implicitDefEqProofs only [go_sem, Nat.reduceBEq, Nat.reduceAdd, Nat.reduceLeDiff, Nat.reduceSub, Int.reduceEq, h0, h1, h7, h8, tbC, hp]; rfl)) (by first | rfl | (simp -dsimp -implicitDefEqProofs only [go_sem, Nat.reduceBEq, Nat.reduceAdd, Nat.reduceLeDiff, Nat.reduceSub, Int.reduceEq, h0, h1, h7, h8, tbC, hp]; done)) ?_
    rintro r rfl
    simp -dsimp -implicitDefEqProofs only [go_sem, Nat.reduceBEq, Nat.reduceAdd, Nat.reduceLeDiff, Nat.reduceSub, Int.reduceEq, h0, h1, h7, h8, tbC, hp]
    cases hv : p xs[i]
    · simp -dsimp -implicitDefEqProofs only [go_sem, Nat.reduceBEq, Nat.reduceAdd, Nat.reduceLeDiff, Nat.reduceSub, Int.reduceEq, h0, h1, h7, h8]
      refine hK _ hlt ?_
      simp -dsimp -implicitDefEqProofs only [go_sem, Nat.reduceBEq, Nat.reduceAdd, Nat.reduceLeDiff, Nat.reduceSub, Int.reduceEq, h0, h1, h7, h8, wrap_succ (show i < 4611686018427387904 by omega)]
      intro t ht
      rw [List.take_succ_eq_append_getElem hlt] at ht
      rcases List.mem_append.1 ht with ht | ht
      · exact hall t ht
      · rw [List.mem_singleton.1 ht]; exact hv
    · simp -dsimp -implicitDefEqProofs only [go_sem, Nat.reduceBEq, Nat.reduceAdd, Nat.reduceLeDiff, Nat.reduceSub, Int.reduceEq, h0, h1, h7, h8]
      exact ⟨_, rfl, ⟨fun _ => ⟨_, List.getElem_mem hlt, hv⟩, fun _ => by omega⟩⟩
  · have : i = xs.length := by omega
    subst this
    rw [List.take_length] at hall
    simp -dsimp -implicitDefEqProofs only [go_sem, Nat.reduceBEq, Nat.reduceAdd, Nat.reduceLeDiff, Nat.reduceSub, Int.reduceEq, h0, h1, h7, h8]
    exact ⟨_, rfl, ⟨fun h => absurd h (by decide), fun ⟨t, ht, hv⟩ => by rw [hall t ht] at hv; cases hv⟩⟩
theorem c_containsFuncT (g T : Nat) (cs : List AV) (p : Tb → Bool) (xs : List Tb) (hx : xs.length ≤ 1048576) (hM : ∀ t ∈ xs, Meets Tryz.prog g [.agg (tbC 126 t), .bx T cs] (fun r => r = .v (.bool (p t)))) (hp : parTys Tryz.prog g = [73]) :
    Meets Tryz.prog 80 [rowTb 73 126 xs, .fn g [.bx T cs]] (fun r => r = .v (.bool (xs.any p))) := by
  refine Meets.intro mixed (hint []) Tryz.func80 rfl (by decide) res_80 rty_80 (by kernel_rfl) ?_; 
  simp -dsimp -implicitDefEqProofs only [go_sem, Nat.reduceBEq, Nat.reduceAdd, Nat.reduceLeDiff, Nat.reduceSub, Int.reduceEq, rowTb]
  refine CallE.of (c_indexFuncT g T cs p xs hx hM hp) (by rintro r ⟨k, rfl, _⟩; trivial) (by simp -dsimp -implicitDefEqProofs only [go_sem, Nat.reduceBEq, Nat.reduceAdd, Nat.reduceLeDiff, Nat.reduceSub, Int.reduceEq, rowTb]) ?_
  rintro r ⟨k, rfl, hk⟩
  simp -dsimp -implicitDefEqProofs only [go_sem, Nat.reduceBEq, Nat.reduceAdd, Nat.reduceLeDiff, Nat.reduceSub, Int.reduceEq]
  have e : decide (0 ≤ k) = xs.any p := by
    cases ha : xs.any p with
    | true => exact decide_eq_true (hk.2 (List.any_eq_true.1 ha))
    | false => exact decide_eq_false fun h => by rw [List.any_eq_true.2 (hk.1 h)] at ha; cases ha
  exact e
end Go.Ev
set_option linter.unusedSimpArgs false
set_option linter.unusedVariables false
namespace Go.Ev
open Go Go.RowKit Go.Proofs
theorem smB_t {x : Sm} (h : smB x = true) : okS x := of_decide_eq_true (inst := Classical.propDecidable _) h
theorem smB_iff (x : Sm) : okS x ↔ smB x = true := ⟨fun h => (sm_t h).symm, smB_t⟩
theorem tsB_iff (fs : List Fd) (xs : List Tb) : tsOk fs xs ↔ tsB fs xs = true := ⟨fun h => (ts_t h).symm, tsB_t⟩
theorem tbB_iff (fs : List Fd) (r : Int) (xs : List Cl) : okT fs r xs ↔ tbB fs r xs = true := ⟨fun h => (tb_t h).symm, tbB_t⟩
theorem tsOk_any (fs : List Fd) (xs : List Tb) : tsOk fs xs ↔ xs.length ≤ 20 ∧ (xs.any fun t => !tbB fs t.r t.c) = false := by
  unfold tsOk
  rw [List.any_eq_false]
  constructor
  · rintro ⟨h1, h2⟩; exact ⟨h1, fun t ht => by rw [(tbB_iff _ _ _).1 (h2 t ht)]; decide⟩
  · rintro ⟨h1, h2⟩; exact ⟨h1, fun t ht => (tbB_iff _ _ _).2 (by have := h2 t ht; cases hb : tbB fs t.r t.c <;> simp_all)⟩
end Go.Ev
set_option linter.unusedSimpArgs false
set_option linter.unusedVariables false
namespace Go.Ev
open Go Go.RowKit Go.Proofs
def prevC (x : LI) (i : Nat) : Int := if i = 0 then x.b else (x.h[i - 1]?.map (·.c)).getD 0
theorem prevC_zero (x : LI) : prevC x 0 = x.b := rfl
theorem prevC_succ (x : LI) {i : Nat} (h : i < x.h.length) : prevC x (i + 1) = x.h[i].c := by simp [prevC, h]
theorem li_len {x : LI} (h : okLI x) : x.h.length ≤ 8 := by
  have key : ∀ i (hi : i < x.h.length), x.b + 1 + i ≤ x.h[i].c := fun i => by
    induction i with
    | zero =>
      intro hi
      have := h.2 0 hi
      unfold liAt at this
      omega
    | succ i ih =>
      intro hi
      have h1 := ih (by omega)
      obtain ⟨_, _, _, _, _, h2 | ⟨h3, h4⟩⟩ := h.2 (i + 1) hi
      · omega
      · have e : i + 1 - 1 = i := by omega
        simp only [e] at h4
        omega
  rcases Nat.lt_or_ge 8 x.h.length with h8 | h8
  · have h1 := key 8 h8
    obtain ⟨_, _, _, _, h2, _⟩ := h.2 8 h8
    omega
  · exact h8
theorem c_implValidIn (x : LI) (hx : x.h.length ≤ 1048576) (hb : ∀ b ∈ x.h, b.f.length ≤ 1048576) (hf : x.f.length ≤ 1048576) : Meets Tryz.prog 79 [.agg (liC 155 x)] (fun r => r = .v (.bool (liB x))) := by
  refine Meets.intro mixed (hint []) Tryz.func79 rfl (by decide) res_79 rty_79 (by kernel_rfl) ?_; 
  simp -dsimp -implicitDefEqProofs only [go_sem, Nat.reduceBEq, Nat.reduceAdd, Nat.reduceLeDiff, Nat.reduceSub, Int.reduceEq, liC, decide_true]
  repeat' (first | with_reducible refine ifB'.of (fun h => ?_) (fun h => ?_) | with_reducible refine ask.of (by omega) ?_ | ((with_reducible refine li_f ?_); exact fun (hh : okLI x) => by { have := hh.1; have := li_len hh; omega }) | simp -dsimp -implicitDefEqProofs only [go_sem, Nat.reduceBEq, Nat.reduceAdd, Nat.reduceLeDiff, Nat.reduceSub, Int.reduceEq, decide_true, bleR])
  refine LoopE.cnt x.h.length (fun i s => s.env 1 = .ptr [1] 0 0 0 ∧ s.env 39 = .rd .ent 155 6 (ra pkC x.h) ∧ s.env 40 = .v (.int .i64 x.h.length) ∧ s.env 41 = .v (.int .i64 i) ∧ s.env 3 = .v (.int .i64 (prevC x i)) ∧ s.σ [1] = some (.box 36 [.v (.int .i64 x.a), .v (.int .i64 x.b), .rd .ent 155 6 (ra pkC x.h), .rd .ent 5 1 (bytesA x.f)]) ∧ ∀ j (hj : j < x.h.length), j < i → liAt x j hj) ⟨by simp -dsimp -implicitDefEqProofs only [go_sem, Nat.reduceBEq, Nat.reduceAdd, Nat.reduceLeDiff, Nat.reduceSub, Int.reduceEq], by simp -dsimp -implicitDefEqProofs only [go_sem, Nat.reduceBEq, Nat.reduceAdd, Nat.reduceLeDiff, Nat.reduceSub, Int.reduceEq], by simp -dsimp -implicitDefEqProofs only [go_sem, Nat.reduceBEq, Nat.reduceAdd, Nat.reduceLeDiff, Nat.reduceSub, Int.reduceEq], by simp -dsimp -implicitDefEqProofs only [go_sem, Nat.reduceBEq, Nat.reduceAdd, Nat.reduceLeDiff, Nat.reduceSub, Int.reduceEq] <;> simp, by simp -dsimp -implicitDefEqProofs only [go_sem, Nat.reduceBEq, Nat.reduceAdd, Nat.reduceLeDiff, Nat.reduceSub, Int.reduceEq, prevC_zero], by simp -dsimp -implicitDefEqProofs only [go_sem, Nat.reduceBEq, Nat.reduceAdd, Nat.reduceLeDiff, Nat.reduceSub, Int.reduceEq], fun j hj h => absurd h (by omega)⟩ ?_
  rintro i ⟨e, σ⟩ hi ⟨h1, h39, h40, h41, h3, hs, hz⟩ K hK
  simp only at h1 h39 h40 h41 h3 hs
  simp -dsimp -implicitDefEqProofs only [go_sem, Nat.reduceBEq, Nat.reduceAdd, Nat.reduceLeDiff, Nat.reduceSub, Int.reduceEq, h1, h39, h40, h41, h3, hs]
  refine ifB'.of (fun hlt => ?_) (fun hlt => ?_)
  · have hlt : i < x.h.length := by omega
    repeat (first | with_reducible refine ask.of (by omega) ?_ | simp -dsimp -implicitDefEqProofs only [go_sem, Nat.reduceBEq, Nat.reduceAdd, Nat.reduceLeDiff, Nat.reduceSub, Int.reduceEq, h1, h39, h40, h41, h3, hs, bleR, Pk_at hlt, pkC])
    refine CallE.of (c_packetOk x.h[i] (hb _ (List.getElem_mem _))) (by rintro r rfl; (repeat' first | exact trivial | exact pure_rowB _ | exact pure_rowO _ | exact pure_rowI _ | exact pure_rowBB _ | exact pure_rowPk _ _ | exact pure_rowSn _ _ | exact pure_rowFd _ _ | exact pure_rowBBB _ | exact pure_rowCl _ _ | exact pure_rowTb _ _ _ | refine And.intro ?_ ?_)) (by simp -dsimp -implicitDefEqProofs only [go_sem, Nat.reduceBEq, Nat.reduceAdd, Nat.reduceLeDiff, Nat.reduceSub, Int.reduceEq, h1, h39, h40, h41, h3, hs, pkC]) ?_
    rintro r rfl
    simp -dsimp -implicitDefEqProofs only [go_sem, Nat.reduceBEq, Nat.reduceAdd, Nat.reduceLeDiff, Nat.reduceSub, Int.reduceEq, h1, h39, h40, h41, h3, hs, pkC]
    have e9 : IntKind.i64.wrap (x.b + 8) = x.b + 8 := wrap_i64_of (by omega) (by omega)
    have hp : liAt x i hlt ↔ okPk x.h[i] ∧ x.h[i].a = 1 ∧ x.h[i].b = x.a ∧ prevC x i < x.h[i].c ∧ x.h[i].c < x.b + 8 := by
      rcases Nat.eq_zero_or_pos i with h0 | h0
      · subst h0
        rw [prevC_zero]
        unfold liAt
        exact ⟨fun ⟨a, b, c, d, e, _⟩ => ⟨a, b, c, d, e⟩, fun ⟨a, b, c, d, e⟩ => ⟨a, b, c, d, e, .inl rfl⟩⟩
      · have hl1 : i - 1 < x.h.length := by omega
        have e1 : prevC x i = x.h[i - 1].c := by
          have := prevC_succ x hl1
          rwa [show i - 1 + 1 = i by omega] at this
        have h7 := hz (i - 1) hl1 (by omega)
        unfold liAt at h7 ⊢
        rw [e1]
        exact ⟨fun ⟨a, b, c, d, e, f⟩ => ⟨a, b, c, by rcases f with f | ⟨_, f⟩ <;> omega, e⟩, fun ⟨a, b, c, d, e⟩ => ⟨a, b, c, by omega, e, .inr ⟨hl1, d⟩⟩⟩
    have hq : okLI x → okPk x.h[i] ∧ x.h[i].a = 1 ∧ x.h[i].b = x.a ∧ prevC x i < x.h[i].c ∧ x.h[i].c < x.b + 8 := fun hh => hp.1 (hh.2 i hlt)
    cases h5 : okB x.h[i]
    · repeat (first | with_reducible refine ask.of (by omega) ?_ | simp -dsimp -implicitDefEqProofs only [go_sem, Nat.reduceBEq, Nat.reduceAdd, Nat.reduceLeDiff, Nat.reduceSub, Int.reduceEq, h1, h39, h40, h41, h3, hs, h5, Bool.not_false])
      exact li_f fun (hh : okLI x) => by
        rw [okB, decide_eq_true (hq hh).1] at h5
        cases h5
    · have h6 : okPk x.h[i] := by simpa [okB] using h5
      repeat' (first | with_reducible refine ifB'.of (fun h => ?_) (fun h => ?_) | with_reducible refine ask.of (by omega) ?_ | ((with_reducible refine li_f ?_); exact fun (hh : okLI x) => by { have h7 := hq hh; omega }) | simp -dsimp -implicitDefEqProofs only [go_sem, Nat.reduceBEq, Nat.reduceAdd, Nat.reduceLeDiff, Nat.reduceSub, Int.reduceEq, h1, h39, h40, h41, h3, hs, h5, Bool.not_true, e9])
      refine hK _ hlt ?_
      simp -dsimp -implicitDefEqProofs only [go_sem, Nat.reduceBEq, Nat.reduceAdd, Nat.reduceLeDiff, Nat.reduceSub, Int.reduceEq, h1, h39, h40, h41, h3, hs, wrap_succ (show i < 4611686018427387904 by omega), prevC_succ x hlt]
      exact fun j hj hjt => by
        by_cases hji : j = i
        · subst hji; exact hp.2 ⟨h6, by omega, by omega, by omega, by omega⟩
        · exact hz j hj (by omega)
  · have hi : i = x.h.length := by omega
    simp -dsimp -implicitDefEqProofs only [go_sem, Nat.reduceBEq, Nat.reduceAdd, Nat.reduceLeDiff, Nat.reduceSub, Int.reduceEq, h1, h39, h40, h41, h3, hs]
    exact li_t ⟨by omega, fun j hj => hz j hj (by omega)⟩
end Go.Ev
set_option linter.unusedSimpArgs false
set_option linter.unusedVariables false
namespace Go.Ev
open Go Go.RowKit Go.Proofs
structure Rv where
  e : Int
  c : Int
  l : Bool
  i : LI
  s : Sm
  t : List Tb
  n : Int
def rvC (F C T P : Nat) (x : Rv) : List AV := [.v (.int .i64 x.e), .v (.int .i64 x.c), .v (.bool x.l), .v (.int .i64 x.i.a), .v (.int .i64 x.i.b), .row P 6 (ra pkC x.i.h), .row 5 1 (bytesA x.i.f),
  .v (.bool x.s.o), .row F 3 (ra fdC x.s.fs), .v (.int .i64 x.s.s), .row 139 1 (ra bbC x.s.ds), .row T 2 (ra (tbC C) x.t), .v (.int .i64 x.n)]
def rvCi (x : Rv) : List AV := rvC 138 126 73 155 x
def rvCl (x : Rv) : List AV := rvC 129 132 60 153 x
theorem blR : Nat.ble 7 13 = true ∧ Nat.ble 11 13 = true ∧ Nat.ble 1 4 = true ∧ Nat.ble 4 13 = true ∧ Nat.ble 5 13 = true ∧ Nat.ble 6 13 = true ∧ Nat.ble 8 13 = true ∧ Nat.ble 9 13 = true ∧ Nat.ble 10 13 = true ∧ Nat.ble 12 13 = true ∧ Nat.ble 13 13 = true ∧ Nat.ble 4 4 = true := ⟨rfl, rfl, rfl, rfl, rfl, rfl, rfl, rfl, rfl, rfl, rfl, rfl⟩
structure RvB (x : Rv) : Prop where
  i : x.i.h.length ≤ 1048576
  ib : ∀ b ∈ x.i.h, b.f.length ≤ 1048576
  f : x.i.f.length ≤ 1048576
  sf : x.s.fs.length ≤ 1048576
  sfb : ∀ b ∈ x.s.fs, b.f.length ≤ 1048576
  sd : x.s.ds.length ≤ 1048576
  sdb : ∀ b ∈ x.s.ds, b.length + wBB b ≤ 1048576
  t : x.t.length ≤ 1048576
  tb : ∀ t ∈ x.t, tbGood t
def okDead (x : Rv) : Prop := x.i.a = 0 ∧ x.i.b = 0 ∧ x.i.h.length = 0 ∧ x.i.f.length = 0 ∧ x.s.o = false ∧ okS x.s ∧ x.t.length = 0
def okLive (x : Rv) : Prop := 1 ≤ x.e ∧ x.i.a = x.e ∧ okLI x.i ∧ okS x.s ∧ x.t.length ≤ 20 ∧ (x.s.o = false → x.t.length = 0) ∧ (x.s.o = true → tsOk x.s.fs x.t ∧ x.s.s ≤ x.c + x.t.length ∧ (x.t.length = 0 ∨ x.s.s = x.c + x.t.length))
def okRv (x : Rv) : Prop := (0 ≤ x.e ∧ x.e ≤ 1000000000 ∧ 0 ≤ x.c ∧ x.c ≤ 1000000000 ∧ 0 ≤ x.n ∧ x.n ≤ 1000000000) ∧ (x.l = false → okDead x) ∧ (x.l = true → okLive x)
noncomputable def rvB (x : Rv) : Bool := @decide (okRv x) (Classical.propDecidable _)
theorem rv_f {x : Rv} (h : ¬ okRv x) : false = rvB x := (@decide_eq_false _ (Classical.propDecidable _) h).symm
theorem rv_t {x : Rv} (h : okRv x) : true = rvB x := (@decide_eq_true _ (Classical.propDecidable _) h).symm
theorem rvB_t {x : Rv} (h : rvB x = true) : okRv x := of_decide_eq_true (inst := Classical.propDecidable _) h
theorem rvB_f {x : Rv} (h : rvB x = false) : ¬ okRv x := of_decide_eq_false (inst := Classical.propDecidable _) h
theorem rv_d {x : Rv} {q : Prop} [hd : Decidable q] (h : q ↔ okRv x) : decide q = rvB x := by
  by_cases hq : q
  · rw [decide_eq_true hq]; exact rv_t (h.1 hq)
  · rw [decide_eq_false hq]; exact rv_f (fun h' => hq (h.2 h'))
theorem c_vrFn (x : Rv) (t : Tb) (hx : RvB x) (ht : tbGood t) : Meets Tryz.prog 81 [.agg (tbC 126 t), .bx 42 (rvCi x)] (fun r => r = .v (.bool (!tbB x.s.fs t.r t.c))) := by
  refine Meets.intro mixed (hint []) Tryz.func81 rfl (by decide) res_81 rty_81 (by kernel_rfl) ?_; 
  simp -dsimp -implicitDefEqProofs only [go_sem, Nat.reduceBEq, Nat.reduceAdd, Nat.reduceLeDiff, Nat.reduceSub, Int.reduceEq, tbC, rvCi, rvC]
  repeat (first | with_reducible refine ask.of (by first | omega | decide) ?_ | simp -dsimp -implicitDefEqProofs only [go_sem, Nat.reduceBEq, Nat.reduceAdd, Nat.reduceLeDiff, Nat.reduceSub, Int.reduceEq, bl22, blR])
  refine CallE.of (c_iValidTable x.s.fs t.r t.c hx.sf hx.sfb ht.1 ht.2) (by rintro r rfl; (repeat' first | exact trivial | exact pure_rowB _ | exact pure_rowO _ | exact pure_rowI _ | exact pure_rowBB _ | exact pure_rowPk _ _ | exact pure_rowSn _ _ | exact pure_rowFd _ _ | exact pure_rowBBB _ | exact pure_rowCl _ _ | exact pure_rowTb _ _ _ | refine And.intro ?_ ?_)) (by simp -dsimp -implicitDefEqProofs only [go_sem, Nat.reduceBEq, Nat.reduceAdd, Nat.reduceLeDiff, Nat.reduceSub, Int.reduceEq, tbC, rowFd]) ?_
  rintro r rfl
  simp -dsimp -implicitDefEqProofs only [go_sem, Nat.reduceBEq, Nat.reduceAdd, Nat.reduceLeDiff, Nat.reduceSub, Int.reduceEq, tbC, rowFd]
def rvBd (x : Rv) : Prop := 0 ≤ x.e ∧ x.e ≤ 1000000000 ∧ 0 ≤ x.c ∧ x.c ≤ 1000000000 ∧ 0 ≤ x.n ∧ x.n ≤ 1000000000
theorem liB_iff (x : LI) : okLI x ↔ liB x = true := ⟨fun h => (li_t h).symm, fun h => of_decide_eq_true (inst := Classical.propDecidable _) h⟩
theorem okS_no {x : Sm} (h : x.o = false) : okS x ↔ x.fs.length = 0 ∧ x.s = 0 ∧ x.ds.length = 0 := by unfold okS; rw [h]; simp
theorem rv_dead {x : Rv} (h : x.l = false) : okRv x ↔ rvBd x ∧ okDead x := by unfold okRv rvBd; rw [h]; simp
theorem rv_live {x : Rv} (h : x.l = true) : okRv x ↔ rvBd x ∧ okLive x := by unfold okRv rvBd; rw [h]; simp
theorem rv_dead1 {x : Rv} (h : x.l = false) (ho : x.s.o = false) : okRv x ↔ rvBd x ∧ x.i.a = 0 ∧ x.i.b = 0 ∧ x.i.h.length = 0 ∧ x.i.f.length = 0 ∧ x.s.fs.length = 0 ∧ x.s.s = 0 ∧ x.s.ds.length = 0 ∧ x.t.length = 0 := by
  rw [rv_dead h]; unfold okDead; rw [okS_no ho, ho]; simp only [true_and]
  constructor
  · rintro ⟨a, b1, b2, b3, b4, ⟨c1, c2, c3⟩, d⟩; exact ⟨a, b1, b2, b3, b4, c1, c2, c3, d⟩
  · rintro ⟨a, b1, b2, b3, b4, c1, c2, c3, d⟩; exact ⟨a, b1, b2, b3, b4, ⟨c1, c2, c3⟩, d⟩
theorem rv_dead2 {x : Rv} (h : x.l = false) (ho : x.s.o = true) : ¬ okRv x := by
  rw [rv_dead h]; rintro ⟨_, _, _, _, _, h2, _⟩; rw [ho] at h2; cases h2
theorem rv_dead3 {x : Rv} (h : x.l = false) (ho : x.s.o = false) : okRv x ↔ (rvBd x ∧ x.i.a = 0 ∧ x.i.b = 0 ∧ x.i.h.length = 0 ∧ x.i.f.length = 0 ∧ x.t.length = 0) ∧ smB x.s = true := by
  rw [rv_dead1 h ho, ← smB_iff, okS_no ho]
  constructor
  · rintro ⟨a, b1, b2, b3, b4, c1, c2, c3, d⟩; exact ⟨⟨a, b1, b2, b3, b4, d⟩, c1, c2, c3⟩
  · rintro ⟨⟨a, b1, b2, b3, b4, d⟩, c1, c2, c3⟩; exact ⟨a, b1, b2, b3, b4, c1, c2, c3, d⟩
theorem rv_live1 {x : Rv} (h : x.l = true) (ho : x.s.o = false) : okRv x ↔ (rvBd x ∧ 1 ≤ x.e ∧ x.i.a = x.e ∧ x.t.length = 0) ∧ liB x.i = true ∧ smB x.s = true := by
  rw [rv_live h]; unfold okLive; rw [ho, ← liB_iff, ← smB_iff]
  constructor
  · rintro ⟨a, b1, b2, b3, b4, b5, b6, b7⟩; exact ⟨⟨a, b1, b2, b6 rfl⟩, b3, b4⟩
  · rintro ⟨⟨a, b1, b2, b6⟩, b3, b4⟩; exact ⟨a, b1, b2, b3, b4, by omega, (fun _ => b6), fun h => by cases h⟩
theorem rv_live2 {x : Rv} (h : x.l = true) (ho : x.s.o = true) : okRv x ↔ (rvBd x ∧ 1 ≤ x.e ∧ x.i.a = x.e ∧ x.t.length ≤ 20 ∧ x.s.s ≤ x.c + x.t.length ∧ (x.t.length = 0 ∨ x.s.s = x.c + x.t.length)) ∧ liB x.i = true ∧ smB x.s = true ∧ tsB x.s.fs x.t = true := by
  rw [rv_live h]; unfold okLive; rw [ho, ← liB_iff, ← smB_iff, ← tsB_iff]
  constructor
  · rintro ⟨a, b1, b2, b3, b4, b5, b6, b7⟩; have b7 := b7 rfl; exact ⟨⟨a, b1, b2, b5, b7.2.1, b7.2.2⟩, b3, b4, b7.1⟩
  · rintro ⟨⟨a, b1, b2, b5, c1, c2⟩, b3, b4, c3⟩; exact ⟨a, b1, b2, b3, b4, b5, (fun h => by cases h), fun _ => ⟨c3, c1, c2⟩⟩
noncomputable def rdyB (x : Rv) : Bool := match x.s.o with | true => tsB x.s.fs x.t | false => decide (x.t.length = 0)
set_option maxRecDepth 8000 in
theorem c_l6ready (x : Rv) (hx : RvB x) : Meets Tryz.prog 74 [.agg (rvCi x)] (fun r => r = .v (.bool (rdyB x))) := by
  refine Meets.intro mixed (hint []) Tryz.func74 rfl (by decide) res_74 rty_74 (by kernel_rfl) ?_; 
  simp -dsimp -implicitDefEqProofs only [go_sem, Nat.reduceBEq, Nat.reduceAdd, Nat.reduceLeDiff, Nat.reduceSub, Int.reduceEq, rvCi, rvC]
  have ht := hx.t
  unfold rdyB
  cases ho : x.s.o
  · repeat (first | with_reducible refine ask.of (by first | omega | decide) ?_ | simp -dsimp -implicitDefEqProofs only [go_sem, Nat.reduceBEq, Nat.reduceAdd, Nat.reduceLeDiff, Nat.reduceSub, Int.reduceEq, bl22, blR, ho, Bool.not_false])
    exact decide_eq_decide.2 ⟨fun h => by omega, fun h => by omega⟩
  · repeat (first | with_reducible refine ask.of (by first | omega | decide) ?_ | simp -dsimp -implicitDefEqProofs only [go_sem, Nat.reduceBEq, Nat.reduceAdd, Nat.reduceLeDiff, Nat.reduceSub, Int.reduceEq, bl22, blR, ho, Bool.not_true])
    refine CallE.of (c_tablesOK x.s.fs x.t hx.sf hx.sfb hx.t hx.tb) (by rintro r rfl; (repeat' first | exact trivial | exact pure_rowB _ | exact pure_rowO _ | exact pure_rowI _ | exact pure_rowBB _ | exact pure_rowPk _ _ | exact pure_rowSn _ _ | exact pure_rowFd _ _ | exact pure_rowBBB _ | exact pure_rowCl _ _ | exact pure_rowTb _ _ _ | refine And.intro ?_ ?_)) (by simp -dsimp -implicitDefEqProofs only [go_sem, Nat.reduceBEq, Nat.reduceAdd, Nat.reduceLeDiff, Nat.reduceSub, Int.reduceEq, rowFd, rowTb]) ?_
    rintro r rfl
    simp -dsimp -implicitDefEqProofs only [go_sem, Nat.reduceBEq, Nat.reduceAdd, Nat.reduceLeDiff, Nat.reduceSub, Int.reduceEq, rowFd, rowTb]
set_option maxRecDepth 16000 in
set_option maxHeartbeats 4000000 in
theorem c_sValidReceiver (x : Rv) (hx : RvB x) : Meets Tryz.prog 32 [.agg (rvCi x)] (fun r => r = .v (.bool (rvB x))) := by
  refine Meets.intro mixed (hint []) Tryz.func32 rfl (by decide) res_32 rty_32 (by kernel_rfl) ?_; 
  simp -dsimp -implicitDefEqProofs only [go_sem, Nat.reduceBEq, Nat.reduceAdd, Nat.reduceLeDiff, Nat.reduceSub, Int.reduceEq, rvCi, rvC]
  have ht := hx.t
  have e1 : 0 ≤ x.c → x.c ≤ 1000000000 → IntKind.i64.wrap (x.c + (x.t.length : Int)) = x.c + x.t.length := fun _ _ => wrap_i64_of (by omega) (by omega)
  have hli := c_specValidIn x.i hx.i hx.ib hx.f
  have hsm := c_specValidStream x.s hx.sf hx.sfb hx.sd hx.sdb
  have hrd := c_l6ready x hx
  unfold rdyB at hrd
  cases hl : x.l <;> cases ho : x.s.o
  · have hq := rv_dead1 hl ho
    unfold rvBd at hq
    repeat' (first
      | with_reducible refine ask.of (by first | omega | decide) ?_
      | with_reducible refine ifB'.of (fun h => ?_) (fun h => ?_)
      | ((with_reducible refine rv_f ?_); intro hh; have := hq.1 hh; omega)
      | ((with_reducible refine rv_d ?_); exact ⟨fun q => hq.2 (by omega), fun hh => by have := hq.1 hh; omega⟩)
      | simp -dsimp -implicitDefEqProofs only [go_sem, Nat.reduceBEq, Nat.reduceAdd, Nat.reduceLeDiff, Nat.reduceSub, Int.reduceEq, bl22, blR, hl, ho, Bool.not_false])
  · have hq := rv_dead2 hl ho
    repeat' (first
      | with_reducible refine ask.of (by first | omega | decide) ?_
      | with_reducible refine ifB'.of (fun h => ?_) (fun h => ?_)
      | exact rv_f hq
      | simp -dsimp -implicitDefEqProofs only [go_sem, Nat.reduceBEq, Nat.reduceAdd, Nat.reduceLeDiff, Nat.reduceSub, Int.reduceEq, bl22, blR, hl, ho, Bool.not_false, Bool.not_true])
  · have hq := rv_live1 hl ho
    unfold rvBd at hq
    rw [ho] at hrd
    repeat' (first
      | with_reducible refine ask.of (by first | omega | decide) ?_
      | (refine CallE.of hli ?_ ?_ ?_; rotate_left; (· (simp -dsimp -implicitDefEqProofs only [go_sem, Nat.reduceBEq, Nat.reduceAdd, Nat.reduceLeDiff, Nat.reduceSub, Int.reduceEq, liC]; done)); rotate_left; (· (rintro r rfl; trivial)); rintro r rfl; simp -dsimp -implicitDefEqProofs only [go_sem, Nat.reduceBEq, Nat.reduceAdd, Nat.reduceLeDiff, Nat.reduceSub, Int.reduceEq])
      | (refine CallE.of hsm ?_ ?_ ?_; rotate_left; (· (simp -dsimp -implicitDefEqProofs only [go_sem, Nat.reduceBEq, Nat.reduceAdd, Nat.reduceLeDiff, Nat.reduceSub, Int.reduceEq, smC, ho]; done)); rotate_left; (· (rintro r rfl; trivial)); rintro r rfl; simp -dsimp -implicitDefEqProofs only [go_sem, Nat.reduceBEq, Nat.reduceAdd, Nat.reduceLeDiff, Nat.reduceSub, Int.reduceEq])
      | (refine CallE.of hrd ?_ ?_ ?_; rotate_left; (· (simp -dsimp -implicitDefEqProofs only [go_sem, Nat.reduceBEq, Nat.reduceAdd, Nat.reduceLeDiff, Nat.reduceSub, Int.reduceEq, rvCi, rvC, hl, ho]; done)); rotate_left; (· (rintro r rfl; trivial)); rintro r rfl; simp -dsimp -implicitDefEqProofs only [go_sem, Nat.reduceBEq, Nat.reduceAdd, Nat.reduceLeDiff, Nat.reduceSub, Int.reduceEq])
      | with_reducible refine ifB'.of (fun h => ?_) (fun h => ?_)
      | exact rv_t (hq.2 ⟨by omega, by assumption, by assumption⟩)
      | ((with_reducible refine rv_f ?_); intro hh; obtain ⟨a1, a2, a3⟩ := hq.1 hh; first | omega | exact absurd (a2.symm.trans ‹liB x.i = false›) (by decide) | exact absurd (a3.symm.trans ‹smB x.s = false›) (by decide))
      | with_reducible refine ifB'.bool (fun h => ?_) (fun h => ?_)
      | simp -dsimp -implicitDefEqProofs only [go_sem, Nat.reduceBEq, Nat.reduceAdd, Nat.reduceLeDiff, Nat.reduceSub, Int.reduceEq, bl22, blR, hl, ho, Bool.not_false, Bool.not_true])
  · have hq := rv_live2 hl ho
    unfold rvBd at hq
    rw [ho] at hrd
    repeat' (first
      | with_reducible refine ask.of (by first | omega | decide) ?_
      | (refine CallE.of hli ?_ ?_ ?_; rotate_left; (· (simp -dsimp -implicitDefEqProofs only [go_sem, Nat.reduceBEq, Nat.reduceAdd, Nat.reduceLeDiff, Nat.reduceSub, Int.reduceEq, liC]; done)); rotate_left; (· (rintro r rfl; trivial)); rintro r rfl; simp -dsimp -implicitDefEqProofs only [go_sem, Nat.reduceBEq, Nat.reduceAdd, Nat.reduceLeDiff, Nat.reduceSub, Int.reduceEq])
      | (refine CallE.of hsm ?_ ?_ ?_; rotate_left; (· (simp -dsimp -implicitDefEqProofs only [go_sem, Nat.reduceBEq, Nat.reduceAdd, Nat.reduceLeDiff, Nat.reduceSub, Int.reduceEq, smC, ho]; done)); rotate_left; (· (rintro r rfl; trivial)); rintro r rfl; simp -dsimp -implicitDefEqProofs only [go_sem, Nat.reduceBEq, Nat.reduceAdd, Nat.reduceLeDiff, Nat.reduceSub, Int.reduceEq])
      | (refine CallE.of hrd ?_ ?_ ?_; rotate_left; (· (simp -dsimp -implicitDefEqProofs only [go_sem, Nat.reduceBEq, Nat.reduceAdd, Nat.reduceLeDiff, Nat.reduceSub, Int.reduceEq, rvCi, rvC, hl, ho]; done)); rotate_left; (· (rintro r rfl; trivial)); rintro r rfl; simp -dsimp -implicitDefEqProofs only [go_sem, Nat.reduceBEq, Nat.reduceAdd, Nat.reduceLeDiff, Nat.reduceSub, Int.reduceEq])
      | (rw [e1 (by omega) (by omega)]; fail_if_success rfl)
      | with_reducible refine ifB'.of (fun h => ?_) (fun h => ?_)
      | (have ts := ((tsB_iff x.s.fs x.t).2 ‹_›).1; exact rv_t (hq.2 ⟨by omega, by assumption, by assumption, by assumption⟩))
      | ((with_reducible refine rv_f ?_); intro hh; obtain ⟨a1, a2, a3, a4⟩ := hq.1 hh; first | omega | exact absurd (a2.symm.trans ‹liB x.i = false›) (by decide) | exact absurd (a3.symm.trans ‹smB x.s = false›) (by decide) | exact absurd (a4.symm.trans ‹tsB x.s.fs x.t = false›) (by decide))
      | ((with_reducible refine rv_d ?_); have ts := ((tsB_iff x.s.fs x.t).2 ‹_›).1; exact ⟨fun q => hq.2 ⟨by omega, by assumption, by assumption, by assumption⟩, fun hh => by have := (hq.1 hh).1; omega⟩)
      | with_reducible refine ifB'.bool (fun h => ?_) (fun h => ?_)
      | simp -dsimp -implicitDefEqProofs only [go_sem, Nat.reduceBEq, Nat.reduceAdd, Nat.reduceLeDiff, Nat.reduceSub, Int.reduceEq, bl22, blR, hl, ho, Bool.not_false, Bool.not_true])
theorem rv_live3 {x : Rv} (h : x.l = true) (ho : x.s.o = true) : okRv x ↔ (rvBd x ∧ 1 ≤ x.e ∧ x.i.a = x.e ∧ x.t.length ≤ 20 ∧ x.s.s ≤ x.c + x.t.length ∧ (x.t.length = 0 ∨ x.s.s = x.c + x.t.length)) ∧ liB x.i = true ∧ smB x.s = true ∧ (x.t.any fun t => !tbB x.s.fs t.r t.c) = false := by
  rw [rv_live2 h ho, ← tsB_iff, tsOk_any]
  constructor
  · rintro ⟨a, b3, b4, c⟩; exact ⟨a, b3, b4, c.2⟩
  · rintro ⟨a, b3, b4, c⟩; exact ⟨a, b3, b4, a.2.2.2.1, c⟩
set_option maxRecDepth 16000 in
set_option maxHeartbeats 4000000 in
theorem c_iValidReceiver (x : Rv) (hx : RvB x) : Meets Tryz.prog 36 [.agg (rvCi x)] (fun r => r = .v (.bool (rvB x))) := by
  refine Meets.intro mixed (hint []) Tryz.func36 rfl (by decide) res_36 rty_36 (by kernel_rfl) ?_; 
  simp -dsimp -implicitDefEqProofs only [go_sem, Nat.reduceBEq, Nat.reduceAdd, Nat.reduceLeDiff, Nat.reduceSub, Int.reduceEq, rvCi, rvC]
  have ht := hx.t
  have e1 : 0 ≤ x.c → x.c ≤ 1000000000 → IntKind.i64.wrap (x.c + (x.t.length : Int)) = x.c + x.t.length := fun _ _ => wrap_i64_of (by omega) (by omega)
  have hli := c_implValidIn x.i hx.i hx.ib hx.f
  have hsm := c_implValidStream x.s hx.sf hx.sfb hx.sd hx.sdb
  have hany := c_containsFuncT 81 42 (rvCi x) (fun t => !tbB x.s.fs t.r t.c) x.t hx.t (fun t ht => c_vrFn x t hx (hx.tb t ht)) (by kernel_rfl)
  generalize hA : (x.t.any fun t => !tbB x.s.fs t.r t.c) = A at *
  cases hl : x.l <;> cases ho : x.s.o
  · have hq := rv_dead3 hl ho
    unfold rvBd at hq
    repeat' (first
      | with_reducible refine ask.of (by first | omega | decide) ?_
      | (refine CallE.of hsm ?_ ?_ ?_; rotate_left; (· (simp -dsimp -implicitDefEqProofs only [go_sem, Nat.reduceBEq, Nat.reduceAdd, Nat.reduceLeDiff, Nat.reduceSub, Int.reduceEq, smC, ho]; done)); rotate_left; (· (rintro r rfl; trivial)); rintro r rfl; simp -dsimp -implicitDefEqProofs only [go_sem, Nat.reduceBEq, Nat.reduceAdd, Nat.reduceLeDiff, Nat.reduceSub, Int.reduceEq])
      | with_reducible refine ifB'.of (fun h => ?_) (fun h => ?_)
      | ((with_reducible refine rv_f ?_); intro hh; obtain ⟨a1, a2⟩ := hq.1 hh; first | omega | exact absurd (a2.symm.trans ‹smB x.s = false›) (by decide))
      | ((with_reducible refine rv_d ?_); exact ⟨fun q => hq.2 ⟨by omega, by assumption⟩, fun hh => by have := (hq.1 hh).1; omega⟩)
      | with_reducible refine ifB'.bool (fun h => ?_) (fun h => ?_)
      | simp -dsimp -implicitDefEqProofs only [go_sem, Nat.reduceBEq, Nat.reduceAdd, Nat.reduceLeDiff, Nat.reduceSub, Int.reduceEq, bl22, blR, hl, ho, Bool.not_false])
  · have hq := rv_dead2 hl ho
    repeat' (first
      | with_reducible refine ask.of (by first | omega | decide) ?_
      | with_reducible refine ifB'.of (fun h => ?_) (fun h => ?_)
      | exact rv_f hq
      | simp -dsimp -implicitDefEqProofs only [go_sem, Nat.reduceBEq, Nat.reduceAdd, Nat.reduceLeDiff, Nat.reduceSub, Int.reduceEq, bl22, blR, hl, ho, Bool.not_false, Bool.not_true])
  · have hq := rv_live1 hl ho
    unfold rvBd at hq
    repeat' (first
      | with_reducible refine ask.of (by first | omega | decide) ?_
      | (refine CallE.of hli ?_ ?_ ?_; rotate_left; (· (simp -dsimp -implicitDefEqProofs only [go_sem, Nat.reduceBEq, Nat.reduceAdd, Nat.reduceLeDiff, Nat.reduceSub, Int.reduceEq, liC]; done)); rotate_left; (· (rintro r rfl; trivial)); rintro r rfl; simp -dsimp -implicitDefEqProofs only [go_sem, Nat.reduceBEq, Nat.reduceAdd, Nat.reduceLeDiff, Nat.reduceSub, Int.reduceEq])
      | (refine CallE.of hsm ?_ ?_ ?_; rotate_left; (· (simp -dsimp -implicitDefEqProofs only [go_sem, Nat.reduceBEq, Nat.reduceAdd, Nat.reduceLeDiff, Nat.reduceSub, Int.reduceEq, smC, ho]; done)); rotate_left; (· (rintro r rfl; trivial)); rintro r rfl; simp -dsimp -implicitDefEqProofs only [go_sem, Nat.reduceBEq, Nat.reduceAdd, Nat.reduceLeDiff, Nat.reduceSub, Int.reduceEq])
      | with_reducible refine ifB'.of (fun h => ?_) (fun h => ?_)
      | ((with_reducible refine rv_f ?_); intro hh; obtain ⟨a1, a2, a3⟩ := hq.1 hh; first | omega | exact absurd (a2.symm.trans ‹liB x.i = false›) (by decide) | exact absurd (a3.symm.trans ‹smB x.s = false›) (by decide))
      | ((with_reducible refine rv_d ?_); exact ⟨fun q => hq.2 ⟨by omega, by assumption, by assumption⟩, fun hh => by have := (hq.1 hh).1; omega⟩)
      | with_reducible refine ifB'.bool (fun h => ?_) (fun h => ?_)
      | simp -dsimp -implicitDefEqProofs only [go_sem, Nat.reduceBEq, Nat.reduceAdd, Nat.reduceLeDiff, Nat.reduceSub, Int.reduceEq, bl22, blR, hl, ho, Bool.not_false, Bool.not_true])
  · have hq := rv_live3 hl ho
    rw [hA] at hq
    unfold rvBd at hq
    repeat' (first
      | with_reducible refine ask.of (by first | omega | decide) ?_
      | (refine CallE.of hli ?_ ?_ ?_; rotate_left; (· (simp -dsimp -implicitDefEqProofs only [go_sem, Nat.reduceBEq, Nat.reduceAdd, Nat.reduceLeDiff, Nat.reduceSub, Int.reduceEq, liC]; done)); rotate_left; (· (rintro r rfl; trivial)); rintro r rfl; simp -dsimp -implicitDefEqProofs only [go_sem, Nat.reduceBEq, Nat.reduceAdd, Nat.reduceLeDiff, Nat.reduceSub, Int.reduceEq])
      | (refine CallE.of hsm ?_ ?_ ?_; rotate_left; (· (simp -dsimp -implicitDefEqProofs only [go_sem, Nat.reduceBEq, Nat.reduceAdd, Nat.reduceLeDiff, Nat.reduceSub, Int.reduceEq, smC, ho]; done)); rotate_left; (· (rintro r rfl; trivial)); rintro r rfl; simp -dsimp -implicitDefEqProofs only [go_sem, Nat.reduceBEq, Nat.reduceAdd, Nat.reduceLeDiff, Nat.reduceSub, Int.reduceEq])
      | (refine CallE.of hany ?_ ?_ ?_; rotate_left; (· (simp -dsimp -implicitDefEqProofs only [go_sem, Nat.reduceBEq, Nat.reduceAdd, Nat.reduceLeDiff, Nat.reduceSub, Int.reduceEq, rowTb, rvCi, rvC, hl, ho]; done)); rotate_left; (· (rintro r rfl; trivial)); rintro r rfl; simp -dsimp -implicitDefEqProofs only [go_sem, Nat.reduceBEq, Nat.reduceAdd, Nat.reduceLeDiff, Nat.reduceSub, Int.reduceEq])
      | (rw [e1 (by omega) (by omega)]; fail_if_success rfl)
      | with_reducible refine ifB'.of (fun h => ?_) (fun h => ?_)
      | (exact rv_t (hq.2 ⟨by omega, by assumption, by assumption, by assumption⟩))
      | ((with_reducible refine rv_f ?_); intro hh; obtain ⟨a1, a2, a3, a4⟩ := hq.1 hh; first | omega | exact absurd (a2.symm.trans ‹liB x.i = false›) (by decide) | exact absurd (a3.symm.trans ‹smB x.s = false›) (by decide) | exact absurd (a4.symm.trans ‹A = true›) (by decide))
      | ((with_reducible refine rv_d ?_); exact ⟨fun q => hq.2 ⟨by omega, by assumption, by assumption, by assumption⟩, fun hh => by have := (hq.1 hh).1; omega⟩)
      | with_reducible refine ifB'.bool (fun h => ?_) (fun h => ?_)
      | simp -dsimp -implicitDefEqProofs only [go_sem, Nat.reduceBEq, Nat.reduceAdd, Nat.reduceLeDiff, Nat.reduceSub, Int.reduceEq, bl22, blR, hl, ho, Bool.not_false, Bool.not_true])
end Go.Ev
set_option linter.unusedSimpArgs false
set_option linter.unusedVariables false
namespace Go.Ev
open Go Go.RowKit Go.Proofs
theorem neg1 : decide ((-1 : Int) < 0) = true := rfl
end Go.Ev
set_option linter.unusedSimpArgs false
set_option linter.unusedVariables false
namespace Go.Ev
open Go Go.RowKit Go.Proofs
def RvO (x : Rv) : Prop := (x.i.h.length ≤ 140737488355328 ∧ (∀ b ∈ x.i.h, b.f.length ≤ 140737488355328) ∧ x.i.f.length ≤ 140737488355328) ∧ (x.s.fs.length ≤ 140737488355328 ∧ (∀ b ∈ x.s.fs, b.f.length ≤ 140737488355328) ∧ x.s.ds.length ≤ 140737488355328 ∧ ∀ b ∈ x.s.ds, b.length ≤ 140737488355328 ∧ ∀ c ∈ b, c.length ≤ 140737488355328)
  ∧ (x.t.length ≤ 140737488355328 ∧ ∀ t ∈ x.t, t.c.length ≤ 140737488355328 ∧ ∀ p ∈ t.c, p.f.length ≤ 140737488355328 ∧ -9223372036854775808 ≤ p.i ∧ p.i ≤ 9223372036854775807)
def rvW (x : Rv) : Nat := liW x.i + smW x.s + (x.t.length + szL tbW x.t)
set_option maxRecDepth 8000 in
theorem c_szReceiver (x : Rv) (left : Nat) (hl : left ≤ 1048576) (hx : RvO x) : Meets Tryz.prog 6 [.agg (rvCl x), .v (.int .i64 left)] (fun r => r = .v (.int .i64 (szR left (rvW x)))) := by
  refine Meets.intro mixed (hint []) Tryz.func6 rfl (by decide) res_6 rty_6 (by kernel_rfl) ?_; 
  simp -dsimp -implicitDefEqProofs only [go_sem, Nat.reduceBEq, Nat.reduceAdd, Nat.reduceLeDiff, Nat.reduceSub, Int.reduceEq, rvCl, rvC]
  repeat (first | with_reducible refine ask.of (by first | omega | decide) ?_ | simp -dsimp -implicitDefEqProofs only [go_sem, Nat.reduceBEq, Nat.reduceAdd, Nat.reduceLeDiff, Nat.reduceSub, Int.reduceEq, blR])
  have hw : rvW x = liW x.i + smW x.s + (x.t.length + szL tbW x.t) := rfl
  refine CallE.of (c_szLinkIn x.i left hl hx.1.1 hx.1.2.1 hx.1.2.2) (by rintro r rfl; (repeat' first | exact trivial | exact pure_rowB _ | exact pure_rowO _ | exact pure_rowI _ | exact pure_rowBB _ | exact pure_rowPk _ _ | exact pure_rowSn _ _ | exact pure_rowFd _ _ | exact pure_rowBBB _ | exact pure_rowCl _ _ | exact pure_rowTb _ _ _ | refine And.intro ?_ ?_)) (by simp -dsimp -implicitDefEqProofs only [go_sem, Nat.reduceBEq, Nat.reduceAdd, Nat.reduceLeDiff, Nat.reduceSub, Int.reduceEq, liC]) ?_
  rintro r rfl
  simp -dsimp -implicitDefEqProofs only [go_sem, Nat.reduceBEq, Nat.reduceAdd, Nat.reduceLeDiff, Nat.reduceSub, Int.reduceEq, liC]
  by_cases h1 : liW x.i ≤ left
  rotate_left
  · rw [szR_no h1]; simp -dsimp -implicitDefEqProofs only [go_sem, Nat.reduceBEq, Nat.reduceAdd, Nat.reduceLeDiff, Nat.reduceSub, Int.reduceEq, neg1]; rw [szR_no (by omega)]
  rw [szR_ok h1]
  with_reducible refine ifB'.no (by omega) ?_
  repeat (first | with_reducible refine ask.of (by first | omega | decide) ?_ | simp -dsimp -implicitDefEqProofs only [go_sem, Nat.reduceBEq, Nat.reduceAdd, Nat.reduceLeDiff, Nat.reduceSub, Int.reduceEq, blR])
  refine CallE.of (c_szStream x.s (left - liW x.i) (by omega) hx.2.1.1 hx.2.1.2.1 hx.2.1.2.2.1 hx.2.1.2.2.2) (by rintro r rfl; (repeat' first | exact trivial | exact pure_rowB _ | exact pure_rowO _ | exact pure_rowI _ | exact pure_rowBB _ | exact pure_rowPk _ _ | exact pure_rowSn _ _ | exact pure_rowFd _ _ | exact pure_rowBBB _ | exact pure_rowCl _ _ | exact pure_rowTb _ _ _ | refine And.intro ?_ ?_)) (by simp -dsimp -implicitDefEqProofs only [go_sem, Nat.reduceBEq, Nat.reduceAdd, Nat.reduceLeDiff, Nat.reduceSub, Int.reduceEq, smC]) ?_
  rintro r rfl
  simp -dsimp -implicitDefEqProofs only [go_sem, Nat.reduceBEq, Nat.reduceAdd, Nat.reduceLeDiff, Nat.reduceSub, Int.reduceEq, smC]
  by_cases h2 : smW x.s ≤ left - liW x.i
  rotate_left
  · rw [szR_no h2]; simp -dsimp -implicitDefEqProofs only [go_sem, Nat.reduceBEq, Nat.reduceAdd, Nat.reduceLeDiff, Nat.reduceSub, Int.reduceEq, neg1]; rw [szR_no (by omega)]
  rw [szR_ok h2]
  with_reducible refine ifB'.no (by omega) ?_
  repeat (first | with_reducible refine ask.of (by first | omega | decide) ?_ | simp -dsimp -implicitDefEqProofs only [go_sem, Nat.reduceBEq, Nat.reduceAdd, Nat.reduceLeDiff, Nat.reduceSub, Int.reduceEq, blR])
  refine CallE.of (c_szTableS x.t (left - liW x.i - smW x.s) (by omega) hx.2.2.1 (fun t ht => ⟨(hx.2.2.2 t ht).1, fun c hc => ((hx.2.2.2 t ht).2 c hc).1⟩)) (by rintro r rfl; (repeat' first | exact trivial | exact pure_rowB _ | exact pure_rowO _ | exact pure_rowI _ | exact pure_rowBB _ | exact pure_rowPk _ _ | exact pure_rowSn _ _ | exact pure_rowFd _ _ | exact pure_rowBBB _ | exact pure_rowCl _ _ | exact pure_rowTb _ _ _ | refine And.intro ?_ ?_)) (by simp -dsimp -implicitDefEqProofs only [go_sem, Nat.reduceBEq, Nat.reduceAdd, Nat.reduceLeDiff, Nat.reduceSub, Int.reduceEq, rowTb]) ?_
  rintro r rfl
  simp -dsimp -implicitDefEqProofs only [go_sem, Nat.reduceBEq, Nat.reduceAdd, Nat.reduceLeDiff, Nat.reduceSub, Int.reduceEq, rowTb]
  by_cases h3 : x.t.length + szL tbW x.t ≤ left - liW x.i - smW x.s
  rotate_left
  · rw [szR_no h3]; simp -dsimp -implicitDefEqProofs only [go_sem, Nat.reduceBEq, Nat.reduceAdd, Nat.reduceLeDiff, Nat.reduceSub, Int.reduceEq, neg1]; rw [szR_no (by omega)]
  rw [szR_ok h3]
  with_reducible refine ifB'.no (by omega) ?_
  simp -dsimp -implicitDefEqProofs only [go_sem, Nat.reduceBEq, Nat.reduceAdd, Nat.reduceLeDiff, Nat.reduceSub, Int.reduceEq]
  rw [szR_ok (by omega), show left - liW x.i - smW x.s - (x.t.length + szL tbW x.t) = left - rvW x by omega]
structure RvT (x : Rv) : Prop extends RvB x where
  tt : ∀ t ∈ x.t, tOk t 1048576
  sdl : ∀ b ∈ x.s.ds, lenOk b 1048576
theorem rv_T {x : Rv} (ho : RvO x) (hw : rvW x ≤ 1048576) : RvT x := by
  have hd : rvW x = liW x.i + (x.s.fs.length + szL fdW x.s.fs + (x.s.ds.length + szL bbW x.s.ds)) + (x.t.length + szL tbW x.t) := rfl
  have hi : liW x.i = x.i.h.length + szL pkW x.i.h + x.i.f.length := by unfold liW; omega
  have h4 : ∀ b ∈ x.s.ds, b.length + wBB b ≤ 1048576 := fun b hb => by have := mem_bbW hb; omega
  refine ⟨⟨by omega, fun b hb => ?_, by omega, by omega, fun b hb => by have := mem_fdW hb; omega, by omega, h4, by omega, fun t ht => ⟨?_, fun c hc => ((ho.2.2.2 t ht).2 c hc).2⟩⟩, fun t ht => tbW_ok (by have := mem_tbW ht; omega), fun b hb => ⟨by have := h4 b hb; omega, fun c hc => by have := h4 b hb; have := mem_wBB hc; omega⟩⟩
  · obtain ⟨i, hi', rfl⟩ := List.mem_iff_getElem.1 hb
    have := szL_at_le pkW hi'
    have e : pkW x.i.h[i] = x.i.h[i].f.length := rfl
    omega
  · have := mem_tbW ht; have e : tbW t = t.c.length + szL clW t.c := rfl; omega
set_option maxRecDepth 8000 in
set_option maxHeartbeats 1000000 in
theorem c_toReceiver (x : Rv) (hx : RvT x) : Meets Tryz.prog 8 [.agg (rvCl x)] (fun r => r = .agg (rvCi x)) := by
  refine Meets.intro mixed (hint []) Tryz.func8 rfl (by decide) res_8 rty_8 (by kernel_rfl) ?_; 
  simp -dsimp -implicitDefEqProofs only [go_sem, Nat.reduceBEq, Nat.reduceAdd, Nat.reduceLeDiff, Nat.reduceSub, Int.reduceEq, rvCl, rvC]
  repeat' (first
    | with_reducible refine ask.of (by omega) ?_
    | (refine CallE.of (c_toLinkIn x.i hx.i hx.ib hx.f) ?_ ?_ ?_; rotate_left; (· (simp -dsimp -implicitDefEqProofs only [go_sem, Nat.reduceBEq, Nat.reduceAdd, Nat.reduceLeDiff, Nat.reduceSub, Int.reduceEq, blR, rvCi, rvC, rowTb, liC, smC]; done)); rotate_left; (· (rintro r rfl; (repeat' first | exact trivial | exact pure_rowB _ | exact pure_rowO _ | exact pure_rowI _ | exact pure_rowBB _ | exact pure_rowPk _ _ | exact pure_rowSn _ _ | exact pure_rowFd _ _ | exact pure_rowBBB _ | exact pure_rowCl _ _ | exact pure_rowTb _ _ _ | refine And.intro ?_ ?_))); rintro r rfl; try simp -dsimp -implicitDefEqProofs only [go_sem, Nat.reduceBEq, Nat.reduceAdd, Nat.reduceLeDiff, Nat.reduceSub, Int.reduceEq, blR, rvCi, rvC, rowTb, liC, smC])
    | (refine CallE.of (c_toTableS x.t hx.t hx.tt) ?_ ?_ ?_; rotate_left; (· (simp -dsimp -implicitDefEqProofs only [go_sem, Nat.reduceBEq, Nat.reduceAdd, Nat.reduceLeDiff, Nat.reduceSub, Int.reduceEq, blR, rvCi, rvC, rowTb, liC, smC]; done)); rotate_left; (· (rintro r rfl; (repeat' first | exact trivial | exact pure_rowB _ | exact pure_rowO _ | exact pure_rowI _ | exact pure_rowBB _ | exact pure_rowPk _ _ | exact pure_rowSn _ _ | exact pure_rowFd _ _ | exact pure_rowBBB _ | exact pure_rowCl _ _ | exact pure_rowTb _ _ _ | refine And.intro ?_ ?_))); rintro r rfl; try simp -dsimp -implicitDefEqProofs only [go_sem, Nat.reduceBEq, Nat.reduceAdd, Nat.reduceLeDiff, Nat.reduceSub, Int.reduceEq, blR, rvCi, rvC, rowTb, liC, smC])
    | (refine CallE.of (c_toStream x.s hx.sf hx.sfb hx.sd hx.sdl) ?_ ?_ ?_; rotate_left; (· (simp -dsimp -implicitDefEqProofs only [go_sem, Nat.reduceBEq, Nat.reduceAdd, Nat.reduceLeDiff, Nat.reduceSub, Int.reduceEq, blR, rvCi, rvC, rowTb, liC, smC]; done)); rotate_left; (· (rintro r rfl; (repeat' first | exact trivial | exact pure_rowB _ | exact pure_rowO _ | exact pure_rowI _ | exact pure_rowBB _ | exact pure_rowPk _ _ | exact pure_rowSn _ _ | exact pure_rowFd _ _ | exact pure_rowBBB _ | exact pure_rowCl _ _ | exact pure_rowTb _ _ _ | refine And.intro ?_ ?_))); rintro r rfl; try simp -dsimp -implicitDefEqProofs only [go_sem, Nat.reduceBEq, Nat.reduceAdd, Nat.reduceLeDiff, Nat.reduceSub, Int.reduceEq, blR, rvCi, rvC, rowTb, liC, smC])
    | with_reducible refine ifB'.no (by omega) ?_
    | simp -dsimp -implicitDefEqProofs only [go_sem, Nat.reduceBEq, Nat.reduceAdd, Nat.reduceLeDiff, Nat.reduceSub, Int.reduceEq, blR, rvCi, rvC, rowTb, liC, smC])
set_option maxRecDepth 8000 in
set_option maxHeartbeats 1000000 in
theorem c_eqReceiver (x : Rv) (hx : RvT x) : Meets Tryz.prog 10 [.agg (rvCi x), .agg (rvCi x)] (fun r => r = .v (.bool true)) := by
  refine Meets.intro mixed (hint []) Tryz.func10 rfl (by decide) res_10 rty_10 (by kernel_rfl) ?_; 
  simp -dsimp -implicitDefEqProofs only [go_sem, Nat.reduceBEq, Nat.reduceAdd, Nat.reduceLeDiff, Nat.reduceSub, Int.reduceEq, rvCi, rvC]
  repeat' (first
    | with_reducible refine ask.of (by omega) ?_
    | (refine CallE.of (c_eqLinkIn x.i hx.i hx.ib hx.f) ?_ ?_ ?_; rotate_left; (· (simp -dsimp -implicitDefEqProofs only [go_sem, Nat.reduceBEq, Nat.reduceAdd, Nat.reduceLeDiff, Nat.reduceSub, Int.reduceEq, blR, rvCi, rvC, rowTb, liC, smC, Bool.not_true, decide_true]; done)); rotate_left; (· (rintro r rfl; (repeat' first | exact trivial | exact pure_rowB _ | exact pure_rowO _ | exact pure_rowI _ | exact pure_rowBB _ | exact pure_rowPk _ _ | exact pure_rowSn _ _ | exact pure_rowFd _ _ | exact pure_rowBBB _ | exact pure_rowCl _ _ | exact pure_rowTb _ _ _ | refine And.intro ?_ ?_))); rintro r rfl; try simp -dsimp -implicitDefEqProofs only [go_sem, Nat.reduceBEq, Nat.reduceAdd, Nat.reduceLeDiff, Nat.reduceSub, Int.reduceEq, blR, rvCi, rvC, rowTb, liC, smC, Bool.not_true, decide_true])
    | (refine CallE.of (c_eqTableS x.t hx.t hx.tt) ?_ ?_ ?_; rotate_left; (· (simp -dsimp -implicitDefEqProofs only [go_sem, Nat.reduceBEq, Nat.reduceAdd, Nat.reduceLeDiff, Nat.reduceSub, Int.reduceEq, blR, rvCi, rvC, rowTb, liC, smC, Bool.not_true, decide_true]; done)); rotate_left; (· (rintro r rfl; (repeat' first | exact trivial | exact pure_rowB _ | exact pure_rowO _ | exact pure_rowI _ | exact pure_rowBB _ | exact pure_rowPk _ _ | exact pure_rowSn _ _ | exact pure_rowFd _ _ | exact pure_rowBBB _ | exact pure_rowCl _ _ | exact pure_rowTb _ _ _ | refine And.intro ?_ ?_))); rintro r rfl; try simp -dsimp -implicitDefEqProofs only [go_sem, Nat.reduceBEq, Nat.reduceAdd, Nat.reduceLeDiff, Nat.reduceSub, Int.reduceEq, blR, rvCi, rvC, rowTb, liC, smC, Bool.not_true, decide_true])
    | (refine CallE.of (c_eqStream x.s hx.sf hx.sfb hx.sd hx.sdl) ?_ ?_ ?_; rotate_left; (· (simp -dsimp -implicitDefEqProofs only [go_sem, Nat.reduceBEq, Nat.reduceAdd, Nat.reduceLeDiff, Nat.reduceSub, Int.reduceEq, blR, rvCi, rvC, rowTb, liC, smC, Bool.not_true, decide_true]; done)); rotate_left; (· (rintro r rfl; (repeat' first | exact trivial | exact pure_rowB _ | exact pure_rowO _ | exact pure_rowI _ | exact pure_rowBB _ | exact pure_rowPk _ _ | exact pure_rowSn _ _ | exact pure_rowFd _ _ | exact pure_rowBBB _ | exact pure_rowCl _ _ | exact pure_rowTb _ _ _ | refine And.intro ?_ ?_))); rintro r rfl; try simp -dsimp -implicitDefEqProofs only [go_sem, Nat.reduceBEq, Nat.reduceAdd, Nat.reduceLeDiff, Nat.reduceSub, Int.reduceEq, blR, rvCi, rvC, rowTb, liC, smC, Bool.not_true, decide_true])
    | with_reducible refine ifB'.no (by omega) ?_
    | simp -dsimp -implicitDefEqProofs only [go_sem, Nat.reduceBEq, Nat.reduceAdd, Nat.reduceLeDiff, Nat.reduceSub, Int.reduceEq, blR, rvCi, rvC, rowTb, liC, smC, Bool.not_true, decide_true])
end Go.Ev
set_option linter.unusedSimpArgs false
set_option linter.unusedVariables false
namespace Go.Ev
open Go Go.RowKit Go.Proofs
theorem wrapM (m j : Nat) (h : m + j < 4611686018427387904) : IntKind.i64.wrap (((m + j : Nat) : Int) + 1) = ((m + (j + 1) : Nat) : Int) := by rw [wrap_i64_of (by omega) (by omega)]; omega
theorem bl6 : Nat.ble 1 6 = true ∧ Nat.ble 2 6 = true ∧ Nat.ble 3 6 = true ∧ Nat.ble 4 6 = true ∧ Nat.ble 5 6 = true ∧ Nat.ble 6 6 = true := ⟨rfl, rfl, rfl, rfl, rfl, rfl⟩
def mkCl (k : Nat) (c : Cl) : Cl := ⟨decide ((k : Int).tmod 3 = 0), ((k + 1 : Nat) : Int), mkB (k + 2) c.f.length⟩
def szCl (c : Cl) : Nat := 2 + c.f.length
def mkClS (k : Nat) (xs : List Cl) : List Cl := mkL mkCl szCl k xs
theorem mkCl_at' {xs : List Cl} {i : Nat} {s : Cl} (h : xs[i]? = some s) : (ra clC xs)[i]? = some (clC s) := ra_at' h
theorem mkCl_set (xs : List Cl) (i : Nat) (s : Cl) : (ra clC xs).set i [.v (.bool s.z), .v (.int .i64 s.i), .row 5 1 (bytesA s.f)] = ra clC (xs.set i s) := ra_set (enc := clC) xs i s
set_option maxHeartbeats 4000000 in
set_option maxRecDepth 8000 in
theorem c_markCellS (xs : List Cl) (k : Nat) (hk : k + szL szCl xs ≤ 4611686018427387904) (hx : xs.length ≤ 1048576) (hb : ∀ b ∈ xs, b.f.length ≤ 1048576) : MeetsM Tryz.prog 46 [.mu (rowCl 126 xs), .rd (.v (.int .i64 k))] (fun r rs => r = .v (.int .i64 ((k + szL szCl xs : Nat) : Int)) ∧ rs = [rowCl 126 (mkClS k xs), .any]) := by
  refine MeetsM.intro mixed (hint []) Tryz.func46 rfl (by decide) res_46 rty_46 (pts := parTys Tryz.prog 46) (by rw [par_46]; rfl) (by kernel_rfl) ?_; rw [par_46]; intro vals; 
  simp -dsimp -implicitDefEqProofs only [go_sem, Nat.reduceBEq, Nat.reduceAdd, Nat.reduceLeDiff, Nat.reduceSub, Int.reduceEq, rowCl]
  refine LoopE.cnt xs.length (fun i s => s.env 0 = .ref [1000000, 0] ∧ s.env 1 = .v (.int .i64 ((k + szL szCl (xs.take i) : Nat) : Int)) ∧ s.env 5 = .v (.int .i64 i) ∧ s.σ [1000000, 0] = some (.row 126 3 (ra clC (mkLP mkCl szCl k xs i))) ∧ s.σ [1000001, 0] = some (.pin (.ref [1000000, 0]) (vals 0))) ⟨by simp -dsimp -implicitDefEqProofs only [go_sem, Nat.reduceBEq, Nat.reduceAdd, Nat.reduceLeDiff, Nat.reduceSub, Int.reduceEq], by simp -dsimp -implicitDefEqProofs only [go_sem, Nat.reduceBEq, Nat.reduceAdd, Nat.reduceLeDiff, Nat.reduceSub, Int.reduceEq] <;> simp [szL], by simp -dsimp -implicitDefEqProofs only [go_sem, Nat.reduceBEq, Nat.reduceAdd, Nat.reduceLeDiff, Nat.reduceSub, Int.reduceEq] <;> simp, by simp -dsimp -implicitDefEqProofs only [go_sem, Nat.reduceBEq, Nat.reduceAdd, Nat.reduceLeDiff, Nat.reduceSub, Int.reduceEq, mkLP_zero], by simp -dsimp -implicitDefEqProofs only [go_sem, Nat.reduceBEq, Nat.reduceAdd, Nat.reduceLeDiff, Nat.reduceSub, Int.reduceEq]⟩ ?_
  rintro i ⟨e, σ⟩ hi ⟨h0, h1, h5, hs, hp⟩ K hK
  simp only at h0 h1 h5 hs hp
  have hl := mkLP_length mkCl szCl k hi
  simp -dsimp -implicitDefEqProofs only [go_sem, Nat.reduceBEq, Nat.reduceAdd, Nat.reduceLeDiff, Nat.reduceSub, Int.reduceEq, h0, h1, h5, hs, hp, hl]
  refine ifB'.of (fun hlt => ?_) (fun hlt => ?_)
  · have hlt : i < xs.length := by omega
    have hw := szL_at_le szCl hlt
    have hpb := hb _ (List.getElem_mem hlt)
    have hat := mkCl_at' (mkLP_at mkCl szCl k hlt)
    have hgs : ∀ c : List AV, ((ra clC (mkLP mkCl szCl k xs i)).set i c)[i]? = some c := fun c => by rw [List.getElem?_set_self]; rw [ra_length]; omega
    obtain ⟨m, hm⟩ : ∃ m, k + szL szCl (xs.take i) = m := ⟨_, rfl⟩
    rw [hm] at h1
    have hwm : m + szCl xs[i] ≤ 4611686018427387904 := by omega
    unfold szCl at hwm
    have e0 : IntKind.i64.wrap ((m : Int) + 1) = ((m + 1 : Nat) : Int) := wrapM m 0 (by omega)
    have e1 := wrapM m 1 (by omega)
    repeat (first | with_reducible refine ask.of (by first | omega | decide | (simp [hl]; omega)) ?_ | simp -dsimp -implicitDefEqProofs only [go_sem, Nat.reduceBEq, Nat.reduceAdd, Nat.reduceLeDiff, Nat.reduceSub, Int.reduceEq, h0, h1, h5, hs, hp, hl, hat, clC, hgs, List.set_set, List.length_set, bl3, e0, e1])
    refine CallE.mut (c_markByteS xs[i].f (m + 2) (by omega) (by omega)) (by simp -dsimp -implicitDefEqProofs only [go_sem, Nat.reduceBEq, Nat.reduceAdd, Nat.reduceLeDiff, Nat.reduceSub, Int.reduceEq, h0, h1, h5, hs, hp]) (by rintro r rs ⟨rfl, rfl⟩; exact ⟨by (repeat' first | exact trivial | exact pure_rowB _ | exact pure_rowO _ | exact pure_rowI _ | exact pure_rowBB _ | exact pure_rowPk _ _ | exact pure_rowSn _ _ | exact pure_rowFd _ _ | exact pure_rowBBB _ | exact pure_rowCl _ _ | exact pure_rowTb _ _ _ | refine And.intro ?_ ?_), by first | exact ⟨by (repeat' first | exact trivial | exact pure_rowB _ | exact pure_rowO _ | exact pure_rowI _ | exact pure_rowBB _ | exact pure_rowPk _ _ | exact pure_rowSn _ _ | exact pure_rowFd _ _ | exact pure_rowBBB _ | exact pure_rowCl _ _ | exact pure_rowTb _ _ _ | refine And.intro ?_ ?_), trivial⟩ | exact ⟨by (repeat' first | exact trivial | exact pure_rowB _ | exact pure_rowO _ | exact pure_rowI _ | exact pure_rowBB _ | exact pure_rowPk _ _ | exact pure_rowSn _ _ | exact pure_rowFd _ _ | exact pure_rowBBB _ | exact pure_rowCl _ _ | exact pure_rowTb _ _ _ | refine And.intro ?_ ?_), trivial, trivial⟩⟩) (by simp -dsimp -implicitDefEqProofs only [go_sem, Nat.reduceBEq, Nat.reduceAdd, Nat.reduceLeDiff, Nat.reduceSub, Int.reduceEq, h0, h1, h5, hs, hp, hgs, hat, List.set_set, clC]) (by simp -dsimp -implicitDefEqProofs only [go_sem, Nat.reduceBEq, Nat.reduceAdd, Nat.reduceLeDiff, Nat.reduceSub, Int.reduceEq, h0, h1, h5, hs, hp, hgs, hat, List.set_set, clC]) ?_
    rintro r rs ⟨rfl, rfl⟩
    simp -dsimp -implicitDefEqProofs only [go_sem, Nat.reduceBEq, Nat.reduceAdd, Nat.reduceLeDiff, Nat.reduceSub, Int.reduceEq, h0, h1, h5, hs, hp, hgs, hat, List.set_set, clC]
    repeat (first | with_reducible refine ask.of (by first | omega | decide | (simp [hl]; omega)) ?_ | simp -dsimp -implicitDefEqProofs only [go_sem, Nat.reduceBEq, Nat.reduceAdd, Nat.reduceLeDiff, Nat.reduceSub, Int.reduceEq, h0, h1, h5, hs, hp, hl, hgs, List.set_set, List.length_set, bl3, e0, e1])
    refine hK _ hlt ?_
    simp -dsimp -implicitDefEqProofs only [go_sem, Nat.reduceBEq, Nat.reduceAdd, Nat.reduceLeDiff, Nat.reduceSub, Int.reduceEq, h0, h1, h5, hs, hp, hgs, List.set_set, wrap_succ (show i < 4611686018427387904 by omega), szL_take_succ szCl hlt]
    refine ⟨by rw [← hm]; unfold szCl; omega, ?_⟩
    rw [← mkLP_set mkCl szCl k hlt (y := mkCl m xs[i]) (by rw [hm]), ← mkCl_set]
    rfl
  · have : i = xs.length := by omega
    subst this
    simp -dsimp -implicitDefEqProofs only [go_sem, Nat.reduceBEq, Nat.reduceAdd, Nat.reduceLeDiff, Nat.reduceSub, Int.reduceEq, h0, h1, h5, hs, hp, mkLP_full, List.take_length]
    rfl
set_option maxHeartbeats 4000000 in
set_option maxRecDepth 8000 in
theorem c_heldCellS (xs : List Cl) (k : Nat) (hk : k + szL szCl xs ≤ 4611686018427387904) (hx : xs.length ≤ 1048576) (hb : ∀ b ∈ xs, b.f.length ≤ 1048576) : Meets Tryz.prog 47 [rowCl 126 (mkClS k xs), .v (.int .i64 k)] (fun r => r = .v (.int .i64 ((k + szL szCl xs : Nat) : Int))) := by
  refine Meets.intro mixed (hint []) Tryz.func47 rfl (by decide) res_47 rty_47 (by kernel_rfl) ?_; 
  simp -dsimp -implicitDefEqProofs only [go_sem, Nat.reduceBEq, Nat.reduceAdd, Nat.reduceLeDiff, Nat.reduceSub, Int.reduceEq, rowCl]
  refine LoopE.cnt xs.length (fun i s => s.env 0 = .rd .ent 126 3 (ra clC (mkClS k xs)) ∧ s.env 1 = .v (.int .i64 ((k + szL szCl (xs.take i) : Nat) : Int)) ∧ s.env 5 = .v (.int .i64 i)) ⟨by simp -dsimp -implicitDefEqProofs only [go_sem, Nat.reduceBEq, Nat.reduceAdd, Nat.reduceLeDiff, Nat.reduceSub, Int.reduceEq, initE, rowCl], by simp -dsimp -implicitDefEqProofs only [go_sem, Nat.reduceBEq, Nat.reduceAdd, Nat.reduceLeDiff, Nat.reduceSub, Int.reduceEq, initE] <;> simp [szL], by simp -dsimp -implicitDefEqProofs only [go_sem, Nat.reduceBEq, Nat.reduceAdd, Nat.reduceLeDiff, Nat.reduceSub, Int.reduceEq] <;> simp⟩ ?_
  rintro i ⟨e, σ⟩ hi ⟨h0, h1, h5⟩ K hK
  simp only at h0 h1 h5
  have hl : (mkClS k xs).length = xs.length := mkL_length mkCl szCl k xs
  simp -dsimp -implicitDefEqProofs only [go_sem, Nat.reduceBEq, Nat.reduceAdd, Nat.reduceLeDiff, Nat.reduceSub, Int.reduceEq, h0, h1, h5, hl]
  refine ifB'.of (fun hlt => ?_) (fun hlt => ?_)
  · have hlt : i < xs.length := by omega
    have hw := szL_at_le szCl hlt
    have hpb := hb _ (List.getElem_mem hlt)
    have hat := mkCl_at' (mkL_at mkCl szCl k hlt)
    obtain ⟨m, hm⟩ : ∃ m, k + szL szCl (xs.take i) = m := ⟨_, rfl⟩
    rw [hm] at h1 hat
    have hat : (ra clC (mkClS k xs))[i]? = some (clC (mkCl m xs[i])) := hat
    have hwm : m + szCl xs[i] ≤ 4611686018427387904 := by omega
    unfold szCl at hwm
    have e0 : IntKind.i64.wrap ((m : Int) + 1) = ((m + 1 : Nat) : Int) := wrapM m 0 (by omega)
    have e1 := wrapM m 1 (by omega)
    repeat (first | with_reducible refine ask.of (by first | omega | decide | (simp [hl]; omega)) ?_ | simp -dsimp -implicitDefEqProofs only [go_sem, Nat.reduceBEq, Nat.reduceAdd, Nat.reduceLeDiff, Nat.reduceSub, Int.reduceEq, h0, h1, h5, hl, hat, clC, mkCl, bl3, e0, e1, decide_true, Bool.not_true])
    refine CallE.of (c_heldByteS (m + 2) xs[i].f.length (by omega) (by omega)) (by rintro r rfl; (repeat' first | exact trivial | exact pure_rowB _ | exact pure_rowO _ | exact pure_rowI _ | exact pure_rowBB _ | exact pure_rowPk _ _ | exact pure_rowSn _ _ | exact pure_rowFd _ _ | exact pure_rowBBB _ | exact pure_rowCl _ _ | exact pure_rowTb _ _ _ | refine And.intro ?_ ?_)) (by simp -dsimp -implicitDefEqProofs only [go_sem, Nat.reduceBEq, Nat.reduceAdd, Nat.reduceLeDiff, Nat.reduceSub, Int.reduceEq, h0, h1, h5, mkB, clC, mkBB]) ?_
    rintro r rfl
    simp -dsimp -implicitDefEqProofs only [go_sem, Nat.reduceBEq, Nat.reduceAdd, Nat.reduceLeDiff, Nat.reduceSub, Int.reduceEq, h0, h1, h5, mkB, clC, mkBB]
    with_reducible refine ifB'.no (by omega) ?_
    repeat (first | with_reducible refine ask.of (by first | omega | decide | (simp [hl]; omega)) ?_ | simp -dsimp -implicitDefEqProofs only [go_sem, Nat.reduceBEq, Nat.reduceAdd, Nat.reduceLeDiff, Nat.reduceSub, Int.reduceEq, h0, h1, h5, hl, hat, clC, mkCl, bl3, e0, e1, decide_true, Bool.not_true])
    refine hK _ hlt ?_
    simp -dsimp -implicitDefEqProofs only [go_sem, Nat.reduceBEq, Nat.reduceAdd, Nat.reduceLeDiff, Nat.reduceSub, Int.reduceEq, h0, h1, h5, wrap_succ (show i < 4611686018427387904 by omega), szL_take_succ szCl hlt]
    rw [← hm]; unfold szCl; omega
  · have : i = xs.length := by omega
    subst this
    simp -dsimp -implicitDefEqProofs only [go_sem, Nat.reduceBEq, Nat.reduceAdd, Nat.reduceLeDiff, Nat.reduceSub, Int.reduceEq, h0, h1, h5, List.take_length]
end Go.Ev
set_option linter.unusedSimpArgs false
set_option linter.unusedVariables false
namespace Go.Ev
open Go Go.RowKit Go.Proofs
def mkFd (k : Nat) (c : Fd) : Fd := ⟨mkB k c.f.length, ((k + c.f.length : Nat) : Int), ((k + c.f.length + 1 : Nat) : Int)⟩
def szFd (c : Fd) : Nat := c.f.length + 2
def mkFdS (k : Nat) (xs : List Fd) : List Fd := mkL mkFd szFd k xs
theorem mkFd_at' {xs : List Fd} {i : Nat} {s : Fd} (h : xs[i]? = some s) : (ra fdC xs)[i]? = some (fdC s) := ra_at' h
theorem mkFd_set (xs : List Fd) (i : Nat) (s : Fd) : (ra fdC xs).set i [.row 5 1 (bytesA s.f), .v (.int .i64 s.k), .v (.int .i64 s.w)] = ra fdC (xs.set i s) := ra_set (enc := fdC) xs i s
set_option maxHeartbeats 4000000 in
set_option maxRecDepth 8000 in
theorem c_markFieldS (xs : List Fd) (k : Nat) (hk : k + szL szFd xs ≤ 4611686018427387904) (hx : xs.length ≤ 1048576) (hb : ∀ b ∈ xs, b.f.length ≤ 1048576) : MeetsM Tryz.prog 65 [.mu (rowFd 138 xs), .rd (.v (.int .i64 k))] (fun r rs => r = .v (.int .i64 ((k + szL szFd xs : Nat) : Int)) ∧ rs = [rowFd 138 (mkFdS k xs), .any]) := by
  refine MeetsM.intro mixed (hint []) Tryz.func65 rfl (by decide) res_65 rty_65 (pts := parTys Tryz.prog 65) (by rw [par_65]; rfl) (by kernel_rfl) ?_; rw [par_65]; intro vals; 
  simp -dsimp -implicitDefEqProofs only [go_sem, Nat.reduceBEq, Nat.reduceAdd, Nat.reduceLeDiff, Nat.reduceSub, Int.reduceEq, rowFd]
  refine LoopE.cnt xs.length (fun i s => s.env 0 = .ref [1000000, 0] ∧ s.env 1 = .v (.int .i64 ((k + szL szFd (xs.take i) : Nat) : Int)) ∧ s.env 5 = .v (.int .i64 i) ∧ s.σ [1000000, 0] = some (.row 138 3 (ra fdC (mkLP mkFd szFd k xs i))) ∧ s.σ [1000001, 0] = some (.pin (.ref [1000000, 0]) (vals 0))) ⟨by simp -dsimp -implicitDefEqProofs only [go_sem, Nat.reduceBEq, Nat.reduceAdd, Nat.reduceLeDiff, Nat.reduceSub, Int.reduceEq], by simp -dsimp -implicitDefEqProofs only [go_sem, Nat.reduceBEq, Nat.reduceAdd, Nat.reduceLeDiff, Nat.reduceSub, Int.reduceEq] <;> simp [szL], by simp -dsimp -implicitDefEqProofs only [go_sem, Nat.reduceBEq, Nat.reduceAdd, Nat.reduceLeDiff, Nat.reduceSub, Int.reduceEq] <;> simp, by simp -dsimp -implicitDefEqProofs only [go_sem, Nat.reduceBEq, Nat.reduceAdd, Nat.reduceLeDiff, Nat.reduceSub, Int.reduceEq, mkLP_zero], by simp -dsimp -implicitDefEqProofs only [go_sem, Nat.reduceBEq, Nat.reduceAdd, Nat.reduceLeDiff, Nat.reduceSub, Int.reduceEq]⟩ ?_
  rintro i ⟨e, σ⟩ hi ⟨h0, h1, h5, hs, hp⟩ K hK
  simp only at h0 h1 h5 hs hp
  have hl := mkLP_length mkFd szFd k hi
  simp -dsimp -implicitDefEqProofs only [go_sem, Nat.reduceBEq, Nat.reduceAdd, Nat.reduceLeDiff, Nat.reduceSub, Int.reduceEq, h0, h1, h5, hs, hp, hl]
  refine ifB'.of (fun hlt => ?_) (fun hlt => ?_)
  · have hlt : i < xs.length := by omega
    have hw := szL_at_le szFd hlt
    have hpb := hb _ (List.getElem_mem hlt)
    have hat := mkFd_at' (mkLP_at mkFd szFd k hlt)
    have hgs : ∀ c : List AV, ((ra fdC (mkLP mkFd szFd k xs i)).set i c)[i]? = some c := fun c => by rw [List.getElem?_set_self]; rw [ra_length]; omega
    obtain ⟨m, hm⟩ : ∃ m, k + szL szFd (xs.take i) = m := ⟨_, rfl⟩
    rw [hm] at h1
    have hwm : m + szFd xs[i] ≤ 4611686018427387904 := by omega
    unfold szFd at hwm
    repeat (first | with_reducible refine ask.of (by first | omega | decide | (simp [hl]; omega)) ?_ | simp -dsimp -implicitDefEqProofs only [go_sem, Nat.reduceBEq, Nat.reduceAdd, Nat.reduceLeDiff, Nat.reduceSub, Int.reduceEq, h0, h1, h5, hs, hp, hl, hat, fdC, hgs, List.set_set, List.length_set, bl3])
    refine CallE.mut (c_markByteS xs[i].f m (by omega) (by omega)) (by simp -dsimp -implicitDefEqProofs only [go_sem, Nat.reduceBEq, Nat.reduceAdd, Nat.reduceLeDiff, Nat.reduceSub, Int.reduceEq, h0, h1, h5, hs, hp]) (by rintro r rs ⟨rfl, rfl⟩; exact ⟨by (repeat' first | exact trivial | exact pure_rowB _ | exact pure_rowO _ | exact pure_rowI _ | exact pure_rowBB _ | exact pure_rowPk _ _ | exact pure_rowSn _ _ | exact pure_rowFd _ _ | exact pure_rowBBB _ | exact pure_rowCl _ _ | exact pure_rowTb _ _ _ | refine And.intro ?_ ?_), by first | exact ⟨by (repeat' first | exact trivial | exact pure_rowB _ | exact pure_rowO _ | exact pure_rowI _ | exact pure_rowBB _ | exact pure_rowPk _ _ | exact pure_rowSn _ _ | exact pure_rowFd _ _ | exact pure_rowBBB _ | exact pure_rowCl _ _ | exact pure_rowTb _ _ _ | refine And.intro ?_ ?_), trivial⟩ | exact ⟨by (repeat' first | exact trivial | exact pure_rowB _ | exact pure_rowO _ | exact pure_rowI _ | exact pure_rowBB _ | exact pure_rowPk _ _ | exact pure_rowSn _ _ | exact pure_rowFd _ _ | exact pure_rowBBB _ | exact pure_rowCl _ _ | exact pure_rowTb _ _ _ | refine And.intro ?_ ?_), trivial, trivial⟩⟩) (by simp -dsimp -implicitDefEqProofs only [go_sem, Nat.reduceBEq, Nat.reduceAdd, Nat.reduceLeDiff, Nat.reduceSub, Int.reduceEq, h0, h1, h5, hs, hp, hgs, hat, List.set_set, fdC]) (by simp -dsimp -implicitDefEqProofs only [go_sem, Nat.reduceBEq, Nat.reduceAdd, Nat.reduceLeDiff, Nat.reduceSub, Int.reduceEq, h0, h1, h5, hs, hp, hgs, hat, List.set_set, fdC]) ?_
    rintro r rs ⟨rfl, rfl⟩
    simp -dsimp -implicitDefEqProofs only [go_sem, Nat.reduceBEq, Nat.reduceAdd, Nat.reduceLeDiff, Nat.reduceSub, Int.reduceEq, h0, h1, h5, hs, hp, hgs, hat, List.set_set, fdC]
    have e0 : IntKind.i64.wrap (((m + xs[i].f.length : Nat) : Int) + 1) = ((m + xs[i].f.length + 1 : Nat) : Int) := wrapM (m + xs[i].f.length) 0 (by omega)
    have e1 : IntKind.i64.wrap (((m + xs[i].f.length + 1 : Nat) : Int) + 1) = ((m + xs[i].f.length + 2 : Nat) : Int) := wrapM (m + xs[i].f.length) 1 (by omega)
    repeat (first | with_reducible refine ask.of (by first | omega | decide | (simp [hl]; omega)) ?_ | simp -dsimp -implicitDefEqProofs only [go_sem, Nat.reduceBEq, Nat.reduceAdd, Nat.reduceLeDiff, Nat.reduceSub, Int.reduceEq, h0, h1, h5, hs, hp, hl, hgs, List.set_set, List.length_set, bl3, e0, e1])
    refine hK _ hlt ?_
    simp -dsimp -implicitDefEqProofs only [go_sem, Nat.reduceBEq, Nat.reduceAdd, Nat.reduceLeDiff, Nat.reduceSub, Int.reduceEq, h0, h1, h5, hs, hp, hgs, List.set_set, wrap_succ (show i < 4611686018427387904 by omega), szL_take_succ szFd hlt]
    refine ⟨by rw [← hm]; unfold szFd; omega, ?_⟩
    rw [← mkLP_set mkFd szFd k hlt (y := mkFd m xs[i]) (by rw [hm]), ← mkFd_set]
    rfl
  · have : i = xs.length := by omega
    subst this
    simp -dsimp -implicitDefEqProofs only [go_sem, Nat.reduceBEq, Nat.reduceAdd, Nat.reduceLeDiff, Nat.reduceSub, Int.reduceEq, h0, h1, h5, hs, hp, mkLP_full, List.take_length]
    rfl
set_option maxHeartbeats 4000000 in
set_option maxRecDepth 8000 in
theorem c_heldFieldS (xs : List Fd) (k : Nat) (hk : k + szL szFd xs ≤ 4611686018427387904) (hx : xs.length ≤ 1048576) (hb : ∀ b ∈ xs, b.f.length ≤ 1048576) : Meets Tryz.prog 67 [rowFd 138 (mkFdS k xs), .v (.int .i64 k)] (fun r => r = .v (.int .i64 ((k + szL szFd xs : Nat) : Int))) := by
  refine Meets.intro mixed (hint []) Tryz.func67 rfl (by decide) res_67 rty_67 (by kernel_rfl) ?_; 
  simp -dsimp -implicitDefEqProofs only [go_sem, Nat.reduceBEq, Nat.reduceAdd, Nat.reduceLeDiff, Nat.reduceSub, Int.reduceEq, rowFd]
  refine LoopE.cnt xs.length (fun i s => s.env 0 = .rd .ent 138 3 (ra fdC (mkFdS k xs)) ∧ s.env 1 = .v (.int .i64 ((k + szL szFd (xs.take i) : Nat) : Int)) ∧ s.env 5 = .v (.int .i64 i)) ⟨by simp -dsimp -implicitDefEqProofs only [go_sem, Nat.reduceBEq, Nat.reduceAdd, Nat.reduceLeDiff, Nat.reduceSub, Int.reduceEq, initE, rowFd], by simp -dsimp -implicitDefEqProofs only [go_sem, Nat.reduceBEq, Nat.reduceAdd, Nat.reduceLeDiff, Nat.reduceSub, Int.reduceEq, initE] <;> simp [szL], by simp -dsimp -implicitDefEqProofs only [go_sem, Nat.reduceBEq, Nat.reduceAdd, Nat.reduceLeDiff, Nat.reduceSub, Int.reduceEq] <;> simp⟩ ?_
  rintro i ⟨e, σ⟩ hi ⟨h0, h1, h5⟩ K hK
  simp only at h0 h1 h5
  have hl : (mkFdS k xs).length = xs.length := mkL_length mkFd szFd k xs
  simp -dsimp -implicitDefEqProofs only [go_sem, Nat.reduceBEq, Nat.reduceAdd, Nat.reduceLeDiff, Nat.reduceSub, Int.reduceEq, h0, h1, h5, hl]
  refine ifB'.of (fun hlt => ?_) (fun hlt => ?_)
  · have hlt : i < xs.length := by omega
    have hw := szL_at_le szFd hlt
    have hpb := hb _ (List.getElem_mem hlt)
    have hat := mkFd_at' (mkL_at mkFd szFd k hlt)
    obtain ⟨m, hm⟩ : ∃ m, k + szL szFd (xs.take i) = m := ⟨_, rfl⟩
    rw [hm] at h1 hat
    have hat : (ra fdC (mkFdS k xs))[i]? = some (fdC (mkFd m xs[i])) := hat
    have hwm : m + szFd xs[i] ≤ 4611686018427387904 := by omega
    unfold szFd at hwm
    repeat (first | with_reducible refine ask.of (by first | omega | decide | (simp [hl]; omega)) ?_ | simp -dsimp -implicitDefEqProofs only [go_sem, Nat.reduceBEq, Nat.reduceAdd, Nat.reduceLeDiff, Nat.reduceSub, Int.reduceEq, h0, h1, h5, hl, hat, fdC, mkFd, bl3, decide_true, Bool.not_true])
    refine CallE.of (c_heldByteS m xs[i].f.length (by omega) (by omega)) (by rintro r rfl; (repeat' first | exact trivial | exact pure_rowB _ | exact pure_rowO _ | exact pure_rowI _ | exact pure_rowBB _ | exact pure_rowPk _ _ | exact pure_rowSn _ _ | exact pure_rowFd _ _ | exact pure_rowBBB _ | exact pure_rowCl _ _ | exact pure_rowTb _ _ _ | refine And.intro ?_ ?_)) (by simp -dsimp -implicitDefEqProofs only [go_sem, Nat.reduceBEq, Nat.reduceAdd, Nat.reduceLeDiff, Nat.reduceSub, Int.reduceEq, h0, h1, h5, mkB, fdC]) ?_
    rintro r rfl
    simp -dsimp -implicitDefEqProofs only [go_sem, Nat.reduceBEq, Nat.reduceAdd, Nat.reduceLeDiff, Nat.reduceSub, Int.reduceEq, h0, h1, h5, mkB, fdC]
    with_reducible refine ifB'.no (by omega) ?_
    have e0 : IntKind.i64.wrap (((m + xs[i].f.length : Nat) : Int) + 1) = ((m + xs[i].f.length + 1 : Nat) : Int) := wrapM (m + xs[i].f.length) 0 (by omega)
    have e1 : IntKind.i64.wrap (((m + xs[i].f.length + 1 : Nat) : Int) + 1) = ((m + xs[i].f.length + 2 : Nat) : Int) := wrapM (m + xs[i].f.length) 1 (by omega)
    repeat (first | with_reducible refine ask.of (by first | omega | decide | (simp [hl]; omega)) ?_ | simp -dsimp -implicitDefEqProofs only [go_sem, Nat.reduceBEq, Nat.reduceAdd, Nat.reduceLeDiff, Nat.reduceSub, Int.reduceEq, h0, h1, h5, hl, hat, fdC, mkFd, bl3, decide_true, Bool.not_true, e0, e1])
    refine hK _ hlt ?_
    simp -dsimp -implicitDefEqProofs only [go_sem, Nat.reduceBEq, Nat.reduceAdd, Nat.reduceLeDiff, Nat.reduceSub, Int.reduceEq, h0, h1, h5, wrap_succ (show i < 4611686018427387904 by omega), szL_take_succ szFd hlt]
    rw [← hm]; unfold szFd; omega
  · have : i = xs.length := by omega
    subst this
    simp -dsimp -implicitDefEqProofs only [go_sem, Nat.reduceBEq, Nat.reduceAdd, Nat.reduceLeDiff, Nat.reduceSub, Int.reduceEq, h0, h1, h5, List.take_length]
end Go.Ev
