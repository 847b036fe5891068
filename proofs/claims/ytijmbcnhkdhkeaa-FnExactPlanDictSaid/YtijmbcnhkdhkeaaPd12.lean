/- Part 12 of what the row leans on: the evaluator, words, contracts of functions; pruned by a program of ours. -/
import Derived.Test.YtijmbcnhkdhkeaaPd11
set_option linter.unusedSimpArgs false
set_option linter.unusedVariables false
namespace Go.Ev
open Go Go.RowKit Go.Proofs
theorem szL_subH {α : Type} {f : α → Nat} {l₁ l₂ : List α} (h : l₁.Sublist l₂) : szL f l₁ ≤ szL f l₂ := by
  induction h with
  | slnil => exact Nat.le_refl _
  | cons a h ih => simp only [szL, List.map_cons, List.sum_cons] at ih ⊢; omega
  | cons_cons a h ih => simp only [szL, List.map_cons, List.sum_cons] at ih ⊢; omega
theorem dst_wBB (xs : List Cl) : ∀ i, i ≤ xs.length → wBB (dst (xs.take i)) ≤ szL clW (xs.take i)
  | 0, _ => by simp [dst, wBB, szL]
  | i + 1, h => by
    have ih := dst_wBB xs i (by omega)
    have e : szL clW (xs.take (i + 1)) = szL clW (xs.take i) + clW xs[i] := szL_take_succ clW (by omega)
    rw [dst_succ (by omega), e]
    unfold dstep
    split
    · have e2 : wBB (dst (xs.take i) ++ [xs[i].f]) = wBB (dst (xs.take i)) + xs[i].f.length := by simp [wBB, szL]
      have e3 : clW xs[i] = xs[i].f.length := rfl
      rw [e2]; omega
    · omega
theorem frD_wBB (vs ds : List (List UInt8)) : wBB (frD vs ds) ≤ wBB ds := szL_subH (f := List.length) List.filter_sublist
theorem c_sValidDictE (xs : List (List UInt8)) (hx : xs.length + wBB xs ≤ 1048576) : Meets Try.prog 94 [rowBE xs] (fun r => r = .v (.bool (decide (okD xs)))) :=
  Meets.look (bs := [rowBB xs]) ⟨look_rowBE xs, trivial⟩ (c_sValidDict xs hx)
theorem c_l3textsE (xs : List (List UInt8)) (hx : xs.length ≤ 1048576) (hb : ∀ b ∈ xs, b.length ≤ 8388608) : Meets Try.prog 98 [rowBE xs] (fun r => r = rowBB xs) :=
  Meets.look (bs := [rowBB xs]) ⟨look_rowBE xs, trivial⟩ (c_l3texts xs hx hb)
theorem c_l3joinE (xs ys : List (List UInt8)) (hx : xs.length + wBB xs ≤ 1048576) (hy : ys.length + wBB ys ≤ 1048576) : Meets Try.prog 99 [rowBB xs, rowBE ys] (fun r => r = rowBB (xs ++ ys)) :=
  Meets.look (bs := [rowBB xs, rowBB ys]) ⟨Look.refl _, look_rowBE ys, trivial⟩ (c_l3join xs ys hx hy)
theorem b100 : bytesA [100] = [[AV.v (.int .u8 100)]] := rfl
theorem bl3h : Nat.ble 1 3 = true ∧ Nat.ble 2 3 = true ∧ Nat.ble 3 3 = true := ⟨rfl, rfl, rfl⟩
theorem planL_no {vs : List (List UInt8)} {cs : List Cl} (h : ¬ (okD vs ∧ cellsB fdD cs)) : planL vs cs = (pln0, 1) := if_pos h
theorem planL_old {vs : List (List UInt8)} {cs : List Cl} (h : okD vs ∧ cellsB fdD cs) (h2 : frD vs (dst cs) = []) : planL vs cs = (⟨0, [], vs⟩, 0) := (if_neg (fun g => g h)).trans (if_pos h2)
theorem planL_add {vs : List (List UInt8)} {cs : List Cl} (h : okD vs ∧ cellsB fdD cs) (h2 : ¬ frD vs (dst cs) = []) (h3 : okD (vs ++ frD vs (dst cs))) : planL vs cs = (⟨1, frD vs (dst cs), vs ++ frD vs (dst cs)⟩, 0) := (if_neg (fun g => g h)).trans ((if_neg h2).trans (if_pos h3))
theorem planL_new {vs : List (List UInt8)} {cs : List Cl} (h : okD vs ∧ cellsB fdD cs) (h2 : ¬ frD vs (dst cs) = []) (h3 : ¬ okD (vs ++ frD vs (dst cs))) (h4 : okD (dst cs)) : planL vs cs = (⟨2, dst cs, dst cs⟩, 0) := (if_neg (fun g => g h)).trans ((if_neg h2).trans ((if_neg h3).trans (if_pos h4)))
theorem planL_full {vs : List (List UInt8)} {cs : List Cl} (h : okD vs ∧ cellsB fdD cs) (h2 : ¬ frD vs (dst cs) = []) (h3 : ¬ okD (vs ++ frD vs (dst cs))) (h4 : ¬ okD (dst cs)) : planL vs cs = (pln0, 2) := (if_neg (fun g => g h)).trans ((if_neg h2).trans ((if_neg h3).trans (if_neg h4)))
set_option maxRecDepth 8000 in
set_option maxHeartbeats 4000000 in
theorem c_specPlanDict (vs : List (List UInt8)) (cs : List Cl) (hvc : vs.length + wBB vs + (cs.length + szL clW cs) ≤ 1048576) : Meets Try.prog 24 [rowBB vs, rowCl 151 cs] (fun r => r = resPl (planL vs cs)) := by
  have hv : vs.length + wBB vs ≤ 1048576 := by omega
  have hc : cs.length + szL clW cs ≤ 1048576 := by omega
  have hcb : ∀ c ∈ cs, c.f.length ≤ 1048576 := fun c hm => by have := mem_szL clW hm; have e : clW c = c.f.length := rfl; omega
  refine Meets.intro mixed (hint [(8, 139)]) Try.func24 rfl (by decide) res_24 rty_24 (by kernel_rfl) ?_; 
  simp -dsimp -implicitDefEqProofs only [go_sem, Nat.reduceBEq, Nat.reduceAdd, Nat.reduceLeDiff, Nat.reduceSub, Int.reduceEq, rowCl]
  repeat (first | with_reducible refine ask.of (by first | omega | decide) ?_ | simp -dsimp -implicitDefEqProofs only [go_sem, Nat.reduceBEq, Nat.reduceAdd, Nat.reduceLeDiff, Nat.reduceSub, Int.reduceEq, initE, rowCl, bl3h])
  refine CallE.of (c_sValidDict vs hv) (by rintro r rfl; (repeat' first | exact trivial | exact pure_rowB _ | exact pure_rowO _ | exact pure_rowI _ | exact pure_rowBB _ | exact pure_rowPk _ _ | exact pure_rowSn _ _ | exact pure_rowFd _ _ | exact pure_rowBBB _ | exact pure_rowCl _ _ | exact pure_rowTb _ _ _ | refine And.intro ?_ ?_)) (by simp -dsimp -implicitDefEqProofs only [go_sem, Nat.reduceBEq, Nat.reduceAdd, Nat.reduceLeDiff, Nat.reduceSub, Int.reduceEq]) ?_
  rintro r rfl
  simp -dsimp -implicitDefEqProofs only [go_sem, Nat.reduceBEq, Nat.reduceAdd, Nat.reduceLeDiff, Nat.reduceSub, Int.reduceEq]
  by_cases h1 : okD vs
  · repeat (first | with_reducible refine ask.of (by first | omega | decide) ?_ | simp -dsimp -implicitDefEqProofs only [go_sem, Nat.reduceBEq, Nat.reduceAdd, Nat.reduceLeDiff, Nat.reduceSub, Int.reduceEq, decide_eq_true h1, Bool.not_true, initE, rowCl, bl3h])
    have hL := c_l2cellsOK fdD cs (by decide) (by omega) hcb
    by_cases h2 : cellsB fdD cs
    · rw [decide_eq_true h2] at hL
      refine CallE.of (hL) (by rintro r rfl; (repeat' first | exact trivial | exact pure_rowB _ | exact pure_rowO _ | exact pure_rowI _ | exact pure_rowBB _ | exact pure_rowPk _ _ | exact pure_rowSn _ _ | exact pure_rowFd _ _ | exact pure_rowBBB _ | exact pure_rowCl _ _ | exact pure_rowTb _ _ _ | refine And.intro ?_ ?_)) (by simp -dsimp -implicitDefEqProofs only [go_sem, Nat.reduceBEq, Nat.reduceAdd, Nat.reduceLeDiff, Nat.reduceSub, Int.reduceEq, fdC, fdD, b100, rowCl]) ?_
      rintro r rfl
      simp -dsimp -implicitDefEqProofs only [go_sem, Nat.reduceBEq, Nat.reduceAdd, Nat.reduceLeDiff, Nat.reduceSub, Int.reduceEq, fdC, fdD, b100, rowCl]
      repeat (first | with_reducible refine ask.of (by first | omega | decide) ?_ | simp -dsimp -implicitDefEqProofs only [go_sem, Nat.reduceBEq, Nat.reduceAdd, Nat.reduceLeDiff, Nat.reduceSub, Int.reduceEq, Bool.not_true, initE, rowCl, bl3h])
      refine CallE.lend (c_l2textsA cs h2.2.1 hcb) (by simp -dsimp -implicitDefEqProofs only [go_sem, Nat.reduceBEq, Nat.reduceAdd, Nat.reduceLeDiff, Nat.reduceSub, Int.reduceEq]) ?_
      rintro r rfl
      simp -dsimp -implicitDefEqProofs only [go_sem, Nat.reduceBEq, Nat.reduceAdd, Nat.reduceLeDiff, Nat.reduceSub, Int.reduceEq]
      have hdc : (dst cs).length ≤ cs.length := by have := dst_len cs cs.length (Nat.le_refl _); rwa [List.take_length] at this
      have hdl : (dst cs).length ≤ 100 := by have := dst_len cs cs.length (Nat.le_refl _); rw [List.take_length] at this; have := h2.2.1; omega
      have hdw : wBB (dst cs) ≤ szL clW cs := by have := dst_wBB cs cs.length (Nat.le_refl _); rwa [List.take_length] at this
      have hdb : ∀ b ∈ dst cs, b.length ≤ 1048576 := fun b hb => by have := mem_szL List.length hb; have e : szL List.length (dst cs) = wBB (dst cs) := rfl; omega
      have hvb : ∀ b ∈ vs, b.length ≤ 1048576 := fun b hb => by have := mem_szL List.length hb; have e : szL List.length vs = wBB vs := rfl; omega
      have hpl := planL_old (vs := vs) (cs := cs) ⟨h1, h2⟩
      have hpa := planL_add (vs := vs) (cs := cs) ⟨h1, h2⟩
      have hpn := planL_new (vs := vs) (cs := cs) ⟨h1, h2⟩
      have hpf := planL_full (vs := vs) (cs := cs) ⟨h1, h2⟩
      generalize planL vs cs = pl at *
      generalize dst cs = ds at *
      repeat (first | with_reducible refine ask.of (by first | omega | decide) ?_ | simp -dsimp -implicitDefEqProofs only [go_sem, Nat.reduceBEq, Nat.reduceAdd, Nat.reduceLeDiff, Nat.reduceSub, Int.reduceEq, Bool.not_true, initE, rowCl, bl3h])
      refine LoopE.cnt ds.length (fun i s => s.env 0 = .rd .ent 25 1 (ra byC vs) ∧ s.env 4 = .ptr [4] 0 0 0 ∧ s.env 7 = .ref [24] ∧ s.env 8 = .ref [8] ∧ s.env 9 = .v (.int .i64 i) ∧ s.σ [4] = some (.box 44 [.v (.int .i64 0), .v (.slice none 0 0), .v (.slice none 0 0)]) ∧ s.σ [24] = some (.row 25 1 (ra byE ds)) ∧ s.σ [8] = some (.row 25 1 (ra byE (frD vs (ds.take i))))) ⟨by simp -dsimp -implicitDefEqProofs only [go_sem, Nat.reduceBEq, Nat.reduceAdd, Nat.reduceLeDiff, Nat.reduceSub, Int.reduceEq, initE], by simp -dsimp -implicitDefEqProofs only [go_sem, Nat.reduceBEq, Nat.reduceAdd, Nat.reduceLeDiff, Nat.reduceSub, Int.reduceEq], by simp -dsimp -implicitDefEqProofs only [go_sem, Nat.reduceBEq, Nat.reduceAdd, Nat.reduceLeDiff, Nat.reduceSub, Int.reduceEq], by simp -dsimp -implicitDefEqProofs only [go_sem, Nat.reduceBEq, Nat.reduceAdd, Nat.reduceLeDiff, Nat.reduceSub, Int.reduceEq], by simp -dsimp -implicitDefEqProofs only [go_sem, Nat.reduceBEq, Nat.reduceAdd, Nat.reduceLeDiff, Nat.reduceSub, Int.reduceEq] <;> rfl, by simp -dsimp -implicitDefEqProofs only [go_sem, Nat.reduceBEq, Nat.reduceAdd, Nat.reduceLeDiff, Nat.reduceSub, Int.reduceEq], by simp -dsimp -implicitDefEqProofs only [go_sem, Nat.reduceBEq, Nat.reduceAdd, Nat.reduceLeDiff, Nat.reduceSub, Int.reduceEq] <;> rfl, by simp -dsimp -implicitDefEqProofs only [go_sem, Nat.reduceBEq, Nat.reduceAdd, Nat.reduceLeDiff, Nat.reduceSub, Int.reduceEq] <;> rfl⟩ ?_
      rintro i ⟨e, σ⟩ hi ⟨g0, g4, g7, g8, g9, s4, s24, s8⟩ K hK
      simp only at g0 g4 g7 g8 g9 s4 s24 s8
      simp -dsimp -implicitDefEqProofs only [go_sem, Nat.reduceBEq, Nat.reduceAdd, Nat.reduceLeDiff, Nat.reduceSub, Int.reduceEq, g0, g4, g7, g8, g9, s4, s24, s8]
      refine ifB'.of (fun hlt => ?_) (fun hlt => ?_)
      · have hlt : i < ds.length := by omega
        repeat (first | with_reducible refine ask.of (by first | omega | decide) ?_ | simp -dsimp -implicitDefEqProofs only [go_sem, Nat.reduceBEq, Nat.reduceAdd, Nat.reduceLeDiff, Nat.reduceSub, Int.reduceEq, g0, g4, g7, g8, g9, s4, s24, s8, byE_at hlt])
        refine CallE.of (c_l2place vs ds[i] (by omega) (fun b hb => by have := hvb b hb; omega) (by have := hdb _ (List.getElem_mem hlt); omega)) (by rintro r rfl; (repeat' first | exact trivial | exact pure_rowB _ | exact pure_rowO _ | exact pure_rowI _ | exact pure_rowBB _ | exact pure_rowPk _ _ | exact pure_rowSn _ _ | exact pure_rowFd _ _ | exact pure_rowBBB _ | exact pure_rowCl _ _ | exact pure_rowTb _ _ _ | refine And.intro ?_ ?_)) (by simp -dsimp -implicitDefEqProofs only [go_sem, Nat.reduceBEq, Nat.reduceAdd, Nat.reduceLeDiff, Nat.reduceSub, Int.reduceEq, g0, g4, g7, g8, g9, s4, s24, s8]) ?_
        rintro r rfl
        simp -dsimp -implicitDefEqProofs only [go_sem, Nat.reduceBEq, Nat.reduceAdd, Nat.reduceLeDiff, Nat.reduceSub, Int.reduceEq, g0, g4, g7, g8, g9, s4, s24, s8]
        have hp := plI_nonneg vs ds[i]
        have hfl : (frD vs (ds.take i)).length ≤ 100 := Nat.le_trans (frD_len _ _) (by simp; omega)
        refine ifB'.of (fun hq => ?_) (fun hq => ?_)
        · have hnew : ds[i] ∉ vs := fun h => by have := hp.2 h; omega
          repeat (first | with_reducible refine ask.of (by first | omega | decide | (simp only [ra_length, List.length_cons, List.length_nil]; omega)) ?_ | simp -dsimp -implicitDefEqProofs only [go_sem, Nat.reduceBEq, Nat.reduceAdd, Nat.reduceLeDiff, Nat.reduceSub, Int.reduceEq, g0, g4, g7, g8, g9, s4, s24, s8, byE_at hlt, byE_snoc])
          refine hK _ hlt ?_
          simp -dsimp -implicitDefEqProofs only [go_sem, Nat.reduceBEq, Nat.reduceAdd, Nat.reduceLeDiff, Nat.reduceSub, Int.reduceEq, g0, g4, g7, g8, g9, s4, s24, s8, wrap_succ (show i < 4611686018427387904 by omega), frD_snoc vs ds hlt, if_pos hnew]
        · have hold : ds[i] ∈ vs := hp.1 (by omega)
          simp -dsimp -implicitDefEqProofs only [go_sem, Nat.reduceBEq, Nat.reduceAdd, Nat.reduceLeDiff, Nat.reduceSub, Int.reduceEq, g0, g4, g7, g8, g9, s4, s24, s8]
          refine hK _ hlt ?_
          simp -dsimp -implicitDefEqProofs only [go_sem, Nat.reduceBEq, Nat.reduceAdd, Nat.reduceLeDiff, Nat.reduceSub, Int.reduceEq, g0, g4, g7, g8, g9, s4, s24, s8, wrap_succ (show i < 4611686018427387904 by omega), frD_snoc vs ds hlt, if_neg (show ¬ ds[i] ∉ vs from fun h => h hold)]
      · have hi' : i = ds.length := by omega
        subst hi'
        rw [List.take_length] at s8
        have hfl : (frD vs ds).length ≤ 100 := Nat.le_trans (frD_len _ _) hdl
        have hfd := frD_len vs ds
        have hfw := frD_wBB vs ds
        have hfb : ∀ b ∈ frD vs ds, b.length ≤ 1048576 := fun b hb => hdb b (List.mem_filter.1 hb).1
        generalize frD vs ds = fr at *
        repeat (first | with_reducible refine ask.of (by first | omega | decide) ?_ | simp -dsimp -implicitDefEqProofs only [go_sem, Nat.reduceBEq, Nat.reduceAdd, Nat.reduceLeDiff, Nat.reduceSub, Int.reduceEq, g0, g4, g7, g8, g9, s4, s24, s8, ra_length])
        refine ifB'.of (fun h => ?_) (fun h => ?_)
        · have hf0 : fr = [] := List.eq_nil_of_length_eq_zero (by omega)
          rw [hpl hf0]
          repeat (first | with_reducible refine ask.of (by first | omega | decide) ?_ | simp -dsimp -implicitDefEqProofs only [go_sem, Nat.reduceBEq, Nat.reduceAdd, Nat.reduceLeDiff, Nat.reduceSub, Int.reduceEq, g0, g4, g7, g8, g9, s4, s24, s8, ra_length, bl3h, Bool.not_true, Bool.not_false])
          refine CallE.of (c_l3texts vs (by omega) (fun b hb => by have := hvb b hb; omega)) (by rintro r rfl; (repeat' first | exact trivial | exact pure_rowB _ | exact pure_rowO _ | exact pure_rowI _ | exact pure_rowBB _ | exact pure_rowPk _ _ | exact pure_rowSn _ _ | exact pure_rowFd _ _ | exact pure_rowBBB _ | exact pure_rowCl _ _ | exact pure_rowTb _ _ _ | refine And.intro ?_ ?_)) (by simp -dsimp -implicitDefEqProofs only [go_sem, Nat.reduceBEq, Nat.reduceAdd, Nat.reduceLeDiff, Nat.reduceSub, Int.reduceEq, g0, g4, g7, g8, g9, s4, s24, s8]) ?_
          rintro r rfl
          simp -dsimp -implicitDefEqProofs only [go_sem, Nat.reduceBEq, Nat.reduceAdd, Nat.reduceLeDiff, Nat.reduceSub, Int.reduceEq, g0, g4, g7, g8, g9, s4, s24, s8]
          repeat (first | with_reducible refine ask.of (by first | omega | decide) ?_ | simp -dsimp -implicitDefEqProofs only [go_sem, Nat.reduceBEq, Nat.reduceAdd, Nat.reduceLeDiff, Nat.reduceSub, Int.reduceEq, g0, g4, g7, g8, g9, s4, s24, s8, ra_length, bl3h, Bool.not_true, Bool.not_false])
          rfl
        · have hf0 : ¬ fr = [] := fun h' => h (by rw [h']; rfl)
          have hw : wBB (vs ++ fr) = wBB vs + wBB fr := by simp [wBB, szL]
          have hl : (vs ++ fr).length = vs.length + fr.length := List.length_append
          repeat (first | with_reducible refine ask.of (by first | omega | decide) ?_ | simp -dsimp -implicitDefEqProofs only [go_sem, Nat.reduceBEq, Nat.reduceAdd, Nat.reduceLeDiff, Nat.reduceSub, Int.reduceEq, g0, g4, g7, g8, g9, s4, s24, s8, ra_length, bl3h, Bool.not_true, Bool.not_false])
          refine CallE.of (c_l3joinE vs fr hv (by omega)) (by rintro r rfl; (repeat' first | exact trivial | exact pure_rowB _ | exact pure_rowO _ | exact pure_rowI _ | exact pure_rowBB _ | exact pure_rowPk _ _ | exact pure_rowSn _ _ | exact pure_rowFd _ _ | exact pure_rowBBB _ | exact pure_rowCl _ _ | exact pure_rowTb _ _ _ | refine And.intro ?_ ?_)) (by simp -dsimp -implicitDefEqProofs only [go_sem, Nat.reduceBEq, Nat.reduceAdd, Nat.reduceLeDiff, Nat.reduceSub, Int.reduceEq, g0, g4, g7, g8, g9, s4, s24, s8]) ?_
          rintro r rfl
          simp -dsimp -implicitDefEqProofs only [go_sem, Nat.reduceBEq, Nat.reduceAdd, Nat.reduceLeDiff, Nat.reduceSub, Int.reduceEq, g0, g4, g7, g8, g9, s4, s24, s8]
          repeat (first | with_reducible refine ask.of (by first | omega | decide) ?_ | simp -dsimp -implicitDefEqProofs only [go_sem, Nat.reduceBEq, Nat.reduceAdd, Nat.reduceLeDiff, Nat.reduceSub, Int.reduceEq, g0, g4, g7, g8, g9, s4, s24, s8, ra_length, bl3h, Bool.not_true, Bool.not_false])
          have hV := c_sValidDict (vs ++ fr) (by omega)
          by_cases h3 : okD (vs ++ fr)
          · rw [hpa hf0 h3]
            rw [decide_eq_true h3] at hV
            refine CallE.of (hV) (by rintro r rfl; (repeat' first | exact trivial | exact pure_rowB _ | exact pure_rowO _ | exact pure_rowI _ | exact pure_rowBB _ | exact pure_rowPk _ _ | exact pure_rowSn _ _ | exact pure_rowFd _ _ | exact pure_rowBBB _ | exact pure_rowCl _ _ | exact pure_rowTb _ _ _ | refine And.intro ?_ ?_)) (by simp -dsimp -implicitDefEqProofs only [go_sem, Nat.reduceBEq, Nat.reduceAdd, Nat.reduceLeDiff, Nat.reduceSub, Int.reduceEq, g0, g4, g7, g8, g9, s4, s24, s8]) ?_
            rintro r rfl
            simp -dsimp -implicitDefEqProofs only [go_sem, Nat.reduceBEq, Nat.reduceAdd, Nat.reduceLeDiff, Nat.reduceSub, Int.reduceEq, g0, g4, g7, g8, g9, s4, s24, s8]
            repeat (first | with_reducible refine ask.of (by first | omega | decide) ?_ | simp -dsimp -implicitDefEqProofs only [go_sem, Nat.reduceBEq, Nat.reduceAdd, Nat.reduceLeDiff, Nat.reduceSub, Int.reduceEq, g0, g4, g7, g8, g9, s4, s24, s8, ra_length, bl3h, Bool.not_true, Bool.not_false])
            refine CallE.of (c_l3textsE fr (by omega) (fun b hb => by have := hfb b hb; omega)) (by rintro r rfl; (repeat' first | exact trivial | exact pure_rowB _ | exact pure_rowO _ | exact pure_rowI _ | exact pure_rowBB _ | exact pure_rowPk _ _ | exact pure_rowSn _ _ | exact pure_rowFd _ _ | exact pure_rowBBB _ | exact pure_rowCl _ _ | exact pure_rowTb _ _ _ | refine And.intro ?_ ?_)) (by simp -dsimp -implicitDefEqProofs only [go_sem, Nat.reduceBEq, Nat.reduceAdd, Nat.reduceLeDiff, Nat.reduceSub, Int.reduceEq, g0, g4, g7, g8, g9, s4, s24, s8]) ?_
            rintro r rfl
            simp -dsimp -implicitDefEqProofs only [go_sem, Nat.reduceBEq, Nat.reduceAdd, Nat.reduceLeDiff, Nat.reduceSub, Int.reduceEq, g0, g4, g7, g8, g9, s4, s24, s8]
            repeat (first | with_reducible refine ask.of (by first | omega | decide) ?_ | simp -dsimp -implicitDefEqProofs only [go_sem, Nat.reduceBEq, Nat.reduceAdd, Nat.reduceLeDiff, Nat.reduceSub, Int.reduceEq, g0, g4, g7, g8, g9, s4, s24, s8, ra_length, bl3h, Bool.not_true, Bool.not_false])
            refine CallE.of (c_l3joinE vs fr hv (by omega)) (by rintro r rfl; (repeat' first | exact trivial | exact pure_rowB _ | exact pure_rowO _ | exact pure_rowI _ | exact pure_rowBB _ | exact pure_rowPk _ _ | exact pure_rowSn _ _ | exact pure_rowFd _ _ | exact pure_rowBBB _ | exact pure_rowCl _ _ | exact pure_rowTb _ _ _ | refine And.intro ?_ ?_)) (by simp -dsimp -implicitDefEqProofs only [go_sem, Nat.reduceBEq, Nat.reduceAdd, Nat.reduceLeDiff, Nat.reduceSub, Int.reduceEq, g0, g4, g7, g8, g9, s4, s24, s8]) ?_
            rintro r rfl
            simp -dsimp -implicitDefEqProofs only [go_sem, Nat.reduceBEq, Nat.reduceAdd, Nat.reduceLeDiff, Nat.reduceSub, Int.reduceEq, g0, g4, g7, g8, g9, s4, s24, s8]
            repeat (first | with_reducible refine ask.of (by first | omega | decide) ?_ | simp -dsimp -implicitDefEqProofs only [go_sem, Nat.reduceBEq, Nat.reduceAdd, Nat.reduceLeDiff, Nat.reduceSub, Int.reduceEq, g0, g4, g7, g8, g9, s4, s24, s8, ra_length, bl3h, Bool.not_true, Bool.not_false])
            rfl
          · rw [decide_eq_false h3] at hV
            refine CallE.of (hV) (by rintro r rfl; (repeat' first | exact trivial | exact pure_rowB _ | exact pure_rowO _ | exact pure_rowI _ | exact pure_rowBB _ | exact pure_rowPk _ _ | exact pure_rowSn _ _ | exact pure_rowFd _ _ | exact pure_rowBBB _ | exact pure_rowCl _ _ | exact pure_rowTb _ _ _ | refine And.intro ?_ ?_)) (by simp -dsimp -implicitDefEqProofs only [go_sem, Nat.reduceBEq, Nat.reduceAdd, Nat.reduceLeDiff, Nat.reduceSub, Int.reduceEq, g0, g4, g7, g8, g9, s4, s24, s8]) ?_
            rintro r rfl
            simp -dsimp -implicitDefEqProofs only [go_sem, Nat.reduceBEq, Nat.reduceAdd, Nat.reduceLeDiff, Nat.reduceSub, Int.reduceEq, g0, g4, g7, g8, g9, s4, s24, s8]
            repeat (first | with_reducible refine ask.of (by first | omega | decide) ?_ | simp -dsimp -implicitDefEqProofs only [go_sem, Nat.reduceBEq, Nat.reduceAdd, Nat.reduceLeDiff, Nat.reduceSub, Int.reduceEq, g0, g4, g7, g8, g9, s4, s24, s8, ra_length, bl3h, Bool.not_true, Bool.not_false])
            have hW := c_sValidDictE ds (by omega)
            by_cases h4 : okD ds
            · rw [hpn hf0 h3 h4]
              rw [decide_eq_true h4] at hW
              refine CallE.of (hW) (by rintro r rfl; (repeat' first | exact trivial | exact pure_rowB _ | exact pure_rowO _ | exact pure_rowI _ | exact pure_rowBB _ | exact pure_rowPk _ _ | exact pure_rowSn _ _ | exact pure_rowFd _ _ | exact pure_rowBBB _ | exact pure_rowCl _ _ | exact pure_rowTb _ _ _ | refine And.intro ?_ ?_)) (by simp -dsimp -implicitDefEqProofs only [go_sem, Nat.reduceBEq, Nat.reduceAdd, Nat.reduceLeDiff, Nat.reduceSub, Int.reduceEq, g0, g4, g7, g8, g9, s4, s24, s8]) ?_
              rintro r rfl
              simp -dsimp -implicitDefEqProofs only [go_sem, Nat.reduceBEq, Nat.reduceAdd, Nat.reduceLeDiff, Nat.reduceSub, Int.reduceEq, g0, g4, g7, g8, g9, s4, s24, s8]
              repeat (first | with_reducible refine ask.of (by first | omega | decide) ?_ | simp -dsimp -implicitDefEqProofs only [go_sem, Nat.reduceBEq, Nat.reduceAdd, Nat.reduceLeDiff, Nat.reduceSub, Int.reduceEq, g0, g4, g7, g8, g9, s4, s24, s8, ra_length, bl3h, Bool.not_true, Bool.not_false])
              refine CallE.of (c_l3textsE ds (by omega) (fun b hb => by have := hdb b hb; omega)) (by rintro r rfl; (repeat' first | exact trivial | exact pure_rowB _ | exact pure_rowO _ | exact pure_rowI _ | exact pure_rowBB _ | exact pure_rowPk _ _ | exact pure_rowSn _ _ | exact pure_rowFd _ _ | exact pure_rowBBB _ | exact pure_rowCl _ _ | exact pure_rowTb _ _ _ | refine And.intro ?_ ?_)) (by simp -dsimp -implicitDefEqProofs only [go_sem, Nat.reduceBEq, Nat.reduceAdd, Nat.reduceLeDiff, Nat.reduceSub, Int.reduceEq, g0, g4, g7, g8, g9, s4, s24, s8]) ?_
              rintro r rfl
              simp -dsimp -implicitDefEqProofs only [go_sem, Nat.reduceBEq, Nat.reduceAdd, Nat.reduceLeDiff, Nat.reduceSub, Int.reduceEq, g0, g4, g7, g8, g9, s4, s24, s8]
              repeat (first | with_reducible refine ask.of (by first | omega | decide) ?_ | simp -dsimp -implicitDefEqProofs only [go_sem, Nat.reduceBEq, Nat.reduceAdd, Nat.reduceLeDiff, Nat.reduceSub, Int.reduceEq, g0, g4, g7, g8, g9, s4, s24, s8, ra_length, bl3h, Bool.not_true, Bool.not_false])
              refine CallE.of (c_l3textsE ds (by omega) (fun b hb => by have := hdb b hb; omega)) (by rintro r rfl; (repeat' first | exact trivial | exact pure_rowB _ | exact pure_rowO _ | exact pure_rowI _ | exact pure_rowBB _ | exact pure_rowPk _ _ | exact pure_rowSn _ _ | exact pure_rowFd _ _ | exact pure_rowBBB _ | exact pure_rowCl _ _ | exact pure_rowTb _ _ _ | refine And.intro ?_ ?_)) (by simp -dsimp -implicitDefEqProofs only [go_sem, Nat.reduceBEq, Nat.reduceAdd, Nat.reduceLeDiff, Nat.reduceSub, Int.reduceEq, g0, g4, g7, g8, g9, s4, s24, s8]) ?_
              rintro r rfl
              simp -dsimp -implicitDefEqProofs only [go_sem, Nat.reduceBEq, Nat.reduceAdd, Nat.reduceLeDiff, Nat.reduceSub, Int.reduceEq, g0, g4, g7, g8, g9, s4, s24, s8]
              repeat (first | with_reducible refine ask.of (by first | omega | decide) ?_ | simp -dsimp -implicitDefEqProofs only [go_sem, Nat.reduceBEq, Nat.reduceAdd, Nat.reduceLeDiff, Nat.reduceSub, Int.reduceEq, g0, g4, g7, g8, g9, s4, s24, s8, ra_length, bl3h, Bool.not_true, Bool.not_false])
              rfl
            · rw [hpf hf0 h3 h4]
              rw [decide_eq_false h4] at hW
              refine CallE.of (hW) (by rintro r rfl; (repeat' first | exact trivial | exact pure_rowB _ | exact pure_rowO _ | exact pure_rowI _ | exact pure_rowBB _ | exact pure_rowPk _ _ | exact pure_rowSn _ _ | exact pure_rowFd _ _ | exact pure_rowBBB _ | exact pure_rowCl _ _ | exact pure_rowTb _ _ _ | refine And.intro ?_ ?_)) (by simp -dsimp -implicitDefEqProofs only [go_sem, Nat.reduceBEq, Nat.reduceAdd, Nat.reduceLeDiff, Nat.reduceSub, Int.reduceEq, g0, g4, g7, g8, g9, s4, s24, s8]) ?_
              rintro r rfl
              simp -dsimp -implicitDefEqProofs only [go_sem, Nat.reduceBEq, Nat.reduceAdd, Nat.reduceLeDiff, Nat.reduceSub, Int.reduceEq, g0, g4, g7, g8, g9, s4, s24, s8]
              repeat (first | with_reducible refine ask.of (by first | omega | decide) ?_ | simp -dsimp -implicitDefEqProofs only [go_sem, Nat.reduceBEq, Nat.reduceAdd, Nat.reduceLeDiff, Nat.reduceSub, Int.reduceEq, g0, g4, g7, g8, g9, s4, s24, s8, ra_length, bl3h, Bool.not_true, Bool.not_false])
              rfl
    · rw [planL_no (fun h => h2 h.2)]
      rw [decide_eq_false h2] at hL
      refine CallE.of (hL) (by rintro r rfl; (repeat' first | exact trivial | exact pure_rowB _ | exact pure_rowO _ | exact pure_rowI _ | exact pure_rowBB _ | exact pure_rowPk _ _ | exact pure_rowSn _ _ | exact pure_rowFd _ _ | exact pure_rowBBB _ | exact pure_rowCl _ _ | exact pure_rowTb _ _ _ | refine And.intro ?_ ?_)) (by simp -dsimp -implicitDefEqProofs only [go_sem, Nat.reduceBEq, Nat.reduceAdd, Nat.reduceLeDiff, Nat.reduceSub, Int.reduceEq, fdC, fdD, b100, rowCl]) ?_
      rintro r rfl
      simp -dsimp -implicitDefEqProofs only [go_sem, Nat.reduceBEq, Nat.reduceAdd, Nat.reduceLeDiff, Nat.reduceSub, Int.reduceEq, fdC, fdD, b100, rowCl]
      repeat (first | with_reducible refine ask.of (by first | omega | decide) ?_ | simp -dsimp -implicitDefEqProofs only [go_sem, Nat.reduceBEq, Nat.reduceAdd, Nat.reduceLeDiff, Nat.reduceSub, Int.reduceEq, Bool.not_false, initE, rowCl, bl3h])
      rfl
  · rw [planL_no (fun h => h1 h.1)]
    repeat (first | with_reducible refine ask.of (by first | omega | decide) ?_ | simp -dsimp -implicitDefEqProofs only [go_sem, Nat.reduceBEq, Nat.reduceAdd, Nat.reduceLeDiff, Nat.reduceSub, Int.reduceEq, decide_eq_false h1, Bool.not_false, initE, rowCl, bl3h])
    rfl
end Go.Ev
set_option linter.unusedSimpArgs false
set_option linter.unusedVariables false
namespace Go.Ev
open Go Go.RowKit Go.Proofs
def clD (c : Cl) : Prop := if c.z = true then c.i = 0 ∧ c.f.length = 0 else c.i = 0
instance (c : Cl) : Decidable (clD c) := by unfold clD; infer_instance
theorem clD_iff (c : Cl) : clOk fdD c ↔ clD c := by
  unfold clOk clD fdD
  simp
theorem cd_d {c : Cl} {q : Prop} [Decidable q] (h : q ↔ clD c) : decide q = decide (clD c) := decide_eq_decide.2 h
theorem cd_f {c : Cl} (h : ¬ clD c) : false = decide (clD c) := (decide_eq_false h).symm
theorem cd_t {c : Cl} (h : clD c) : true = decide (clD c) := (decide_eq_true h).symm
set_option maxRecDepth 8000 in
set_option maxHeartbeats 2000000 in
theorem c_cellOkD (c : Cl) (hb : c.f.length ≤ 1048576) : Meets Try.prog 104 [.agg [.row 5 1 [], .v (.int .i64 3), .v (.int .i64 0)], .agg (clC c)] (fun r => r = .v (.bool (decide (clD c)))) := by
  refine Meets.intro mixed (hint []) Try.func104 rfl (by decide) res_104 rty_104 (by kernel_rfl) ?_; 
  simp -dsimp -implicitDefEqProofs only [go_sem, Nat.reduceBEq, Nat.reduceAdd, Nat.reduceLeDiff, Nat.reduceSub, Int.reduceEq, clC]
  cases hz : c.z
  · repeat' (first | with_reducible refine ifB'.of (fun h => ?_) (fun h => ?_) | with_reducible refine ask.of (by omega) ?_ | omega | ((with_reducible refine cd_f ?_); unfold clD; simp only [hz, if_false, Bool.false_eq_true]; omega) | ((with_reducible refine cd_t ?_); unfold clD; simp only [hz, if_false, Bool.false_eq_true]; omega) | ((with_reducible refine cd_d ?_); unfold clD; simp only [hz, if_false, Bool.false_eq_true]) | simp -dsimp -implicitDefEqProofs only [go_sem, Nat.reduceBEq, Nat.reduceAdd, Nat.reduceLeDiff, Nat.reduceSub, Int.reduceEq, hz, decide_true, decide_false, bl3h])
  · repeat' (first | with_reducible refine ifB'.of (fun h => ?_) (fun h => ?_) | with_reducible refine ask.of (by omega) ?_ | ((with_reducible refine cd_f ?_); unfold clD; simp only [hz, if_true]; omega) | ((with_reducible refine cd_t ?_); unfold clD; simp only [hz, if_true]; omega) | ((with_reducible refine cd_d ?_); unfold clD; simp only [hz, if_true]; omega) | simp -dsimp -implicitDefEqProofs only [go_sem, Nat.reduceBEq, Nat.reduceAdd, Nat.reduceLeDiff, Nat.reduceSub, Int.reduceEq, hz, decide_true, bl3h])
set_option maxRecDepth 8000 in
theorem c_planFn (c : Cl) (hb : c.f.length ≤ 1048576) : Meets Try.prog 103 [.agg (clC c)] (fun r => r = .v (.bool (!decide (clD c)))) := by
  refine Meets.intro mixed (hint []) Try.func103 rfl (by decide) res_103 rty_103 (by kernel_rfl) ?_; 
  simp -dsimp -implicitDefEqProofs only [go_sem, Nat.reduceBEq, Nat.reduceAdd, Nat.reduceLeDiff, Nat.reduceSub, Int.reduceEq, clC]
  repeat (first | with_reducible refine ask.of (by first | omega | decide) ?_ | simp -dsimp -implicitDefEqProofs only [go_sem, Nat.reduceBEq, Nat.reduceAdd, Nat.reduceLeDiff, Nat.reduceSub, Int.reduceEq, bl3h, initE])
  refine CallE.of (c_cellOkD c hb) (by rintro r rfl; (repeat' first | exact trivial | exact pure_rowB _ | exact pure_rowO _ | exact pure_rowI _ | exact pure_rowBB _ | exact pure_rowPk _ _ | exact pure_rowSn _ _ | exact pure_rowFd _ _ | exact pure_rowBBB _ | exact pure_rowCl _ _ | exact pure_rowTb _ _ _ | refine And.intro ?_ ?_)) (by simp -dsimp -implicitDefEqProofs only [go_sem, Nat.reduceBEq, Nat.reduceAdd, Nat.reduceLeDiff, Nat.reduceSub, Int.reduceEq, clC]) ?_
  rintro r rfl
  simp -dsimp -implicitDefEqProofs only [go_sem, Nat.reduceBEq, Nat.reduceAdd, Nat.reduceLeDiff, Nat.reduceSub, Int.reduceEq, clC]
  try rfl
set_option maxRecDepth 8000 in
theorem c_indexFuncC (xs : List Cl) (hx : xs.length ≤ 1048576) (hb : ∀ c ∈ xs, c.f.length ≤ 1048576) :
    Meets Try.prog 175 [rowCl 151 xs, .v (.func (.func 103) #[] #[])] (fun r => ∃ k : Int, r = .v (.int .i64 k) ∧ (0 ≤ k ↔ ∃ t ∈ xs, ¬ clD t)) := by
  have hp : parTys Try.prog 103 = [151] := by kernel_rfl
  refine Meets.intro mixed (hint []) Try.func175 rfl (by decide) res_175 rty_175 (by kernel_rfl) ?_; 
  simp -dsimp -implicitDefEqProofs only [go_sem, Nat.reduceBEq, Nat.reduceAdd, Nat.reduceLeDiff, Nat.reduceSub, Int.reduceEq, rowCl]
  refine LoopE.cnt xs.length (fun i s => s.env 0 = .rd .ent 151 3 (ra clC xs) ∧ s.env 1 = .v (.func (.func 103) #[] #[]) ∧ s.env 7 = .v (.int .i64 xs.length) ∧ s.env 8 = .v (.int .i64 i) ∧ ∀ t ∈ xs.take i, clD t) ⟨by simp -dsimp -implicitDefEqProofs only [go_sem, Nat.reduceBEq, Nat.reduceAdd, Nat.reduceLeDiff, Nat.reduceSub, Int.reduceEq, initE, rowCl], by simp -dsimp -implicitDefEqProofs only [go_sem, Nat.reduceBEq, Nat.reduceAdd, Nat.reduceLeDiff, Nat.reduceSub, Int.reduceEq, initE], by simp -dsimp -implicitDefEqProofs only [go_sem, Nat.reduceBEq, Nat.reduceAdd, Nat.reduceLeDiff, Nat.reduceSub, Int.reduceEq], by simp -dsimp -implicitDefEqProofs only [go_sem, Nat.reduceBEq, Nat.reduceAdd, Nat.reduceLeDiff, Nat.reduceSub, Int.reduceEq] <;> rfl, by simp⟩ ?_
  rintro i ⟨e, σ⟩ hi ⟨h0, h1, h7, h8, hall⟩ K hK
  simp only at h0 h1 h7 h8
  simp -dsimp -implicitDefEqProofs only [go_sem, Nat.reduceBEq, Nat.reduceAdd, Nat.reduceLeDiff, Nat.reduceSub, Int.reduceEq, h0, h1, h7, h8]
  refine ifB'.of (fun hlt => ?_) (fun hlt => ?_)
  · have hlt : i < xs.length := by omega
    repeat (first | with_reducible refine ask.of (by first | omega | decide) ?_ | simp -dsimp -implicitDefEqProofs only [go_sem, Nat.reduceBEq, Nat.reduceAdd, Nat.reduceLeDiff, Nat.reduceSub, Int.reduceEq, h0, h1, h7, h8, Cl_at hlt, clC, bl3h])
    refine CallV.ofE (c_planFn xs[i] (hb _ (List.getElem_mem hlt))) (by rintro r rfl; (repeat' first | exact trivial | exact pure_rowB _ | exact pure_rowO _ | exact pure_rowI _ | exact pure_rowBB _ | exact pure_rowPk _ _ | exact pure_rowSn _ _ | exact pure_rowFd _ _ | exact pure_rowBBB _ | exact pure_rowCl _ _ | exact pure_rowTb _ _ _ | refine And.intro ?_ ?_)) (by first | (simp -dsimp -implicitDefEqProofs only [go_sem, Nat.reduceBEq, Nat.reduceAdd, Nat.reduceLeDiff, Nat.reduceSub, Int.reduceEq, h0, h1, h7, h8, clC, hp]; done) | (simp -dsimp -implicitDefEqProofs only [go_sem, Nat.reduceBEq, Nat.reduceAdd, Nat.reduceLeDiff, Nat.reduceSub, Int.reduceEq, h0, h1, h7, h8, clC, hp]; rfl)) (by first | (simp -dsimp -implicitDefEqProofs only [go_sem, Nat.reduceBEq, Nat.reduceAdd, Nat.reduceLeDiff, Nat.reduceSub, Int.reduceEq, h0, h1, h7, h8, clC, hp]; done) | (simp -dsimp -implicitDefEqProofs only [go_sem, Nat.reduceBEq, Nat.reduceAdd, Nat.reduceLeDiff, Nat.reduceSub, Int.reduceEq, h0, h1, h7, h8, clC, hp]; rfl)) (by first | rfl | (simp -dsimp -implicitDefEqProofs only [go_sem, Nat.reduceBEq, Nat.reduceAdd, Nat.reduceLeDiff, Nat.reduceSub, Int.reduceEq, h0, h1, h7, h8, clC, hp]; done)) ?_
    rintro r rfl
    simp -dsimp -implicitDefEqProofs only [go_sem, Nat.reduceBEq, Nat.reduceAdd, Nat.reduceLeDiff, Nat.reduceSub, Int.reduceEq, h0, h1, h7, h8, clC, hp]
    by_cases hv : clD xs[i]
    · simp -dsimp -implicitDefEqProofs only [go_sem, Nat.reduceBEq, Nat.reduceAdd, Nat.reduceLeDiff, Nat.reduceSub, Int.reduceEq, h0, h1, h7, h8, decide_eq_true hv, Bool.not_true]
      refine hK _ hlt ?_
      simp -dsimp -implicitDefEqProofs only [go_sem, Nat.reduceBEq, Nat.reduceAdd, Nat.reduceLeDiff, Nat.reduceSub, Int.reduceEq, h0, h1, h7, h8, wrap_succ (show i < 4611686018427387904 by omega)]
      intro t ht
      rw [List.take_succ_eq_append_getElem hlt] at ht
      rcases List.mem_append.1 ht with ht | ht
      · exact hall t ht
      · rw [List.mem_singleton.1 ht]; exact hv
    · simp -dsimp -implicitDefEqProofs only [go_sem, Nat.reduceBEq, Nat.reduceAdd, Nat.reduceLeDiff, Nat.reduceSub, Int.reduceEq, h0, h1, h7, h8, decide_eq_false hv, Bool.not_false]
      exact ⟨_, rfl, ⟨fun _ => ⟨_, List.getElem_mem hlt, hv⟩, fun _ => by omega⟩⟩
  · have : i = xs.length := by omega
    subst this
    rw [List.take_length] at hall
    simp -dsimp -implicitDefEqProofs only [go_sem, Nat.reduceBEq, Nat.reduceAdd, Nat.reduceLeDiff, Nat.reduceSub, Int.reduceEq, h0, h1, h7, h8]
    exact ⟨_, rfl, ⟨fun h => absurd h (by decide), fun ⟨t, ht, hv⟩ => absurd (hall t ht) hv⟩⟩
theorem c_containsFuncC (xs : List Cl) (hx : xs.length ≤ 1048576) (hb : ∀ c ∈ xs, c.f.length ≤ 1048576) :
    Meets Try.prog 102 [rowCl 151 xs, .v (.func (.func 103) #[] #[])] (fun r => r = .v (.bool (decide (¬ ∀ t ∈ xs, clD t)))) := by
  refine Meets.intro mixed (hint []) Try.func102 rfl (by decide) res_102 rty_102 (by kernel_rfl) ?_; 
  simp -dsimp -implicitDefEqProofs only [go_sem, Nat.reduceBEq, Nat.reduceAdd, Nat.reduceLeDiff, Nat.reduceSub, Int.reduceEq, rowCl]
  refine CallE.of (c_indexFuncC xs hx hb) (by rintro r ⟨k, rfl, _⟩; trivial) (by simp -dsimp -implicitDefEqProofs only [go_sem, Nat.reduceBEq, Nat.reduceAdd, Nat.reduceLeDiff, Nat.reduceSub, Int.reduceEq, rowCl]) ?_
  rintro r ⟨k, rfl, hk⟩
  simp -dsimp -implicitDefEqProofs only [go_sem, Nat.reduceBEq, Nat.reduceAdd, Nat.reduceLeDiff, Nat.reduceSub, Int.reduceEq]
  exact decide_eq_decide.2 ⟨fun h h' => by obtain ⟨t, ht, hv⟩ := hk.1 h; exact hv (h' t ht), fun h => hk.2 (Classical.byContradiction fun h' => h fun t ht => Classical.byContradiction fun hv => h' ⟨t, ht, hv⟩)⟩
set_option maxRecDepth 8000 in
theorem c_joinTexts (xs ys : List (List UInt8)) (hw : xs.length + wBB xs + (ys.length + wBB ys) ≤ 1048576) : Meets Try.prog 108 [rowBB xs, rowBB ys] (fun r => r = rowBB (xs ++ ys)) := by
  have hl : (xs ++ ys).length + wBB (xs ++ ys) ≤ 1048576 := by
    have e : wBB (xs ++ ys) = wBB xs + wBB ys := by simp [wBB, szL]
    rw [e, List.length_append]; omega
  refine Meets.intro mixed (hint []) Try.func108 rfl (by decide) res_108 rty_108 (by kernel_rfl) ?_; 
  simp -dsimp -implicitDefEqProofs only [go_sem, Nat.reduceBEq, Nat.reduceAdd, Nat.reduceLeDiff, Nat.reduceSub, Int.reduceEq]
  repeat (first | with_reducible refine ask.of (by first | omega | decide) ?_ | simp -dsimp -implicitDefEqProofs only [go_sem, Nat.reduceBEq, Nat.reduceAdd, Nat.reduceLeDiff, Nat.reduceSub, Int.reduceEq, initE])
  refine CallE.frz (c_concatBB [xs, ys] (by simp [lenS, szL]; omega)) (by rintro r rfl; (repeat' first | exact trivial | exact nf_byE _ | exact nf_bytes _ | exact rfl | refine And.intro ?_ ?_)) (by simp -dsimp -implicitDefEqProofs only [go_sem, Nat.reduceBEq, Nat.reduceAdd, Nat.reduceLeDiff, Nat.reduceSub, Int.reduceEq, rdC2, List.flatten_cons, List.flatten_nil, List.append_nil]) ?_
  rintro r rfl
  simp -dsimp -implicitDefEqProofs only [go_sem, Nat.reduceBEq, Nat.reduceAdd, Nat.reduceLeDiff, Nat.reduceSub, Int.reduceEq, rdC2, List.flatten_cons, List.flatten_nil, List.append_nil]
  repeat (first | with_reducible refine ask.of (by first | omega | decide) ?_ | simp -dsimp -implicitDefEqProofs only [go_sem, Nat.reduceBEq, Nat.reduceAdd, Nat.reduceLeDiff, Nat.reduceSub, Int.reduceEq, initE])
  refine CallE.of (c_textsCopyE (xs ++ ys) hl) (by rintro r rfl; (repeat' first | exact trivial | exact pure_rowB _ | exact pure_rowO _ | exact pure_rowI _ | exact pure_rowBB _ | exact pure_rowPk _ _ | exact pure_rowSn _ _ | exact pure_rowFd _ _ | exact pure_rowBBB _ | exact pure_rowCl _ _ | exact pure_rowTb _ _ _ | refine And.intro ?_ ?_)) (by simp -dsimp -implicitDefEqProofs only [go_sem, Nat.reduceBEq, Nat.reduceAdd, Nat.reduceLeDiff, Nat.reduceSub, Int.reduceEq]) ?_
  rintro r rfl
  simp -dsimp -implicitDefEqProofs only [go_sem, Nat.reduceBEq, Nat.reduceAdd, Nat.reduceLeDiff, Nat.reduceSub, Int.reduceEq]
  try rfl
end Go.Ev
set_option linter.unusedSimpArgs false
set_option linter.unusedVariables false
namespace Go.Ev
open Go Go.RowKit Go.Proofs
def mxC (a b : List (List UInt8)) : List (List AV) := [[.rd .ent 25 1 (ra byC a)], [.row 25 1 (ra byE b)]]
theorem mxC_0 (a b : List (List UInt8)) : (mxC a b)[0]? = some [.rd .ent 25 1 (ra byC a)] := rfl
theorem mxC_1 (a b : List (List UInt8)) : (mxC a b)[1]? = some [.row 25 1 (ra byE b)] := rfl
theorem mxC_0' (a b : List (List UInt8)) : (mxC a b)[(0 : Int).toNat]? = some [.rd .ent 25 1 (ra byC a)] := rfl
theorem mxC_1' (a b : List (List UInt8)) : (mxC a b)[(1 : Int).toNat]? = some [.row 25 1 (ra byE b)] := rfl
theorem mxC_len (a b : List (List UInt8)) : (mxC a b).length = 2 := rfl
def mxN (a b : List (List UInt8)) (i : Nat) : Nat := if i = 0 then 0 else if i = 1 then a.length else a.length + b.length
def mxL (a b : List (List UInt8)) (i : Nat) : List (List UInt8) := if i = 0 then [] else if i = 1 then a else a ++ b
theorem byE_asf (xs : List (List UInt8)) : (ra byE xs).map (List.map (AV.asrw .frz)) = ra byE xs := by simp [ra, byE, AV.asrw, Org.base]
theorem byE_app (xs ys : List (List UInt8)) : ra byE xs ++ ra byE ys = ra byE (xs ++ ys) := by simp [ra]
set_option maxRecDepth 8000 in
theorem c_concatM (a b : List (List UInt8)) (hx : a.length + b.length ≤ 4194304) : Meets Try.prog 107 [.rd .frz 39 1 (mxC a b)] (fun r => r = rowBE (a ++ b)) := by
  refine Meets.intro mixed (hint []) Try.func107 rfl (by decide) res_107 rty_107 (by kernel_rfl) ?_; 
  simp -dsimp -implicitDefEqProofs only [go_sem, Nat.reduceBEq, Nat.reduceAdd, Nat.reduceLeDiff, Nat.reduceSub, Int.reduceEq]
  refine LoopE.cnt 2 (fun i s => s.env 0 = .rd .frz 39 1 (mxC a b) ∧ s.env 3 = .v (.int .i64 (mxN a b i : Nat)) ∧ s.env 9 = .rd .frz 39 1 (mxC a b) ∧ s.env 10 = .v (.int .i64 (2 : Nat)) ∧ s.env 11 = .v (.int .i64 i)) ⟨by simp -dsimp -implicitDefEqProofs only [go_sem, Nat.reduceBEq, Nat.reduceAdd, Nat.reduceLeDiff, Nat.reduceSub, Int.reduceEq, initE], by simp -dsimp -implicitDefEqProofs only [go_sem, Nat.reduceBEq, Nat.reduceAdd, Nat.reduceLeDiff, Nat.reduceSub, Int.reduceEq] <;> rfl, by simp -dsimp -implicitDefEqProofs only [go_sem, Nat.reduceBEq, Nat.reduceAdd, Nat.reduceLeDiff, Nat.reduceSub, Int.reduceEq, initE], by simp -dsimp -implicitDefEqProofs only [go_sem, Nat.reduceBEq, Nat.reduceAdd, Nat.reduceLeDiff, Nat.reduceSub, Int.reduceEq, initE, mxC_len], by simp -dsimp -implicitDefEqProofs only [go_sem, Nat.reduceBEq, Nat.reduceAdd, Nat.reduceLeDiff, Nat.reduceSub, Int.reduceEq] <;> rfl⟩ ?_
  rintro i ⟨e, σ⟩ hi ⟨h0, h3, h9, h10, h11⟩ K hK
  simp only at h0 h3 h9 h10 h11
  simp -dsimp -implicitDefEqProofs only [go_sem, Nat.reduceBEq, Nat.reduceAdd, Nat.reduceLeDiff, Nat.reduceSub, Int.reduceEq, h0, h3, h9, h10, h11]
  refine ifB'.of (fun hlt => ?_) (fun hlt => ?_)
  · have hlt : i < 2 := by omega
    have hm := mxC_len a b
    rcases (show i = 0 ∨ i = 1 by omega) with rfl | rfl
    · have e1 : IntKind.i64.wrap ((mxN a b 0 : Nat) + (a.length : Int)) = (mxN a b (0 + 1) : Nat) := by
        show IntKind.i64.wrap (((0 : Nat) : Int) + (a.length : Int)) = (a.length : Int)
        rw [wrap_i64_of (by omega) (by omega)]; omega
      repeat (first | with_reducible refine ask.of (by first | omega | (rw [hm]; omega)) ?_ | simp -dsimp -implicitDefEqProofs only [go_sem, Nat.reduceBEq, Nat.reduceAdd, Nat.reduceLeDiff, Nat.reduceSub, Int.reduceEq, h0, h3, h9, h10, h11, mxC_0, mxC_0', e1, ra_length])
      with_reducible refine ifB'.no (by omega) ?_
      simp -dsimp -implicitDefEqProofs only [go_sem, Nat.reduceBEq, Nat.reduceAdd, Nat.reduceLeDiff, Nat.reduceSub, Int.reduceEq, h0, h3, h9, h10, h11]
      refine hK _ hlt ?_
      simp -dsimp -implicitDefEqProofs only [go_sem, Nat.reduceBEq, Nat.reduceAdd, Nat.reduceLeDiff, Nat.reduceSub, Int.reduceEq, h0, h3, h9, h10, h11, wrap_succ (show 0 < 4611686018427387904 by omega)]
      try decide
    · have e1 : IntKind.i64.wrap ((mxN a b 1 : Nat) + (b.length : Int)) = (mxN a b (1 + 1) : Nat) := by
        show IntKind.i64.wrap ((a.length : Int) + (b.length : Int)) = ((a.length + b.length : Nat) : Int)
        rw [wrap_i64_of (by omega) (by omega)]; omega
      have hn2 : (mxN a b (1 + 1) : Nat) = a.length + b.length := rfl
      repeat (first | with_reducible refine ask.of (by first | omega | (rw [hm]; omega)) ?_ | simp -dsimp -implicitDefEqProofs only [go_sem, Nat.reduceBEq, Nat.reduceAdd, Nat.reduceLeDiff, Nat.reduceSub, Int.reduceEq, h0, h3, h9, h10, h11, mxC_1, mxC_1', e1, ra_length])
      with_reducible refine ifB'.no (by omega) ?_
      simp -dsimp -implicitDefEqProofs only [go_sem, Nat.reduceBEq, Nat.reduceAdd, Nat.reduceLeDiff, Nat.reduceSub, Int.reduceEq, h0, h3, h9, h10, h11]
      refine hK _ hlt ?_
      simp -dsimp -implicitDefEqProofs only [go_sem, Nat.reduceBEq, Nat.reduceAdd, Nat.reduceLeDiff, Nat.reduceSub, Int.reduceEq, h0, h3, h9, h10, h11, wrap_succ (show 1 < 4611686018427387904 by omega)]
      try decide
  · have : i = 2 := by omega
    subst this
    have hn2 : (mxN a b 2 : Nat) = a.length + b.length := rfl
    rw [hn2] at h3
    simp -dsimp -implicitDefEqProofs only [go_sem, Nat.reduceBEq, Nat.reduceAdd, Nat.reduceLeDiff, Nat.reduceSub, Int.reduceEq, h0, h3, h9, h10, h11]
    refine CallE.lend (c_growBB (a.length + b.length) (by omega)) (by simp -dsimp -implicitDefEqProofs only [go_sem, Nat.reduceBEq, Nat.reduceAdd, Nat.reduceLeDiff, Nat.reduceSub, Int.reduceEq, h0, h3, h9, h10, h11]) ?_
    rintro r rfl
    simp -dsimp -implicitDefEqProofs only [go_sem, Nat.reduceBEq, Nat.reduceAdd, Nat.reduceLeDiff, Nat.reduceSub, Int.reduceEq, h0, h3, h9, h10, h11]
    refine LoopE.cnt 2 (fun i s => s.env 6 = .ref [24] ∧ s.env 25 = .rd .frz 39 1 (mxC a b) ∧ s.env 26 = .v (.int .i64 (2 : Nat)) ∧ s.env 27 = .v (.int .i64 i) ∧ s.σ [24] = some (.row 25 1 (ra byE (mxL a b i)))) ⟨by simp -dsimp -implicitDefEqProofs only [go_sem, Nat.reduceBEq, Nat.reduceAdd, Nat.reduceLeDiff, Nat.reduceSub, Int.reduceEq, h0, h3, h9, h10, h11], by simp -dsimp -implicitDefEqProofs only [go_sem, Nat.reduceBEq, Nat.reduceAdd, Nat.reduceLeDiff, Nat.reduceSub, Int.reduceEq, h0, h3, h9, h10, h11], by simp -dsimp -implicitDefEqProofs only [go_sem, Nat.reduceBEq, Nat.reduceAdd, Nat.reduceLeDiff, Nat.reduceSub, Int.reduceEq, h0, h3, h9, h10, h11, mxC_len] <;> rfl, by simp -dsimp -implicitDefEqProofs only [go_sem, Nat.reduceBEq, Nat.reduceAdd, Nat.reduceLeDiff, Nat.reduceSub, Int.reduceEq, h0, h3, h9, h10, h11] <;> rfl, by simp -dsimp -implicitDefEqProofs only [go_sem, Nat.reduceBEq, Nat.reduceAdd, Nat.reduceLeDiff, Nat.reduceSub, Int.reduceEq, h0, h3, h9, h10, h11] <;> rfl⟩ ?_
    rintro i ⟨e, σ⟩ hi ⟨h6, h25, h26, h27, hs⟩ K' hK'
    simp only at h6 h25 h26 h27 hs
    simp -dsimp -implicitDefEqProofs only [go_sem, Nat.reduceBEq, Nat.reduceAdd, Nat.reduceLeDiff, Nat.reduceSub, Int.reduceEq, h6, h25, h26, h27, hs]
    refine ifB'.of (fun hlt => ?_) (fun hlt => ?_)
    · have hlt : i < 2 := by omega
      have hm := mxC_len a b
      rcases (show i = 0 ∨ i = 1 by omega) with rfl | rfl
      · have hb0 : (mxL a b 0).length = 0 := rfl
        repeat (first | with_reducible refine ask.of (by first | omega | (rw [hm]; omega) | (simp only [ra_length]; omega)) ?_ | simp -dsimp -implicitDefEqProofs only [go_sem, Nat.reduceBEq, Nat.reduceAdd, Nat.reduceLeDiff, Nat.reduceSub, Int.reduceEq, h6, h25, h26, h27, hs, mxC_0, mxC_0', byE_asrw, ra_length])
        refine hK' _ hlt ?_
        simp -dsimp -implicitDefEqProofs only [go_sem, Nat.reduceBEq, Nat.reduceAdd, Nat.reduceLeDiff, Nat.reduceSub, Int.reduceEq, h6, h25, h26, h27, hs, wrap_succ (show 0 < 4611686018427387904 by omega), byE_asrw, byE_app]
        exact ⟨by decide, rfl⟩
      · have hb1 : (mxL a b 1).length = a.length := rfl
        repeat (first | with_reducible refine ask.of (by first | omega | (rw [hm]; omega) | (simp only [ra_length]; omega)) ?_ | simp -dsimp -implicitDefEqProofs only [go_sem, Nat.reduceBEq, Nat.reduceAdd, Nat.reduceLeDiff, Nat.reduceSub, Int.reduceEq, h6, h25, h26, h27, hs, mxC_1, mxC_1', byE_asf, ra_length])
        refine hK' _ hlt ?_
        simp -dsimp -implicitDefEqProofs only [go_sem, Nat.reduceBEq, Nat.reduceAdd, Nat.reduceLeDiff, Nat.reduceSub, Int.reduceEq, h6, h25, h26, h27, hs, wrap_succ (show 1 < 4611686018427387904 by omega), byE_asf, byE_app]
        exact ⟨by decide, rfl⟩
    · have : i = 2 := by omega
      subst this
      simp -dsimp -implicitDefEqProofs only [go_sem, Nat.reduceBEq, Nat.reduceAdd, Nat.reduceLeDiff, Nat.reduceSub, Int.reduceEq, h6, h25, h26, h27, hs]
      try rfl
end Go.Ev
set_option linter.unusedSimpArgs false
set_option linter.unusedVariables false
namespace Go.Ev
open Go Go.RowKit Go.Proofs
theorem c_joinTextsE (xs ys : List (List UInt8)) (hw : xs.length + wBB xs + (ys.length + wBB ys) ≤ 1048576) : Meets Try.prog 108 [rowBB xs, rowBE ys] (fun r => r = rowBB (xs ++ ys)) :=
  Meets.look (bs := [rowBB xs, rowBB ys]) ⟨Look.refl _, look_rowBE ys, trivial⟩ (c_joinTexts xs ys hw)
theorem frD_app (vs ds : List (List UInt8)) (b : List UInt8) : frD vs (ds ++ [b]) = if b ∈ vs then frD vs ds else frD vs ds ++ [b] := by
  unfold frD
  rw [List.filter_append]
  by_cases hm : b ∈ vs <;> simp [hm]
theorem cellsB_iff (cs : List Cl) : cellsB fdD cs ↔ cs.length ≤ 100 ∧ ∀ c ∈ cs, clD c := by
  unfold cellsB
  constructor
  · exact fun h => ⟨h.2.1, fun c hc => (clD_iff c).1 (h.2.2 c hc)⟩
  · exact fun h => ⟨by decide, h.1, fun c hc => (clD_iff c).2 (h.2 c hc)⟩
set_option maxRecDepth 8000 in
set_option maxHeartbeats 4000000 in
theorem c_implPlanDict (vs : List (List UInt8)) (cs : List Cl) (hvc : vs.length + wBB vs + (cs.length + szL clW cs) ≤ 1048576) : Meets Try.prog 27 [rowBB vs, rowCl 151 cs] (fun r => r = resPl (planL vs cs)) := by
  have hv : vs.length + wBB vs ≤ 1048576 := by omega
  have hc : cs.length + szL clW cs ≤ 1048576 := by omega
  have hcb : ∀ c ∈ cs, c.f.length ≤ 1048576 := fun c hm => by have := mem_szL clW hm; have e : clW c = c.f.length := rfl; omega
  refine Meets.intro mixed (hint [(95, 1001), (500095, 10)]) Try.func27 rfl (by decide) res_27 rty_27 (by kernel_rfl) ?_; 
  simp -dsimp -implicitDefEqProofs only [go_sem, Nat.reduceBEq, Nat.reduceAdd, Nat.reduceLeDiff, Nat.reduceSub, Int.reduceEq, rowCl]
  repeat (first | with_reducible refine ask.of (by first | omega | decide) ?_ | simp -dsimp -implicitDefEqProofs only [go_sem, Nat.reduceBEq, Nat.reduceAdd, Nat.reduceLeDiff, Nat.reduceSub, Int.reduceEq, initE, rowCl, bl3h])
  refine CallE.of (c_iValidDict vs hv) (by rintro r rfl; (repeat' first | exact trivial | exact pure_rowB _ | exact pure_rowO _ | exact pure_rowI _ | exact pure_rowBB _ | exact pure_rowPk _ _ | exact pure_rowSn _ _ | exact pure_rowFd _ _ | exact pure_rowBBB _ | exact pure_rowCl _ _ | exact pure_rowTb _ _ _ | refine And.intro ?_ ?_)) (by simp -dsimp -implicitDefEqProofs only [go_sem, Nat.reduceBEq, Nat.reduceAdd, Nat.reduceLeDiff, Nat.reduceSub, Int.reduceEq]) ?_
  rintro r rfl
  simp -dsimp -implicitDefEqProofs only [go_sem, Nat.reduceBEq, Nat.reduceAdd, Nat.reduceLeDiff, Nat.reduceSub, Int.reduceEq]
  by_cases h1 : okD vs
  · repeat (first | with_reducible refine ask.of (by first | omega | decide) ?_ | simp -dsimp -implicitDefEqProofs only [go_sem, Nat.reduceBEq, Nat.reduceAdd, Nat.reduceLeDiff, Nat.reduceSub, Int.reduceEq, decide_eq_true h1, Bool.not_true, initE, rowCl, bl3h])
    refine ifB'.of (fun h2 => ?_) (fun h2 => ?_)
    · rw [planL_no (fun h => by have := h.2.2.1; omega)]
      repeat (first | with_reducible refine ask.of (by first | omega | decide) ?_ | simp -dsimp -implicitDefEqProofs only [go_sem, Nat.reduceBEq, Nat.reduceAdd, Nat.reduceLeDiff, Nat.reduceSub, Int.reduceEq, Bool.not_true, initE, rowCl, bl3h])
      rfl
    repeat (first | with_reducible refine ask.of (by first | omega | decide) ?_ | simp -dsimp -implicitDefEqProofs only [go_sem, Nat.reduceBEq, Nat.reduceAdd, Nat.reduceLeDiff, Nat.reduceSub, Int.reduceEq, Bool.not_true, initE, rowCl, bl3h])
    have hF := c_containsFuncC cs (by omega) hcb
    by_cases h3 : ∀ t ∈ cs, clD t
    rotate_left
    · rw [planL_no (fun h => h3 ((cellsB_iff cs).1 h.2).2)]
      rw [decide_eq_true h3] at hF
      refine CallE.of (hF) (by rintro r rfl; (repeat' first | exact trivial | exact pure_rowB _ | exact pure_rowO _ | exact pure_rowI _ | exact pure_rowBB _ | exact pure_rowPk _ _ | exact pure_rowSn _ _ | exact pure_rowFd _ _ | exact pure_rowBBB _ | exact pure_rowCl _ _ | exact pure_rowTb _ _ _ | refine And.intro ?_ ?_)) (by simp -dsimp -implicitDefEqProofs only [go_sem, Nat.reduceBEq, Nat.reduceAdd, Nat.reduceLeDiff, Nat.reduceSub, Int.reduceEq, rowCl]) ?_
      rintro r rfl
      simp -dsimp -implicitDefEqProofs only [go_sem, Nat.reduceBEq, Nat.reduceAdd, Nat.reduceLeDiff, Nat.reduceSub, Int.reduceEq, rowCl]
      repeat (first | with_reducible refine ask.of (by first | omega | decide) ?_ | simp -dsimp -implicitDefEqProofs only [go_sem, Nat.reduceBEq, Nat.reduceAdd, Nat.reduceLeDiff, Nat.reduceSub, Int.reduceEq, ra_length, initE, rowCl, bl3h, Bool.not_true, Bool.not_false])
      rfl
    rw [decide_eq_false (fun h => h h3)] at hF
    refine CallE.of (hF) (by rintro r rfl; (repeat' first | exact trivial | exact pure_rowB _ | exact pure_rowO _ | exact pure_rowI _ | exact pure_rowBB _ | exact pure_rowPk _ _ | exact pure_rowSn _ _ | exact pure_rowFd _ _ | exact pure_rowBBB _ | exact pure_rowCl _ _ | exact pure_rowTb _ _ _ | refine And.intro ?_ ?_)) (by simp -dsimp -implicitDefEqProofs only [go_sem, Nat.reduceBEq, Nat.reduceAdd, Nat.reduceLeDiff, Nat.reduceSub, Int.reduceEq, rowCl]) ?_
    rintro r rfl
    simp -dsimp -implicitDefEqProofs only [go_sem, Nat.reduceBEq, Nat.reduceAdd, Nat.reduceLeDiff, Nat.reduceSub, Int.reduceEq, rowCl]
    have h2' : cellsB fdD cs := (cellsB_iff cs).2 ⟨by omega, h3⟩
    have hdc : ∀ i, i ≤ cs.length → (dst (cs.take i)).length ≤ i := dst_len cs
    have hdm : ∀ i, i ≤ cs.length → ∀ b ∈ dst (cs.take i), b.length ≤ 1048576 := fun i hi b hb => by obtain ⟨c, hc, rfl⟩ := dst_mem hi hb; exact hcb c hc
    have hvb : ∀ b ∈ vs, b.length ≤ 1048576 := fun b hb => by have := mem_szL List.length hb; have e : szL List.length vs = wBB vs := rfl; omega
    repeat (first | with_reducible refine ask.of (by first | omega | decide) ?_ | simp -dsimp -implicitDefEqProofs only [go_sem, Nat.reduceBEq, Nat.reduceAdd, Nat.reduceLeDiff, Nat.reduceSub, Int.reduceEq, ra_length, initE, rowCl, bl3h, Bool.not_true, Bool.not_false])
    refine LoopE.cnt vs.length (fun i s => s.env 0 = .rd .ent 25 1 (ra byC vs) ∧ s.env 4 = .ptr [4] 0 0 0 ∧ s.env 6 = .ref [30] ∧ s.env 1 = .rd .ent 151 3 (ra clC cs) ∧ s.env 31 = .rd .ent 25 1 (ra byC vs) ∧ s.env 32 = .v (.int .i64 vs.length) ∧ s.env 33 = .v (.int .i64 i) ∧ s.σ [4] = some (.box 44 [.v (.int .i64 0), .v (.slice none 0 0), .v (.slice none 0 0)]) ∧ s.σ [30] = some (.mp .string 3 (mpS (ixP (vs.take i))))) ⟨by simp -dsimp -implicitDefEqProofs only [go_sem, Nat.reduceBEq, Nat.reduceAdd, Nat.reduceLeDiff, Nat.reduceSub, Int.reduceEq, initE], by simp -dsimp -implicitDefEqProofs only [go_sem, Nat.reduceBEq, Nat.reduceAdd, Nat.reduceLeDiff, Nat.reduceSub, Int.reduceEq], by simp -dsimp -implicitDefEqProofs only [go_sem, Nat.reduceBEq, Nat.reduceAdd, Nat.reduceLeDiff, Nat.reduceSub, Int.reduceEq], by simp -dsimp -implicitDefEqProofs only [go_sem, Nat.reduceBEq, Nat.reduceAdd, Nat.reduceLeDiff, Nat.reduceSub, Int.reduceEq, initE, rowCl], by simp -dsimp -implicitDefEqProofs only [go_sem, Nat.reduceBEq, Nat.reduceAdd, Nat.reduceLeDiff, Nat.reduceSub, Int.reduceEq, initE], by simp -dsimp -implicitDefEqProofs only [go_sem, Nat.reduceBEq, Nat.reduceAdd, Nat.reduceLeDiff, Nat.reduceSub, Int.reduceEq, initE], by simp -dsimp -implicitDefEqProofs only [go_sem, Nat.reduceBEq, Nat.reduceAdd, Nat.reduceLeDiff, Nat.reduceSub, Int.reduceEq] <;> rfl, by simp -dsimp -implicitDefEqProofs only [go_sem, Nat.reduceBEq, Nat.reduceAdd, Nat.reduceLeDiff, Nat.reduceSub, Int.reduceEq], by simp -dsimp -implicitDefEqProofs only [go_sem, Nat.reduceBEq, Nat.reduceAdd, Nat.reduceLeDiff, Nat.reduceSub, Int.reduceEq] <;> rfl⟩ ?_
    rintro i ⟨e, σ⟩ hi ⟨g0, g4, g6, g1, g31, g32, g33, s4, s30⟩ K hK
    simp only at g0 g4 g6 g1 g31 g32 g33 s4 s30
    simp -dsimp -implicitDefEqProofs only [go_sem, Nat.reduceBEq, Nat.reduceAdd, Nat.reduceLeDiff, Nat.reduceSub, Int.reduceEq, g0, g4, g6, g1, g31, g32, g33, s4, s30]
    refine ifB'.of (fun hlt => ?_) (fun hlt => ?_)
    · have hlt : i < vs.length := by omega
      have hq : vs[i] ∉ vs.take i := ((nodup_take_succ hlt).1 (nodup_take h1.2.2 (i + 1))).2
      have hp := ixP_put hq
      rw [show (vs.take i).length = i by simp; omega, ← take_succ hlt] at hp
      repeat (first | with_reducible refine ask.of (by first | omega | decide) ?_ | simp -dsimp -implicitDefEqProofs only [go_sem, Nat.reduceBEq, Nat.reduceAdd, Nat.reduceLeDiff, Nat.reduceSub, Int.reduceEq, g0, g4, g6, g1, g31, g32, g33, s4, s30, byA_at hlt, hp])
      refine hK _ hlt ?_
      simp -dsimp -implicitDefEqProofs only [go_sem, Nat.reduceBEq, Nat.reduceAdd, Nat.reduceLeDiff, Nat.reduceSub, Int.reduceEq, g0, g4, g6, g1, g31, g32, g33, s4, s30, wrap_succ (show i < 4611686018427387904 by omega)]
    have hi' : i = vs.length := by omega
    subst hi'
    rw [List.take_length] at s30
    repeat (first | with_reducible refine ask.of (by first | omega | decide) ?_ | simp -dsimp -implicitDefEqProofs only [go_sem, Nat.reduceBEq, Nat.reduceAdd, Nat.reduceLeDiff, Nat.reduceSub, Int.reduceEq, g0, g4, g6, g1, g31, g32, g33, s4, s30, ra_length, initE, rowCl, bl3h, Bool.not_true, Bool.not_false])
    refine LoopE.cnt cs.length (fun i s => s.env 0 = .rd .ent 25 1 (ra byC vs) ∧ s.env 4 = .ptr [4] 0 0 0 ∧ s.env 6 = .ref [30] ∧ s.env 9 = .ref [43] ∧ s.env 10 = .ref [44] ∧ s.env 45 = .rd .ent 151 3 (ra clC cs) ∧ s.env 46 = .v (.int .i64 cs.length) ∧ s.env 47 = .v (.int .i64 i) ∧ s.σ [4] = some (.box 44 [.v (.int .i64 0), .v (.slice none 0 0), .v (.slice none 0 0)]) ∧ s.σ [30] = some (.mp .string 3 (mpS (ixP vs))) ∧ s.σ [43] = some (.row 25 1 (ra byE (dst (cs.take i)))) ∧ s.σ [44] = some (.row 25 1 (ra byE (frD vs (dst (cs.take i)))))) ⟨by simp -dsimp -implicitDefEqProofs only [go_sem, Nat.reduceBEq, Nat.reduceAdd, Nat.reduceLeDiff, Nat.reduceSub, Int.reduceEq, g0, g4, g6, g1, g31, g32, g33, s4, s30], by simp -dsimp -implicitDefEqProofs only [go_sem, Nat.reduceBEq, Nat.reduceAdd, Nat.reduceLeDiff, Nat.reduceSub, Int.reduceEq, g0, g4, g6, g1, g31, g32, g33, s4, s30], by simp -dsimp -implicitDefEqProofs only [go_sem, Nat.reduceBEq, Nat.reduceAdd, Nat.reduceLeDiff, Nat.reduceSub, Int.reduceEq, g0, g4, g6, g1, g31, g32, g33, s4, s30], by simp -dsimp -implicitDefEqProofs only [go_sem, Nat.reduceBEq, Nat.reduceAdd, Nat.reduceLeDiff, Nat.reduceSub, Int.reduceEq, g0, g4, g6, g1, g31, g32, g33, s4, s30], by simp -dsimp -implicitDefEqProofs only [go_sem, Nat.reduceBEq, Nat.reduceAdd, Nat.reduceLeDiff, Nat.reduceSub, Int.reduceEq, g0, g4, g6, g1, g31, g32, g33, s4, s30], by simp -dsimp -implicitDefEqProofs only [go_sem, Nat.reduceBEq, Nat.reduceAdd, Nat.reduceLeDiff, Nat.reduceSub, Int.reduceEq, g0, g4, g6, g1, g31, g32, g33, s4, s30], by simp -dsimp -implicitDefEqProofs only [go_sem, Nat.reduceBEq, Nat.reduceAdd, Nat.reduceLeDiff, Nat.reduceSub, Int.reduceEq, g0, g4, g6, g1, g31, g32, g33, s4, s30], by simp -dsimp -implicitDefEqProofs only [go_sem, Nat.reduceBEq, Nat.reduceAdd, Nat.reduceLeDiff, Nat.reduceSub, Int.reduceEq, g0, g4, g6, g1, g31, g32, g33, s4, s30] <;> rfl, by simp -dsimp -implicitDefEqProofs only [go_sem, Nat.reduceBEq, Nat.reduceAdd, Nat.reduceLeDiff, Nat.reduceSub, Int.reduceEq, g0, g4, g6, g1, g31, g32, g33, s4, s30], by simp -dsimp -implicitDefEqProofs only [go_sem, Nat.reduceBEq, Nat.reduceAdd, Nat.reduceLeDiff, Nat.reduceSub, Int.reduceEq, g0, g4, g6, g1, g31, g32, g33, s4, s30], by simp -dsimp -implicitDefEqProofs only [go_sem, Nat.reduceBEq, Nat.reduceAdd, Nat.reduceLeDiff, Nat.reduceSub, Int.reduceEq, g0, g4, g6, g1, g31, g32, g33, s4, s30] <;> rfl, by simp -dsimp -implicitDefEqProofs only [go_sem, Nat.reduceBEq, Nat.reduceAdd, Nat.reduceLeDiff, Nat.reduceSub, Int.reduceEq, g0, g4, g6, g1, g31, g32, g33, s4, s30] <;> rfl⟩ ?_
    clear hK
    rintro i ⟨e2, σ2⟩ hi ⟨k0, k4, k6, k9, k10, k45, k46, k47, t4, t30, t43, t44⟩ K2 hK
    simp only at k0 k4 k6 k9 k10 k45 k46 k47 t4 t30 t43 t44
    simp -dsimp -implicitDefEqProofs only [go_sem, Nat.reduceBEq, Nat.reduceAdd, Nat.reduceLeDiff, Nat.reduceSub, Int.reduceEq, k0, k4, k6, k9, k10, k45, k46, k47, t4, t30, t43, t44]
    refine ifB'.of (fun hlt => ?_) (fun hlt => ?_)
    · have hlt : i < cs.length := by omega
      repeat (first | with_reducible refine ask.of (by first | omega | decide) ?_ | simp -dsimp -implicitDefEqProofs only [go_sem, Nat.reduceBEq, Nat.reduceAdd, Nat.reduceLeDiff, Nat.reduceSub, Int.reduceEq, k0, k4, k6, k9, k10, k45, k46, k47, t4, t30, t43, t44, Cl_at hlt, clC, bl3h])
      cases hz : cs[i].z
      · simp -dsimp -implicitDefEqProofs only [go_sem, Nat.reduceBEq, Nat.reduceAdd, Nat.reduceLeDiff, Nat.reduceSub, Int.reduceEq, k0, k4, k6, k9, k10, k45, k46, k47, t4, t30, t43, t44, hz]
        have hdl := hdc i hi
        have hdb := hdm i hi
        have hfc := hcb _ (List.getElem_mem hlt)
        have hfl : (frD vs (dst (cs.take i))).length ≤ i := Nat.le_trans (frD_len _ _) hdl
        have hyes : cs[i].f ∉ dst (cs.take i) → dst (cs.take (i + 1)) = dst (cs.take i) ++ [cs[i].f] := fun hn => (dst_succ hlt).trans (dstep_yes ⟨hz, hn⟩)
        have hno : ¬ cs[i].f ∉ dst (cs.take i) → dst (cs.take (i + 1)) = dst (cs.take i) := fun hn => (dst_succ hlt).trans (dstep_no (fun h => hn h.2))
        generalize hds : dst (cs.take i) = ds at *
        refine LoopE.cnt ds.length (fun j s => s.env 0 = .rd .ent 25 1 (ra byC vs) ∧ s.env 4 = .ptr [4] 0 0 0 ∧ s.env 6 = .ref [30] ∧ s.env 9 = .ref [43] ∧ s.env 10 = .ref [44] ∧ s.env 12 = .ptr [12] 0 0 0 ∧ s.env 45 = .rd .ent 151 3 (ra clC cs) ∧ s.env 46 = .v (.int .i64 cs.length) ∧ s.env 47 = .v (.int .i64 i) ∧ s.env 53 = .ref [43] ∧ s.env 54 = .v (.int .i64 ds.length) ∧ s.env 55 = .v (.int .i64 j) ∧ s.σ [4] = some (.box 44 [.v (.int .i64 0), .v (.slice none 0 0), .v (.slice none 0 0)]) ∧ s.σ [12] = some (.box 151 [.v (.bool false), .v (.int .i64 cs[i].i), .rd .ent 5 1 (bytesA cs[i].f)]) ∧ s.σ [30] = some (.mp .string 3 (mpS (ixP vs))) ∧ s.σ [43] = some (.row 25 1 (ra byE ds)) ∧ s.σ [44] = some (.row 25 1 (ra byE (frD vs ds))) ∧ cs[i].f ∉ ds.take j) ⟨by simp -dsimp -implicitDefEqProofs only [go_sem, Nat.reduceBEq, Nat.reduceAdd, Nat.reduceLeDiff, Nat.reduceSub, Int.reduceEq, k0, k4, k6, k9, k10, k45, k46, k47, t4, t30, t43, t44], by simp -dsimp -implicitDefEqProofs only [go_sem, Nat.reduceBEq, Nat.reduceAdd, Nat.reduceLeDiff, Nat.reduceSub, Int.reduceEq, k0, k4, k6, k9, k10, k45, k46, k47, t4, t30, t43, t44], by simp -dsimp -implicitDefEqProofs only [go_sem, Nat.reduceBEq, Nat.reduceAdd, Nat.reduceLeDiff, Nat.reduceSub, Int.reduceEq, k0, k4, k6, k9, k10, k45, k46, k47, t4, t30, t43, t44], by simp -dsimp -implicitDefEqProofs only [go_sem, Nat.reduceBEq, Nat.reduceAdd, Nat.reduceLeDiff, Nat.reduceSub, Int.reduceEq, k0, k4, k6, k9, k10, k45, k46, k47, t4, t30, t43, t44], by simp -dsimp -implicitDefEqProofs only [go_sem, Nat.reduceBEq, Nat.reduceAdd, Nat.reduceLeDiff, Nat.reduceSub, Int.reduceEq, k0, k4, k6, k9, k10, k45, k46, k47, t4, t30, t43, t44], by simp -dsimp -implicitDefEqProofs only [go_sem, Nat.reduceBEq, Nat.reduceAdd, Nat.reduceLeDiff, Nat.reduceSub, Int.reduceEq, k0, k4, k6, k9, k10, k45, k46, k47, t4, t30, t43, t44], by simp -dsimp -implicitDefEqProofs only [go_sem, Nat.reduceBEq, Nat.reduceAdd, Nat.reduceLeDiff, Nat.reduceSub, Int.reduceEq, k0, k4, k6, k9, k10, k45, k46, k47, t4, t30, t43, t44], by simp -dsimp -implicitDefEqProofs only [go_sem, Nat.reduceBEq, Nat.reduceAdd, Nat.reduceLeDiff, Nat.reduceSub, Int.reduceEq, k0, k4, k6, k9, k10, k45, k46, k47, t4, t30, t43, t44], by simp -dsimp -implicitDefEqProofs only [go_sem, Nat.reduceBEq, Nat.reduceAdd, Nat.reduceLeDiff, Nat.reduceSub, Int.reduceEq, k0, k4, k6, k9, k10, k45, k46, k47, t4, t30, t43, t44], by simp -dsimp -implicitDefEqProofs only [go_sem, Nat.reduceBEq, Nat.reduceAdd, Nat.reduceLeDiff, Nat.reduceSub, Int.reduceEq, k0, k4, k6, k9, k10, k45, k46, k47, t4, t30, t43, t44], by simp -dsimp -implicitDefEqProofs only [go_sem, Nat.reduceBEq, Nat.reduceAdd, Nat.reduceLeDiff, Nat.reduceSub, Int.reduceEq, k0, k4, k6, k9, k10, k45, k46, k47, t4, t30, t43, t44, ra_length], by simp -dsimp -implicitDefEqProofs only [go_sem, Nat.reduceBEq, Nat.reduceAdd, Nat.reduceLeDiff, Nat.reduceSub, Int.reduceEq, k0, k4, k6, k9, k10, k45, k46, k47, t4, t30, t43, t44] <;> rfl, by simp -dsimp -implicitDefEqProofs only [go_sem, Nat.reduceBEq, Nat.reduceAdd, Nat.reduceLeDiff, Nat.reduceSub, Int.reduceEq, k0, k4, k6, k9, k10, k45, k46, k47, t4, t30, t43, t44], by simp -dsimp -implicitDefEqProofs only [go_sem, Nat.reduceBEq, Nat.reduceAdd, Nat.reduceLeDiff, Nat.reduceSub, Int.reduceEq, k0, k4, k6, k9, k10, k45, k46, k47, t4, t30, t43, t44, hz] <;> rfl, by simp -dsimp -implicitDefEqProofs only [go_sem, Nat.reduceBEq, Nat.reduceAdd, Nat.reduceLeDiff, Nat.reduceSub, Int.reduceEq, k0, k4, k6, k9, k10, k45, k46, k47, t4, t30, t43, t44], by simp -dsimp -implicitDefEqProofs only [go_sem, Nat.reduceBEq, Nat.reduceAdd, Nat.reduceLeDiff, Nat.reduceSub, Int.reduceEq, k0, k4, k6, k9, k10, k45, k46, k47, t4, t30, t43, t44], by simp -dsimp -implicitDefEqProofs only [go_sem, Nat.reduceBEq, Nat.reduceAdd, Nat.reduceLeDiff, Nat.reduceSub, Int.reduceEq, k0, k4, k6, k9, k10, k45, k46, k47, t4, t30, t43, t44], by simp⟩ ?_
        rintro j ⟨e3, σ3⟩ hj ⟨l0, l4, l6, l9, l10, l12, l45, l46, l47, l53, l54, l55, u4, u12, u30, u43, u44, hnot⟩ K3 hK3
        simp only at l0 l4 l6 l9 l10 l12 l45 l46 l47 l53 l54 l55 u4 u12 u30 u43 u44
        simp -dsimp -implicitDefEqProofs only [go_sem, Nat.reduceBEq, Nat.reduceAdd, Nat.reduceLeDiff, Nat.reduceSub, Int.reduceEq, l0, l4, l6, l9, l10, l12, l45, l46, l47, l53, l54, l55, u4, u12, u30, u43, u44]
        refine ifB'.of (fun hjt => ?_) (fun hjt => ?_)
        · have hjt : j < ds.length := by omega
          have hjb := hdb _ (List.getElem_mem hjt)
          repeat (first | with_reducible refine ask.of (by first | omega | decide) ?_ | simp -dsimp -implicitDefEqProofs only [go_sem, Nat.reduceBEq, Nat.reduceAdd, Nat.reduceLeDiff, Nat.reduceSub, Int.reduceEq, l0, l4, l6, l9, l10, l12, l45, l46, l47, l53, l54, l55, u4, u12, u30, u43, u44, byE_at hjt, bl3h])
          refine CallE.of (c_bytesEqual ds[j] cs[i].f (by omega) (by omega)) (by rintro r rfl; (repeat' first | exact trivial | exact pure_rowB _ | exact pure_rowO _ | exact pure_rowI _ | exact pure_rowBB _ | exact pure_rowPk _ _ | exact pure_rowSn _ _ | exact pure_rowFd _ _ | exact pure_rowBBB _ | exact pure_rowCl _ _ | exact pure_rowTb _ _ _ | refine And.intro ?_ ?_)) (by simp -dsimp -implicitDefEqProofs only [go_sem, Nat.reduceBEq, Nat.reduceAdd, Nat.reduceLeDiff, Nat.reduceSub, Int.reduceEq, l0, l4, l6, l9, l10, l12, l45, l46, l47, l53, l54, l55, u4, u12, u30, u43, u44]) ?_
          rintro r rfl
          simp -dsimp -implicitDefEqProofs only [go_sem, Nat.reduceBEq, Nat.reduceAdd, Nat.reduceLeDiff, Nat.reduceSub, Int.reduceEq, l0, l4, l6, l9, l10, l12, l45, l46, l47, l53, l54, l55, u4, u12, u30, u43, u44]
          refine ifB'.of (fun hq => ?_) (fun hq => ?_)
          · have hm : ¬ cs[i].f ∉ ds := fun h => h (hq ▸ List.getElem_mem hjt)
            simp -dsimp -implicitDefEqProofs only [go_sem, Nat.reduceBEq, Nat.reduceAdd, Nat.reduceLeDiff, Nat.reduceSub, Int.reduceEq, l0, l4, l6, l9, l10, l12, l45, l46, l47, l53, l54, l55, u4, u12, u30, u43, u44]
            refine hK _ hlt ?_
            simp -dsimp -implicitDefEqProofs only [go_sem, Nat.reduceBEq, Nat.reduceAdd, Nat.reduceLeDiff, Nat.reduceSub, Int.reduceEq, l0, l4, l6, l9, l10, l12, l45, l46, l47, l53, l54, l55, u4, u12, u30, u43, u44, wrap_succ (show i < 4611686018427387904 by omega), hno hm]
          · simp -dsimp -implicitDefEqProofs only [go_sem, Nat.reduceBEq, Nat.reduceAdd, Nat.reduceLeDiff, Nat.reduceSub, Int.reduceEq, l0, l4, l6, l9, l10, l12, l45, l46, l47, l53, l54, l55, u4, u12, u30, u43, u44]
            refine hK3 _ hjt ?_
            simp -dsimp -implicitDefEqProofs only [go_sem, Nat.reduceBEq, Nat.reduceAdd, Nat.reduceLeDiff, Nat.reduceSub, Int.reduceEq, l0, l4, l6, l9, l10, l12, l45, l46, l47, l53, l54, l55, u4, u12, u30, u43, u44, wrap_succ (show j < 4611686018427387904 by omega)]
            intro hm
            rw [List.take_succ_eq_append_getElem hjt] at hm
            rcases List.mem_append.1 hm with hm | hm
            · exact hnot hm
            · exact hq (List.mem_singleton.1 hm).symm
        · have hj' : j = ds.length := by omega
          subst hj'
          rw [List.take_length] at hnot
          repeat (first | with_reducible refine ask.of (by first | omega | decide | (simp only [ra_length, List.length_cons, List.length_nil]; omega)) ?_ | simp -dsimp -implicitDefEqProofs only [go_sem, Nat.reduceBEq, Nat.reduceAdd, Nat.reduceLeDiff, Nat.reduceSub, Int.reduceEq, l0, l4, l6, l9, l10, l12, l45, l46, l47, l53, l54, l55, u4, u12, u30, u43, u44, byE_snoc, bl3h, ixP_has])
          refine ifB'.of (fun hm => ?_) (fun hm => ?_)
          · repeat (first | with_reducible refine ask.of (by first | omega | decide | (simp only [ra_length, List.length_cons, List.length_nil]; omega)) ?_ | simp -dsimp -implicitDefEqProofs only [go_sem, Nat.reduceBEq, Nat.reduceAdd, Nat.reduceLeDiff, Nat.reduceSub, Int.reduceEq, l0, l4, l6, l9, l10, l12, l45, l46, l47, l53, l54, l55, u4, u12, u30, u43, u44, byE_snoc, bl3h])
            refine hK _ hlt ?_
            simp -dsimp -implicitDefEqProofs only [go_sem, Nat.reduceBEq, Nat.reduceAdd, Nat.reduceLeDiff, Nat.reduceSub, Int.reduceEq, l0, l4, l6, l9, l10, l12, l45, l46, l47, l53, l54, l55, u4, u12, u30, u43, u44, wrap_succ (show i < 4611686018427387904 by omega), hyes hnot, frD_app, if_pos hm]
          · repeat (first | with_reducible refine ask.of (by first | omega | decide | (simp only [ra_length, List.length_cons, List.length_nil]; omega)) ?_ | simp -dsimp -implicitDefEqProofs only [go_sem, Nat.reduceBEq, Nat.reduceAdd, Nat.reduceLeDiff, Nat.reduceSub, Int.reduceEq, l0, l4, l6, l9, l10, l12, l45, l46, l47, l53, l54, l55, u4, u12, u30, u43, u44, byE_snoc, bl3h])
            refine hK _ hlt ?_
            simp -dsimp -implicitDefEqProofs only [go_sem, Nat.reduceBEq, Nat.reduceAdd, Nat.reduceLeDiff, Nat.reduceSub, Int.reduceEq, l0, l4, l6, l9, l10, l12, l45, l46, l47, l53, l54, l55, u4, u12, u30, u43, u44, wrap_succ (show i < 4611686018427387904 by omega), hyes hnot, frD_app, if_neg hm]
      · have hno : dstep (dst (cs.take i)) cs[i] = dst (cs.take i) := dstep_no (fun h => by rw [hz] at h; cases h.1)
        simp -dsimp -implicitDefEqProofs only [go_sem, Nat.reduceBEq, Nat.reduceAdd, Nat.reduceLeDiff, Nat.reduceSub, Int.reduceEq, k0, k4, k6, k9, k10, k45, k46, k47, t4, t30, t43, t44, hz]
        refine hK _ hlt ?_
        simp -dsimp -implicitDefEqProofs only [go_sem, Nat.reduceBEq, Nat.reduceAdd, Nat.reduceLeDiff, Nat.reduceSub, Int.reduceEq, k0, k4, k6, k9, k10, k45, k46, k47, t4, t30, t43, t44, wrap_succ (show i < 4611686018427387904 by omega), dst_succ hlt, hno]
    · have hi' : i = cs.length := by omega
      subst hi'
      rw [List.take_length] at t43 t44
      have hpl := planL_old (vs := vs) (cs := cs) ⟨h1, h2'⟩
      have hpa := planL_add (vs := vs) (cs := cs) ⟨h1, h2'⟩
      have hpn := planL_new (vs := vs) (cs := cs) ⟨h1, h2'⟩
      have hpf := planL_full (vs := vs) (cs := cs) ⟨h1, h2'⟩
      have hdl : (dst cs).length ≤ cs.length := by have := hdc cs.length (Nat.le_refl _); rwa [List.take_length] at this
      have hdw : wBB (dst cs) ≤ szL clW cs := by have := dst_wBB cs cs.length (Nat.le_refl _); rwa [List.take_length] at this
      clear hdc hdm
      generalize planL vs cs = pl at *
      generalize dst cs = ds at *
      have hfd := frD_len vs ds
      have hfw := frD_wBB vs ds
      generalize frD vs ds = fr at *
      repeat (first | with_reducible refine ask.of (by first | omega | decide) ?_ | simp -dsimp -implicitDefEqProofs only [go_sem, Nat.reduceBEq, Nat.reduceAdd, Nat.reduceLeDiff, Nat.reduceSub, Int.reduceEq, k0, k4, k6, k9, k10, k45, k46, k47, t4, t30, t43, t44, ra_length, initE, rowCl, bl3h, Bool.not_true, Bool.not_false])
      refine ifB'.of (fun h => ?_) (fun h => ?_)
      · have hf0 : fr = [] := List.eq_nil_of_length_eq_zero (by omega)
        rw [hpl hf0]
        repeat (first | with_reducible refine ask.of (by first | omega | decide) ?_ | simp -dsimp -implicitDefEqProofs only [go_sem, Nat.reduceBEq, Nat.reduceAdd, Nat.reduceLeDiff, Nat.reduceSub, Int.reduceEq, k0, k4, k6, k9, k10, k45, k46, k47, t4, t30, t43, t44, ra_length, initE, rowCl, bl3h, Bool.not_true, Bool.not_false])
        refine CallE.of (c_textsCopy vs hv) (by rintro r rfl; (repeat' first | exact trivial | exact pure_rowB _ | exact pure_rowO _ | exact pure_rowI _ | exact pure_rowBB _ | exact pure_rowPk _ _ | exact pure_rowSn _ _ | exact pure_rowFd _ _ | exact pure_rowBBB _ | exact pure_rowCl _ _ | exact pure_rowTb _ _ _ | refine And.intro ?_ ?_)) (by simp -dsimp -implicitDefEqProofs only [go_sem, Nat.reduceBEq, Nat.reduceAdd, Nat.reduceLeDiff, Nat.reduceSub, Int.reduceEq, k0, k4, k6, k9, k10, k45, k46, k47, t4, t30, t43, t44]) ?_
        rintro r rfl
        simp -dsimp -implicitDefEqProofs only [go_sem, Nat.reduceBEq, Nat.reduceAdd, Nat.reduceLeDiff, Nat.reduceSub, Int.reduceEq, k0, k4, k6, k9, k10, k45, k46, k47, t4, t30, t43, t44]
        repeat (first | with_reducible refine ask.of (by first | omega | decide) ?_ | simp -dsimp -implicitDefEqProofs only [go_sem, Nat.reduceBEq, Nat.reduceAdd, Nat.reduceLeDiff, Nat.reduceSub, Int.reduceEq, k0, k4, k6, k9, k10, k45, k46, k47, t4, t30, t43, t44, ra_length, initE, rowCl, bl3h, Bool.not_true, Bool.not_false])
        rfl
      have hf0 : ¬ fr = [] := fun h' => h (by rw [h']; rfl)
      have hw : wBB (vs ++ fr) = wBB vs + wBB fr := by simp [wBB, szL]
      have hl : (vs ++ fr).length = vs.length + fr.length := List.length_append
      repeat (first | with_reducible refine ask.of (by first | omega | decide) ?_ | simp -dsimp -implicitDefEqProofs only [go_sem, Nat.reduceBEq, Nat.reduceAdd, Nat.reduceLeDiff, Nat.reduceSub, Int.reduceEq, k0, k4, k6, k9, k10, k45, k46, k47, t4, t30, t43, t44, ra_length, initE, rowCl, bl3h, Bool.not_true, Bool.not_false])
      refine CallE.frz (c_concatM vs fr (by omega)) (by rintro r rfl; (repeat' first | exact trivial | exact nf_byE _ | exact nf_bytes _ | exact rfl | refine And.intro ?_ ?_)) (by simp -dsimp -implicitDefEqProofs only [go_sem, Nat.reduceBEq, Nat.reduceAdd, Nat.reduceLeDiff, Nat.reduceSub, Int.reduceEq, k0, k4, k6, k9, k10, k45, k46, k47, t4, t30, t43, t44, mxC]) ?_
      rintro r rfl
      simp -dsimp -implicitDefEqProofs only [go_sem, Nat.reduceBEq, Nat.reduceAdd, Nat.reduceLeDiff, Nat.reduceSub, Int.reduceEq, k0, k4, k6, k9, k10, k45, k46, k47, t4, t30, t43, t44, mxC]
      repeat (first | with_reducible refine ask.of (by first | omega | decide) ?_ | simp -dsimp -implicitDefEqProofs only [go_sem, Nat.reduceBEq, Nat.reduceAdd, Nat.reduceLeDiff, Nat.reduceSub, Int.reduceEq, k0, k4, k6, k9, k10, k45, k46, k47, t4, t30, t43, t44, ra_length, initE, rowCl, bl3h, Bool.not_true, Bool.not_false])
      have hV := c_iValidDictE (vs ++ fr) (by omega)
      by_cases h4 : okD (vs ++ fr)
      · rw [hpa hf0 h4]
        rw [decide_eq_true h4] at hV
        refine CallE.of (hV) (by rintro r rfl; (repeat' first | exact trivial | exact pure_rowB _ | exact pure_rowO _ | exact pure_rowI _ | exact pure_rowBB _ | exact pure_rowPk _ _ | exact pure_rowSn _ _ | exact pure_rowFd _ _ | exact pure_rowBBB _ | exact pure_rowCl _ _ | exact pure_rowTb _ _ _ | refine And.intro ?_ ?_)) (by simp -dsimp -implicitDefEqProofs only [go_sem, Nat.reduceBEq, Nat.reduceAdd, Nat.reduceLeDiff, Nat.reduceSub, Int.reduceEq, k0, k4, k6, k9, k10, k45, k46, k47, t4, t30, t43, t44]) ?_
        rintro r rfl
        simp -dsimp -implicitDefEqProofs only [go_sem, Nat.reduceBEq, Nat.reduceAdd, Nat.reduceLeDiff, Nat.reduceSub, Int.reduceEq, k0, k4, k6, k9, k10, k45, k46, k47, t4, t30, t43, t44]
        repeat (first | with_reducible refine ask.of (by first | omega | decide) ?_ | simp -dsimp -implicitDefEqProofs only [go_sem, Nat.reduceBEq, Nat.reduceAdd, Nat.reduceLeDiff, Nat.reduceSub, Int.reduceEq, k0, k4, k6, k9, k10, k45, k46, k47, t4, t30, t43, t44, ra_length, initE, rowCl, bl3h, Bool.not_true, Bool.not_false])
        refine CallE.of (c_textsCopyE fr (by omega)) (by rintro r rfl; (repeat' first | exact trivial | exact pure_rowB _ | exact pure_rowO _ | exact pure_rowI _ | exact pure_rowBB _ | exact pure_rowPk _ _ | exact pure_rowSn _ _ | exact pure_rowFd _ _ | exact pure_rowBBB _ | exact pure_rowCl _ _ | exact pure_rowTb _ _ _ | refine And.intro ?_ ?_)) (by simp -dsimp -implicitDefEqProofs only [go_sem, Nat.reduceBEq, Nat.reduceAdd, Nat.reduceLeDiff, Nat.reduceSub, Int.reduceEq, k0, k4, k6, k9, k10, k45, k46, k47, t4, t30, t43, t44]) ?_
        rintro r rfl
        simp -dsimp -implicitDefEqProofs only [go_sem, Nat.reduceBEq, Nat.reduceAdd, Nat.reduceLeDiff, Nat.reduceSub, Int.reduceEq, k0, k4, k6, k9, k10, k45, k46, k47, t4, t30, t43, t44]
        repeat (first | with_reducible refine ask.of (by first | omega | decide) ?_ | simp -dsimp -implicitDefEqProofs only [go_sem, Nat.reduceBEq, Nat.reduceAdd, Nat.reduceLeDiff, Nat.reduceSub, Int.reduceEq, k0, k4, k6, k9, k10, k45, k46, k47, t4, t30, t43, t44, ra_length, initE, rowCl, bl3h, Bool.not_true, Bool.not_false])
        refine CallE.of (c_joinTextsE vs fr (by omega)) (by rintro r rfl; (repeat' first | exact trivial | exact pure_rowB _ | exact pure_rowO _ | exact pure_rowI _ | exact pure_rowBB _ | exact pure_rowPk _ _ | exact pure_rowSn _ _ | exact pure_rowFd _ _ | exact pure_rowBBB _ | exact pure_rowCl _ _ | exact pure_rowTb _ _ _ | refine And.intro ?_ ?_)) (by simp -dsimp -implicitDefEqProofs only [go_sem, Nat.reduceBEq, Nat.reduceAdd, Nat.reduceLeDiff, Nat.reduceSub, Int.reduceEq, k0, k4, k6, k9, k10, k45, k46, k47, t4, t30, t43, t44]) ?_
        rintro r rfl
        simp -dsimp -implicitDefEqProofs only [go_sem, Nat.reduceBEq, Nat.reduceAdd, Nat.reduceLeDiff, Nat.reduceSub, Int.reduceEq, k0, k4, k6, k9, k10, k45, k46, k47, t4, t30, t43, t44]
        repeat (first | with_reducible refine ask.of (by first | omega | decide) ?_ | simp -dsimp -implicitDefEqProofs only [go_sem, Nat.reduceBEq, Nat.reduceAdd, Nat.reduceLeDiff, Nat.reduceSub, Int.reduceEq, k0, k4, k6, k9, k10, k45, k46, k47, t4, t30, t43, t44, ra_length, initE, rowCl, bl3h, Bool.not_true, Bool.not_false])
        rfl
      · rw [decide_eq_false h4] at hV
        refine CallE.of (hV) (by rintro r rfl; (repeat' first | exact trivial | exact pure_rowB _ | exact pure_rowO _ | exact pure_rowI _ | exact pure_rowBB _ | exact pure_rowPk _ _ | exact pure_rowSn _ _ | exact pure_rowFd _ _ | exact pure_rowBBB _ | exact pure_rowCl _ _ | exact pure_rowTb _ _ _ | refine And.intro ?_ ?_)) (by simp -dsimp -implicitDefEqProofs only [go_sem, Nat.reduceBEq, Nat.reduceAdd, Nat.reduceLeDiff, Nat.reduceSub, Int.reduceEq, k0, k4, k6, k9, k10, k45, k46, k47, t4, t30, t43, t44]) ?_
        rintro r rfl
        simp -dsimp -implicitDefEqProofs only [go_sem, Nat.reduceBEq, Nat.reduceAdd, Nat.reduceLeDiff, Nat.reduceSub, Int.reduceEq, k0, k4, k6, k9, k10, k45, k46, k47, t4, t30, t43, t44]
        repeat (first | with_reducible refine ask.of (by first | omega | decide) ?_ | simp -dsimp -implicitDefEqProofs only [go_sem, Nat.reduceBEq, Nat.reduceAdd, Nat.reduceLeDiff, Nat.reduceSub, Int.reduceEq, k0, k4, k6, k9, k10, k45, k46, k47, t4, t30, t43, t44, ra_length, initE, rowCl, bl3h, Bool.not_true, Bool.not_false])
        have hW := c_iValidDictE ds (by omega)
        by_cases h5 : okD ds
        · rw [hpn hf0 h4 h5]
          rw [decide_eq_true h5] at hW
          refine CallE.of (hW) (by rintro r rfl; (repeat' first | exact trivial | exact pure_rowB _ | exact pure_rowO _ | exact pure_rowI _ | exact pure_rowBB _ | exact pure_rowPk _ _ | exact pure_rowSn _ _ | exact pure_rowFd _ _ | exact pure_rowBBB _ | exact pure_rowCl _ _ | exact pure_rowTb _ _ _ | refine And.intro ?_ ?_)) (by simp -dsimp -implicitDefEqProofs only [go_sem, Nat.reduceBEq, Nat.reduceAdd, Nat.reduceLeDiff, Nat.reduceSub, Int.reduceEq, k0, k4, k6, k9, k10, k45, k46, k47, t4, t30, t43, t44]) ?_
          rintro r rfl
          simp -dsimp -implicitDefEqProofs only [go_sem, Nat.reduceBEq, Nat.reduceAdd, Nat.reduceLeDiff, Nat.reduceSub, Int.reduceEq, k0, k4, k6, k9, k10, k45, k46, k47, t4, t30, t43, t44]
          repeat (first | with_reducible refine ask.of (by first | omega | decide) ?_ | simp -dsimp -implicitDefEqProofs only [go_sem, Nat.reduceBEq, Nat.reduceAdd, Nat.reduceLeDiff, Nat.reduceSub, Int.reduceEq, k0, k4, k6, k9, k10, k45, k46, k47, t4, t30, t43, t44, ra_length, initE, rowCl, bl3h, Bool.not_true, Bool.not_false])
          refine CallE.of (c_textsCopyE ds (by omega)) (by rintro r rfl; (repeat' first | exact trivial | exact pure_rowB _ | exact pure_rowO _ | exact pure_rowI _ | exact pure_rowBB _ | exact pure_rowPk _ _ | exact pure_rowSn _ _ | exact pure_rowFd _ _ | exact pure_rowBBB _ | exact pure_rowCl _ _ | exact pure_rowTb _ _ _ | refine And.intro ?_ ?_)) (by simp -dsimp -implicitDefEqProofs only [go_sem, Nat.reduceBEq, Nat.reduceAdd, Nat.reduceLeDiff, Nat.reduceSub, Int.reduceEq, k0, k4, k6, k9, k10, k45, k46, k47, t4, t30, t43, t44]) ?_
          rintro r rfl
          simp -dsimp -implicitDefEqProofs only [go_sem, Nat.reduceBEq, Nat.reduceAdd, Nat.reduceLeDiff, Nat.reduceSub, Int.reduceEq, k0, k4, k6, k9, k10, k45, k46, k47, t4, t30, t43, t44]
          repeat (first | with_reducible refine ask.of (by first | omega | decide) ?_ | simp -dsimp -implicitDefEqProofs only [go_sem, Nat.reduceBEq, Nat.reduceAdd, Nat.reduceLeDiff, Nat.reduceSub, Int.reduceEq, k0, k4, k6, k9, k10, k45, k46, k47, t4, t30, t43, t44, ra_length, initE, rowCl, bl3h, Bool.not_true, Bool.not_false])
          refine CallE.of (c_textsCopyE ds (by omega)) (by rintro r rfl; (repeat' first | exact trivial | exact pure_rowB _ | exact pure_rowO _ | exact pure_rowI _ | exact pure_rowBB _ | exact pure_rowPk _ _ | exact pure_rowSn _ _ | exact pure_rowFd _ _ | exact pure_rowBBB _ | exact pure_rowCl _ _ | exact pure_rowTb _ _ _ | refine And.intro ?_ ?_)) (by simp -dsimp -implicitDefEqProofs only [go_sem, Nat.reduceBEq, Nat.reduceAdd, Nat.reduceLeDiff, Nat.reduceSub, Int.reduceEq, k0, k4, k6, k9, k10, k45, k46, k47, t4, t30, t43, t44]) ?_
          rintro r rfl
          simp -dsimp -implicitDefEqProofs only [go_sem, Nat.reduceBEq, Nat.reduceAdd, Nat.reduceLeDiff, Nat.reduceSub, Int.reduceEq, k0, k4, k6, k9, k10, k45, k46, k47, t4, t30, t43, t44]
          repeat (first | with_reducible refine ask.of (by first | omega | decide) ?_ | simp -dsimp -implicitDefEqProofs only [go_sem, Nat.reduceBEq, Nat.reduceAdd, Nat.reduceLeDiff, Nat.reduceSub, Int.reduceEq, k0, k4, k6, k9, k10, k45, k46, k47, t4, t30, t43, t44, ra_length, initE, rowCl, bl3h, Bool.not_true, Bool.not_false])
          rfl
        · rw [hpf hf0 h4 h5]
          rw [decide_eq_false h5] at hW
          refine CallE.of (hW) (by rintro r rfl; (repeat' first | exact trivial | exact pure_rowB _ | exact pure_rowO _ | exact pure_rowI _ | exact pure_rowBB _ | exact pure_rowPk _ _ | exact pure_rowSn _ _ | exact pure_rowFd _ _ | exact pure_rowBBB _ | exact pure_rowCl _ _ | exact pure_rowTb _ _ _ | refine And.intro ?_ ?_)) (by simp -dsimp -implicitDefEqProofs only [go_sem, Nat.reduceBEq, Nat.reduceAdd, Nat.reduceLeDiff, Nat.reduceSub, Int.reduceEq, k0, k4, k6, k9, k10, k45, k46, k47, t4, t30, t43, t44]) ?_
          rintro r rfl
          simp -dsimp -implicitDefEqProofs only [go_sem, Nat.reduceBEq, Nat.reduceAdd, Nat.reduceLeDiff, Nat.reduceSub, Int.reduceEq, k0, k4, k6, k9, k10, k45, k46, k47, t4, t30, t43, t44]
          repeat (first | with_reducible refine ask.of (by first | omega | decide) ?_ | simp -dsimp -implicitDefEqProofs only [go_sem, Nat.reduceBEq, Nat.reduceAdd, Nat.reduceLeDiff, Nat.reduceSub, Int.reduceEq, k0, k4, k6, k9, k10, k45, k46, k47, t4, t30, t43, t44, ra_length, initE, rowCl, bl3h, Bool.not_true, Bool.not_false])
          rfl
  · rw [planL_no (fun h => h1 h.1)]
    repeat (first | with_reducible refine ask.of (by first | omega | decide) ?_ | simp -dsimp -implicitDefEqProofs only [go_sem, Nat.reduceBEq, Nat.reduceAdd, Nat.reduceLeDiff, Nat.reduceSub, Int.reduceEq, decide_eq_false h1, Bool.not_false, initE, rowCl, bl3h])
    rfl
end Go.Ev
set_option linter.unusedSimpArgs false
set_option linter.unusedVariables false
namespace Go.Ev
open Go Go.RowKit Go.Proofs
theorem wrapM (m j : Nat) (h : m + j < 4611686018427387904) : IntKind.i64.wrap (((m + j : Nat) : Int) + 1) = ((m + (j + 1) : Nat) : Int) := by rw [wrap_i64_of (by omega) (by omega)]; omega
def mkCl (k : Nat) (c : Cl) : Cl := ⟨decide ((k : Int).tmod 3 = 0), ((k + 1 : Nat) : Int), mkB (k + 2) c.f.length⟩
def szCl (c : Cl) : Nat := 2 + c.f.length
def mkClS (k : Nat) (xs : List Cl) : List Cl := mkL mkCl szCl k xs
theorem mkCl_at' {xs : List Cl} {i : Nat} {s : Cl} (h : xs[i]? = some s) : (ra clC xs)[i]? = some (clC s) := ra_at' h
theorem mkCl_set (xs : List Cl) (i : Nat) (s : Cl) : (ra clC xs).set i [.v (.bool s.z), .v (.int .i64 s.i), .row 5 1 (bytesA s.f)] = ra clC (xs.set i s) := ra_set (enc := clC) xs i s
set_option maxHeartbeats 4000000 in
set_option maxRecDepth 8000 in
theorem c_markCellS (xs : List Cl) (k : Nat) (hk : k + szL szCl xs ≤ 4611686018427387904) (hx : xs.length ≤ 1048576) (hb : ∀ b ∈ xs, b.f.length ≤ 1048576) : MeetsM Try.prog 32 [.mu (rowCl 151 xs), .rd (.v (.int .i64 k))] (fun r rs => r = .v (.int .i64 ((k + szL szCl xs : Nat) : Int)) ∧ rs = [rowCl 151 (mkClS k xs), .any]) := by
  refine MeetsM.intro mixed (hint []) Try.func32 rfl (by decide) res_32 rty_32 (pts := parTys Try.prog 32) (by rw [par_32]; rfl) (by kernel_rfl) ?_; rw [par_32]; intro vals; 
  simp -dsimp -implicitDefEqProofs only [go_sem, Nat.reduceBEq, Nat.reduceAdd, Nat.reduceLeDiff, Nat.reduceSub, Int.reduceEq, rowCl]
  refine LoopE.cnt xs.length (fun i s => s.env 0 = .ref [1000000, 0] ∧ s.env 1 = .v (.int .i64 ((k + szL szCl (xs.take i) : Nat) : Int)) ∧ s.env 5 = .v (.int .i64 i) ∧ s.σ [1000000, 0] = some (.row 151 3 (ra clC (mkLP mkCl szCl k xs i))) ∧ s.σ [1000001, 0] = some (.pin (.ref [1000000, 0]) (vals 0))) ⟨by simp -dsimp -implicitDefEqProofs only [go_sem, Nat.reduceBEq, Nat.reduceAdd, Nat.reduceLeDiff, Nat.reduceSub, Int.reduceEq], by simp -dsimp -implicitDefEqProofs only [go_sem, Nat.reduceBEq, Nat.reduceAdd, Nat.reduceLeDiff, Nat.reduceSub, Int.reduceEq] <;> simp [szL], by simp -dsimp -implicitDefEqProofs only [go_sem, Nat.reduceBEq, Nat.reduceAdd, Nat.reduceLeDiff, Nat.reduceSub, Int.reduceEq] <;> simp, by simp -dsimp -implicitDefEqProofs only [go_sem, Nat.reduceBEq, Nat.reduceAdd, Nat.reduceLeDiff, Nat.reduceSub, Int.reduceEq, mkLP_zero], by simp -dsimp -implicitDefEqProofs only [go_sem, Nat.reduceBEq, Nat.reduceAdd, Nat.reduceLeDiff, Nat.reduceSub, Int.reduceEq]⟩ ?_
  rintro i ⟨e, σ⟩ hi ⟨h0, h1, h5, hs, hp⟩ K hK
  simp only at h0 h1 h5 hs hp
  have hl := mkLP_length mkCl szCl k hi
  simp -dsimp -implicitDefEqProofs only [go_sem, Nat.reduceBEq, Nat.reduceAdd, Nat.reduceLeDiff, Nat.reduceSub, Int.reduceEq, h0, h1, h5, hs, hp, hl]
  refine ifB'.of (fun hlt => ?_) (fun hlt => ?_)
  · have hlt : i < xs.length := by omega
    have hw := szL_at_le szCl hlt
    have hpb := hb _ (List.getElem_mem hlt)
    have hat := mkCl_at' (mkLP_at mkCl szCl k hlt)
    have hgs : ∀ c : List AV, ((ra clC (mkLP mkCl szCl k xs i)).set i c)[i]? = some c := fun c => by rw [List.getElem?_set_self]; rw [ra_length]; omega
    obtain ⟨m, hm⟩ : ∃ m, k + szL szCl (xs.take i) = m := ⟨_, rfl⟩
    rw [hm] at h1
    have hwm : m + szCl xs[i] ≤ 4611686018427387904 := by omega
    unfold szCl at hwm
    have e0 : IntKind.i64.wrap ((m : Int) + 1) = ((m + 1 : Nat) : Int) := wrapM m 0 (by omega)
    have e1 := wrapM m 1 (by omega)
    repeat (first | with_reducible refine ask.of (by first | omega | decide | (simp [hl]; omega)) ?_ | simp -dsimp -implicitDefEqProofs only [go_sem, Nat.reduceBEq, Nat.reduceAdd, Nat.reduceLeDiff, Nat.reduceSub, Int.reduceEq, h0, h1, h5, hs, hp, hl, hat, clC, hgs, List.set_set, List.length_set, bl3, e0, e1])
    refine CallE.mut (c_markByteS xs[i].f (m + 2) (by omega) (by omega)) (by simp -dsimp -implicitDefEqProofs only [go_sem, Nat.reduceBEq, Nat.reduceAdd, Nat.reduceLeDiff, Nat.reduceSub, Int.reduceEq, h0, h1, h5, hs, hp]) (by rintro r rs ⟨rfl, rfl⟩; exact ⟨by (repeat' first | exact trivial | exact pure_rowB _ | exact pure_rowO _ | exact pure_rowI _ | exact pure_rowBB _ | exact pure_rowPk _ _ | exact pure_rowSn _ _ | exact pure_rowFd _ _ | exact pure_rowBBB _ | exact pure_rowCl _ _ | exact pure_rowTb _ _ _ | refine And.intro ?_ ?_), by first | exact ⟨by (repeat' first | exact trivial | exact pure_rowB _ | exact pure_rowO _ | exact pure_rowI _ | exact pure_rowBB _ | exact pure_rowPk _ _ | exact pure_rowSn _ _ | exact pure_rowFd _ _ | exact pure_rowBBB _ | exact pure_rowCl _ _ | exact pure_rowTb _ _ _ | refine And.intro ?_ ?_), trivial⟩ | exact ⟨by (repeat' first | exact trivial | exact pure_rowB _ | exact pure_rowO _ | exact pure_rowI _ | exact pure_rowBB _ | exact pure_rowPk _ _ | exact pure_rowSn _ _ | exact pure_rowFd _ _ | exact pure_rowBBB _ | exact pure_rowCl _ _ | exact pure_rowTb _ _ _ | refine And.intro ?_ ?_), trivial, trivial⟩⟩) (by simp -dsimp -implicitDefEqProofs only [go_sem, Nat.reduceBEq, Nat.reduceAdd, Nat.reduceLeDiff, Nat.reduceSub, Int.reduceEq, h0, h1, h5, hs, hp, hgs, hat, List.set_set, clC]) (by simp -dsimp -implicitDefEqProofs only [go_sem, Nat.reduceBEq, Nat.reduceAdd, Nat.reduceLeDiff, Nat.reduceSub, Int.reduceEq, h0, h1, h5, hs, hp, hgs, hat, List.set_set, clC]) ?_
    rintro r rs ⟨rfl, rfl⟩
    simp -dsimp -implicitDefEqProofs only [go_sem, Nat.reduceBEq, Nat.reduceAdd, Nat.reduceLeDiff, Nat.reduceSub, Int.reduceEq, h0, h1, h5, hs, hp, hgs, hat, List.set_set, clC]
    repeat (first | with_reducible refine ask.of (by first | omega | decide | (simp [hl]; omega)) ?_ | simp -dsimp -implicitDefEqProofs only [go_sem, Nat.reduceBEq, Nat.reduceAdd, Nat.reduceLeDiff, Nat.reduceSub, Int.reduceEq, h0, h1, h5, hs, hp, hl, hgs, List.set_set, List.length_set, bl3, e0, e1])
    refine hK _ hlt ?_
    simp -dsimp -implicitDefEqProofs only [go_sem, Nat.reduceBEq, Nat.reduceAdd, Nat.reduceLeDiff, Nat.reduceSub, Int.reduceEq, h0, h1, h5, hs, hp, hgs, List.set_set, wrap_succ (show i < 4611686018427387904 by omega), szL_take_succ szCl hlt]
    refine ⟨by rw [← hm]; unfold szCl; omega, ?_⟩
    rw [← mkLP_set mkCl szCl k hlt (y := mkCl m xs[i]) (by rw [hm]), ← mkCl_set]
    rfl
  · have : i = xs.length := by omega
    subst this
    simp -dsimp -implicitDefEqProofs only [go_sem, Nat.reduceBEq, Nat.reduceAdd, Nat.reduceLeDiff, Nat.reduceSub, Int.reduceEq, h0, h1, h5, hs, hp, mkLP_full, List.take_length]
    rfl
end Go.Ev
set_option linter.unusedSimpArgs false
set_option linter.unusedVariables false
namespace Go.Ev
open Go Go.RowKit Go.Proofs
theorem szCl_le (cs : List Cl) : szL szCl cs ≤ 3 * cs.length + szL clW cs := by
  induction cs with
  | nil => exact Nat.zero_le _
  | cons x xs ih => simp only [szL, List.map_cons, List.sum_cons, szCl, clW, List.length_cons] at ih ⊢; omega
end Go.Ev
set_option linter.unusedSimpArgs false
set_option linter.unusedVariables false
namespace Go.Ev
open Go Go.RowKit Go.Proofs
structure PlB (x : Pln) : Prop where
  n : x.n.length + wBB x.n ≤ 1048576
  v : x.v.length + wBB x.v ≤ 1048576
theorem wBB_b {xs : List (List UInt8)} (h : xs.length + wBB xs ≤ 1048576) : ∀ b ∈ xs, b.length ≤ 1048576 := fun b hb => by have := mem_wBB hb; omega
theorem planL_T {vs : List (List UInt8)} {cs : List Cl} (hvc : vs.length + wBB vs + (cs.length + szL clW cs) ≤ 1048576) : PlB (planL vs cs).1 := by
  by_cases h : okD vs ∧ cellsB fdD cs
  · have hdl : (dst cs).length ≤ cs.length := by have := dst_len cs cs.length (Nat.le_refl _); rwa [List.take_length] at this
    have hdw : wBB (dst cs) ≤ szL clW cs := by have := dst_wBB cs cs.length (Nat.le_refl _); rwa [List.take_length] at this
    have hfd := frD_len vs (dst cs)
    have hfw := frD_wBB vs (dst cs)
    have hw : wBB (vs ++ frD vs (dst cs)) = wBB vs + wBB (frD vs (dst cs)) := by simp [wBB, szL]
    have hl : (vs ++ frD vs (dst cs)).length = vs.length + (frD vs (dst cs)).length := List.length_append
    have h0 : ([] : List (List UInt8)).length + wBB [] = 0 := rfl
    by_cases h2 : frD vs (dst cs) = []
    · rw [planL_old h h2]; exact ⟨by show ([] : List (List UInt8)).length + wBB [] ≤ _; omega, by show vs.length + wBB vs ≤ _; omega⟩
    · by_cases h3 : okD (vs ++ frD vs (dst cs))
      · rw [planL_add h h2 h3]; exact ⟨by show (frD vs (dst cs)).length + wBB (frD vs (dst cs)) ≤ _; omega, by show (vs ++ frD vs (dst cs)).length + wBB (vs ++ frD vs (dst cs)) ≤ _; omega⟩
      · by_cases h4 : okD (dst cs)
        · rw [planL_new h h2 h3 h4]; exact ⟨by show (dst cs).length + wBB (dst cs) ≤ _; omega, by show (dst cs).length + wBB (dst cs) ≤ _; omega⟩
        · rw [planL_full h h2 h3 h4]; exact ⟨by decide, by decide⟩
  · rw [planL_no h]; exact ⟨by decide, by decide⟩
set_option maxRecDepth 8000 in
theorem c_eqPlan (x : Pln) (hx : PlB x) : Meets Try.prog 28 [.agg (plnC x), .agg (plnC x)] (fun r => r = .v (.bool true)) := by
  refine Meets.intro mixed (hint []) Try.func28 rfl (by decide) res_28 rty_28 (by kernel_rfl) ?_; 
  simp -dsimp -implicitDefEqProofs only [go_sem, Nat.reduceBEq, Nat.reduceAdd, Nat.reduceLeDiff, Nat.reduceSub, Int.reduceEq, plnC, decide_true]
  repeat (first | with_reducible refine ask.of (by first | omega | decide) ?_ | simp -dsimp -implicitDefEqProofs only [go_sem, Nat.reduceBEq, Nat.reduceAdd, Nat.reduceLeDiff, Nat.reduceSub, Int.reduceEq, bl3h, decide_true, Bool.not_true])
  refine CallE.of (c_eqByteSS x.n (by have := hx.n; omega) (fun b h => by have := wBB_b hx.n b h; omega)) (by rintro r rfl; (repeat' first | exact trivial | exact pure_rowB _ | exact pure_rowO _ | exact pure_rowI _ | exact pure_rowBB _ | exact pure_rowPk _ _ | exact pure_rowSn _ _ | exact pure_rowFd _ _ | exact pure_rowBBB _ | exact pure_rowCl _ _ | exact pure_rowTb _ _ _ | refine And.intro ?_ ?_)) (by simp -dsimp -implicitDefEqProofs only [go_sem, Nat.reduceBEq, Nat.reduceAdd, Nat.reduceLeDiff, Nat.reduceSub, Int.reduceEq, Bool.not_true]) ?_
  rintro r rfl
  simp -dsimp -implicitDefEqProofs only [go_sem, Nat.reduceBEq, Nat.reduceAdd, Nat.reduceLeDiff, Nat.reduceSub, Int.reduceEq, Bool.not_true]
  repeat (first | with_reducible refine ask.of (by first | omega | decide) ?_ | simp -dsimp -implicitDefEqProofs only [go_sem, Nat.reduceBEq, Nat.reduceAdd, Nat.reduceLeDiff, Nat.reduceSub, Int.reduceEq, bl3h, decide_true, Bool.not_true])
  refine CallE.of (c_eqByteSS x.v (by have := hx.v; omega) (fun b h => by have := wBB_b hx.v b h; omega)) (by rintro r rfl; (repeat' first | exact trivial | exact pure_rowB _ | exact pure_rowO _ | exact pure_rowI _ | exact pure_rowBB _ | exact pure_rowPk _ _ | exact pure_rowSn _ _ | exact pure_rowFd _ _ | exact pure_rowBBB _ | exact pure_rowCl _ _ | exact pure_rowTb _ _ _ | refine And.intro ?_ ?_)) (by simp -dsimp -implicitDefEqProofs only [go_sem, Nat.reduceBEq, Nat.reduceAdd, Nat.reduceLeDiff, Nat.reduceSub, Int.reduceEq, Bool.not_true]) ?_
  rintro r rfl
  simp -dsimp -implicitDefEqProofs only [go_sem, Nat.reduceBEq, Nat.reduceAdd, Nat.reduceLeDiff, Nat.reduceSub, Int.reduceEq, Bool.not_true]
  try repeat (first | with_reducible refine ask.of (by first | omega | decide) ?_ | simp -dsimp -implicitDefEqProofs only [go_sem, Nat.reduceBEq, Nat.reduceAdd, Nat.reduceLeDiff, Nat.reduceSub, Int.reduceEq, bl3h, decide_true, Bool.not_true])
def mkPl (k : Nat) (x : Pln) : Pln := ⟨x.k, mkBB k x.n, mkBB (k + wBB x.n) x.v⟩
set_option maxRecDepth 8000 in
theorem c_markPlan (x : Pln) (k : Nat) (hk : k + wBB x.n + wBB x.v ≤ 4611686018427387904) (hx : PlB x) : MeetsM Try.prog 33 [.mu (.agg (plnC x)), .rd (.v (.int .i64 k))] (fun r rs => r = .v (.int .i64 ((k + wBB x.n + wBB x.v : Nat) : Int)) ∧ rs = [.agg (plnC (mkPl k x)), .any]) := by
  have h1 := hx.n
  have h2 := hx.v
  refine MeetsM.intro mixed (hint []) Try.func33 rfl (by decide) res_33 rty_33 (pts := parTys Try.prog 33) (by rw [par_33]; rfl) (by kernel_rfl) ?_; rw [par_33]; intro vals; 
  simp -dsimp -implicitDefEqProofs only [go_sem, Nat.reduceBEq, Nat.reduceAdd, Nat.reduceLeDiff, Nat.reduceSub, Int.reduceEq, plnC]
  repeat (first | with_reducible refine ask.of (by first | omega | decide) ?_ | simp -dsimp -implicitDefEqProofs only [go_sem, Nat.reduceBEq, Nat.reduceAdd, Nat.reduceLeDiff, Nat.reduceSub, Int.reduceEq, bl3h])
  refine CallE.mut (c_markByteSS x.n k (by omega) (by omega) (fun b h => by have := wBB_b hx.n b h; omega)) (by simp -dsimp -implicitDefEqProofs only [go_sem, Nat.reduceBEq, Nat.reduceAdd, Nat.reduceLeDiff, Nat.reduceSub, Int.reduceEq]) (by rintro r rs ⟨rfl, rfl⟩; exact ⟨by (repeat' first | exact trivial | exact pure_rowB _ | exact pure_rowO _ | exact pure_rowI _ | exact pure_rowBB _ | exact pure_rowPk _ _ | exact pure_rowSn _ _ | exact pure_rowFd _ _ | exact pure_rowBBB _ | exact pure_rowCl _ _ | exact pure_rowTb _ _ _ | refine And.intro ?_ ?_), by first | exact ⟨by (repeat' first | exact trivial | exact pure_rowB _ | exact pure_rowO _ | exact pure_rowI _ | exact pure_rowBB _ | exact pure_rowPk _ _ | exact pure_rowSn _ _ | exact pure_rowFd _ _ | exact pure_rowBBB _ | exact pure_rowCl _ _ | exact pure_rowTb _ _ _ | refine And.intro ?_ ?_), trivial⟩ | exact ⟨by (repeat' first | exact trivial | exact pure_rowB _ | exact pure_rowO _ | exact pure_rowI _ | exact pure_rowBB _ | exact pure_rowPk _ _ | exact pure_rowSn _ _ | exact pure_rowFd _ _ | exact pure_rowBBB _ | exact pure_rowCl _ _ | exact pure_rowTb _ _ _ | refine And.intro ?_ ?_), trivial, trivial⟩⟩) (by simp -dsimp -implicitDefEqProofs only [go_sem, Nat.reduceBEq, Nat.reduceAdd, Nat.reduceLeDiff, Nat.reduceSub, Int.reduceEq]) (by simp -dsimp -implicitDefEqProofs only [go_sem, Nat.reduceBEq, Nat.reduceAdd, Nat.reduceLeDiff, Nat.reduceSub, Int.reduceEq]) ?_
  rintro r rs ⟨rfl, rfl⟩
  simp -dsimp -implicitDefEqProofs only [go_sem, Nat.reduceBEq, Nat.reduceAdd, Nat.reduceLeDiff, Nat.reduceSub, Int.reduceEq]
  repeat (first | with_reducible refine ask.of (by first | omega | decide) ?_ | simp -dsimp -implicitDefEqProofs only [go_sem, Nat.reduceBEq, Nat.reduceAdd, Nat.reduceLeDiff, Nat.reduceSub, Int.reduceEq, bl3h])
  refine CallE.mut (c_markByteSS x.v (k + wBB x.n) (by omega) (by omega) (fun b h => by have := wBB_b hx.v b h; omega)) (by simp -dsimp -implicitDefEqProofs only [go_sem, Nat.reduceBEq, Nat.reduceAdd, Nat.reduceLeDiff, Nat.reduceSub, Int.reduceEq]) (by rintro r rs ⟨rfl, rfl⟩; exact ⟨by (repeat' first | exact trivial | exact pure_rowB _ | exact pure_rowO _ | exact pure_rowI _ | exact pure_rowBB _ | exact pure_rowPk _ _ | exact pure_rowSn _ _ | exact pure_rowFd _ _ | exact pure_rowBBB _ | exact pure_rowCl _ _ | exact pure_rowTb _ _ _ | refine And.intro ?_ ?_), by first | exact ⟨by (repeat' first | exact trivial | exact pure_rowB _ | exact pure_rowO _ | exact pure_rowI _ | exact pure_rowBB _ | exact pure_rowPk _ _ | exact pure_rowSn _ _ | exact pure_rowFd _ _ | exact pure_rowBBB _ | exact pure_rowCl _ _ | exact pure_rowTb _ _ _ | refine And.intro ?_ ?_), trivial⟩ | exact ⟨by (repeat' first | exact trivial | exact pure_rowB _ | exact pure_rowO _ | exact pure_rowI _ | exact pure_rowBB _ | exact pure_rowPk _ _ | exact pure_rowSn _ _ | exact pure_rowFd _ _ | exact pure_rowBBB _ | exact pure_rowCl _ _ | exact pure_rowTb _ _ _ | refine And.intro ?_ ?_), trivial, trivial⟩⟩) (by simp -dsimp -implicitDefEqProofs only [go_sem, Nat.reduceBEq, Nat.reduceAdd, Nat.reduceLeDiff, Nat.reduceSub, Int.reduceEq]) (by simp -dsimp -implicitDefEqProofs only [go_sem, Nat.reduceBEq, Nat.reduceAdd, Nat.reduceLeDiff, Nat.reduceSub, Int.reduceEq]) ?_
  rintro r rs ⟨rfl, rfl⟩
  simp -dsimp -implicitDefEqProofs only [go_sem, Nat.reduceBEq, Nat.reduceAdd, Nat.reduceLeDiff, Nat.reduceSub, Int.reduceEq]
  repeat (first | with_reducible refine ask.of (by first | omega | decide) ?_ | simp -dsimp -implicitDefEqProofs only [go_sem, Nat.reduceBEq, Nat.reduceAdd, Nat.reduceLeDiff, Nat.reduceSub, Int.reduceEq, bl3h, mkPl])
  try exact ⟨rfl, rfl⟩
set_option maxRecDepth 8000 in
theorem c_heldPlan (x : Pln) (k : Nat) (hk : k + wBB x.n + wBB x.v ≤ 4611686018427387904) (hx : PlB x) : Meets Try.prog 34 [.agg (plnC (mkPl k x)), .v (.int .i64 k)] (fun r => r = .v (.int .i64 ((k + wBB x.n + wBB x.v : Nat) : Int))) := by
  have h1 := hx.n
  have h2 := hx.v
  refine Meets.intro mixed (hint []) Try.func34 rfl (by decide) res_34 rty_34 (by kernel_rfl) ?_; 
  simp -dsimp -implicitDefEqProofs only [go_sem, Nat.reduceBEq, Nat.reduceAdd, Nat.reduceLeDiff, Nat.reduceSub, Int.reduceEq, plnC, mkPl]
  repeat (first | with_reducible refine ask.of (by first | omega | decide) ?_ | simp -dsimp -implicitDefEqProofs only [go_sem, Nat.reduceBEq, Nat.reduceAdd, Nat.reduceLeDiff, Nat.reduceSub, Int.reduceEq, bl3h])
  refine CallE.of (c_heldByteSS x.n k (by omega) (by omega) (fun b h => by have := wBB_b hx.n b h; omega)) (by rintro r rfl; (repeat' first | exact trivial | exact pure_rowB _ | exact pure_rowO _ | exact pure_rowI _ | exact pure_rowBB _ | exact pure_rowPk _ _ | exact pure_rowSn _ _ | exact pure_rowFd _ _ | exact pure_rowBBB _ | exact pure_rowCl _ _ | exact pure_rowTb _ _ _ | refine And.intro ?_ ?_)) (by simp -dsimp -implicitDefEqProofs only [go_sem, Nat.reduceBEq, Nat.reduceAdd, Nat.reduceLeDiff, Nat.reduceSub, Int.reduceEq]) ?_
  rintro r rfl
  simp -dsimp -implicitDefEqProofs only [go_sem, Nat.reduceBEq, Nat.reduceAdd, Nat.reduceLeDiff, Nat.reduceSub, Int.reduceEq]
  refine ifB'.of (fun h => by omega) (fun h => ?_)
  repeat (first | with_reducible refine ask.of (by first | omega | decide) ?_ | simp -dsimp -implicitDefEqProofs only [go_sem, Nat.reduceBEq, Nat.reduceAdd, Nat.reduceLeDiff, Nat.reduceSub, Int.reduceEq, bl3h])
  refine CallE.of (c_heldByteSS x.v (k + wBB x.n) (by omega) (by omega) (fun b h => by have := wBB_b hx.v b h; omega)) (by rintro r rfl; (repeat' first | exact trivial | exact pure_rowB _ | exact pure_rowO _ | exact pure_rowI _ | exact pure_rowBB _ | exact pure_rowPk _ _ | exact pure_rowSn _ _ | exact pure_rowFd _ _ | exact pure_rowBBB _ | exact pure_rowCl _ _ | exact pure_rowTb _ _ _ | refine And.intro ?_ ?_)) (by simp -dsimp -implicitDefEqProofs only [go_sem, Nat.reduceBEq, Nat.reduceAdd, Nat.reduceLeDiff, Nat.reduceSub, Int.reduceEq]) ?_
  rintro r rfl
  simp -dsimp -implicitDefEqProofs only [go_sem, Nat.reduceBEq, Nat.reduceAdd, Nat.reduceLeDiff, Nat.reduceSub, Int.reduceEq]
  refine ifB'.of (fun h => by omega) (fun h => ?_)
  simp -dsimp -implicitDefEqProofs only [go_sem, Nat.reduceBEq, Nat.reduceAdd, Nat.reduceLeDiff, Nat.reduceSub, Int.reduceEq]
set_option maxRecDepth 8000 in
set_option maxHeartbeats 8000000 in
theorem c_FnExactPlanDict (vs : List (List UInt8)) (hp2 : vs.length * 24 ≤ reachBytes ∧ ∀ a ∈ vs, a.length * 1 ≤ reachBytes ∧ ∀ c ∈ a, True) (cs : List Cl) (hp1 : cs.length ≤ 140737488355328 ∧ ∀ p ∈ cs, p.f.length ≤ 140737488355328 ∧ -9223372036854775808 ≤ p.i ∧ p.i ≤ 9223372036854775807) : Meets Try.prog 4 [rowBB vs, rowCl 145 cs] (fun r => r = .v (.bool true)) := by
  have hr : reachBytes = 140737488351232 := rfl
  have h1 : vs.length ≤ 140737488355328 := by omega
  have h2 : ∀ b ∈ vs, b.length ≤ 140737488355328 := fun b hb => by have := (hp2.2 b hb).1; omega
  refine Meets.intro mixed (hint []) Try.func4 rfl (by decide) res_4 rty_4 (by kernel_rfl) ?_; 
  simp -dsimp -implicitDefEqProofs only [go_sem, Nat.reduceBEq, Nat.reduceAdd, Nat.reduceLeDiff, Nat.reduceSub, Int.reduceEq, rowCl]
  repeat (first | with_reducible refine ask.of (by first | omega | decide) ?_ | simp -dsimp -implicitDefEqProofs only [go_sem, Nat.reduceBEq, Nat.reduceAdd, Nat.reduceLeDiff, Nat.reduceSub, Int.reduceEq, bl3h])
  refine CallE.of (c_szByteSS vs 1048576 (by omega) h1 h2) (by rintro r rfl; (repeat' first | exact trivial | exact pure_rowB _ | exact pure_rowO _ | exact pure_rowI _ | exact pure_rowBB _ | exact pure_rowPk _ _ | exact pure_rowSn _ _ | exact pure_rowFd _ _ | exact pure_rowBBB _ | exact pure_rowCl _ _ | exact pure_rowTb _ _ _ | refine And.intro ?_ ?_)) (by simp -dsimp -implicitDefEqProofs only [go_sem, Nat.reduceBEq, Nat.reduceAdd, Nat.reduceLeDiff, Nat.reduceSub, Int.reduceEq]) ?_
  rintro r rfl
  simp -dsimp -implicitDefEqProofs only [go_sem, Nat.reduceBEq, Nat.reduceAdd, Nat.reduceLeDiff, Nat.reduceSub, Int.reduceEq]
  refine ifB'.of (fun h => ?_) (fun h => ?_)
  · simp -dsimp -implicitDefEqProofs only [go_sem, Nat.reduceBEq, Nat.reduceAdd, Nat.reduceLeDiff, Nat.reduceSub, Int.reduceEq]
  have hw2 : vs.length + wBB vs ≤ 1048576 := Classical.byContradiction fun h' => h (by rw [szR_no h']; decide)
  rw [szR_ok hw2]
  repeat (first | with_reducible refine ask.of (by first | omega | decide) ?_ | simp -dsimp -implicitDefEqProofs only [go_sem, Nat.reduceBEq, Nat.reduceAdd, Nat.reduceLeDiff, Nat.reduceSub, Int.reduceEq, bl3h])
  refine CallE.of (c_szCellS cs (1048576 - (vs.length + wBB vs)) (by omega) hp1.1 (fun b hb => (hp1.2 b hb).1)) (by rintro r rfl; (repeat' first | exact trivial | exact pure_rowB _ | exact pure_rowO _ | exact pure_rowI _ | exact pure_rowBB _ | exact pure_rowPk _ _ | exact pure_rowSn _ _ | exact pure_rowFd _ _ | exact pure_rowBBB _ | exact pure_rowCl _ _ | exact pure_rowTb _ _ _ | refine And.intro ?_ ?_)) (by simp -dsimp -implicitDefEqProofs only [go_sem, Nat.reduceBEq, Nat.reduceAdd, Nat.reduceLeDiff, Nat.reduceSub, Int.reduceEq, rowCl]) ?_
  rintro r rfl
  simp -dsimp -implicitDefEqProofs only [go_sem, Nat.reduceBEq, Nat.reduceAdd, Nat.reduceLeDiff, Nat.reduceSub, Int.reduceEq, rowCl]
  refine ifB'.of (fun h => ?_) (fun h => ?_)
  · simp -dsimp -implicitDefEqProofs only [go_sem, Nat.reduceBEq, Nat.reduceAdd, Nat.reduceLeDiff, Nat.reduceSub, Int.reduceEq]
  have hw1 : cs.length + szL clW cs ≤ 1048576 - (vs.length + wBB vs) := Classical.byContradiction fun h' => h (by rw [szR_no h']; decide)
  have hcb : ∀ c ∈ cs, c.f.length ≤ 1048576 := fun c h => by have := clW_mem h; omega
  have hvb : ∀ b ∈ vs, b.length ≤ 1048576 := fun b hb => by have := mem_wBB hb; omega
  have hcs := szCl_le cs
  have hs := c_specPlanDict vs cs (by omega)
  have hi := c_implPlanDict vs cs (by omega)
  have hy := planL_T (vs := vs) (cs := cs) (by omega)
  unfold resPl at hs hi
  generalize planL vs cs = yc at *
  obtain ⟨y, c⟩ := yc
  simp only at hs hi hy
  have hy1 := hy.n
  have hy2 := hy.v
  repeat' (first
    | with_reducible refine ask.of (by omega) ?_
    | (refine CallE.of (hs) ?_ ?_ ?_; rotate_left; (· (simp -dsimp -implicitDefEqProofs only [go_sem, Nat.reduceBEq, Nat.reduceAdd, Nat.reduceLeDiff, Nat.reduceSub, Int.reduceEq, bl3h, rowCl, plnC, mkPl, Bool.not_true, decide_true]; done)); rotate_left; (· (rintro r rfl; (repeat' first | exact trivial | exact pure_rowB _ | exact pure_rowO _ | exact pure_rowI _ | exact pure_rowBB _ | exact pure_rowPk _ _ | exact pure_rowSn _ _ | exact pure_rowFd _ _ | exact pure_rowBBB _ | exact pure_rowCl _ _ | exact pure_rowTb _ _ _ | refine And.intro ?_ ?_))); rintro r rfl; try simp -dsimp -implicitDefEqProofs only [go_sem, Nat.reduceBEq, Nat.reduceAdd, Nat.reduceLeDiff, Nat.reduceSub, Int.reduceEq, bl3h, rowCl, plnC, mkPl, Bool.not_true, decide_true])
    | (refine CallE.of (hi) ?_ ?_ ?_; rotate_left; (· (simp -dsimp -implicitDefEqProofs only [go_sem, Nat.reduceBEq, Nat.reduceAdd, Nat.reduceLeDiff, Nat.reduceSub, Int.reduceEq, bl3h, rowCl, plnC, mkPl, Bool.not_true, decide_true]; done)); rotate_left; (· (rintro r rfl; (repeat' first | exact trivial | exact pure_rowB _ | exact pure_rowO _ | exact pure_rowI _ | exact pure_rowBB _ | exact pure_rowPk _ _ | exact pure_rowSn _ _ | exact pure_rowFd _ _ | exact pure_rowBBB _ | exact pure_rowCl _ _ | exact pure_rowTb _ _ _ | refine And.intro ?_ ?_))); rintro r rfl; try simp -dsimp -implicitDefEqProofs only [go_sem, Nat.reduceBEq, Nat.reduceAdd, Nat.reduceLeDiff, Nat.reduceSub, Int.reduceEq, bl3h, rowCl, plnC, mkPl, Bool.not_true, decide_true])
    | (refine CallE.of (c_toCellS cs (by omega) hcb) ?_ ?_ ?_; rotate_left; (· (simp -dsimp -implicitDefEqProofs only [go_sem, Nat.reduceBEq, Nat.reduceAdd, Nat.reduceLeDiff, Nat.reduceSub, Int.reduceEq, bl3h, rowCl, plnC, mkPl, Bool.not_true, decide_true]; done)); rotate_left; (· (rintro r rfl; (repeat' first | exact trivial | exact pure_rowB _ | exact pure_rowO _ | exact pure_rowI _ | exact pure_rowBB _ | exact pure_rowPk _ _ | exact pure_rowSn _ _ | exact pure_rowFd _ _ | exact pure_rowBBB _ | exact pure_rowCl _ _ | exact pure_rowTb _ _ _ | refine And.intro ?_ ?_))); rintro r rfl; try simp -dsimp -implicitDefEqProofs only [go_sem, Nat.reduceBEq, Nat.reduceAdd, Nat.reduceLeDiff, Nat.reduceSub, Int.reduceEq, bl3h, rowCl, plnC, mkPl, Bool.not_true, decide_true])
    | (refine CallE.of (c_toByteSS vs (by omega) hvb) ?_ ?_ ?_; rotate_left; (· (simp -dsimp -implicitDefEqProofs only [go_sem, Nat.reduceBEq, Nat.reduceAdd, Nat.reduceLeDiff, Nat.reduceSub, Int.reduceEq, bl3h, rowCl, plnC, mkPl, Bool.not_true, decide_true]; done)); rotate_left; (· (rintro r rfl; (repeat' first | exact trivial | exact pure_rowB _ | exact pure_rowO _ | exact pure_rowI _ | exact pure_rowBB _ | exact pure_rowPk _ _ | exact pure_rowSn _ _ | exact pure_rowFd _ _ | exact pure_rowBBB _ | exact pure_rowCl _ _ | exact pure_rowTb _ _ _ | refine And.intro ?_ ?_))); rintro r rfl; try simp -dsimp -implicitDefEqProofs only [go_sem, Nat.reduceBEq, Nat.reduceAdd, Nat.reduceLeDiff, Nat.reduceSub, Int.reduceEq, bl3h, rowCl, plnC, mkPl, Bool.not_true, decide_true])
    | (refine CallE.of (c_eqPlan y hy) ?_ ?_ ?_; rotate_left; (· (simp -dsimp -implicitDefEqProofs only [go_sem, Nat.reduceBEq, Nat.reduceAdd, Nat.reduceLeDiff, Nat.reduceSub, Int.reduceEq, bl3h, rowCl, plnC, mkPl, Bool.not_true, decide_true]; done)); rotate_left; (· (rintro r rfl; (repeat' first | exact trivial | exact pure_rowB _ | exact pure_rowO _ | exact pure_rowI _ | exact pure_rowBB _ | exact pure_rowPk _ _ | exact pure_rowSn _ _ | exact pure_rowFd _ _ | exact pure_rowBBB _ | exact pure_rowCl _ _ | exact pure_rowTb _ _ _ | refine And.intro ?_ ?_))); rintro r rfl; try simp -dsimp -implicitDefEqProofs only [go_sem, Nat.reduceBEq, Nat.reduceAdd, Nat.reduceLeDiff, Nat.reduceSub, Int.reduceEq, bl3h, rowCl, plnC, mkPl, Bool.not_true, decide_true])
    | (refine CallE.of (c_eqCellS cs (by omega) hcb) ?_ ?_ ?_; rotate_left; (· (simp -dsimp -implicitDefEqProofs only [go_sem, Nat.reduceBEq, Nat.reduceAdd, Nat.reduceLeDiff, Nat.reduceSub, Int.reduceEq, bl3h, rowCl, plnC, mkPl, Bool.not_true, decide_true]; done)); rotate_left; (· (rintro r rfl; (repeat' first | exact trivial | exact pure_rowB _ | exact pure_rowO _ | exact pure_rowI _ | exact pure_rowBB _ | exact pure_rowPk _ _ | exact pure_rowSn _ _ | exact pure_rowFd _ _ | exact pure_rowBBB _ | exact pure_rowCl _ _ | exact pure_rowTb _ _ _ | refine And.intro ?_ ?_))); rintro r rfl; try simp -dsimp -implicitDefEqProofs only [go_sem, Nat.reduceBEq, Nat.reduceAdd, Nat.reduceLeDiff, Nat.reduceSub, Int.reduceEq, bl3h, rowCl, plnC, mkPl, Bool.not_true, decide_true])
    | (refine CallE.of (c_eqByteSS vs (by omega) (fun b h => by have := hvb b h; omega)) ?_ ?_ ?_; rotate_left; (· (simp -dsimp -implicitDefEqProofs only [go_sem, Nat.reduceBEq, Nat.reduceAdd, Nat.reduceLeDiff, Nat.reduceSub, Int.reduceEq, bl3h, rowCl, plnC, mkPl, Bool.not_true, decide_true]; done)); rotate_left; (· (rintro r rfl; (repeat' first | exact trivial | exact pure_rowB _ | exact pure_rowO _ | exact pure_rowI _ | exact pure_rowBB _ | exact pure_rowPk _ _ | exact pure_rowSn _ _ | exact pure_rowFd _ _ | exact pure_rowBBB _ | exact pure_rowCl _ _ | exact pure_rowTb _ _ _ | refine And.intro ?_ ?_))); rintro r rfl; try simp -dsimp -implicitDefEqProofs only [go_sem, Nat.reduceBEq, Nat.reduceAdd, Nat.reduceLeDiff, Nat.reduceSub, Int.reduceEq, bl3h, rowCl, plnC, mkPl, Bool.not_true, decide_true])
    | (refine CallE.mut (c_markByteSS vs 1 (by omega) (by omega) (fun b h => by have := hvb b h; omega)) (by simp -dsimp -implicitDefEqProofs only [go_sem, Nat.reduceBEq, Nat.reduceAdd, Nat.reduceLeDiff, Nat.reduceSub, Int.reduceEq]) ?_ ?_ ?_ ?_; rotate_left; (· (simp -dsimp -implicitDefEqProofs only [go_sem, Nat.reduceBEq, Nat.reduceAdd, Nat.reduceLeDiff, Nat.reduceSub, Int.reduceEq, bl3h, rowCl, plnC, mkPl, Bool.not_true, decide_true]; done)); (· (simp -dsimp -implicitDefEqProofs only [go_sem, Nat.reduceBEq, Nat.reduceAdd, Nat.reduceLeDiff, Nat.reduceSub, Int.reduceEq, bl3h, rowCl, plnC, mkPl, Bool.not_true, decide_true]; done)); rotate_left; (· (rintro r rs ⟨rfl, rfl⟩; exact ⟨by (repeat' first | exact trivial | exact pure_rowB _ | exact pure_rowO _ | exact pure_rowI _ | exact pure_rowBB _ | exact pure_rowPk _ _ | exact pure_rowSn _ _ | exact pure_rowFd _ _ | exact pure_rowBBB _ | exact pure_rowCl _ _ | exact pure_rowTb _ _ _ | refine And.intro ?_ ?_), by first | exact ⟨by (repeat' first | exact trivial | exact pure_rowB _ | exact pure_rowO _ | exact pure_rowI _ | exact pure_rowBB _ | exact pure_rowPk _ _ | exact pure_rowSn _ _ | exact pure_rowFd _ _ | exact pure_rowBBB _ | exact pure_rowCl _ _ | exact pure_rowTb _ _ _ | refine And.intro ?_ ?_), trivial⟩ | exact ⟨by (repeat' first | exact trivial | exact pure_rowB _ | exact pure_rowO _ | exact pure_rowI _ | exact pure_rowBB _ | exact pure_rowPk _ _ | exact pure_rowSn _ _ | exact pure_rowFd _ _ | exact pure_rowBBB _ | exact pure_rowCl _ _ | exact pure_rowTb _ _ _ | refine And.intro ?_ ?_), trivial, trivial⟩⟩)); rintro r rs ⟨rfl, rfl⟩; try simp -dsimp -implicitDefEqProofs only [go_sem, Nat.reduceBEq, Nat.reduceAdd, Nat.reduceLeDiff, Nat.reduceSub, Int.reduceEq, bl3h, rowCl, plnC, mkPl, Bool.not_true, decide_true])
    | (refine CallE.mut (c_markCellS cs (1 + wBB vs) (by omega) (by omega) hcb) (by simp -dsimp -implicitDefEqProofs only [go_sem, Nat.reduceBEq, Nat.reduceAdd, Nat.reduceLeDiff, Nat.reduceSub, Int.reduceEq]) ?_ ?_ ?_ ?_; rotate_left; (· (simp -dsimp -implicitDefEqProofs only [go_sem, Nat.reduceBEq, Nat.reduceAdd, Nat.reduceLeDiff, Nat.reduceSub, Int.reduceEq, bl3h, rowCl, plnC, mkPl, Bool.not_true, decide_true]; done)); (· (simp -dsimp -implicitDefEqProofs only [go_sem, Nat.reduceBEq, Nat.reduceAdd, Nat.reduceLeDiff, Nat.reduceSub, Int.reduceEq, bl3h, rowCl, plnC, mkPl, Bool.not_true, decide_true]; done)); rotate_left; (· (rintro r rs ⟨rfl, rfl⟩; exact ⟨by (repeat' first | exact trivial | exact pure_rowB _ | exact pure_rowO _ | exact pure_rowI _ | exact pure_rowBB _ | exact pure_rowPk _ _ | exact pure_rowSn _ _ | exact pure_rowFd _ _ | exact pure_rowBBB _ | exact pure_rowCl _ _ | exact pure_rowTb _ _ _ | refine And.intro ?_ ?_), by first | exact ⟨by (repeat' first | exact trivial | exact pure_rowB _ | exact pure_rowO _ | exact pure_rowI _ | exact pure_rowBB _ | exact pure_rowPk _ _ | exact pure_rowSn _ _ | exact pure_rowFd _ _ | exact pure_rowBBB _ | exact pure_rowCl _ _ | exact pure_rowTb _ _ _ | refine And.intro ?_ ?_), trivial⟩ | exact ⟨by (repeat' first | exact trivial | exact pure_rowB _ | exact pure_rowO _ | exact pure_rowI _ | exact pure_rowBB _ | exact pure_rowPk _ _ | exact pure_rowSn _ _ | exact pure_rowFd _ _ | exact pure_rowBBB _ | exact pure_rowCl _ _ | exact pure_rowTb _ _ _ | refine And.intro ?_ ?_), trivial, trivial⟩⟩)); rintro r rs ⟨rfl, rfl⟩; try simp -dsimp -implicitDefEqProofs only [go_sem, Nat.reduceBEq, Nat.reduceAdd, Nat.reduceLeDiff, Nat.reduceSub, Int.reduceEq, bl3h, rowCl, plnC, mkPl, Bool.not_true, decide_true])
    | (refine CallE.mut (c_markPlan y 1 (by omega) hy) (by simp -dsimp -implicitDefEqProofs only [go_sem, Nat.reduceBEq, Nat.reduceAdd, Nat.reduceLeDiff, Nat.reduceSub, Int.reduceEq]) ?_ ?_ ?_ ?_; rotate_left; (· (simp -dsimp -implicitDefEqProofs only [go_sem, Nat.reduceBEq, Nat.reduceAdd, Nat.reduceLeDiff, Nat.reduceSub, Int.reduceEq, bl3h, rowCl, plnC, mkPl, Bool.not_true, decide_true]; done)); (· (simp -dsimp -implicitDefEqProofs only [go_sem, Nat.reduceBEq, Nat.reduceAdd, Nat.reduceLeDiff, Nat.reduceSub, Int.reduceEq, bl3h, rowCl, plnC, mkPl, Bool.not_true, decide_true]; done)); rotate_left; (· (rintro r rs ⟨rfl, rfl⟩; exact ⟨by (repeat' first | exact trivial | exact pure_rowB _ | exact pure_rowO _ | exact pure_rowI _ | exact pure_rowBB _ | exact pure_rowPk _ _ | exact pure_rowSn _ _ | exact pure_rowFd _ _ | exact pure_rowBBB _ | exact pure_rowCl _ _ | exact pure_rowTb _ _ _ | refine And.intro ?_ ?_), by first | exact ⟨by (repeat' first | exact trivial | exact pure_rowB _ | exact pure_rowO _ | exact pure_rowI _ | exact pure_rowBB _ | exact pure_rowPk _ _ | exact pure_rowSn _ _ | exact pure_rowFd _ _ | exact pure_rowBBB _ | exact pure_rowCl _ _ | exact pure_rowTb _ _ _ | refine And.intro ?_ ?_), trivial⟩ | exact ⟨by (repeat' first | exact trivial | exact pure_rowB _ | exact pure_rowO _ | exact pure_rowI _ | exact pure_rowBB _ | exact pure_rowPk _ _ | exact pure_rowSn _ _ | exact pure_rowFd _ _ | exact pure_rowBBB _ | exact pure_rowCl _ _ | exact pure_rowTb _ _ _ | refine And.intro ?_ ?_), trivial, trivial⟩⟩)); rintro r rs ⟨rfl, rfl⟩; try simp -dsimp -implicitDefEqProofs only [go_sem, Nat.reduceBEq, Nat.reduceAdd, Nat.reduceLeDiff, Nat.reduceSub, Int.reduceEq, bl3h, rowCl, plnC, mkPl, Bool.not_true, decide_true])
    | (refine CallE.of (c_heldPlan y 1 (by omega) hy) ?_ ?_ ?_; rotate_left; (· (simp -dsimp -implicitDefEqProofs only [go_sem, Nat.reduceBEq, Nat.reduceAdd, Nat.reduceLeDiff, Nat.reduceSub, Int.reduceEq, bl3h, rowCl, plnC, mkPl, Bool.not_true, decide_true]; done)); rotate_left; (· (rintro r rfl; (repeat' first | exact trivial | exact pure_rowB _ | exact pure_rowO _ | exact pure_rowI _ | exact pure_rowBB _ | exact pure_rowPk _ _ | exact pure_rowSn _ _ | exact pure_rowFd _ _ | exact pure_rowBBB _ | exact pure_rowCl _ _ | exact pure_rowTb _ _ _ | refine And.intro ?_ ?_))); rintro r rfl; try simp -dsimp -implicitDefEqProofs only [go_sem, Nat.reduceBEq, Nat.reduceAdd, Nat.reduceLeDiff, Nat.reduceSub, Int.reduceEq, bl3h, rowCl, plnC, mkPl, Bool.not_true, decide_true])
    | with_reducible refine ifB'.no (by omega) ?_
    | simp -dsimp -implicitDefEqProofs only [go_sem, Nat.reduceBEq, Nat.reduceAdd, Nat.reduceLeDiff, Nat.reduceSub, Int.reduceEq, bl3h, rowCl, plnC, mkPl, Bool.not_true, decide_true])
end Go.Ev
set_option linter.unusedSimpArgs false
set_option linter.unusedVariables false
namespace Go.Ev
open Go Go.RowKit
variable {P : Program}
theorem RepVs.shift {C : Cx} {cl : Bool} {o : Org} : ∀ {us : List AV} {vs : List Value} {q q' : Nat}, RepVs C cl (.read o) q us vs → RepVs C cl (.read o) q' us vs
  | [], vs, q, q', h => h
  | c :: cs, vs, q, q', h => by
    obtain ⟨y, ys, e, h1, h2⟩ := h
    exact ⟨y, ys, e, h1, RepVs.shift h2⟩
theorem RepVs.app {C : Cx} {cl : Bool} {o : Org} {bs : List AV} {ws : List Value} : ∀ {us : List AV} {vs : List Value} {q : Nat}, RepVs C cl (.read o) q us vs → RepVs C cl (.read o) 0 bs ws → RepVs C cl (.read o) q (us ++ bs) (vs ++ ws)
  | [], vs, q, h, h' => by
    have e : vs = [] := h
    rw [e]; exact h'.shift
  | c :: cs, vs, q, h, h' => by
    obtain ⟨y, ys, e, h1, h2⟩ := h
    exact ⟨y, ys ++ ws, by rw [e]; rfl, h1, RepVs.app h2 h'⟩
def OpensG (P : Program) (fs : List Field) (off tot : Nat) {α : Type} (enc : α → List AV) (inv : α → Prop) : Prop :=
  ∀ {H : Type} (eh : TypeId × Value → H) (W : World) (n : Nat) (cs : List Value) (xs : List (DataW H × List MemPlace)), cs.length = tot → xs.length = fs.length →
    (∀ (i : Nat) (f : Field), fs[i]? = some f → DataW.trod eh P W 0 (fun _ => true) true n f.type ((cs.drop f.offset).take (P.cellsOf f.type)) = xs[i]?) → (∀ m ∈ DataW.weightsEach P (fs.map (·.type)) (xs.map (·.1)), m ≤ reachBytes) →
    ∃ a : α, inv a ∧ RepVs (inC W) true (.read .ent) 0 (enc a) (cs.drop off)
theorem OpensG.nil {tot : Nat} : OpensG P [] tot tot (fun _ : Unit => []) (fun _ => True) := fun eh W n cs xs h _ _ _ => ⟨(), trivial, by rw [List.drop_of_length_le (by omega)]; rfl⟩
theorem OpensG.cons {f : Field} {fs : List Field} {off k tot : Nat} {α β : Type} {enc : α → List AV} {inv : α → Prop} {encs : β → List AV} {invs : β → Prop} (hoff : f.offset = off) (hk : P.cellsOf f.type = k) (h : Opens P f.type enc inv) (hs : OpensG P fs (off + k) tot encs invs) :
    OpensG P (f :: fs) off tot (fun p : α × β => enc p.1 ++ encs p.2) (fun p => inv p.1 ∧ invs p.2) := fun eh W n cs xs hl hx hf hw => by
  match xs, hx with
  | x :: xs, hx =>
    have h0 := hf 0 f rfl
    rw [hoff, hk] at h0
    obtain ⟨a, ha, hra⟩ := h eh W n _ x h0 (fun m hm => hw m (by simp only [List.map_cons, DataW.weightsEach, List.mem_append]; exact .inl hm))
    obtain ⟨b, hb, hrb⟩ := hs eh W n cs xs hl (by simpa using hx) (fun i g hg => by simpa using hf (i + 1) g (by simpa using hg)) (fun m hm => hw m (by simp only [List.map_cons, DataW.weightsEach, List.mem_append]; exact .inr hm))
    refine ⟨(a, b), ⟨ha, hb⟩, ?_⟩
    have e : cs.drop off = (cs.drop off).take k ++ cs.drop (off + k) := by rw [← List.drop_drop, List.take_append_drop]
    rw [e]
    exact hra.app hrb
theorem Opens.struct {t : TypeId} {fs : Array Field} {tot : Nat} (ht : P.underlying t = some (.struct fs)) (htot : P.cellsOf t = tot) {α : Type} {enc : α → List AV} {inv : α → Prop} (h : OpensG P fs.toList 0 tot enc inv) : Opens P t enc inv := fun eh W fuel cs x hx hw => by
  obtain ⟨xs, n, _, rfl, hl, hlen, hf⟩ := DataW.trod_struct ht hx
  obtain ⟨a, ha, hr⟩ := h eh W n cs xs (by rw [hl, htot]) (by simpa using hlen) (fun i f hi => hf i f (by simpa using hi)) (fun m hm => hw m (by simp only [DataW.weights, ht]; exact hm))
  exact ⟨a, ha, hr⟩
theorem Opens.map {t : TypeId} {α β : Type} {enc : α → List AV} {inv : α → Prop} {enc' : β → List AV} {inv' : β → Prop} (g : α → β) (he : ∀ a, enc' (g a) = enc a) (hi : ∀ a, inv a → inv' (g a)) (h : Opens P t enc inv) : Opens P t enc' inv' := fun eh W fuel cs x hx hw => by
  obtain ⟨a, ha, hr⟩ := h eh W fuel cs x hx hw
  exact ⟨g a, hi a ha, by rw [he]; exact hr⟩
end Go.Ev
