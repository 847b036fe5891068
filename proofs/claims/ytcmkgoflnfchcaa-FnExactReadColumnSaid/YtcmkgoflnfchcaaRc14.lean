/- Part 14 of what the row leans on: the evaluator, words, contracts of functions; pruned by a program of ours. -/
import Derived.Test.YtcmkgoflnfchcaaRc13
set_option linter.unusedSimpArgs false
set_option linter.unusedVariables false
namespace Go.Ev
open Go Go.RowKit Go.Proofs
theorem b11 : Nat.ble 1 1 = true := rfl
theorem par_bools : parTys Try.prog 211 = [195, 74] := by kernel_rfl
theorem par_numbers : parTys Try.prog 214 = [197, 74] := by kernel_rfl
theorem par_texts : parTys Try.prog 223 = [200, 74] := by kernel_rfl
theorem par_places : parTys Try.prog 227 = [202, 74] := by kernel_rfl
theorem cty_bools : cty Try.prog 195 = [] := by kernel_rfl
theorem cty_numbers : cty Try.prog 197 = [none] := by kernel_rfl
theorem cty_texts : cty Try.prog 200 = [] := by kernel_rfl
theorem cty_places : cty Try.prog 202 = [some (22, 1)] := by kernel_rfl
def bldI (f : Fd) (vs : List (List UInt8)) : AV := if f.k = 0 then .ifc 195 (.agg []) else if f.k = 1 then .ifc 197 (.agg [.v (.int .i64 f.w)]) else if f.k = 2 then .ifc 200 (.agg []) else .ifc 202 (.agg [.rd .ent 22 1 (ra byC vs)])
set_option maxRecDepth 8000 in
theorem c_builderOf (f : Fd) (vs : List (List UInt8)) (hb : f.f.length ≤ 1048576) (hv : vs.length ≤ 1048576) : Meets Try.prog 134 [.agg [.rd .ent 5 1 (bytesA f.f), .v (.int .i64 f.k), .v (.int .i64 f.w)], .rd .ent 22 1 (ra byC vs)] (fun r => r = bldI f vs) := by
  refine Meets.intro mixed (hint []) Try.func134 rfl (by decide) res_134 rty_134 (by kernel_rfl) ?_; 
  simp -dsimp -implicitDefEqProofs only [go_sem, Nat.reduceBEq, Nat.reduceAdd, Nat.reduceLeDiff, Nat.reduceSub, Int.reduceEq]
  repeat (first | with_reducible refine ask.of (by first | omega | decide) ?_ | simp -dsimp -implicitDefEqProofs only [go_sem, Nat.reduceBEq, Nat.reduceAdd, Nat.reduceLeDiff, Nat.reduceSub, Int.reduceEq, initE, bl3])
  unfold bldI
  refine ifB'.of (fun h0 => ?_) (fun h0 => ?_)
  · rw [if_pos h0]
    simp -dsimp -implicitDefEqProofs only [go_sem, Nat.reduceBEq, Nat.reduceAdd, Nat.reduceLeDiff, Nat.reduceSub, Int.reduceEq]
  rw [if_neg h0]
  simp -dsimp -implicitDefEqProofs only [go_sem, Nat.reduceBEq, Nat.reduceAdd, Nat.reduceLeDiff, Nat.reduceSub, Int.reduceEq]
  refine ifB'.of (fun h1 => ?_) (fun h1 => ?_)
  · rw [if_pos h1]
    repeat (first | with_reducible refine ask.of (by first | omega | decide) ?_ | simp -dsimp -implicitDefEqProofs only [go_sem, Nat.reduceBEq, Nat.reduceAdd, Nat.reduceLeDiff, Nat.reduceSub, Int.reduceEq, initE, bl3, b11])
  rw [if_neg h1]
  simp -dsimp -implicitDefEqProofs only [go_sem, Nat.reduceBEq, Nat.reduceAdd, Nat.reduceLeDiff, Nat.reduceSub, Int.reduceEq]
  refine ifB'.of (fun h2 => ?_) (fun h2 => ?_)
  · rw [if_pos h2]
    simp -dsimp -implicitDefEqProofs only [go_sem, Nat.reduceBEq, Nat.reduceAdd, Nat.reduceLeDiff, Nat.reduceSub, Int.reduceEq]
  rw [if_neg h2]
  repeat (first | with_reducible refine ask.of (by first | omega | decide) ?_ | simp -dsimp -implicitDefEqProofs only [go_sem, Nat.reduceBEq, Nat.reduceAdd, Nat.reduceLeDiff, Nat.reduceSub, Int.reduceEq, initE, bl3, b11])
def validB (cs : List Cl) : List UInt8 := if false ∈ thereL cs then packB (thereL cs) else []
def bodyB (f : Fd) (cs : List Cl) (vs : List (List UInt8)) : List (List UInt8) := if f.k = 0 then [packB (bitsL cs)] else if f.k = 1 then [(packIC (intsL cs) f.w).1] else if f.k = 2 then [(packIC (offL cs) 4).1, dataL cs] else [(packIC (plcL vs cs) 1).1]
def bcOk (f : Fd) (cs : List Cl) (vs : List (List UInt8)) : Prop := (fdOk f ∧ cs.length ≤ 100 ∧ okD vs) ∧ (∀ c ∈ cs, clOk f c) ∧ (f.k = 3 → ∀ c ∈ cs, c.z = false → c.f ∈ vs)
noncomputable def bldL (f : Fd) (cs : List Cl) (vs : List (List UInt8)) : List (List UInt8) × Int := @ite _ (bcOk f cs vs) (Classical.propDecidable _) (validB cs :: bodyB f cs vs, 0) ([], 1)
theorem bldL_yes {f : Fd} {cs : List Cl} {vs : List (List UInt8)} (h : bcOk f cs vs) : bldL f cs vs = (validB cs :: bodyB f cs vs, 0) := @if_pos _ (Classical.propDecidable _) h _ _ _
theorem bldL_no {f : Fd} {cs : List Cl} {vs : List (List UInt8)} (h : ¬ bcOk f cs vs) : bldL f cs vs = ([], 1) := @if_neg _ (Classical.propDecidable _) h _ _ _
noncomputable def resB (y : List (List UInt8) × Int) : AV := .tup [rowBB y.1, .v (.int .i64 y.2)]
theorem bld_no {f : Fd} {cs : List Cl} {vs : List (List UInt8)} (h : ¬ bcOk f cs vs) : AV.tup [.row 22 1 [], .v (.int .i64 1)] = resB (bldL f cs vs) := by rw [bldL_no h]; rfl
theorem packIC_ok {xs : List Int} {n : Int} (h : isW n = true) (hf : ∀ x ∈ xs, fitsB n.toNat x = true) : (packIC xs n).2 = 0 := by
  unfold packIC
  rw [if_pos h, if_pos (List.all_eq_true.2 hf)]
theorem fits4 {x : Int} (h : 0 ≤ x ∧ x ≤ 1048576) : fitsB 4 x = true := by unfold fitsB; exact decide_eq_true (.inr (by constructor <;> omega))
theorem fits1 {x : Int} (h : -1 ≤ x ∧ x ≤ 40) : fitsB 1 x = true := by unfold fitsB; exact decide_eq_true (.inr (by constructor <;> omega))
theorem off_code {cs : List Cl} (h : szL clW cs ≤ 1048576) : (packIC (offL cs) 4).2 = 0 := packIC_ok (by decide) fun x hx => by have := offP_mem hx; exact fits4 (by omega)
theorem plc_code {vs : List (List UInt8)} {cs : List Cl} (h : vs.length ≤ 40) : (packIC (plcL vs cs) 1).2 = 0 := packIC_ok (by decide) fun x hx => by
  obtain ⟨c, _, rfl⟩ := List.mem_map.1 hx
  refine fits1 ?_
  unfold plc
  have := plI_le vs c.f
  split <;> omega
theorem int_code {f : Fd} {cs : List Cl} (hf : fdOk f) (h1 : f.k = 1) (hc : ∀ c ∈ cs, clOk f c) : (packIC (intsL cs) f.w).2 = 0 := by
  obtain ⟨w, hw, hww⟩ := fd_w hf h1
  rw [hw]
  refine packIC_ok (isW_of hww) fun x hx => ?_
  obtain ⟨c, hcm, rfl⟩ := List.mem_map.1 hx
  have := hc c hcm
  unfold clOk at this
  by_cases hz : c.z = true
  · rw [if_pos hz] at this
    rw [this.1, Int.toNat_natCast]
    rcases hww with rfl | rfl | rfl | rfl <;> decide
  · rw [if_neg hz, if_neg (by omega), if_pos h1] at this
    rw [hw] at this
    exact this.1
theorem bk_cases {f : Fd} (h : fdOk f) : f.k = 0 ∨ f.k = 1 ∨ f.k = 2 ∨ f.k = 3 := by have := h.2; omega
theorem there_succ {cs : List Cl} {i : Nat} (h : i < cs.length) : thereL (cs.take i) ++ [!cs[i].z] = thereL (cs.take (i + 1)) := map_takeS (fun c : Cl => !c.z) h
theorem there_len (cs : List Cl) : (thereL cs).length = cs.length := by simp [thereL]
set_option maxRecDepth 8000 in
set_option maxHeartbeats 4000000 in
theorem c_implBuildColumn (f : Fd) (cs : List Cl) (vs : List (List UInt8)) (hf : f.f.length ≤ 1048576) (hc : cs.length + szL clW cs ≤ 1048576) (hi : ∀ c ∈ cs, i64r c.i) (hv : vs.length + wBB vs ≤ 1048576) : Meets Try.prog 51 [.agg (fdC f), rowCl 145 cs, rowBB vs] (fun r => r = resB (bldL f cs vs)) := by
  refine Meets.intro mixed (hint []) Try.func51 rfl (by decide) res_51 rty_51 (by kernel_rfl) ?_; 
  simp -dsimp -implicitDefEqProofs only [go_sem, Nat.reduceBEq, Nat.reduceAdd, Nat.reduceLeDiff, Nat.reduceSub, Int.reduceEq, fdC, rowCl]
  have hcb : ∀ c ∈ cs, c.f.length ≤ 1048576 := fun c h => by have := clW_mem h; omega
  repeat (first | with_reducible refine ask.of (by first | omega | decide) ?_ | simp -dsimp -implicitDefEqProofs only [go_sem, Nat.reduceBEq, Nat.reduceAdd, Nat.reduceLeDiff, Nat.reduceSub, Int.reduceEq, initE, rowCl, bl3])
  refine CallE.of (c_fieldOk f hf) (by rintro r rfl; (repeat' first | exact trivial | exact pure_rowB _ | exact pure_rowO _ | exact pure_rowI _ | exact pure_rowBB _ | exact pure_rowPk _ _ | exact pure_rowSn _ _ | exact pure_rowFd _ _ | exact pure_rowBBB _ | exact pure_rowCl _ _ | exact pure_rowTb _ _ _ | refine And.intro ?_ ?_)) (by simp -dsimp -implicitDefEqProofs only [go_sem, Nat.reduceBEq, Nat.reduceAdd, Nat.reduceLeDiff, Nat.reduceSub, Int.reduceEq, fdC]) ?_
  rintro r rfl
  simp -dsimp -implicitDefEqProofs only [go_sem, Nat.reduceBEq, Nat.reduceAdd, Nat.reduceLeDiff, Nat.reduceSub, Int.reduceEq, fdC]
  by_cases h1 : fdOk f
  · simp -dsimp -implicitDefEqProofs only [go_sem, Nat.reduceBEq, Nat.reduceAdd, Nat.reduceLeDiff, Nat.reduceSub, Int.reduceEq, decide_eq_true h1, Bool.not_true]
    repeat (first | with_reducible refine ask.of (by first | omega | decide) ?_ | simp -dsimp -implicitDefEqProofs only [go_sem, Nat.reduceBEq, Nat.reduceAdd, Nat.reduceLeDiff, Nat.reduceSub, Int.reduceEq, decide_eq_true h1, Bool.not_true, initE, rowCl, bl3])
    refine CallE.of (c_iValidDict vs hv) (by rintro r rfl; (repeat' first | exact trivial | exact pure_rowB _ | exact pure_rowO _ | exact pure_rowI _ | exact pure_rowBB _ | exact pure_rowPk _ _ | exact pure_rowSn _ _ | exact pure_rowFd _ _ | exact pure_rowBBB _ | exact pure_rowCl _ _ | exact pure_rowTb _ _ _ | refine And.intro ?_ ?_)) (by simp -dsimp -implicitDefEqProofs only [go_sem, Nat.reduceBEq, Nat.reduceAdd, Nat.reduceLeDiff, Nat.reduceSub, Int.reduceEq]) ?_
    rintro r rfl
    simp -dsimp -implicitDefEqProofs only [go_sem, Nat.reduceBEq, Nat.reduceAdd, Nat.reduceLeDiff, Nat.reduceSub, Int.reduceEq]
    by_cases h2 : okD vs
    · simp -dsimp -implicitDefEqProofs only [go_sem, Nat.reduceBEq, Nat.reduceAdd, Nat.reduceLeDiff, Nat.reduceSub, Int.reduceEq, decide_eq_true h2, Bool.not_true]
      repeat (first | with_reducible refine ask.of (by first | omega | decide) ?_ | simp -dsimp -implicitDefEqProofs only [go_sem, Nat.reduceBEq, Nat.reduceAdd, Nat.reduceLeDiff, Nat.reduceSub, Int.reduceEq, decide_eq_true h2, Bool.not_true, initE, rowCl, bl3])
      refine ifB'.of (fun h3 => ?_) (fun h3 => ?_)
      · simp -dsimp -implicitDefEqProofs only [go_sem, Nat.reduceBEq, Nat.reduceAdd, Nat.reduceLeDiff, Nat.reduceSub, Int.reduceEq]
        exact bld_no fun h => by have := h.1.2.1; omega
      have h3 : cs.length ≤ 100 := by omega
      repeat (first | with_reducible refine ask.of (by first | omega | decide) ?_ | simp -dsimp -implicitDefEqProofs only [go_sem, Nat.reduceBEq, Nat.reduceAdd, Nat.reduceLeDiff, Nat.reduceSub, Int.reduceEq, initE, rowCl, bl3])
      refine LoopE.cnt cs.length (fun i s => s.env 1 = .rd .ent 145 3 (ra clC cs) ∧ s.env 2 = .rd .ent 22 1 (ra byC vs) ∧ s.env 3 = .ptr [3] 0 0 0 ∧ s.env 8 = .ref [27] ∧ s.env 28 = .rd .ent 145 3 (ra clC cs) ∧ s.env 29 = .v (.int .i64 cs.length) ∧ s.env 30 = .v (.int .i64 i) ∧ s.σ [3] = some (.box 84 [.rd .ent 5 1 (bytesA f.f), .v (.int .i64 f.k), .v (.int .i64 f.w)]) ∧ s.σ [27] = some (.row 4 1 (ra boolC (thereL (cs.take i)))) ∧ ∀ c ∈ cs.take i, clOk f c) ⟨by simp -dsimp -implicitDefEqProofs only [go_sem, Nat.reduceBEq, Nat.reduceAdd, Nat.reduceLeDiff, Nat.reduceSub, Int.reduceEq, initE, rowCl], by simp -dsimp -implicitDefEqProofs only [go_sem, Nat.reduceBEq, Nat.reduceAdd, Nat.reduceLeDiff, Nat.reduceSub, Int.reduceEq, initE], by simp -dsimp -implicitDefEqProofs only [go_sem, Nat.reduceBEq, Nat.reduceAdd, Nat.reduceLeDiff, Nat.reduceSub, Int.reduceEq], by simp -dsimp -implicitDefEqProofs only [go_sem, Nat.reduceBEq, Nat.reduceAdd, Nat.reduceLeDiff, Nat.reduceSub, Int.reduceEq], by simp -dsimp -implicitDefEqProofs only [go_sem, Nat.reduceBEq, Nat.reduceAdd, Nat.reduceLeDiff, Nat.reduceSub, Int.reduceEq, initE, rowCl], by simp -dsimp -implicitDefEqProofs only [go_sem, Nat.reduceBEq, Nat.reduceAdd, Nat.reduceLeDiff, Nat.reduceSub, Int.reduceEq, initE, rowCl], by simp -dsimp -implicitDefEqProofs only [go_sem, Nat.reduceBEq, Nat.reduceAdd, Nat.reduceLeDiff, Nat.reduceSub, Int.reduceEq] <;> rfl, by simp -dsimp -implicitDefEqProofs only [go_sem, Nat.reduceBEq, Nat.reduceAdd, Nat.reduceLeDiff, Nat.reduceSub, Int.reduceEq, initE], by simp -dsimp -implicitDefEqProofs only [go_sem, Nat.reduceBEq, Nat.reduceAdd, Nat.reduceLeDiff, Nat.reduceSub, Int.reduceEq] <;> rfl, by simp⟩ ?_
      rintro i ⟨e, σ⟩ hii ⟨g1, g2, g3, g8, g28, g29, g30, s3, s27, hall⟩ K hK
      simp only at g1 g2 g3 g8 g28 g29 g30 s3 s27
      simp -dsimp -implicitDefEqProofs only [go_sem, Nat.reduceBEq, Nat.reduceAdd, Nat.reduceLeDiff, Nat.reduceSub, Int.reduceEq, g1, g2, g3, g8, g28, g29, g30, s3, s27]
      have hl : (thereL (cs.take i)).length = i := by rw [there_len]; simp; omega
      refine ifB'.of (fun hlt => ?_) (fun hlt => ?_)
      · have hlt : i < cs.length := by omega
        have hm := List.getElem_mem hlt
        repeat (first | with_reducible refine ask.of (by first | omega | decide) ?_ | simp -dsimp -implicitDefEqProofs only [go_sem, Nat.reduceBEq, Nat.reduceAdd, Nat.reduceLeDiff, Nat.reduceSub, Int.reduceEq, g1, g2, g3, g8, g28, g29, g30, s3, s27, Cl_at hlt, clC, bl3])
        refine CallE.of (c_cellOk f cs[i] h1 (hcb _ hm) (hi _ hm)) (by rintro r rfl; (repeat' first | exact trivial | exact pure_rowB _ | exact pure_rowO _ | exact pure_rowI _ | exact pure_rowBB _ | exact pure_rowPk _ _ | exact pure_rowSn _ _ | exact pure_rowFd _ _ | exact pure_rowBBB _ | exact pure_rowCl _ _ | exact pure_rowTb _ _ _ | refine And.intro ?_ ?_)) (by simp -dsimp -implicitDefEqProofs only [go_sem, Nat.reduceBEq, Nat.reduceAdd, Nat.reduceLeDiff, Nat.reduceSub, Int.reduceEq, g1, g2, g3, g8, g28, g29, g30, s3, s27, fdC, clC]) ?_
        rintro r rfl
        simp -dsimp -implicitDefEqProofs only [go_sem, Nat.reduceBEq, Nat.reduceAdd, Nat.reduceLeDiff, Nat.reduceSub, Int.reduceEq, g1, g2, g3, g8, g28, g29, g30, s3, s27, fdC, clC]
        by_cases hc1 : clOk f cs[i]
        · repeat (first | with_reducible refine ask.of (by first | omega | decide) ?_ | simp -dsimp -implicitDefEqProofs only [go_sem, Nat.reduceBEq, Nat.reduceAdd, Nat.reduceLeDiff, Nat.reduceSub, Int.reduceEq, g1, g2, g3, g8, g28, g29, g30, s3, s27, decide_eq_true hc1, Bool.not_true, bl3, hl])
          refine hK _ hlt ?_
          simp -dsimp -implicitDefEqProofs only [go_sem, Nat.reduceBEq, Nat.reduceAdd, Nat.reduceLeDiff, Nat.reduceSub, Int.reduceEq, g1, g2, g3, g8, g28, g29, g30, s3, s27, wrap_succ (show i < 4611686018427387904 by omega), there_succ hlt]
          intro c hcm
          rw [List.take_succ_eq_append_getElem hlt] at hcm
          rcases List.mem_append.1 hcm with hcm | hcm
          · exact hall c hcm
          · rw [List.mem_singleton.1 hcm]; exact hc1
        · simp -dsimp -implicitDefEqProofs only [go_sem, Nat.reduceBEq, Nat.reduceAdd, Nat.reduceLeDiff, Nat.reduceSub, Int.reduceEq, g1, g2, g3, g8, g28, g29, g30, s3, s27, decide_eq_false hc1, Bool.not_false]
          exact bld_no fun h => hc1 (h.2.1 _ hm)
      · have : i = cs.length := by omega
        subst this
        rw [List.take_length] at s27 hall
        repeat (first | with_reducible refine ask.of (by first | omega | decide) ?_ | simp -dsimp -implicitDefEqProofs only [go_sem, Nat.reduceBEq, Nat.reduceAdd, Nat.reduceLeDiff, Nat.reduceSub, Int.reduceEq, g1, g2, g3, g8, g28, g29, g30, s3, s27, bl3])
        refine CallE.of (c_containsBool (thereL cs) false (by rw [there_len]; omega)) (by rintro r rfl; (repeat' first | exact trivial | exact pure_rowB _ | exact pure_rowO _ | exact pure_rowI _ | exact pure_rowBB _ | exact pure_rowPk _ _ | exact pure_rowSn _ _ | exact pure_rowFd _ _ | exact pure_rowBBB _ | exact pure_rowCl _ _ | exact pure_rowTb _ _ _ | refine And.intro ?_ ?_)) (by simp -dsimp -implicitDefEqProofs only [go_sem, Nat.reduceBEq, Nat.reduceAdd, Nat.reduceLeDiff, Nat.reduceSub, Int.reduceEq, g1, g2, g3, g8, g28, g29, g30, s3, s27]) ?_
        rintro r rfl
        simp -dsimp -implicitDefEqProofs only [go_sem, Nat.reduceBEq, Nat.reduceAdd, Nat.reduceLeDiff, Nat.reduceSub, Int.reduceEq, g1, g2, g3, g8, g28, g29, g30, s3, s27]
        have hB := c_builderOf f vs hf (by omega)
        have hir : ∀ c ∈ cs, i64r c.i := hi
        refine ifB'.of (fun hmem => ?_) (fun hmem => ?_)
        · repeat (first | with_reducible refine ask.of (by first | omega | decide) ?_ | simp -dsimp -implicitDefEqProofs only [go_sem, Nat.reduceBEq, Nat.reduceAdd, Nat.reduceLeDiff, Nat.reduceSub, Int.reduceEq, g1, g2, g3, g8, g28, g29, g30, s3, s27, bl3])
          refine CallE.of (c_iPackBits (thereL cs) (by rw [there_len]; omega)) (by rintro r rfl; (repeat' first | exact trivial | exact pure_rowB _ | exact pure_rowO _ | exact pure_rowI _ | exact pure_rowBB _ | exact pure_rowPk _ _ | exact pure_rowSn _ _ | exact pure_rowFd _ _ | exact pure_rowBBB _ | exact pure_rowCl _ _ | exact pure_rowTb _ _ _ | refine And.intro ?_ ?_)) (by simp -dsimp -implicitDefEqProofs only [go_sem, Nat.reduceBEq, Nat.reduceAdd, Nat.reduceLeDiff, Nat.reduceSub, Int.reduceEq, g1, g2, g3, g8, g28, g29, g30, s3, s27]) ?_
          rintro r rfl
          simp -dsimp -implicitDefEqProofs only [go_sem, Nat.reduceBEq, Nat.reduceAdd, Nat.reduceLeDiff, Nat.reduceSub, Int.reduceEq, g1, g2, g3, g8, g28, g29, g30, s3, s27]
          have hvB : validB cs = packB (thereL cs) := if_pos hmem
          rcases bk_cases h1 with hk | hk | hk | hk
          · have hC : bcOk f cs vs := ⟨⟨h1, h3, h2⟩, hall, fun h => by omega⟩
            rw [bldL_yes hC, bodyB, if_pos hk, hvB]
            unfold bldI at hB
            rw [if_pos hk] at hB
            repeat (first | with_reducible refine ask.of (by first | omega | decide) ?_ | simp -dsimp -implicitDefEqProofs only [go_sem, Nat.reduceBEq, Nat.reduceAdd, Nat.reduceLeDiff, Nat.reduceSub, Int.reduceEq, g1, g2, g3, g8, g28, g29, g30, s3, s27, bl3])
            refine CallE.lend (hB) (by simp -dsimp -implicitDefEqProofs only [go_sem, Nat.reduceBEq, Nat.reduceAdd, Nat.reduceLeDiff, Nat.reduceSub, Int.reduceEq, g1, g2, g3, g8, g28, g29, g30, s3, s27]) ?_
            rintro r rfl
            simp -dsimp -implicitDefEqProofs only [go_sem, Nat.reduceBEq, Nat.reduceAdd, Nat.reduceLeDiff, Nat.reduceSub, Int.reduceEq, g1, g2, g3, g8, g28, g29, g30, s3, s27]
            repeat (first | with_reducible refine ask.of (by first | omega | decide) ?_ | simp -dsimp -implicitDefEqProofs only [go_sem, Nat.reduceBEq, Nat.reduceAdd, Nat.reduceLeDiff, Nat.reduceSub, Int.reduceEq, g1, g2, g3, g8, g28, g29, g30, s3, s27, bl3])
            refine CallI.of (c_boolsBuild cs (by omega)) (by rintro r rfl; (repeat' first | exact trivial | exact pure_rowB _ | exact pure_rowO _ | exact pure_rowI _ | exact pure_rowBB _ | exact pure_rowPk _ _ | exact pure_rowSn _ _ | exact pure_rowFd _ _ | exact pure_rowBBB _ | exact pure_rowCl _ _ | exact pure_rowTb _ _ _ | refine And.intro ?_ ?_)) (by simp -dsimp -implicitDefEqProofs only [go_sem, Nat.reduceBEq, Nat.reduceAdd, Nat.reduceLeDiff, Nat.reduceSub, Int.reduceEq, g1, g2, g3, g8, g28, g29, g30, s3, s27, rowCl, par_bools, cty_bools]) ?_
            rintro r rfl
            simp -dsimp -implicitDefEqProofs only [go_sem, Nat.reduceBEq, Nat.reduceAdd, Nat.reduceLeDiff, Nat.reduceSub, Int.reduceEq, g1, g2, g3, g8, g28, g29, g30, s3, s27, rowCl, par_bools, cty_bools]
            repeat (first | with_reducible refine ask.of (by first | omega | decide) ?_ | simp -dsimp -implicitDefEqProofs only [go_sem, Nat.reduceBEq, Nat.reduceAdd, Nat.reduceLeDiff, Nat.reduceSub, Int.reduceEq, g1, g2, g3, g8, g28, g29, g30, s3, s27, bl3, decide_true, Bool.not_true])
            rfl
          · have hC : bcOk f cs vs := ⟨⟨h1, h3, h2⟩, hall, fun h => by omega⟩
            have hcd := int_code h1 hk hall
            rw [bldL_yes hC, bodyB, if_neg (by omega), if_pos hk, hvB]
            unfold bldI at hB
            rw [if_neg (by omega), if_pos hk] at hB
            repeat (first | with_reducible refine ask.of (by first | omega | decide) ?_ | simp -dsimp -implicitDefEqProofs only [go_sem, Nat.reduceBEq, Nat.reduceAdd, Nat.reduceLeDiff, Nat.reduceSub, Int.reduceEq, g1, g2, g3, g8, g28, g29, g30, s3, s27, bl3])
            refine CallE.lend (hB) (by simp -dsimp -implicitDefEqProofs only [go_sem, Nat.reduceBEq, Nat.reduceAdd, Nat.reduceLeDiff, Nat.reduceSub, Int.reduceEq, g1, g2, g3, g8, g28, g29, g30, s3, s27]) ?_
            rintro r rfl
            simp -dsimp -implicitDefEqProofs only [go_sem, Nat.reduceBEq, Nat.reduceAdd, Nat.reduceLeDiff, Nat.reduceSub, Int.reduceEq, g1, g2, g3, g8, g28, g29, g30, s3, s27]
            repeat (first | with_reducible refine ask.of (by first | omega | decide) ?_ | simp -dsimp -implicitDefEqProofs only [go_sem, Nat.reduceBEq, Nat.reduceAdd, Nat.reduceLeDiff, Nat.reduceSub, Int.reduceEq, g1, g2, g3, g8, g28, g29, g30, s3, s27, bl3])
            refine CallI.of (c_numbersBuild f.w cs (by omega) hir) (by rintro r rfl; (repeat' first | exact trivial | exact pure_rowB _ | exact pure_rowO _ | exact pure_rowI _ | exact pure_rowBB _ | exact pure_rowPk _ _ | exact pure_rowSn _ _ | exact pure_rowFd _ _ | exact pure_rowBBB _ | exact pure_rowCl _ _ | exact pure_rowTb _ _ _ | refine And.intro ?_ ?_)) (by simp -dsimp -implicitDefEqProofs only [go_sem, Nat.reduceBEq, Nat.reduceAdd, Nat.reduceLeDiff, Nat.reduceSub, Int.reduceEq, g1, g2, g3, g8, g28, g29, g30, s3, s27, rowCl, par_numbers, cty_numbers]) ?_
            rintro r rfl
            simp -dsimp -implicitDefEqProofs only [go_sem, Nat.reduceBEq, Nat.reduceAdd, Nat.reduceLeDiff, Nat.reduceSub, Int.reduceEq, g1, g2, g3, g8, g28, g29, g30, s3, s27, rowCl, par_numbers, cty_numbers]
            repeat (first | with_reducible refine ask.of (by first | omega | decide) ?_ | simp -dsimp -implicitDefEqProofs only [go_sem, Nat.reduceBEq, Nat.reduceAdd, Nat.reduceLeDiff, Nat.reduceSub, Int.reduceEq, g1, g2, g3, g8, g28, g29, g30, s3, s27, bl3, hcd, decide_true, Bool.not_true])
            rfl
          · have hC : bcOk f cs vs := ⟨⟨h1, h3, h2⟩, hall, fun h => by omega⟩
            have hcd := off_code (cs := cs) (by omega)
            rw [bldL_yes hC, bodyB, if_neg (by omega), if_neg (by omega), if_pos hk, hvB]
            unfold bldI at hB
            rw [if_neg (by omega), if_neg (by omega), if_pos hk] at hB
            repeat (first | with_reducible refine ask.of (by first | omega | decide) ?_ | simp -dsimp -implicitDefEqProofs only [go_sem, Nat.reduceBEq, Nat.reduceAdd, Nat.reduceLeDiff, Nat.reduceSub, Int.reduceEq, g1, g2, g3, g8, g28, g29, g30, s3, s27, bl3])
            refine CallE.lend (hB) (by simp -dsimp -implicitDefEqProofs only [go_sem, Nat.reduceBEq, Nat.reduceAdd, Nat.reduceLeDiff, Nat.reduceSub, Int.reduceEq, g1, g2, g3, g8, g28, g29, g30, s3, s27]) ?_
            rintro r rfl
            simp -dsimp -implicitDefEqProofs only [go_sem, Nat.reduceBEq, Nat.reduceAdd, Nat.reduceLeDiff, Nat.reduceSub, Int.reduceEq, g1, g2, g3, g8, g28, g29, g30, s3, s27]
            repeat (first | with_reducible refine ask.of (by first | omega | decide) ?_ | simp -dsimp -implicitDefEqProofs only [go_sem, Nat.reduceBEq, Nat.reduceAdd, Nat.reduceLeDiff, Nat.reduceSub, Int.reduceEq, g1, g2, g3, g8, g28, g29, g30, s3, s27, bl3])
            refine CallI.of (c_textsBuild cs (by omega) (by omega)) (by rintro r rfl; (repeat' first | exact trivial | exact pure_rowB _ | exact pure_rowO _ | exact pure_rowI _ | exact pure_rowBB _ | exact pure_rowPk _ _ | exact pure_rowSn _ _ | exact pure_rowFd _ _ | exact pure_rowBBB _ | exact pure_rowCl _ _ | exact pure_rowTb _ _ _ | refine And.intro ?_ ?_)) (by simp -dsimp -implicitDefEqProofs only [go_sem, Nat.reduceBEq, Nat.reduceAdd, Nat.reduceLeDiff, Nat.reduceSub, Int.reduceEq, g1, g2, g3, g8, g28, g29, g30, s3, s27, rowCl, par_texts, cty_texts]) ?_
            rintro r rfl
            simp -dsimp -implicitDefEqProofs only [go_sem, Nat.reduceBEq, Nat.reduceAdd, Nat.reduceLeDiff, Nat.reduceSub, Int.reduceEq, g1, g2, g3, g8, g28, g29, g30, s3, s27, rowCl, par_texts, cty_texts]
            repeat (first | with_reducible refine ask.of (by first | omega | decide) ?_ | simp -dsimp -implicitDefEqProofs only [go_sem, Nat.reduceBEq, Nat.reduceAdd, Nat.reduceLeDiff, Nat.reduceSub, Int.reduceEq, g1, g2, g3, g8, g28, g29, g30, s3, s27, bl3, hcd, decide_true, Bool.not_true])
            rfl
          · have hP := c_placesBuild vs cs (by omega) (by omega) (fun b hb => by have := mem_wBB hb; omega) hcb
            unfold bldI at hB
            rw [if_neg (by omega), if_neg (by omega), if_neg (by omega)] at hB
            repeat (first | with_reducible refine ask.of (by first | omega | decide) ?_ | simp -dsimp -implicitDefEqProofs only [go_sem, Nat.reduceBEq, Nat.reduceAdd, Nat.reduceLeDiff, Nat.reduceSub, Int.reduceEq, g1, g2, g3, g8, g28, g29, g30, s3, s27, bl3])
            refine CallE.lend (hB) (by simp -dsimp -implicitDefEqProofs only [go_sem, Nat.reduceBEq, Nat.reduceAdd, Nat.reduceLeDiff, Nat.reduceSub, Int.reduceEq, g1, g2, g3, g8, g28, g29, g30, s3, s27]) ?_
            rintro r rfl
            simp -dsimp -implicitDefEqProofs only [go_sem, Nat.reduceBEq, Nat.reduceAdd, Nat.reduceLeDiff, Nat.reduceSub, Int.reduceEq, g1, g2, g3, g8, g28, g29, g30, s3, s27]
            repeat (first | with_reducible refine ask.of (by first | omega | decide) ?_ | simp -dsimp -implicitDefEqProofs only [go_sem, Nat.reduceBEq, Nat.reduceAdd, Nat.reduceLeDiff, Nat.reduceSub, Int.reduceEq, g1, g2, g3, g8, g28, g29, g30, s3, s27, bl3])
            by_cases hp : ∃ c ∈ cs, c.z = false ∧ c.f ∉ vs
            · rw [if_pos hp] at hP
              refine CallI.of (hP) (by rintro r rfl; (repeat' first | exact trivial | exact pure_rowB _ | exact pure_rowO _ | exact pure_rowI _ | exact pure_rowBB _ | exact pure_rowPk _ _ | exact pure_rowSn _ _ | exact pure_rowFd _ _ | exact pure_rowBBB _ | exact pure_rowCl _ _ | exact pure_rowTb _ _ _ | refine And.intro ?_ ?_)) (by simp -dsimp -implicitDefEqProofs only [go_sem, Nat.reduceBEq, Nat.reduceAdd, Nat.reduceLeDiff, Nat.reduceSub, Int.reduceEq, g1, g2, g3, g8, g28, g29, g30, s3, s27, rowCl, par_places, cty_places]) ?_
              rintro r rfl
              simp -dsimp -implicitDefEqProofs only [go_sem, Nat.reduceBEq, Nat.reduceAdd, Nat.reduceLeDiff, Nat.reduceSub, Int.reduceEq, g1, g2, g3, g8, g28, g29, g30, s3, s27, rowCl, par_places, cty_places]
              repeat (first | with_reducible refine ask.of (by first | omega | decide) ?_ | simp -dsimp -implicitDefEqProofs only [go_sem, Nat.reduceBEq, Nat.reduceAdd, Nat.reduceLeDiff, Nat.reduceSub, Int.reduceEq, g1, g2, g3, g8, g28, g29, g30, s3, s27, bl3, decide_false, Bool.not_false])
              exact bld_no fun h => by obtain ⟨c, hcm, hz, hn⟩ := hp; exact hn (h.2.2 hk c hcm hz)
            · rw [if_neg hp] at hP
              have hC : bcOk f cs vs := ⟨⟨h1, h3, h2⟩, hall, fun _ c hcm hz => Classical.byContradiction fun hn => hp ⟨c, hcm, hz, hn⟩⟩
              have hcd := plc_code (vs := vs) (cs := cs) h2.1
              rw [bldL_yes hC, bodyB, if_neg (by omega), if_neg (by omega), if_neg (by omega), hvB]
              refine CallI.of (hP) (by rintro r rfl; (repeat' first | exact trivial | exact pure_rowB _ | exact pure_rowO _ | exact pure_rowI _ | exact pure_rowBB _ | exact pure_rowPk _ _ | exact pure_rowSn _ _ | exact pure_rowFd _ _ | exact pure_rowBBB _ | exact pure_rowCl _ _ | exact pure_rowTb _ _ _ | refine And.intro ?_ ?_)) (by simp -dsimp -implicitDefEqProofs only [go_sem, Nat.reduceBEq, Nat.reduceAdd, Nat.reduceLeDiff, Nat.reduceSub, Int.reduceEq, g1, g2, g3, g8, g28, g29, g30, s3, s27, rowCl, par_places, cty_places]) ?_
              rintro r rfl
              simp -dsimp -implicitDefEqProofs only [go_sem, Nat.reduceBEq, Nat.reduceAdd, Nat.reduceLeDiff, Nat.reduceSub, Int.reduceEq, g1, g2, g3, g8, g28, g29, g30, s3, s27, rowCl, par_places, cty_places]
              repeat (first | with_reducible refine ask.of (by first | omega | decide) ?_ | simp -dsimp -implicitDefEqProofs only [go_sem, Nat.reduceBEq, Nat.reduceAdd, Nat.reduceLeDiff, Nat.reduceSub, Int.reduceEq, g1, g2, g3, g8, g28, g29, g30, s3, s27, bl3, hcd, decide_true, Bool.not_true])
              rfl
        · have hvB : validB cs = [] := if_neg hmem
          rcases bk_cases h1 with hk | hk | hk | hk
          · have hC : bcOk f cs vs := ⟨⟨h1, h3, h2⟩, hall, fun h => by omega⟩
            rw [bldL_yes hC, bodyB, if_pos hk, hvB]
            unfold bldI at hB
            rw [if_pos hk] at hB
            repeat (first | with_reducible refine ask.of (by first | omega | decide) ?_ | simp -dsimp -implicitDefEqProofs only [go_sem, Nat.reduceBEq, Nat.reduceAdd, Nat.reduceLeDiff, Nat.reduceSub, Int.reduceEq, g1, g2, g3, g8, g28, g29, g30, s3, s27, bl3])
            refine CallE.lend (hB) (by simp -dsimp -implicitDefEqProofs only [go_sem, Nat.reduceBEq, Nat.reduceAdd, Nat.reduceLeDiff, Nat.reduceSub, Int.reduceEq, g1, g2, g3, g8, g28, g29, g30, s3, s27]) ?_
            rintro r rfl
            simp -dsimp -implicitDefEqProofs only [go_sem, Nat.reduceBEq, Nat.reduceAdd, Nat.reduceLeDiff, Nat.reduceSub, Int.reduceEq, g1, g2, g3, g8, g28, g29, g30, s3, s27]
            repeat (first | with_reducible refine ask.of (by first | omega | decide) ?_ | simp -dsimp -implicitDefEqProofs only [go_sem, Nat.reduceBEq, Nat.reduceAdd, Nat.reduceLeDiff, Nat.reduceSub, Int.reduceEq, g1, g2, g3, g8, g28, g29, g30, s3, s27, bl3])
            refine CallI.of (c_boolsBuild cs (by omega)) (by rintro r rfl; (repeat' first | exact trivial | exact pure_rowB _ | exact pure_rowO _ | exact pure_rowI _ | exact pure_rowBB _ | exact pure_rowPk _ _ | exact pure_rowSn _ _ | exact pure_rowFd _ _ | exact pure_rowBBB _ | exact pure_rowCl _ _ | exact pure_rowTb _ _ _ | refine And.intro ?_ ?_)) (by simp -dsimp -implicitDefEqProofs only [go_sem, Nat.reduceBEq, Nat.reduceAdd, Nat.reduceLeDiff, Nat.reduceSub, Int.reduceEq, g1, g2, g3, g8, g28, g29, g30, s3, s27, rowCl, par_bools, cty_bools]) ?_
            rintro r rfl
            simp -dsimp -implicitDefEqProofs only [go_sem, Nat.reduceBEq, Nat.reduceAdd, Nat.reduceLeDiff, Nat.reduceSub, Int.reduceEq, g1, g2, g3, g8, g28, g29, g30, s3, s27, rowCl, par_bools, cty_bools]
            repeat (first | with_reducible refine ask.of (by first | omega | decide) ?_ | simp -dsimp -implicitDefEqProofs only [go_sem, Nat.reduceBEq, Nat.reduceAdd, Nat.reduceLeDiff, Nat.reduceSub, Int.reduceEq, g1, g2, g3, g8, g28, g29, g30, s3, s27, bl3, decide_true, Bool.not_true])
            rfl
          · have hC : bcOk f cs vs := ⟨⟨h1, h3, h2⟩, hall, fun h => by omega⟩
            have hcd := int_code h1 hk hall
            rw [bldL_yes hC, bodyB, if_neg (by omega), if_pos hk, hvB]
            unfold bldI at hB
            rw [if_neg (by omega), if_pos hk] at hB
            repeat (first | with_reducible refine ask.of (by first | omega | decide) ?_ | simp -dsimp -implicitDefEqProofs only [go_sem, Nat.reduceBEq, Nat.reduceAdd, Nat.reduceLeDiff, Nat.reduceSub, Int.reduceEq, g1, g2, g3, g8, g28, g29, g30, s3, s27, bl3])
            refine CallE.lend (hB) (by simp -dsimp -implicitDefEqProofs only [go_sem, Nat.reduceBEq, Nat.reduceAdd, Nat.reduceLeDiff, Nat.reduceSub, Int.reduceEq, g1, g2, g3, g8, g28, g29, g30, s3, s27]) ?_
            rintro r rfl
            simp -dsimp -implicitDefEqProofs only [go_sem, Nat.reduceBEq, Nat.reduceAdd, Nat.reduceLeDiff, Nat.reduceSub, Int.reduceEq, g1, g2, g3, g8, g28, g29, g30, s3, s27]
            repeat (first | with_reducible refine ask.of (by first | omega | decide) ?_ | simp -dsimp -implicitDefEqProofs only [go_sem, Nat.reduceBEq, Nat.reduceAdd, Nat.reduceLeDiff, Nat.reduceSub, Int.reduceEq, g1, g2, g3, g8, g28, g29, g30, s3, s27, bl3])
            refine CallI.of (c_numbersBuild f.w cs (by omega) hir) (by rintro r rfl; (repeat' first | exact trivial | exact pure_rowB _ | exact pure_rowO _ | exact pure_rowI _ | exact pure_rowBB _ | exact pure_rowPk _ _ | exact pure_rowSn _ _ | exact pure_rowFd _ _ | exact pure_rowBBB _ | exact pure_rowCl _ _ | exact pure_rowTb _ _ _ | refine And.intro ?_ ?_)) (by simp -dsimp -implicitDefEqProofs only [go_sem, Nat.reduceBEq, Nat.reduceAdd, Nat.reduceLeDiff, Nat.reduceSub, Int.reduceEq, g1, g2, g3, g8, g28, g29, g30, s3, s27, rowCl, par_numbers, cty_numbers]) ?_
            rintro r rfl
            simp -dsimp -implicitDefEqProofs only [go_sem, Nat.reduceBEq, Nat.reduceAdd, Nat.reduceLeDiff, Nat.reduceSub, Int.reduceEq, g1, g2, g3, g8, g28, g29, g30, s3, s27, rowCl, par_numbers, cty_numbers]
            repeat (first | with_reducible refine ask.of (by first | omega | decide) ?_ | simp -dsimp -implicitDefEqProofs only [go_sem, Nat.reduceBEq, Nat.reduceAdd, Nat.reduceLeDiff, Nat.reduceSub, Int.reduceEq, g1, g2, g3, g8, g28, g29, g30, s3, s27, bl3, hcd, decide_true, Bool.not_true])
            rfl
          · have hC : bcOk f cs vs := ⟨⟨h1, h3, h2⟩, hall, fun h => by omega⟩
            have hcd := off_code (cs := cs) (by omega)
            rw [bldL_yes hC, bodyB, if_neg (by omega), if_neg (by omega), if_pos hk, hvB]
            unfold bldI at hB
            rw [if_neg (by omega), if_neg (by omega), if_pos hk] at hB
            repeat (first | with_reducible refine ask.of (by first | omega | decide) ?_ | simp -dsimp -implicitDefEqProofs only [go_sem, Nat.reduceBEq, Nat.reduceAdd, Nat.reduceLeDiff, Nat.reduceSub, Int.reduceEq, g1, g2, g3, g8, g28, g29, g30, s3, s27, bl3])
            refine CallE.lend (hB) (by simp -dsimp -implicitDefEqProofs only [go_sem, Nat.reduceBEq, Nat.reduceAdd, Nat.reduceLeDiff, Nat.reduceSub, Int.reduceEq, g1, g2, g3, g8, g28, g29, g30, s3, s27]) ?_
            rintro r rfl
            simp -dsimp -implicitDefEqProofs only [go_sem, Nat.reduceBEq, Nat.reduceAdd, Nat.reduceLeDiff, Nat.reduceSub, Int.reduceEq, g1, g2, g3, g8, g28, g29, g30, s3, s27]
            repeat (first | with_reducible refine ask.of (by first | omega | decide) ?_ | simp -dsimp -implicitDefEqProofs only [go_sem, Nat.reduceBEq, Nat.reduceAdd, Nat.reduceLeDiff, Nat.reduceSub, Int.reduceEq, g1, g2, g3, g8, g28, g29, g30, s3, s27, bl3])
            refine CallI.of (c_textsBuild cs (by omega) (by omega)) (by rintro r rfl; (repeat' first | exact trivial | exact pure_rowB _ | exact pure_rowO _ | exact pure_rowI _ | exact pure_rowBB _ | exact pure_rowPk _ _ | exact pure_rowSn _ _ | exact pure_rowFd _ _ | exact pure_rowBBB _ | exact pure_rowCl _ _ | exact pure_rowTb _ _ _ | refine And.intro ?_ ?_)) (by simp -dsimp -implicitDefEqProofs only [go_sem, Nat.reduceBEq, Nat.reduceAdd, Nat.reduceLeDiff, Nat.reduceSub, Int.reduceEq, g1, g2, g3, g8, g28, g29, g30, s3, s27, rowCl, par_texts, cty_texts]) ?_
            rintro r rfl
            simp -dsimp -implicitDefEqProofs only [go_sem, Nat.reduceBEq, Nat.reduceAdd, Nat.reduceLeDiff, Nat.reduceSub, Int.reduceEq, g1, g2, g3, g8, g28, g29, g30, s3, s27, rowCl, par_texts, cty_texts]
            repeat (first | with_reducible refine ask.of (by first | omega | decide) ?_ | simp -dsimp -implicitDefEqProofs only [go_sem, Nat.reduceBEq, Nat.reduceAdd, Nat.reduceLeDiff, Nat.reduceSub, Int.reduceEq, g1, g2, g3, g8, g28, g29, g30, s3, s27, bl3, hcd, decide_true, Bool.not_true])
            rfl
          · have hP := c_placesBuild vs cs (by omega) (by omega) (fun b hb => by have := mem_wBB hb; omega) hcb
            unfold bldI at hB
            rw [if_neg (by omega), if_neg (by omega), if_neg (by omega)] at hB
            repeat (first | with_reducible refine ask.of (by first | omega | decide) ?_ | simp -dsimp -implicitDefEqProofs only [go_sem, Nat.reduceBEq, Nat.reduceAdd, Nat.reduceLeDiff, Nat.reduceSub, Int.reduceEq, g1, g2, g3, g8, g28, g29, g30, s3, s27, bl3])
            refine CallE.lend (hB) (by simp -dsimp -implicitDefEqProofs only [go_sem, Nat.reduceBEq, Nat.reduceAdd, Nat.reduceLeDiff, Nat.reduceSub, Int.reduceEq, g1, g2, g3, g8, g28, g29, g30, s3, s27]) ?_
            rintro r rfl
            simp -dsimp -implicitDefEqProofs only [go_sem, Nat.reduceBEq, Nat.reduceAdd, Nat.reduceLeDiff, Nat.reduceSub, Int.reduceEq, g1, g2, g3, g8, g28, g29, g30, s3, s27]
            repeat (first | with_reducible refine ask.of (by first | omega | decide) ?_ | simp -dsimp -implicitDefEqProofs only [go_sem, Nat.reduceBEq, Nat.reduceAdd, Nat.reduceLeDiff, Nat.reduceSub, Int.reduceEq, g1, g2, g3, g8, g28, g29, g30, s3, s27, bl3])
            by_cases hp : ∃ c ∈ cs, c.z = false ∧ c.f ∉ vs
            · rw [if_pos hp] at hP
              refine CallI.of (hP) (by rintro r rfl; (repeat' first | exact trivial | exact pure_rowB _ | exact pure_rowO _ | exact pure_rowI _ | exact pure_rowBB _ | exact pure_rowPk _ _ | exact pure_rowSn _ _ | exact pure_rowFd _ _ | exact pure_rowBBB _ | exact pure_rowCl _ _ | exact pure_rowTb _ _ _ | refine And.intro ?_ ?_)) (by simp -dsimp -implicitDefEqProofs only [go_sem, Nat.reduceBEq, Nat.reduceAdd, Nat.reduceLeDiff, Nat.reduceSub, Int.reduceEq, g1, g2, g3, g8, g28, g29, g30, s3, s27, rowCl, par_places, cty_places]) ?_
              rintro r rfl
              simp -dsimp -implicitDefEqProofs only [go_sem, Nat.reduceBEq, Nat.reduceAdd, Nat.reduceLeDiff, Nat.reduceSub, Int.reduceEq, g1, g2, g3, g8, g28, g29, g30, s3, s27, rowCl, par_places, cty_places]
              repeat (first | with_reducible refine ask.of (by first | omega | decide) ?_ | simp -dsimp -implicitDefEqProofs only [go_sem, Nat.reduceBEq, Nat.reduceAdd, Nat.reduceLeDiff, Nat.reduceSub, Int.reduceEq, g1, g2, g3, g8, g28, g29, g30, s3, s27, bl3, decide_false, Bool.not_false])
              exact bld_no fun h => by obtain ⟨c, hcm, hz, hn⟩ := hp; exact hn (h.2.2 hk c hcm hz)
            · rw [if_neg hp] at hP
              have hC : bcOk f cs vs := ⟨⟨h1, h3, h2⟩, hall, fun _ c hcm hz => Classical.byContradiction fun hn => hp ⟨c, hcm, hz, hn⟩⟩
              have hcd := plc_code (vs := vs) (cs := cs) h2.1
              rw [bldL_yes hC, bodyB, if_neg (by omega), if_neg (by omega), if_neg (by omega), hvB]
              refine CallI.of (hP) (by rintro r rfl; (repeat' first | exact trivial | exact pure_rowB _ | exact pure_rowO _ | exact pure_rowI _ | exact pure_rowBB _ | exact pure_rowPk _ _ | exact pure_rowSn _ _ | exact pure_rowFd _ _ | exact pure_rowBBB _ | exact pure_rowCl _ _ | exact pure_rowTb _ _ _ | refine And.intro ?_ ?_)) (by simp -dsimp -implicitDefEqProofs only [go_sem, Nat.reduceBEq, Nat.reduceAdd, Nat.reduceLeDiff, Nat.reduceSub, Int.reduceEq, g1, g2, g3, g8, g28, g29, g30, s3, s27, rowCl, par_places, cty_places]) ?_
              rintro r rfl
              simp -dsimp -implicitDefEqProofs only [go_sem, Nat.reduceBEq, Nat.reduceAdd, Nat.reduceLeDiff, Nat.reduceSub, Int.reduceEq, g1, g2, g3, g8, g28, g29, g30, s3, s27, rowCl, par_places, cty_places]
              repeat (first | with_reducible refine ask.of (by first | omega | decide) ?_ | simp -dsimp -implicitDefEqProofs only [go_sem, Nat.reduceBEq, Nat.reduceAdd, Nat.reduceLeDiff, Nat.reduceSub, Int.reduceEq, g1, g2, g3, g8, g28, g29, g30, s3, s27, bl3, hcd, decide_true, Bool.not_true])
              rfl
    · repeat' (first | exact bld_no fun h => h2 h.1.2.2 | with_reducible refine ask.of (by first | omega | decide) ?_ | simp -dsimp -implicitDefEqProofs only [go_sem, Nat.reduceBEq, Nat.reduceAdd, Nat.reduceLeDiff, Nat.reduceSub, Int.reduceEq, decide_eq_false h2, Bool.not_false, initE, rowCl, bl3])
  · repeat' (first | exact bld_no fun h => h1 h.1.1 | with_reducible refine ask.of (by first | omega | decide) ?_ | simp -dsimp -implicitDefEqProofs only [go_sem, Nat.reduceBEq, Nat.reduceAdd, Nat.reduceLeDiff, Nat.reduceSub, Int.reduceEq, decide_eq_false h1, Bool.not_false, initE, rowCl, bl3])
end Go.Ev
set_option linter.unusedSimpArgs false
set_option linter.unusedVariables false
namespace Go.Ev
open Go Go.RowKit Go.Proofs
def cd (code : List UInt8) : List UInt8 := code.take 600
end Go.Ev
set_option linter.unusedSimpArgs false
set_option linter.unusedVariables false
namespace Go.Ev
open Go Go.RowKit Go.Proofs
theorem sval_lt {c : List UInt8} {w : Nat} (h : c.length = w) (hw : w = 1 ∨ w = 2 ∨ w = 4 ∨ w = 8) : -9223372036854775808 ≤ sval c ∧ sval c ≤ 9223372036854775807 := by
  have := leN_lt c
  rcases hw with rfl | rfl | rfl | rfl <;> rw [sval] <;> simp only [h] at this ⊢ <;> split <;> omega
theorem sval_i8 {c : List UInt8} (h : c.length = 1) : IntKind.i64.wrap (IntKind.i8.wrap (IntKind.i64.wrap (leN c))) = sval c := by
  have := leN_lt c
  rw [h] at this
  have e : IntKind.i8.wrap (leN c : Int) = sval c := by
    rw [sval]
    simp only [h] at this ⊢
    simp [IntKind.wrap, IntKind.bits, IntKind.signed]
    split <;> split <;> omega
  rw [wrap_nat (by omega), e]
  have := sval_lt h (by omega)
  exact wrap_i64_of this.1 this.2
theorem sval_i16 {c : List UInt8} (h : c.length = 2) : IntKind.i64.wrap (IntKind.i16.wrap (IntKind.i64.wrap (leN c))) = sval c := by
  have := leN_lt c
  rw [h] at this
  have e : IntKind.i16.wrap (leN c : Int) = sval c := by
    rw [sval]
    simp only [h] at this ⊢
    simp [IntKind.wrap, IntKind.bits, IntKind.signed]
    split <;> split <;> omega
  rw [wrap_nat (by omega), e]
  have := sval_lt h (by omega)
  exact wrap_i64_of this.1 this.2
theorem sval_i32 {c : List UInt8} (h : c.length = 4) : IntKind.i64.wrap (IntKind.i32.wrap (IntKind.i64.wrap (leN c))) = sval c := by
  have := leN_lt c
  rw [h] at this
  have e : IntKind.i32.wrap (leN c : Int) = sval c := by
    rw [sval]
    simp only [h] at this ⊢
    simp [IntKind.wrap, IntKind.bits, IntKind.signed]
    split <;> split <;> omega
  rw [wrap_nat (by omega), e]
  have := sval_lt h (by omega)
  exact wrap_i64_of this.1 this.2
theorem drop_drop (b : List UInt8) (w i : Nat) : (b.drop (w * i)).drop w = b.drop (w * (i + 1)) := by
  rw [List.drop_drop, Nat.mul_add, Nat.mul_one]
theorem impl_chunk (b : List UInt8) (w i : Nat) : (b.drop (w * i)).take w = chunk b w i := rfl
theorem c_unpacked_i8 (b : List UInt8) (hb : b.length ≤ 1048576) : Meets Try.prog 218 [rowB b, .v (.int .i64 1)] (fun r => r = .tup [rowI (unpackIC b 1).1, .v (.int .i64 (unpackIC b 1).2)]) := by
  have hw : isW 1 = true := rfl
  have fin := unpackIC.eq_1 b 1
  rw [if_pos hw, show (1 : Int).toNat = 1 from rfl] at fin
  have em : (b.length : Int).tmod 1 = ((b.length % 1 : Nat) : Int) := rfl
  refine Meets.intro mixed (hint []) Try.func218 rfl (by decide) res_218 rty_218 (by kernel_rfl) ?_; 
  simp -dsimp -implicitDefEqProofs only [go_sem, Nat.reduceBEq, Nat.reduceAdd, Nat.reduceLeDiff, Nat.reduceSub, Int.reduceEq, em]
  refine ifB'.of (fun hr => ?_) (fun hr => ?_)
  rotate_left
  · simp -dsimp -implicitDefEqProofs only [go_sem, Nat.reduceBEq, Nat.reduceAdd, Nat.reduceLeDiff, Nat.reduceSub, Int.reduceEq]
    rw [fin, if_neg (by omega)]; rfl
  have hk := Nat.mul_div_cancel' (Nat.dvd_of_mod_eq_zero (show b.length % 1 = 0 by omega))
  have fin : unpackIC b 1 = (unpackI b 1 (b.length / 1), 0) := by rw [fin, if_pos (by omega)]
  have ed : IntKind.i64.wrap ((b.length : Int).tdiv 1) = ((b.length / 1 : Nat) : Int) := by rw [Int.tdiv_eq_ediv_of_nonneg (by omega), wrap_i64_of (by omega) (by omega)]; omega
  simp -dsimp -implicitDefEqProofs only [go_sem, Nat.reduceBEq, Nat.reduceAdd, Nat.reduceLeDiff, Nat.reduceSub, Int.reduceEq, ed]
  generalize b.length / 1 = k at hk fin
  repeat with_reducible refine ask.of (by omega) ?_
  refine LoopE.cnt k (fun i s => s.env 0 = .rd .ent 5 1 (bytesA (b.drop (1 * i))) ∧ s.env 1 = .v (.int .i64 1) ∧ s.env 6 = .ref [16] ∧ s.σ [16] = some (.row 3 1 (ra intC (unpackI b 1 i)))) ⟨by simp -dsimp -implicitDefEqProofs only [go_sem, Nat.reduceBEq, Nat.reduceAdd, Nat.reduceLeDiff, Nat.reduceSub, Int.reduceEq, initE, Nat.mul_zero, List.drop_zero], by simp -dsimp -implicitDefEqProofs only [go_sem, Nat.reduceBEq, Nat.reduceAdd, Nat.reduceLeDiff, Nat.reduceSub, Int.reduceEq, initE], by simp -dsimp -implicitDefEqProofs only [go_sem, Nat.reduceBEq, Nat.reduceAdd, Nat.reduceLeDiff, Nat.reduceSub, Int.reduceEq], by simp -dsimp -implicitDefEqProofs only [go_sem, Nat.reduceBEq, Nat.reduceAdd, Nat.reduceLeDiff, Nat.reduceSub, Int.reduceEq]; rfl⟩ ?_
  rintro i ⟨e, σ⟩ hi ⟨h0, h1, h6, hs⟩ K hK
  simp only at h0 h1 h6 hs
  have hd : (b.drop (1 * i)).length = b.length - 1 * i := List.length_drop
  simp -dsimp -implicitDefEqProofs only [go_sem, Nat.reduceBEq, Nat.reduceAdd, Nat.reduceLeDiff, Nat.reduceSub, Int.reduceEq, h0, h1, h6, hs, hd]
  refine ifB'.of (fun hlt => ?_) (fun hlt => ?_)
  · have hlt : i < k := by omega
    have hl : 1 * i + 1 ≤ b.length := by omega
    have hcl := chunk_length hl
    have hib : i ≤ 1 * i := by omega
    simp -dsimp -implicitDefEqProofs only [go_sem, Nat.reduceBEq, Nat.reduceAdd, Nat.reduceLeDiff, Nat.reduceSub, Int.reduceEq, h0, h1, h6, hs, hd, bytesA_take, bytesA_drop, impl_chunk, List.drop_zero, show Int.toNat 0 = 0 from rfl, show (1 : Int).toNat = 1 from rfl]
    repeat with_reducible refine ask.of (by omega) ?_
    refine CallE.of (c_low (chunk b 1 i) (by omega)) (by rintro r rfl; (repeat' first | exact trivial | exact pure_rowB _ | exact pure_rowO _ | exact pure_rowI _ | exact pure_rowBB _ | exact pure_rowPk _ _ | exact pure_rowSn _ _ | exact pure_rowFd _ _ | exact pure_rowBBB _ | exact pure_rowCl _ _ | exact pure_rowTb _ _ _ | refine And.intro ?_ ?_)) (by simp -dsimp -implicitDefEqProofs only [go_sem, Nat.reduceBEq, Nat.reduceAdd, Nat.reduceLeDiff, Nat.reduceSub, Int.reduceEq, h0, h1, h6, hs]) ?_
    rintro r rfl
    simp -dsimp -implicitDefEqProofs only [go_sem, Nat.reduceBEq, Nat.reduceAdd, Nat.reduceLeDiff, Nat.reduceSub, Int.reduceEq, h0, h1, h6, hs]
    simp -dsimp -implicitDefEqProofs only [go_sem, Nat.reduceBEq, Nat.reduceAdd, Nat.reduceLeDiff, Nat.reduceSub, Int.reduceEq, h0, h1, h6, hs, hd, sval_i8 hcl, unpackI_length]
    repeat with_reducible refine ask.of (by omega) ?_
    simp -dsimp -implicitDefEqProofs only [go_sem, Nat.reduceBEq, Nat.reduceAdd, Nat.reduceLeDiff, Nat.reduceSub, Int.reduceEq, h0, h1, h6, hs, hd, bytesA_take, bytesA_drop, show (1 : Int).toNat = 1 from rfl]
    repeat with_reducible refine ask.of (by omega) ?_
    refine hK _ hlt ?_
    simp -dsimp -implicitDefEqProofs only [go_sem, Nat.reduceBEq, Nat.reduceAdd, Nat.reduceLeDiff, Nat.reduceSub, Int.reduceEq, h0, h1, h6, hs, sval_i8 hcl, unpackI_succ, show (b.drop (1 * i)).take (b.length - 1 * i) = b.drop (1 * i) by rw [← hd, List.take_length], drop_drop]
  · obtain rfl : i = k := by omega
    simp -dsimp -implicitDefEqProofs only [go_sem, Nat.reduceBEq, Nat.reduceAdd, Nat.reduceLeDiff, Nat.reduceSub, Int.reduceEq, h0, h1, h6, hs, fin]
theorem c_unpacked_i16 (b : List UInt8) (hb : b.length ≤ 1048576) : Meets Try.prog 219 [rowB b, .v (.int .i64 2)] (fun r => r = .tup [rowI (unpackIC b 2).1, .v (.int .i64 (unpackIC b 2).2)]) := by
  have hw : isW 2 = true := rfl
  have fin := unpackIC.eq_1 b 2
  rw [if_pos hw, show (2 : Int).toNat = 2 from rfl] at fin
  have em : (b.length : Int).tmod 2 = ((b.length % 2 : Nat) : Int) := rfl
  refine Meets.intro mixed (hint []) Try.func219 rfl (by decide) res_219 rty_219 (by kernel_rfl) ?_; 
  simp -dsimp -implicitDefEqProofs only [go_sem, Nat.reduceBEq, Nat.reduceAdd, Nat.reduceLeDiff, Nat.reduceSub, Int.reduceEq, em]
  refine ifB'.of (fun hr => ?_) (fun hr => ?_)
  rotate_left
  · simp -dsimp -implicitDefEqProofs only [go_sem, Nat.reduceBEq, Nat.reduceAdd, Nat.reduceLeDiff, Nat.reduceSub, Int.reduceEq]
    rw [fin, if_neg (by omega)]; rfl
  have hk := Nat.mul_div_cancel' (Nat.dvd_of_mod_eq_zero (show b.length % 2 = 0 by omega))
  have fin : unpackIC b 2 = (unpackI b 2 (b.length / 2), 0) := by rw [fin, if_pos (by omega)]
  have ed : IntKind.i64.wrap ((b.length : Int).tdiv 2) = ((b.length / 2 : Nat) : Int) := by rw [Int.tdiv_eq_ediv_of_nonneg (by omega), wrap_i64_of (by omega) (by omega)]; omega
  simp -dsimp -implicitDefEqProofs only [go_sem, Nat.reduceBEq, Nat.reduceAdd, Nat.reduceLeDiff, Nat.reduceSub, Int.reduceEq, ed]
  generalize b.length / 2 = k at hk fin
  repeat with_reducible refine ask.of (by omega) ?_
  refine LoopE.cnt k (fun i s => s.env 0 = .rd .ent 5 1 (bytesA (b.drop (2 * i))) ∧ s.env 1 = .v (.int .i64 2) ∧ s.env 6 = .ref [16] ∧ s.σ [16] = some (.row 3 1 (ra intC (unpackI b 2 i)))) ⟨by simp -dsimp -implicitDefEqProofs only [go_sem, Nat.reduceBEq, Nat.reduceAdd, Nat.reduceLeDiff, Nat.reduceSub, Int.reduceEq, initE, Nat.mul_zero, List.drop_zero], by simp -dsimp -implicitDefEqProofs only [go_sem, Nat.reduceBEq, Nat.reduceAdd, Nat.reduceLeDiff, Nat.reduceSub, Int.reduceEq, initE], by simp -dsimp -implicitDefEqProofs only [go_sem, Nat.reduceBEq, Nat.reduceAdd, Nat.reduceLeDiff, Nat.reduceSub, Int.reduceEq], by simp -dsimp -implicitDefEqProofs only [go_sem, Nat.reduceBEq, Nat.reduceAdd, Nat.reduceLeDiff, Nat.reduceSub, Int.reduceEq]; rfl⟩ ?_
  rintro i ⟨e, σ⟩ hi ⟨h0, h1, h6, hs⟩ K hK
  simp only at h0 h1 h6 hs
  have hd : (b.drop (2 * i)).length = b.length - 2 * i := List.length_drop
  simp -dsimp -implicitDefEqProofs only [go_sem, Nat.reduceBEq, Nat.reduceAdd, Nat.reduceLeDiff, Nat.reduceSub, Int.reduceEq, h0, h1, h6, hs, hd]
  refine ifB'.of (fun hlt => ?_) (fun hlt => ?_)
  · have hlt : i < k := by omega
    have hl : 2 * i + 2 ≤ b.length := by omega
    have hcl := chunk_length hl
    have hib : i ≤ 2 * i := by omega
    simp -dsimp -implicitDefEqProofs only [go_sem, Nat.reduceBEq, Nat.reduceAdd, Nat.reduceLeDiff, Nat.reduceSub, Int.reduceEq, h0, h1, h6, hs, hd, bytesA_take, bytesA_drop, impl_chunk, List.drop_zero, show Int.toNat 0 = 0 from rfl, show (2 : Int).toNat = 2 from rfl]
    repeat with_reducible refine ask.of (by omega) ?_
    refine CallE.of (c_low (chunk b 2 i) (by omega)) (by rintro r rfl; (repeat' first | exact trivial | exact pure_rowB _ | exact pure_rowO _ | exact pure_rowI _ | exact pure_rowBB _ | exact pure_rowPk _ _ | exact pure_rowSn _ _ | exact pure_rowFd _ _ | exact pure_rowBBB _ | exact pure_rowCl _ _ | exact pure_rowTb _ _ _ | refine And.intro ?_ ?_)) (by simp -dsimp -implicitDefEqProofs only [go_sem, Nat.reduceBEq, Nat.reduceAdd, Nat.reduceLeDiff, Nat.reduceSub, Int.reduceEq, h0, h1, h6, hs]) ?_
    rintro r rfl
    simp -dsimp -implicitDefEqProofs only [go_sem, Nat.reduceBEq, Nat.reduceAdd, Nat.reduceLeDiff, Nat.reduceSub, Int.reduceEq, h0, h1, h6, hs]
    simp -dsimp -implicitDefEqProofs only [go_sem, Nat.reduceBEq, Nat.reduceAdd, Nat.reduceLeDiff, Nat.reduceSub, Int.reduceEq, h0, h1, h6, hs, hd, sval_i16 hcl, unpackI_length]
    repeat with_reducible refine ask.of (by omega) ?_
    simp -dsimp -implicitDefEqProofs only [go_sem, Nat.reduceBEq, Nat.reduceAdd, Nat.reduceLeDiff, Nat.reduceSub, Int.reduceEq, h0, h1, h6, hs, hd, bytesA_take, bytesA_drop, show (2 : Int).toNat = 2 from rfl]
    repeat with_reducible refine ask.of (by omega) ?_
    refine hK _ hlt ?_
    simp -dsimp -implicitDefEqProofs only [go_sem, Nat.reduceBEq, Nat.reduceAdd, Nat.reduceLeDiff, Nat.reduceSub, Int.reduceEq, h0, h1, h6, hs, sval_i16 hcl, unpackI_succ, show (b.drop (2 * i)).take (b.length - 2 * i) = b.drop (2 * i) by rw [← hd, List.take_length], drop_drop]
  · obtain rfl : i = k := by omega
    simp -dsimp -implicitDefEqProofs only [go_sem, Nat.reduceBEq, Nat.reduceAdd, Nat.reduceLeDiff, Nat.reduceSub, Int.reduceEq, h0, h1, h6, hs, fin]
theorem c_unpacked_i32 (b : List UInt8) (hb : b.length ≤ 1048576) : Meets Try.prog 220 [rowB b, .v (.int .i64 4)] (fun r => r = .tup [rowI (unpackIC b 4).1, .v (.int .i64 (unpackIC b 4).2)]) := by
  have hw : isW 4 = true := rfl
  have fin := unpackIC.eq_1 b 4
  rw [if_pos hw, show (4 : Int).toNat = 4 from rfl] at fin
  have em : (b.length : Int).tmod 4 = ((b.length % 4 : Nat) : Int) := rfl
  refine Meets.intro mixed (hint []) Try.func220 rfl (by decide) res_220 rty_220 (by kernel_rfl) ?_; 
  simp -dsimp -implicitDefEqProofs only [go_sem, Nat.reduceBEq, Nat.reduceAdd, Nat.reduceLeDiff, Nat.reduceSub, Int.reduceEq, em]
  refine ifB'.of (fun hr => ?_) (fun hr => ?_)
  rotate_left
  · simp -dsimp -implicitDefEqProofs only [go_sem, Nat.reduceBEq, Nat.reduceAdd, Nat.reduceLeDiff, Nat.reduceSub, Int.reduceEq]
    rw [fin, if_neg (by omega)]; rfl
  have hk := Nat.mul_div_cancel' (Nat.dvd_of_mod_eq_zero (show b.length % 4 = 0 by omega))
  have fin : unpackIC b 4 = (unpackI b 4 (b.length / 4), 0) := by rw [fin, if_pos (by omega)]
  have ed : IntKind.i64.wrap ((b.length : Int).tdiv 4) = ((b.length / 4 : Nat) : Int) := by rw [Int.tdiv_eq_ediv_of_nonneg (by omega), wrap_i64_of (by omega) (by omega)]; omega
  simp -dsimp -implicitDefEqProofs only [go_sem, Nat.reduceBEq, Nat.reduceAdd, Nat.reduceLeDiff, Nat.reduceSub, Int.reduceEq, ed]
  generalize b.length / 4 = k at hk fin
  repeat with_reducible refine ask.of (by omega) ?_
  refine LoopE.cnt k (fun i s => s.env 0 = .rd .ent 5 1 (bytesA (b.drop (4 * i))) ∧ s.env 1 = .v (.int .i64 4) ∧ s.env 6 = .ref [16] ∧ s.σ [16] = some (.row 3 1 (ra intC (unpackI b 4 i)))) ⟨by simp -dsimp -implicitDefEqProofs only [go_sem, Nat.reduceBEq, Nat.reduceAdd, Nat.reduceLeDiff, Nat.reduceSub, Int.reduceEq, initE, Nat.mul_zero, List.drop_zero], by simp -dsimp -implicitDefEqProofs only [go_sem, Nat.reduceBEq, Nat.reduceAdd, Nat.reduceLeDiff, Nat.reduceSub, Int.reduceEq, initE], by simp -dsimp -implicitDefEqProofs only [go_sem, Nat.reduceBEq, Nat.reduceAdd, Nat.reduceLeDiff, Nat.reduceSub, Int.reduceEq], by simp -dsimp -implicitDefEqProofs only [go_sem, Nat.reduceBEq, Nat.reduceAdd, Nat.reduceLeDiff, Nat.reduceSub, Int.reduceEq]; rfl⟩ ?_
  rintro i ⟨e, σ⟩ hi ⟨h0, h1, h6, hs⟩ K hK
  simp only at h0 h1 h6 hs
  have hd : (b.drop (4 * i)).length = b.length - 4 * i := List.length_drop
  simp -dsimp -implicitDefEqProofs only [go_sem, Nat.reduceBEq, Nat.reduceAdd, Nat.reduceLeDiff, Nat.reduceSub, Int.reduceEq, h0, h1, h6, hs, hd]
  refine ifB'.of (fun hlt => ?_) (fun hlt => ?_)
  · have hlt : i < k := by omega
    have hl : 4 * i + 4 ≤ b.length := by omega
    have hcl := chunk_length hl
    have hib : i ≤ 4 * i := by omega
    simp -dsimp -implicitDefEqProofs only [go_sem, Nat.reduceBEq, Nat.reduceAdd, Nat.reduceLeDiff, Nat.reduceSub, Int.reduceEq, h0, h1, h6, hs, hd, bytesA_take, bytesA_drop, impl_chunk, List.drop_zero, show Int.toNat 0 = 0 from rfl, show (4 : Int).toNat = 4 from rfl]
    repeat with_reducible refine ask.of (by omega) ?_
    refine CallE.of (c_low (chunk b 4 i) (by omega)) (by rintro r rfl; (repeat' first | exact trivial | exact pure_rowB _ | exact pure_rowO _ | exact pure_rowI _ | exact pure_rowBB _ | exact pure_rowPk _ _ | exact pure_rowSn _ _ | exact pure_rowFd _ _ | exact pure_rowBBB _ | exact pure_rowCl _ _ | exact pure_rowTb _ _ _ | refine And.intro ?_ ?_)) (by simp -dsimp -implicitDefEqProofs only [go_sem, Nat.reduceBEq, Nat.reduceAdd, Nat.reduceLeDiff, Nat.reduceSub, Int.reduceEq, h0, h1, h6, hs]) ?_
    rintro r rfl
    simp -dsimp -implicitDefEqProofs only [go_sem, Nat.reduceBEq, Nat.reduceAdd, Nat.reduceLeDiff, Nat.reduceSub, Int.reduceEq, h0, h1, h6, hs]
    simp -dsimp -implicitDefEqProofs only [go_sem, Nat.reduceBEq, Nat.reduceAdd, Nat.reduceLeDiff, Nat.reduceSub, Int.reduceEq, h0, h1, h6, hs, hd, sval_i32 hcl, unpackI_length]
    repeat with_reducible refine ask.of (by omega) ?_
    simp -dsimp -implicitDefEqProofs only [go_sem, Nat.reduceBEq, Nat.reduceAdd, Nat.reduceLeDiff, Nat.reduceSub, Int.reduceEq, h0, h1, h6, hs, hd, bytesA_take, bytesA_drop, show (4 : Int).toNat = 4 from rfl]
    repeat with_reducible refine ask.of (by omega) ?_
    refine hK _ hlt ?_
    simp -dsimp -implicitDefEqProofs only [go_sem, Nat.reduceBEq, Nat.reduceAdd, Nat.reduceLeDiff, Nat.reduceSub, Int.reduceEq, h0, h1, h6, hs, sval_i32 hcl, unpackI_succ, show (b.drop (4 * i)).take (b.length - 4 * i) = b.drop (4 * i) by rw [← hd, List.take_length], drop_drop]
  · obtain rfl : i = k := by omega
    simp -dsimp -implicitDefEqProofs only [go_sem, Nat.reduceBEq, Nat.reduceAdd, Nat.reduceLeDiff, Nat.reduceSub, Int.reduceEq, h0, h1, h6, hs, fin]
theorem c_unpacked_i64 (b : List UInt8) (hb : b.length ≤ 1048576) : Meets Try.prog 221 [rowB b, .v (.int .i64 8)] (fun r => r = .tup [rowI (unpackIC b 8).1, .v (.int .i64 (unpackIC b 8).2)]) := by
  have hw : isW 8 = true := rfl
  have fin := unpackIC.eq_1 b 8
  rw [if_pos hw, show (8 : Int).toNat = 8 from rfl] at fin
  have em : (b.length : Int).tmod 8 = ((b.length % 8 : Nat) : Int) := rfl
  refine Meets.intro mixed (hint []) Try.func221 rfl (by decide) res_221 rty_221 (by kernel_rfl) ?_; 
  simp -dsimp -implicitDefEqProofs only [go_sem, Nat.reduceBEq, Nat.reduceAdd, Nat.reduceLeDiff, Nat.reduceSub, Int.reduceEq, em]
  refine ifB'.of (fun hr => ?_) (fun hr => ?_)
  rotate_left
  · simp -dsimp -implicitDefEqProofs only [go_sem, Nat.reduceBEq, Nat.reduceAdd, Nat.reduceLeDiff, Nat.reduceSub, Int.reduceEq]
    rw [fin, if_neg (by omega)]; rfl
  have hk := Nat.mul_div_cancel' (Nat.dvd_of_mod_eq_zero (show b.length % 8 = 0 by omega))
  have fin : unpackIC b 8 = (unpackI b 8 (b.length / 8), 0) := by rw [fin, if_pos (by omega)]
  have ed : IntKind.i64.wrap ((b.length : Int).tdiv 8) = ((b.length / 8 : Nat) : Int) := by rw [Int.tdiv_eq_ediv_of_nonneg (by omega), wrap_i64_of (by omega) (by omega)]; omega
  simp -dsimp -implicitDefEqProofs only [go_sem, Nat.reduceBEq, Nat.reduceAdd, Nat.reduceLeDiff, Nat.reduceSub, Int.reduceEq, ed]
  generalize b.length / 8 = k at hk fin
  repeat with_reducible refine ask.of (by omega) ?_
  refine LoopE.cnt k (fun i s => s.env 0 = .rd .ent 5 1 (bytesA (b.drop (8 * i))) ∧ s.env 1 = .v (.int .i64 8) ∧ s.env 6 = .ref [16] ∧ s.σ [16] = some (.row 3 1 (ra intC (unpackI b 8 i)))) ⟨by simp -dsimp -implicitDefEqProofs only [go_sem, Nat.reduceBEq, Nat.reduceAdd, Nat.reduceLeDiff, Nat.reduceSub, Int.reduceEq, initE, Nat.mul_zero, List.drop_zero], by simp -dsimp -implicitDefEqProofs only [go_sem, Nat.reduceBEq, Nat.reduceAdd, Nat.reduceLeDiff, Nat.reduceSub, Int.reduceEq, initE], by simp -dsimp -implicitDefEqProofs only [go_sem, Nat.reduceBEq, Nat.reduceAdd, Nat.reduceLeDiff, Nat.reduceSub, Int.reduceEq], by simp -dsimp -implicitDefEqProofs only [go_sem, Nat.reduceBEq, Nat.reduceAdd, Nat.reduceLeDiff, Nat.reduceSub, Int.reduceEq]; rfl⟩ ?_
  rintro i ⟨e, σ⟩ hi ⟨h0, h1, h6, hs⟩ K hK
  simp only at h0 h1 h6 hs
  have hd : (b.drop (8 * i)).length = b.length - 8 * i := List.length_drop
  simp -dsimp -implicitDefEqProofs only [go_sem, Nat.reduceBEq, Nat.reduceAdd, Nat.reduceLeDiff, Nat.reduceSub, Int.reduceEq, h0, h1, h6, hs, hd]
  refine ifB'.of (fun hlt => ?_) (fun hlt => ?_)
  · have hlt : i < k := by omega
    have hl : 8 * i + 8 ≤ b.length := by omega
    have hcl := chunk_length hl
    have hib : i ≤ 8 * i := by omega
    simp -dsimp -implicitDefEqProofs only [go_sem, Nat.reduceBEq, Nat.reduceAdd, Nat.reduceLeDiff, Nat.reduceSub, Int.reduceEq, h0, h1, h6, hs, hd, bytesA_take, bytesA_drop, impl_chunk, List.drop_zero, show Int.toNat 0 = 0 from rfl, show (8 : Int).toNat = 8 from rfl]
    repeat with_reducible refine ask.of (by omega) ?_
    refine CallE.of (c_low (chunk b 8 i) (by omega)) (by rintro r rfl; (repeat' first | exact trivial | exact pure_rowB _ | exact pure_rowO _ | exact pure_rowI _ | exact pure_rowBB _ | exact pure_rowPk _ _ | exact pure_rowSn _ _ | exact pure_rowFd _ _ | exact pure_rowBBB _ | exact pure_rowCl _ _ | exact pure_rowTb _ _ _ | refine And.intro ?_ ?_)) (by simp -dsimp -implicitDefEqProofs only [go_sem, Nat.reduceBEq, Nat.reduceAdd, Nat.reduceLeDiff, Nat.reduceSub, Int.reduceEq, h0, h1, h6, hs]) ?_
    rintro r rfl
    simp -dsimp -implicitDefEqProofs only [go_sem, Nat.reduceBEq, Nat.reduceAdd, Nat.reduceLeDiff, Nat.reduceSub, Int.reduceEq, h0, h1, h6, hs]
    simp -dsimp -implicitDefEqProofs only [go_sem, Nat.reduceBEq, Nat.reduceAdd, Nat.reduceLeDiff, Nat.reduceSub, Int.reduceEq, h0, h1, h6, hs, hd, sval_wrap hcl, unpackI_length]
    repeat with_reducible refine ask.of (by omega) ?_
    simp -dsimp -implicitDefEqProofs only [go_sem, Nat.reduceBEq, Nat.reduceAdd, Nat.reduceLeDiff, Nat.reduceSub, Int.reduceEq, h0, h1, h6, hs, hd, bytesA_take, bytesA_drop, show (8 : Int).toNat = 8 from rfl]
    repeat with_reducible refine ask.of (by omega) ?_
    refine hK _ hlt ?_
    simp -dsimp -implicitDefEqProofs only [go_sem, Nat.reduceBEq, Nat.reduceAdd, Nat.reduceLeDiff, Nat.reduceSub, Int.reduceEq, h0, h1, h6, hs, sval_wrap hcl, unpackI_succ, show (b.drop (8 * i)).take (b.length - 8 * i) = b.drop (8 * i) by rw [← hd, List.take_length], drop_drop]
  · obtain rfl : i = k := by omega
    simp -dsimp -implicitDefEqProofs only [go_sem, Nat.reduceBEq, Nat.reduceAdd, Nat.reduceLeDiff, Nat.reduceSub, Int.reduceEq, h0, h1, h6, hs, fin]
theorem c_implUnpackInts (b : List UInt8) (n : Int) (hb : b.length ≤ 1048576) : Meets Try.prog 217 [rowB b, .v (.int .i64 n)] (fun r => r = .tup [rowI (unpackIC b n).1, .v (.int .i64 (unpackIC b n).2)]) := by
  refine Meets.intro mixed (hint []) Try.func217 rfl (by decide) res_217 rty_217 (by kernel_rfl) ?_; 
  simp -dsimp -implicitDefEqProofs only [go_sem, Nat.reduceBEq, Nat.reduceAdd, Nat.reduceLeDiff, Nat.reduceSub, Int.reduceEq]
  refine ifB'.of (fun h1 => ?_) (fun h1 => ?_)
  · subst h1
    simp -dsimp -implicitDefEqProofs only [go_sem, Nat.reduceBEq, Nat.reduceAdd, Nat.reduceLeDiff, Nat.reduceSub, Int.reduceEq]
    refine CallE.of (c_unpacked_i8 b hb) (by rintro r rfl; (repeat' first | exact trivial | exact pure_rowB _ | exact pure_rowO _ | exact pure_rowI _ | exact pure_rowBB _ | exact pure_rowPk _ _ | exact pure_rowSn _ _ | exact pure_rowFd _ _ | exact pure_rowBBB _ | exact pure_rowCl _ _ | exact pure_rowTb _ _ _ | refine And.intro ?_ ?_)) (by simp -dsimp -implicitDefEqProofs only [go_sem, Nat.reduceBEq, Nat.reduceAdd, Nat.reduceLeDiff, Nat.reduceSub, Int.reduceEq]) ?_
    rintro r rfl
    simp -dsimp -implicitDefEqProofs only [go_sem, Nat.reduceBEq, Nat.reduceAdd, Nat.reduceLeDiff, Nat.reduceSub, Int.reduceEq]
  simp -dsimp -implicitDefEqProofs only [go_sem, Nat.reduceBEq, Nat.reduceAdd, Nat.reduceLeDiff, Nat.reduceSub, Int.reduceEq]
  refine ifB'.of (fun h2 => ?_) (fun h2 => ?_)
  · subst h2
    simp -dsimp -implicitDefEqProofs only [go_sem, Nat.reduceBEq, Nat.reduceAdd, Nat.reduceLeDiff, Nat.reduceSub, Int.reduceEq]
    refine CallE.of (c_unpacked_i16 b hb) (by rintro r rfl; (repeat' first | exact trivial | exact pure_rowB _ | exact pure_rowO _ | exact pure_rowI _ | exact pure_rowBB _ | exact pure_rowPk _ _ | exact pure_rowSn _ _ | exact pure_rowFd _ _ | exact pure_rowBBB _ | exact pure_rowCl _ _ | exact pure_rowTb _ _ _ | refine And.intro ?_ ?_)) (by simp -dsimp -implicitDefEqProofs only [go_sem, Nat.reduceBEq, Nat.reduceAdd, Nat.reduceLeDiff, Nat.reduceSub, Int.reduceEq]) ?_
    rintro r rfl
    simp -dsimp -implicitDefEqProofs only [go_sem, Nat.reduceBEq, Nat.reduceAdd, Nat.reduceLeDiff, Nat.reduceSub, Int.reduceEq]
  simp -dsimp -implicitDefEqProofs only [go_sem, Nat.reduceBEq, Nat.reduceAdd, Nat.reduceLeDiff, Nat.reduceSub, Int.reduceEq]
  refine ifB'.of (fun h4 => ?_) (fun h4 => ?_)
  · subst h4
    simp -dsimp -implicitDefEqProofs only [go_sem, Nat.reduceBEq, Nat.reduceAdd, Nat.reduceLeDiff, Nat.reduceSub, Int.reduceEq]
    refine CallE.of (c_unpacked_i32 b hb) (by rintro r rfl; (repeat' first | exact trivial | exact pure_rowB _ | exact pure_rowO _ | exact pure_rowI _ | exact pure_rowBB _ | exact pure_rowPk _ _ | exact pure_rowSn _ _ | exact pure_rowFd _ _ | exact pure_rowBBB _ | exact pure_rowCl _ _ | exact pure_rowTb _ _ _ | refine And.intro ?_ ?_)) (by simp -dsimp -implicitDefEqProofs only [go_sem, Nat.reduceBEq, Nat.reduceAdd, Nat.reduceLeDiff, Nat.reduceSub, Int.reduceEq]) ?_
    rintro r rfl
    simp -dsimp -implicitDefEqProofs only [go_sem, Nat.reduceBEq, Nat.reduceAdd, Nat.reduceLeDiff, Nat.reduceSub, Int.reduceEq]
  simp -dsimp -implicitDefEqProofs only [go_sem, Nat.reduceBEq, Nat.reduceAdd, Nat.reduceLeDiff, Nat.reduceSub, Int.reduceEq]
  refine ifB'.of (fun h8 => ?_) (fun h8 => ?_)
  · subst h8
    simp -dsimp -implicitDefEqProofs only [go_sem, Nat.reduceBEq, Nat.reduceAdd, Nat.reduceLeDiff, Nat.reduceSub, Int.reduceEq]
    refine CallE.of (c_unpacked_i64 b hb) (by rintro r rfl; (repeat' first | exact trivial | exact pure_rowB _ | exact pure_rowO _ | exact pure_rowI _ | exact pure_rowBB _ | exact pure_rowPk _ _ | exact pure_rowSn _ _ | exact pure_rowFd _ _ | exact pure_rowBBB _ | exact pure_rowCl _ _ | exact pure_rowTb _ _ _ | refine And.intro ?_ ?_)) (by simp -dsimp -implicitDefEqProofs only [go_sem, Nat.reduceBEq, Nat.reduceAdd, Nat.reduceLeDiff, Nat.reduceSub, Int.reduceEq]) ?_
    rintro r rfl
    simp -dsimp -implicitDefEqProofs only [go_sem, Nat.reduceBEq, Nat.reduceAdd, Nat.reduceLeDiff, Nat.reduceSub, Int.reduceEq]
  simp -dsimp -implicitDefEqProofs only [go_sem, Nat.reduceBEq, Nat.reduceAdd, Nat.reduceLeDiff, Nat.reduceSub, Int.reduceEq]
  rw [unpackIC, if_neg (by simp [isW, h1, h2, h4, h8])]
  rfl
end Go.Ev
set_option linter.unusedSimpArgs false
set_option linter.unusedVariables false
namespace Go.Ev
open Go Go.RowKit Go.Proofs
theorem bitB_pack (l : List Bool) (j : Nat) (h : j < 8 * packN l) : bitB (packB l) j = l[j]?.getD false := by
  have hq : j / 8 < packN l := by omega
  rw [bitB_at (by rw [packB_length]; exact hq)]
  have e : (packB l)[j / 8]'(by rw [packB_length]; exact hq) = UInt8.ofNat (hvS l (8 * (j / 8)) 8) := by simp [packB]
  rw [e, hvS_bit _ _ _ (by omega), show 8 * (j / 8) + j % 8 = j by omega]
theorem unpack_pack (l : List Bool) : unpackC (packB l) l.length = (l, 0) := by
  have hl := packB_length l
  have hN : packN l = (l.length + 7) / 8 := rfl
  have hpad : padOk (packB l) l.length := fun j h1 h2 => by
    rw [hl] at h2
    rw [bitB_pack l j h2]
    simp [h1]
  have hb : bitsB (packB l) l.length = l := by
    apply List.ext_getElem (by rw [bitsB_length])
    intro i h1 h2
    have : (bitsB (packB l) l.length)[i] = bitB (packB l) i := by simp [bitsB]
    rw [this, bitB_pack l i (by omega)]
    simp [h2]
  rw [unpackC, if_neg (by omega), if_neg (by rw [hl]; omega), Int.toNat_natCast, if_pos hpad, hb]
theorem pack_back {b : List UInt8} {n : Int} (h : (unpackC b n).2 = 0) : packB (unpackC b n).1 = b ∧ (unpackC b n).1.length ≤ 8 * b.length := by
  unfold unpackC at h ⊢
  split
  · rename_i h1; rw [if_pos h1] at h; cases h
  · rename_i h1
    rw [if_neg h1] at h
    split
    · rename_i h2; rw [if_pos h2] at h; cases h
    · rename_i h2
      rw [if_neg h2] at h
      split
      · rename_i h3
        refine ⟨(pack_unpack b n.toNat (by rw [packN, bitsB_length]; omega)).2 h3, ?_⟩
        show (bitsB b n.toNat).length ≤ _
        rw [bitsB_length]; omega
      · rename_i h3; rw [if_neg h3] at h; cases h
theorem unpackC_len (b : List UInt8) (n : Int) : (unpackC b n).1.length ≤ 8 * b.length := by
  unfold unpackC
  split
  · simp
  · split
    · simp
    · split
      · show (bitsB b n.toNat).length ≤ _
        rw [bitsB_length]; omega
      · simp
theorem leN_leB (x : Int) : ∀ w, leN (leB w x) = uN x % 256 ^ w
  | 0 => by simp [leB, leN, Nat.mod_one]
  | w + 1 => by
    rw [← leB_succ, leN_snoc, leN_leB x w, leB_length, Nat.pow_succ, Nat.mod_mul]
    congr 2
    simp
theorem chunk_pack (w : Nat) : ∀ (xs : List Int) (i : Nat) (h : i < xs.length), chunk (packI xs w) w i = leB w xs[i]
  | x :: xs, 0, _ => by
    have hl := leB_length w x
    simp only [chunk, packI, List.flatMap_cons, Nat.mul_zero, List.drop_zero, List.getElem_cons_zero]
    exact List.take_left' hl
  | x :: xs, i + 1, h => by
    have ih := chunk_pack w xs i (by simpa using h)
    have hl := leB_length w x
    simp only [chunk, packI, List.flatMap_cons, List.getElem_cons_succ] at ih ⊢
    rw [show w * (i + 1) = (leB w x).length + w * i by rw [hl, Nat.mul_succ]; omega, ← List.drop_drop, List.drop_left' rfl]
    exact ih
theorem sval_leB {w : Nat} {x : Int} (hw : w = 1 ∨ w = 2 ∨ w = 4 ∨ w = 8) (hf : fitsB w x = true) (hr : -9223372036854775808 ≤ x ∧ x ≤ 9223372036854775807) : sval (leB w x) = x := by
  rw [sval, leN_leB, leB_length]
  have hf : w = 8 ∨ (-(2 ^ (8 * w - 1) : Int) ≤ x ∧ x < 2 ^ (8 * w - 1)) := by simpa [fitsB] using hf
  unfold uN
  rcases hw with rfl | rfl | rfl | rfl
  · simp only [show ¬ (1 : Nat) = 8 by decide, false_or, show (256 : Nat) ^ 1 = 256 from rfl, show (2 : Int) ^ (8 * 1 - 1) = 128 from rfl] at hf ⊢
    split <;> omega
  · simp only [show ¬ (2 : Nat) = 8 by decide, false_or, show (256 : Nat) ^ 2 = 65536 from rfl, show (2 : Int) ^ (8 * 2 - 1) = 32768 from rfl] at hf ⊢
    split <;> omega
  · simp only [show ¬ (4 : Nat) = 8 by decide, false_or, show (256 : Nat) ^ 4 = 4294967296 from rfl, show (2 : Int) ^ (8 * 4 - 1) = 2147483648 from rfl] at hf ⊢
    split <;> omega
  · simp only [show (256 : Nat) ^ 8 = 18446744073709551616 from rfl] at hf ⊢
    split <;> omega
theorem isW_cases {n : Int} (h : isW n = true) : ∃ w : Nat, n = w ∧ (w = 1 ∨ w = 2 ∨ w = 4 ∨ w = 8) := by
  have h : n = 1 ∨ n = 2 ∨ n = 4 ∨ n = 8 := by simpa [isW] using h
  rcases h with rfl | rfl | rfl | rfl
  · exact ⟨1, rfl, by omega⟩
  · exact ⟨2, rfl, by omega⟩
  · exact ⟨4, rfl, by omega⟩
  · exact ⟨8, rfl, by omega⟩
theorem ints_back {xs : List Int} {n : Int} (h : (packIC xs n).2 = 0) (hr : ∀ x ∈ xs, -9223372036854775808 ≤ x ∧ x ≤ 9223372036854775807) : unpackIC (packIC xs n).1 n = (xs, 0) ∧ (((packIC xs n).1.length : Nat) : Int) = n * xs.length ∧ 1 ≤ n ∧ n ≤ 8 := by
  unfold packIC at h ⊢
  split
  · rename_i h1
    rw [if_pos h1] at h
    split
    · rename_i h2
      obtain ⟨w, rfl, hw⟩ := isW_cases h1
      rw [Int.toNat_natCast] at h2 ⊢
      have hl := packI_length xs w
      have hw0 : 0 < w := by omega
      refine ⟨?_, by show ((packI xs w).length : Int) = _; rw [hl]; simp, by omega, by omega⟩
      rw [unpackIC, if_pos h1, Int.toNat_natCast]
      rw [if_pos (by show (packI xs w).length % w = 0; rw [hl]; exact Nat.mul_mod_right ..)]
      have hk : (packI xs w).length / w = xs.length := by rw [hl]; exact Nat.mul_div_cancel_left _ hw0
      show (unpackI (packI xs w) w ((packI xs w).length / w), 0) = (xs, 0)
      rw [hk]
      congr 1
      apply List.ext_getElem (by rw [unpackI_length])
      intro i h3 h4
      have e : (unpackI (packI xs w) w xs.length)[i] = sval (chunk (packI xs w) w i) := by simp [unpackI]
      rw [e, chunk_pack w xs i h4]
      exact sval_leB hw (List.all_eq_true.1 h2 _ (List.getElem_mem h4)) (hr _ (List.getElem_mem h4))
    · rename_i h2; rw [if_neg h2] at h; cases h
  · rename_i h1; rw [if_neg h1] at h; cases h
end Go.Ev
set_option linter.unusedSimpArgs false
set_option linter.unusedVariables false
namespace Go.Ev
open Go Go.RowKit Go.Proofs
theorem bits_back {cs : List Cl} : unpackC (packB (bitsL cs)) (cs.length : Nat) = (bitsL cs, 0) := by
  have := unpack_pack (bitsL cs)
  rwa [show (bitsL cs).length = cs.length by simp [bitsL]] at this
theorem there_back {cs : List Cl} : unpackC (packB (thereL cs)) (cs.length : Nat) = (thereL cs, 0) := by
  have := unpack_pack (thereL cs)
  rwa [there_len] at this
theorem valid_cases (cs : List Cl) : (validB cs = [] ∧ ∀ c ∈ cs, c.z = false) ∨ (0 < (validB cs).length ∧ unpackC (validB cs) (cs.length : Nat) = (thereL cs, 0)) := by
  unfold validB
  by_cases h : false ∈ thereL cs
  · rw [if_pos h]
    refine .inr ⟨?_, there_back⟩
    rw [packB_length, packN, there_len]
    have : 0 < (thereL cs).length := List.length_pos_of_mem h
    rw [there_len] at this; omega
  · rw [if_neg h]
    refine .inl ⟨rfl, fun c hc => ?_⟩
    cases hz : c.z
    · rfl
    · exact absurd (List.mem_map.2 ⟨c, hc, by simp [hz]⟩) h
def nulS (v : List UInt8) (n i : Nat) : Bool := if 0 < v.length then !((unpackC v n).1.getD i false) else false
def pcS (xs : List Int) (b : List UInt8) (j : Nat) : List UInt8 := (b.take (xs.getD (j + 1) 0).toNat).drop (xs.getD j 0).toNat
def splOk (xs : List Int) (L n : Nat) : Prop := xs.length = n + 1 ∧ xs.getD 0 0 = 0 ∧ xs.getD n 0 = L ∧ ∀ j, j < n → xs.getD j 0 ≤ xs.getD (j + 1) 0 ∧ xs.getD (j + 1) 0 ≤ L
noncomputable def splL (b1 b2 : List UInt8) (n : Nat) : List (List UInt8) × Bool := @ite _ ((unpackIC b1 4).2 = 0 ∧ splOk (unpackIC b1 4).1 b2.length n) (Classical.propDecidable _) ((List.range n).map (pcS (unpackIC b1 4).1 b2), true) ([], false)
theorem splL_yes {b1 b2 : List UInt8} {n : Nat} (h : (unpackIC b1 4).2 = 0) (h2 : splOk (unpackIC b1 4).1 b2.length n) : splL b1 b2 n = ((List.range n).map (pcS (unpackIC b1 4).1 b2), true) := @if_pos _ (Classical.propDecidable _) ⟨h, h2⟩ _ _ _
theorem splL_no {b1 b2 : List UInt8} {n : Nat} (h : ¬ ((unpackIC b1 4).2 = 0 ∧ splOk (unpackIC b1 4).1 b2.length n)) : splL b1 b2 n = ([], false) := @if_neg _ (Classical.propDecidable _) h _ _ _
noncomputable def cdS (f : Fd) (n : Nat) (v b1 b2 : List UInt8) (vs : List (List UInt8)) (i : Nat) : Cl :=
  if nulS v n i = true then ⟨true, 0, []⟩ else if f.k = 0 then ⟨false, if bitB b1 i = true then 1 else 0, []⟩ else if f.k = 1 then ⟨false, (unpackIC b1 f.w).1.getD i 0, []⟩ else
  if f.k = 2 then ⟨false, 0, (splL b1 b2 n).1.getD i []⟩ else ⟨false, 0, if i < b1.length ∧ (b1.getD i 0).toNat < vs.length then vs.getD (b1.getD i 0).toNat [] else []⟩
noncomputable def rdS (f : Fd) (n : Nat) (v b1 b2 : List UInt8) (vs : List (List UInt8)) : List Cl := (List.range n).map (cdS f n v b1 b2 vs)
theorem rdS_len (f : Fd) (n : Nat) (v b1 b2 : List UInt8) (vs : List (List UInt8)) : (rdS f n v b1 b2 vs).length = n := by simp [rdS]
theorem offL_at (cs : List Cl) {j : Nat} (h : j ≤ cs.length) : (offL cs).getD j 0 = ((szL clW (cs.take j) : Nat) : Int) := by
  have : j < cs.length + 1 := by omega
  simp [offL, offP, List.getD, this]
theorem data_split (cs : List Cl) (j : Nat) : dataL cs = dataL (cs.take j) ++ dataL (cs.drop j) := by
  rw [dataL, dataL, dataL, ← List.flatMap_append, List.take_append_drop]
theorem data_pre (cs : List Cl) (j : Nat) : (dataL cs).take (szL clW (cs.take j)) = dataL (cs.take j) := by
  rw [data_split cs j, ← data_len, List.take_left']
  rfl
theorem pcS_off (cs : List Cl) {j : Nat} (h : j < cs.length) : pcS (offL cs) (dataL cs) j = cs[j].f := by
  rw [pcS, offL_at cs (by omega), offL_at cs (by omega), Int.toNat_natCast, Int.toNat_natCast, data_pre, ← data_take h, ← data_len]
  exact List.drop_left
theorem splOk_off (cs : List Cl) : splOk (offL cs) (dataL cs).length cs.length := by
  refine ⟨by rw [offL, offP_len], ?_, ?_, fun j hj => ?_⟩
  · rw [offL_at cs (by omega)]; rfl
  · rw [offL_at cs (by omega), List.take_length, data_len]
  · rw [offL_at cs (by omega), offL_at cs (by omega), data_len]
    have h1 := szL_take_succ clW hj
    have h2 := szL_take_le clW cs (j + 1)
    omega
theorem off_back {cs : List Cl} (h : szL clW cs ≤ 1048576) : unpackIC (packIC (offL cs) 4).1 4 = (offL cs, 0) :=
  (ints_back (off_code h) fun x hx => by have := offP_mem hx; omega).1
theorem ints_back1 {f : Fd} {cs : List Cl} (hf : fdOk f) (h1 : f.k = 1) (hc : ∀ c ∈ cs, clOk f c) (hr : ∀ c ∈ cs, i64r c.i) : unpackIC (packIC (intsL cs) f.w).1 f.w = (intsL cs, 0) :=
  (ints_back (int_code hf h1 hc) fun x hx => by obtain ⟨c, hm, rfl⟩ := List.mem_map.1 hx; exact hr c hm).1
theorem plc_back {vs : List (List UInt8)} {cs : List Cl} (h : vs.length ≤ 40) : unpackIC (packIC (plcL vs cs) 1).1 1 = (plcL vs cs, 0) :=
  (ints_back (plc_code h) (plc_rng (by omega))).1
theorem plc_bnd {vs : List (List UInt8)} {c : Cl} (hv : c.z = false → c.f ∈ vs) : 0 ≤ plc vs c ∧ (vs.length ≤ 40 → plc vs c ≤ 40) := by
  have := plI_le vs c.f
  unfold plc
  split
  · omega
  · rename_i hz
    have := (plI_nonneg vs c.f).2 (hv (by simpa using hz))
    omega
theorem packI1 (xs : List Int) : packI xs 1 = xs.map fun x => UInt8.ofNat (uN x % 256) := by
  induction xs with
  | nil => rfl
  | cons x xs ih =>
    rw [List.map_cons, ← ih]
    simp [packI, leB]
theorem plcB {vs : List (List UInt8)} {cs : List Cl} (h : vs.length ≤ 40) (hv : ∀ c ∈ cs, c.z = false → c.f ∈ vs) {i : Nat} (hi : i < cs.length) :
    i < (packIC (plcL vs cs) 1).1.length ∧ (((packIC (plcL vs cs) 1).1.getD i 0).toNat : Int) = plc vs cs[i] := by
  have h0 := plc_code (vs := vs) (cs := cs) h
  have e : (packIC (plcL vs cs) 1).1 = packI (plcL vs cs) 1 := by
    unfold packIC at h0 ⊢
    split
    · rename_i h1
      rw [if_pos h1] at h0
      split
      · rfl
      · rename_i h2; rw [if_neg h2] at h0; cases h0
    · rename_i h1; rw [if_neg h1] at h0; cases h0
  have hb := plc_bnd (hv _ (List.getElem_mem hi))
  have hb2 := hb.2 h
  rw [e, packI1]
  refine ⟨by simp [plcL]; exact hi, ?_⟩
  have e2 : ((plcL vs cs).map fun x => UInt8.ofNat (uN x % 256)).getD i 0 = UInt8.ofNat (uN (plc vs cs[i]) % 256) := by simp [plcL, List.getD, hi]
  rw [e2]
  have e3 : uN (plc vs cs[i]) = (plc vs cs[i]).toNat := by unfold uN; omega
  rw [e3]
  simp
  omega
theorem plI_get {vs : List (List UInt8)} {t : List UInt8} (h : t ∈ vs) : (plI vs t).toNat < vs.length ∧ vs.getD (plI vs t).toNat [] = t := by
  have hlt := List.idxOf_lt_length_of_mem h
  have e : (plI vs t).toNat = vs.idxOf t := by rw [plI, if_pos h]; simp
  rw [e]
  exact ⟨hlt, by rw [List.getD, List.getElem?_eq_getElem hlt]; simp⟩
theorem cl_ext {a b : Cl} (h1 : a.z = b.z) (h2 : a.i = b.i) (h3 : a.f = b.f) : a = b := by
  cases a; cases b; simp_all
theorem rdS_back {f : Fd} {cs : List Cl} {vs : List (List UInt8)} {v b1 b2 : List UInt8} (h : bcOk f cs vs) (hr : ∀ c ∈ cs, i64r c.i) (hw : szL clW cs ≤ 1048576) (hv : v = validB cs) (hb : b1 = (bodyB f cs vs).getD 0 []) (hb2 : b2 = (bodyB f cs vs).getD 1 []) : rdS f cs.length v b1 b2 vs = cs := by
  refine List.ext_getElem (rdS_len ..) fun i h1 h2 => ?_
  have e : (rdS f cs.length v b1 b2 vs)[i] = cdS f cs.length v b1 b2 vs i := by simp [rdS]
  rw [e]
  have hm := List.getElem_mem h2
  have hc := h.2.1 _ hm
  have hn : nulS v cs.length i = cs[i].z := by
    rw [hv, nulS]
    rcases valid_cases cs with ⟨h0, hz⟩ | ⟨h0, hz⟩
    · rw [h0, if_neg (by decide), hz _ hm]
    · rw [if_pos h0, hz]
      have : (thereL cs).getD i false = !cs[i].z := by simp [thereL, List.getD, h2]
      rw [this, Bool.not_not]
  unfold clOk at hc
  rw [cdS, hn]
  cases hz : cs[i].z
  · rw [hz] at hc
    rw [if_neg (by decide)] at hc ⊢
    rcases bk_cases h.1.1 with hk | hk | hk | hk
    · rw [if_pos hk] at hc ⊢
      rw [bodyB, if_pos hk] at hb
      have e1 : bitB b1 i = decide (cs[i].i = 1) := by
        rw [hb]
        show bitB (packB (bitsL cs)) i = _
        rw [bitB_pack (bitsL cs) i (by unfold packN; simp [bitsL]; omega)]
        simp [bitsL, h2]
      refine cl_ext hz.symm ?_ (List.eq_nil_of_length_eq_zero hc.2).symm
      show (if bitB b1 i = true then (1 : Int) else 0) = _
      rw [e1]
      rcases hc.1 with hq | hq <;> simp [hq]
    · rw [if_neg (by omega), if_pos hk] at hc
      rw [if_neg (by omega), if_pos hk]
      rw [bodyB, if_neg (by omega), if_pos hk] at hb
      have e1 : (unpackIC b1 f.w).1.getD i 0 = cs[i].i := by
        rw [hb]
        show (unpackIC (packIC (intsL cs) f.w).1 f.w).1.getD i 0 = _
        rw [ints_back1 h.1.1 hk h.2.1 hr]
        simp [intsL, List.getD, h2]
      exact cl_ext hz.symm e1 (List.eq_nil_of_length_eq_zero hc.2).symm
    · rw [if_neg (by omega), if_neg (by omega)] at hc
      rw [if_neg (by omega), if_neg (by omega), if_pos hk]
      rw [bodyB, if_neg (by omega), if_neg (by omega), if_pos hk] at hb hb2
      have e1 : (splL b1 b2 cs.length).1.getD i [] = cs[i].f := by
        have hb : b1 = (packIC (offL cs) 4).1 := hb
        have hb2 : b2 = dataL cs := hb2
        subst hb hb2
        have hoff := off_back hw
        rw [splL_yes (by rw [hoff]) (by rw [hoff]; exact splOk_off cs), hoff]
        have : ((List.range cs.length).map (pcS (offL cs) (dataL cs))).getD i [] = pcS (offL cs) (dataL cs) i := by simp [List.getD, h2]
        show ((List.range cs.length).map (pcS (offL cs) (dataL cs))).getD i [] = _
        rw [this, pcS_off cs h2]
      exact cl_ext hz.symm hc.symm e1
    · rw [if_neg (by omega), if_neg (by omega)] at hc
      rw [if_neg (by omega), if_neg (by omega), if_neg (by omega)]
      rw [bodyB, if_neg (by omega), if_neg (by omega), if_neg (by omega)] at hb
      have hb : b1 = (packIC (plcL vs cs) 1).1 := hb
      have hpv := h.2.2 hk
      obtain ⟨g1, g2⟩ := plcB h.1.2.2.1 hpv h2
      rw [← hb] at g1 g2
      have hpl : plc vs cs[i] = plI vs cs[i].f := by unfold plc; rw [hz]; rfl
      obtain ⟨g3, g4⟩ := plI_get (hpv _ hm hz)
      have g5 : (b1.getD i 0).toNat = (plI vs cs[i].f).toNat := by rw [hpl] at g2; omega
      rw [g5, if_pos ⟨g1, g3⟩, g4]
      exact cl_ext hz.symm hc.symm rfl
  · rw [hz] at hc
    rw [if_pos rfl] at hc ⊢
    exact cl_ext hz.symm hc.1.symm (List.eq_nil_of_length_eq_zero hc.2).symm
def wantN (f : Fd) : Nat := if f.k = 2 then 3 else 2
def rcOk (f : Fd) (n : Int) (vs : List (List UInt8)) : Prop := fdOk f ∧ okD vs ∧ 0 ≤ n ∧ n ≤ 100
def rdOf (f : Fd) (n : Int) (bs : List (List UInt8)) (vs : List (List UInt8)) (cs : List Cl) : Prop := (cs.length : Int) = n ∧ (∀ c ∈ cs, i64r c.i) ∧ bldL f cs vs = (bs, 0)
noncomputable def rdL (f : Fd) (n : Int) (bs : List (List UInt8)) (vs : List (List UInt8)) : List Cl × Int :=
  @ite _ (rcOk f n vs) (Classical.propDecidable _) (@dite _ (∃ cs, rdOf f n bs vs cs) (Classical.propDecidable _) (fun h => (h.choose, 0)) (fun _ => ([], 3))) ([], 1)
theorem rdL_bad {f : Fd} {n : Int} {bs vs : List (List UInt8)} (h : ¬ rcOk f n vs) : rdL f n bs vs = ([], 1) := @if_neg _ (Classical.propDecidable _) h _ _ _
theorem bld_inv {f : Fd} {cs : List Cl} {bs vs : List (List UInt8)} (h : bldL f cs vs = (bs, 0)) : bcOk f cs vs ∧ bs = validB cs :: bodyB f cs vs := by
  by_cases hb : bcOk f cs vs
  · rw [bldL_yes hb] at h
    exact ⟨hb, (Prod.mk.inj h).1.symm⟩
  · rw [bldL_no hb] at h
    exact absurd (Prod.mk.inj h).2 (by decide)
theorem body_w {f : Fd} {cs : List Cl} {vs : List (List UInt8)} (h : bcOk f cs vs) : (f.k = 2 → (bodyB f cs vs).getD 1 [] = dataL cs) ∧ (f.k ≠ 2 → f.k ≠ 3 → szL clW cs = 0) ∧ (f.k = 3 → szL clW cs ≤ 4000 * cs.length) ∧ (bodyB f cs vs).length + 1 = wantN f := by
  refine ⟨fun hk => ?_, fun h2 h3 => ?_, fun hk => ?_, ?_⟩
  · rw [bodyB, if_neg (by omega), if_neg (by omega), if_pos hk]; rfl
  · have : ∀ c ∈ cs, c.f.length = 0 := fun c hc => by
      have h1 := h.2.1 c hc
      unfold clOk at h1
      split at h1
      · exact h1.2
      split at h1
      · exact h1.2
      split at h1
      · exact h1.2
      · have := bk_cases h.1.1; omega
    have hd := data_len cs
    rw [← hd, List.length_eq_zero_iff, dataL, List.flatMap_eq_nil_iff]
    exact fun c hc => List.eq_nil_of_length_eq_zero (this c hc)
  · have : ∀ c ∈ cs, c.f.length ≤ 4000 := fun c hc => by
      have h1 := h.2.1 c hc
      unfold clOk at h1
      split at h1
      · omega
      · rename_i hz
        have := mem_wBB (h.2.2 hk c hc (by simpa using hz))
        have := h.1.2.2.2.1
        omega
    clear h
    induction cs with
    | nil => simp [szL]
    | cons c cs ih =>
      have h1 := this c List.mem_cons_self
      have h2 := ih fun x hx => this x (List.mem_cons_of_mem _ hx)
      simp only [szL, List.map_cons, List.sum_cons, List.length_cons, clW] at h2 ⊢
      omega
  · unfold bodyB wantN
    rcases bk_cases h.1.1 with hk | hk | hk | hk <;> simp [hk]
theorem rd_w {f : Fd} {n : Int} {bs vs : List (List UInt8)} {cs : List Cl} (hg : rcOk f n vs) (hb : ∀ b ∈ bs, b.length ≤ 1048576) (h : rdOf f n bs vs cs) : szL clW cs ≤ 1048576 := by
  obtain ⟨h1, h2, h3⟩ := h
  obtain ⟨h4, h5⟩ := bld_inv h3
  have hw := body_w h4
  have hl := hg.2.2
  rcases bk_cases h4.1.1 with hk | hk | hk | hk
  · have := hw.2.1 (by omega) (by omega); omega
  · have := hw.2.1 (by omega) (by omega); omega
  · have e := hw.1 hk
    have : dataL cs ∈ bs := by
      rw [h5, bodyB, if_neg (by omega), if_neg (by omega), if_pos hk]; simp
    have := hb _ this
    rw [data_len] at this; exact this
  · have := hw.2.2.1 hk; omega
theorem rd_back {f : Fd} {n : Int} {bs vs : List (List UInt8)} {cs : List Cl} (hg : rcOk f n vs) (hb : ∀ b ∈ bs, b.length ≤ 1048576) (h : rdOf f n bs vs cs) : rdS f n.toNat (bs.getD 0 []) (bs.getD 1 []) (bs.getD 2 []) vs = cs := by
  have hw := rd_w hg hb h
  obtain ⟨h1, h2, h3⟩ := h
  obtain ⟨h4, h5⟩ := bld_inv h3
  have e : n.toNat = cs.length := by omega
  rw [e]
  exact rdS_back h4 h2 hw (by rw [h5]; rfl) (by rw [h5]; rfl) (by rw [h5]; rfl)
theorem rdL_yes {f : Fd} {n : Int} {bs vs : List (List UInt8)} {cs : List Cl} (hg : rcOk f n vs) (hb : ∀ b ∈ bs, b.length ≤ 1048576) (h : rdOf f n bs vs cs) : rdL f n bs vs = (cs, 0) := by
  have hx : ∃ cs, rdOf f n bs vs cs := ⟨cs, h⟩
  rw [rdL, if_pos hg, dif_pos hx]
  have := rd_back hg hb hx.choose_spec
  rw [← this, rd_back hg hb h]
theorem rdL_no {f : Fd} {n : Int} {bs vs : List (List UInt8)} (hg : rcOk f n vs) (h : ∀ cs, ¬ rdOf f n bs vs cs) : rdL f n bs vs = ([], 3) := by
  have hx : ¬ ∃ cs, rdOf f n bs vs cs := fun ⟨cs, hc⟩ => h cs hc
  rw [rdL, if_pos hg, dif_neg hx]
end Go.Ev
set_option linter.unusedSimpArgs false
set_option linter.unusedVariables false
namespace Go.Ev
open Go Go.RowKit Go.Proofs
theorem it012 : Int.toNat 0 = 0 ∧ Int.toNat 1 = 1 ∧ Int.toNat 2 = 2 := ⟨rfl, rfl, rfl⟩
def rawB (l : List Bool) : List Cl := l.map fun b => ⟨false, if b = true then 1 else 0, []⟩
def rawI (l : List Int) : List Cl := l.map fun v => ⟨false, v, []⟩
theorem clA_snoc0 (xs : List Cl) (z : Bool) (i : Int) : ra clC xs ++ [[.v (.bool z), .v (.int .i64 i), .row 5 1 []]] = ra clC (xs ++ [⟨z, i, []⟩]) := by simp [ra, clC, bytesA]
theorem clA_snoc (xs : List Cl) (z : Bool) (i : Int) (f : List UInt8) : ra clC xs ++ [[.v (.bool z), .v (.int .i64 i), .row 5 1 (bytesA f)]] = ra clC (xs ++ [⟨z, i, f⟩]) := by simp [ra, clC]
theorem rawB_len (l : List Bool) : (rawB l).length = l.length := by simp [rawB]
theorem rawI_len (l : List Int) : (rawI l).length = l.length := by simp [rawI]
set_option maxRecDepth 8000 in
theorem c_boolsRead (n : Int) (ps : List (List UInt8)) (h0 : 0 < ps.length) (hb : ps[0].length ≤ 1048576) (hn : 0 ≤ n ∧ n ≤ 100) : Meets Try.prog 213 [.agg [], .v (.int .i64 n), rowBB ps] (fun r => r = .tup [rowCl 145 (rawB (unpackC ps[0] n).1), .v (.int .i64 (unpackC ps[0] n).2)]) := by
  refine Meets.intro mixed (hint []) Try.func213 rfl (by decide) res_213 rty_213 (by kernel_rfl) ?_; 
  simp -dsimp -implicitDefEqProofs only [go_sem, Nat.reduceBEq, Nat.reduceAdd, Nat.reduceLeDiff, Nat.reduceSub, Int.reduceEq]
  repeat (first | with_reducible refine ask.of (by first | omega | decide) ?_ | simp -dsimp -implicitDefEqProofs only [go_sem, Nat.reduceBEq, Nat.reduceAdd, Nat.reduceLeDiff, Nat.reduceSub, Int.reduceEq, initE, it012, byA_at h0])
  refine CallE.of (c_implUnpackBits ps[0] n hb (by omega) (by omega)) (by rintro r rfl; (repeat' first | exact trivial | exact pure_rowB _ | exact pure_rowO _ | exact pure_rowI _ | exact pure_rowBB _ | exact pure_rowPk _ _ | exact pure_rowSn _ _ | exact pure_rowFd _ _ | exact pure_rowBBB _ | exact pure_rowCl _ _ | exact pure_rowTb _ _ _ | refine And.intro ?_ ?_)) (by simp -dsimp -implicitDefEqProofs only [go_sem, Nat.reduceBEq, Nat.reduceAdd, Nat.reduceLeDiff, Nat.reduceSub, Int.reduceEq]) ?_
  rintro r rfl
  simp -dsimp -implicitDefEqProofs only [go_sem, Nat.reduceBEq, Nat.reduceAdd, Nat.reduceLeDiff, Nat.reduceSub, Int.reduceEq]
  have hl := unpackC_len ps[0] n
  generalize unpackC ps[0] n = u at *
  obtain ⟨bs, cd⟩ := u
  simp only at hl
  repeat (first | with_reducible refine ask.of (by first | omega | decide) ?_ | simp -dsimp -implicitDefEqProofs only [go_sem, Nat.reduceBEq, Nat.reduceAdd, Nat.reduceLeDiff, Nat.reduceSub, Int.reduceEq, initE])
  refine LoopE.cnt bs.length (fun i s => s.env 9 = .v (.int .i64 (cd : Nat)) ∧ s.env 10 = .ref [22] ∧ s.env 23 = .ref [19, 0] ∧ s.env 24 = .v (.int .i64 bs.length) ∧ s.env 25 = .v (.int .i64 i) ∧ s.σ [19, 0] = some (.row 4 1 (ra boolC bs)) ∧ s.σ [22] = some (.row 145 3 (ra clC (rawB (bs.take i))))) ⟨by simp -dsimp -implicitDefEqProofs only [go_sem, Nat.reduceBEq, Nat.reduceAdd, Nat.reduceLeDiff, Nat.reduceSub, Int.reduceEq], by simp -dsimp -implicitDefEqProofs only [go_sem, Nat.reduceBEq, Nat.reduceAdd, Nat.reduceLeDiff, Nat.reduceSub, Int.reduceEq], by simp -dsimp -implicitDefEqProofs only [go_sem, Nat.reduceBEq, Nat.reduceAdd, Nat.reduceLeDiff, Nat.reduceSub, Int.reduceEq], by simp -dsimp -implicitDefEqProofs only [go_sem, Nat.reduceBEq, Nat.reduceAdd, Nat.reduceLeDiff, Nat.reduceSub, Int.reduceEq], by simp -dsimp -implicitDefEqProofs only [go_sem, Nat.reduceBEq, Nat.reduceAdd, Nat.reduceLeDiff, Nat.reduceSub, Int.reduceEq] <;> rfl, by simp -dsimp -implicitDefEqProofs only [go_sem, Nat.reduceBEq, Nat.reduceAdd, Nat.reduceLeDiff, Nat.reduceSub, Int.reduceEq], by simp -dsimp -implicitDefEqProofs only [go_sem, Nat.reduceBEq, Nat.reduceAdd, Nat.reduceLeDiff, Nat.reduceSub, Int.reduceEq] <;> rfl⟩ ?_
  rintro i ⟨e, σ⟩ hi ⟨h9, h10, h23, h24, h25, hs19, hs22⟩ K hK
  simp only at h9 h10 h23 h24 h25 hs19 hs22
  simp -dsimp -implicitDefEqProofs only [go_sem, Nat.reduceBEq, Nat.reduceAdd, Nat.reduceLeDiff, Nat.reduceSub, Int.reduceEq, h9, h10, h23, h24, h25, hs19, hs22]
  have hrl : (rawB (bs.take i)).length = i := by rw [rawB_len]; simp; omega
  refine ifB'.of (fun hlt => ?_) (fun hlt => ?_)
  · have hlt : i < bs.length := by omega
    repeat (first | with_reducible refine ask.of (by first | omega | decide) ?_ | simp -dsimp -implicitDefEqProofs only [go_sem, Nat.reduceBEq, Nat.reduceAdd, Nat.reduceLeDiff, Nat.reduceSub, Int.reduceEq, h9, h10, h23, h24, h25, hs19, hs22, boolA_at hlt, bl3, hrl])
    cases hz : bs[i]
    · repeat (first | with_reducible refine ask.of (by first | omega | decide) ?_ | simp -dsimp -implicitDefEqProofs only [go_sem, Nat.reduceBEq, Nat.reduceAdd, Nat.reduceLeDiff, Nat.reduceSub, Int.reduceEq, h9, h10, h23, h24, h25, hs19, hs22, hz, bl3, hrl, clA_snoc0])
      refine hK _ hlt ?_
      simp -dsimp -implicitDefEqProofs only [go_sem, Nat.reduceBEq, Nat.reduceAdd, Nat.reduceLeDiff, Nat.reduceSub, Int.reduceEq, h9, h10, h23, h24, h25, hs19, hs22, wrap_succ (show i < 4611686018427387904 by omega)]
      rw [show rawB (bs.take i) ++ [⟨false, 0, []⟩] = rawB (bs.take (i + 1)) from by have h9 := map_takeS (fun b : Bool => (⟨false, if b = true then 1 else 0, []⟩ : Cl)) hlt; rw [hz] at h9; exact h9]
    · repeat (first | with_reducible refine ask.of (by first | omega | decide) ?_ | simp -dsimp -implicitDefEqProofs only [go_sem, Nat.reduceBEq, Nat.reduceAdd, Nat.reduceLeDiff, Nat.reduceSub, Int.reduceEq, h9, h10, h23, h24, h25, hs19, hs22, hz, bl3, hrl, clA_snoc0])
      refine hK _ hlt ?_
      simp -dsimp -implicitDefEqProofs only [go_sem, Nat.reduceBEq, Nat.reduceAdd, Nat.reduceLeDiff, Nat.reduceSub, Int.reduceEq, h9, h10, h23, h24, h25, hs19, hs22, wrap_succ (show i < 4611686018427387904 by omega)]
      rw [show rawB (bs.take i) ++ [⟨false, 1, []⟩] = rawB (bs.take (i + 1)) from by have h9 := map_takeS (fun b : Bool => (⟨false, if b = true then 1 else 0, []⟩ : Cl)) hlt; rw [hz] at h9; exact h9]
  · have : i = bs.length := by omega
    subst this
    rw [List.take_length] at hs22
    simp -dsimp -implicitDefEqProofs only [go_sem, Nat.reduceBEq, Nat.reduceAdd, Nat.reduceLeDiff, Nat.reduceSub, Int.reduceEq, h9, h10, h23, h24, h25, hs19, hs22]
    rfl
set_option maxRecDepth 8000 in
theorem c_numbersRead (w n : Int) (ps : List (List UInt8)) (h0 : 0 < ps.length) (hb : ps[0].length ≤ 1048576) : Meets Try.prog 216 [.agg [.v (.int .i64 w)], .v (.int .i64 n), rowBB ps] (fun r => r = .tup [rowCl 145 (rawI (unpackIC ps[0] w).1), .v (.int .i64 (unpackIC ps[0] w).2)]) := by
  refine Meets.introO mixed (hint []) (fun k => (sel (k == 1) [0,1,2,3,4,5,6,7,8,9,10] [])) Try.func216 rfl (by decide) res_216 rty_216 (by kernel_rfl) ?_; 
  simp -dsimp -implicitDefEqProofs only [go_sem, Nat.reduceBEq, Nat.reduceAdd, Nat.reduceLeDiff, Nat.reduceSub, Int.reduceEq]
  repeat (first | with_reducible refine ask.of (by first | omega | decide) ?_ | simp -dsimp -implicitDefEqProofs only [go_sem, Nat.reduceBEq, Nat.reduceAdd, Nat.reduceLeDiff, Nat.reduceSub, Int.reduceEq, initE, it012, byA_at h0])
  refine CallE.of (c_implUnpackInts ps[0] w hb) (by rintro r rfl; (repeat' first | exact trivial | exact pure_rowB _ | exact pure_rowO _ | exact pure_rowI _ | exact pure_rowBB _ | exact pure_rowPk _ _ | exact pure_rowSn _ _ | exact pure_rowFd _ _ | exact pure_rowBBB _ | exact pure_rowCl _ _ | exact pure_rowTb _ _ _ | refine And.intro ?_ ?_)) (by simp -dsimp -implicitDefEqProofs only [go_sem, Nat.reduceBEq, Nat.reduceAdd, Nat.reduceLeDiff, Nat.reduceSub, Int.reduceEq]) ?_
  rintro r rfl
  simp -dsimp -implicitDefEqProofs only [go_sem, Nat.reduceBEq, Nat.reduceAdd, Nat.reduceLeDiff, Nat.reduceSub, Int.reduceEq]
  have hl : (unpackIC ps[0] w).1.length ≤ 1048576 := by
    unfold unpackIC
    split
    · split
      · show (unpackI _ _ _).length ≤ _
        rw [unpackI_length]
        exact Nat.le_trans (Nat.div_le_self ..) hb
      · exact Nat.zero_le _
    · exact Nat.zero_le _
  generalize unpackIC ps[0] w = u at *
  obtain ⟨bs, cd⟩ := u
  simp only at hl
  repeat (first | with_reducible refine ask.of (by first | omega | decide) ?_ | simp -dsimp -implicitDefEqProofs only [go_sem, Nat.reduceBEq, Nat.reduceAdd, Nat.reduceLeDiff, Nat.reduceSub, Int.reduceEq, initE])
  refine LoopE.cnt bs.length (fun i s => s.env 9 = .v (.int .i64 (cd : Nat)) ∧ s.env 10 = .ref [22] ∧ s.env 23 = .ref [19, 0] ∧ s.env 24 = .v (.int .i64 bs.length) ∧ s.env 25 = .v (.int .i64 i) ∧ s.σ [19, 0] = some (.row 3 1 (ra intC bs)) ∧ s.σ [22] = some (.row 145 3 (ra clC (rawI (bs.take i))))) ⟨by simp -dsimp -implicitDefEqProofs only [go_sem, Nat.reduceBEq, Nat.reduceAdd, Nat.reduceLeDiff, Nat.reduceSub, Int.reduceEq], by simp -dsimp -implicitDefEqProofs only [go_sem, Nat.reduceBEq, Nat.reduceAdd, Nat.reduceLeDiff, Nat.reduceSub, Int.reduceEq], by simp -dsimp -implicitDefEqProofs only [go_sem, Nat.reduceBEq, Nat.reduceAdd, Nat.reduceLeDiff, Nat.reduceSub, Int.reduceEq], by simp -dsimp -implicitDefEqProofs only [go_sem, Nat.reduceBEq, Nat.reduceAdd, Nat.reduceLeDiff, Nat.reduceSub, Int.reduceEq], by simp -dsimp -implicitDefEqProofs only [go_sem, Nat.reduceBEq, Nat.reduceAdd, Nat.reduceLeDiff, Nat.reduceSub, Int.reduceEq] <;> rfl, by simp -dsimp -implicitDefEqProofs only [go_sem, Nat.reduceBEq, Nat.reduceAdd, Nat.reduceLeDiff, Nat.reduceSub, Int.reduceEq], by simp -dsimp -implicitDefEqProofs only [go_sem, Nat.reduceBEq, Nat.reduceAdd, Nat.reduceLeDiff, Nat.reduceSub, Int.reduceEq] <;> rfl⟩ ?_
  rintro i ⟨e, σ⟩ hi ⟨h9, h10, h23, h24, h25, hs19, hs22⟩ K hK
  simp only at h9 h10 h23 h24 h25 hs19 hs22
  simp -dsimp -implicitDefEqProofs only [go_sem, Nat.reduceBEq, Nat.reduceAdd, Nat.reduceLeDiff, Nat.reduceSub, Int.reduceEq, h9, h10, h23, h24, h25, hs19, hs22]
  have hrl : (rawI (bs.take i)).length = i := by rw [rawI_len]; simp; omega
  refine ifB'.of (fun hlt => ?_) (fun hlt => ?_)
  · have hlt : i < bs.length := by omega
    repeat (first | with_reducible refine ask.of (by first | omega | decide) ?_ | simp -dsimp -implicitDefEqProofs only [go_sem, Nat.reduceBEq, Nat.reduceAdd, Nat.reduceLeDiff, Nat.reduceSub, Int.reduceEq, h9, h10, h23, h24, h25, hs19, hs22, intA_at hlt, bl3, hrl, clA_snoc0])
    refine hK _ hlt ?_
    simp -dsimp -implicitDefEqProofs only [go_sem, Nat.reduceBEq, Nat.reduceAdd, Nat.reduceLeDiff, Nat.reduceSub, Int.reduceEq, h9, h10, h23, h24, h25, hs19, hs22, wrap_succ (show i < 4611686018427387904 by omega)]
    rw [show rawI (bs.take i) ++ [⟨false, bs[i], []⟩] = rawI (bs.take (i + 1)) from map_takeS (fun v : Int => (⟨false, v, []⟩ : Cl)) hlt]
  · have : i = bs.length := by omega
    subst this
    rw [List.take_length] at hs22
    simp -dsimp -implicitDefEqProofs only [go_sem, Nat.reduceBEq, Nat.reduceAdd, Nat.reduceLeDiff, Nat.reduceSub, Int.reduceEq, h9, h10, h23, h24, h25, hs19, hs22]
    rfl
def cutOk (xs : List Int) (L : Nat) : Prop := ∀ j, j + 1 < xs.length → 0 ≤ xs.getD j 0 ∧ xs.getD j 0 ≤ xs.getD (j + 1) 0 ∧ xs.getD (j + 1) 0 ≤ L
def cutP (xs : List Int) (b : List UInt8) (i : Nat) : List Cl := (List.range i).map fun j => ⟨false, 0, pcS xs b j⟩
theorem cutP_len (xs : List Int) (b : List UInt8) (i : Nat) : (cutP xs b i).length = i := by simp [cutP]
theorem cutP_snoc (xs : List Int) (b : List UInt8) (i : Nat) : cutP xs b i ++ [⟨false, 0, pcS xs b i⟩] = cutP xs b (i + 1) := by simp [cutP, List.range_succ]
noncomputable def cutL (xs : List Int) (b : List UInt8) : List Cl × Bool := @ite _ (cutOk xs b.length) (Classical.propDecidable _) (cutP xs b (xs.length - 1), true) ([], false)
theorem cutL_yes {xs : List Int} {b : List UInt8} (h : cutOk xs b.length) : cutL xs b = (cutP xs b (xs.length - 1), true) := @if_pos _ (Classical.propDecidable _) h _ _ _
theorem cutL_no {xs : List Int} {b : List UInt8} (h : ¬ cutOk xs b.length) : cutL xs b = ([], false) := @if_neg _ (Classical.propDecidable _) h _ _ _
theorem intA_getD {xs : List Int} {i : Nat} (h : i < xs.length) : (ra intC xs)[i]? = some [.v (.int .i64 (xs.getD i 0))] := by rw [intA_at h]; simp [List.getD, h]
set_option maxRecDepth 8000 in
set_option maxHeartbeats 2000000 in
theorem c_cut (xs : List Int) (b : List UInt8) (hx : xs.length ≤ 1048576) (hr : ∀ x ∈ xs, i64r x) (hb : b.length ≤ 1048576) : Meets Try.prog 226 [.agg [], rowI xs, rowB b] (fun r => r = .tup [rowCl 145 (cutL xs b).1, .v (.bool (cutL xs b).2)]) := by
  refine Meets.introO mixed (hint []) (fun k => (sel (k == 7) [0,1,2,3,4,5,6,7,8,9,10,11,12,13,14,15,16] [])) Try.func226 rfl (by decide) res_226 rty_226 (by kernel_rfl) ?_; 
  simp -dsimp -implicitDefEqProofs only [go_sem, Nat.reduceBEq, Nat.reduceAdd, Nat.reduceLeDiff, Nat.reduceSub, Int.reduceEq]
  repeat (first | with_reducible refine ask.of (by first | omega | decide) ?_ | simp -dsimp -implicitDefEqProofs only [go_sem, Nat.reduceBEq, Nat.reduceAdd, Nat.reduceLeDiff, Nat.reduceSub, Int.reduceEq, initE])
  refine LoopE.cnt (xs.length - 1) (fun i s => s.env 1 = .rd .ent 3 1 (ra intC xs) ∧ s.env 2 = .rd .ent 5 1 (bytesA b) ∧ s.env 8 = .ref [10] ∧ s.env 9 = .v (.int .i64 ((i + 1 : Nat) : Int)) ∧ s.σ [10] = some (.row 145 3 (ra clC (cutP xs b i))) ∧ ∀ j, j < i → 0 ≤ xs.getD j 0 ∧ xs.getD j 0 ≤ xs.getD (j + 1) 0 ∧ xs.getD (j + 1) 0 ≤ b.length) ⟨by simp -dsimp -implicitDefEqProofs only [go_sem, Nat.reduceBEq, Nat.reduceAdd, Nat.reduceLeDiff, Nat.reduceSub, Int.reduceEq, initE], by simp -dsimp -implicitDefEqProofs only [go_sem, Nat.reduceBEq, Nat.reduceAdd, Nat.reduceLeDiff, Nat.reduceSub, Int.reduceEq, initE], by simp -dsimp -implicitDefEqProofs only [go_sem, Nat.reduceBEq, Nat.reduceAdd, Nat.reduceLeDiff, Nat.reduceSub, Int.reduceEq], by simp -dsimp -implicitDefEqProofs only [go_sem, Nat.reduceBEq, Nat.reduceAdd, Nat.reduceLeDiff, Nat.reduceSub, Int.reduceEq] <;> rfl, by simp -dsimp -implicitDefEqProofs only [go_sem, Nat.reduceBEq, Nat.reduceAdd, Nat.reduceLeDiff, Nat.reduceSub, Int.reduceEq] <;> rfl, fun j hj => absurd hj (by omega)⟩ ?_
  rintro i ⟨e, σ⟩ hi ⟨h1, h2, h8, h9, hs10, hall⟩ K hK
  simp only at h1 h2 h8 h9 hs10
  simp -dsimp -implicitDefEqProofs only [go_sem, Nat.reduceBEq, Nat.reduceAdd, Nat.reduceLeDiff, Nat.reduceSub, Int.reduceEq, h1, h2, h8, h9, hs10]
  have hcl := cutP_len xs b i
  refine ifB'.of (fun hlt => ?_) (fun hlt => ?_)
  · have hlt : i + 1 < xs.length := by omega
    have e1 : IntKind.i64.wrap (((i + 1 : Nat) : Int) - 1) = ((i : Nat) : Int) := by rw [wrap_i64_of (by omega) (by omega)]; omega
    have hx1 := intA_getD (xs := xs) (i := i) (by omega)
    have hx2 := intA_getD (xs := xs) (i := i + 1) hlt
    have hr1 : i64r (xs.getD i 0) := by
      have : xs.getD i 0 = xs[i] := by simp [List.getD, show i < xs.length by omega]
      rw [this]; exact hr _ (List.getElem_mem _)
    have hno : ¬ (0 ≤ xs.getD i 0 ∧ xs.getD i 0 ≤ xs.getD (i + 1) 0 ∧ xs.getD (i + 1) 0 ≤ b.length) → cutL xs b = ([], false) := fun h => cutL_no fun hc => h (hc i hlt)
    repeat' (first | with_reducible refine ask.of (by first | omega | decide) ?_ | ((with_reducible refine ifB'.of (fun h => ?_) (fun h => ?_)) <;> first | (exfalso; omega) | skip) | (rw [hno (by omega)]; done) | (rw [hno (by omega)]; rfl) | simp -dsimp -implicitDefEqProofs only [go_sem, Nat.reduceBEq, Nat.reduceAdd, Nat.reduceLeDiff, Nat.reduceSub, Int.reduceEq, h1, h2, h8, h9, hs10, e1, hx1, hx2, bl3, hcl])
    all_goals
      have hg : 0 ≤ xs.getD i 0 ∧ xs.getD i 0 ≤ xs.getD (i + 1) 0 ∧ xs.getD (i + 1) 0 ≤ b.length := by omega
      refine CallE.of (c_bytesClone (pcS xs b i) (by simp only [pcS, List.length_drop, List.length_take]; omega)) (by rintro r rfl; (repeat' first | exact trivial | exact pure_rowB _ | exact pure_rowO _ | exact pure_rowI _ | exact pure_rowBB _ | exact pure_rowPk _ _ | exact pure_rowSn _ _ | exact pure_rowFd _ _ | exact pure_rowBBB _ | exact pure_rowCl _ _ | exact pure_rowTb _ _ _ | refine And.intro ?_ ?_)) (by simp -dsimp -implicitDefEqProofs only [go_sem, Nat.reduceBEq, Nat.reduceAdd, Nat.reduceLeDiff, Nat.reduceSub, Int.reduceEq, h1, h2, h8, h9, hs10, pcS]) ?_
      rintro r rfl
      simp -dsimp -implicitDefEqProofs only [go_sem, Nat.reduceBEq, Nat.reduceAdd, Nat.reduceLeDiff, Nat.reduceSub, Int.reduceEq, h1, h2, h8, h9, hs10, pcS]
      repeat (first | with_reducible refine ask.of (by first | omega | decide) ?_ | simp -dsimp -implicitDefEqProofs only [go_sem, Nat.reduceBEq, Nat.reduceAdd, Nat.reduceLeDiff, Nat.reduceSub, Int.reduceEq, h1, h2, h8, h9, hs10, bl3, hcl, clA_snoc])
      refine hK _ (by omega) ?_
      simp -dsimp -implicitDefEqProofs only [go_sem, Nat.reduceBEq, Nat.reduceAdd, Nat.reduceLeDiff, Nat.reduceSub, Int.reduceEq, h1, h2, h8, h9, hs10, wrap_succ (show i + 1 < 4611686018427387904 by omega)]
      refine ⟨congrArg (fun l => some (OB.row 145 3 (ra clC l))) (cutP_snoc xs b i), ?_⟩
      intro j hj
      by_cases e2 : j = i
      · subst e2; exact hg
      · exact hall j (by omega)
  · have : i = xs.length - 1 := by omega
    subst this
    simp -dsimp -implicitDefEqProofs only [go_sem, Nat.reduceBEq, Nat.reduceAdd, Nat.reduceLeDiff, Nat.reduceSub, Int.reduceEq, h1, h2, h8, h9, hs10]
    rw [cutL_yes fun j hj => hall j (by omega)]
    rfl
set_option maxRecDepth 8000 in
theorem c_textsRead (n : Int) (ps : List (List UInt8)) (h0 : 1 < ps.length) (hb : ps[0].length ≤ 1048576) (hb1 : ps[1].length ≤ 1048576) : Meets Try.prog 225 [.agg [], .v (.int .i64 n), rowBB ps] (fun r => r = if (unpackIC ps[0] 4).2 = 0 ∧ (cutL (unpackIC ps[0] 4).1 ps[1]).2 = true then .tup [rowCl 145 (cutL (unpackIC ps[0] 4).1 ps[1]).1, .v (.int .i64 0)] else .tup [rowCl 145 [], .v (.int .i64 3)]) := by
  refine Meets.introO mixed (hint []) (fun k => (sel (k == 4) [0,1,2,3,4,5,6,7,8,9,10,11] [])) Try.func225 rfl (by decide) res_225 rty_225 (by kernel_rfl) ?_; 
  simp -dsimp -implicitDefEqProofs only [go_sem, Nat.reduceBEq, Nat.reduceAdd, Nat.reduceLeDiff, Nat.reduceSub, Int.reduceEq]
  repeat (first | with_reducible refine ask.of (by first | omega | decide) ?_ | simp -dsimp -implicitDefEqProofs only [go_sem, Nat.reduceBEq, Nat.reduceAdd, Nat.reduceLeDiff, Nat.reduceSub, Int.reduceEq, initE, it012, byA_at (show 0 < ps.length by omega)])
  refine CallE.of (c_implUnpackInts ps[0] 4 hb) (by rintro r rfl; (repeat' first | exact trivial | exact pure_rowB _ | exact pure_rowO _ | exact pure_rowI _ | exact pure_rowBB _ | exact pure_rowPk _ _ | exact pure_rowSn _ _ | exact pure_rowFd _ _ | exact pure_rowBBB _ | exact pure_rowCl _ _ | exact pure_rowTb _ _ _ | refine And.intro ?_ ?_)) (by simp -dsimp -implicitDefEqProofs only [go_sem, Nat.reduceBEq, Nat.reduceAdd, Nat.reduceLeDiff, Nat.reduceSub, Int.reduceEq]) ?_
  rintro r rfl
  simp -dsimp -implicitDefEqProofs only [go_sem, Nat.reduceBEq, Nat.reduceAdd, Nat.reduceLeDiff, Nat.reduceSub, Int.reduceEq]
  have hl : (unpackIC ps[0] 4).1.length ≤ 1048576 ∧ ((unpackIC ps[0] 4).2 = 0 ∨ (unpackIC ps[0] 4).2 = 3) ∧ ∀ x ∈ (unpackIC ps[0] 4).1, i64r x := by
    unfold unpackIC
    rw [if_pos (by decide)]
    split
    · refine ⟨?_, .inl rfl, fun x hx => ?_⟩
      · show (unpackI _ _ _).length ≤ _
        rw [unpackI_length]
        exact Nat.le_trans (Nat.div_le_self ..) hb
      · obtain ⟨j, hj, rfl⟩ := List.mem_map.1 (show x ∈ unpackI ps[0] 4 (ps[0].length / 4) from hx)
        have hj := List.mem_range.1 hj
        exact sval_lt (w := 4) (chunk_length (by omega)) (by decide)
    · exact ⟨Nat.zero_le _, .inr rfl, fun x hx => absurd hx (by simp)⟩
  generalize unpackIC ps[0] 4 = u at *
  obtain ⟨bs, cd⟩ := u
  simp only at hl ⊢
  repeat (first | with_reducible refine ask.of (by first | omega | decide) ?_ | simp -dsimp -implicitDefEqProofs only [go_sem, Nat.reduceBEq, Nat.reduceAdd, Nat.reduceLeDiff, Nat.reduceSub, Int.reduceEq, initE])
  refine ifB'.of (fun hc => ?_) (fun hc => ?_)
  rotate_left
  · have : cd = 3 := by omega
    subst this
    simp -dsimp -implicitDefEqProofs only [go_sem, Nat.reduceBEq, Nat.reduceAdd, Nat.reduceLeDiff, Nat.reduceSub, Int.reduceEq]
    rw [if_neg (fun h => absurd h.1 (by decide))]; rfl
  have hc0 : cd = 0 := by omega
  have hlt : 1 < ps.length := h0
  repeat (first | with_reducible refine ask.of (by first | omega | decide) ?_ | simp -dsimp -implicitDefEqProofs only [go_sem, Nat.reduceBEq, Nat.reduceAdd, Nat.reduceLeDiff, Nat.reduceSub, Int.reduceEq, initE, it012, show Nat.ble 0 0 = true from rfl, byA_at hlt])
  refine CallE.of (c_cut bs ps[1] hl.1 hl.2.2 hb1) (by rintro r rfl; (repeat' first | exact trivial | exact pure_rowB _ | exact pure_rowO _ | exact pure_rowI _ | exact pure_rowBB _ | exact pure_rowPk _ _ | exact pure_rowSn _ _ | exact pure_rowFd _ _ | exact pure_rowBBB _ | exact pure_rowCl _ _ | exact pure_rowTb _ _ _ | refine And.intro ?_ ?_)) (by simp -dsimp -implicitDefEqProofs only [go_sem, Nat.reduceBEq, Nat.reduceAdd, Nat.reduceLeDiff, Nat.reduceSub, Int.reduceEq, rowCl]) ?_
  rintro r rfl
  simp -dsimp -implicitDefEqProofs only [go_sem, Nat.reduceBEq, Nat.reduceAdd, Nat.reduceLeDiff, Nat.reduceSub, Int.reduceEq, rowCl]
  cases hq : (cutL bs ps[1]).2
  · repeat (first | with_reducible refine ask.of (by first | omega | decide) ?_ | simp -dsimp -implicitDefEqProofs only [go_sem, Nat.reduceBEq, Nat.reduceAdd, Nat.reduceLeDiff, Nat.reduceSub, Int.reduceEq, hq, Bool.not_false])
    rw [if_neg (by simp)]; rfl
  · repeat (first | with_reducible refine ask.of (by first | omega | decide) ?_ | simp -dsimp -implicitDefEqProofs only [go_sem, Nat.reduceBEq, Nat.reduceAdd, Nat.reduceLeDiff, Nat.reduceSub, Int.reduceEq, hq, Bool.not_true])
    rw [if_pos hc0]
def plRaw (vs : List (List UInt8)) (v : Int) : Cl := ⟨false, 0, if 0 ≤ v ∧ v < vs.length then vs.getD v.toNat [] else []⟩
def plGood (vs : List (List UInt8)) (v : Int) : Prop := (0 ≤ v ∧ v < vs.length) ∨ v = 0
noncomputable def plL (vs : List (List UInt8)) (xs : List Int) (cd : Nat) : List Cl × Int := @ite _ (∀ x ∈ xs, plGood vs x) (Classical.propDecidable _) (xs.map (plRaw vs), (cd : Int)) ([], 3)
theorem plL_yes {vs : List (List UInt8)} {xs : List Int} (cd : Nat) (h : ∀ x ∈ xs, plGood vs x) : plL vs xs cd = (xs.map (plRaw vs), (cd : Int)) := @if_pos _ (Classical.propDecidable _) h _ _ _
theorem plL_no {vs : List (List UInt8)} {xs : List Int} (cd : Nat) (h : ¬ ∀ x ∈ xs, plGood vs x) : plL vs xs cd = ([], 3) := @if_neg _ (Classical.propDecidable _) h _ _ _
set_option maxRecDepth 8000 in
set_option maxHeartbeats 2000000 in
theorem c_placesRead (vs : List (List UInt8)) (n : Int) (ps : List (List UInt8)) (h0 : 0 < ps.length) (hb : ps[0].length ≤ 1048576) (hv : vs.length ≤ 1048576) (hvb : ∀ b ∈ vs, b.length ≤ 1048576) : Meets Try.prog 229 [.agg [.row 22 1 (ra byC vs)], .v (.int .i64 n), rowBB ps] (fun r => r = .tup [rowCl 145 (plL vs (unpackIC ps[0] 1).1 (unpackIC ps[0] 1).2).1, .v (.int .i64 (plL vs (unpackIC ps[0] 1).1 (unpackIC ps[0] 1).2).2)]) := by
  refine Meets.intro mixed (hint []) Try.func229 rfl (by decide) res_229 rty_229 (by kernel_rfl) ?_; 
  simp -dsimp -implicitDefEqProofs only [go_sem, Nat.reduceBEq, Nat.reduceAdd, Nat.reduceLeDiff, Nat.reduceSub, Int.reduceEq]
  repeat (first | with_reducible refine ask.of (by first | omega | decide) ?_ | simp -dsimp -implicitDefEqProofs only [go_sem, Nat.reduceBEq, Nat.reduceAdd, Nat.reduceLeDiff, Nat.reduceSub, Int.reduceEq, initE, it012, byA_at h0])
  refine CallE.of (c_implUnpackInts ps[0] 1 hb) (by rintro r rfl; (repeat' first | exact trivial | exact pure_rowB _ | exact pure_rowO _ | exact pure_rowI _ | exact pure_rowBB _ | exact pure_rowPk _ _ | exact pure_rowSn _ _ | exact pure_rowFd _ _ | exact pure_rowBBB _ | exact pure_rowCl _ _ | exact pure_rowTb _ _ _ | refine And.intro ?_ ?_)) (by simp -dsimp -implicitDefEqProofs only [go_sem, Nat.reduceBEq, Nat.reduceAdd, Nat.reduceLeDiff, Nat.reduceSub, Int.reduceEq]) ?_
  rintro r rfl
  simp -dsimp -implicitDefEqProofs only [go_sem, Nat.reduceBEq, Nat.reduceAdd, Nat.reduceLeDiff, Nat.reduceSub, Int.reduceEq]
  have hl : (unpackIC ps[0] 1).1.length ≤ 1048576 := by
    unfold unpackIC
    split
    · split
      · show (unpackI _ _ _).length ≤ _
        rw [unpackI_length]
        exact Nat.le_trans (Nat.div_le_self ..) hb
      · exact Nat.zero_le _
    · exact Nat.zero_le _
  generalize unpackIC ps[0] 1 = u at *
  obtain ⟨bs, cd⟩ := u
  simp only at hl ⊢
  repeat (first | with_reducible refine ask.of (by first | omega | decide) ?_ | simp -dsimp -implicitDefEqProofs only [go_sem, Nat.reduceBEq, Nat.reduceAdd, Nat.reduceLeDiff, Nat.reduceSub, Int.reduceEq, initE])
  refine LoopE.cnt bs.length (fun i s => s.env 3 = .ptr [3] 0 0 0 ∧ s.env 9 = .v (.int .i64 (cd : Nat)) ∧ s.env 10 = .ref [21] ∧ s.env 22 = .ref [18, 0] ∧ s.env 23 = .v (.int .i64 bs.length) ∧ s.env 24 = .v (.int .i64 i) ∧ s.σ [3] = some (.box 202 [.rd .ent 22 1 (ra byC vs)]) ∧ s.σ [18, 0] = some (.row 3 1 (ra intC bs)) ∧ s.σ [21] = some (.row 145 3 (ra clC ((bs.take i).map (plRaw vs)))) ∧ ∀ x ∈ bs.take i, plGood vs x) ⟨by simp -dsimp -implicitDefEqProofs only [go_sem, Nat.reduceBEq, Nat.reduceAdd, Nat.reduceLeDiff, Nat.reduceSub, Int.reduceEq], by simp -dsimp -implicitDefEqProofs only [go_sem, Nat.reduceBEq, Nat.reduceAdd, Nat.reduceLeDiff, Nat.reduceSub, Int.reduceEq], by simp -dsimp -implicitDefEqProofs only [go_sem, Nat.reduceBEq, Nat.reduceAdd, Nat.reduceLeDiff, Nat.reduceSub, Int.reduceEq], by simp -dsimp -implicitDefEqProofs only [go_sem, Nat.reduceBEq, Nat.reduceAdd, Nat.reduceLeDiff, Nat.reduceSub, Int.reduceEq], by simp -dsimp -implicitDefEqProofs only [go_sem, Nat.reduceBEq, Nat.reduceAdd, Nat.reduceLeDiff, Nat.reduceSub, Int.reduceEq], by simp -dsimp -implicitDefEqProofs only [go_sem, Nat.reduceBEq, Nat.reduceAdd, Nat.reduceLeDiff, Nat.reduceSub, Int.reduceEq] <;> rfl, by simp -dsimp -implicitDefEqProofs only [go_sem, Nat.reduceBEq, Nat.reduceAdd, Nat.reduceLeDiff, Nat.reduceSub, Int.reduceEq, initE], by simp -dsimp -implicitDefEqProofs only [go_sem, Nat.reduceBEq, Nat.reduceAdd, Nat.reduceLeDiff, Nat.reduceSub, Int.reduceEq], by simp -dsimp -implicitDefEqProofs only [go_sem, Nat.reduceBEq, Nat.reduceAdd, Nat.reduceLeDiff, Nat.reduceSub, Int.reduceEq] <;> rfl, by simp⟩ ?_
  rintro i ⟨e, σ⟩ hi ⟨h3, h9, h10, h22, h23, h24, hs3, hs18, hs21, hall⟩ K hK
  simp only at h3 h9 h10 h22 h23 h24 hs3 hs18 hs21
  simp -dsimp -implicitDefEqProofs only [go_sem, Nat.reduceBEq, Nat.reduceAdd, Nat.reduceLeDiff, Nat.reduceSub, Int.reduceEq, h3, h9, h10, h22, h23, h24, hs3, hs18, hs21]
  have hrl : ((bs.take i).map (plRaw vs)).length = i := by simp; omega
  refine ifB'.of (fun hlt => ?_) (fun hlt => ?_)
  · have hlt : i < bs.length := by omega
    have hsn : ∀ c, plRaw vs bs[i] = c → (bs.take i).map (plRaw vs) ++ [c] = (bs.take (i + 1)).map (plRaw vs) := fun c hc => by rw [← hc]; exact map_takeS (plRaw vs) hlt
    have hal : plGood vs bs[i] → ∀ x ∈ bs.take (i + 1), plGood vs x := fun h x hx => by
      rw [List.take_succ_eq_append_getElem hlt] at hx
      rcases List.mem_append.1 hx with hx | hx
      · exact hall x hx
      · rw [List.mem_singleton.1 hx]; exact h
    by_cases hg : 0 ≤ bs[i] ∧ bs[i] < vs.length
    · have hvl : (bs[i]).toNat < vs.length := by omega
      have hat : (ra byC vs)[(bs[i]).toNat]? = some [.row 5 1 (bytesA (vs.getD (bs[i]).toNat []))] := by rw [byA_at hvl]; simp [List.getD, hvl]
      have hgl : (vs.getD (bs[i]).toNat []).length ≤ 1048576 := by
        have : vs.getD (bs[i]).toNat [] = vs[(bs[i]).toNat] := by simp [List.getD, hvl]
        rw [this]; exact hvb _ (List.getElem_mem _)
      repeat' (first | with_reducible refine ask.of (by first | omega | decide) ?_ | ((with_reducible refine ifB'.of (fun h => ?_) (fun h => ?_)) <;> first | (exfalso; omega) | skip) | simp -dsimp -implicitDefEqProofs only [go_sem, Nat.reduceBEq, Nat.reduceAdd, Nat.reduceLeDiff, Nat.reduceSub, Int.reduceEq, h3, h9, h10, h22, h23, h24, hs3, hs18, hs21, intA_at hlt, hat, bl3, hrl])
      refine CallE.of (c_bytesClone (vs.getD (bs[i]).toNat []) (by omega)) (by rintro r rfl; (repeat' first | exact trivial | exact pure_rowB _ | exact pure_rowO _ | exact pure_rowI _ | exact pure_rowBB _ | exact pure_rowPk _ _ | exact pure_rowSn _ _ | exact pure_rowFd _ _ | exact pure_rowBBB _ | exact pure_rowCl _ _ | exact pure_rowTb _ _ _ | refine And.intro ?_ ?_)) (by simp -dsimp -implicitDefEqProofs only [go_sem, Nat.reduceBEq, Nat.reduceAdd, Nat.reduceLeDiff, Nat.reduceSub, Int.reduceEq, h3, h9, h10, h22, h23, h24, hs3, hs18, hs21]) ?_
      rintro r rfl
      simp -dsimp -implicitDefEqProofs only [go_sem, Nat.reduceBEq, Nat.reduceAdd, Nat.reduceLeDiff, Nat.reduceSub, Int.reduceEq, h3, h9, h10, h22, h23, h24, hs3, hs18, hs21]
      repeat (first | with_reducible refine ask.of (by first | omega | decide) ?_ | simp -dsimp -implicitDefEqProofs only [go_sem, Nat.reduceBEq, Nat.reduceAdd, Nat.reduceLeDiff, Nat.reduceSub, Int.reduceEq, h3, h9, h10, h22, h23, h24, hs3, hs18, hs21, bl3, hrl, clA_snoc])
      refine hK _ hlt ?_
      simp -dsimp -implicitDefEqProofs only [go_sem, Nat.reduceBEq, Nat.reduceAdd, Nat.reduceLeDiff, Nat.reduceSub, Int.reduceEq, h3, h9, h10, h22, h23, h24, hs3, hs18, hs21, wrap_succ (show i < 4611686018427387904 by omega), hsn ⟨false, 0, vs.getD (bs[i]).toNat []⟩ (by rw [plRaw, if_pos hg])]
      exact hal (.inl hg)
    · by_cases hz : bs[i] = 0
      · repeat' (first | with_reducible refine ask.of (by first | omega | decide) ?_ | ((with_reducible refine ifB'.of (fun h => ?_) (fun h => ?_)) <;> first | (exfalso; omega) | skip) | simp -dsimp -implicitDefEqProofs only [go_sem, Nat.reduceBEq, Nat.reduceAdd, Nat.reduceLeDiff, Nat.reduceSub, Int.reduceEq, h3, h9, h10, h22, h23, h24, hs3, hs18, hs21, intA_at hlt, bl3, hrl, clA_snoc0])
        all_goals
          refine hK _ hlt ?_
          simp -dsimp -implicitDefEqProofs only [go_sem, Nat.reduceBEq, Nat.reduceAdd, Nat.reduceLeDiff, Nat.reduceSub, Int.reduceEq, h3, h9, h10, h22, h23, h24, hs3, hs18, hs21, wrap_succ (show i < 4611686018427387904 by omega), hsn ⟨false, 0, []⟩ (by rw [plRaw, if_neg hg])]
          exact hal (.inr hz)
      · have hno : ¬ ∀ x ∈ bs, plGood vs x := fun h => by
          rcases h _ (List.getElem_mem hlt) with h | h
          · exact hg h
          · exact hz h
        repeat' (first | (rw [plL_no cd hno]; rfl) | with_reducible refine ask.of (by first | omega | decide) ?_ | ((with_reducible refine ifB'.of (fun h => ?_) (fun h => ?_)) <;> first | (exfalso; omega) | skip) | simp -dsimp -implicitDefEqProofs only [go_sem, Nat.reduceBEq, Nat.reduceAdd, Nat.reduceLeDiff, Nat.reduceSub, Int.reduceEq, h3, h9, h10, h22, h23, h24, hs3, hs18, hs21, intA_at hlt, bl3, hrl])
  · have : i = bs.length := by omega
    subst this
    rw [List.take_length] at hs21 hall
    simp -dsimp -implicitDefEqProofs only [go_sem, Nat.reduceBEq, Nat.reduceAdd, Nat.reduceLeDiff, Nat.reduceSub, Int.reduceEq, h3, h9, h10, h22, h23, h24, hs3, hs18, hs21]
    rw [plL_yes cd hall]
    rfl
end Go.Ev
set_option linter.unusedSimpArgs false
set_option linter.unusedVariables false
namespace Go.Ev
open Go Go.RowKit Go.Proofs
def rawN (f : Fd) (vs : List (List UInt8)) (c : Cl) : Cl := if c.z = true then ⟨false, 0, if f.k = 3 then vs.getD 0 [] else []⟩ else c
theorem clOk_null {f : Fd} {c : Cl} (h : clOk f c) (hz : c.z = true) : c.i = 0 ∧ c.f = [] := by
  unfold clOk at h
  rw [if_pos hz] at h
  exact ⟨h.1, List.eq_nil_of_length_eq_zero h.2⟩
theorem clOk_bare {f : Fd} {c : Cl} (h : clOk f c) (hk : f.k = 0 ∨ f.k = 1) : c.f = [] := by
  unfold clOk at h
  split at h
  · exact List.eq_nil_of_length_eq_zero h.2
  · rcases hk with hk | hk
    · rw [if_pos hk] at h; exact List.eq_nil_of_length_eq_zero h.2
    · rw [if_neg (by omega), if_pos hk] at h; exact List.eq_nil_of_length_eq_zero h.2
theorem clOk_zero {f : Fd} {c : Cl} (h : clOk f c) (hk : f.k = 2 ∨ f.k = 3) : c.i = 0 := by
  unfold clOk at h
  split at h
  · exact h.1
  · rw [if_neg (by omega), if_neg (by omega)] at h; exact h
theorem rd_parts {f : Fd} {n : Int} {bs vs : List (List UInt8)} {cs : List Cl} (h : rdOf f n bs vs cs) : bcOk f cs vs ∧ n = ((cs.length : Nat) : Int) ∧ bs.getD 0 [] = validB cs ∧ bs.getD 1 [] = (bodyB f cs vs).getD 0 [] ∧ bs.getD 2 [] = (bodyB f cs vs).getD 1 [] ∧ bs.length = wantN f := by
  obtain ⟨h1, h2, h3⟩ := h
  obtain ⟨h4, h5⟩ := bld_inv h3
  have hw := (body_w h4).2.2.2
  refine ⟨h4, h1.symm, by rw [h5]; rfl, by rw [h5]; rfl, by rw [h5]; rfl, ?_⟩
  rw [h5, List.length_cons, hw]
theorem raw_bools {f : Fd} {n : Int} {bs vs : List (List UInt8)} {cs : List Cl} (hk : f.k = 0) (h : rdOf f n bs vs cs) : (unpackC (bs.getD 1 []) n).2 = 0 ∧ rawB (unpackC (bs.getD 1 []) n).1 = cs.map (rawN f vs) := by
  obtain ⟨h4, hn, _, hb, _⟩ := rd_parts h
  rw [bodyB, if_pos hk] at hb
  have hb : bs.getD 1 [] = packB (bitsL cs) := hb
  rw [hb, hn, bits_back]
  refine ⟨rfl, ?_⟩
  show ((cs.map fun c => decide (c.i = 1)).map _) = _
  rw [List.map_map]
  refine List.map_congr_left fun c hc => ?_
  have h5 := h4.2.1 c hc
  have h6 := clOk_bare h5 (.inl hk)
  unfold rawN
  cases hz : c.z
  · rw [if_neg (by decide)]
    unfold clOk at h5
    rw [hz, if_neg (by decide), if_pos hk] at h5
    refine cl_ext hz.symm ?_ h6.symm
    show (if decide (c.i = 1) = true then (1 : Int) else 0) = c.i
    rcases h5.1 with hq | hq <;> simp [hq]
  · rw [if_pos rfl, if_neg (by omega)]
    have h7 := clOk_null h5 hz
    refine cl_ext rfl ?_ rfl
    show (if decide (c.i = 1) = true then (1 : Int) else 0) = 0
    simp [h7.1]
theorem raw_ints {f : Fd} {n : Int} {bs vs : List (List UInt8)} {cs : List Cl} (hk : f.k = 1) (h : rdOf f n bs vs cs) : (unpackIC (bs.getD 1 []) f.w).2 = 0 ∧ rawI (unpackIC (bs.getD 1 []) f.w).1 = cs.map (rawN f vs) := by
  have hr := h.2.1
  obtain ⟨h4, hn, _, hb, _⟩ := rd_parts h
  rw [bodyB, if_neg (by omega), if_pos hk] at hb
  have hb : bs.getD 1 [] = (packIC (intsL cs) f.w).1 := hb
  rw [hb, ints_back1 h4.1.1 hk h4.2.1 hr]
  refine ⟨rfl, ?_⟩
  show ((cs.map fun c => c.i).map _) = _
  rw [List.map_map]
  refine List.map_congr_left fun c hc => ?_
  have h5 := h4.2.1 c hc
  have h6 := clOk_bare h5 (.inr hk)
  unfold rawN
  cases hz : c.z
  · rw [if_neg (by decide)]
    exact cl_ext hz.symm rfl h6.symm
  · rw [if_pos rfl, if_neg (by omega)]
    exact cl_ext rfl (clOk_null h5 hz).1 rfl
theorem raw_texts {f : Fd} {n : Int} {bs vs : List (List UInt8)} {cs : List Cl} (hk : f.k = 2) (hg : rcOk f n vs) (hbb : ∀ b ∈ bs, b.length ≤ 1048576) (h : rdOf f n bs vs cs) : (unpackIC (bs.getD 1 []) 4).2 = 0 ∧ (cutL (unpackIC (bs.getD 1 []) 4).1 (bs.getD 2 [])).2 = true ∧ (cutL (unpackIC (bs.getD 1 []) 4).1 (bs.getD 2 [])).1 = cs.map (rawN f vs) := by
  have hw := rd_w hg hbb h
  obtain ⟨h4, hn, _, hb, hb2, _⟩ := rd_parts h
  rw [bodyB, if_neg (by omega), if_neg (by omega), if_pos hk] at hb hb2
  have hb : bs.getD 1 [] = (packIC (offL cs) 4).1 := hb
  have hb2 : bs.getD 2 [] = dataL cs := hb2
  rw [hb, hb2, off_back hw]
  have hs := splOk_off cs
  have hl : (offL cs).length = cs.length + 1 := by rw [offL, offP_len]
  have hc : cutOk (offL cs) (dataL cs).length := fun j hj => by
    have h5 := hs.2.2.2 j (by omega)
    refine ⟨?_, h5.1, h5.2⟩
    rw [offL_at cs (by omega)]; omega
  refine ⟨rfl, by rw [cutL_yes hc], ?_⟩
  show (cutL (offL cs) (dataL cs)).1 = _
  rw [cutL_yes hc]
  show cutP (offL cs) (dataL cs) ((offL cs).length - 1) = _
  rw [hl, Nat.add_sub_cancel]
  refine List.ext_getElem (by rw [cutP_len, List.length_map]) fun i h1 h2 => ?_
  have hi : i < cs.length := by rw [cutP_len] at h1; exact h1
  have e1 : (cutP (offL cs) (dataL cs) cs.length)[i] = ⟨false, 0, pcS (offL cs) (dataL cs) i⟩ := by simp [cutP]
  rw [e1, pcS_off cs hi, List.getElem_map]
  have h5 := h4.2.1 _ (List.getElem_mem hi)
  have h6 := clOk_zero h5 (.inl hk)
  unfold rawN
  cases hz : cs[i].z
  · rw [if_neg (by decide)]
    exact cl_ext hz.symm h6.symm rfl
  · rw [if_pos rfl, if_neg (by omega)]
    exact cl_ext rfl rfl (clOk_null h5 hz).2
theorem raw_places {f : Fd} {n : Int} {bs vs : List (List UInt8)} {cs : List Cl} (hk : f.k = 3) (h : rdOf f n bs vs cs) : (plL vs (unpackIC (bs.getD 1 []) 1).1 (unpackIC (bs.getD 1 []) 1).2).2 = 0 ∧ (plL vs (unpackIC (bs.getD 1 []) 1).1 (unpackIC (bs.getD 1 []) 1).2).1 = cs.map (rawN f vs) := by
  obtain ⟨h4, hn, _, hb, _⟩ := rd_parts h
  rw [bodyB, if_neg (by omega), if_neg (by omega), if_neg (by omega)] at hb
  have hb : bs.getD 1 [] = (packIC (plcL vs cs) 1).1 := hb
  have h40 := h4.1.2.2.1
  have hv := h4.2.2 hk
  rw [hb, plc_back h40]
  have hg : ∀ x ∈ plcL vs cs, plGood vs x := fun x hx => by
    obtain ⟨c, hc, rfl⟩ := List.mem_map.1 hx
    unfold plc
    cases hz : c.z
    · rw [if_neg (by decide)]
      have h5 := plI_get (hv c hc hz)
      have h6 := (plI_nonneg vs c.f).2 (hv c hc hz)
      left; omega
    · rw [if_pos rfl]; right; rfl
  rw [plL_yes _ hg]
  refine ⟨rfl, ?_⟩
  show ((cs.map (plc vs)).map _) = _
  rw [List.map_map]
  refine List.map_congr_left fun c hc => ?_
  have h5 := h4.2.1 c hc
  have h6 := clOk_zero h5 (.inr hk)
  show plRaw vs (plc vs c) = rawN f vs c
  cases hz : c.z
  · have h7 := plI_get (hv c hc hz)
    have h8 := (plI_nonneg vs c.f).2 (hv c hc hz)
    have e1 : plc vs c = plI vs c.f := by unfold plc; rw [hz]; rfl
    have e2 : rawN f vs c = c := by unfold rawN; rw [hz]; rfl
    rw [e1, e2]
    unfold plRaw
    rw [if_pos ⟨h8, by omega⟩, h7.2]
    exact cl_ext hz.symm h6.symm rfl
  · have e1 : plc vs c = 0 := by unfold plc; rw [hz]; rfl
    have e2 : rawN f vs c = ⟨false, 0, vs.getD 0 []⟩ := by unfold rawN; rw [hz, if_pos rfl, if_pos hk]
    rw [e1, e2]
    refine cl_ext rfl rfl ?_
    show (if (0 : Int) ≤ 0 ∧ (0 : Int) < vs.length then vs.getD (Int.toNat 0) [] else []) = vs.getD 0 []
    split
    · rfl
    · rename_i hq
      have : vs = [] := List.eq_nil_of_length_eq_zero (by omega)
      rw [this]; rfl
def nlF (ts : List Bool) (cs : List Cl) (j : Nat) : Cl := if ts.getD j true = true then cs.getD j cl0 else ⟨true, 0, []⟩
def nlOk (f : Fd) (c : Cl) : Prop := c.i = 0 ∧ ¬ (f.k = 2 ∧ 0 < c.f.length)
theorem mkPre_at {α : Type} (g : Nat → α) {xs : List α} {i : Nat} (h : i < xs.length) : (mkPre g xs i)[i]? = some xs[i] := by
  unfold mkPre
  rw [List.getElem?_append_right (by simp)]
  simp [h]
theorem mkPre_keep {α : Type} (g : Nat → α) {xs : List α} {i : Nat} (h : i < xs.length) (hy : xs[i] = g i) : mkPre g xs (i + 1) = mkPre g xs i := by
  rw [← mkPre_set g xs h hy]
  exact List.ext_getElem? fun j => by
    rw [List.getElem?_set]
    split
    · rename_i e; subst e
      rw [if_pos (by rw [mkPre_length g (by omega)]; exact h), mkPre_at g h]
    · rfl
theorem nl_back {f : Fd} {n : Int} {bs vs : List (List UInt8)} {cs cs0 : List Cl} (h : rdOf f n bs vs cs) (h0 : cs0 = cs.map (rawN f vs)) : (List.range cs0.length).map (nlF (thereL cs) cs0) = cs := by
  obtain ⟨h4, _⟩ := rd_parts h
  subst h0
  refine List.ext_getElem (by simp) fun i h1 h2 => ?_
  have h5 := h4.2.1 _ (List.getElem_mem h2)
  have e1 : ((List.range (cs.map (rawN f vs)).length).map (nlF (thereL cs) (cs.map (rawN f vs))))[i] = nlF (thereL cs) (cs.map (rawN f vs)) i := by simp
  rw [e1]
  have e2 : (thereL cs).getD i true = !cs[i].z := by simp [thereL, List.getD, h2]
  have e3 : (cs.map (rawN f vs)).getD i cl0 = rawN f vs cs[i] := by simp [List.getD, h2]
  rw [nlF, e2, e3]
  unfold rawN
  cases hz : cs[i].z
  · rw [if_pos (show (!false) = true from rfl), if_neg (by decide)]
  · rw [if_neg (by decide)]
    have h7 := clOk_null h5 hz
    exact cl_ext hz.symm h7.1.symm h7.2.symm
theorem nl_all {f : Fd} {n : Int} {bs vs : List (List UInt8)} {cs cs0 : List Cl} (h : rdOf f n bs vs cs) (h0 : cs0 = cs.map (rawN f vs)) (hz : ∀ c ∈ cs, c.z = false) : cs0 = cs := by
  subst h0
  exact (List.map_congr_left fun c hc => by show rawN f vs c = id c; unfold rawN; rw [hz c hc, if_neg (by decide)]; rfl).trans (List.map_id cs)
theorem nl_good {f : Fd} {n : Int} {bs vs : List (List UInt8)} {cs cs0 : List Cl} (h : rdOf f n bs vs cs) (h0 : cs0 = cs.map (rawN f vs)) {i : Nat} (hi : i < cs0.length) (ht : (thereL cs)[i]? = some false) : nlOk f cs0[i] := by
  subst h0
  rw [List.length_map] at hi
  have e2 : (thereL cs)[i]? = some (!cs[i].z) := by simp [thereL, hi]
  rw [e2] at ht
  have hz : cs[i].z = true := by simpa using ht
  have e3 : (cs.map (rawN f vs))[i] = rawN f vs cs[i] := by simp
  rw [e3]
  unfold rawN nlOk
  rw [if_pos hz]
  refine ⟨rfl, fun hk => ?_⟩
  rw [if_neg (by omega)] at hk
  exact absurd hk.2 (by decide)
theorem nl_sz (ts : List Bool) (cs : List Cl) : szL clW ((List.range cs.length).map (nlF ts cs)) ≤ szL clW cs := by
  have key : ∀ k, k ≤ cs.length → szL clW ((List.range k).map (nlF ts cs)) ≤ szL clW (cs.take k) := by
    intro k
    induction k with
    | zero => intro _; simp [szL]
    | succ k ih =>
      intro hk
      have h1 := ih (by omega)
      rw [szL_take_succ clW (show k < cs.length by omega), List.range_succ, List.map_append]
      have h2 : clW (nlF ts cs k) ≤ clW cs[k] := by
        unfold nlF
        split
        · simp [List.getD, show k < cs.length by omega]
        · exact Nat.zero_le _
      simp only [szL, List.map_append, List.sum_append, List.map_cons, List.map_nil, List.sum_cons, List.sum_nil] at h1 ⊢
      omega
  have := key cs.length (Nat.le_refl _)
  rwa [List.take_length] at this
theorem nl_rng {ts : List Bool} {cs : List Cl} (h : ∀ c ∈ cs, i64r c.i) : ∀ c ∈ (List.range cs.length).map (nlF ts cs), i64r c.i := fun c hc => by
  obtain ⟨j, hj, rfl⟩ := List.mem_map.1 hc
  have hj := List.mem_range.1 hj
  unfold nlF
  split
  · have : cs.getD j cl0 = cs[j] := by simp [List.getD, hj]
    rw [this]; exact h _ (List.getElem_mem hj)
  · exact ⟨by decide, by decide⟩
theorem unpackC_ok {b : List UInt8} {n : Int} (h : (unpackC b n).2 = 0) : (unpackC b n).1.length = n.toNat ∧ 0 ≤ n := by
  unfold unpackC at h ⊢
  split
  · rename_i h1; rw [if_pos h1] at h; cases h
  · rename_i h1
    rw [if_neg h1] at h
    split
    · rename_i h2; rw [if_pos h2] at h; cases h
    · rename_i h2
      rw [if_neg h2] at h
      split
      · exact ⟨bitsB_length .., by omega⟩
      · rename_i h3; rw [if_neg h3] at h; cases h
theorem unpackI_rng {b : List UInt8} {w : Int} : ∀ x ∈ (unpackIC b w).1, i64r x := by
  unfold unpackIC
  split
  · rename_i hw9
    obtain ⟨w, rfl, hw⟩ := isW_cases hw9
    rw [Int.toNat_natCast]
    split
    · rename_i hm
      intro x hx
      obtain ⟨j, hj, rfl⟩ := List.mem_map.1 (show x ∈ unpackI b w (b.length / w) from hx)
      have hj := List.mem_range.1 hj
      have hd := Nat.mul_div_cancel' (Nat.dvd_of_mod_eq_zero hm)
      have h2 : w * (j + 1) ≤ w * (b.length / w) := Nat.mul_le_mul_left _ hj
      rw [hd, Nat.mul_add] at h2
      exact sval_lt (w := w) (chunk_length (by omega)) hw
    · intro x hx; simp at hx
  · intro x hx; simp at hx
theorem cut_sz {xs : List Int} {b : List UInt8} : szL clW (cutL xs b).1 ≤ b.length := by
  by_cases h : cutOk xs b.length
  · rw [cutL_yes h]
    have key : ∀ k, k + 1 ≤ xs.length → ((szL clW (cutP xs b k) : Nat) : Int) ≤ xs.getD k 0 ∧ 0 ≤ xs.getD k 0 ∨ k = 0 := by
      intro k
      induction k with
      | zero => intro _; exact .inr rfl
      | succ k ih =>
        intro hk
        have hc := h k (by omega)
        left
        have h1 : szL clW (cutP xs b (k + 1)) = szL clW (cutP xs b k) + (pcS xs b k).length := by
          rw [← cutP_snoc]; simp [szL, clW]
        have h2 : (pcS xs b k).length ≤ (xs.getD (k + 1) 0).toNat - (xs.getD k 0).toNat := by
          simp only [pcS, List.length_drop, List.length_take]; omega
        rcases ih (by omega) with h3 | rfl
        · omega
        · have : szL clW (cutP xs b 0) = 0 := rfl
          omega
    show szL clW (cutP xs b (xs.length - 1)) ≤ _
    by_cases h0 : xs.length ≤ 1
    · have : xs.length - 1 = 0 := by omega
      rw [this]; exact Nat.zero_le _
    · rcases key (xs.length - 1) (by omega) with h3 | h3
      · have hc := h (xs.length - 2) (by omega)
        have e : xs.length - 2 + 1 = xs.length - 1 := by omega
        rw [e] at hc
        omega
      · omega
  · rw [cutL_no h]; exact Nat.zero_le _
end Go.Ev
