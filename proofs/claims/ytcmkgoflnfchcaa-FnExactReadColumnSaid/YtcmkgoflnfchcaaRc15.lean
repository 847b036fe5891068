/- Part 15 of what the row leans on: the evaluator, words, contracts of functions; pruned by a program of ours. -/
import Derived.Test.YtcmkgoflnfchcaaRc14
set_option linter.unusedSimpArgs false
set_option linter.unusedVariables false
namespace Go.Ev
open Go Go.RowKit Go.Proofs
theorem parP_bools : parTys Try.prog 212 = [195] := by kernel_rfl
theorem parR_bools : parTys Try.prog 213 = [195, 3, 29] := by kernel_rfl
theorem parP_numbers : parTys Try.prog 215 = [197] := by kernel_rfl
theorem parR_numbers : parTys Try.prog 216 = [197, 3, 29] := by kernel_rfl
theorem parP_texts : parTys Try.prog 224 = [200] := by kernel_rfl
theorem parR_texts : parTys Try.prog 225 = [200, 3, 29] := by kernel_rfl
theorem parP_places : parTys Try.prog 228 = [202] := by kernel_rfl
theorem parR_places : parTys Try.prog 229 = [202, 3, 29] := by kernel_rfl
theorem c_parts_bools : Meets Try.prog 212 [.agg []] (fun r => r = .v (.int .i64 1)) := by
  refine Meets.intro mixed (hint []) Try.func212 rfl (by decide) res_212 rty_212 (by kernel_rfl) ?_; 
  simp -dsimp -implicitDefEqProofs only [go_sem, Nat.reduceBEq, Nat.reduceAdd, Nat.reduceLeDiff, Nat.reduceSub, Int.reduceEq]
theorem c_parts_texts : Meets Try.prog 224 [.agg []] (fun r => r = .v (.int .i64 2)) := by
  refine Meets.intro mixed (hint []) Try.func224 rfl (by decide) res_224 rty_224 (by kernel_rfl) ?_; 
  simp -dsimp -implicitDefEqProofs only [go_sem, Nat.reduceBEq, Nat.reduceAdd, Nat.reduceLeDiff, Nat.reduceSub, Int.reduceEq]
theorem c_parts_numbers (w : Int) : Meets Try.prog 215 [.agg [.v (.int .i64 w)]] (fun r => r = .v (.int .i64 1)) := by
  refine Meets.intro mixed (hint []) Try.func215 rfl (by decide) res_215 rty_215 (by kernel_rfl) ?_; 
  simp -dsimp -implicitDefEqProofs only [go_sem, Nat.reduceBEq, Nat.reduceAdd, Nat.reduceLeDiff, Nat.reduceSub, Int.reduceEq]
theorem c_parts_places (vs : List (List UInt8)) : Meets Try.prog 228 [.agg [.row 22 1 (ra byC vs)]] (fun r => r = .v (.int .i64 1)) := by
  refine Meets.intro mixed (hint []) Try.func228 rfl (by decide) res_228 rty_228 (by kernel_rfl) ?_; 
  simp -dsimp -implicitDefEqProofs only [go_sem, Nat.reduceBEq, Nat.reduceAdd, Nat.reduceLeDiff, Nat.reduceSub, Int.reduceEq]
theorem bb_take {α : Type} {xs ys : List α} {i : Nat} (h : xs.take i = ys.take i) (hx : i < xs.length) (hy : i < ys.length) (he : xs[i] = ys[i]) : xs.take (i + 1) = ys.take (i + 1) := by
  rw [List.take_succ_eq_append_getElem hx, List.take_succ_eq_append_getElem hy, h, he]
theorem bb_ne {α : Type} {xs ys : List α} {i : Nat} (hx : i < xs.length) (hy : i < ys.length) (he : xs[i] ≠ ys[i]) : xs ≠ ys := fun h => he (by subst h; rfl)
theorem c_equalFuncBB (xs ys : List (List UInt8)) (hx : xs.length ≤ 1048576) (hy : ys.length ≤ 1048576) (hxb : ∀ b ∈ xs, b.length ≤ 140737488355328) (hyb : ∀ b ∈ ys, b.length ≤ 140737488355328) :
    Meets Try.prog 136 [rowBB xs, rowBB ys, .v (.func (.func 74) #[] #[])] (fun r => r = .v (.bool (decide (xs = ys)))) := by
  have hp : parTys Try.prog 74 = [22, 22] := by kernel_rfl
  refine Meets.intro mixed (hint []) Try.func136 rfl (by decide) res_136 rty_136 (by kernel_rfl) ?_; 
  simp -dsimp -implicitDefEqProofs only [go_sem, Nat.reduceBEq, Nat.reduceAdd, Nat.reduceLeDiff, Nat.reduceSub, Int.reduceEq]
  refine ifB'.of (fun h => ?_) (fun h => ?_)
  rotate_left
  · simp -dsimp -implicitDefEqProofs only [go_sem, Nat.reduceBEq, Nat.reduceAdd, Nat.reduceLeDiff, Nat.reduceSub, Int.reduceEq]
    rw [decide_eq_false (fun e => h (by rw [e]))]
  have hl : xs.length = ys.length := by omega
  simp -dsimp -implicitDefEqProofs only [go_sem, Nat.reduceBEq, Nat.reduceAdd, Nat.reduceLeDiff, Nat.reduceSub, Int.reduceEq]
  refine LoopE.cnt xs.length (fun i s => s.env 1 = .rd .ent 22 1 (ra byC ys) ∧ s.env 2 = .v (.func (.func 74) #[] #[]) ∧ s.env 15 = .rd .ent 22 1 (ra byC xs) ∧ s.env 16 = .v (.int .i64 xs.length) ∧ s.env 17 = .v (.int .i64 i) ∧ xs.take i = ys.take i) ⟨by simp -dsimp -implicitDefEqProofs only [go_sem, Nat.reduceBEq, Nat.reduceAdd, Nat.reduceLeDiff, Nat.reduceSub, Int.reduceEq, initE], by simp -dsimp -implicitDefEqProofs only [go_sem, Nat.reduceBEq, Nat.reduceAdd, Nat.reduceLeDiff, Nat.reduceSub, Int.reduceEq, initE], by simp -dsimp -implicitDefEqProofs only [go_sem, Nat.reduceBEq, Nat.reduceAdd, Nat.reduceLeDiff, Nat.reduceSub, Int.reduceEq, initE], by simp -dsimp -implicitDefEqProofs only [go_sem, Nat.reduceBEq, Nat.reduceAdd, Nat.reduceLeDiff, Nat.reduceSub, Int.reduceEq, initE], by simp -dsimp -implicitDefEqProofs only [go_sem, Nat.reduceBEq, Nat.reduceAdd, Nat.reduceLeDiff, Nat.reduceSub, Int.reduceEq] <;> rfl, by simp⟩ ?_
  rintro i ⟨e, σ⟩ hi ⟨h1, h2, h15, h16, h17, hall⟩ K hK
  simp only at h1 h2 h15 h16 h17
  simp -dsimp -implicitDefEqProofs only [go_sem, Nat.reduceBEq, Nat.reduceAdd, Nat.reduceLeDiff, Nat.reduceSub, Int.reduceEq, h1, h2, h15, h16, h17]
  refine ifB'.of (fun hlt => ?_) (fun hlt => ?_)
  · have hlt : i < xs.length := by omega
    have hlt' : i < ys.length := by omega
    repeat (first | with_reducible refine ask.of (by first | omega | decide) ?_ | simp -dsimp -implicitDefEqProofs only [go_sem, Nat.reduceBEq, Nat.reduceAdd, Nat.reduceLeDiff, Nat.reduceSub, Int.reduceEq, h1, h2, h15, h16, h17, byA_at hlt, byA_at hlt', bl3])
    refine CallV.ofE (c_bytesEqual xs[i] ys[i] (hxb _ (List.getElem_mem hlt)) (hyb _ (List.getElem_mem hlt'))) (by rintro r rfl; (repeat' first | exact trivial | exact pure_rowB _ | exact pure_rowO _ | exact pure_rowI _ | exact pure_rowBB _ | exact pure_rowPk _ _ | exact pure_rowSn _ _ | exact pure_rowFd _ _ | exact pure_rowBBB _ | exact pure_rowCl _ _ | exact pure_rowTb _ _ _ | refine And.intro ?_ ?_)) (by first | (simp -dsimp -implicitDefEqProofs only [go_sem, Nat.reduceBEq, Nat.reduceAdd, Nat.reduceLeDiff, Nat.reduceSub, Int.reduceEq, h1, h2, h15, h16, h17, hp]; done) | (simp -dsimp -implicitDefEqProofs only [go_sem, Nat.reduceBEq, Nat.reduceAdd, Nat.reduceLeDiff, Nat.reduceSub, Int.reduceEq, h1, h2, h15, h16, h17, hp]; rfl)) (by first | (simp -dsimp -implicitDefEqProofs only [go_sem, Nat.reduceBEq, Nat.reduceAdd, Nat.reduceLeDiff, Nat.reduceSub, Int.reduceEq, h1, h2, h15, h16, h17, hp]; done) | (simp -dsimp -implicitDefEqProofs only [go_sem, Nat.reduceBEq, Nat.reduceAdd, Nat.reduceLeDiff, Nat.reduceSub, Int.reduceEq, h1, h2, h15, h16, h17, hp]; rfl)) (by first | rfl | (simp -dsimp -implicitDefEqProofs only [go_sem, Nat.reduceBEq, Nat.reduceAdd, Nat.reduceLeDiff, Nat.reduceSub, Int.reduceEq, h1, h2, h15, h16, h17, hp]; done)) ?_
    rintro r rfl
    simp -dsimp -implicitDefEqProofs only [go_sem, Nat.reduceBEq, Nat.reduceAdd, Nat.reduceLeDiff, Nat.reduceSub, Int.reduceEq, h1, h2, h15, h16, h17, hp]
    by_cases hv : xs[i] = ys[i]
    · simp -dsimp -implicitDefEqProofs only [go_sem, Nat.reduceBEq, Nat.reduceAdd, Nat.reduceLeDiff, Nat.reduceSub, Int.reduceEq, h1, h2, h15, h16, h17, decide_eq_true hv, Bool.not_true]
      refine hK _ hlt ?_
      simp -dsimp -implicitDefEqProofs only [go_sem, Nat.reduceBEq, Nat.reduceAdd, Nat.reduceLeDiff, Nat.reduceSub, Int.reduceEq, h1, h2, h15, h16, h17, wrap_succ (show i < 4611686018427387904 by omega)]
      exact bb_take hall hlt hlt' hv
    · simp -dsimp -implicitDefEqProofs only [go_sem, Nat.reduceBEq, Nat.reduceAdd, Nat.reduceLeDiff, Nat.reduceSub, Int.reduceEq, h1, h2, h15, h16, h17, decide_eq_false hv, Bool.not_false]
      rw [decide_eq_false (bb_ne hlt hlt' hv)]
  · have : i = xs.length := by omega
    subst this
    rw [List.take_length, hl, List.take_length] at hall
    simp -dsimp -implicitDefEqProofs only [go_sem, Nat.reduceBEq, Nat.reduceAdd, Nat.reduceLeDiff, Nat.reduceSub, Int.reduceEq, h1, h2, h15, h16, h17]
    rw [decide_eq_true hall]
noncomputable def resRC (y : List Cl × Int) : AV := .tup [rowCl 145 y.1, .v (.int .i64 y.2)]
theorem rc_no {f : Fd} {n : Int} {bs vs : List (List UInt8)} (hg : rcOk f n vs) (h : ∀ cs, ¬ rdOf f n bs vs cs) : AV.tup [.row 145 3 [], .v (.int .i64 3)] = resRC (rdL f n bs vs) := by rw [rdL_no hg h]; rfl
theorem rc_bad {f : Fd} {n : Int} {bs vs : List (List UInt8)} (hg : ¬ rcOk f n vs) : AV.tup [.row 145 3 [], .v (.int .i64 1)] = resRC (rdL f n bs vs) := by rw [rdL_bad hg]; rfl
theorem rc_yes {f : Fd} {n : Int} {bs vs : List (List UInt8)} {cs : List Cl} (hg : rcOk f n vs) (hb : ∀ b ∈ bs, b.length ≤ 1048576) (h : rdOf f n bs vs cs) : AV.tup [.row 145 3 (ra clC cs), .v (.int .i64 0)] = resRC (rdL f n bs vs) := by rw [rdL_yes hg hb h]; rfl
theorem bs_at {bs : List (List UInt8)} {i : Nat} (h : i < bs.length) : (ra byC bs)[i]? = some [.row 5 1 (bytesA (bs.getD i []))] := by rw [byA_at h]; simp [List.getD, h]
theorem bs_le {bs : List (List UInt8)} (hb : ∀ b ∈ bs, b.length ≤ 1048576) (i : Nat) : (bs.getD i []).length ≤ 1048576 := by
  by_cases h : i < bs.length
  · have : bs.getD i [] = bs[i] := by simp [List.getD, h]
    rw [this]; exact hb _ (List.getElem_mem h)
  · have : bs.getD i [] = [] := by simp [List.getD, show bs.length ≤ i by omega]
    rw [this]; exact Nat.zero_le _
theorem dr_at0 {bs : List (List UInt8)} (h : 0 < (bs.drop 1).length) : (bs.drop 1)[0] = bs.getD 1 [] := by
  rw [List.length_drop] at h
  simp [List.getD, show 1 < bs.length by omega]
theorem dr_at1 {bs : List (List UInt8)} (h : 1 < (bs.drop 1).length) : (bs.drop 1)[1] = bs.getD 2 [] := by
  rw [List.length_drop] at h
  simp [List.getD, show 2 < bs.length by omega]
theorem szL_bd {α : Type} {sz : α → Nat} {m : Nat} : ∀ xs : List α, (∀ x ∈ xs, sz x ≤ m) → szL sz xs ≤ m * xs.length
  | [], _ => by simp [szL]
  | x :: xs, h => by
    have h1 := szL_bd xs (fun y hy => h y (List.mem_cons_of_mem _ hy))
    have h2 := h x (List.mem_cons_self ..)
    simp only [szL, List.map_cons, List.sum_cons, List.length_cons] at h1 ⊢
    rw [Nat.mul_succ]; omega
theorem two_le : ∀ bs : List (List UInt8), (bs.getD 1 []).length + (bs.getD 2 []).length ≤ wBB bs
  | [] => by simp [wBB, szL]
  | [a] => by simp [wBB, szL]
  | [a, b] => by simp [wBB, szL]
  | a :: b :: c :: r => by simp [wBB, szL]; omega
theorem unpackIC_len (b : List UInt8) (w : Int) : (unpackIC b w).1.length ≤ b.length := by
  unfold unpackIC
  split
  · split
    · show (unpackI _ _ _).length ≤ _
      rw [unpackI_length]
      exact Nat.div_le_self ..
    · exact Nat.zero_le _
  · exact Nat.zero_le _
theorem cutL_len (xs : List Int) (b : List UInt8) : (cutL xs b).1.length ≤ xs.length := by
  by_cases h : cutOk xs b.length
  · rw [cutL_yes h]
    show (cutP _ _ _).length ≤ _
    rw [cutP_len]; omega
  · rw [cutL_no h]; exact Nat.zero_le _
theorem packI_bd {xs : List Int} {w : Int} (h : xs.length ≤ 1000) : (packIC xs w).1.length ≤ 8000 := by
  unfold packIC
  split
  · rename_i hw
    split
    · show (packI xs w.toNat).length ≤ 8000
      have hw' : w = 1 ∨ w = 2 ∨ w = 4 ∨ w = 8 := by rw [isW_iff] at hw; exact of_decide_eq_true hw
      rw [packI_length]
      rcases hw' with rfl | rfl | rfl | rfl <;> simp <;> omega
    · exact Nat.zero_le _
  · exact Nat.zero_le _
theorem bldL_Q {f : Fd} {cs : List Cl} {vs : List (List UInt8)} (hc : szL clW cs ≤ 1048576) : (bldL f cs vs).1.length ≤ 3 ∧ ∀ b ∈ (bldL f cs vs).1, b.length ≤ 1048576 := by
  by_cases h : bcOk f cs vs
  · rw [bldL_yes h]
    have h3 := h.1.2.1
    have hv : (validB cs).length ≤ 1048576 := by
      unfold validB
      split
      · rw [packB_length]; unfold packN; rw [there_len]; omega
      · exact Nat.zero_le _
    have hbits : (packB (bitsL cs)).length ≤ 1048576 := by rw [packB_length]; unfold packN; simp [bitsL]; omega
    have hints := packI_bd (xs := intsL cs) (w := f.w) (by simp [intsL]; omega)
    have hoffs := packI_bd (xs := offL cs) (w := 4) (by rw [offL, offP_len]; omega)
    have hplcs := packI_bd (xs := plcL vs cs) (w := 1) (by simp [plcL]; omega)
    have hdata := data_len cs
    unfold bodyB
    split
    · exact ⟨by simp, fun b hb => by simp at hb; rcases hb with rfl | rfl <;> omega⟩
    split
    · exact ⟨by simp, fun b hb => by simp at hb; rcases hb with rfl | rfl <;> omega⟩
    split
    · exact ⟨by simp, fun b hb => by simp at hb; rcases hb with rfl | rfl | rfl <;> omega⟩
    · exact ⟨by simp, fun b hb => by simp at hb; rcases hb with rfl | rfl <;> omega⟩
  · rw [bldL_no h]; exact ⟨Nat.zero_le _, fun b hb => by cases hb⟩
set_option maxRecDepth 8000 in
set_option maxHeartbeats 16000000 in
theorem c_implReadColumn (f : Fd) (n : Int) (bs vs : List (List UInt8)) (hf : f.f.length ≤ 1048576) (hb : bs.length + wBB bs ≤ 1048576) (hv : vs.length + wBB vs ≤ 1048576) : Meets Try.prog 52 [.agg (fdC f), .v (.int .i64 n), rowBB bs, rowBB vs] (fun r => r = resRC (rdL f n bs vs)) := by
  refine Meets.introO mixed (hint []) (fun k => (sel (k == 6) [0,1,2,3,4,5,6,7,8,9,10,11,12] [])) Try.func52 rfl (by decide) res_52 rty_52 (by kernel_rfl) ?_; 
  have hbb : ∀ b ∈ bs, b.length ≤ 1048576 := fun b h => by have := mem_wBB h; omega
  have hvb : ∀ b ∈ vs, b.length ≤ 1048576 := fun b h => by have := mem_wBB h; omega
  simp -dsimp -implicitDefEqProofs only [go_sem, Nat.reduceBEq, Nat.reduceAdd, Nat.reduceLeDiff, Nat.reduceSub, Int.reduceEq, fdC]
  repeat (first | with_reducible refine ask.of (by first | omega | decide) ?_ | simp -dsimp -implicitDefEqProofs only [go_sem, Nat.reduceBEq, Nat.reduceAdd, Nat.reduceLeDiff, Nat.reduceSub, Int.reduceEq, initE, bl3])
  refine CallE.of (c_fieldOk f hf) (by rintro r rfl; (repeat' first | exact trivial | exact pure_rowB _ | exact pure_rowO _ | exact pure_rowI _ | exact pure_rowBB _ | exact pure_rowPk _ _ | exact pure_rowSn _ _ | exact pure_rowFd _ _ | exact pure_rowBBB _ | exact pure_rowCl _ _ | exact pure_rowTb _ _ _ | refine And.intro ?_ ?_)) (by simp -dsimp -implicitDefEqProofs only [go_sem, Nat.reduceBEq, Nat.reduceAdd, Nat.reduceLeDiff, Nat.reduceSub, Int.reduceEq, fdC]) ?_
  rintro r rfl
  simp -dsimp -implicitDefEqProofs only [go_sem, Nat.reduceBEq, Nat.reduceAdd, Nat.reduceLeDiff, Nat.reduceSub, Int.reduceEq, fdC]
  by_cases h1 : fdOk f
  rotate_left
  · repeat' (first | exact rc_bad fun h => h1 h.1 | with_reducible refine ask.of (by first | omega | decide) ?_ | simp -dsimp -implicitDefEqProofs only [go_sem, Nat.reduceBEq, Nat.reduceAdd, Nat.reduceLeDiff, Nat.reduceSub, Int.reduceEq, decide_eq_false h1, Bool.not_false, initE, bl3])
  repeat (first | with_reducible refine ask.of (by first | omega | decide) ?_ | simp -dsimp -implicitDefEqProofs only [go_sem, Nat.reduceBEq, Nat.reduceAdd, Nat.reduceLeDiff, Nat.reduceSub, Int.reduceEq, decide_eq_true h1, Bool.not_true, initE, bl3])
  refine CallE.of (c_iValidDict vs hv) (by rintro r rfl; (repeat' first | exact trivial | exact pure_rowB _ | exact pure_rowO _ | exact pure_rowI _ | exact pure_rowBB _ | exact pure_rowPk _ _ | exact pure_rowSn _ _ | exact pure_rowFd _ _ | exact pure_rowBBB _ | exact pure_rowCl _ _ | exact pure_rowTb _ _ _ | refine And.intro ?_ ?_)) (by simp -dsimp -implicitDefEqProofs only [go_sem, Nat.reduceBEq, Nat.reduceAdd, Nat.reduceLeDiff, Nat.reduceSub, Int.reduceEq]) ?_
  rintro r rfl
  simp -dsimp -implicitDefEqProofs only [go_sem, Nat.reduceBEq, Nat.reduceAdd, Nat.reduceLeDiff, Nat.reduceSub, Int.reduceEq]
  by_cases h2 : okD vs
  rotate_left
  · repeat' (first | exact rc_bad fun h => h2 h.2.1 | with_reducible refine ask.of (by first | omega | decide) ?_ | simp -dsimp -implicitDefEqProofs only [go_sem, Nat.reduceBEq, Nat.reduceAdd, Nat.reduceLeDiff, Nat.reduceSub, Int.reduceEq, decide_eq_false h2, Bool.not_false, initE, bl3])
  simp -dsimp -implicitDefEqProofs only [go_sem, Nat.reduceBEq, Nat.reduceAdd, Nat.reduceLeDiff, Nat.reduceSub, Int.reduceEq, decide_eq_true h2, Bool.not_true]
  by_cases h3 : 0 ≤ n ∧ n ≤ 100
  rotate_left
  · repeat' (first | exact rc_bad fun h => h3 h.2.2 | with_reducible refine ask.of (by first | omega | decide) ?_ | ((with_reducible refine ifB'.of (fun h => ?_) (fun h => ?_)) <;> first | (exfalso; omega) | skip) | simp -dsimp -implicitDefEqProofs only [go_sem, Nat.reduceBEq, Nat.reduceAdd, Nat.reduceLeDiff, Nat.reduceSub, Int.reduceEq, decide_eq_true h2, Bool.not_true, initE, bl3])
  have hg : rcOk f n vs := ⟨h1, h2, h3.1, h3.2⟩
  have h40 := h2.1
  repeat' (first | with_reducible refine ask.of (by first | omega | decide) ?_ | ((with_reducible refine ifB'.of (fun h => ?_) (fun h => ?_)) <;> first | (exfalso; omega) | skip) | simp -dsimp -implicitDefEqProofs only [go_sem, Nat.reduceBEq, Nat.reduceAdd, Nat.reduceLeDiff, Nat.reduceSub, Int.reduceEq, decide_eq_true h2, Bool.not_true, initE, bl3])
  have hB := c_builderOf f vs hf (by omega)
  have hU := c_implUnpackBits (bs.getD 0 []) n (bs_le hbb 0) (by omega) (by omega)
  have i11 : IntKind.i64.wrap (1 + 1) = 2 ∧ IntKind.i64.wrap (1 + 2) = 3 := by decide
  unfold bldI at hB
  rcases bk_cases h1 with hk | hk | hk | hk
  · rw [if_pos hk] at hB
    have hwn : wantN f = 2 := by unfold wantN; rw [if_neg (by omega)]
    refine CallE.lend (hB) (by simp -dsimp -implicitDefEqProofs only [go_sem, Nat.reduceBEq, Nat.reduceAdd, Nat.reduceLeDiff, Nat.reduceSub, Int.reduceEq]) ?_
    rintro r rfl
    simp -dsimp -implicitDefEqProofs only [go_sem, Nat.reduceBEq, Nat.reduceAdd, Nat.reduceLeDiff, Nat.reduceSub, Int.reduceEq]
    repeat (first | with_reducible refine ask.of (by first | omega | decide) ?_ | simp -dsimp -implicitDefEqProofs only [go_sem, Nat.reduceBEq, Nat.reduceAdd, Nat.reduceLeDiff, Nat.reduceSub, Int.reduceEq, initE, bl3])
    refine CallI.of (c_parts_bools) (by rintro r rfl; (repeat' first | exact trivial | exact pure_rowB _ | exact pure_rowO _ | exact pure_rowI _ | exact pure_rowBB _ | exact pure_rowPk _ _ | exact pure_rowSn _ _ | exact pure_rowFd _ _ | exact pure_rowBBB _ | exact pure_rowCl _ _ | exact pure_rowTb _ _ _ | refine And.intro ?_ ?_)) (by simp -dsimp -implicitDefEqProofs only [go_sem, Nat.reduceBEq, Nat.reduceAdd, Nat.reduceLeDiff, Nat.reduceSub, Int.reduceEq, parP_bools, cty_bools]) ?_
    rintro r rfl
    simp -dsimp -implicitDefEqProofs only [go_sem, Nat.reduceBEq, Nat.reduceAdd, Nat.reduceLeDiff, Nat.reduceSub, Int.reduceEq, parP_bools, cty_bools]
    repeat (first | with_reducible refine ask.of (by first | omega | decide) ?_ | simp -dsimp -implicitDefEqProofs only [go_sem, Nat.reduceBEq, Nat.reduceAdd, Nat.reduceLeDiff, Nat.reduceSub, Int.reduceEq, initE, bl3, i11])
    refine ifB'.of (fun hl => ?_) (fun hl => ?_)
    rotate_left
    · repeat (first | with_reducible refine ask.of (by first | omega | decide) ?_ | simp -dsimp -implicitDefEqProofs only [go_sem, Nat.reduceBEq, Nat.reduceAdd, Nat.reduceLeDiff, Nat.reduceSub, Int.reduceEq, initE, bl3])
      exact rc_no hg fun cs h => hl (by have := (rd_parts h).2.2.2.2.2; omega)
    have hd1 : 0 < (bs.drop 1).length := by rw [List.length_drop]; omega
    have hR := c_boolsRead n (bs.drop 1) hd1 (by rw [dr_at0 hd1]; exact bs_le hbb 1) h3
    rw [dr_at0 hd1] at hR
    have hW := fun cs (h : rdOf f n bs vs cs) => raw_bools (cs := cs) hk h
    have hs0 : ∀ c ∈ rawB (unpackC (bs.getD 1 []) n).1, i64r c.i ∧ c.f.length ≤ 4000 := fun c hc => by
      obtain ⟨x, _, rfl⟩ := List.mem_map.1 hc
      refine ⟨?_, Nat.zero_le _⟩
      show i64r (if x = true then 1 else 0)
      cases x <;> exact ⟨by decide, by decide⟩
    have hsz : ∀ cs0 : List Cl, cs0 = rawB (unpackC (bs.getD 1 []) n).1 → cs0.length ≤ 100 → cs0.length + szL clW cs0 ≤ 1048576 := fun cs0 e hl => by
      have := szL_bd (sz := clW) (m := 4000) cs0 (fun c hc => (hs0 c (e ▸ hc)).2)
      omega
    generalize hX : rawB (unpackC (bs.getD 1 []) n).1 = cs0 at *
    generalize (unpackC (bs.getD 1 []) n).2 = cd at *
    have hW1 := fun cs h => (hW cs h).1
    have hW2 := fun cs h => (hW cs h).2
    have hrg : ∀ c ∈ cs0, i64r c.i := fun c hc => (hs0 c hc).1
    replace hsz := hsz cs0 rfl
    repeat (first | with_reducible refine ask.of (by first | omega | decide) ?_ | simp -dsimp -implicitDefEqProofs only [go_sem, Nat.reduceBEq, Nat.reduceAdd, Nat.reduceLeDiff, Nat.reduceSub, Int.reduceEq, initE, bl3, it012, List.take_length])
    intro v0
    repeat (first | with_reducible refine ask.of (by first | omega | decide) ?_ | simp -dsimp -implicitDefEqProofs only [go_sem, Nat.reduceBEq, Nat.reduceAdd, Nat.reduceLeDiff, Nat.reduceSub, Int.reduceEq, initE, bl3, it012, List.take_length])
    refine CallI.of (hR) (by rintro r rfl; (repeat' first | exact trivial | exact pure_rowB _ | exact pure_rowO _ | exact pure_rowI _ | exact pure_rowBB _ | exact pure_rowPk _ _ | exact pure_rowSn _ _ | exact pure_rowFd _ _ | exact pure_rowBBB _ | exact pure_rowCl _ _ | exact pure_rowTb _ _ _ | refine And.intro ?_ ?_)) (by simp -dsimp -implicitDefEqProofs only [go_sem, Nat.reduceBEq, Nat.reduceAdd, Nat.reduceLeDiff, Nat.reduceSub, Int.reduceEq, parR_bools, cty_bools, rowCl]) ?_
    rintro r rfl
    simp -dsimp -implicitDefEqProofs only [go_sem, Nat.reduceBEq, Nat.reduceAdd, Nat.reduceLeDiff, Nat.reduceSub, Int.reduceEq, parR_bools, cty_bools, rowCl]
    repeat (first | with_reducible refine ask.of (by first | omega | decide) ?_ | simp -dsimp -implicitDefEqProofs only [go_sem, Nat.reduceBEq, Nat.reduceAdd, Nat.reduceLeDiff, Nat.reduceSub, Int.reduceEq, initE, bl3])
    refine ifB'.of (fun hc0 => ?_) (fun hc0 => ?_)
    rotate_left
    · repeat' (first | exact rc_no hg fun cs h => hc0 (by have := hW1 cs h; omega) | with_reducible refine ask.of (by first | omega | decide) ?_ | simp -dsimp -implicitDefEqProofs only [go_sem, Nat.reduceBEq, Nat.reduceAdd, Nat.reduceLeDiff, Nat.reduceSub, Int.reduceEq, initE, bl3])
    repeat (first | with_reducible refine ask.of (by first | omega | decide) ?_ | simp -dsimp -implicitDefEqProofs only [go_sem, Nat.reduceBEq, Nat.reduceAdd, Nat.reduceLeDiff, Nat.reduceSub, Int.reduceEq, initE, bl3])
    refine ifB'.of (fun hc1 => ?_) (fun hc1 => ?_)
    rotate_left
    · repeat' (first | exact rc_no hg fun cs h => hc1 (by have e9 := hW2 cs h; have e8 := h.1; rw [e9, List.length_map]; exact e8) | with_reducible refine ask.of (by first | omega | decide) ?_ | simp -dsimp -implicitDefEqProofs only [go_sem, Nat.reduceBEq, Nat.reduceAdd, Nat.reduceLeDiff, Nat.reduceSub, Int.reduceEq, initE, bl3])
    replace hsz := hsz (by omega)
    repeat (first | with_reducible refine ask.of (by first | omega | decide) ?_ | simp -dsimp -implicitDefEqProofs only [go_sem, Nat.reduceBEq, Nat.reduceAdd, Nat.reduceLeDiff, Nat.reduceSub, Int.reduceEq, initE, bl3, it012, bs_at (show 0 < bs.length by omega)])
    refine ifB'.of (fun hv0 => ?_) (fun hv0 => ?_)
    · repeat (first | with_reducible refine ask.of (by first | omega | decide) ?_ | simp -dsimp -implicitDefEqProofs only [go_sem, Nat.reduceBEq, Nat.reduceAdd, Nat.reduceLeDiff, Nat.reduceSub, Int.reduceEq, initE, bl3, it012, bs_at (show 0 < bs.length by omega)])
      refine CallE.of (hU) (by rintro r rfl; (repeat' first | exact trivial | exact pure_rowB _ | exact pure_rowO _ | exact pure_rowI _ | exact pure_rowBB _ | exact pure_rowPk _ _ | exact pure_rowSn _ _ | exact pure_rowFd _ _ | exact pure_rowBBB _ | exact pure_rowCl _ _ | exact pure_rowTb _ _ _ | refine And.intro ?_ ?_)) (by simp -dsimp -implicitDefEqProofs only [go_sem, Nat.reduceBEq, Nat.reduceAdd, Nat.reduceLeDiff, Nat.reduceSub, Int.reduceEq]) ?_
      rintro r rfl
      simp -dsimp -implicitDefEqProofs only [go_sem, Nat.reduceBEq, Nat.reduceAdd, Nat.reduceLeDiff, Nat.reduceSub, Int.reduceEq]
      have hV : ∀ cs, rdOf f n bs vs cs → unpackC (bs.getD 0 []) n = (thereL cs, 0) := fun cs h => by
        obtain ⟨_, g1, g2, _⟩ := rd_parts h
        rcases valid_cases cs with ⟨g3, _⟩ | ⟨_, g4⟩
        · rw [g2, g3] at hv0; exact absurd hv0 (by decide)
        · rw [g1, g2]; exact g4
      have hUl := unpackC_ok (b := bs.getD 0 []) (n := n)
      generalize unpackC (bs.getD 0 []) n = u at *
      obtain ⟨ts, tc⟩ := u
      simp only at hUl
      repeat (first | with_reducible refine ask.of (by first | omega | decide) ?_ | simp -dsimp -implicitDefEqProofs only [go_sem, Nat.reduceBEq, Nat.reduceAdd, Nat.reduceLeDiff, Nat.reduceSub, Int.reduceEq, initE, bl3])
      refine ifB'.of (fun hc2 => ?_) (fun hc2 => ?_)
      rotate_left
      · repeat' (first | exact rc_no hg fun cs h => hc2 (by have e9 := hV cs h; simp only [Prod.mk.injEq] at e9; omega) | with_reducible refine ask.of (by first | omega | decide) ?_ | simp -dsimp -implicitDefEqProofs only [go_sem, Nat.reduceBEq, Nat.reduceAdd, Nat.reduceLeDiff, Nat.reduceSub, Int.reduceEq, initE, bl3])
      have htl : ts.length = cs0.length := by have := (hUl (by omega)).1; omega
      repeat (first | with_reducible refine ask.of (by first | omega | decide) ?_ | simp -dsimp -implicitDefEqProofs only [go_sem, Nat.reduceBEq, Nat.reduceAdd, Nat.reduceLeDiff, Nat.reduceSub, Int.reduceEq, initE, bl3])
      refine LoopE.cnt ts.length (fun i s => s.env 2 = .rd .ent 22 1 (ra byC bs) ∧ s.env 3 = .rd .ent 22 1 (ra byC vs) ∧ s.env 4 = .ptr [4] 0 0 0 ∧ s.env 11 = .ref [51, 0] ∧ s.env 77 = .ref [72, 0] ∧ s.env 78 = .v (.int .i64 ts.length) ∧ s.env 79 = .v (.int .i64 i) ∧
        s.σ [4] = some (.box 84 [.rd .ent 5 1 (bytesA f.f), .v (.int .i64 f.k), .v (.int .i64 f.w)]) ∧ s.σ [72, 0] = some (.row 4 1 (ra boolC ts)) ∧ s.σ [51, 0] = some (.row 145 3 (ra clC (mkPre (nlF ts cs0) cs0 i)))) ⟨by simp -dsimp -implicitDefEqProofs only [go_sem, Nat.reduceBEq, Nat.reduceAdd, Nat.reduceLeDiff, Nat.reduceSub, Int.reduceEq, initE], by simp -dsimp -implicitDefEqProofs only [go_sem, Nat.reduceBEq, Nat.reduceAdd, Nat.reduceLeDiff, Nat.reduceSub, Int.reduceEq, initE], by simp -dsimp -implicitDefEqProofs only [go_sem, Nat.reduceBEq, Nat.reduceAdd, Nat.reduceLeDiff, Nat.reduceSub, Int.reduceEq], by simp -dsimp -implicitDefEqProofs only [go_sem, Nat.reduceBEq, Nat.reduceAdd, Nat.reduceLeDiff, Nat.reduceSub, Int.reduceEq], by simp -dsimp -implicitDefEqProofs only [go_sem, Nat.reduceBEq, Nat.reduceAdd, Nat.reduceLeDiff, Nat.reduceSub, Int.reduceEq], by simp -dsimp -implicitDefEqProofs only [go_sem, Nat.reduceBEq, Nat.reduceAdd, Nat.reduceLeDiff, Nat.reduceSub, Int.reduceEq], by simp -dsimp -implicitDefEqProofs only [go_sem, Nat.reduceBEq, Nat.reduceAdd, Nat.reduceLeDiff, Nat.reduceSub, Int.reduceEq] <;> rfl, by simp -dsimp -implicitDefEqProofs only [go_sem, Nat.reduceBEq, Nat.reduceAdd, Nat.reduceLeDiff, Nat.reduceSub, Int.reduceEq, initE], by simp -dsimp -implicitDefEqProofs only [go_sem, Nat.reduceBEq, Nat.reduceAdd, Nat.reduceLeDiff, Nat.reduceSub, Int.reduceEq], by simp -dsimp -implicitDefEqProofs only [go_sem, Nat.reduceBEq, Nat.reduceAdd, Nat.reduceLeDiff, Nat.reduceSub, Int.reduceEq, mkPre_zero]⟩ ?_
      rintro i ⟨e, σ⟩ hi ⟨g2, g3, g4, g11, g77, g78, g79, s4, s72, s51⟩ K hK
      simp only at g2 g3 g4 g11 g77 g78 g79 s4 s72 s51
      simp -dsimp -implicitDefEqProofs only [go_sem, Nat.reduceBEq, Nat.reduceAdd, Nat.reduceLeDiff, Nat.reduceSub, Int.reduceEq, g2, g3, g4, g11, g77, g78, g79, s4, s72, s51]
      refine ifB'.of (fun hlt => ?_) (fun hlt => ?_)
      · have hlt : i < ts.length := by omega
        have hlt0 : i < cs0.length := by omega
        have hml := mkPre_length (nlF ts cs0) (show i ≤ cs0.length by omega)
        have hma : (ra clC (mkPre (nlF ts cs0) cs0 i))[i]? = some (clC cs0[i]) := ra_at' (mkPre_at _ hlt0)
        have htd : ts.getD i true = ts[i] := by simp [List.getD, hlt]
        have hcd : cs0.getD i cl0 = cs0[i] := by simp [List.getD, hlt0]
        repeat (first | with_reducible refine ask.of (by first | omega | decide) ?_ | simp -dsimp -implicitDefEqProofs only [go_sem, Nat.reduceBEq, Nat.reduceAdd, Nat.reduceLeDiff, Nat.reduceSub, Int.reduceEq, g2, g3, g4, g11, g77, g78, g79, s4, s72, s51, boolA_at hlt, bl3])
        cases hz : ts[i]
        · have hNo : ¬ nlOk f cs0[i] → ∀ cs, ¬ rdOf f n bs vs cs := fun h cs hc => h (nl_good hc (hW2 cs hc) hlt0 (by have e9 := hV cs hc; simp only [Prod.mk.injEq] at e9; rw [← e9.1]; simp [hlt, hz]))
          have hF : nlF ts cs0 i = ⟨true, 0, []⟩ := by rw [nlF, htd, hz]; rfl
          have hset : (ra clC (mkPre (nlF ts cs0) cs0 i)).set i [.v (.bool true), .v (.int .i64 0), .row 5 1 []] = ra clC (mkPre (nlF ts cs0) cs0 (i + 1)) := by
            rw [show ([AV.v (.bool true), .v (.int .i64 0), .row 5 1 []] : List AV) = clC ⟨true, 0, []⟩ from rfl, ra_set, mkPre_set _ _ hlt0 hF.symm]
          repeat' (first | with_reducible refine ask.of (by first | omega | decide) ?_ | ((with_reducible refine ifB'.of (fun h => ?_) (fun h => ?_)) <;> first | (exfalso; omega) | skip) | exact rc_no hg (hNo (by unfold nlOk; omega)) | simp -dsimp -implicitDefEqProofs only [go_sem, Nat.reduceBEq, Nat.reduceAdd, Nat.reduceLeDiff, Nat.reduceSub, Int.reduceEq, g2, g3, g4, g11, g77, g78, g79, s4, s72, s51, hz, Bool.not_false, hma, clC, bl3, hml, ra_length])
          all_goals
            refine hK _ hlt ?_
            simp -dsimp -implicitDefEqProofs only [go_sem, Nat.reduceBEq, Nat.reduceAdd, Nat.reduceLeDiff, Nat.reduceSub, Int.reduceEq, g2, g3, g4, g11, g77, g78, g79, s4, s72, s51, wrap_succ (show i < 4611686018427387904 by omega), hset]
        · have hF : cs0[i] = nlF ts cs0 i := by rw [nlF, htd, hz, if_pos rfl, hcd]
          repeat (first | with_reducible refine ask.of (by first | omega | decide) ?_ | simp -dsimp -implicitDefEqProofs only [go_sem, Nat.reduceBEq, Nat.reduceAdd, Nat.reduceLeDiff, Nat.reduceSub, Int.reduceEq, g2, g3, g4, g11, g77, g78, g79, s4, s72, s51, hz, Bool.not_true, bl3])
          refine hK _ hlt ?_
          simp -dsimp -implicitDefEqProofs only [go_sem, Nat.reduceBEq, Nat.reduceAdd, Nat.reduceLeDiff, Nat.reduceSub, Int.reduceEq, g2, g3, g4, g11, g77, g78, g79, s4, s72, s51, wrap_succ (show i < 4611686018427387904 by omega), mkPre_keep _ hlt0 hF]
      · have hie : i = cs0.length := by omega
        subst hie
        rw [mkPre_full] at s51
        have hcl1 : ((List.range cs0.length).map (nlF ts cs0)).length = cs0.length := by simp
        have hcw1 := nl_sz ts cs0
        have hcr1 := nl_rng (ts := ts) hrg
        have hce1 : ∀ cs, rdOf f n bs vs cs → (List.range cs0.length).map (nlF ts cs0) = cs := fun cs h => by have e9 := hV cs h; simp only [Prod.mk.injEq] at e9; rw [e9.1]; exact nl_back h (hW2 cs h)
        generalize (List.range cs0.length).map (nlF ts cs0) = cs1 at *
        repeat (first | with_reducible refine ask.of (by first | omega | decide) ?_ | simp -dsimp -implicitDefEqProofs only [go_sem, Nat.reduceBEq, Nat.reduceAdd, Nat.reduceLeDiff, Nat.reduceSub, Int.reduceEq, g2, g3, g4, g11, g77, g78, g79, s4, s72, s51, initE, bl3])
        refine CallE.of (c_implBuildColumn f cs1 vs hf (by omega) hcr1 (by omega)) (by rintro r rfl; (repeat' first | exact trivial | exact pure_rowB _ | exact pure_rowO _ | exact pure_rowI _ | exact pure_rowBB _ | exact pure_rowPk _ _ | exact pure_rowSn _ _ | exact pure_rowFd _ _ | exact pure_rowBBB _ | exact pure_rowCl _ _ | exact pure_rowTb _ _ _ | refine And.intro ?_ ?_)) (by simp -dsimp -implicitDefEqProofs only [go_sem, Nat.reduceBEq, Nat.reduceAdd, Nat.reduceLeDiff, Nat.reduceSub, Int.reduceEq, g2, g3, g4, g11, g77, g78, g79, s4, s72, s51, fdC, rowCl]) ?_
        rintro r rfl
        simp -dsimp -implicitDefEqProofs only [go_sem, Nat.reduceBEq, Nat.reduceAdd, Nat.reduceLeDiff, Nat.reduceSub, Int.reduceEq, g2, g3, g4, g11, g77, g78, g79, s4, s72, s51, fdC, rowCl]
        unfold resB
        have hY : ∀ y, bldL f cs1 vs = y → y.2 = 0 ∧ y.1 = bs → rdOf f n bs vs cs1 := fun y hy h => ⟨(by omega), hcr1, by rw [hy, ← h.1, ← h.2]⟩
        have hN : ∀ y, bldL f cs1 vs = y → ¬ (y.2 = 0 ∧ y.1 = bs) → ∀ cs, ¬ rdOf f n bs vs cs := fun y hy h cs hc => by
          have e := hce1 cs hc
          have h9 := hc.2.2
          rw [← e, hy] at h9
          exact h ⟨by rw [h9], by rw [h9]⟩
        have hT := bldL_Q (f := f) (cs := cs1) (vs := vs) (by omega)
        generalize bldL f cs1 vs = y at *
        replace hY := hY y rfl
        replace hN := hN y rfl
        obtain ⟨yb, yc⟩ := y
        simp only at hY hN hT
        repeat (first | with_reducible refine ask.of (by first | omega | decide) ?_ | simp -dsimp -implicitDefEqProofs only [go_sem, Nat.reduceBEq, Nat.reduceAdd, Nat.reduceLeDiff, Nat.reduceSub, Int.reduceEq, g2, g3, g4, g11, g77, g78, g79, s4, s72, s51, initE, bl3])
        refine ifB'.of (fun hc => ?_) (fun hc => ?_)
        rotate_left
        · repeat' (first | exact rc_no hg (hN fun h => hc h.1) | with_reducible refine ask.of (by first | omega | decide) ?_ | simp -dsimp -implicitDefEqProofs only [go_sem, Nat.reduceBEq, Nat.reduceAdd, Nat.reduceLeDiff, Nat.reduceSub, Int.reduceEq, g2, g3, g4, g11, g77, g78, g79, s4, s72, s51, initE, bl3])
        repeat (first | with_reducible refine ask.of (by first | omega | decide) ?_ | simp -dsimp -implicitDefEqProofs only [go_sem, Nat.reduceBEq, Nat.reduceAdd, Nat.reduceLeDiff, Nat.reduceSub, Int.reduceEq, g2, g3, g4, g11, g77, g78, g79, s4, s72, s51, initE, bl3])
        refine CallE.of (c_equalFuncBB yb bs (by omega) (by omega) (fun b h => by have := hT.2 b h; omega) (fun b h => by have := hbb b h; omega)) (by rintro r rfl; (repeat' first | exact trivial | exact pure_rowB _ | exact pure_rowO _ | exact pure_rowI _ | exact pure_rowBB _ | exact pure_rowPk _ _ | exact pure_rowSn _ _ | exact pure_rowFd _ _ | exact pure_rowBBB _ | exact pure_rowCl _ _ | exact pure_rowTb _ _ _ | refine And.intro ?_ ?_)) (by simp -dsimp -implicitDefEqProofs only [go_sem, Nat.reduceBEq, Nat.reduceAdd, Nat.reduceLeDiff, Nat.reduceSub, Int.reduceEq, g2, g3, g4, g11, g77, g78, g79, s4, s72, s51]) ?_
        rintro r rfl
        simp -dsimp -implicitDefEqProofs only [go_sem, Nat.reduceBEq, Nat.reduceAdd, Nat.reduceLeDiff, Nat.reduceSub, Int.reduceEq, g2, g3, g4, g11, g77, g78, g79, s4, s72, s51]
        by_cases hq : yb = bs
        · repeat (first | with_reducible refine ask.of (by first | omega | decide) ?_ | simp -dsimp -implicitDefEqProofs only [go_sem, Nat.reduceBEq, Nat.reduceAdd, Nat.reduceLeDiff, Nat.reduceSub, Int.reduceEq, g2, g3, g4, g11, g77, g78, g79, s4, s72, s51, initE, bl3, decide_eq_true hq, Bool.not_true])
          exact rc_yes hg hbb (hY ⟨hc, hq⟩)
        · repeat (first | with_reducible refine ask.of (by first | omega | decide) ?_ | simp -dsimp -implicitDefEqProofs only [go_sem, Nat.reduceBEq, Nat.reduceAdd, Nat.reduceLeDiff, Nat.reduceSub, Int.reduceEq, g2, g3, g4, g11, g77, g78, g79, s4, s72, s51, initE, bl3, decide_eq_false hq, Bool.not_false])
          exact rc_no hg (hN fun h => hq h.2)
    · have hce0 : ∀ cs, rdOf f n bs vs cs → cs0 = cs := fun cs h => by
        obtain ⟨_, g1, g2, _⟩ := rd_parts h
        rcases valid_cases cs with ⟨_, g4⟩ | ⟨g3, _⟩
        · exact nl_all h (hW2 cs h) g4
        · rw [g2] at hv0; exact absurd (by omega) hv0
      repeat (first | with_reducible refine ask.of (by first | omega | decide) ?_ | simp -dsimp -implicitDefEqProofs only [go_sem, Nat.reduceBEq, Nat.reduceAdd, Nat.reduceLeDiff, Nat.reduceSub, Int.reduceEq, initE, bl3])
      refine CallE.of (c_implBuildColumn f cs0 vs hf (by omega) hrg (by omega)) (by rintro r rfl; (repeat' first | exact trivial | exact pure_rowB _ | exact pure_rowO _ | exact pure_rowI _ | exact pure_rowBB _ | exact pure_rowPk _ _ | exact pure_rowSn _ _ | exact pure_rowFd _ _ | exact pure_rowBBB _ | exact pure_rowCl _ _ | exact pure_rowTb _ _ _ | refine And.intro ?_ ?_)) (by simp -dsimp -implicitDefEqProofs only [go_sem, Nat.reduceBEq, Nat.reduceAdd, Nat.reduceLeDiff, Nat.reduceSub, Int.reduceEq, fdC, rowCl]) ?_
      rintro r rfl
      simp -dsimp -implicitDefEqProofs only [go_sem, Nat.reduceBEq, Nat.reduceAdd, Nat.reduceLeDiff, Nat.reduceSub, Int.reduceEq, fdC, rowCl]
      unfold resB
      have hY : ∀ y, bldL f cs0 vs = y → y.2 = 0 ∧ y.1 = bs → rdOf f n bs vs cs0 := fun y hy h => ⟨hc1, hrg, by rw [hy, ← h.1, ← h.2]⟩
      have hN : ∀ y, bldL f cs0 vs = y → ¬ (y.2 = 0 ∧ y.1 = bs) → ∀ cs, ¬ rdOf f n bs vs cs := fun y hy h cs hc => by
        have e := hce0 cs hc
        have h9 := hc.2.2
        rw [← e, hy] at h9
        exact h ⟨by rw [h9], by rw [h9]⟩
      have hT := bldL_Q (f := f) (cs := cs0) (vs := vs) (by omega)
      generalize bldL f cs0 vs = y at *
      replace hY := hY y rfl
      replace hN := hN y rfl
      obtain ⟨yb, yc⟩ := y
      simp only at hY hN hT
      repeat (first | with_reducible refine ask.of (by first | omega | decide) ?_ | simp -dsimp -implicitDefEqProofs only [go_sem, Nat.reduceBEq, Nat.reduceAdd, Nat.reduceLeDiff, Nat.reduceSub, Int.reduceEq, initE, bl3])
      refine ifB'.of (fun hc => ?_) (fun hc => ?_)
      rotate_left
      · repeat' (first | exact rc_no hg (hN fun h => hc h.1) | with_reducible refine ask.of (by first | omega | decide) ?_ | simp -dsimp -implicitDefEqProofs only [go_sem, Nat.reduceBEq, Nat.reduceAdd, Nat.reduceLeDiff, Nat.reduceSub, Int.reduceEq, initE, bl3])
      repeat (first | with_reducible refine ask.of (by first | omega | decide) ?_ | simp -dsimp -implicitDefEqProofs only [go_sem, Nat.reduceBEq, Nat.reduceAdd, Nat.reduceLeDiff, Nat.reduceSub, Int.reduceEq, initE, bl3])
      refine CallE.of (c_equalFuncBB yb bs (by omega) (by omega) (fun b h => by have := hT.2 b h; omega) (fun b h => by have := hbb b h; omega)) (by rintro r rfl; (repeat' first | exact trivial | exact pure_rowB _ | exact pure_rowO _ | exact pure_rowI _ | exact pure_rowBB _ | exact pure_rowPk _ _ | exact pure_rowSn _ _ | exact pure_rowFd _ _ | exact pure_rowBBB _ | exact pure_rowCl _ _ | exact pure_rowTb _ _ _ | refine And.intro ?_ ?_)) (by simp -dsimp -implicitDefEqProofs only [go_sem, Nat.reduceBEq, Nat.reduceAdd, Nat.reduceLeDiff, Nat.reduceSub, Int.reduceEq]) ?_
      rintro r rfl
      simp -dsimp -implicitDefEqProofs only [go_sem, Nat.reduceBEq, Nat.reduceAdd, Nat.reduceLeDiff, Nat.reduceSub, Int.reduceEq]
      by_cases hq : yb = bs
      · repeat (first | with_reducible refine ask.of (by first | omega | decide) ?_ | simp -dsimp -implicitDefEqProofs only [go_sem, Nat.reduceBEq, Nat.reduceAdd, Nat.reduceLeDiff, Nat.reduceSub, Int.reduceEq, initE, bl3, decide_eq_true hq, Bool.not_true])
        exact rc_yes hg hbb (hY ⟨hc, hq⟩)
      · repeat (first | with_reducible refine ask.of (by first | omega | decide) ?_ | simp -dsimp -implicitDefEqProofs only [go_sem, Nat.reduceBEq, Nat.reduceAdd, Nat.reduceLeDiff, Nat.reduceSub, Int.reduceEq, initE, bl3, decide_eq_false hq, Bool.not_false])
        exact rc_no hg (hN fun h => hq h.2)
  · rw [if_neg (by omega), if_pos hk] at hB
    have hwn : wantN f = 2 := by unfold wantN; rw [if_neg (by omega)]
    refine CallE.lend (hB) (by simp -dsimp -implicitDefEqProofs only [go_sem, Nat.reduceBEq, Nat.reduceAdd, Nat.reduceLeDiff, Nat.reduceSub, Int.reduceEq]) ?_
    rintro r rfl
    simp -dsimp -implicitDefEqProofs only [go_sem, Nat.reduceBEq, Nat.reduceAdd, Nat.reduceLeDiff, Nat.reduceSub, Int.reduceEq]
    repeat (first | with_reducible refine ask.of (by first | omega | decide) ?_ | simp -dsimp -implicitDefEqProofs only [go_sem, Nat.reduceBEq, Nat.reduceAdd, Nat.reduceLeDiff, Nat.reduceSub, Int.reduceEq, initE, bl3])
    refine CallI.of (c_parts_numbers f.w) (by rintro r rfl; (repeat' first | exact trivial | exact pure_rowB _ | exact pure_rowO _ | exact pure_rowI _ | exact pure_rowBB _ | exact pure_rowPk _ _ | exact pure_rowSn _ _ | exact pure_rowFd _ _ | exact pure_rowBBB _ | exact pure_rowCl _ _ | exact pure_rowTb _ _ _ | refine And.intro ?_ ?_)) (by simp -dsimp -implicitDefEqProofs only [go_sem, Nat.reduceBEq, Nat.reduceAdd, Nat.reduceLeDiff, Nat.reduceSub, Int.reduceEq, parP_numbers, cty_numbers]) ?_
    rintro r rfl
    simp -dsimp -implicitDefEqProofs only [go_sem, Nat.reduceBEq, Nat.reduceAdd, Nat.reduceLeDiff, Nat.reduceSub, Int.reduceEq, parP_numbers, cty_numbers]
    repeat (first | with_reducible refine ask.of (by first | omega | decide) ?_ | simp -dsimp -implicitDefEqProofs only [go_sem, Nat.reduceBEq, Nat.reduceAdd, Nat.reduceLeDiff, Nat.reduceSub, Int.reduceEq, initE, bl3, i11])
    refine ifB'.of (fun hl => ?_) (fun hl => ?_)
    rotate_left
    · repeat (first | with_reducible refine ask.of (by first | omega | decide) ?_ | simp -dsimp -implicitDefEqProofs only [go_sem, Nat.reduceBEq, Nat.reduceAdd, Nat.reduceLeDiff, Nat.reduceSub, Int.reduceEq, initE, bl3])
      exact rc_no hg fun cs h => hl (by have := (rd_parts h).2.2.2.2.2; omega)
    have hd1 : 0 < (bs.drop 1).length := by rw [List.length_drop]; omega
    have hR := c_numbersRead f.w n (bs.drop 1) hd1 (by rw [dr_at0 hd1]; exact bs_le hbb 1)
    rw [dr_at0 hd1] at hR
    have hW := fun cs (h : rdOf f n bs vs cs) => raw_ints (cs := cs) hk h
    have hs0 : ∀ c ∈ rawI (unpackIC (bs.getD 1 []) f.w).1, i64r c.i ∧ c.f.length ≤ 4000 := fun c hc => by
      obtain ⟨x, hx, rfl⟩ := List.mem_map.1 hc
      exact ⟨unpackI_rng x hx, Nat.zero_le _⟩
    have hsz : ∀ cs0 : List Cl, cs0 = rawI (unpackIC (bs.getD 1 []) f.w).1 → cs0.length ≤ 100 → cs0.length + szL clW cs0 ≤ 1048576 := fun cs0 e hl => by
      have := szL_bd (sz := clW) (m := 4000) cs0 (fun c hc => (hs0 c (e ▸ hc)).2)
      omega
    generalize hX : rawI (unpackIC (bs.getD 1 []) f.w).1 = cs0 at *
    generalize (unpackIC (bs.getD 1 []) f.w).2 = cd at *
    have hW1 := fun cs h => (hW cs h).1
    have hW2 := fun cs h => (hW cs h).2
    have hrg : ∀ c ∈ cs0, i64r c.i := fun c hc => (hs0 c hc).1
    replace hsz := hsz cs0 rfl
    repeat (first | with_reducible refine ask.of (by first | omega | decide) ?_ | simp -dsimp -implicitDefEqProofs only [go_sem, Nat.reduceBEq, Nat.reduceAdd, Nat.reduceLeDiff, Nat.reduceSub, Int.reduceEq, initE, bl3, it012, List.take_length])
    intro v0
    repeat (first | with_reducible refine ask.of (by first | omega | decide) ?_ | simp -dsimp -implicitDefEqProofs only [go_sem, Nat.reduceBEq, Nat.reduceAdd, Nat.reduceLeDiff, Nat.reduceSub, Int.reduceEq, initE, bl3, it012, List.take_length])
    refine CallI.of (hR) (by rintro r rfl; (repeat' first | exact trivial | exact pure_rowB _ | exact pure_rowO _ | exact pure_rowI _ | exact pure_rowBB _ | exact pure_rowPk _ _ | exact pure_rowSn _ _ | exact pure_rowFd _ _ | exact pure_rowBBB _ | exact pure_rowCl _ _ | exact pure_rowTb _ _ _ | refine And.intro ?_ ?_)) (by simp -dsimp -implicitDefEqProofs only [go_sem, Nat.reduceBEq, Nat.reduceAdd, Nat.reduceLeDiff, Nat.reduceSub, Int.reduceEq, parR_numbers, cty_numbers, rowCl]) ?_
    rintro r rfl
    simp -dsimp -implicitDefEqProofs only [go_sem, Nat.reduceBEq, Nat.reduceAdd, Nat.reduceLeDiff, Nat.reduceSub, Int.reduceEq, parR_numbers, cty_numbers, rowCl]
    repeat (first | with_reducible refine ask.of (by first | omega | decide) ?_ | simp -dsimp -implicitDefEqProofs only [go_sem, Nat.reduceBEq, Nat.reduceAdd, Nat.reduceLeDiff, Nat.reduceSub, Int.reduceEq, initE, bl3])
    refine ifB'.of (fun hc0 => ?_) (fun hc0 => ?_)
    rotate_left
    · repeat' (first | exact rc_no hg fun cs h => hc0 (by have := hW1 cs h; omega) | with_reducible refine ask.of (by first | omega | decide) ?_ | simp -dsimp -implicitDefEqProofs only [go_sem, Nat.reduceBEq, Nat.reduceAdd, Nat.reduceLeDiff, Nat.reduceSub, Int.reduceEq, initE, bl3])
    repeat (first | with_reducible refine ask.of (by first | omega | decide) ?_ | simp -dsimp -implicitDefEqProofs only [go_sem, Nat.reduceBEq, Nat.reduceAdd, Nat.reduceLeDiff, Nat.reduceSub, Int.reduceEq, initE, bl3])
    refine ifB'.of (fun hc1 => ?_) (fun hc1 => ?_)
    rotate_left
    · repeat' (first | exact rc_no hg fun cs h => hc1 (by have e9 := hW2 cs h; have e8 := h.1; rw [e9, List.length_map]; exact e8) | with_reducible refine ask.of (by first | omega | decide) ?_ | simp -dsimp -implicitDefEqProofs only [go_sem, Nat.reduceBEq, Nat.reduceAdd, Nat.reduceLeDiff, Nat.reduceSub, Int.reduceEq, initE, bl3])
    replace hsz := hsz (by omega)
    repeat (first | with_reducible refine ask.of (by first | omega | decide) ?_ | simp -dsimp -implicitDefEqProofs only [go_sem, Nat.reduceBEq, Nat.reduceAdd, Nat.reduceLeDiff, Nat.reduceSub, Int.reduceEq, initE, bl3, it012, bs_at (show 0 < bs.length by omega)])
    refine ifB'.of (fun hv0 => ?_) (fun hv0 => ?_)
    · repeat (first | with_reducible refine ask.of (by first | omega | decide) ?_ | simp -dsimp -implicitDefEqProofs only [go_sem, Nat.reduceBEq, Nat.reduceAdd, Nat.reduceLeDiff, Nat.reduceSub, Int.reduceEq, initE, bl3, it012, bs_at (show 0 < bs.length by omega)])
      refine CallE.of (hU) (by rintro r rfl; (repeat' first | exact trivial | exact pure_rowB _ | exact pure_rowO _ | exact pure_rowI _ | exact pure_rowBB _ | exact pure_rowPk _ _ | exact pure_rowSn _ _ | exact pure_rowFd _ _ | exact pure_rowBBB _ | exact pure_rowCl _ _ | exact pure_rowTb _ _ _ | refine And.intro ?_ ?_)) (by simp -dsimp -implicitDefEqProofs only [go_sem, Nat.reduceBEq, Nat.reduceAdd, Nat.reduceLeDiff, Nat.reduceSub, Int.reduceEq]) ?_
      rintro r rfl
      simp -dsimp -implicitDefEqProofs only [go_sem, Nat.reduceBEq, Nat.reduceAdd, Nat.reduceLeDiff, Nat.reduceSub, Int.reduceEq]
      have hV : ∀ cs, rdOf f n bs vs cs → unpackC (bs.getD 0 []) n = (thereL cs, 0) := fun cs h => by
        obtain ⟨_, g1, g2, _⟩ := rd_parts h
        rcases valid_cases cs with ⟨g3, _⟩ | ⟨_, g4⟩
        · rw [g2, g3] at hv0; exact absurd hv0 (by decide)
        · rw [g1, g2]; exact g4
      have hUl := unpackC_ok (b := bs.getD 0 []) (n := n)
      generalize unpackC (bs.getD 0 []) n = u at *
      obtain ⟨ts, tc⟩ := u
      simp only at hUl
      repeat (first | with_reducible refine ask.of (by first | omega | decide) ?_ | simp -dsimp -implicitDefEqProofs only [go_sem, Nat.reduceBEq, Nat.reduceAdd, Nat.reduceLeDiff, Nat.reduceSub, Int.reduceEq, initE, bl3])
      refine ifB'.of (fun hc2 => ?_) (fun hc2 => ?_)
      rotate_left
      · repeat' (first | exact rc_no hg fun cs h => hc2 (by have e9 := hV cs h; simp only [Prod.mk.injEq] at e9; omega) | with_reducible refine ask.of (by first | omega | decide) ?_ | simp -dsimp -implicitDefEqProofs only [go_sem, Nat.reduceBEq, Nat.reduceAdd, Nat.reduceLeDiff, Nat.reduceSub, Int.reduceEq, initE, bl3])
      have htl : ts.length = cs0.length := by have := (hUl (by omega)).1; omega
      repeat (first | with_reducible refine ask.of (by first | omega | decide) ?_ | simp -dsimp -implicitDefEqProofs only [go_sem, Nat.reduceBEq, Nat.reduceAdd, Nat.reduceLeDiff, Nat.reduceSub, Int.reduceEq, initE, bl3])
      refine LoopE.cnt ts.length (fun i s => s.env 2 = .rd .ent 22 1 (ra byC bs) ∧ s.env 3 = .rd .ent 22 1 (ra byC vs) ∧ s.env 4 = .ptr [4] 0 0 0 ∧ s.env 11 = .ref [51, 0] ∧ s.env 77 = .ref [72, 0] ∧ s.env 78 = .v (.int .i64 ts.length) ∧ s.env 79 = .v (.int .i64 i) ∧
        s.σ [4] = some (.box 84 [.rd .ent 5 1 (bytesA f.f), .v (.int .i64 f.k), .v (.int .i64 f.w)]) ∧ s.σ [72, 0] = some (.row 4 1 (ra boolC ts)) ∧ s.σ [51, 0] = some (.row 145 3 (ra clC (mkPre (nlF ts cs0) cs0 i)))) ⟨by simp -dsimp -implicitDefEqProofs only [go_sem, Nat.reduceBEq, Nat.reduceAdd, Nat.reduceLeDiff, Nat.reduceSub, Int.reduceEq, initE], by simp -dsimp -implicitDefEqProofs only [go_sem, Nat.reduceBEq, Nat.reduceAdd, Nat.reduceLeDiff, Nat.reduceSub, Int.reduceEq, initE], by simp -dsimp -implicitDefEqProofs only [go_sem, Nat.reduceBEq, Nat.reduceAdd, Nat.reduceLeDiff, Nat.reduceSub, Int.reduceEq], by simp -dsimp -implicitDefEqProofs only [go_sem, Nat.reduceBEq, Nat.reduceAdd, Nat.reduceLeDiff, Nat.reduceSub, Int.reduceEq], by simp -dsimp -implicitDefEqProofs only [go_sem, Nat.reduceBEq, Nat.reduceAdd, Nat.reduceLeDiff, Nat.reduceSub, Int.reduceEq], by simp -dsimp -implicitDefEqProofs only [go_sem, Nat.reduceBEq, Nat.reduceAdd, Nat.reduceLeDiff, Nat.reduceSub, Int.reduceEq], by simp -dsimp -implicitDefEqProofs only [go_sem, Nat.reduceBEq, Nat.reduceAdd, Nat.reduceLeDiff, Nat.reduceSub, Int.reduceEq] <;> rfl, by simp -dsimp -implicitDefEqProofs only [go_sem, Nat.reduceBEq, Nat.reduceAdd, Nat.reduceLeDiff, Nat.reduceSub, Int.reduceEq, initE], by simp -dsimp -implicitDefEqProofs only [go_sem, Nat.reduceBEq, Nat.reduceAdd, Nat.reduceLeDiff, Nat.reduceSub, Int.reduceEq], by simp -dsimp -implicitDefEqProofs only [go_sem, Nat.reduceBEq, Nat.reduceAdd, Nat.reduceLeDiff, Nat.reduceSub, Int.reduceEq, mkPre_zero]⟩ ?_
      rintro i ⟨e, σ⟩ hi ⟨g2, g3, g4, g11, g77, g78, g79, s4, s72, s51⟩ K hK
      simp only at g2 g3 g4 g11 g77 g78 g79 s4 s72 s51
      simp -dsimp -implicitDefEqProofs only [go_sem, Nat.reduceBEq, Nat.reduceAdd, Nat.reduceLeDiff, Nat.reduceSub, Int.reduceEq, g2, g3, g4, g11, g77, g78, g79, s4, s72, s51]
      refine ifB'.of (fun hlt => ?_) (fun hlt => ?_)
      · have hlt : i < ts.length := by omega
        have hlt0 : i < cs0.length := by omega
        have hml := mkPre_length (nlF ts cs0) (show i ≤ cs0.length by omega)
        have hma : (ra clC (mkPre (nlF ts cs0) cs0 i))[i]? = some (clC cs0[i]) := ra_at' (mkPre_at _ hlt0)
        have htd : ts.getD i true = ts[i] := by simp [List.getD, hlt]
        have hcd : cs0.getD i cl0 = cs0[i] := by simp [List.getD, hlt0]
        repeat (first | with_reducible refine ask.of (by first | omega | decide) ?_ | simp -dsimp -implicitDefEqProofs only [go_sem, Nat.reduceBEq, Nat.reduceAdd, Nat.reduceLeDiff, Nat.reduceSub, Int.reduceEq, g2, g3, g4, g11, g77, g78, g79, s4, s72, s51, boolA_at hlt, bl3])
        cases hz : ts[i]
        · have hNo : ¬ nlOk f cs0[i] → ∀ cs, ¬ rdOf f n bs vs cs := fun h cs hc => h (nl_good hc (hW2 cs hc) hlt0 (by have e9 := hV cs hc; simp only [Prod.mk.injEq] at e9; rw [← e9.1]; simp [hlt, hz]))
          have hF : nlF ts cs0 i = ⟨true, 0, []⟩ := by rw [nlF, htd, hz]; rfl
          have hset : (ra clC (mkPre (nlF ts cs0) cs0 i)).set i [.v (.bool true), .v (.int .i64 0), .row 5 1 []] = ra clC (mkPre (nlF ts cs0) cs0 (i + 1)) := by
            rw [show ([AV.v (.bool true), .v (.int .i64 0), .row 5 1 []] : List AV) = clC ⟨true, 0, []⟩ from rfl, ra_set, mkPre_set _ _ hlt0 hF.symm]
          repeat' (first | with_reducible refine ask.of (by first | omega | decide) ?_ | ((with_reducible refine ifB'.of (fun h => ?_) (fun h => ?_)) <;> first | (exfalso; omega) | skip) | exact rc_no hg (hNo (by unfold nlOk; omega)) | simp -dsimp -implicitDefEqProofs only [go_sem, Nat.reduceBEq, Nat.reduceAdd, Nat.reduceLeDiff, Nat.reduceSub, Int.reduceEq, g2, g3, g4, g11, g77, g78, g79, s4, s72, s51, hz, Bool.not_false, hma, clC, bl3, hml, ra_length])
          all_goals
            refine hK _ hlt ?_
            simp -dsimp -implicitDefEqProofs only [go_sem, Nat.reduceBEq, Nat.reduceAdd, Nat.reduceLeDiff, Nat.reduceSub, Int.reduceEq, g2, g3, g4, g11, g77, g78, g79, s4, s72, s51, wrap_succ (show i < 4611686018427387904 by omega), hset]
        · have hF : cs0[i] = nlF ts cs0 i := by rw [nlF, htd, hz, if_pos rfl, hcd]
          repeat (first | with_reducible refine ask.of (by first | omega | decide) ?_ | simp -dsimp -implicitDefEqProofs only [go_sem, Nat.reduceBEq, Nat.reduceAdd, Nat.reduceLeDiff, Nat.reduceSub, Int.reduceEq, g2, g3, g4, g11, g77, g78, g79, s4, s72, s51, hz, Bool.not_true, bl3])
          refine hK _ hlt ?_
          simp -dsimp -implicitDefEqProofs only [go_sem, Nat.reduceBEq, Nat.reduceAdd, Nat.reduceLeDiff, Nat.reduceSub, Int.reduceEq, g2, g3, g4, g11, g77, g78, g79, s4, s72, s51, wrap_succ (show i < 4611686018427387904 by omega), mkPre_keep _ hlt0 hF]
      · have hie : i = cs0.length := by omega
        subst hie
        rw [mkPre_full] at s51
        have hcl1 : ((List.range cs0.length).map (nlF ts cs0)).length = cs0.length := by simp
        have hcw1 := nl_sz ts cs0
        have hcr1 := nl_rng (ts := ts) hrg
        have hce1 : ∀ cs, rdOf f n bs vs cs → (List.range cs0.length).map (nlF ts cs0) = cs := fun cs h => by have e9 := hV cs h; simp only [Prod.mk.injEq] at e9; rw [e9.1]; exact nl_back h (hW2 cs h)
        generalize (List.range cs0.length).map (nlF ts cs0) = cs1 at *
        repeat (first | with_reducible refine ask.of (by first | omega | decide) ?_ | simp -dsimp -implicitDefEqProofs only [go_sem, Nat.reduceBEq, Nat.reduceAdd, Nat.reduceLeDiff, Nat.reduceSub, Int.reduceEq, g2, g3, g4, g11, g77, g78, g79, s4, s72, s51, initE, bl3])
        refine CallE.of (c_implBuildColumn f cs1 vs hf (by omega) hcr1 (by omega)) (by rintro r rfl; (repeat' first | exact trivial | exact pure_rowB _ | exact pure_rowO _ | exact pure_rowI _ | exact pure_rowBB _ | exact pure_rowPk _ _ | exact pure_rowSn _ _ | exact pure_rowFd _ _ | exact pure_rowBBB _ | exact pure_rowCl _ _ | exact pure_rowTb _ _ _ | refine And.intro ?_ ?_)) (by simp -dsimp -implicitDefEqProofs only [go_sem, Nat.reduceBEq, Nat.reduceAdd, Nat.reduceLeDiff, Nat.reduceSub, Int.reduceEq, g2, g3, g4, g11, g77, g78, g79, s4, s72, s51, fdC, rowCl]) ?_
        rintro r rfl
        simp -dsimp -implicitDefEqProofs only [go_sem, Nat.reduceBEq, Nat.reduceAdd, Nat.reduceLeDiff, Nat.reduceSub, Int.reduceEq, g2, g3, g4, g11, g77, g78, g79, s4, s72, s51, fdC, rowCl]
        unfold resB
        have hY : ∀ y, bldL f cs1 vs = y → y.2 = 0 ∧ y.1 = bs → rdOf f n bs vs cs1 := fun y hy h => ⟨(by omega), hcr1, by rw [hy, ← h.1, ← h.2]⟩
        have hN : ∀ y, bldL f cs1 vs = y → ¬ (y.2 = 0 ∧ y.1 = bs) → ∀ cs, ¬ rdOf f n bs vs cs := fun y hy h cs hc => by
          have e := hce1 cs hc
          have h9 := hc.2.2
          rw [← e, hy] at h9
          exact h ⟨by rw [h9], by rw [h9]⟩
        have hT := bldL_Q (f := f) (cs := cs1) (vs := vs) (by omega)
        generalize bldL f cs1 vs = y at *
        replace hY := hY y rfl
        replace hN := hN y rfl
        obtain ⟨yb, yc⟩ := y
        simp only at hY hN hT
        repeat (first | with_reducible refine ask.of (by first | omega | decide) ?_ | simp -dsimp -implicitDefEqProofs only [go_sem, Nat.reduceBEq, Nat.reduceAdd, Nat.reduceLeDiff, Nat.reduceSub, Int.reduceEq, g2, g3, g4, g11, g77, g78, g79, s4, s72, s51, initE, bl3])
        refine ifB'.of (fun hc => ?_) (fun hc => ?_)
        rotate_left
        · repeat' (first | exact rc_no hg (hN fun h => hc h.1) | with_reducible refine ask.of (by first | omega | decide) ?_ | simp -dsimp -implicitDefEqProofs only [go_sem, Nat.reduceBEq, Nat.reduceAdd, Nat.reduceLeDiff, Nat.reduceSub, Int.reduceEq, g2, g3, g4, g11, g77, g78, g79, s4, s72, s51, initE, bl3])
        repeat (first | with_reducible refine ask.of (by first | omega | decide) ?_ | simp -dsimp -implicitDefEqProofs only [go_sem, Nat.reduceBEq, Nat.reduceAdd, Nat.reduceLeDiff, Nat.reduceSub, Int.reduceEq, g2, g3, g4, g11, g77, g78, g79, s4, s72, s51, initE, bl3])
        refine CallE.of (c_equalFuncBB yb bs (by omega) (by omega) (fun b h => by have := hT.2 b h; omega) (fun b h => by have := hbb b h; omega)) (by rintro r rfl; (repeat' first | exact trivial | exact pure_rowB _ | exact pure_rowO _ | exact pure_rowI _ | exact pure_rowBB _ | exact pure_rowPk _ _ | exact pure_rowSn _ _ | exact pure_rowFd _ _ | exact pure_rowBBB _ | exact pure_rowCl _ _ | exact pure_rowTb _ _ _ | refine And.intro ?_ ?_)) (by simp -dsimp -implicitDefEqProofs only [go_sem, Nat.reduceBEq, Nat.reduceAdd, Nat.reduceLeDiff, Nat.reduceSub, Int.reduceEq, g2, g3, g4, g11, g77, g78, g79, s4, s72, s51]) ?_
        rintro r rfl
        simp -dsimp -implicitDefEqProofs only [go_sem, Nat.reduceBEq, Nat.reduceAdd, Nat.reduceLeDiff, Nat.reduceSub, Int.reduceEq, g2, g3, g4, g11, g77, g78, g79, s4, s72, s51]
        by_cases hq : yb = bs
        · repeat (first | with_reducible refine ask.of (by first | omega | decide) ?_ | simp -dsimp -implicitDefEqProofs only [go_sem, Nat.reduceBEq, Nat.reduceAdd, Nat.reduceLeDiff, Nat.reduceSub, Int.reduceEq, g2, g3, g4, g11, g77, g78, g79, s4, s72, s51, initE, bl3, decide_eq_true hq, Bool.not_true])
          exact rc_yes hg hbb (hY ⟨hc, hq⟩)
        · repeat (first | with_reducible refine ask.of (by first | omega | decide) ?_ | simp -dsimp -implicitDefEqProofs only [go_sem, Nat.reduceBEq, Nat.reduceAdd, Nat.reduceLeDiff, Nat.reduceSub, Int.reduceEq, g2, g3, g4, g11, g77, g78, g79, s4, s72, s51, initE, bl3, decide_eq_false hq, Bool.not_false])
          exact rc_no hg (hN fun h => hq h.2)
    · have hce0 : ∀ cs, rdOf f n bs vs cs → cs0 = cs := fun cs h => by
        obtain ⟨_, g1, g2, _⟩ := rd_parts h
        rcases valid_cases cs with ⟨_, g4⟩ | ⟨g3, _⟩
        · exact nl_all h (hW2 cs h) g4
        · rw [g2] at hv0; exact absurd (by omega) hv0
      repeat (first | with_reducible refine ask.of (by first | omega | decide) ?_ | simp -dsimp -implicitDefEqProofs only [go_sem, Nat.reduceBEq, Nat.reduceAdd, Nat.reduceLeDiff, Nat.reduceSub, Int.reduceEq, initE, bl3])
      refine CallE.of (c_implBuildColumn f cs0 vs hf (by omega) hrg (by omega)) (by rintro r rfl; (repeat' first | exact trivial | exact pure_rowB _ | exact pure_rowO _ | exact pure_rowI _ | exact pure_rowBB _ | exact pure_rowPk _ _ | exact pure_rowSn _ _ | exact pure_rowFd _ _ | exact pure_rowBBB _ | exact pure_rowCl _ _ | exact pure_rowTb _ _ _ | refine And.intro ?_ ?_)) (by simp -dsimp -implicitDefEqProofs only [go_sem, Nat.reduceBEq, Nat.reduceAdd, Nat.reduceLeDiff, Nat.reduceSub, Int.reduceEq, fdC, rowCl]) ?_
      rintro r rfl
      simp -dsimp -implicitDefEqProofs only [go_sem, Nat.reduceBEq, Nat.reduceAdd, Nat.reduceLeDiff, Nat.reduceSub, Int.reduceEq, fdC, rowCl]
      unfold resB
      have hY : ∀ y, bldL f cs0 vs = y → y.2 = 0 ∧ y.1 = bs → rdOf f n bs vs cs0 := fun y hy h => ⟨hc1, hrg, by rw [hy, ← h.1, ← h.2]⟩
      have hN : ∀ y, bldL f cs0 vs = y → ¬ (y.2 = 0 ∧ y.1 = bs) → ∀ cs, ¬ rdOf f n bs vs cs := fun y hy h cs hc => by
        have e := hce0 cs hc
        have h9 := hc.2.2
        rw [← e, hy] at h9
        exact h ⟨by rw [h9], by rw [h9]⟩
      have hT := bldL_Q (f := f) (cs := cs0) (vs := vs) (by omega)
      generalize bldL f cs0 vs = y at *
      replace hY := hY y rfl
      replace hN := hN y rfl
      obtain ⟨yb, yc⟩ := y
      simp only at hY hN hT
      repeat (first | with_reducible refine ask.of (by first | omega | decide) ?_ | simp -dsimp -implicitDefEqProofs only [go_sem, Nat.reduceBEq, Nat.reduceAdd, Nat.reduceLeDiff, Nat.reduceSub, Int.reduceEq, initE, bl3])
      refine ifB'.of (fun hc => ?_) (fun hc => ?_)
      rotate_left
      · repeat' (first | exact rc_no hg (hN fun h => hc h.1) | with_reducible refine ask.of (by first | omega | decide) ?_ | simp -dsimp -implicitDefEqProofs only [go_sem, Nat.reduceBEq, Nat.reduceAdd, Nat.reduceLeDiff, Nat.reduceSub, Int.reduceEq, initE, bl3])
      repeat (first | with_reducible refine ask.of (by first | omega | decide) ?_ | simp -dsimp -implicitDefEqProofs only [go_sem, Nat.reduceBEq, Nat.reduceAdd, Nat.reduceLeDiff, Nat.reduceSub, Int.reduceEq, initE, bl3])
      refine CallE.of (c_equalFuncBB yb bs (by omega) (by omega) (fun b h => by have := hT.2 b h; omega) (fun b h => by have := hbb b h; omega)) (by rintro r rfl; (repeat' first | exact trivial | exact pure_rowB _ | exact pure_rowO _ | exact pure_rowI _ | exact pure_rowBB _ | exact pure_rowPk _ _ | exact pure_rowSn _ _ | exact pure_rowFd _ _ | exact pure_rowBBB _ | exact pure_rowCl _ _ | exact pure_rowTb _ _ _ | refine And.intro ?_ ?_)) (by simp -dsimp -implicitDefEqProofs only [go_sem, Nat.reduceBEq, Nat.reduceAdd, Nat.reduceLeDiff, Nat.reduceSub, Int.reduceEq]) ?_
      rintro r rfl
      simp -dsimp -implicitDefEqProofs only [go_sem, Nat.reduceBEq, Nat.reduceAdd, Nat.reduceLeDiff, Nat.reduceSub, Int.reduceEq]
      by_cases hq : yb = bs
      · repeat (first | with_reducible refine ask.of (by first | omega | decide) ?_ | simp -dsimp -implicitDefEqProofs only [go_sem, Nat.reduceBEq, Nat.reduceAdd, Nat.reduceLeDiff, Nat.reduceSub, Int.reduceEq, initE, bl3, decide_eq_true hq, Bool.not_true])
        exact rc_yes hg hbb (hY ⟨hc, hq⟩)
      · repeat (first | with_reducible refine ask.of (by first | omega | decide) ?_ | simp -dsimp -implicitDefEqProofs only [go_sem, Nat.reduceBEq, Nat.reduceAdd, Nat.reduceLeDiff, Nat.reduceSub, Int.reduceEq, initE, bl3, decide_eq_false hq, Bool.not_false])
        exact rc_no hg (hN fun h => hq h.2)
  · rw [if_neg (by omega), if_neg (by omega), if_pos hk] at hB
    have hwn : wantN f = 3 := by unfold wantN; rw [if_pos hk]
    refine CallE.lend (hB) (by simp -dsimp -implicitDefEqProofs only [go_sem, Nat.reduceBEq, Nat.reduceAdd, Nat.reduceLeDiff, Nat.reduceSub, Int.reduceEq]) ?_
    rintro r rfl
    simp -dsimp -implicitDefEqProofs only [go_sem, Nat.reduceBEq, Nat.reduceAdd, Nat.reduceLeDiff, Nat.reduceSub, Int.reduceEq]
    repeat (first | with_reducible refine ask.of (by first | omega | decide) ?_ | simp -dsimp -implicitDefEqProofs only [go_sem, Nat.reduceBEq, Nat.reduceAdd, Nat.reduceLeDiff, Nat.reduceSub, Int.reduceEq, initE, bl3])
    refine CallI.of (c_parts_texts) (by rintro r rfl; (repeat' first | exact trivial | exact pure_rowB _ | exact pure_rowO _ | exact pure_rowI _ | exact pure_rowBB _ | exact pure_rowPk _ _ | exact pure_rowSn _ _ | exact pure_rowFd _ _ | exact pure_rowBBB _ | exact pure_rowCl _ _ | exact pure_rowTb _ _ _ | refine And.intro ?_ ?_)) (by simp -dsimp -implicitDefEqProofs only [go_sem, Nat.reduceBEq, Nat.reduceAdd, Nat.reduceLeDiff, Nat.reduceSub, Int.reduceEq, parP_texts, cty_texts]) ?_
    rintro r rfl
    simp -dsimp -implicitDefEqProofs only [go_sem, Nat.reduceBEq, Nat.reduceAdd, Nat.reduceLeDiff, Nat.reduceSub, Int.reduceEq, parP_texts, cty_texts]
    repeat (first | with_reducible refine ask.of (by first | omega | decide) ?_ | simp -dsimp -implicitDefEqProofs only [go_sem, Nat.reduceBEq, Nat.reduceAdd, Nat.reduceLeDiff, Nat.reduceSub, Int.reduceEq, initE, bl3, i11])
    refine ifB'.of (fun hl => ?_) (fun hl => ?_)
    rotate_left
    · repeat (first | with_reducible refine ask.of (by first | omega | decide) ?_ | simp -dsimp -implicitDefEqProofs only [go_sem, Nat.reduceBEq, Nat.reduceAdd, Nat.reduceLeDiff, Nat.reduceSub, Int.reduceEq, initE, bl3])
      exact rc_no hg fun cs h => hl (by have := (rd_parts h).2.2.2.2.2; omega)
    have hd1 : 0 < (bs.drop 1).length := by rw [List.length_drop]; omega
    have hd2 : 1 < (bs.drop 1).length := by rw [List.length_drop]; omega
    have hR0 := c_textsRead n (bs.drop 1) hd2 (by rw [dr_at0 hd1]; exact bs_le hbb 1) (by rw [dr_at1 hd2]; exact bs_le hbb 2)
    rw [dr_at0 hd1, dr_at1 hd2] at hR0
    obtain ⟨cs0, cd, hR, hW1, hW2, hrg, hsz⟩ : ∃ (cs0 : List Cl) (cd : Nat), Meets Try.prog 225 [.agg [], .v (.int .i64 n), rowBB (bs.drop 1)] (fun r => r = .tup [rowCl 145 cs0, .v (.int .i64 cd)]) ∧ (∀ cs, rdOf f n bs vs cs → cd = 0) ∧ (∀ cs, rdOf f n bs vs cs → cs0 = cs.map (rawN f vs)) ∧ (∀ c ∈ cs0, i64r c.i) ∧ (cs0.length ≤ 100 → cs0.length + szL clW cs0 ≤ 1048576) := by
      by_cases hq : (unpackIC (bs.getD 1 []) 4).2 = 0 ∧ (cutL (unpackIC (bs.getD 1 []) 4).1 (bs.getD 2 [])).2 = true
      · rw [if_pos hq] at hR0
        refine ⟨_, 0, hR0, fun _ _ => rfl, fun cs h => (raw_texts hk hg hbb h).2.2, fun c hc => ?_, fun _ => by have q1 := cutL_len (unpackIC (bs.getD 1 []) 4).1 (bs.getD 2 []); have q2 := unpackIC_len (bs.getD 1 []) 4; have q3 := cut_sz (xs := (unpackIC (bs.getD 1 []) 4).1) (b := bs.getD 2 []); have q4 := two_le bs; omega⟩
        by_cases hco : cutOk (unpackIC (bs.getD 1 []) 4).1 (bs.getD 2 []).length
        · rw [cutL_yes hco] at hc
          obtain ⟨j, _, rfl⟩ := List.mem_map.1 (show c ∈ cutP _ _ _ from hc)
          show i64r 0
          exact ⟨by decide, by decide⟩
        · rw [cutL_no hco] at hc; cases hc
      · rw [if_neg hq] at hR0
        exact ⟨[], 3, hR0, fun cs h => absurd ⟨(raw_texts hk hg hbb h).1, (raw_texts hk hg hbb h).2.1⟩ hq, fun cs h => absurd ⟨(raw_texts hk hg hbb h).1, (raw_texts hk hg hbb h).2.1⟩ hq, fun c hc => (by cases hc), fun _ => (by decide)⟩
    repeat (first | with_reducible refine ask.of (by first | omega | decide) ?_ | simp -dsimp -implicitDefEqProofs only [go_sem, Nat.reduceBEq, Nat.reduceAdd, Nat.reduceLeDiff, Nat.reduceSub, Int.reduceEq, initE, bl3, it012, List.take_length])
    intro v0
    repeat (first | with_reducible refine ask.of (by first | omega | decide) ?_ | simp -dsimp -implicitDefEqProofs only [go_sem, Nat.reduceBEq, Nat.reduceAdd, Nat.reduceLeDiff, Nat.reduceSub, Int.reduceEq, initE, bl3, it012, List.take_length])
    refine CallI.of (hR) (by rintro r rfl; (repeat' first | exact trivial | exact pure_rowB _ | exact pure_rowO _ | exact pure_rowI _ | exact pure_rowBB _ | exact pure_rowPk _ _ | exact pure_rowSn _ _ | exact pure_rowFd _ _ | exact pure_rowBBB _ | exact pure_rowCl _ _ | exact pure_rowTb _ _ _ | refine And.intro ?_ ?_)) (by simp -dsimp -implicitDefEqProofs only [go_sem, Nat.reduceBEq, Nat.reduceAdd, Nat.reduceLeDiff, Nat.reduceSub, Int.reduceEq, parR_texts, cty_texts, rowCl]) ?_
    rintro r rfl
    simp -dsimp -implicitDefEqProofs only [go_sem, Nat.reduceBEq, Nat.reduceAdd, Nat.reduceLeDiff, Nat.reduceSub, Int.reduceEq, parR_texts, cty_texts, rowCl]
    repeat (first | with_reducible refine ask.of (by first | omega | decide) ?_ | simp -dsimp -implicitDefEqProofs only [go_sem, Nat.reduceBEq, Nat.reduceAdd, Nat.reduceLeDiff, Nat.reduceSub, Int.reduceEq, initE, bl3])
    refine ifB'.of (fun hc0 => ?_) (fun hc0 => ?_)
    rotate_left
    · repeat' (first | exact rc_no hg fun cs h => hc0 (by have := hW1 cs h; omega) | with_reducible refine ask.of (by first | omega | decide) ?_ | simp -dsimp -implicitDefEqProofs only [go_sem, Nat.reduceBEq, Nat.reduceAdd, Nat.reduceLeDiff, Nat.reduceSub, Int.reduceEq, initE, bl3])
    repeat (first | with_reducible refine ask.of (by first | omega | decide) ?_ | simp -dsimp -implicitDefEqProofs only [go_sem, Nat.reduceBEq, Nat.reduceAdd, Nat.reduceLeDiff, Nat.reduceSub, Int.reduceEq, initE, bl3])
    refine ifB'.of (fun hc1 => ?_) (fun hc1 => ?_)
    rotate_left
    · repeat' (first | exact rc_no hg fun cs h => hc1 (by have e9 := hW2 cs h; have e8 := h.1; rw [e9, List.length_map]; exact e8) | with_reducible refine ask.of (by first | omega | decide) ?_ | simp -dsimp -implicitDefEqProofs only [go_sem, Nat.reduceBEq, Nat.reduceAdd, Nat.reduceLeDiff, Nat.reduceSub, Int.reduceEq, initE, bl3])
    replace hsz := hsz (by omega)
    repeat (first | with_reducible refine ask.of (by first | omega | decide) ?_ | simp -dsimp -implicitDefEqProofs only [go_sem, Nat.reduceBEq, Nat.reduceAdd, Nat.reduceLeDiff, Nat.reduceSub, Int.reduceEq, initE, bl3, it012, bs_at (show 0 < bs.length by omega)])
    refine ifB'.of (fun hv0 => ?_) (fun hv0 => ?_)
    · repeat (first | with_reducible refine ask.of (by first | omega | decide) ?_ | simp -dsimp -implicitDefEqProofs only [go_sem, Nat.reduceBEq, Nat.reduceAdd, Nat.reduceLeDiff, Nat.reduceSub, Int.reduceEq, initE, bl3, it012, bs_at (show 0 < bs.length by omega)])
      refine CallE.of (hU) (by rintro r rfl; (repeat' first | exact trivial | exact pure_rowB _ | exact pure_rowO _ | exact pure_rowI _ | exact pure_rowBB _ | exact pure_rowPk _ _ | exact pure_rowSn _ _ | exact pure_rowFd _ _ | exact pure_rowBBB _ | exact pure_rowCl _ _ | exact pure_rowTb _ _ _ | refine And.intro ?_ ?_)) (by simp -dsimp -implicitDefEqProofs only [go_sem, Nat.reduceBEq, Nat.reduceAdd, Nat.reduceLeDiff, Nat.reduceSub, Int.reduceEq]) ?_
      rintro r rfl
      simp -dsimp -implicitDefEqProofs only [go_sem, Nat.reduceBEq, Nat.reduceAdd, Nat.reduceLeDiff, Nat.reduceSub, Int.reduceEq]
      have hV : ∀ cs, rdOf f n bs vs cs → unpackC (bs.getD 0 []) n = (thereL cs, 0) := fun cs h => by
        obtain ⟨_, g1, g2, _⟩ := rd_parts h
        rcases valid_cases cs with ⟨g3, _⟩ | ⟨_, g4⟩
        · rw [g2, g3] at hv0; exact absurd hv0 (by decide)
        · rw [g1, g2]; exact g4
      have hUl := unpackC_ok (b := bs.getD 0 []) (n := n)
      generalize unpackC (bs.getD 0 []) n = u at *
      obtain ⟨ts, tc⟩ := u
      simp only at hUl
      repeat (first | with_reducible refine ask.of (by first | omega | decide) ?_ | simp -dsimp -implicitDefEqProofs only [go_sem, Nat.reduceBEq, Nat.reduceAdd, Nat.reduceLeDiff, Nat.reduceSub, Int.reduceEq, initE, bl3])
      refine ifB'.of (fun hc2 => ?_) (fun hc2 => ?_)
      rotate_left
      · repeat' (first | exact rc_no hg fun cs h => hc2 (by have e9 := hV cs h; simp only [Prod.mk.injEq] at e9; omega) | with_reducible refine ask.of (by first | omega | decide) ?_ | simp -dsimp -implicitDefEqProofs only [go_sem, Nat.reduceBEq, Nat.reduceAdd, Nat.reduceLeDiff, Nat.reduceSub, Int.reduceEq, initE, bl3])
      have htl : ts.length = cs0.length := by have := (hUl (by omega)).1; omega
      repeat (first | with_reducible refine ask.of (by first | omega | decide) ?_ | simp -dsimp -implicitDefEqProofs only [go_sem, Nat.reduceBEq, Nat.reduceAdd, Nat.reduceLeDiff, Nat.reduceSub, Int.reduceEq, initE, bl3])
      refine LoopE.cnt ts.length (fun i s => s.env 2 = .rd .ent 22 1 (ra byC bs) ∧ s.env 3 = .rd .ent 22 1 (ra byC vs) ∧ s.env 4 = .ptr [4] 0 0 0 ∧ s.env 11 = .ref [51, 0] ∧ s.env 77 = .ref [72, 0] ∧ s.env 78 = .v (.int .i64 ts.length) ∧ s.env 79 = .v (.int .i64 i) ∧
        s.σ [4] = some (.box 84 [.rd .ent 5 1 (bytesA f.f), .v (.int .i64 f.k), .v (.int .i64 f.w)]) ∧ s.σ [72, 0] = some (.row 4 1 (ra boolC ts)) ∧ s.σ [51, 0] = some (.row 145 3 (ra clC (mkPre (nlF ts cs0) cs0 i)))) ⟨by simp -dsimp -implicitDefEqProofs only [go_sem, Nat.reduceBEq, Nat.reduceAdd, Nat.reduceLeDiff, Nat.reduceSub, Int.reduceEq, initE], by simp -dsimp -implicitDefEqProofs only [go_sem, Nat.reduceBEq, Nat.reduceAdd, Nat.reduceLeDiff, Nat.reduceSub, Int.reduceEq, initE], by simp -dsimp -implicitDefEqProofs only [go_sem, Nat.reduceBEq, Nat.reduceAdd, Nat.reduceLeDiff, Nat.reduceSub, Int.reduceEq], by simp -dsimp -implicitDefEqProofs only [go_sem, Nat.reduceBEq, Nat.reduceAdd, Nat.reduceLeDiff, Nat.reduceSub, Int.reduceEq], by simp -dsimp -implicitDefEqProofs only [go_sem, Nat.reduceBEq, Nat.reduceAdd, Nat.reduceLeDiff, Nat.reduceSub, Int.reduceEq], by simp -dsimp -implicitDefEqProofs only [go_sem, Nat.reduceBEq, Nat.reduceAdd, Nat.reduceLeDiff, Nat.reduceSub, Int.reduceEq], by simp -dsimp -implicitDefEqProofs only [go_sem, Nat.reduceBEq, Nat.reduceAdd, Nat.reduceLeDiff, Nat.reduceSub, Int.reduceEq] <;> rfl, by simp -dsimp -implicitDefEqProofs only [go_sem, Nat.reduceBEq, Nat.reduceAdd, Nat.reduceLeDiff, Nat.reduceSub, Int.reduceEq, initE], by simp -dsimp -implicitDefEqProofs only [go_sem, Nat.reduceBEq, Nat.reduceAdd, Nat.reduceLeDiff, Nat.reduceSub, Int.reduceEq], by simp -dsimp -implicitDefEqProofs only [go_sem, Nat.reduceBEq, Nat.reduceAdd, Nat.reduceLeDiff, Nat.reduceSub, Int.reduceEq, mkPre_zero]⟩ ?_
      rintro i ⟨e, σ⟩ hi ⟨g2, g3, g4, g11, g77, g78, g79, s4, s72, s51⟩ K hK
      simp only at g2 g3 g4 g11 g77 g78 g79 s4 s72 s51
      simp -dsimp -implicitDefEqProofs only [go_sem, Nat.reduceBEq, Nat.reduceAdd, Nat.reduceLeDiff, Nat.reduceSub, Int.reduceEq, g2, g3, g4, g11, g77, g78, g79, s4, s72, s51]
      refine ifB'.of (fun hlt => ?_) (fun hlt => ?_)
      · have hlt : i < ts.length := by omega
        have hlt0 : i < cs0.length := by omega
        have hml := mkPre_length (nlF ts cs0) (show i ≤ cs0.length by omega)
        have hma : (ra clC (mkPre (nlF ts cs0) cs0 i))[i]? = some (clC cs0[i]) := ra_at' (mkPre_at _ hlt0)
        have htd : ts.getD i true = ts[i] := by simp [List.getD, hlt]
        have hcd : cs0.getD i cl0 = cs0[i] := by simp [List.getD, hlt0]
        repeat (first | with_reducible refine ask.of (by first | omega | decide) ?_ | simp -dsimp -implicitDefEqProofs only [go_sem, Nat.reduceBEq, Nat.reduceAdd, Nat.reduceLeDiff, Nat.reduceSub, Int.reduceEq, g2, g3, g4, g11, g77, g78, g79, s4, s72, s51, boolA_at hlt, bl3])
        cases hz : ts[i]
        · have hNo : ¬ nlOk f cs0[i] → ∀ cs, ¬ rdOf f n bs vs cs := fun h cs hc => h (nl_good hc (hW2 cs hc) hlt0 (by have e9 := hV cs hc; simp only [Prod.mk.injEq] at e9; rw [← e9.1]; simp [hlt, hz]))
          have hF : nlF ts cs0 i = ⟨true, 0, []⟩ := by rw [nlF, htd, hz]; rfl
          have hset : (ra clC (mkPre (nlF ts cs0) cs0 i)).set i [.v (.bool true), .v (.int .i64 0), .row 5 1 []] = ra clC (mkPre (nlF ts cs0) cs0 (i + 1)) := by
            rw [show ([AV.v (.bool true), .v (.int .i64 0), .row 5 1 []] : List AV) = clC ⟨true, 0, []⟩ from rfl, ra_set, mkPre_set _ _ hlt0 hF.symm]
          repeat' (first | with_reducible refine ask.of (by first | omega | decide) ?_ | ((with_reducible refine ifB'.of (fun h => ?_) (fun h => ?_)) <;> first | (exfalso; omega) | skip) | exact rc_no hg (hNo (by unfold nlOk; omega)) | simp -dsimp -implicitDefEqProofs only [go_sem, Nat.reduceBEq, Nat.reduceAdd, Nat.reduceLeDiff, Nat.reduceSub, Int.reduceEq, g2, g3, g4, g11, g77, g78, g79, s4, s72, s51, hz, Bool.not_false, hma, clC, bl3, hml, ra_length])
          all_goals
            refine hK _ hlt ?_
            simp -dsimp -implicitDefEqProofs only [go_sem, Nat.reduceBEq, Nat.reduceAdd, Nat.reduceLeDiff, Nat.reduceSub, Int.reduceEq, g2, g3, g4, g11, g77, g78, g79, s4, s72, s51, wrap_succ (show i < 4611686018427387904 by omega), hset]
        · have hF : cs0[i] = nlF ts cs0 i := by rw [nlF, htd, hz, if_pos rfl, hcd]
          repeat (first | with_reducible refine ask.of (by first | omega | decide) ?_ | simp -dsimp -implicitDefEqProofs only [go_sem, Nat.reduceBEq, Nat.reduceAdd, Nat.reduceLeDiff, Nat.reduceSub, Int.reduceEq, g2, g3, g4, g11, g77, g78, g79, s4, s72, s51, hz, Bool.not_true, bl3])
          refine hK _ hlt ?_
          simp -dsimp -implicitDefEqProofs only [go_sem, Nat.reduceBEq, Nat.reduceAdd, Nat.reduceLeDiff, Nat.reduceSub, Int.reduceEq, g2, g3, g4, g11, g77, g78, g79, s4, s72, s51, wrap_succ (show i < 4611686018427387904 by omega), mkPre_keep _ hlt0 hF]
      · have hie : i = cs0.length := by omega
        subst hie
        rw [mkPre_full] at s51
        have hcl1 : ((List.range cs0.length).map (nlF ts cs0)).length = cs0.length := by simp
        have hcw1 := nl_sz ts cs0
        have hcr1 := nl_rng (ts := ts) hrg
        have hce1 : ∀ cs, rdOf f n bs vs cs → (List.range cs0.length).map (nlF ts cs0) = cs := fun cs h => by have e9 := hV cs h; simp only [Prod.mk.injEq] at e9; rw [e9.1]; exact nl_back h (hW2 cs h)
        generalize (List.range cs0.length).map (nlF ts cs0) = cs1 at *
        repeat (first | with_reducible refine ask.of (by first | omega | decide) ?_ | simp -dsimp -implicitDefEqProofs only [go_sem, Nat.reduceBEq, Nat.reduceAdd, Nat.reduceLeDiff, Nat.reduceSub, Int.reduceEq, g2, g3, g4, g11, g77, g78, g79, s4, s72, s51, initE, bl3])
        refine CallE.of (c_implBuildColumn f cs1 vs hf (by omega) hcr1 (by omega)) (by rintro r rfl; (repeat' first | exact trivial | exact pure_rowB _ | exact pure_rowO _ | exact pure_rowI _ | exact pure_rowBB _ | exact pure_rowPk _ _ | exact pure_rowSn _ _ | exact pure_rowFd _ _ | exact pure_rowBBB _ | exact pure_rowCl _ _ | exact pure_rowTb _ _ _ | refine And.intro ?_ ?_)) (by simp -dsimp -implicitDefEqProofs only [go_sem, Nat.reduceBEq, Nat.reduceAdd, Nat.reduceLeDiff, Nat.reduceSub, Int.reduceEq, g2, g3, g4, g11, g77, g78, g79, s4, s72, s51, fdC, rowCl]) ?_
        rintro r rfl
        simp -dsimp -implicitDefEqProofs only [go_sem, Nat.reduceBEq, Nat.reduceAdd, Nat.reduceLeDiff, Nat.reduceSub, Int.reduceEq, g2, g3, g4, g11, g77, g78, g79, s4, s72, s51, fdC, rowCl]
        unfold resB
        have hY : ∀ y, bldL f cs1 vs = y → y.2 = 0 ∧ y.1 = bs → rdOf f n bs vs cs1 := fun y hy h => ⟨(by omega), hcr1, by rw [hy, ← h.1, ← h.2]⟩
        have hN : ∀ y, bldL f cs1 vs = y → ¬ (y.2 = 0 ∧ y.1 = bs) → ∀ cs, ¬ rdOf f n bs vs cs := fun y hy h cs hc => by
          have e := hce1 cs hc
          have h9 := hc.2.2
          rw [← e, hy] at h9
          exact h ⟨by rw [h9], by rw [h9]⟩
        have hT := bldL_Q (f := f) (cs := cs1) (vs := vs) (by omega)
        generalize bldL f cs1 vs = y at *
        replace hY := hY y rfl
        replace hN := hN y rfl
        obtain ⟨yb, yc⟩ := y
        simp only at hY hN hT
        repeat (first | with_reducible refine ask.of (by first | omega | decide) ?_ | simp -dsimp -implicitDefEqProofs only [go_sem, Nat.reduceBEq, Nat.reduceAdd, Nat.reduceLeDiff, Nat.reduceSub, Int.reduceEq, g2, g3, g4, g11, g77, g78, g79, s4, s72, s51, initE, bl3])
        refine ifB'.of (fun hc => ?_) (fun hc => ?_)
        rotate_left
        · repeat' (first | exact rc_no hg (hN fun h => hc h.1) | with_reducible refine ask.of (by first | omega | decide) ?_ | simp -dsimp -implicitDefEqProofs only [go_sem, Nat.reduceBEq, Nat.reduceAdd, Nat.reduceLeDiff, Nat.reduceSub, Int.reduceEq, g2, g3, g4, g11, g77, g78, g79, s4, s72, s51, initE, bl3])
        repeat (first | with_reducible refine ask.of (by first | omega | decide) ?_ | simp -dsimp -implicitDefEqProofs only [go_sem, Nat.reduceBEq, Nat.reduceAdd, Nat.reduceLeDiff, Nat.reduceSub, Int.reduceEq, g2, g3, g4, g11, g77, g78, g79, s4, s72, s51, initE, bl3])
        refine CallE.of (c_equalFuncBB yb bs (by omega) (by omega) (fun b h => by have := hT.2 b h; omega) (fun b h => by have := hbb b h; omega)) (by rintro r rfl; (repeat' first | exact trivial | exact pure_rowB _ | exact pure_rowO _ | exact pure_rowI _ | exact pure_rowBB _ | exact pure_rowPk _ _ | exact pure_rowSn _ _ | exact pure_rowFd _ _ | exact pure_rowBBB _ | exact pure_rowCl _ _ | exact pure_rowTb _ _ _ | refine And.intro ?_ ?_)) (by simp -dsimp -implicitDefEqProofs only [go_sem, Nat.reduceBEq, Nat.reduceAdd, Nat.reduceLeDiff, Nat.reduceSub, Int.reduceEq, g2, g3, g4, g11, g77, g78, g79, s4, s72, s51]) ?_
        rintro r rfl
        simp -dsimp -implicitDefEqProofs only [go_sem, Nat.reduceBEq, Nat.reduceAdd, Nat.reduceLeDiff, Nat.reduceSub, Int.reduceEq, g2, g3, g4, g11, g77, g78, g79, s4, s72, s51]
        by_cases hq : yb = bs
        · repeat (first | with_reducible refine ask.of (by first | omega | decide) ?_ | simp -dsimp -implicitDefEqProofs only [go_sem, Nat.reduceBEq, Nat.reduceAdd, Nat.reduceLeDiff, Nat.reduceSub, Int.reduceEq, g2, g3, g4, g11, g77, g78, g79, s4, s72, s51, initE, bl3, decide_eq_true hq, Bool.not_true])
          exact rc_yes hg hbb (hY ⟨hc, hq⟩)
        · repeat (first | with_reducible refine ask.of (by first | omega | decide) ?_ | simp -dsimp -implicitDefEqProofs only [go_sem, Nat.reduceBEq, Nat.reduceAdd, Nat.reduceLeDiff, Nat.reduceSub, Int.reduceEq, g2, g3, g4, g11, g77, g78, g79, s4, s72, s51, initE, bl3, decide_eq_false hq, Bool.not_false])
          exact rc_no hg (hN fun h => hq h.2)
    · have hce0 : ∀ cs, rdOf f n bs vs cs → cs0 = cs := fun cs h => by
        obtain ⟨_, g1, g2, _⟩ := rd_parts h
        rcases valid_cases cs with ⟨_, g4⟩ | ⟨g3, _⟩
        · exact nl_all h (hW2 cs h) g4
        · rw [g2] at hv0; exact absurd (by omega) hv0
      repeat (first | with_reducible refine ask.of (by first | omega | decide) ?_ | simp -dsimp -implicitDefEqProofs only [go_sem, Nat.reduceBEq, Nat.reduceAdd, Nat.reduceLeDiff, Nat.reduceSub, Int.reduceEq, initE, bl3])
      refine CallE.of (c_implBuildColumn f cs0 vs hf (by omega) hrg (by omega)) (by rintro r rfl; (repeat' first | exact trivial | exact pure_rowB _ | exact pure_rowO _ | exact pure_rowI _ | exact pure_rowBB _ | exact pure_rowPk _ _ | exact pure_rowSn _ _ | exact pure_rowFd _ _ | exact pure_rowBBB _ | exact pure_rowCl _ _ | exact pure_rowTb _ _ _ | refine And.intro ?_ ?_)) (by simp -dsimp -implicitDefEqProofs only [go_sem, Nat.reduceBEq, Nat.reduceAdd, Nat.reduceLeDiff, Nat.reduceSub, Int.reduceEq, fdC, rowCl]) ?_
      rintro r rfl
      simp -dsimp -implicitDefEqProofs only [go_sem, Nat.reduceBEq, Nat.reduceAdd, Nat.reduceLeDiff, Nat.reduceSub, Int.reduceEq, fdC, rowCl]
      unfold resB
      have hY : ∀ y, bldL f cs0 vs = y → y.2 = 0 ∧ y.1 = bs → rdOf f n bs vs cs0 := fun y hy h => ⟨hc1, hrg, by rw [hy, ← h.1, ← h.2]⟩
      have hN : ∀ y, bldL f cs0 vs = y → ¬ (y.2 = 0 ∧ y.1 = bs) → ∀ cs, ¬ rdOf f n bs vs cs := fun y hy h cs hc => by
        have e := hce0 cs hc
        have h9 := hc.2.2
        rw [← e, hy] at h9
        exact h ⟨by rw [h9], by rw [h9]⟩
      have hT := bldL_Q (f := f) (cs := cs0) (vs := vs) (by omega)
      generalize bldL f cs0 vs = y at *
      replace hY := hY y rfl
      replace hN := hN y rfl
      obtain ⟨yb, yc⟩ := y
      simp only at hY hN hT
      repeat (first | with_reducible refine ask.of (by first | omega | decide) ?_ | simp -dsimp -implicitDefEqProofs only [go_sem, Nat.reduceBEq, Nat.reduceAdd, Nat.reduceLeDiff, Nat.reduceSub, Int.reduceEq, initE, bl3])
      refine ifB'.of (fun hc => ?_) (fun hc => ?_)
      rotate_left
      · repeat' (first | exact rc_no hg (hN fun h => hc h.1) | with_reducible refine ask.of (by first | omega | decide) ?_ | simp -dsimp -implicitDefEqProofs only [go_sem, Nat.reduceBEq, Nat.reduceAdd, Nat.reduceLeDiff, Nat.reduceSub, Int.reduceEq, initE, bl3])
      repeat (first | with_reducible refine ask.of (by first | omega | decide) ?_ | simp -dsimp -implicitDefEqProofs only [go_sem, Nat.reduceBEq, Nat.reduceAdd, Nat.reduceLeDiff, Nat.reduceSub, Int.reduceEq, initE, bl3])
      refine CallE.of (c_equalFuncBB yb bs (by omega) (by omega) (fun b h => by have := hT.2 b h; omega) (fun b h => by have := hbb b h; omega)) (by rintro r rfl; (repeat' first | exact trivial | exact pure_rowB _ | exact pure_rowO _ | exact pure_rowI _ | exact pure_rowBB _ | exact pure_rowPk _ _ | exact pure_rowSn _ _ | exact pure_rowFd _ _ | exact pure_rowBBB _ | exact pure_rowCl _ _ | exact pure_rowTb _ _ _ | refine And.intro ?_ ?_)) (by simp -dsimp -implicitDefEqProofs only [go_sem, Nat.reduceBEq, Nat.reduceAdd, Nat.reduceLeDiff, Nat.reduceSub, Int.reduceEq]) ?_
      rintro r rfl
      simp -dsimp -implicitDefEqProofs only [go_sem, Nat.reduceBEq, Nat.reduceAdd, Nat.reduceLeDiff, Nat.reduceSub, Int.reduceEq]
      by_cases hq : yb = bs
      · repeat (first | with_reducible refine ask.of (by first | omega | decide) ?_ | simp -dsimp -implicitDefEqProofs only [go_sem, Nat.reduceBEq, Nat.reduceAdd, Nat.reduceLeDiff, Nat.reduceSub, Int.reduceEq, initE, bl3, decide_eq_true hq, Bool.not_true])
        exact rc_yes hg hbb (hY ⟨hc, hq⟩)
      · repeat (first | with_reducible refine ask.of (by first | omega | decide) ?_ | simp -dsimp -implicitDefEqProofs only [go_sem, Nat.reduceBEq, Nat.reduceAdd, Nat.reduceLeDiff, Nat.reduceSub, Int.reduceEq, initE, bl3, decide_eq_false hq, Bool.not_false])
        exact rc_no hg (hN fun h => hq h.2)
  · rw [if_neg (by omega), if_neg (by omega), if_neg (by omega)] at hB
    have hwn : wantN f = 2 := by unfold wantN; rw [if_neg (by omega)]
    refine CallE.lend (hB) (by simp -dsimp -implicitDefEqProofs only [go_sem, Nat.reduceBEq, Nat.reduceAdd, Nat.reduceLeDiff, Nat.reduceSub, Int.reduceEq]) ?_
    rintro r rfl
    simp -dsimp -implicitDefEqProofs only [go_sem, Nat.reduceBEq, Nat.reduceAdd, Nat.reduceLeDiff, Nat.reduceSub, Int.reduceEq]
    repeat (first | with_reducible refine ask.of (by first | omega | decide) ?_ | simp -dsimp -implicitDefEqProofs only [go_sem, Nat.reduceBEq, Nat.reduceAdd, Nat.reduceLeDiff, Nat.reduceSub, Int.reduceEq, initE, bl3])
    refine CallI.of (c_parts_places vs) (by rintro r rfl; (repeat' first | exact trivial | exact pure_rowB _ | exact pure_rowO _ | exact pure_rowI _ | exact pure_rowBB _ | exact pure_rowPk _ _ | exact pure_rowSn _ _ | exact pure_rowFd _ _ | exact pure_rowBBB _ | exact pure_rowCl _ _ | exact pure_rowTb _ _ _ | refine And.intro ?_ ?_)) (by simp -dsimp -implicitDefEqProofs only [go_sem, Nat.reduceBEq, Nat.reduceAdd, Nat.reduceLeDiff, Nat.reduceSub, Int.reduceEq, parP_places, cty_places]) ?_
    rintro r rfl
    simp -dsimp -implicitDefEqProofs only [go_sem, Nat.reduceBEq, Nat.reduceAdd, Nat.reduceLeDiff, Nat.reduceSub, Int.reduceEq, parP_places, cty_places]
    repeat (first | with_reducible refine ask.of (by first | omega | decide) ?_ | simp -dsimp -implicitDefEqProofs only [go_sem, Nat.reduceBEq, Nat.reduceAdd, Nat.reduceLeDiff, Nat.reduceSub, Int.reduceEq, initE, bl3, i11])
    refine ifB'.of (fun hl => ?_) (fun hl => ?_)
    rotate_left
    · repeat (first | with_reducible refine ask.of (by first | omega | decide) ?_ | simp -dsimp -implicitDefEqProofs only [go_sem, Nat.reduceBEq, Nat.reduceAdd, Nat.reduceLeDiff, Nat.reduceSub, Int.reduceEq, initE, bl3])
      exact rc_no hg fun cs h => hl (by have := (rd_parts h).2.2.2.2.2; omega)
    have hd1 : 0 < (bs.drop 1).length := by rw [List.length_drop]; omega
    have hR0 := c_placesRead vs n (bs.drop 1) hd1 (by rw [dr_at0 hd1]; exact bs_le hbb 1) (by omega) hvb
    rw [dr_at0 hd1] at hR0
    obtain ⟨cs0, cd, hR, hW1, hW2, hrg, hsz⟩ : ∃ (cs0 : List Cl) (cd : Nat), Meets Try.prog 229 [.agg [.row 22 1 (ra byC vs)], .v (.int .i64 n), rowBB (bs.drop 1)] (fun r => r = .tup [rowCl 145 cs0, .v (.int .i64 cd)]) ∧ (∀ cs, rdOf f n bs vs cs → cd = 0) ∧ (∀ cs, rdOf f n bs vs cs → cs0 = cs.map (rawN f vs)) ∧ (∀ c ∈ cs0, i64r c.i) ∧ (cs0.length ≤ 100 → cs0.length + szL clW cs0 ≤ 1048576) := by
      have hW := fun cs (h : rdOf f n bs vs cs) => raw_places (cs := cs) hk h
      have h4000 : ∀ b ∈ vs, b.length ≤ 4000 := fun b h => by have := mem_wBB h; have := h2.2.1; omega
      by_cases hq : ∀ x ∈ (unpackIC (bs.getD 1 []) 1).1, plGood vs x
      · rw [plL_yes _ hq] at hR0 hW
        refine ⟨(unpackIC (bs.getD 1 []) 1).1.map (plRaw vs), (unpackIC (bs.getD 1 []) 1).2, hR0, fun cs h => by have := (hW cs h).1; simpa using this, fun cs h => (hW cs h).2, fun c hc => ?_, fun hl => ?_⟩
        · obtain ⟨x, _, rfl⟩ := List.mem_map.1 hc
          show i64r 0
          exact ⟨by decide, by decide⟩
        · have := szL_bd (sz := clW) (m := 4000) _ (fun c (hc : c ∈ (unpackIC (bs.getD 1 []) 1).1.map (plRaw vs)) => by
            obtain ⟨x, _, rfl⟩ := List.mem_map.1 hc
            show (if _ then vs.getD x.toNat [] else []).length ≤ 4000
            split
            · rename_i hx
              have hxl : x.toNat < vs.length := by omega
              have : vs.getD x.toNat [] = vs[x.toNat] := by simp [List.getD, hxl]
              rw [this]; exact h4000 _ (List.getElem_mem _)
            · exact Nat.zero_le _)
          omega
      · rw [plL_no _ hq] at hR0 hW
        exact ⟨[], 3, hR0, fun cs h => absurd (hW cs h).1 (by decide), fun cs h => absurd (hW cs h).1 (by decide), fun c hc => (by cases hc), fun _ => (by decide)⟩
    repeat (first | with_reducible refine ask.of (by first | omega | decide) ?_ | simp -dsimp -implicitDefEqProofs only [go_sem, Nat.reduceBEq, Nat.reduceAdd, Nat.reduceLeDiff, Nat.reduceSub, Int.reduceEq, initE, bl3, it012, List.take_length])
    intro v0
    repeat (first | with_reducible refine ask.of (by first | omega | decide) ?_ | simp -dsimp -implicitDefEqProofs only [go_sem, Nat.reduceBEq, Nat.reduceAdd, Nat.reduceLeDiff, Nat.reduceSub, Int.reduceEq, initE, bl3, it012, List.take_length])
    refine CallI.of (hR) (by rintro r rfl; (repeat' first | exact trivial | exact pure_rowB _ | exact pure_rowO _ | exact pure_rowI _ | exact pure_rowBB _ | exact pure_rowPk _ _ | exact pure_rowSn _ _ | exact pure_rowFd _ _ | exact pure_rowBBB _ | exact pure_rowCl _ _ | exact pure_rowTb _ _ _ | refine And.intro ?_ ?_)) (by simp -dsimp -implicitDefEqProofs only [go_sem, Nat.reduceBEq, Nat.reduceAdd, Nat.reduceLeDiff, Nat.reduceSub, Int.reduceEq, parR_places, cty_places, rowCl]) ?_
    rintro r rfl
    simp -dsimp -implicitDefEqProofs only [go_sem, Nat.reduceBEq, Nat.reduceAdd, Nat.reduceLeDiff, Nat.reduceSub, Int.reduceEq, parR_places, cty_places, rowCl]
    repeat (first | with_reducible refine ask.of (by first | omega | decide) ?_ | simp -dsimp -implicitDefEqProofs only [go_sem, Nat.reduceBEq, Nat.reduceAdd, Nat.reduceLeDiff, Nat.reduceSub, Int.reduceEq, initE, bl3])
    refine ifB'.of (fun hc0 => ?_) (fun hc0 => ?_)
    rotate_left
    · repeat' (first | exact rc_no hg fun cs h => hc0 (by have := hW1 cs h; omega) | with_reducible refine ask.of (by first | omega | decide) ?_ | simp -dsimp -implicitDefEqProofs only [go_sem, Nat.reduceBEq, Nat.reduceAdd, Nat.reduceLeDiff, Nat.reduceSub, Int.reduceEq, initE, bl3])
    repeat (first | with_reducible refine ask.of (by first | omega | decide) ?_ | simp -dsimp -implicitDefEqProofs only [go_sem, Nat.reduceBEq, Nat.reduceAdd, Nat.reduceLeDiff, Nat.reduceSub, Int.reduceEq, initE, bl3])
    refine ifB'.of (fun hc1 => ?_) (fun hc1 => ?_)
    rotate_left
    · repeat' (first | exact rc_no hg fun cs h => hc1 (by have e9 := hW2 cs h; have e8 := h.1; rw [e9, List.length_map]; exact e8) | with_reducible refine ask.of (by first | omega | decide) ?_ | simp -dsimp -implicitDefEqProofs only [go_sem, Nat.reduceBEq, Nat.reduceAdd, Nat.reduceLeDiff, Nat.reduceSub, Int.reduceEq, initE, bl3])
    replace hsz := hsz (by omega)
    repeat (first | with_reducible refine ask.of (by first | omega | decide) ?_ | simp -dsimp -implicitDefEqProofs only [go_sem, Nat.reduceBEq, Nat.reduceAdd, Nat.reduceLeDiff, Nat.reduceSub, Int.reduceEq, initE, bl3, it012, bs_at (show 0 < bs.length by omega)])
    refine ifB'.of (fun hv0 => ?_) (fun hv0 => ?_)
    · repeat (first | with_reducible refine ask.of (by first | omega | decide) ?_ | simp -dsimp -implicitDefEqProofs only [go_sem, Nat.reduceBEq, Nat.reduceAdd, Nat.reduceLeDiff, Nat.reduceSub, Int.reduceEq, initE, bl3, it012, bs_at (show 0 < bs.length by omega)])
      refine CallE.of (hU) (by rintro r rfl; (repeat' first | exact trivial | exact pure_rowB _ | exact pure_rowO _ | exact pure_rowI _ | exact pure_rowBB _ | exact pure_rowPk _ _ | exact pure_rowSn _ _ | exact pure_rowFd _ _ | exact pure_rowBBB _ | exact pure_rowCl _ _ | exact pure_rowTb _ _ _ | refine And.intro ?_ ?_)) (by simp -dsimp -implicitDefEqProofs only [go_sem, Nat.reduceBEq, Nat.reduceAdd, Nat.reduceLeDiff, Nat.reduceSub, Int.reduceEq]) ?_
      rintro r rfl
      simp -dsimp -implicitDefEqProofs only [go_sem, Nat.reduceBEq, Nat.reduceAdd, Nat.reduceLeDiff, Nat.reduceSub, Int.reduceEq]
      have hV : ∀ cs, rdOf f n bs vs cs → unpackC (bs.getD 0 []) n = (thereL cs, 0) := fun cs h => by
        obtain ⟨_, g1, g2, _⟩ := rd_parts h
        rcases valid_cases cs with ⟨g3, _⟩ | ⟨_, g4⟩
        · rw [g2, g3] at hv0; exact absurd hv0 (by decide)
        · rw [g1, g2]; exact g4
      have hUl := unpackC_ok (b := bs.getD 0 []) (n := n)
      generalize unpackC (bs.getD 0 []) n = u at *
      obtain ⟨ts, tc⟩ := u
      simp only at hUl
      repeat (first | with_reducible refine ask.of (by first | omega | decide) ?_ | simp -dsimp -implicitDefEqProofs only [go_sem, Nat.reduceBEq, Nat.reduceAdd, Nat.reduceLeDiff, Nat.reduceSub, Int.reduceEq, initE, bl3])
      refine ifB'.of (fun hc2 => ?_) (fun hc2 => ?_)
      rotate_left
      · repeat' (first | exact rc_no hg fun cs h => hc2 (by have e9 := hV cs h; simp only [Prod.mk.injEq] at e9; omega) | with_reducible refine ask.of (by first | omega | decide) ?_ | simp -dsimp -implicitDefEqProofs only [go_sem, Nat.reduceBEq, Nat.reduceAdd, Nat.reduceLeDiff, Nat.reduceSub, Int.reduceEq, initE, bl3])
      have htl : ts.length = cs0.length := by have := (hUl (by omega)).1; omega
      repeat (first | with_reducible refine ask.of (by first | omega | decide) ?_ | simp -dsimp -implicitDefEqProofs only [go_sem, Nat.reduceBEq, Nat.reduceAdd, Nat.reduceLeDiff, Nat.reduceSub, Int.reduceEq, initE, bl3])
      refine LoopE.cnt ts.length (fun i s => s.env 2 = .rd .ent 22 1 (ra byC bs) ∧ s.env 3 = .rd .ent 22 1 (ra byC vs) ∧ s.env 4 = .ptr [4] 0 0 0 ∧ s.env 11 = .ref [51, 0] ∧ s.env 77 = .ref [72, 0] ∧ s.env 78 = .v (.int .i64 ts.length) ∧ s.env 79 = .v (.int .i64 i) ∧
        s.σ [4] = some (.box 84 [.rd .ent 5 1 (bytesA f.f), .v (.int .i64 f.k), .v (.int .i64 f.w)]) ∧ s.σ [72, 0] = some (.row 4 1 (ra boolC ts)) ∧ s.σ [51, 0] = some (.row 145 3 (ra clC (mkPre (nlF ts cs0) cs0 i)))) ⟨by simp -dsimp -implicitDefEqProofs only [go_sem, Nat.reduceBEq, Nat.reduceAdd, Nat.reduceLeDiff, Nat.reduceSub, Int.reduceEq, initE], by simp -dsimp -implicitDefEqProofs only [go_sem, Nat.reduceBEq, Nat.reduceAdd, Nat.reduceLeDiff, Nat.reduceSub, Int.reduceEq, initE], by simp -dsimp -implicitDefEqProofs only [go_sem, Nat.reduceBEq, Nat.reduceAdd, Nat.reduceLeDiff, Nat.reduceSub, Int.reduceEq], by simp -dsimp -implicitDefEqProofs only [go_sem, Nat.reduceBEq, Nat.reduceAdd, Nat.reduceLeDiff, Nat.reduceSub, Int.reduceEq], by simp -dsimp -implicitDefEqProofs only [go_sem, Nat.reduceBEq, Nat.reduceAdd, Nat.reduceLeDiff, Nat.reduceSub, Int.reduceEq], by simp -dsimp -implicitDefEqProofs only [go_sem, Nat.reduceBEq, Nat.reduceAdd, Nat.reduceLeDiff, Nat.reduceSub, Int.reduceEq], by simp -dsimp -implicitDefEqProofs only [go_sem, Nat.reduceBEq, Nat.reduceAdd, Nat.reduceLeDiff, Nat.reduceSub, Int.reduceEq] <;> rfl, by simp -dsimp -implicitDefEqProofs only [go_sem, Nat.reduceBEq, Nat.reduceAdd, Nat.reduceLeDiff, Nat.reduceSub, Int.reduceEq, initE], by simp -dsimp -implicitDefEqProofs only [go_sem, Nat.reduceBEq, Nat.reduceAdd, Nat.reduceLeDiff, Nat.reduceSub, Int.reduceEq], by simp -dsimp -implicitDefEqProofs only [go_sem, Nat.reduceBEq, Nat.reduceAdd, Nat.reduceLeDiff, Nat.reduceSub, Int.reduceEq, mkPre_zero]⟩ ?_
      rintro i ⟨e, σ⟩ hi ⟨g2, g3, g4, g11, g77, g78, g79, s4, s72, s51⟩ K hK
      simp only at g2 g3 g4 g11 g77 g78 g79 s4 s72 s51
      simp -dsimp -implicitDefEqProofs only [go_sem, Nat.reduceBEq, Nat.reduceAdd, Nat.reduceLeDiff, Nat.reduceSub, Int.reduceEq, g2, g3, g4, g11, g77, g78, g79, s4, s72, s51]
      refine ifB'.of (fun hlt => ?_) (fun hlt => ?_)
      · have hlt : i < ts.length := by omega
        have hlt0 : i < cs0.length := by omega
        have hml := mkPre_length (nlF ts cs0) (show i ≤ cs0.length by omega)
        have hma : (ra clC (mkPre (nlF ts cs0) cs0 i))[i]? = some (clC cs0[i]) := ra_at' (mkPre_at _ hlt0)
        have htd : ts.getD i true = ts[i] := by simp [List.getD, hlt]
        have hcd : cs0.getD i cl0 = cs0[i] := by simp [List.getD, hlt0]
        repeat (first | with_reducible refine ask.of (by first | omega | decide) ?_ | simp -dsimp -implicitDefEqProofs only [go_sem, Nat.reduceBEq, Nat.reduceAdd, Nat.reduceLeDiff, Nat.reduceSub, Int.reduceEq, g2, g3, g4, g11, g77, g78, g79, s4, s72, s51, boolA_at hlt, bl3])
        cases hz : ts[i]
        · have hNo : ¬ nlOk f cs0[i] → ∀ cs, ¬ rdOf f n bs vs cs := fun h cs hc => h (nl_good hc (hW2 cs hc) hlt0 (by have e9 := hV cs hc; simp only [Prod.mk.injEq] at e9; rw [← e9.1]; simp [hlt, hz]))
          have hF : nlF ts cs0 i = ⟨true, 0, []⟩ := by rw [nlF, htd, hz]; rfl
          have hset : (ra clC (mkPre (nlF ts cs0) cs0 i)).set i [.v (.bool true), .v (.int .i64 0), .row 5 1 []] = ra clC (mkPre (nlF ts cs0) cs0 (i + 1)) := by
            rw [show ([AV.v (.bool true), .v (.int .i64 0), .row 5 1 []] : List AV) = clC ⟨true, 0, []⟩ from rfl, ra_set, mkPre_set _ _ hlt0 hF.symm]
          repeat' (first | with_reducible refine ask.of (by first | omega | decide) ?_ | ((with_reducible refine ifB'.of (fun h => ?_) (fun h => ?_)) <;> first | (exfalso; omega) | skip) | exact rc_no hg (hNo (by unfold nlOk; omega)) | simp -dsimp -implicitDefEqProofs only [go_sem, Nat.reduceBEq, Nat.reduceAdd, Nat.reduceLeDiff, Nat.reduceSub, Int.reduceEq, g2, g3, g4, g11, g77, g78, g79, s4, s72, s51, hz, Bool.not_false, hma, clC, bl3, hml, ra_length])
          all_goals
            refine hK _ hlt ?_
            simp -dsimp -implicitDefEqProofs only [go_sem, Nat.reduceBEq, Nat.reduceAdd, Nat.reduceLeDiff, Nat.reduceSub, Int.reduceEq, g2, g3, g4, g11, g77, g78, g79, s4, s72, s51, wrap_succ (show i < 4611686018427387904 by omega), hset]
        · have hF : cs0[i] = nlF ts cs0 i := by rw [nlF, htd, hz, if_pos rfl, hcd]
          repeat (first | with_reducible refine ask.of (by first | omega | decide) ?_ | simp -dsimp -implicitDefEqProofs only [go_sem, Nat.reduceBEq, Nat.reduceAdd, Nat.reduceLeDiff, Nat.reduceSub, Int.reduceEq, g2, g3, g4, g11, g77, g78, g79, s4, s72, s51, hz, Bool.not_true, bl3])
          refine hK _ hlt ?_
          simp -dsimp -implicitDefEqProofs only [go_sem, Nat.reduceBEq, Nat.reduceAdd, Nat.reduceLeDiff, Nat.reduceSub, Int.reduceEq, g2, g3, g4, g11, g77, g78, g79, s4, s72, s51, wrap_succ (show i < 4611686018427387904 by omega), mkPre_keep _ hlt0 hF]
      · have hie : i = cs0.length := by omega
        subst hie
        rw [mkPre_full] at s51
        have hcl1 : ((List.range cs0.length).map (nlF ts cs0)).length = cs0.length := by simp
        have hcw1 := nl_sz ts cs0
        have hcr1 := nl_rng (ts := ts) hrg
        have hce1 : ∀ cs, rdOf f n bs vs cs → (List.range cs0.length).map (nlF ts cs0) = cs := fun cs h => by have e9 := hV cs h; simp only [Prod.mk.injEq] at e9; rw [e9.1]; exact nl_back h (hW2 cs h)
        generalize (List.range cs0.length).map (nlF ts cs0) = cs1 at *
        repeat (first | with_reducible refine ask.of (by first | omega | decide) ?_ | simp -dsimp -implicitDefEqProofs only [go_sem, Nat.reduceBEq, Nat.reduceAdd, Nat.reduceLeDiff, Nat.reduceSub, Int.reduceEq, g2, g3, g4, g11, g77, g78, g79, s4, s72, s51, initE, bl3])
        refine CallE.of (c_implBuildColumn f cs1 vs hf (by omega) hcr1 (by omega)) (by rintro r rfl; (repeat' first | exact trivial | exact pure_rowB _ | exact pure_rowO _ | exact pure_rowI _ | exact pure_rowBB _ | exact pure_rowPk _ _ | exact pure_rowSn _ _ | exact pure_rowFd _ _ | exact pure_rowBBB _ | exact pure_rowCl _ _ | exact pure_rowTb _ _ _ | refine And.intro ?_ ?_)) (by simp -dsimp -implicitDefEqProofs only [go_sem, Nat.reduceBEq, Nat.reduceAdd, Nat.reduceLeDiff, Nat.reduceSub, Int.reduceEq, g2, g3, g4, g11, g77, g78, g79, s4, s72, s51, fdC, rowCl]) ?_
        rintro r rfl
        simp -dsimp -implicitDefEqProofs only [go_sem, Nat.reduceBEq, Nat.reduceAdd, Nat.reduceLeDiff, Nat.reduceSub, Int.reduceEq, g2, g3, g4, g11, g77, g78, g79, s4, s72, s51, fdC, rowCl]
        unfold resB
        have hY : ∀ y, bldL f cs1 vs = y → y.2 = 0 ∧ y.1 = bs → rdOf f n bs vs cs1 := fun y hy h => ⟨(by omega), hcr1, by rw [hy, ← h.1, ← h.2]⟩
        have hN : ∀ y, bldL f cs1 vs = y → ¬ (y.2 = 0 ∧ y.1 = bs) → ∀ cs, ¬ rdOf f n bs vs cs := fun y hy h cs hc => by
          have e := hce1 cs hc
          have h9 := hc.2.2
          rw [← e, hy] at h9
          exact h ⟨by rw [h9], by rw [h9]⟩
        have hT := bldL_Q (f := f) (cs := cs1) (vs := vs) (by omega)
        generalize bldL f cs1 vs = y at *
        replace hY := hY y rfl
        replace hN := hN y rfl
        obtain ⟨yb, yc⟩ := y
        simp only at hY hN hT
        repeat (first | with_reducible refine ask.of (by first | omega | decide) ?_ | simp -dsimp -implicitDefEqProofs only [go_sem, Nat.reduceBEq, Nat.reduceAdd, Nat.reduceLeDiff, Nat.reduceSub, Int.reduceEq, g2, g3, g4, g11, g77, g78, g79, s4, s72, s51, initE, bl3])
        refine ifB'.of (fun hc => ?_) (fun hc => ?_)
        rotate_left
        · repeat' (first | exact rc_no hg (hN fun h => hc h.1) | with_reducible refine ask.of (by first | omega | decide) ?_ | simp -dsimp -implicitDefEqProofs only [go_sem, Nat.reduceBEq, Nat.reduceAdd, Nat.reduceLeDiff, Nat.reduceSub, Int.reduceEq, g2, g3, g4, g11, g77, g78, g79, s4, s72, s51, initE, bl3])
        repeat (first | with_reducible refine ask.of (by first | omega | decide) ?_ | simp -dsimp -implicitDefEqProofs only [go_sem, Nat.reduceBEq, Nat.reduceAdd, Nat.reduceLeDiff, Nat.reduceSub, Int.reduceEq, g2, g3, g4, g11, g77, g78, g79, s4, s72, s51, initE, bl3])
        refine CallE.of (c_equalFuncBB yb bs (by omega) (by omega) (fun b h => by have := hT.2 b h; omega) (fun b h => by have := hbb b h; omega)) (by rintro r rfl; (repeat' first | exact trivial | exact pure_rowB _ | exact pure_rowO _ | exact pure_rowI _ | exact pure_rowBB _ | exact pure_rowPk _ _ | exact pure_rowSn _ _ | exact pure_rowFd _ _ | exact pure_rowBBB _ | exact pure_rowCl _ _ | exact pure_rowTb _ _ _ | refine And.intro ?_ ?_)) (by simp -dsimp -implicitDefEqProofs only [go_sem, Nat.reduceBEq, Nat.reduceAdd, Nat.reduceLeDiff, Nat.reduceSub, Int.reduceEq, g2, g3, g4, g11, g77, g78, g79, s4, s72, s51]) ?_
        rintro r rfl
        simp -dsimp -implicitDefEqProofs only [go_sem, Nat.reduceBEq, Nat.reduceAdd, Nat.reduceLeDiff, Nat.reduceSub, Int.reduceEq, g2, g3, g4, g11, g77, g78, g79, s4, s72, s51]
        by_cases hq : yb = bs
        · repeat (first | with_reducible refine ask.of (by first | omega | decide) ?_ | simp -dsimp -implicitDefEqProofs only [go_sem, Nat.reduceBEq, Nat.reduceAdd, Nat.reduceLeDiff, Nat.reduceSub, Int.reduceEq, g2, g3, g4, g11, g77, g78, g79, s4, s72, s51, initE, bl3, decide_eq_true hq, Bool.not_true])
          exact rc_yes hg hbb (hY ⟨hc, hq⟩)
        · repeat (first | with_reducible refine ask.of (by first | omega | decide) ?_ | simp -dsimp -implicitDefEqProofs only [go_sem, Nat.reduceBEq, Nat.reduceAdd, Nat.reduceLeDiff, Nat.reduceSub, Int.reduceEq, g2, g3, g4, g11, g77, g78, g79, s4, s72, s51, initE, bl3, decide_eq_false hq, Bool.not_false])
          exact rc_no hg (hN fun h => hq h.2)
    · have hce0 : ∀ cs, rdOf f n bs vs cs → cs0 = cs := fun cs h => by
        obtain ⟨_, g1, g2, _⟩ := rd_parts h
        rcases valid_cases cs with ⟨_, g4⟩ | ⟨g3, _⟩
        · exact nl_all h (hW2 cs h) g4
        · rw [g2] at hv0; exact absurd (by omega) hv0
      repeat (first | with_reducible refine ask.of (by first | omega | decide) ?_ | simp -dsimp -implicitDefEqProofs only [go_sem, Nat.reduceBEq, Nat.reduceAdd, Nat.reduceLeDiff, Nat.reduceSub, Int.reduceEq, initE, bl3])
      refine CallE.of (c_implBuildColumn f cs0 vs hf (by omega) hrg (by omega)) (by rintro r rfl; (repeat' first | exact trivial | exact pure_rowB _ | exact pure_rowO _ | exact pure_rowI _ | exact pure_rowBB _ | exact pure_rowPk _ _ | exact pure_rowSn _ _ | exact pure_rowFd _ _ | exact pure_rowBBB _ | exact pure_rowCl _ _ | exact pure_rowTb _ _ _ | refine And.intro ?_ ?_)) (by simp -dsimp -implicitDefEqProofs only [go_sem, Nat.reduceBEq, Nat.reduceAdd, Nat.reduceLeDiff, Nat.reduceSub, Int.reduceEq, fdC, rowCl]) ?_
      rintro r rfl
      simp -dsimp -implicitDefEqProofs only [go_sem, Nat.reduceBEq, Nat.reduceAdd, Nat.reduceLeDiff, Nat.reduceSub, Int.reduceEq, fdC, rowCl]
      unfold resB
      have hY : ∀ y, bldL f cs0 vs = y → y.2 = 0 ∧ y.1 = bs → rdOf f n bs vs cs0 := fun y hy h => ⟨hc1, hrg, by rw [hy, ← h.1, ← h.2]⟩
      have hN : ∀ y, bldL f cs0 vs = y → ¬ (y.2 = 0 ∧ y.1 = bs) → ∀ cs, ¬ rdOf f n bs vs cs := fun y hy h cs hc => by
        have e := hce0 cs hc
        have h9 := hc.2.2
        rw [← e, hy] at h9
        exact h ⟨by rw [h9], by rw [h9]⟩
      have hT := bldL_Q (f := f) (cs := cs0) (vs := vs) (by omega)
      generalize bldL f cs0 vs = y at *
      replace hY := hY y rfl
      replace hN := hN y rfl
      obtain ⟨yb, yc⟩ := y
      simp only at hY hN hT
      repeat (first | with_reducible refine ask.of (by first | omega | decide) ?_ | simp -dsimp -implicitDefEqProofs only [go_sem, Nat.reduceBEq, Nat.reduceAdd, Nat.reduceLeDiff, Nat.reduceSub, Int.reduceEq, initE, bl3])
      refine ifB'.of (fun hc => ?_) (fun hc => ?_)
      rotate_left
      · repeat' (first | exact rc_no hg (hN fun h => hc h.1) | with_reducible refine ask.of (by first | omega | decide) ?_ | simp -dsimp -implicitDefEqProofs only [go_sem, Nat.reduceBEq, Nat.reduceAdd, Nat.reduceLeDiff, Nat.reduceSub, Int.reduceEq, initE, bl3])
      repeat (first | with_reducible refine ask.of (by first | omega | decide) ?_ | simp -dsimp -implicitDefEqProofs only [go_sem, Nat.reduceBEq, Nat.reduceAdd, Nat.reduceLeDiff, Nat.reduceSub, Int.reduceEq, initE, bl3])
      refine CallE.of (c_equalFuncBB yb bs (by omega) (by omega) (fun b h => by have := hT.2 b h; omega) (fun b h => by have := hbb b h; omega)) (by rintro r rfl; (repeat' first | exact trivial | exact pure_rowB _ | exact pure_rowO _ | exact pure_rowI _ | exact pure_rowBB _ | exact pure_rowPk _ _ | exact pure_rowSn _ _ | exact pure_rowFd _ _ | exact pure_rowBBB _ | exact pure_rowCl _ _ | exact pure_rowTb _ _ _ | refine And.intro ?_ ?_)) (by simp -dsimp -implicitDefEqProofs only [go_sem, Nat.reduceBEq, Nat.reduceAdd, Nat.reduceLeDiff, Nat.reduceSub, Int.reduceEq]) ?_
      rintro r rfl
      simp -dsimp -implicitDefEqProofs only [go_sem, Nat.reduceBEq, Nat.reduceAdd, Nat.reduceLeDiff, Nat.reduceSub, Int.reduceEq]
      by_cases hq : yb = bs
      · repeat (first | with_reducible refine ask.of (by first | omega | decide) ?_ | simp -dsimp -implicitDefEqProofs only [go_sem, Nat.reduceBEq, Nat.reduceAdd, Nat.reduceLeDiff, Nat.reduceSub, Int.reduceEq, initE, bl3, decide_eq_true hq, Bool.not_true])
        exact rc_yes hg hbb (hY ⟨hc, hq⟩)
      · repeat (first | with_reducible refine ask.of (by first | omega | decide) ?_ | simp -dsimp -implicitDefEqProofs only [go_sem, Nat.reduceBEq, Nat.reduceAdd, Nat.reduceLeDiff, Nat.reduceSub, Int.reduceEq, initE, bl3, decide_eq_false hq, Bool.not_false])
        exact rc_no hg (hN fun h => hq h.2)
end Go.Ev
set_option linter.unusedSimpArgs false
set_option linter.unusedVariables false
namespace Go.Ev
open Go Go.RowKit Go.Proofs
def cellsB (f : Fd) (cs : List Cl) : Prop := fdOk f ∧ cs.length ≤ 100 ∧ ∀ c ∈ cs, clOk f c
instance (f : Fd) (cs : List Cl) : Decidable (cellsB f cs) := by unfold cellsB; infer_instance
theorem cs_f {f : Fd} {cs : List Cl} [Decidable (cellsB f cs)] (h : ¬ cellsB f cs) : false = decide (cellsB f cs) := (decide_eq_false h).symm
set_option maxRecDepth 8000 in
theorem c_l2cellsOK (f : Fd) (cs : List Cl) (hf : f.f.length ≤ 1048576) (hx : cs.length ≤ 1048576) (hb : ∀ c ∈ cs, c.f.length ≤ 1048576) : Meets Try.prog 119 [.agg (fdC f), rowCl 145 cs] (fun r => r = .v (.bool (decide (cellsB f cs)))) := by
  refine Meets.introO mixed (hint []) (fun k => (sel (k == 6) [0,1,2,3,4,5,6] [])) Try.func119 rfl (by decide) res_119 rty_119 (by kernel_rfl) ?_; 
  simp -dsimp -implicitDefEqProofs only [go_sem, Nat.reduceBEq, Nat.reduceAdd, Nat.reduceLeDiff, Nat.reduceSub, Int.reduceEq, fdC, rowCl]
  repeat (first | with_reducible refine ask.of (by first | omega | decide) ?_ | simp -dsimp -implicitDefEqProofs only [go_sem, Nat.reduceBEq, Nat.reduceAdd, Nat.reduceLeDiff, Nat.reduceSub, Int.reduceEq, initE, rowCl, bl3])
  refine CallE.of (c_l2fieldOK f hf) (by rintro r rfl; (repeat' first | exact trivial | exact pure_rowB _ | exact pure_rowO _ | exact pure_rowI _ | exact pure_rowBB _ | exact pure_rowPk _ _ | exact pure_rowSn _ _ | exact pure_rowFd _ _ | exact pure_rowBBB _ | exact pure_rowCl _ _ | exact pure_rowTb _ _ _ | refine And.intro ?_ ?_)) (by simp -dsimp -implicitDefEqProofs only [go_sem, Nat.reduceBEq, Nat.reduceAdd, Nat.reduceLeDiff, Nat.reduceSub, Int.reduceEq, fdC]) ?_
  rintro r rfl
  simp -dsimp -implicitDefEqProofs only [go_sem, Nat.reduceBEq, Nat.reduceAdd, Nat.reduceLeDiff, Nat.reduceSub, Int.reduceEq, fdC]
  by_cases h1 : fdOk f
  · repeat (first | with_reducible refine ask.of (by first | omega | decide) ?_ | simp -dsimp -implicitDefEqProofs only [go_sem, Nat.reduceBEq, Nat.reduceAdd, Nat.reduceLeDiff, Nat.reduceSub, Int.reduceEq, decide_eq_true h1, Bool.not_true, initE, rowCl, bl3])
    refine ifB'.of (fun h2 => ?_) (fun h2 => ?_)
    · simp -dsimp -implicitDefEqProofs only [go_sem, Nat.reduceBEq, Nat.reduceAdd, Nat.reduceLeDiff, Nat.reduceSub, Int.reduceEq]
      exact cs_f fun h => by have := h.2.1; omega
    repeat (first | with_reducible refine ask.of (by first | omega | decide) ?_ | simp -dsimp -implicitDefEqProofs only [go_sem, Nat.reduceBEq, Nat.reduceAdd, Nat.reduceLeDiff, Nat.reduceSub, Int.reduceEq, initE, rowCl, bl3])
    refine LoopE.cnt cs.length (fun i s => s.env 1 = .rd .ent 145 3 (ra clC cs) ∧ s.env 2 = .ptr [2] 0 0 0 ∧ s.env 5 = .v (.int .i64 i) ∧ s.σ [2] = some (.box 84 [.rd .ent 5 1 (bytesA f.f), .v (.int .i64 f.k), .v (.int .i64 f.w)]) ∧ ∀ c ∈ cs.take i, clOk f c) ⟨by simp -dsimp -implicitDefEqProofs only [go_sem, Nat.reduceBEq, Nat.reduceAdd, Nat.reduceLeDiff, Nat.reduceSub, Int.reduceEq, initE, rowCl], by simp -dsimp -implicitDefEqProofs only [go_sem, Nat.reduceBEq, Nat.reduceAdd, Nat.reduceLeDiff, Nat.reduceSub, Int.reduceEq], by simp -dsimp -implicitDefEqProofs only [go_sem, Nat.reduceBEq, Nat.reduceAdd, Nat.reduceLeDiff, Nat.reduceSub, Int.reduceEq] <;> rfl, by simp -dsimp -implicitDefEqProofs only [go_sem, Nat.reduceBEq, Nat.reduceAdd, Nat.reduceLeDiff, Nat.reduceSub, Int.reduceEq, initE], by simp⟩ ?_
    rintro i ⟨e, σ⟩ hi ⟨g1, g2, g5, s2, hall⟩ K hK
    simp only at g1 g2 g5 s2
    simp -dsimp -implicitDefEqProofs only [go_sem, Nat.reduceBEq, Nat.reduceAdd, Nat.reduceLeDiff, Nat.reduceSub, Int.reduceEq, g1, g2, g5, s2]
    refine ifB'.of (fun hlt => ?_) (fun hlt => ?_)
    · have hlt : i < cs.length := by omega
      repeat (first | with_reducible refine ask.of (by first | omega | decide) ?_ | simp -dsimp -implicitDefEqProofs only [go_sem, Nat.reduceBEq, Nat.reduceAdd, Nat.reduceLeDiff, Nat.reduceSub, Int.reduceEq, g1, g2, g5, s2, Cl_at hlt, clC, bl3])
      refine CallE.of (c_l2cellOK f cs[i] h1 (hb _ (List.getElem_mem hlt))) (by rintro r rfl; (repeat' first | exact trivial | exact pure_rowB _ | exact pure_rowO _ | exact pure_rowI _ | exact pure_rowBB _ | exact pure_rowPk _ _ | exact pure_rowSn _ _ | exact pure_rowFd _ _ | exact pure_rowBBB _ | exact pure_rowCl _ _ | exact pure_rowTb _ _ _ | refine And.intro ?_ ?_)) (by simp -dsimp -implicitDefEqProofs only [go_sem, Nat.reduceBEq, Nat.reduceAdd, Nat.reduceLeDiff, Nat.reduceSub, Int.reduceEq, g1, g2, g5, s2, fdC, clC]) ?_
      rintro r rfl
      simp -dsimp -implicitDefEqProofs only [go_sem, Nat.reduceBEq, Nat.reduceAdd, Nat.reduceLeDiff, Nat.reduceSub, Int.reduceEq, g1, g2, g5, s2, fdC, clC]
      by_cases hc : clOk f cs[i]
      · repeat (first | with_reducible refine ask.of (by first | omega | decide) ?_ | simp -dsimp -implicitDefEqProofs only [go_sem, Nat.reduceBEq, Nat.reduceAdd, Nat.reduceLeDiff, Nat.reduceSub, Int.reduceEq, g1, g2, g5, s2, decide_eq_true hc, Bool.not_true, bl3])
        refine hK _ hlt ?_
        simp -dsimp -implicitDefEqProofs only [go_sem, Nat.reduceBEq, Nat.reduceAdd, Nat.reduceLeDiff, Nat.reduceSub, Int.reduceEq, g1, g2, g5, s2, wrap_succ (show i < 4611686018427387904 by omega)]
        intro c hcm
        rw [List.take_succ_eq_append_getElem hlt] at hcm
        rcases List.mem_append.1 hcm with hcm | hcm
        · exact hall c hcm
        · rw [List.mem_singleton.1 hcm]; exact hc
      · simp -dsimp -implicitDefEqProofs only [go_sem, Nat.reduceBEq, Nat.reduceAdd, Nat.reduceLeDiff, Nat.reduceSub, Int.reduceEq, g1, g2, g5, s2, decide_eq_false hc, Bool.not_false]
        exact cs_f fun h => hc (h.2.2 _ (List.getElem_mem hlt))
    · have : i = cs.length := by omega
      subst this
      rw [List.take_length] at hall
      simp -dsimp -implicitDefEqProofs only [go_sem, Nat.reduceBEq, Nat.reduceAdd, Nat.reduceLeDiff, Nat.reduceSub, Int.reduceEq, g1, g2, g5, s2]
      exact (decide_eq_true (show cellsB f cs from ⟨h1, by omega, hall⟩)).symm
  · simp -dsimp -implicitDefEqProofs only [go_sem, Nat.reduceBEq, Nat.reduceAdd, Nat.reduceLeDiff, Nat.reduceSub, Int.reduceEq, decide_eq_false h1, Bool.not_false]
    exact cs_f fun h => h1 h.1
theorem mem_snocB (l : List Bool) (b : Bool) : decide (false ∉ l ++ [b]) = (decide (false ∉ l) && b) := by
  cases b
  · rw [Bool.and_false]; exact decide_eq_false (by simp)
  · rw [Bool.and_true]; exact decide_eq_decide.2 (by simp)
set_option maxRecDepth 8000 in
theorem c_l2validity (cs : List Cl) (hx : cs.length ≤ 1048576) : Meets Try.prog 137 [rowCl 145 cs] (fun r => r = rowB (validB cs)) := by
  refine Meets.intro mixed (hint [(3, 260)]) Try.func137 rfl (by decide) res_137 rty_137 (by kernel_rfl) ?_; 
  simp -dsimp -implicitDefEqProofs only [go_sem, Nat.reduceBEq, Nat.reduceAdd, Nat.reduceLeDiff, Nat.reduceSub, Int.reduceEq, rowCl]
  refine LoopE.cnt cs.length (fun i s => s.env 0 = .rd .ent 145 3 (ra clC cs) ∧ s.env 3 = .ref [3] ∧ s.env 4 = .v (.bool (decide (false ∉ thereL (cs.take i)))) ∧ s.env 5 = .v (.int .i64 i) ∧ s.σ [3] = some (.row 4 1 (ra boolC (thereL (cs.take i))))) ⟨by simp -dsimp -implicitDefEqProofs only [go_sem, Nat.reduceBEq, Nat.reduceAdd, Nat.reduceLeDiff, Nat.reduceSub, Int.reduceEq, initE, rowCl], by simp -dsimp -implicitDefEqProofs only [go_sem, Nat.reduceBEq, Nat.reduceAdd, Nat.reduceLeDiff, Nat.reduceSub, Int.reduceEq], by simp -dsimp -implicitDefEqProofs only [go_sem, Nat.reduceBEq, Nat.reduceAdd, Nat.reduceLeDiff, Nat.reduceSub, Int.reduceEq] <;> rfl, by simp -dsimp -implicitDefEqProofs only [go_sem, Nat.reduceBEq, Nat.reduceAdd, Nat.reduceLeDiff, Nat.reduceSub, Int.reduceEq] <;> rfl, by simp -dsimp -implicitDefEqProofs only [go_sem, Nat.reduceBEq, Nat.reduceAdd, Nat.reduceLeDiff, Nat.reduceSub, Int.reduceEq] <;> rfl⟩ ?_
  rintro i ⟨e, σ⟩ hi ⟨g0, g3, g4, g5, s3⟩ K hK
  simp only at g0 g3 g4 g5 s3
  simp -dsimp -implicitDefEqProofs only [go_sem, Nat.reduceBEq, Nat.reduceAdd, Nat.reduceLeDiff, Nat.reduceSub, Int.reduceEq, g0, g3, g4, g5, s3]
  have hl : (thereL (cs.take i)).length = i := by rw [there_len]; simp; omega
  refine ifB'.of (fun hlt => ?_) (fun hlt => ?_)
  · have hlt : i < cs.length := by omega
    repeat (first | with_reducible refine ask.of (by first | omega | decide) ?_ | simp -dsimp -implicitDefEqProofs only [go_sem, Nat.reduceBEq, Nat.reduceAdd, Nat.reduceLeDiff, Nat.reduceSub, Int.reduceEq, g0, g3, g4, g5, s3, Cl_at hlt, clC, bl3, hl])
    have hs := mem_snocB (thereL (cs.take i)) (!cs[i].z)
    rw [there_succ hlt] at hs
    cases hq : decide (false ∉ thereL (cs.take i))
    · rw [hq, Bool.false_and] at hs
      repeat (first | with_reducible refine ask.of (by first | omega | decide) ?_ | simp -dsimp -implicitDefEqProofs only [go_sem, Nat.reduceBEq, Nat.reduceAdd, Nat.reduceLeDiff, Nat.reduceSub, Int.reduceEq, g0, g3, g4, g5, s3, hq, Cl_at hlt, clC, bl3, hl])
      refine hK _ hlt ?_
      simp -dsimp -implicitDefEqProofs only [go_sem, Nat.reduceBEq, Nat.reduceAdd, Nat.reduceLeDiff, Nat.reduceSub, Int.reduceEq, g0, g3, g4, g5, s3, wrap_succ (show i < 4611686018427387904 by omega), there_succ hlt, hs]
    · rw [hq, Bool.true_and] at hs
      repeat (first | with_reducible refine ask.of (by first | omega | decide) ?_ | simp -dsimp -implicitDefEqProofs only [go_sem, Nat.reduceBEq, Nat.reduceAdd, Nat.reduceLeDiff, Nat.reduceSub, Int.reduceEq, g0, g3, g4, g5, s3, hq, Cl_at hlt, clC, bl3, hl])
      refine hK _ hlt ?_
      simp -dsimp -implicitDefEqProofs only [go_sem, Nat.reduceBEq, Nat.reduceAdd, Nat.reduceLeDiff, Nat.reduceSub, Int.reduceEq, g0, g3, g4, g5, s3, wrap_succ (show i < 4611686018427387904 by omega), there_succ hlt, hs]
  · have : i = cs.length := by omega
    subst this
    rw [List.take_length] at s3 g4
    by_cases hm : false ∈ thereL cs
    · have hd : decide (false ∉ thereL cs) = false := decide_eq_false fun h => h hm
      rw [hd] at g4
      have hvB : validB cs = packB (thereL cs) := if_pos hm
      simp -dsimp -implicitDefEqProofs only [go_sem, Nat.reduceBEq, Nat.reduceAdd, Nat.reduceLeDiff, Nat.reduceSub, Int.reduceEq, g0, g3, g4, g5, s3]
      refine CallE.of (c_sPackBits (thereL cs) (by rw [there_len]; omega)) (by rintro r rfl; (repeat' first | exact trivial | exact pure_rowB _ | exact pure_rowO _ | exact pure_rowI _ | exact pure_rowBB _ | exact pure_rowPk _ _ | exact pure_rowSn _ _ | exact pure_rowFd _ _ | exact pure_rowBBB _ | exact pure_rowCl _ _ | exact pure_rowTb _ _ _ | refine And.intro ?_ ?_)) (by simp -dsimp -implicitDefEqProofs only [go_sem, Nat.reduceBEq, Nat.reduceAdd, Nat.reduceLeDiff, Nat.reduceSub, Int.reduceEq, g0, g3, g4, g5, s3]) ?_
      rintro r rfl
      simp -dsimp -implicitDefEqProofs only [go_sem, Nat.reduceBEq, Nat.reduceAdd, Nat.reduceLeDiff, Nat.reduceSub, Int.reduceEq, g0, g3, g4, g5, s3]
      rw [hvB]
    · have hd : decide (false ∉ thereL cs) = true := decide_eq_true hm
      rw [hd] at g4
      have hvB : validB cs = [] := if_neg hm
      simp -dsimp -implicitDefEqProofs only [go_sem, Nat.reduceBEq, Nat.reduceAdd, Nat.reduceLeDiff, Nat.reduceSub, Int.reduceEq, g0, g3, g4, g5, s3]
      rw [hvB]; rfl
def txL (cs : List Cl) : List (List UInt8) := cs.map fun c => c.f
theorem txL_len (cs : List Cl) : (txL cs).length = cs.length := by simp [txL]
theorem txL_at {cs : List Cl} {i : Nat} (h : i < cs.length) : (txL cs)[i]'(by rw [txL_len]; exact h) = cs[i].f := by simp [txL]
set_option maxRecDepth 8000 in
theorem c_l2textBuffers (cs : List Cl) (hx0 : cs.length ≤ 1000) (hx : szL clW cs ≤ 1048576) : Meets Try.prog 139 [rowBB (txL cs)] (fun r => r = rowBB [(packIC (offL cs) 4).1, dataL cs]) := by
  refine Meets.intro mixed (hint [(4, 122)]) Try.func139 rfl (by decide) res_139 rty_139 (by kernel_rfl) ?_; 
  simp -dsimp -implicitDefEqProofs only [go_sem, Nat.reduceBEq, Nat.reduceAdd, Nat.reduceLeDiff, Nat.reduceSub, Int.reduceEq]
  repeat (first | with_reducible refine ask.of (by first | omega | decide) ?_ | simp -dsimp -implicitDefEqProofs only [go_sem, Nat.reduceBEq, Nat.reduceAdd, Nat.reduceLeDiff, Nat.reduceSub, Int.reduceEq, initE, bl3])
  refine LoopE.cnt cs.length (fun i s => s.env 0 = .rd .ent 22 1 (ra byC (txL cs)) ∧ s.env 3 = .ref [8] ∧ s.env 4 = .ref [4] ∧ s.env 5 = .v (.int .i64 i) ∧ s.σ [8] = some (.row 3 1 (ra intC (offP cs i))) ∧ s.σ [4] = some (.row 5 1 (bytesA (dataL (cs.take i))))) ⟨by simp -dsimp -implicitDefEqProofs only [go_sem, Nat.reduceBEq, Nat.reduceAdd, Nat.reduceLeDiff, Nat.reduceSub, Int.reduceEq, initE], by simp -dsimp -implicitDefEqProofs only [go_sem, Nat.reduceBEq, Nat.reduceAdd, Nat.reduceLeDiff, Nat.reduceSub, Int.reduceEq], by simp -dsimp -implicitDefEqProofs only [go_sem, Nat.reduceBEq, Nat.reduceAdd, Nat.reduceLeDiff, Nat.reduceSub, Int.reduceEq], by simp -dsimp -implicitDefEqProofs only [go_sem, Nat.reduceBEq, Nat.reduceAdd, Nat.reduceLeDiff, Nat.reduceSub, Int.reduceEq] <;> rfl, by simp -dsimp -implicitDefEqProofs only [go_sem, Nat.reduceBEq, Nat.reduceAdd, Nat.reduceLeDiff, Nat.reduceSub, Int.reduceEq] <;> rfl, by simp -dsimp -implicitDefEqProofs only [go_sem, Nat.reduceBEq, Nat.reduceAdd, Nat.reduceLeDiff, Nat.reduceSub, Int.reduceEq] <;> rfl⟩ ?_
  rintro i ⟨e, σ⟩ hi ⟨g0, g3, g4, g5, s8, s4⟩ K hK
  simp only at g0 g3 g4 g5 s8 s4
  simp -dsimp -implicitDefEqProofs only [go_sem, Nat.reduceBEq, Nat.reduceAdd, Nat.reduceLeDiff, Nat.reduceSub, Int.reduceEq, g0, g3, g4, g5, s8, s4, txL_len]
  refine ifB'.of (fun hlt => ?_) (fun hlt => ?_)
  · have hlt : i < cs.length := by omega
    have hat : (ra byC (txL cs))[i]? = some [.row 5 1 (bytesA cs[i].f)] := by
      have := byA_at (xs := txL cs) (i := i) (by rw [txL_len]; exact hlt)
      rwa [txL_at hlt] at this
    have hw1 := szL_take_succ clW hlt
    have hw2 := szL_take_le clW cs (i + 1)
    have hl := data_len (cs.take i)
    have hl2 := data_len (cs.take (i + 1))
    have hww : clW cs[i] = cs[i].f.length := rfl
    have hol := offP_len cs i
    repeat (first | with_reducible refine ask.of (by first | omega | decide) ?_ | simp -dsimp -implicitDefEqProofs only [go_sem, Nat.reduceBEq, Nat.reduceAdd, Nat.reduceLeDiff, Nat.reduceSub, Int.reduceEq, g0, g3, g4, g5, s8, s4, hat, bl3, txL_len, data_take hlt, hol, hl2])
    refine hK _ hlt ?_
    simp -dsimp -implicitDefEqProofs only [go_sem, Nat.reduceBEq, Nat.reduceAdd, Nat.reduceLeDiff, Nat.reduceSub, Int.reduceEq, g0, g3, g4, g5, s8, s4, wrap_succ (show i < 4611686018427387904 by omega)]
    rw [offP_snoc]
  · have : i = cs.length := by omega
    subst this
    rw [List.take_length] at s4
    simp -dsimp -implicitDefEqProofs only [go_sem, Nat.reduceBEq, Nat.reduceAdd, Nat.reduceLeDiff, Nat.reduceSub, Int.reduceEq, g0, g3, g4, g5, s8, s4]
    refine CallE.of (c_specPackInts (offL cs) 4 (by rw [offL, offP_len]; omega)) (by rintro r rfl; (repeat' first | exact trivial | exact pure_rowB _ | exact pure_rowO _ | exact pure_rowI _ | exact pure_rowBB _ | exact pure_rowPk _ _ | exact pure_rowSn _ _ | exact pure_rowFd _ _ | exact pure_rowBBB _ | exact pure_rowCl _ _ | exact pure_rowTb _ _ _ | refine And.intro ?_ ?_)) (by simp -dsimp -implicitDefEqProofs only [go_sem, Nat.reduceBEq, Nat.reduceAdd, Nat.reduceLeDiff, Nat.reduceSub, Int.reduceEq, g0, g3, g4, g5, s8, s4, offL]) ?_
    rintro r rfl
    simp -dsimp -implicitDefEqProofs only [go_sem, Nat.reduceBEq, Nat.reduceAdd, Nat.reduceLeDiff, Nat.reduceSub, Int.reduceEq, g0, g3, g4, g5, s8, s4, offL]
    repeat (first | with_reducible refine ask.of (by first | omega | decide) ?_ | simp -dsimp -implicitDefEqProofs only [go_sem, Nat.reduceBEq, Nat.reduceAdd, Nat.reduceLeDiff, Nat.reduceSub, Int.reduceEq, g0, g3, g4, g5, s8, s4, bl3])
    rfl
def intsQ (f : Fd) (vs : List (List UInt8)) (cs : List Cl) : List Int := if f.k = 3 then plcL vs cs else intsL cs
theorem intsQ_succ {f : Fd} {vs : List (List UInt8)} {cs : List Cl} {i : Nat} (h : i < cs.length) : intsQ f vs (cs.take i) ++ [if f.k = 3 then plc vs cs[i] else cs[i].i] = intsQ f vs (cs.take (i + 1)) := by
  unfold intsQ
  by_cases hk : f.k = 3
  · rw [if_pos hk, if_pos hk, if_pos hk]; exact map_takeS (plc vs) h
  · rw [if_neg hk, if_neg hk, if_neg hk]; exact map_takeS (fun c : Cl => c.i) h
theorem intsQ_len (f : Fd) (vs : List (List UInt8)) (cs : List Cl) : (intsQ f vs cs).length = cs.length := by unfold intsQ; split <;> simp [plcL, intsL]
theorem txE_succ {cs : List Cl} {i : Nat} (h : i < cs.length) : txL (cs.take i) ++ [cs[i].f] = txL (cs.take (i + 1)) := map_takeS (fun c : Cl => c.f) h
theorem bits_succ {cs : List Cl} {i : Nat} (h : i < cs.length) : bitsL (cs.take i) ++ [decide (cs[i].i = 1)] = bitsL (cs.take (i + 1)) := map_takeS (fun c : Cl => decide (c.i = 1)) h
theorem c_l2textBuffersE (cs : List Cl) (hx0 : cs.length ≤ 1000) (hx : szL clW cs ≤ 1048576) : Meets Try.prog 139 [rowBE (txL cs)] (fun r => r = rowBB [(packIC (offL cs) 4).1, dataL cs]) :=
  Meets.look (bs := [rowBB (txL cs)]) ⟨look_rowBE _, trivial⟩ (c_l2textBuffers cs hx0 hx)
set_option maxRecDepth 8000 in
set_option maxHeartbeats 4000000 in
theorem c_specBuildColumn (f : Fd) (cs : List Cl) (vs : List (List UInt8)) (hf : f.f.length ≤ 1048576) (hc : cs.length + szL clW cs ≤ 1048576) (hv : vs.length + wBB vs ≤ 1048576) : Meets Try.prog 55 [.agg (fdC f), rowCl 145 cs, rowBB vs] (fun r => r = resB (bldL f cs vs)) := by
  refine Meets.intro mixed (hint [(9, 260), (10, 128), (11, 129)]) Try.func55 rfl (by decide) res_55 rty_55 (by kernel_rfl) ?_; 
  simp -dsimp -implicitDefEqProofs only [go_sem, Nat.reduceBEq, Nat.reduceAdd, Nat.reduceLeDiff, Nat.reduceSub, Int.reduceEq, fdC, rowCl]
  have hcb : ∀ c ∈ cs, c.f.length ≤ 1048576 := fun c h => by have := clW_mem h; omega
  have hvb : ∀ b ∈ vs, b.length ≤ 140737488355328 := fun b hb => by have := mem_wBB hb; omega
  repeat (first | with_reducible refine ask.of (by first | omega | decide) ?_ | simp -dsimp -implicitDefEqProofs only [go_sem, Nat.reduceBEq, Nat.reduceAdd, Nat.reduceLeDiff, Nat.reduceSub, Int.reduceEq, initE, rowCl, bl3])
  refine CallE.of (c_l2cellsOK f cs hf (by omega) hcb) (by rintro r rfl; (repeat' first | exact trivial | exact pure_rowB _ | exact pure_rowO _ | exact pure_rowI _ | exact pure_rowBB _ | exact pure_rowPk _ _ | exact pure_rowSn _ _ | exact pure_rowFd _ _ | exact pure_rowBBB _ | exact pure_rowCl _ _ | exact pure_rowTb _ _ _ | refine And.intro ?_ ?_)) (by simp -dsimp -implicitDefEqProofs only [go_sem, Nat.reduceBEq, Nat.reduceAdd, Nat.reduceLeDiff, Nat.reduceSub, Int.reduceEq, fdC, rowCl]) ?_
  rintro r rfl
  simp -dsimp -implicitDefEqProofs only [go_sem, Nat.reduceBEq, Nat.reduceAdd, Nat.reduceLeDiff, Nat.reduceSub, Int.reduceEq, fdC, rowCl]
  by_cases h1 : cellsB f cs
  · repeat (first | with_reducible refine ask.of (by first | omega | decide) ?_ | simp -dsimp -implicitDefEqProofs only [go_sem, Nat.reduceBEq, Nat.reduceAdd, Nat.reduceLeDiff, Nat.reduceSub, Int.reduceEq, decide_eq_true h1, Bool.not_true, initE, rowCl, bl3])
    refine CallE.of (c_sValidDict vs hv) (by rintro r rfl; (repeat' first | exact trivial | exact pure_rowB _ | exact pure_rowO _ | exact pure_rowI _ | exact pure_rowBB _ | exact pure_rowPk _ _ | exact pure_rowSn _ _ | exact pure_rowFd _ _ | exact pure_rowBBB _ | exact pure_rowCl _ _ | exact pure_rowTb _ _ _ | refine And.intro ?_ ?_)) (by simp -dsimp -implicitDefEqProofs only [go_sem, Nat.reduceBEq, Nat.reduceAdd, Nat.reduceLeDiff, Nat.reduceSub, Int.reduceEq]) ?_
    rintro r rfl
    simp -dsimp -implicitDefEqProofs only [go_sem, Nat.reduceBEq, Nat.reduceAdd, Nat.reduceLeDiff, Nat.reduceSub, Int.reduceEq]
    by_cases h2 : okD vs
    · have h3 := h1.2.1
      repeat (first | with_reducible refine ask.of (by first | omega | decide) ?_ | simp -dsimp -implicitDefEqProofs only [go_sem, Nat.reduceBEq, Nat.reduceAdd, Nat.reduceLeDiff, Nat.reduceSub, Int.reduceEq, decide_eq_true h2, Bool.not_true, initE, rowCl, bl3])
      refine CallE.of (c_l2validity cs (by omega)) (by rintro r rfl; (repeat' first | exact trivial | exact pure_rowB _ | exact pure_rowO _ | exact pure_rowI _ | exact pure_rowBB _ | exact pure_rowPk _ _ | exact pure_rowSn _ _ | exact pure_rowFd _ _ | exact pure_rowBBB _ | exact pure_rowCl _ _ | exact pure_rowTb _ _ _ | refine And.intro ?_ ?_)) (by simp -dsimp -implicitDefEqProofs only [go_sem, Nat.reduceBEq, Nat.reduceAdd, Nat.reduceLeDiff, Nat.reduceSub, Int.reduceEq, rowCl]) ?_
      rintro r rfl
      simp -dsimp -implicitDefEqProofs only [go_sem, Nat.reduceBEq, Nat.reduceAdd, Nat.reduceLeDiff, Nat.reduceSub, Int.reduceEq, rowCl]
      repeat (first | with_reducible refine ask.of (by first | omega | decide) ?_ | simp -dsimp -implicitDefEqProofs only [go_sem, Nat.reduceBEq, Nat.reduceAdd, Nat.reduceLeDiff, Nat.reduceSub, Int.reduceEq, initE, rowCl, bl3])
      refine LoopE.cnt cs.length (fun i s => s.env 1 = .rd .ent 145 3 (ra clC cs) ∧ s.env 2 = .rd .ent 22 1 (ra byC vs) ∧ s.env 3 = .ptr [3] 0 0 0 ∧ s.env 8 = .ref [29] ∧ s.env 9 = .ref [9] ∧ s.env 10 = .ref [10] ∧ s.env 11 = .ref [11] ∧ s.env 12 = .v (.int .i64 i) ∧
        s.σ [3] = some (.box 84 [.rd .ent 5 1 (bytesA f.f), .v (.int .i64 f.k), .v (.int .i64 f.w)]) ∧ s.σ [29] = some (.row 22 1 (ra byC [validB cs])) ∧ s.σ [9] = some (.row 4 1 (ra boolC (bitsL (cs.take i)))) ∧ s.σ [10] = some (.row 3 1 (ra intC (intsQ f vs (cs.take i)))) ∧ s.σ [11] = some (.row 22 1 (ra byE (txL (cs.take i)))) ∧
        (f.k = 3 → ∀ c ∈ cs.take i, c.z = false → c.f ∈ vs)) ⟨by simp -dsimp -implicitDefEqProofs only [go_sem, Nat.reduceBEq, Nat.reduceAdd, Nat.reduceLeDiff, Nat.reduceSub, Int.reduceEq, initE, rowCl], by simp -dsimp -implicitDefEqProofs only [go_sem, Nat.reduceBEq, Nat.reduceAdd, Nat.reduceLeDiff, Nat.reduceSub, Int.reduceEq, initE], by simp -dsimp -implicitDefEqProofs only [go_sem, Nat.reduceBEq, Nat.reduceAdd, Nat.reduceLeDiff, Nat.reduceSub, Int.reduceEq], by simp -dsimp -implicitDefEqProofs only [go_sem, Nat.reduceBEq, Nat.reduceAdd, Nat.reduceLeDiff, Nat.reduceSub, Int.reduceEq], by simp -dsimp -implicitDefEqProofs only [go_sem, Nat.reduceBEq, Nat.reduceAdd, Nat.reduceLeDiff, Nat.reduceSub, Int.reduceEq], by simp -dsimp -implicitDefEqProofs only [go_sem, Nat.reduceBEq, Nat.reduceAdd, Nat.reduceLeDiff, Nat.reduceSub, Int.reduceEq], by simp -dsimp -implicitDefEqProofs only [go_sem, Nat.reduceBEq, Nat.reduceAdd, Nat.reduceLeDiff, Nat.reduceSub, Int.reduceEq], by simp -dsimp -implicitDefEqProofs only [go_sem, Nat.reduceBEq, Nat.reduceAdd, Nat.reduceLeDiff, Nat.reduceSub, Int.reduceEq] <;> rfl, by simp -dsimp -implicitDefEqProofs only [go_sem, Nat.reduceBEq, Nat.reduceAdd, Nat.reduceLeDiff, Nat.reduceSub, Int.reduceEq, initE], by simp -dsimp -implicitDefEqProofs only [go_sem, Nat.reduceBEq, Nat.reduceAdd, Nat.reduceLeDiff, Nat.reduceSub, Int.reduceEq] <;> rfl, by simp -dsimp -implicitDefEqProofs only [go_sem, Nat.reduceBEq, Nat.reduceAdd, Nat.reduceLeDiff, Nat.reduceSub, Int.reduceEq] <;> rfl, by simp -dsimp -implicitDefEqProofs only [go_sem, Nat.reduceBEq, Nat.reduceAdd, Nat.reduceLeDiff, Nat.reduceSub, Int.reduceEq] <;> (unfold intsQ; simp [plcL, intsL]; rfl), by simp -dsimp -implicitDefEqProofs only [go_sem, Nat.reduceBEq, Nat.reduceAdd, Nat.reduceLeDiff, Nat.reduceSub, Int.reduceEq] <;> rfl, by simp⟩ ?_
      rintro i ⟨e, σ⟩ hii ⟨g1, g2, g3, g8, g9, g10, g11, g12, s3, s29, s9, s10, s11, hall⟩ K hK
      simp only at g1 g2 g3 g8 g9 g10 g11 g12 s3 s29 s9 s10 s11
      simp -dsimp -implicitDefEqProofs only [go_sem, Nat.reduceBEq, Nat.reduceAdd, Nat.reduceLeDiff, Nat.reduceSub, Int.reduceEq, g1, g2, g3, g8, g9, g10, g11, g12, s3, s29, s9, s10, s11]
      refine ifB'.of (fun hlt => ?_) (fun hlt => ?_)
      · have hlt : i < cs.length := by omega
        have hl1 : (bitsL (cs.take i)).length = i := by simp [bitsL]; omega
        have hl2 : (intsQ f vs (cs.take i)).length = i := by rw [intsQ_len]; simp; omega
        have hl3 : (txL (cs.take i)).length = i := by rw [txL_len]; simp; omega
        have hal : (f.k = 3 → cs[i].z = false → cs[i].f ∈ vs) → (f.k = 3 → ∀ c ∈ cs.take (i + 1), c.z = false → c.f ∈ vs) := fun h hk c hcm => by
          rw [List.take_succ_eq_append_getElem hlt] at hcm
          rcases List.mem_append.1 hcm with hcm | hcm
          · exact hall hk c hcm
          · rw [List.mem_singleton.1 hcm]; exact h hk
        have hsn := intsQ_succ (f := f) (vs := vs) hlt
        repeat (first | with_reducible refine ask.of (by first | omega | decide) ?_ | simp -dsimp -implicitDefEqProofs only [go_sem, Nat.reduceBEq, Nat.reduceAdd, Nat.reduceLeDiff, Nat.reduceSub, Int.reduceEq, g1, g2, g3, g8, g9, g10, g11, g12, s3, s29, s9, s10, s11, Cl_at hlt, clC, bl3, hl1, hl2, hl3, bits_succ hlt, txE_succ hlt])
        have hKK : ∀ x : Int, x = (if f.k = 3 then plc vs cs[i] else cs[i].i) → intsQ f vs (cs.take i) ++ [x] = intsQ f vs (cs.take (i + 1)) := fun x hx => by rw [hx]; exact hsn
        refine ifB'.of (fun hk => ?_) (fun hk => ?_)
        · cases hz : cs[i].z
          · repeat (first | with_reducible refine ask.of (by first | omega | decide) ?_ | simp -dsimp -implicitDefEqProofs only [go_sem, Nat.reduceBEq, Nat.reduceAdd, Nat.reduceLeDiff, Nat.reduceSub, Int.reduceEq, g1, g2, g3, g8, g9, g10, g11, g12, s3, s29, s9, s10, s11, hz, bl3])
            refine CallE.of (c_l2place vs cs[i].f (by omega) hvb (by have := hcb _ (List.getElem_mem hlt); omega)) (by rintro r rfl; (repeat' first | exact trivial | exact pure_rowB _ | exact pure_rowO _ | exact pure_rowI _ | exact pure_rowBB _ | exact pure_rowPk _ _ | exact pure_rowSn _ _ | exact pure_rowFd _ _ | exact pure_rowBBB _ | exact pure_rowCl _ _ | exact pure_rowTb _ _ _ | refine And.intro ?_ ?_)) (by simp -dsimp -implicitDefEqProofs only [go_sem, Nat.reduceBEq, Nat.reduceAdd, Nat.reduceLeDiff, Nat.reduceSub, Int.reduceEq, g1, g2, g3, g8, g9, g10, g11, g12, s3, s29, s9, s10, s11]) ?_
            rintro r rfl
            simp -dsimp -implicitDefEqProofs only [go_sem, Nat.reduceBEq, Nat.reduceAdd, Nat.reduceLeDiff, Nat.reduceSub, Int.reduceEq, g1, g2, g3, g8, g9, g10, g11, g12, s3, s29, s9, s10, s11]
            have hpl := plI_nonneg vs cs[i].f
            refine ifB'.of (fun hq => ?_) (fun hq => ?_)
            · simp -dsimp -implicitDefEqProofs only [go_sem, Nat.reduceBEq, Nat.reduceAdd, Nat.reduceLeDiff, Nat.reduceSub, Int.reduceEq, g1, g2, g3, g8, g9, g10, g11, g12, s3, s29, s9, s10, s11]
              exact bld_no fun h => by have := hpl.2 (h.2.2 hk _ (List.getElem_mem hlt) hz); omega
            · have hx := hKK (plI vs cs[i].f) (by rw [if_pos hk]; unfold plc; rw [hz]; rfl)
              repeat (first | with_reducible refine ask.of (by first | omega | decide) ?_ | simp -dsimp -implicitDefEqProofs only [go_sem, Nat.reduceBEq, Nat.reduceAdd, Nat.reduceLeDiff, Nat.reduceSub, Int.reduceEq, g1, g2, g3, g8, g9, g10, g11, g12, s3, s29, s9, s10, s11, bl3, hl2])
              refine hK _ hlt ?_
              simp -dsimp -implicitDefEqProofs only [go_sem, Nat.reduceBEq, Nat.reduceAdd, Nat.reduceLeDiff, Nat.reduceSub, Int.reduceEq, g1, g2, g3, g8, g9, g10, g11, g12, s3, s29, s9, s10, s11, wrap_succ (show i < 4611686018427387904 by omega), hx]
              exact hal fun _ _ => hpl.1 (by omega)
          · have hx := hKK 0 (by rw [if_pos hk]; unfold plc; rw [hz]; rfl)
            repeat (first | with_reducible refine ask.of (by first | omega | decide) ?_ | simp -dsimp -implicitDefEqProofs only [go_sem, Nat.reduceBEq, Nat.reduceAdd, Nat.reduceLeDiff, Nat.reduceSub, Int.reduceEq, g1, g2, g3, g8, g9, g10, g11, g12, s3, s29, s9, s10, s11, hz, bl3, hl2])
            refine hK _ hlt ?_
            simp -dsimp -implicitDefEqProofs only [go_sem, Nat.reduceBEq, Nat.reduceAdd, Nat.reduceLeDiff, Nat.reduceSub, Int.reduceEq, g1, g2, g3, g8, g9, g10, g11, g12, s3, s29, s9, s10, s11, wrap_succ (show i < 4611686018427387904 by omega), hx]
            exact hal fun _ h => by rw [hz] at h; cases h
        · have hx := hKK cs[i].i (by rw [if_neg hk])
          repeat (first | with_reducible refine ask.of (by first | omega | decide) ?_ | simp -dsimp -implicitDefEqProofs only [go_sem, Nat.reduceBEq, Nat.reduceAdd, Nat.reduceLeDiff, Nat.reduceSub, Int.reduceEq, g1, g2, g3, g8, g9, g10, g11, g12, s3, s29, s9, s10, s11, Cl_at hlt, clC, bl3, hl2])
          refine hK _ hlt ?_
          simp -dsimp -implicitDefEqProofs only [go_sem, Nat.reduceBEq, Nat.reduceAdd, Nat.reduceLeDiff, Nat.reduceSub, Int.reduceEq, g1, g2, g3, g8, g9, g10, g11, g12, s3, s29, s9, s10, s11, wrap_succ (show i < 4611686018427387904 by omega), hx]
          exact hal fun h => absurd h hk
      · have : i = cs.length := by omega
        subst this
        rw [List.take_length] at s9 s10 s11 hall
        have hC : bcOk f cs vs := ⟨⟨h1.1, h3, h2⟩, h1.2.2, hall⟩
        have hkk := bk_cases h1.1
        rw [bldL_yes hC]
        repeat (first | with_reducible refine ask.of (by first | omega | decide) ?_ | simp -dsimp -implicitDefEqProofs only [go_sem, Nat.reduceBEq, Nat.reduceAdd, Nat.reduceLeDiff, Nat.reduceSub, Int.reduceEq, g1, g2, g3, g8, g9, g10, g11, g12, s3, s29, s9, s10, s11, bl3])
        refine ifB'.of (fun hk => ?_) (fun hk => ?_)
        · simp -dsimp -implicitDefEqProofs only [go_sem, Nat.reduceBEq, Nat.reduceAdd, Nat.reduceLeDiff, Nat.reduceSub, Int.reduceEq, g1, g2, g3, g8, g9, g10, g11, g12, s3, s29, s9, s10, s11]
          refine CallE.of (c_sPackBits (bitsL cs) (by simp [bitsL]; omega)) (by rintro r rfl; (repeat' first | exact trivial | exact pure_rowB _ | exact pure_rowO _ | exact pure_rowI _ | exact pure_rowBB _ | exact pure_rowPk _ _ | exact pure_rowSn _ _ | exact pure_rowFd _ _ | exact pure_rowBBB _ | exact pure_rowCl _ _ | exact pure_rowTb _ _ _ | refine And.intro ?_ ?_)) (by simp -dsimp -implicitDefEqProofs only [go_sem, Nat.reduceBEq, Nat.reduceAdd, Nat.reduceLeDiff, Nat.reduceSub, Int.reduceEq, g1, g2, g3, g8, g9, g10, g11, g12, s3, s29, s9, s10, s11]) ?_
          rintro r rfl
          simp -dsimp -implicitDefEqProofs only [go_sem, Nat.reduceBEq, Nat.reduceAdd, Nat.reduceLeDiff, Nat.reduceSub, Int.reduceEq, g1, g2, g3, g8, g9, g10, g11, g12, s3, s29, s9, s10, s11]
          repeat (first | with_reducible refine ask.of (by first | omega | decide) ?_ | simp -dsimp -implicitDefEqProofs only [go_sem, Nat.reduceBEq, Nat.reduceAdd, Nat.reduceLeDiff, Nat.reduceSub, Int.reduceEq, g1, g2, g3, g8, g9, g10, g11, g12, s3, s29, s9, s10, s11, bl3])
          rw [bodyB, if_pos hk]; rfl
        repeat (first | with_reducible refine ask.of (by first | omega | decide) ?_ | simp -dsimp -implicitDefEqProofs only [go_sem, Nat.reduceBEq, Nat.reduceAdd, Nat.reduceLeDiff, Nat.reduceSub, Int.reduceEq, g1, g2, g3, g8, g9, g10, g11, g12, s3, s29, s9, s10, s11, bl3])
        refine ifB'.of (fun hk2 => ?_) (fun hk2 => ?_)
        · simp -dsimp -implicitDefEqProofs only [go_sem, Nat.reduceBEq, Nat.reduceAdd, Nat.reduceLeDiff, Nat.reduceSub, Int.reduceEq, g1, g2, g3, g8, g9, g10, g11, g12, s3, s29, s9, s10, s11]
          refine CallE.of (c_l2textBuffersE cs (by omega) (by omega)) (by rintro r rfl; (repeat' first | exact trivial | exact pure_rowB _ | exact pure_rowO _ | exact pure_rowI _ | exact pure_rowBB _ | exact pure_rowPk _ _ | exact pure_rowSn _ _ | exact pure_rowFd _ _ | exact pure_rowBBB _ | exact pure_rowCl _ _ | exact pure_rowTb _ _ _ | refine And.intro ?_ ?_)) (by simp -dsimp -implicitDefEqProofs only [go_sem, Nat.reduceBEq, Nat.reduceAdd, Nat.reduceLeDiff, Nat.reduceSub, Int.reduceEq, g1, g2, g3, g8, g9, g10, g11, g12, s3, s29, s9, s10, s11, rowBE]) ?_
          rintro r rfl
          simp -dsimp -implicitDefEqProofs only [go_sem, Nat.reduceBEq, Nat.reduceAdd, Nat.reduceLeDiff, Nat.reduceSub, Int.reduceEq, g1, g2, g3, g8, g9, g10, g11, g12, s3, s29, s9, s10, s11, rowBE]
          repeat (first | with_reducible refine ask.of (by first | omega | decide) ?_ | simp -dsimp -implicitDefEqProofs only [go_sem, Nat.reduceBEq, Nat.reduceAdd, Nat.reduceLeDiff, Nat.reduceSub, Int.reduceEq, g1, g2, g3, g8, g9, g10, g11, g12, s3, s29, s9, s10, s11, bl3])
          rw [bodyB, if_neg hk, if_neg (by omega), if_pos hk2]; rfl
        repeat (first | with_reducible refine ask.of (by first | omega | decide) ?_ | simp -dsimp -implicitDefEqProofs only [go_sem, Nat.reduceBEq, Nat.reduceAdd, Nat.reduceLeDiff, Nat.reduceSub, Int.reduceEq, g1, g2, g3, g8, g9, g10, g11, g12, s3, s29, s9, s10, s11, bl3])
        refine ifB'.of (fun hk3 => ?_) (fun hk3 => ?_)
        · have e : intsQ f vs cs = plcL vs cs := if_pos hk3
          rw [e] at s10
          simp -dsimp -implicitDefEqProofs only [go_sem, Nat.reduceBEq, Nat.reduceAdd, Nat.reduceLeDiff, Nat.reduceSub, Int.reduceEq, g1, g2, g3, g8, g9, g10, g11, g12, s3, s29, s9, s10, s11]
          refine CallE.of (c_specPackInts (plcL vs cs) 1 (by simp [plcL]; omega)) (by rintro r rfl; (repeat' first | exact trivial | exact pure_rowB _ | exact pure_rowO _ | exact pure_rowI _ | exact pure_rowBB _ | exact pure_rowPk _ _ | exact pure_rowSn _ _ | exact pure_rowFd _ _ | exact pure_rowBBB _ | exact pure_rowCl _ _ | exact pure_rowTb _ _ _ | refine And.intro ?_ ?_)) (by simp -dsimp -implicitDefEqProofs only [go_sem, Nat.reduceBEq, Nat.reduceAdd, Nat.reduceLeDiff, Nat.reduceSub, Int.reduceEq, g1, g2, g3, g8, g9, g10, g11, g12, s3, s29, s9, s10, s11]) ?_
          rintro r rfl
          simp -dsimp -implicitDefEqProofs only [go_sem, Nat.reduceBEq, Nat.reduceAdd, Nat.reduceLeDiff, Nat.reduceSub, Int.reduceEq, g1, g2, g3, g8, g9, g10, g11, g12, s3, s29, s9, s10, s11]
          repeat (first | with_reducible refine ask.of (by first | omega | decide) ?_ | simp -dsimp -implicitDefEqProofs only [go_sem, Nat.reduceBEq, Nat.reduceAdd, Nat.reduceLeDiff, Nat.reduceSub, Int.reduceEq, g1, g2, g3, g8, g9, g10, g11, g12, s3, s29, s9, s10, s11, bl3])
          rw [bodyB, if_neg hk, if_neg (by omega), if_neg hk2]; rfl
        · have e : intsQ f vs cs = intsL cs := if_neg hk3
          rw [e] at s10
          simp -dsimp -implicitDefEqProofs only [go_sem, Nat.reduceBEq, Nat.reduceAdd, Nat.reduceLeDiff, Nat.reduceSub, Int.reduceEq, g1, g2, g3, g8, g9, g10, g11, g12, s3, s29, s9, s10, s11]
          refine CallE.of (c_specPackInts (intsL cs) f.w (by simp [intsL]; omega)) (by rintro r rfl; (repeat' first | exact trivial | exact pure_rowB _ | exact pure_rowO _ | exact pure_rowI _ | exact pure_rowBB _ | exact pure_rowPk _ _ | exact pure_rowSn _ _ | exact pure_rowFd _ _ | exact pure_rowBBB _ | exact pure_rowCl _ _ | exact pure_rowTb _ _ _ | refine And.intro ?_ ?_)) (by simp -dsimp -implicitDefEqProofs only [go_sem, Nat.reduceBEq, Nat.reduceAdd, Nat.reduceLeDiff, Nat.reduceSub, Int.reduceEq, g1, g2, g3, g8, g9, g10, g11, g12, s3, s29, s9, s10, s11]) ?_
          rintro r rfl
          simp -dsimp -implicitDefEqProofs only [go_sem, Nat.reduceBEq, Nat.reduceAdd, Nat.reduceLeDiff, Nat.reduceSub, Int.reduceEq, g1, g2, g3, g8, g9, g10, g11, g12, s3, s29, s9, s10, s11]
          repeat (first | with_reducible refine ask.of (by first | omega | decide) ?_ | simp -dsimp -implicitDefEqProofs only [go_sem, Nat.reduceBEq, Nat.reduceAdd, Nat.reduceLeDiff, Nat.reduceSub, Int.reduceEq, g1, g2, g3, g8, g9, g10, g11, g12, s3, s29, s9, s10, s11, bl3])
          rw [bodyB, if_neg hk, if_pos (by omega)]; rfl
    · repeat' (first | exact bld_no fun h => h2 h.1.2.2 | with_reducible refine ask.of (by first | omega | decide) ?_ | simp -dsimp -implicitDefEqProofs only [go_sem, Nat.reduceBEq, Nat.reduceAdd, Nat.reduceLeDiff, Nat.reduceSub, Int.reduceEq, decide_eq_false h2, Bool.not_false, initE, rowCl, bl3])
  · repeat' (first | exact bld_no fun h => h1 ⟨h.1.1, h.1.2.1, h.2.1⟩ | with_reducible refine ask.of (by first | omega | decide) ?_ | simp -dsimp -implicitDefEqProofs only [go_sem, Nat.reduceBEq, Nat.reduceAdd, Nat.reduceLeDiff, Nat.reduceSub, Int.reduceEq, decide_eq_false h1, Bool.not_false, initE, rowCl, bl3])
end Go.Ev
