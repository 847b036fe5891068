/- Part 12 of what the row leans on: the evaluator, words, contracts of functions; pruned by a program of ours. -/
import Derived.Test.YtcmkgoflnfchcaaFo11
set_option linter.unusedSimpArgs false
set_option linter.unusedVariables false
namespace Go.Ev
open Go Go.RowKit Go.Proofs
theorem blA : Nat.ble 0 1 = true ∧ Nat.ble 1 1 = true ∧ Nat.ble 0 2 = true ∧ Nat.ble 1 2 = true ∧ Nat.ble 2 2 = true ∧ Nat.ble 0 3 = true ∧ Nat.ble 1 3 = true ∧ Nat.ble 2 3 = true ∧ Nat.ble 3 3 = true ∧ Nat.ble 0 4 = true ∧ Nat.ble 1 4 = true ∧ Nat.ble 2 4 = true ∧ Nat.ble 3 4 = true ∧ Nat.ble 4 4 = true ∧ Nat.ble 0 5 = true ∧ Nat.ble 1 5 = true ∧ Nat.ble 2 5 = true ∧ Nat.ble 3 5 = true ∧ Nat.ble 4 5 = true ∧ Nat.ble 5 5 = true ∧ Nat.ble 0 6 = true ∧ Nat.ble 1 6 = true ∧ Nat.ble 2 6 = true ∧ Nat.ble 3 6 = true ∧ Nat.ble 4 6 = true ∧ Nat.ble 5 6 = true ∧ Nat.ble 6 6 = true ∧ Nat.ble 0 7 = true ∧ Nat.ble 1 7 = true ∧ Nat.ble 2 7 = true ∧ Nat.ble 3 7 = true ∧ Nat.ble 4 7 = true ∧ Nat.ble 5 7 = true ∧ Nat.ble 6 7 = true ∧ Nat.ble 7 7 = true := ⟨rfl, rfl, rfl, rfl, rfl, rfl, rfl, rfl, rfl, rfl, rfl, rfl, rfl, rfl, rfl, rfl, rfl, rfl, rfl, rfl, rfl, rfl, rfl, rfl, rfl, rfl, rfl, rfl, rfl, rfl, rfl, rfl, rfl, rfl, rfl⟩
theorem exPk {P : Pk → Prop} {a b c d : Int} {e : Bool} {f : List UInt8} (h : P ⟨a, b, c, d, e, f⟩) : ∃ v, P v := ⟨_, h⟩
theorem exOne {α : Type} {P : α → Prop} {a : α} (h : P a) : ∃ v, P v := ⟨_, h⟩
theorem fill_snoc {α : Type} (x : α) (i : Nat) : List.replicate i x ++ [x] = List.replicate (i + 1) x := by rw [List.replicate_succ']
theorem u8cons (b : UInt8) (l : List UInt8) : [AV.v (.int .u8 b.toNat)] :: bytesA l = bytesA (b :: l) := rfl
theorem row0 : AV.row 5 1 [] = AV.row 5 1 (bytesA []) := rfl
theorem u8one (b : UInt8) : [[AV.v (.int .u8 b.toNat)]] = bytesA [b] := rfl
theorem c_l1fill (b : UInt8) (n : Nat) (hn : n ≤ 1048576) : Meets Try.prog 78 [.v (.int .u8 b.toNat), .v (.int .i64 n)] (fun r => r = rowB (List.replicate n b)) := by
  refine Meets.intro mixed (hint [(5, 122)]) Try.func78 rfl (by decide) res_78 rty_78 (by kernel_rfl) ?_; 
  simp -dsimp -implicitDefEqProofs only [go_sem, Nat.reduceBEq, Nat.reduceAdd, Nat.reduceLeDiff, Nat.reduceSub, Int.reduceEq]
  refine LoopE.cnt n (fun i s => s.env 0 = .v (.int .u8 b.toNat) ∧ s.env 1 = .v (.int .i64 n) ∧ s.env 5 = .ref [5] ∧ s.env 6 = .v (.int .i64 i) ∧ s.σ [5] = some (.row 5 1 (bytesA (List.replicate i b)))) ⟨by simp -dsimp -implicitDefEqProofs only [go_sem, Nat.reduceBEq, Nat.reduceAdd, Nat.reduceLeDiff, Nat.reduceSub, Int.reduceEq, initE], by simp -dsimp -implicitDefEqProofs only [go_sem, Nat.reduceBEq, Nat.reduceAdd, Nat.reduceLeDiff, Nat.reduceSub, Int.reduceEq, initE], by simp -dsimp -implicitDefEqProofs only [go_sem, Nat.reduceBEq, Nat.reduceAdd, Nat.reduceLeDiff, Nat.reduceSub, Int.reduceEq], by simp -dsimp -implicitDefEqProofs only [go_sem, Nat.reduceBEq, Nat.reduceAdd, Nat.reduceLeDiff, Nat.reduceSub, Int.reduceEq] <;> rfl, by simp -dsimp -implicitDefEqProofs only [go_sem, Nat.reduceBEq, Nat.reduceAdd, Nat.reduceLeDiff, Nat.reduceSub, Int.reduceEq] <;> rfl⟩ ?_
  rintro i ⟨e, σ⟩ hi ⟨h0, h1, h5, h6, hs⟩ K hK
  simp only at h0 h1 h5 h6 hs
  simp -dsimp -implicitDefEqProofs only [go_sem, Nat.reduceBEq, Nat.reduceAdd, Nat.reduceLeDiff, Nat.reduceSub, Int.reduceEq, h0, h1, h5, h6, hs]
  refine ifB'.of (fun hlt => ?_) (fun hlt => ?_)
  · have hlt : i < n := by omega
    repeat (first | with_reducible refine ask.of (by first | omega | decide | (simp only [bytesA_length, List.length_replicate, List.length_cons, List.length_nil]; omega)) ?_ | simp -dsimp -implicitDefEqProofs only [go_sem, Nat.reduceBEq, Nat.reduceAdd, Nat.reduceLeDiff, Nat.reduceSub, Int.reduceEq, h0, h1, h5, h6, hs, List.length_replicate])
    refine hK _ hlt ?_
    simp -dsimp -implicitDefEqProofs only [go_sem, Nat.reduceBEq, Nat.reduceAdd, Nat.reduceLeDiff, Nat.reduceSub, Int.reduceEq, h0, h1, h5, h6, hs, wrap_succ (show i < 4611686018427387904 by omega), fill_snoc]
  · have : i = n := by omega
    subst this
    simp -dsimp -implicitDefEqProofs only [go_sem, Nat.reduceBEq, Nat.reduceAdd, Nat.reduceLeDiff, Nat.reduceSub, Int.reduceEq, h0, h1, h5, h6, hs]
theorem tmodL (n m : Nat) : ((n : Nat) : Int).tmod ((m : Nat) : Int) = ((n % m : Nat) : Int) := rfl
theorem tdivL {n : Nat} (m : Nat) (h : n ≤ 4611686018427387904) : IntKind.i64.wrap (((n : Nat) : Int).tdiv ((m : Nat) : Int)) = ((n / m : Nat) : Int) := by
  rw [show ((n : Nat) : Int).tdiv ((m : Nat) : Int) = ((n / m : Nat) : Int) from rfl]
  have h1 := Nat.div_le_self n m
  generalize n / m = d at *
  exact wrap_i64_of (by omega) (by omega)
theorem addL (m : Nat) {n : Nat} (h : n ≤ 4611686018427387904) (hm : m ≤ 1000000000000) : IntKind.i64.wrap (((m : Nat) : Int) + ((n : Nat) : Int)) = ((m + n : Nat) : Int) := by rw [wrap_i64_of (by omega) (by omega)]; omega
theorem mulL (m : Nat) {n : Nat} (h : n ≤ 1000000) (hm : m ≤ 1000) : IntKind.i64.wrap (((n : Nat) : Int) * ((m : Nat) : Int)) = ((n * m : Nat) : Int) := by
  have : n * m ≤ 1000000 * 1000 := Nat.mul_le_mul h hm
  rw [show ((n : Nat) : Int) * ((m : Nat) : Int) = ((n * m : Nat) : Int) from (Int.natCast_mul ..).symm]
  exact wrap_i64_of (by omega) (by omega)
set_option maxRecDepth 8000 in
set_option maxHeartbeats 1000000 in
theorem x_drawPacket (c : List UInt8) (p : Nat) (hp : p ≤ c.length) (hc : c.length ≤ 600) : ∃ v : Pk, ∃ q : Nat, MeetsM Try.prog 90 [.mu (rdAt c p)] (fun r rs => r = .agg (pkC v) ∧ rs = [rdAt c q]) ∧ v.f.length ≤ 13 ∧ q ≤ c.length := by
  have hq1 := nxP_le c hp
  have hq2 := nxP_le c hq1
  have hq3 := nxP_le c hq2
  have hk := nxV_lt c p
  have hk1 := nxV_lt c (nxP c p)
  have hk2 := nxV_lt c (nxP c (nxP c p))
  have hN := c_next c p (by omega)
  have hN1 := c_next c (nxP c p) (by omega)
  have hN2 := c_next c (nxP c (nxP c p)) (by omega)
  have hD := c_l1drawBytes c (nxP c (nxP c (nxP c p))) 12 hq3 hc (by decide) (by decide)
  have hdl := db_length c (nxP c (nxP c (nxP c p))) (show 0 < 12 by decide)
  have hdp := dbP_le c (m := 12) hq3
  generalize db c (nxP c (nxP c (nxP c p))) 12 = bs at *
  generalize dbP c (nxP c (nxP c (nxP c p))) 12 = q4 at *
  generalize nxV c (nxP c (nxP c p)) = k2 at *
  generalize nxP c (nxP c (nxP c p)) = q3 at *
  generalize nxV c (nxP c p) = k1 at *
  generalize nxP c (nxP c p) = q2 at *
  generalize nxV c p = k at *
  generalize nxP c p = q1 at *
  have e4 := tmodL k 4
  have d4 := tdivL 4 (n := k) (by omega)
  have e3 := tmodL (k / 4) 3
  have a1 := addL 1 (n := k % 4) (by omega) (by decide)
  have a2 := addL 1 (n := k / 4 % 3) (by omega) (by decide)
  have e20 := tmodL k1 20
  have e9 := tmodL k1 9
  have e2 := tmodL k2 2
  have e29 := tmodL k2 9
  have hod : decide (((k2 % 2 : Nat) : Int) = 1) = decide (k2 % 2 = 1) := decide_eq_decide.2 (by omega)
  have hu8 := u8_of_nat k
  simp only [show ((4 : Nat) : Int) = 4 from rfl, show ((3 : Nat) : Int) = 3 from rfl, show ((1 : Nat) : Int) = 1 from rfl, show ((20 : Nat) : Int) = 20 from rfl, show ((9 : Nat) : Int) = 9 from rfl, show ((2 : Nat) : Int) = 2 from rfl, show ((12 : Nat) : Int) = 12 from rfl] at e4 d4 e3 a1 a2 e20 e9 e2 e29 hD
  have h4 : k % 4 = 0 ∨ k % 4 = 1 ∨ k % 4 = 2 ∨ k % 4 = 3 := by omega
  rcases h4 with h4 | h4 | h4 | h4
  · apply exPk
    apply exOne
    refine And.intro ?_ ?_
    · skip
      refine MeetsM.intro mixed (hint []) Try.func90 rfl (by decide) res_90 rty_90 (pts := parTys Try.prog 90) (by rw [par_90]; rfl) (by kernel_rfl) ?_; rw [par_90]; intro vals; 
      simp -dsimp -implicitDefEqProofs only [go_sem, Nat.reduceBEq, Nat.reduceAdd, Nat.reduceLeDiff, Nat.reduceSub, Int.reduceEq, rdAt]
      refine CallE.mutLend (hN) (by simp -dsimp -implicitDefEqProofs only [go_sem, Nat.reduceBEq, Nat.reduceAdd, Nat.reduceLeDiff, Nat.reduceSub, Int.reduceEq]) (by simp -dsimp -implicitDefEqProofs only [go_sem, Nat.reduceBEq, Nat.reduceAdd, Nat.reduceLeDiff, Nat.reduceSub, Int.reduceEq, rdAt]) (by simp -dsimp -implicitDefEqProofs only [go_sem, Nat.reduceBEq, Nat.reduceAdd, Nat.reduceLeDiff, Nat.reduceSub, Int.reduceEq, rdAt]) ?_
      rintro r rs ⟨rfl, rfl⟩
      simp -dsimp -implicitDefEqProofs only [go_sem, Nat.reduceBEq, Nat.reduceAdd, Nat.reduceLeDiff, Nat.reduceSub, Int.reduceEq, rdAt]
      repeat' (first | with_reducible refine ask.of (by first | omega | decide) ?_ | ((with_reducible refine ifB'.of (fun h => ?_) (fun h => ?_)) <;> first | (exfalso; omega) | skip) | simp -dsimp -implicitDefEqProofs only [go_sem, Nat.reduceBEq, Nat.reduceAdd, Nat.reduceLeDiff, Nat.reduceSub, Int.reduceEq, blA, cty_rd, e4, d4, e3, a1, a2])
      refine CallE.mutLend (hN1) (by simp -dsimp -implicitDefEqProofs only [go_sem, Nat.reduceBEq, Nat.reduceAdd, Nat.reduceLeDiff, Nat.reduceSub, Int.reduceEq]) (by simp -dsimp -implicitDefEqProofs only [go_sem, Nat.reduceBEq, Nat.reduceAdd, Nat.reduceLeDiff, Nat.reduceSub, Int.reduceEq, rdAt]) (by simp -dsimp -implicitDefEqProofs only [go_sem, Nat.reduceBEq, Nat.reduceAdd, Nat.reduceLeDiff, Nat.reduceSub, Int.reduceEq, rdAt]) ?_
      rintro r rs ⟨rfl, rfl⟩
      simp -dsimp -implicitDefEqProofs only [go_sem, Nat.reduceBEq, Nat.reduceAdd, Nat.reduceLeDiff, Nat.reduceSub, Int.reduceEq, rdAt]
      repeat' (first | with_reducible refine ask.of (by first | omega | decide) ?_ | ((with_reducible refine ifB'.of (fun h => ?_) (fun h => ?_)) <;> first | (exfalso; omega) | skip) | simp -dsimp -implicitDefEqProofs only [go_sem, Nat.reduceBEq, Nat.reduceAdd, Nat.reduceLeDiff, Nat.reduceSub, Int.reduceEq, blA, cty_rd, e20])
      refine CallE.mutLend (hN2) (by simp -dsimp -implicitDefEqProofs only [go_sem, Nat.reduceBEq, Nat.reduceAdd, Nat.reduceLeDiff, Nat.reduceSub, Int.reduceEq]) (by simp -dsimp -implicitDefEqProofs only [go_sem, Nat.reduceBEq, Nat.reduceAdd, Nat.reduceLeDiff, Nat.reduceSub, Int.reduceEq, rdAt]) (by simp -dsimp -implicitDefEqProofs only [go_sem, Nat.reduceBEq, Nat.reduceAdd, Nat.reduceLeDiff, Nat.reduceSub, Int.reduceEq, rdAt]) ?_
      rintro r rs ⟨rfl, rfl⟩
      simp -dsimp -implicitDefEqProofs only [go_sem, Nat.reduceBEq, Nat.reduceAdd, Nat.reduceLeDiff, Nat.reduceSub, Int.reduceEq, rdAt]
      repeat' (first | with_reducible refine ask.of (by first | omega | decide) ?_ | ((with_reducible refine ifB'.of (fun h => ?_) (fun h => ?_)) <;> first | (exfalso; omega) | skip) | simp -dsimp -implicitDefEqProofs only [go_sem, Nat.reduceBEq, Nat.reduceAdd, Nat.reduceLeDiff, Nat.reduceSub, Int.reduceEq, blA, cty_rd, e2, hod, hu8])
      refine CallE.mutLend (hD) (by simp -dsimp -implicitDefEqProofs only [go_sem, Nat.reduceBEq, Nat.reduceAdd, Nat.reduceLeDiff, Nat.reduceSub, Int.reduceEq]) (by simp -dsimp -implicitDefEqProofs only [go_sem, Nat.reduceBEq, Nat.reduceAdd, Nat.reduceLeDiff, Nat.reduceSub, Int.reduceEq, rdAt]) (by simp -dsimp -implicitDefEqProofs only [go_sem, Nat.reduceBEq, Nat.reduceAdd, Nat.reduceLeDiff, Nat.reduceSub, Int.reduceEq, rdAt]) ?_
      rintro r rs ⟨rfl, rfl⟩
      simp -dsimp -implicitDefEqProofs only [go_sem, Nat.reduceBEq, Nat.reduceAdd, Nat.reduceLeDiff, Nat.reduceSub, Int.reduceEq, rdAt]
      repeat' (first | with_reducible refine ask.of (by first | omega | decide) ?_ | ((with_reducible refine ifB'.of (fun h => ?_) (fun h => ?_)) <;> first | (exfalso; omega) | skip) | simp -dsimp -implicitDefEqProofs only [go_sem, Nat.reduceBEq, Nat.reduceAdd, Nat.reduceLeDiff, Nat.reduceSub, Int.reduceEq, blA, cty_rd, u8one])
      rw [u8cons]
      exact ⟨rfl, rfl⟩
    · exact ⟨by simp; omega, by omega⟩
  · apply exPk
    apply exOne
    refine And.intro ?_ ?_
    · skip
      refine MeetsM.intro mixed (hint []) Try.func90 rfl (by decide) res_90 rty_90 (pts := parTys Try.prog 90) (by rw [par_90]; rfl) (by kernel_rfl) ?_; rw [par_90]; intro vals; 
      simp -dsimp -implicitDefEqProofs only [go_sem, Nat.reduceBEq, Nat.reduceAdd, Nat.reduceLeDiff, Nat.reduceSub, Int.reduceEq, rdAt]
      refine CallE.mutLend (hN) (by simp -dsimp -implicitDefEqProofs only [go_sem, Nat.reduceBEq, Nat.reduceAdd, Nat.reduceLeDiff, Nat.reduceSub, Int.reduceEq]) (by simp -dsimp -implicitDefEqProofs only [go_sem, Nat.reduceBEq, Nat.reduceAdd, Nat.reduceLeDiff, Nat.reduceSub, Int.reduceEq, rdAt]) (by simp -dsimp -implicitDefEqProofs only [go_sem, Nat.reduceBEq, Nat.reduceAdd, Nat.reduceLeDiff, Nat.reduceSub, Int.reduceEq, rdAt]) ?_
      rintro r rs ⟨rfl, rfl⟩
      simp -dsimp -implicitDefEqProofs only [go_sem, Nat.reduceBEq, Nat.reduceAdd, Nat.reduceLeDiff, Nat.reduceSub, Int.reduceEq, rdAt]
      repeat' (first | with_reducible refine ask.of (by first | omega | decide) ?_ | ((with_reducible refine ifB'.of (fun h => ?_) (fun h => ?_)) <;> first | (exfalso; omega) | skip) | simp -dsimp -implicitDefEqProofs only [go_sem, Nat.reduceBEq, Nat.reduceAdd, Nat.reduceLeDiff, Nat.reduceSub, Int.reduceEq, blA, cty_rd, e4, d4, e3, a1, a2])
      refine CallE.mutLend (hN1) (by simp -dsimp -implicitDefEqProofs only [go_sem, Nat.reduceBEq, Nat.reduceAdd, Nat.reduceLeDiff, Nat.reduceSub, Int.reduceEq]) (by simp -dsimp -implicitDefEqProofs only [go_sem, Nat.reduceBEq, Nat.reduceAdd, Nat.reduceLeDiff, Nat.reduceSub, Int.reduceEq, rdAt]) (by simp -dsimp -implicitDefEqProofs only [go_sem, Nat.reduceBEq, Nat.reduceAdd, Nat.reduceLeDiff, Nat.reduceSub, Int.reduceEq, rdAt]) ?_
      rintro r rs ⟨rfl, rfl⟩
      simp -dsimp -implicitDefEqProofs only [go_sem, Nat.reduceBEq, Nat.reduceAdd, Nat.reduceLeDiff, Nat.reduceSub, Int.reduceEq, rdAt]
      repeat' (first | with_reducible refine ask.of (by first | omega | decide) ?_ | ((with_reducible refine ifB'.of (fun h => ?_) (fun h => ?_)) <;> first | (exfalso; omega) | skip) | simp -dsimp -implicitDefEqProofs only [go_sem, Nat.reduceBEq, Nat.reduceAdd, Nat.reduceLeDiff, Nat.reduceSub, Int.reduceEq, blA, cty_rd, e20])
      refine CallE.mutLend (hN2) (by simp -dsimp -implicitDefEqProofs only [go_sem, Nat.reduceBEq, Nat.reduceAdd, Nat.reduceLeDiff, Nat.reduceSub, Int.reduceEq]) (by simp -dsimp -implicitDefEqProofs only [go_sem, Nat.reduceBEq, Nat.reduceAdd, Nat.reduceLeDiff, Nat.reduceSub, Int.reduceEq, rdAt]) (by simp -dsimp -implicitDefEqProofs only [go_sem, Nat.reduceBEq, Nat.reduceAdd, Nat.reduceLeDiff, Nat.reduceSub, Int.reduceEq, rdAt]) ?_
      rintro r rs ⟨rfl, rfl⟩
      simp -dsimp -implicitDefEqProofs only [go_sem, Nat.reduceBEq, Nat.reduceAdd, Nat.reduceLeDiff, Nat.reduceSub, Int.reduceEq, rdAt]
      repeat' (first | with_reducible refine ask.of (by first | omega | decide) ?_ | ((with_reducible refine ifB'.of (fun h => ?_) (fun h => ?_)) <;> first | (exfalso; omega) | skip) | simp -dsimp -implicitDefEqProofs only [go_sem, Nat.reduceBEq, Nat.reduceAdd, Nat.reduceLeDiff, Nat.reduceSub, Int.reduceEq, blA, cty_rd, e29])
      rw [row0]
      exact ⟨rfl, rfl⟩
    · exact ⟨by simp, by omega⟩
  · apply exPk
    apply exOne
    refine And.intro ?_ ?_
    · skip
      refine MeetsM.intro mixed (hint []) Try.func90 rfl (by decide) res_90 rty_90 (pts := parTys Try.prog 90) (by rw [par_90]; rfl) (by kernel_rfl) ?_; rw [par_90]; intro vals; 
      simp -dsimp -implicitDefEqProofs only [go_sem, Nat.reduceBEq, Nat.reduceAdd, Nat.reduceLeDiff, Nat.reduceSub, Int.reduceEq, rdAt]
      refine CallE.mutLend (hN) (by simp -dsimp -implicitDefEqProofs only [go_sem, Nat.reduceBEq, Nat.reduceAdd, Nat.reduceLeDiff, Nat.reduceSub, Int.reduceEq]) (by simp -dsimp -implicitDefEqProofs only [go_sem, Nat.reduceBEq, Nat.reduceAdd, Nat.reduceLeDiff, Nat.reduceSub, Int.reduceEq, rdAt]) (by simp -dsimp -implicitDefEqProofs only [go_sem, Nat.reduceBEq, Nat.reduceAdd, Nat.reduceLeDiff, Nat.reduceSub, Int.reduceEq, rdAt]) ?_
      rintro r rs ⟨rfl, rfl⟩
      simp -dsimp -implicitDefEqProofs only [go_sem, Nat.reduceBEq, Nat.reduceAdd, Nat.reduceLeDiff, Nat.reduceSub, Int.reduceEq, rdAt]
      repeat' (first | with_reducible refine ask.of (by first | omega | decide) ?_ | ((with_reducible refine ifB'.of (fun h => ?_) (fun h => ?_)) <;> first | (exfalso; omega) | skip) | simp -dsimp -implicitDefEqProofs only [go_sem, Nat.reduceBEq, Nat.reduceAdd, Nat.reduceLeDiff, Nat.reduceSub, Int.reduceEq, blA, cty_rd, e4, d4, e3, a1, a2])
      refine CallE.mutLend (hN1) (by simp -dsimp -implicitDefEqProofs only [go_sem, Nat.reduceBEq, Nat.reduceAdd, Nat.reduceLeDiff, Nat.reduceSub, Int.reduceEq]) (by simp -dsimp -implicitDefEqProofs only [go_sem, Nat.reduceBEq, Nat.reduceAdd, Nat.reduceLeDiff, Nat.reduceSub, Int.reduceEq, rdAt]) (by simp -dsimp -implicitDefEqProofs only [go_sem, Nat.reduceBEq, Nat.reduceAdd, Nat.reduceLeDiff, Nat.reduceSub, Int.reduceEq, rdAt]) ?_
      rintro r rs ⟨rfl, rfl⟩
      simp -dsimp -implicitDefEqProofs only [go_sem, Nat.reduceBEq, Nat.reduceAdd, Nat.reduceLeDiff, Nat.reduceSub, Int.reduceEq, rdAt]
      repeat' (first | with_reducible refine ask.of (by first | omega | decide) ?_ | ((with_reducible refine ifB'.of (fun h => ?_) (fun h => ?_)) <;> first | (exfalso; omega) | skip) | simp -dsimp -implicitDefEqProofs only [go_sem, Nat.reduceBEq, Nat.reduceAdd, Nat.reduceLeDiff, Nat.reduceSub, Int.reduceEq, blA, cty_rd, e9])
      rw [row0]
      exact ⟨rfl, rfl⟩
    · exact ⟨by simp, by omega⟩
  · apply exPk
    apply exOne
    refine And.intro ?_ ?_
    · skip
      refine MeetsM.intro mixed (hint []) Try.func90 rfl (by decide) res_90 rty_90 (pts := parTys Try.prog 90) (by rw [par_90]; rfl) (by kernel_rfl) ?_; rw [par_90]; intro vals; 
      simp -dsimp -implicitDefEqProofs only [go_sem, Nat.reduceBEq, Nat.reduceAdd, Nat.reduceLeDiff, Nat.reduceSub, Int.reduceEq, rdAt]
      refine CallE.mutLend (hN) (by simp -dsimp -implicitDefEqProofs only [go_sem, Nat.reduceBEq, Nat.reduceAdd, Nat.reduceLeDiff, Nat.reduceSub, Int.reduceEq]) (by simp -dsimp -implicitDefEqProofs only [go_sem, Nat.reduceBEq, Nat.reduceAdd, Nat.reduceLeDiff, Nat.reduceSub, Int.reduceEq, rdAt]) (by simp -dsimp -implicitDefEqProofs only [go_sem, Nat.reduceBEq, Nat.reduceAdd, Nat.reduceLeDiff, Nat.reduceSub, Int.reduceEq, rdAt]) ?_
      rintro r rs ⟨rfl, rfl⟩
      simp -dsimp -implicitDefEqProofs only [go_sem, Nat.reduceBEq, Nat.reduceAdd, Nat.reduceLeDiff, Nat.reduceSub, Int.reduceEq, rdAt]
      repeat' (first | with_reducible refine ask.of (by first | omega | decide) ?_ | ((with_reducible refine ifB'.of (fun h => ?_) (fun h => ?_)) <;> first | (exfalso; omega) | skip) | simp -dsimp -implicitDefEqProofs only [go_sem, Nat.reduceBEq, Nat.reduceAdd, Nat.reduceLeDiff, Nat.reduceSub, Int.reduceEq, blA, cty_rd, e4, d4, e3, a1, a2])
      rw [row0]
      exact ⟨rfl, rfl⟩
    · exact ⟨by simp, by omega⟩
end Go.Ev
set_option linter.unusedSimpArgs false
set_option linter.unusedVariables false
namespace Go.Ev
open Go Go.RowKit Go.Proofs
set_option maxRecDepth 8000 in
set_option maxHeartbeats 2000000 in
theorem x_DrawEncodePacket (code : List UInt8) (hb : code.length ≤ 1048576) : ∃ v : Pk, Meets Try.prog 25 [rowB code] (fun r => r = .agg (pkC v)) ∧ v.f.length ≤ 200 := by
  have hc := cd_len code
  have hO := c_l1open code hb
  have hq0 := nxP_le (cd code) (Nat.zero_le _)
  have hq1 := nxP_le (cd code) hq0
  have hk := nxV_lt (cd code) 0
  have hN := c_next (cd code) 0 (by omega)
  have hN1 := c_next (cd code) (nxP (cd code) 0) (by omega)
  obtain ⟨w, q, hP, hwl, hql⟩ := x_drawPacket (cd code) (nxP (cd code) (nxP (cd code) 0)) hq1 hc
  have e16 := tmodL (nxV (cd code) 0) 16
  have e3 := tmodL (nxV (cd code) (nxP (cd code) 0)) 3
  have hv3 : nxV (cd code) (nxP (cd code) 0) % 3 < 3 := Nat.mod_lt _ (by decide)
  simp only [show ((3 : Nat) : Int) = 3 from rfl, show ((16 : Nat) : Int) = 16 from rfl] at e16 e3
  generalize cd code = c at *
  generalize nxP c (nxP c 0) = q2 at *
  generalize nxV c (nxP c 0) = k1 at *
  generalize nxP c 0 = q1 at *
  generalize nxV c 0 = k at *
  generalize k1 % 3 = v at *
  obtain ⟨wa, wb, wc, wd, we, wf⟩ := w
  simp only at hwl
  have a1 := addL 999999999 (n := v) (by omega) (by decide)
  have a2 := addL 999999999999 (n := v) (by omega) (by decide)
  have a3 := addL 99 (n := v) (by omega) (by decide)
  have m5 := mulL 5 (n := v) (by omega) (by decide)
  have hF := c_l1fill 9 (99 + v) (by omega)
  simp only [show ((999999999 : Nat) : Int) = 999999999 from rfl, show ((999999999999 : Nat) : Int) = 999999999999 from rfl, show ((99 : Nat) : Int) = 99 from rfl, show ((5 : Nat) : Int) = 5 from rfl] at a1 a2 a3 m5
  have hF : Meets Try.prog 78 [.v (.int .u8 9), .v (.int .i64 ((99 + v : Nat) : Int))] (fun r => r = rowB (List.replicate (99 + v) 9)) := hF
  have h16 : k % 16 = 0 ∨ k % 16 = 1 ∨ k % 16 = 2 ∨ k % 16 = 3 ∨ k % 16 = 4 ∨ k % 16 = 5 ∨ k % 16 = 6 ∨ 7 ≤ k % 16 := by omega
  rcases h16 with h16 | h16 | h16 | h16 | h16 | h16 | h16 | h16
  rotate_left 3
  · apply exPk
    refine And.intro ?_ ?_
    · refine Meets.intro mixed (hint []) Try.func25 rfl (by decide) res_25 rty_25 (by kernel_rfl) ?_; 
      simp -dsimp -implicitDefEqProofs only [go_sem, Nat.reduceBEq, Nat.reduceAdd, Nat.reduceLeDiff, Nat.reduceSub, Int.reduceEq, initE]
      refine CallE.lend (hO) (by simp -dsimp -implicitDefEqProofs only [go_sem, Nat.reduceBEq, Nat.reduceAdd, Nat.reduceLeDiff, Nat.reduceSub, Int.reduceEq, rdAt]) ?_
      rintro r rfl
      simp -dsimp -implicitDefEqProofs only [go_sem, Nat.reduceBEq, Nat.reduceAdd, Nat.reduceLeDiff, Nat.reduceSub, Int.reduceEq, rdAt]
      refine CallE.mutLend (hN) (by simp -dsimp -implicitDefEqProofs only [go_sem, Nat.reduceBEq, Nat.reduceAdd, Nat.reduceLeDiff, Nat.reduceSub, Int.reduceEq]) (by simp -dsimp -implicitDefEqProofs only [go_sem, Nat.reduceBEq, Nat.reduceAdd, Nat.reduceLeDiff, Nat.reduceSub, Int.reduceEq, rdAt]) (by simp -dsimp -implicitDefEqProofs only [go_sem, Nat.reduceBEq, Nat.reduceAdd, Nat.reduceLeDiff, Nat.reduceSub, Int.reduceEq, rdAt]) ?_
      rintro r rs ⟨rfl, rfl⟩
      simp -dsimp -implicitDefEqProofs only [go_sem, Nat.reduceBEq, Nat.reduceAdd, Nat.reduceLeDiff, Nat.reduceSub, Int.reduceEq, rdAt]
      refine CallE.mutLend (hN1) (by simp -dsimp -implicitDefEqProofs only [go_sem, Nat.reduceBEq, Nat.reduceAdd, Nat.reduceLeDiff, Nat.reduceSub, Int.reduceEq]) (by simp -dsimp -implicitDefEqProofs only [go_sem, Nat.reduceBEq, Nat.reduceAdd, Nat.reduceLeDiff, Nat.reduceSub, Int.reduceEq, rdAt]) (by simp -dsimp -implicitDefEqProofs only [go_sem, Nat.reduceBEq, Nat.reduceAdd, Nat.reduceLeDiff, Nat.reduceSub, Int.reduceEq, rdAt]) ?_
      rintro r rs ⟨rfl, rfl⟩
      simp -dsimp -implicitDefEqProofs only [go_sem, Nat.reduceBEq, Nat.reduceAdd, Nat.reduceLeDiff, Nat.reduceSub, Int.reduceEq, rdAt]
      simp -dsimp -implicitDefEqProofs only [go_sem, Nat.reduceBEq, Nat.reduceAdd, Nat.reduceLeDiff, Nat.reduceSub, Int.reduceEq, e3]
      refine CallE.mutLend (hP) (by simp -dsimp -implicitDefEqProofs only [go_sem, Nat.reduceBEq, Nat.reduceAdd, Nat.reduceLeDiff, Nat.reduceSub, Int.reduceEq]) (by simp -dsimp -implicitDefEqProofs only [go_sem, Nat.reduceBEq, Nat.reduceAdd, Nat.reduceLeDiff, Nat.reduceSub, Int.reduceEq, rdAt, pkC]) (by simp -dsimp -implicitDefEqProofs only [go_sem, Nat.reduceBEq, Nat.reduceAdd, Nat.reduceLeDiff, Nat.reduceSub, Int.reduceEq, rdAt, pkC]) ?_
      rintro r rs ⟨rfl, rfl⟩
      simp -dsimp -implicitDefEqProofs only [go_sem, Nat.reduceBEq, Nat.reduceAdd, Nat.reduceLeDiff, Nat.reduceSub, Int.reduceEq, rdAt, pkC]
      repeat' (first | with_reducible refine ask.of (by first | omega | decide) ?_ | ((with_reducible refine ifB'.of (fun h => ?_) (fun h => ?_)) <;> first | (exfalso; omega) | skip) | simp -dsimp -implicitDefEqProofs only [go_sem, Nat.reduceBEq, Nat.reduceAdd, Nat.reduceLeDiff, Nat.reduceSub, Int.reduceEq, blA, e16, a1, a2, a3, m5])
      refine CallE.of (hF) (by rintro r rfl; (repeat' first | exact trivial | exact pure_rowB _ | exact pure_rowO _ | exact pure_rowI _ | exact pure_rowBB _ | exact pure_rowPk _ _ | exact pure_rowSn _ _ | exact pure_rowFd _ _ | exact pure_rowBBB _ | exact pure_rowCl _ _ | exact pure_rowTb _ _ _ | refine And.intro ?_ ?_)) (by simp -dsimp -implicitDefEqProofs only [go_sem, Nat.reduceBEq, Nat.reduceAdd, Nat.reduceLeDiff, Nat.reduceSub, Int.reduceEq]) ?_
      rintro r rfl
      simp -dsimp -implicitDefEqProofs only [go_sem, Nat.reduceBEq, Nat.reduceAdd, Nat.reduceLeDiff, Nat.reduceSub, Int.reduceEq]
      repeat' (first | with_reducible refine ask.of (by first | omega | decide) ?_ | ((with_reducible refine ifB'.of (fun h => ?_) (fun h => ?_)) <;> first | (exfalso; omega) | skip) | simp -dsimp -implicitDefEqProofs only [go_sem, Nat.reduceBEq, Nat.reduceAdd, Nat.reduceLeDiff, Nat.reduceSub, Int.reduceEq, blA, e16, a1, a2, a3, m5])
      exact rfl
    · simp; omega
  all_goals
    apply exPk
    refine And.intro ?_ ?_
    · refine Meets.intro mixed (hint []) Try.func25 rfl (by decide) res_25 rty_25 (by kernel_rfl) ?_; 
      simp -dsimp -implicitDefEqProofs only [go_sem, Nat.reduceBEq, Nat.reduceAdd, Nat.reduceLeDiff, Nat.reduceSub, Int.reduceEq, initE]
      refine CallE.lend (hO) (by simp -dsimp -implicitDefEqProofs only [go_sem, Nat.reduceBEq, Nat.reduceAdd, Nat.reduceLeDiff, Nat.reduceSub, Int.reduceEq, rdAt]) ?_
      rintro r rfl
      simp -dsimp -implicitDefEqProofs only [go_sem, Nat.reduceBEq, Nat.reduceAdd, Nat.reduceLeDiff, Nat.reduceSub, Int.reduceEq, rdAt]
      refine CallE.mutLend (hN) (by simp -dsimp -implicitDefEqProofs only [go_sem, Nat.reduceBEq, Nat.reduceAdd, Nat.reduceLeDiff, Nat.reduceSub, Int.reduceEq]) (by simp -dsimp -implicitDefEqProofs only [go_sem, Nat.reduceBEq, Nat.reduceAdd, Nat.reduceLeDiff, Nat.reduceSub, Int.reduceEq, rdAt]) (by simp -dsimp -implicitDefEqProofs only [go_sem, Nat.reduceBEq, Nat.reduceAdd, Nat.reduceLeDiff, Nat.reduceSub, Int.reduceEq, rdAt]) ?_
      rintro r rs ⟨rfl, rfl⟩
      simp -dsimp -implicitDefEqProofs only [go_sem, Nat.reduceBEq, Nat.reduceAdd, Nat.reduceLeDiff, Nat.reduceSub, Int.reduceEq, rdAt]
      refine CallE.mutLend (hN1) (by simp -dsimp -implicitDefEqProofs only [go_sem, Nat.reduceBEq, Nat.reduceAdd, Nat.reduceLeDiff, Nat.reduceSub, Int.reduceEq]) (by simp -dsimp -implicitDefEqProofs only [go_sem, Nat.reduceBEq, Nat.reduceAdd, Nat.reduceLeDiff, Nat.reduceSub, Int.reduceEq, rdAt]) (by simp -dsimp -implicitDefEqProofs only [go_sem, Nat.reduceBEq, Nat.reduceAdd, Nat.reduceLeDiff, Nat.reduceSub, Int.reduceEq, rdAt]) ?_
      rintro r rs ⟨rfl, rfl⟩
      simp -dsimp -implicitDefEqProofs only [go_sem, Nat.reduceBEq, Nat.reduceAdd, Nat.reduceLeDiff, Nat.reduceSub, Int.reduceEq, rdAt]
      simp -dsimp -implicitDefEqProofs only [go_sem, Nat.reduceBEq, Nat.reduceAdd, Nat.reduceLeDiff, Nat.reduceSub, Int.reduceEq, e3]
      refine CallE.mutLend (hP) (by simp -dsimp -implicitDefEqProofs only [go_sem, Nat.reduceBEq, Nat.reduceAdd, Nat.reduceLeDiff, Nat.reduceSub, Int.reduceEq]) (by simp -dsimp -implicitDefEqProofs only [go_sem, Nat.reduceBEq, Nat.reduceAdd, Nat.reduceLeDiff, Nat.reduceSub, Int.reduceEq, rdAt, pkC]) (by simp -dsimp -implicitDefEqProofs only [go_sem, Nat.reduceBEq, Nat.reduceAdd, Nat.reduceLeDiff, Nat.reduceSub, Int.reduceEq, rdAt, pkC]) ?_
      rintro r rs ⟨rfl, rfl⟩
      simp -dsimp -implicitDefEqProofs only [go_sem, Nat.reduceBEq, Nat.reduceAdd, Nat.reduceLeDiff, Nat.reduceSub, Int.reduceEq, rdAt, pkC]
      repeat' (first | with_reducible refine ask.of (by first | omega | decide) ?_ | ((with_reducible refine ifB'.of (fun h => ?_) (fun h => ?_)) <;> first | (exfalso; omega) | skip) | simp -dsimp -implicitDefEqProofs only [go_sem, Nat.reduceBEq, Nat.reduceAdd, Nat.reduceLeDiff, Nat.reduceSub, Int.reduceEq, blA, e16, a1, a2, a3, m5])
      exact rfl
    · show wf.length ≤ 200; omega
end Go.Ev
set_option linter.unusedSimpArgs false
set_option linter.unusedVariables false
namespace Go.Ev
open Go Go.RowKit Go.Proofs
theorem u32_i64 (c : UInt32) : IntKind.i64.wrap (c.toNat : Int) = (c.toNat : Int) := by have := c.toNat_lt; rw [wrap_i64_of (by omega) (by omega)]
theorem shl8' {v : Nat} (h : v < 8) : IntKind.u8.wrap (1 * 2 ^ min (IntKind.u64.wrap ((v : Nat) : Int)).toNat 8) = (((UInt8.ofNat (2 ^ v)).toNat : Nat) : Int) := by
  have h1 : ∀ v, v < 8 → IntKind.u8.wrap (1 * 2 ^ min (IntKind.u64.wrap ((v : Nat) : Int)).toNat 8) = (((UInt8.ofNat (2 ^ v)).toNat : Nat) : Int) := by decide
  exact h1 v h
theorem xor8 (a b : UInt8) : IntKind.u8.wrap (((BitVec.ofInt IntKind.u8.bits (a.toNat : Int) ^^^ BitVec.ofInt IntKind.u8.bits (b.toNat : Int)).toNat : Nat) : Int) = ((a ^^^ b).toNat : Int) := by
  have e : ∀ c : UInt8, BitVec.ofInt 8 (c.toNat : Int) = c.toBitVec := fun c => by
    apply BitVec.eq_of_toNat_eq
    have := c.toNat_lt
    simp [BitVec.toNat_ofInt]
  show IntKind.u8.wrap (((BitVec.ofInt 8 (a.toNat : Int) ^^^ BitVec.ofInt 8 (b.toNat : Int)).toNat : Nat) : Int) = _
  rw [e, e]
  have h2 : (a.toBitVec ^^^ b.toBitVec).toNat = (a ^^^ b).toNat := rfl
  rw [h2, u8_of_nat]
  simp
set_option maxRecDepth 8000 in
set_option maxHeartbeats 2000000 in
theorem x_l4spoil (b c : List UInt8) (p : Nat) (hp : p ≤ c.length) (hc : c.length ≤ 600) (hb : b.length ≤ 1000000) : ∃ v : List UInt8, ∃ q : Nat, MeetsM Try.prog 85 [.mu (rowB b), .mu (rdAt c p)] (fun r rs => r = rowB v ∧ rs = [.any, rdAt c q]) ∧ v.length ≤ b.length + 1 ∧ q ≤ c.length := by
  have hq1 := nxP_le c hp
  have hq2 := nxP_le c hq1
  have hq3 := nxP_le c hq2
  have hk := nxV_lt c p
  have hk1 := nxV_lt c (nxP c p)
  have hk2 := nxV_lt c (nxP c (nxP c p))
  have hN := c_next c p (by omega)
  have hN1 := c_next c (nxP c p) (by omega)
  have hN2 := c_next c (nxP c (nxP c p)) (by omega)
  generalize nxV c (nxP c (nxP c p)) = k2 at *
  generalize nxP c (nxP c (nxP c p)) = q3 at *
  generalize nxV c (nxP c p) = k1 at *
  generalize nxP c (nxP c p) = q2 at *
  generalize nxV c p = k at *
  generalize nxP c p = q1 at *
  have m1 := mulL 256 (n := k1) (by omega) (by decide)
  have a1 : IntKind.i64.wrap (((k1 * 256 : Nat) : Int) + 1) = ((k1 * 256 + 1 : Nat) : Int) := wrap_succ (by omega)
  have a2 : IntKind.i64.wrap (((k1 * 256 + 1 : Nat) : Int) + ((k2 : Nat) : Int)) = ((k1 * 256 + 1 + k2 : Nat) : Int) := by rw [wrap_i64_of (by omega) (by omega)]; omega
  have e4 := tmodL k 4
  have d4 := tdivL 4 (n := k) (by omega)
  have e8 := tmodL (k / 4) 8
  simp only [show ((4 : Nat) : Int) = 4 from rfl, show ((256 : Nat) : Int) = 256 from rfl, show ((8 : Nat) : Int) = 8 from rfl] at e4 d4 e8 m1
  by_cases h0 : b.length = 0
  · obtain rfl : b = [] := List.eq_nil_of_length_eq_zero h0
    refine ⟨[], q3, ?_, by simp, by omega⟩
    refine MeetsM.intro mixed (hint [(30, 1), (65, 1)]) Try.func85 rfl (by decide) res_85 rty_85 (pts := parTys Try.prog 85) (by rw [par_85]; rfl) (by kernel_rfl) ?_; rw [par_85]; intro vals; 
    simp -dsimp -implicitDefEqProofs only [go_sem, Nat.reduceBEq, Nat.reduceAdd, Nat.reduceLeDiff, Nat.reduceSub, Int.reduceEq, rdAt]
    refine CallE.mutLend (hN) (by simp -dsimp -implicitDefEqProofs only [go_sem, Nat.reduceBEq, Nat.reduceAdd, Nat.reduceLeDiff, Nat.reduceSub, Int.reduceEq]) (by simp -dsimp -implicitDefEqProofs only [go_sem, Nat.reduceBEq, Nat.reduceAdd, Nat.reduceLeDiff, Nat.reduceSub, Int.reduceEq, rdAt]) (by simp -dsimp -implicitDefEqProofs only [go_sem, Nat.reduceBEq, Nat.reduceAdd, Nat.reduceLeDiff, Nat.reduceSub, Int.reduceEq, rdAt]) ?_
    rintro r rs ⟨rfl, rfl⟩
    simp -dsimp -implicitDefEqProofs only [go_sem, Nat.reduceBEq, Nat.reduceAdd, Nat.reduceLeDiff, Nat.reduceSub, Int.reduceEq, rdAt]
    refine CallE.mutLend (hN1) (by simp -dsimp -implicitDefEqProofs only [go_sem, Nat.reduceBEq, Nat.reduceAdd, Nat.reduceLeDiff, Nat.reduceSub, Int.reduceEq]) (by simp -dsimp -implicitDefEqProofs only [go_sem, Nat.reduceBEq, Nat.reduceAdd, Nat.reduceLeDiff, Nat.reduceSub, Int.reduceEq, rdAt]) (by simp -dsimp -implicitDefEqProofs only [go_sem, Nat.reduceBEq, Nat.reduceAdd, Nat.reduceLeDiff, Nat.reduceSub, Int.reduceEq, rdAt]) ?_
    rintro r rs ⟨rfl, rfl⟩
    simp -dsimp -implicitDefEqProofs only [go_sem, Nat.reduceBEq, Nat.reduceAdd, Nat.reduceLeDiff, Nat.reduceSub, Int.reduceEq, rdAt]
    simp -dsimp -implicitDefEqProofs only [go_sem, Nat.reduceBEq, Nat.reduceAdd, Nat.reduceLeDiff, Nat.reduceSub, Int.reduceEq, m1, a1]
    refine CallE.mutLend (hN2) (by simp -dsimp -implicitDefEqProofs only [go_sem, Nat.reduceBEq, Nat.reduceAdd, Nat.reduceLeDiff, Nat.reduceSub, Int.reduceEq]) (by simp -dsimp -implicitDefEqProofs only [go_sem, Nat.reduceBEq, Nat.reduceAdd, Nat.reduceLeDiff, Nat.reduceSub, Int.reduceEq, rdAt]) (by simp -dsimp -implicitDefEqProofs only [go_sem, Nat.reduceBEq, Nat.reduceAdd, Nat.reduceLeDiff, Nat.reduceSub, Int.reduceEq, rdAt]) ?_
    rintro r rs ⟨rfl, rfl⟩
    simp -dsimp -implicitDefEqProofs only [go_sem, Nat.reduceBEq, Nat.reduceAdd, Nat.reduceLeDiff, Nat.reduceSub, Int.reduceEq, rdAt]
    repeat' (first | with_reducible refine ask.of (by first | omega | decide) ?_ | ((with_reducible refine ifB'.of (fun h => ?_) (fun h => ?_)) <;> first | (exfalso; simp at h; done) | skip) | simp -dsimp -implicitDefEqProofs only [go_sem, Nat.reduceBEq, Nat.reduceAdd, Nat.reduceLeDiff, Nat.reduceSub, Int.reduceEq, a2, cty_rd])
    all_goals (first | exact ⟨rfl, rfl⟩ | exact rfl | skip)
  generalize hV : k1 * 256 + 1 + k2 = V at *
  have hvm : V % b.length < b.length := Nat.mod_lt _ (by omega)
  have eV := tmodL V b.length
  have h4 : k % 4 = 0 ∨ k % 4 = 1 ∨ k % 4 = 2 ∨ k % 4 = 3 ∧ b.length ≤ 4 ∨ k % 4 = 3 ∧ 4 < b.length := by omega
  rcases h4 with h4 | h4 | h4 | ⟨h4, h5⟩ | ⟨h4, h5⟩
  · refine ⟨b.take (V % b.length), q3, ?_, by simp; omega, by omega⟩
    refine MeetsM.intro mixed (hint [(30, 1), (65, 1)]) Try.func85 rfl (by decide) res_85 rty_85 (pts := parTys Try.prog 85) (by rw [par_85]; rfl) (by kernel_rfl) ?_; rw [par_85]; intro vals; 
    simp -dsimp -implicitDefEqProofs only [go_sem, Nat.reduceBEq, Nat.reduceAdd, Nat.reduceLeDiff, Nat.reduceSub, Int.reduceEq, rdAt]
    refine CallE.mutLend (hN) (by simp -dsimp -implicitDefEqProofs only [go_sem, Nat.reduceBEq, Nat.reduceAdd, Nat.reduceLeDiff, Nat.reduceSub, Int.reduceEq]) (by simp -dsimp -implicitDefEqProofs only [go_sem, Nat.reduceBEq, Nat.reduceAdd, Nat.reduceLeDiff, Nat.reduceSub, Int.reduceEq, rdAt]) (by simp -dsimp -implicitDefEqProofs only [go_sem, Nat.reduceBEq, Nat.reduceAdd, Nat.reduceLeDiff, Nat.reduceSub, Int.reduceEq, rdAt]) ?_
    rintro r rs ⟨rfl, rfl⟩
    simp -dsimp -implicitDefEqProofs only [go_sem, Nat.reduceBEq, Nat.reduceAdd, Nat.reduceLeDiff, Nat.reduceSub, Int.reduceEq, rdAt]
    refine CallE.mutLend (hN1) (by simp -dsimp -implicitDefEqProofs only [go_sem, Nat.reduceBEq, Nat.reduceAdd, Nat.reduceLeDiff, Nat.reduceSub, Int.reduceEq]) (by simp -dsimp -implicitDefEqProofs only [go_sem, Nat.reduceBEq, Nat.reduceAdd, Nat.reduceLeDiff, Nat.reduceSub, Int.reduceEq, rdAt]) (by simp -dsimp -implicitDefEqProofs only [go_sem, Nat.reduceBEq, Nat.reduceAdd, Nat.reduceLeDiff, Nat.reduceSub, Int.reduceEq, rdAt]) ?_
    rintro r rs ⟨rfl, rfl⟩
    simp -dsimp -implicitDefEqProofs only [go_sem, Nat.reduceBEq, Nat.reduceAdd, Nat.reduceLeDiff, Nat.reduceSub, Int.reduceEq, rdAt]
    simp -dsimp -implicitDefEqProofs only [go_sem, Nat.reduceBEq, Nat.reduceAdd, Nat.reduceLeDiff, Nat.reduceSub, Int.reduceEq, m1, a1]
    refine CallE.mutLend (hN2) (by simp -dsimp -implicitDefEqProofs only [go_sem, Nat.reduceBEq, Nat.reduceAdd, Nat.reduceLeDiff, Nat.reduceSub, Int.reduceEq]) (by simp -dsimp -implicitDefEqProofs only [go_sem, Nat.reduceBEq, Nat.reduceAdd, Nat.reduceLeDiff, Nat.reduceSub, Int.reduceEq, rdAt]) (by simp -dsimp -implicitDefEqProofs only [go_sem, Nat.reduceBEq, Nat.reduceAdd, Nat.reduceLeDiff, Nat.reduceSub, Int.reduceEq, rdAt]) ?_
    rintro r rs ⟨rfl, rfl⟩
    simp -dsimp -implicitDefEqProofs only [go_sem, Nat.reduceBEq, Nat.reduceAdd, Nat.reduceLeDiff, Nat.reduceSub, Int.reduceEq, rdAt]
    repeat' (first | with_reducible refine ask.of (by first | omega | decide) ?_ | ((with_reducible refine ifB'.of (fun h => ?_) (fun h => ?_)) <;> first | (exfalso; omega) | skip) | simp -dsimp -implicitDefEqProofs only [go_sem, Nat.reduceBEq, Nat.reduceAdd, Nat.reduceLeDiff, Nat.reduceSub, Int.reduceEq, a2, cty_rd, e4, eV])
    all_goals (first | exact ⟨rfl, rfl⟩ | exact rfl | skip)
  · refine ⟨b ++ [UInt8.ofNat V], q3, ?_, by simp, by omega⟩
    refine MeetsM.intro mixed (hint [(30, 1), (65, 1)]) Try.func85 rfl (by decide) res_85 rty_85 (pts := parTys Try.prog 85) (by rw [par_85]; rfl) (by kernel_rfl) ?_; rw [par_85]; intro vals; 
    simp -dsimp -implicitDefEqProofs only [go_sem, Nat.reduceBEq, Nat.reduceAdd, Nat.reduceLeDiff, Nat.reduceSub, Int.reduceEq, rdAt]
    refine CallE.mutLend (hN) (by simp -dsimp -implicitDefEqProofs only [go_sem, Nat.reduceBEq, Nat.reduceAdd, Nat.reduceLeDiff, Nat.reduceSub, Int.reduceEq]) (by simp -dsimp -implicitDefEqProofs only [go_sem, Nat.reduceBEq, Nat.reduceAdd, Nat.reduceLeDiff, Nat.reduceSub, Int.reduceEq, rdAt]) (by simp -dsimp -implicitDefEqProofs only [go_sem, Nat.reduceBEq, Nat.reduceAdd, Nat.reduceLeDiff, Nat.reduceSub, Int.reduceEq, rdAt]) ?_
    rintro r rs ⟨rfl, rfl⟩
    simp -dsimp -implicitDefEqProofs only [go_sem, Nat.reduceBEq, Nat.reduceAdd, Nat.reduceLeDiff, Nat.reduceSub, Int.reduceEq, rdAt]
    refine CallE.mutLend (hN1) (by simp -dsimp -implicitDefEqProofs only [go_sem, Nat.reduceBEq, Nat.reduceAdd, Nat.reduceLeDiff, Nat.reduceSub, Int.reduceEq]) (by simp -dsimp -implicitDefEqProofs only [go_sem, Nat.reduceBEq, Nat.reduceAdd, Nat.reduceLeDiff, Nat.reduceSub, Int.reduceEq, rdAt]) (by simp -dsimp -implicitDefEqProofs only [go_sem, Nat.reduceBEq, Nat.reduceAdd, Nat.reduceLeDiff, Nat.reduceSub, Int.reduceEq, rdAt]) ?_
    rintro r rs ⟨rfl, rfl⟩
    simp -dsimp -implicitDefEqProofs only [go_sem, Nat.reduceBEq, Nat.reduceAdd, Nat.reduceLeDiff, Nat.reduceSub, Int.reduceEq, rdAt]
    simp -dsimp -implicitDefEqProofs only [go_sem, Nat.reduceBEq, Nat.reduceAdd, Nat.reduceLeDiff, Nat.reduceSub, Int.reduceEq, m1, a1]
    refine CallE.mutLend (hN2) (by simp -dsimp -implicitDefEqProofs only [go_sem, Nat.reduceBEq, Nat.reduceAdd, Nat.reduceLeDiff, Nat.reduceSub, Int.reduceEq]) (by simp -dsimp -implicitDefEqProofs only [go_sem, Nat.reduceBEq, Nat.reduceAdd, Nat.reduceLeDiff, Nat.reduceSub, Int.reduceEq, rdAt]) (by simp -dsimp -implicitDefEqProofs only [go_sem, Nat.reduceBEq, Nat.reduceAdd, Nat.reduceLeDiff, Nat.reduceSub, Int.reduceEq, rdAt]) ?_
    rintro r rs ⟨rfl, rfl⟩
    simp -dsimp -implicitDefEqProofs only [go_sem, Nat.reduceBEq, Nat.reduceAdd, Nat.reduceLeDiff, Nat.reduceSub, Int.reduceEq, rdAt]
    repeat' (first | with_reducible refine ask.of (by first | omega | decide) ?_ | ((with_reducible refine ifB'.of (fun h => ?_) (fun h => ?_)) <;> first | (exfalso; omega) | skip) | simp -dsimp -implicitDefEqProofs only [go_sem, Nat.reduceBEq, Nat.reduceAdd, Nat.reduceLeDiff, Nat.reduceSub, Int.reduceEq, a2, cty_rd, e4, eV, u8_of_nat V])
    all_goals (first | exact ⟨rfl, rfl⟩ | exact rfl | skip)
  · refine ⟨b.set (V % b.length) (b[V % b.length] ^^^ UInt8.ofNat (2 ^ (k / 4 % 8))), q3, ?_, by simp, by omega⟩
    refine MeetsM.intro mixed (hint [(30, 1), (65, 1)]) Try.func85 rfl (by decide) res_85 rty_85 (pts := parTys Try.prog 85) (by rw [par_85]; rfl) (by kernel_rfl) ?_; rw [par_85]; intro vals; 
    simp -dsimp -implicitDefEqProofs only [go_sem, Nat.reduceBEq, Nat.reduceAdd, Nat.reduceLeDiff, Nat.reduceSub, Int.reduceEq, rdAt]
    refine CallE.mutLend (hN) (by simp -dsimp -implicitDefEqProofs only [go_sem, Nat.reduceBEq, Nat.reduceAdd, Nat.reduceLeDiff, Nat.reduceSub, Int.reduceEq]) (by simp -dsimp -implicitDefEqProofs only [go_sem, Nat.reduceBEq, Nat.reduceAdd, Nat.reduceLeDiff, Nat.reduceSub, Int.reduceEq, rdAt]) (by simp -dsimp -implicitDefEqProofs only [go_sem, Nat.reduceBEq, Nat.reduceAdd, Nat.reduceLeDiff, Nat.reduceSub, Int.reduceEq, rdAt]) ?_
    rintro r rs ⟨rfl, rfl⟩
    simp -dsimp -implicitDefEqProofs only [go_sem, Nat.reduceBEq, Nat.reduceAdd, Nat.reduceLeDiff, Nat.reduceSub, Int.reduceEq, rdAt]
    refine CallE.mutLend (hN1) (by simp -dsimp -implicitDefEqProofs only [go_sem, Nat.reduceBEq, Nat.reduceAdd, Nat.reduceLeDiff, Nat.reduceSub, Int.reduceEq]) (by simp -dsimp -implicitDefEqProofs only [go_sem, Nat.reduceBEq, Nat.reduceAdd, Nat.reduceLeDiff, Nat.reduceSub, Int.reduceEq, rdAt]) (by simp -dsimp -implicitDefEqProofs only [go_sem, Nat.reduceBEq, Nat.reduceAdd, Nat.reduceLeDiff, Nat.reduceSub, Int.reduceEq, rdAt]) ?_
    rintro r rs ⟨rfl, rfl⟩
    simp -dsimp -implicitDefEqProofs only [go_sem, Nat.reduceBEq, Nat.reduceAdd, Nat.reduceLeDiff, Nat.reduceSub, Int.reduceEq, rdAt]
    simp -dsimp -implicitDefEqProofs only [go_sem, Nat.reduceBEq, Nat.reduceAdd, Nat.reduceLeDiff, Nat.reduceSub, Int.reduceEq, m1, a1]
    refine CallE.mutLend (hN2) (by simp -dsimp -implicitDefEqProofs only [go_sem, Nat.reduceBEq, Nat.reduceAdd, Nat.reduceLeDiff, Nat.reduceSub, Int.reduceEq]) (by simp -dsimp -implicitDefEqProofs only [go_sem, Nat.reduceBEq, Nat.reduceAdd, Nat.reduceLeDiff, Nat.reduceSub, Int.reduceEq, rdAt]) (by simp -dsimp -implicitDefEqProofs only [go_sem, Nat.reduceBEq, Nat.reduceAdd, Nat.reduceLeDiff, Nat.reduceSub, Int.reduceEq, rdAt]) ?_
    rintro r rs ⟨rfl, rfl⟩
    simp -dsimp -implicitDefEqProofs only [go_sem, Nat.reduceBEq, Nat.reduceAdd, Nat.reduceLeDiff, Nat.reduceSub, Int.reduceEq, rdAt]
    repeat' (first | with_reducible refine ask.of (by first | omega | decide) ?_ | ((with_reducible refine ifB'.of (fun h => ?_) (fun h => ?_)) <;> first | (exfalso; omega) | skip) | simp -dsimp -implicitDefEqProofs only [go_sem, Nat.reduceBEq, Nat.reduceAdd, Nat.reduceLeDiff, Nat.reduceSub, Int.reduceEq, a2, cty_rd, e4, eV, d4, e8, bytesA_at hvm, shl8' (show k / 4 % 8 < 8 by omega), xor8, blA])
    all_goals (first | exact ⟨rfl, rfl⟩ | exact rfl | skip)
  · refine ⟨b.set (V % b.length) (b[V % b.length] ^^^ UInt8.ofNat (2 ^ (k / 4 % 8))), q3, ?_, by simp, by omega⟩
    refine MeetsM.intro mixed (hint [(30, 1), (65, 1)]) Try.func85 rfl (by decide) res_85 rty_85 (pts := parTys Try.prog 85) (by rw [par_85]; rfl) (by kernel_rfl) ?_; rw [par_85]; intro vals; 
    simp -dsimp -implicitDefEqProofs only [go_sem, Nat.reduceBEq, Nat.reduceAdd, Nat.reduceLeDiff, Nat.reduceSub, Int.reduceEq, rdAt]
    refine CallE.mutLend (hN) (by simp -dsimp -implicitDefEqProofs only [go_sem, Nat.reduceBEq, Nat.reduceAdd, Nat.reduceLeDiff, Nat.reduceSub, Int.reduceEq]) (by simp -dsimp -implicitDefEqProofs only [go_sem, Nat.reduceBEq, Nat.reduceAdd, Nat.reduceLeDiff, Nat.reduceSub, Int.reduceEq, rdAt]) (by simp -dsimp -implicitDefEqProofs only [go_sem, Nat.reduceBEq, Nat.reduceAdd, Nat.reduceLeDiff, Nat.reduceSub, Int.reduceEq, rdAt]) ?_
    rintro r rs ⟨rfl, rfl⟩
    simp -dsimp -implicitDefEqProofs only [go_sem, Nat.reduceBEq, Nat.reduceAdd, Nat.reduceLeDiff, Nat.reduceSub, Int.reduceEq, rdAt]
    refine CallE.mutLend (hN1) (by simp -dsimp -implicitDefEqProofs only [go_sem, Nat.reduceBEq, Nat.reduceAdd, Nat.reduceLeDiff, Nat.reduceSub, Int.reduceEq]) (by simp -dsimp -implicitDefEqProofs only [go_sem, Nat.reduceBEq, Nat.reduceAdd, Nat.reduceLeDiff, Nat.reduceSub, Int.reduceEq, rdAt]) (by simp -dsimp -implicitDefEqProofs only [go_sem, Nat.reduceBEq, Nat.reduceAdd, Nat.reduceLeDiff, Nat.reduceSub, Int.reduceEq, rdAt]) ?_
    rintro r rs ⟨rfl, rfl⟩
    simp -dsimp -implicitDefEqProofs only [go_sem, Nat.reduceBEq, Nat.reduceAdd, Nat.reduceLeDiff, Nat.reduceSub, Int.reduceEq, rdAt]
    simp -dsimp -implicitDefEqProofs only [go_sem, Nat.reduceBEq, Nat.reduceAdd, Nat.reduceLeDiff, Nat.reduceSub, Int.reduceEq, m1, a1]
    refine CallE.mutLend (hN2) (by simp -dsimp -implicitDefEqProofs only [go_sem, Nat.reduceBEq, Nat.reduceAdd, Nat.reduceLeDiff, Nat.reduceSub, Int.reduceEq]) (by simp -dsimp -implicitDefEqProofs only [go_sem, Nat.reduceBEq, Nat.reduceAdd, Nat.reduceLeDiff, Nat.reduceSub, Int.reduceEq, rdAt]) (by simp -dsimp -implicitDefEqProofs only [go_sem, Nat.reduceBEq, Nat.reduceAdd, Nat.reduceLeDiff, Nat.reduceSub, Int.reduceEq, rdAt]) ?_
    rintro r rs ⟨rfl, rfl⟩
    simp -dsimp -implicitDefEqProofs only [go_sem, Nat.reduceBEq, Nat.reduceAdd, Nat.reduceLeDiff, Nat.reduceSub, Int.reduceEq, rdAt]
    repeat' (first | with_reducible refine ask.of (by first | omega | decide) ?_ | ((with_reducible refine ifB'.of (fun h => ?_) (fun h => ?_)) <;> first | (exfalso; omega) | skip) | simp -dsimp -implicitDefEqProofs only [go_sem, Nat.reduceBEq, Nat.reduceAdd, Nat.reduceLeDiff, Nat.reduceSub, Int.reduceEq, a2, cty_rd, e4, eV, d4, e8, bytesA_at hvm, shl8' (show k / 4 % 8 < 8 by omega), xor8, blA, List.length_set])
    all_goals (first | exact ⟨rfl, rfl⟩ | exact rfl | skip)
  · obtain ⟨y, hy⟩ : ∃ y, b.set (V % b.length) (b[V % b.length] ^^^ UInt8.ofNat (2 ^ (k / 4 % 8))) = y := ⟨_, rfl⟩
    have hyl : y.length = b.length := by rw [← hy, List.length_set]
    refine ⟨y.take (b.length - 4) ++ leB 4 ((crcB (y.take (b.length - 4))).toNat : Int), q3, ?_, by simp [leB_length, hyl]; omega, by omega⟩
    refine MeetsM.intro mixed (hint [(30, 1), (65, 1)]) Try.func85 rfl (by decide) res_85 rty_85 (pts := parTys Try.prog 85) (by rw [par_85]; rfl) (by kernel_rfl) ?_; rw [par_85]; intro vals; 
    simp -dsimp -implicitDefEqProofs only [go_sem, Nat.reduceBEq, Nat.reduceAdd, Nat.reduceLeDiff, Nat.reduceSub, Int.reduceEq, rdAt]
    refine CallE.mutLend (hN) (by simp -dsimp -implicitDefEqProofs only [go_sem, Nat.reduceBEq, Nat.reduceAdd, Nat.reduceLeDiff, Nat.reduceSub, Int.reduceEq]) (by simp -dsimp -implicitDefEqProofs only [go_sem, Nat.reduceBEq, Nat.reduceAdd, Nat.reduceLeDiff, Nat.reduceSub, Int.reduceEq, rdAt]) (by simp -dsimp -implicitDefEqProofs only [go_sem, Nat.reduceBEq, Nat.reduceAdd, Nat.reduceLeDiff, Nat.reduceSub, Int.reduceEq, rdAt]) ?_
    rintro r rs ⟨rfl, rfl⟩
    simp -dsimp -implicitDefEqProofs only [go_sem, Nat.reduceBEq, Nat.reduceAdd, Nat.reduceLeDiff, Nat.reduceSub, Int.reduceEq, rdAt]
    refine CallE.mutLend (hN1) (by simp -dsimp -implicitDefEqProofs only [go_sem, Nat.reduceBEq, Nat.reduceAdd, Nat.reduceLeDiff, Nat.reduceSub, Int.reduceEq]) (by simp -dsimp -implicitDefEqProofs only [go_sem, Nat.reduceBEq, Nat.reduceAdd, Nat.reduceLeDiff, Nat.reduceSub, Int.reduceEq, rdAt]) (by simp -dsimp -implicitDefEqProofs only [go_sem, Nat.reduceBEq, Nat.reduceAdd, Nat.reduceLeDiff, Nat.reduceSub, Int.reduceEq, rdAt]) ?_
    rintro r rs ⟨rfl, rfl⟩
    simp -dsimp -implicitDefEqProofs only [go_sem, Nat.reduceBEq, Nat.reduceAdd, Nat.reduceLeDiff, Nat.reduceSub, Int.reduceEq, rdAt]
    simp -dsimp -implicitDefEqProofs only [go_sem, Nat.reduceBEq, Nat.reduceAdd, Nat.reduceLeDiff, Nat.reduceSub, Int.reduceEq, m1, a1]
    refine CallE.mutLend (hN2) (by simp -dsimp -implicitDefEqProofs only [go_sem, Nat.reduceBEq, Nat.reduceAdd, Nat.reduceLeDiff, Nat.reduceSub, Int.reduceEq]) (by simp -dsimp -implicitDefEqProofs only [go_sem, Nat.reduceBEq, Nat.reduceAdd, Nat.reduceLeDiff, Nat.reduceSub, Int.reduceEq, rdAt]) (by simp -dsimp -implicitDefEqProofs only [go_sem, Nat.reduceBEq, Nat.reduceAdd, Nat.reduceLeDiff, Nat.reduceSub, Int.reduceEq, rdAt]) ?_
    rintro r rs ⟨rfl, rfl⟩
    simp -dsimp -implicitDefEqProofs only [go_sem, Nat.reduceBEq, Nat.reduceAdd, Nat.reduceLeDiff, Nat.reduceSub, Int.reduceEq, rdAt]
    have e5 : IntKind.i64.wrap ((b.length : Int) - 4) = ((b.length - 4 : Nat) : Int) := by rw [wrap_i64_of (by omega) (by omega)]; omega
    repeat' (first | with_reducible refine ask.of (by first | omega | decide) ?_ | ((with_reducible refine ifB'.of (fun h => ?_) (fun h => ?_)) <;> first | (exfalso; omega) | skip) | simp -dsimp -implicitDefEqProofs only [go_sem, Nat.reduceBEq, Nat.reduceAdd, Nat.reduceLeDiff, Nat.reduceSub, Int.reduceEq, a2, cty_rd, e4, eV, d4, e8, bytesA_at hvm, shl8' (show k / 4 % 8 < 8 by omega), xor8, blA, List.length_set, hy, hyl, e5, show Int.toNat 0 = 0 from rfl, List.drop_zero])
    refine CallE.of (c_specCrc32 (y.take (b.length - 4)) (by simp; omega)) (by rintro r rfl; (repeat' first | exact trivial | exact pure_rowB _ | exact pure_rowO _ | exact pure_rowI _ | exact pure_rowBB _ | exact pure_rowPk _ _ | exact pure_rowSn _ _ | exact pure_rowFd _ _ | exact pure_rowBBB _ | exact pure_rowCl _ _ | exact pure_rowTb _ _ _ | refine And.intro ?_ ?_)) (by simp -dsimp -implicitDefEqProofs only [go_sem, Nat.reduceBEq, Nat.reduceAdd, Nat.reduceLeDiff, Nat.reduceSub, Int.reduceEq]) ?_
    rintro r rfl
    simp -dsimp -implicitDefEqProofs only [go_sem, Nat.reduceBEq, Nat.reduceAdd, Nat.reduceLeDiff, Nat.reduceSub, Int.reduceEq]
    simp -dsimp -implicitDefEqProofs only [go_sem, Nat.reduceBEq, Nat.reduceAdd, Nat.reduceLeDiff, Nat.reduceSub, Int.reduceEq, u32_i64]
    refine CallE.of (c_l1little ((crcB (y.take (b.length - 4))).toNat : Int) 4 (by decide)) (by rintro r rfl; (repeat' first | exact trivial | exact pure_rowB _ | exact pure_rowO _ | exact pure_rowI _ | exact pure_rowBB _ | exact pure_rowPk _ _ | exact pure_rowSn _ _ | exact pure_rowFd _ _ | exact pure_rowBBB _ | exact pure_rowCl _ _ | exact pure_rowTb _ _ _ | refine And.intro ?_ ?_)) (by simp -dsimp -implicitDefEqProofs only [go_sem, Nat.reduceBEq, Nat.reduceAdd, Nat.reduceLeDiff, Nat.reduceSub, Int.reduceEq, show ((4 : Nat) : Int) = 4 from rfl]) ?_
    rintro r rfl
    simp -dsimp -implicitDefEqProofs only [go_sem, Nat.reduceBEq, Nat.reduceAdd, Nat.reduceLeDiff, Nat.reduceSub, Int.reduceEq, show ((4 : Nat) : Int) = 4 from rfl]
    have hl4 : (y.take (b.length - 4)).length + (leB 4 ((crcB (y.take (b.length - 4))).toNat : Int)).length ≤ 1000000 := by rw [leB_length, List.length_take]; omega
    repeat' (first | with_reducible refine ask.of (by first | omega | decide) ?_ | simp -dsimp -implicitDefEqProofs only [go_sem, Nat.reduceBEq, Nat.reduceAdd, Nat.reduceLeDiff, Nat.reduceSub, Int.reduceEq, cty_rd, blA])
    all_goals (first | exact ⟨rfl, rfl⟩ | exact rfl | skip)
set_option maxRecDepth 8000 in
set_option maxHeartbeats 2000000 in
theorem x_DrawDecodePacket (code : List UInt8) (hb : code.length ≤ 1048576) : ∃ v : List UInt8, Meets Try.prog 29 [rowB code] (fun r => r = rowB v) ∧ v.length ≤ 1000 := by
  have hc := cd_len code
  have hO := c_l1open code hb
  have hq0 := nxP_le (cd code) (Nat.zero_le _)
  have hk := nxV_lt (cd code) 0
  have hN := c_next (cd code) 0 (by omega)
  obtain ⟨w, q, hP, hwl, hql⟩ := x_drawPacket (cd code) (nxP (cd code) 0) hq0 hc
  have hE := c_specEncodePacket w (by omega)
  have hel : (encP w).length ≤ 200 := by
    unfold encP
    split
    · simp [sumB, pkParts, leB_length]; omega
    · exact Nat.zero_le _
  obtain ⟨v, q9, hS, hvl, _⟩ := x_l4spoil (encP w) (cd code) q hql hc (by omega)
  have e2 := tmodL (nxV (cd code) 0) 2
  simp only [show ((2 : Nat) : Int) = 2 from rfl] at e2
  generalize cd code = c at *
  generalize nxP c 0 = q1 at *
  generalize nxV c 0 = k at *
  by_cases h2 : k % 2 = 0
  · refine ⟨v, ?_, by omega⟩
    refine Meets.intro mixed (hint []) Try.func29 rfl (by decide) res_29 rty_29 (by kernel_rfl) ?_; 
    simp -dsimp -implicitDefEqProofs only [go_sem, Nat.reduceBEq, Nat.reduceAdd, Nat.reduceLeDiff, Nat.reduceSub, Int.reduceEq, initE]
    refine CallE.lend (hO) (by simp -dsimp -implicitDefEqProofs only [go_sem, Nat.reduceBEq, Nat.reduceAdd, Nat.reduceLeDiff, Nat.reduceSub, Int.reduceEq, rdAt]) ?_
    rintro r rfl
    simp -dsimp -implicitDefEqProofs only [go_sem, Nat.reduceBEq, Nat.reduceAdd, Nat.reduceLeDiff, Nat.reduceSub, Int.reduceEq, rdAt]
    refine CallE.mutLend (hN) (by simp -dsimp -implicitDefEqProofs only [go_sem, Nat.reduceBEq, Nat.reduceAdd, Nat.reduceLeDiff, Nat.reduceSub, Int.reduceEq]) (by simp -dsimp -implicitDefEqProofs only [go_sem, Nat.reduceBEq, Nat.reduceAdd, Nat.reduceLeDiff, Nat.reduceSub, Int.reduceEq, rdAt]) (by simp -dsimp -implicitDefEqProofs only [go_sem, Nat.reduceBEq, Nat.reduceAdd, Nat.reduceLeDiff, Nat.reduceSub, Int.reduceEq, rdAt]) ?_
    rintro r rs ⟨rfl, rfl⟩
    simp -dsimp -implicitDefEqProofs only [go_sem, Nat.reduceBEq, Nat.reduceAdd, Nat.reduceLeDiff, Nat.reduceSub, Int.reduceEq, rdAt]
    refine CallE.mutLend (hP) (by simp -dsimp -implicitDefEqProofs only [go_sem, Nat.reduceBEq, Nat.reduceAdd, Nat.reduceLeDiff, Nat.reduceSub, Int.reduceEq]) (by simp -dsimp -implicitDefEqProofs only [go_sem, Nat.reduceBEq, Nat.reduceAdd, Nat.reduceLeDiff, Nat.reduceSub, Int.reduceEq, rdAt, pkC]) (by simp -dsimp -implicitDefEqProofs only [go_sem, Nat.reduceBEq, Nat.reduceAdd, Nat.reduceLeDiff, Nat.reduceSub, Int.reduceEq, rdAt, pkC]) ?_
    rintro r rs ⟨rfl, rfl⟩
    simp -dsimp -implicitDefEqProofs only [go_sem, Nat.reduceBEq, Nat.reduceAdd, Nat.reduceLeDiff, Nat.reduceSub, Int.reduceEq, rdAt, pkC]
    refine CallE.of (hE) (by rintro r rfl; (repeat' first | exact trivial | exact pure_rowB _ | exact pure_rowO _ | exact pure_rowI _ | exact pure_rowBB _ | exact pure_rowPk _ _ | exact pure_rowSn _ _ | exact pure_rowFd _ _ | exact pure_rowBBB _ | exact pure_rowCl _ _ | exact pure_rowTb _ _ _ | refine And.intro ?_ ?_)) (by simp -dsimp -implicitDefEqProofs only [go_sem, Nat.reduceBEq, Nat.reduceAdd, Nat.reduceLeDiff, Nat.reduceSub, Int.reduceEq, pkC]) ?_
    rintro r rfl
    simp -dsimp -implicitDefEqProofs only [go_sem, Nat.reduceBEq, Nat.reduceAdd, Nat.reduceLeDiff, Nat.reduceSub, Int.reduceEq, pkC]
    repeat' (first | with_reducible refine ask.of (by first | omega | decide) ?_ | ((with_reducible refine ifB'.of (fun h => ?_) (fun h => ?_)) <;> first | (exfalso; omega) | skip) | simp -dsimp -implicitDefEqProofs only [go_sem, Nat.reduceBEq, Nat.reduceAdd, Nat.reduceLeDiff, Nat.reduceSub, Int.reduceEq, e2])
    refine CallE.mutLend (hS) (by simp -dsimp -implicitDefEqProofs only [go_sem, Nat.reduceBEq, Nat.reduceAdd, Nat.reduceLeDiff, Nat.reduceSub, Int.reduceEq]) (by simp -dsimp -implicitDefEqProofs only [go_sem, Nat.reduceBEq, Nat.reduceAdd, Nat.reduceLeDiff, Nat.reduceSub, Int.reduceEq, rdAt]) (by simp -dsimp -implicitDefEqProofs only [go_sem, Nat.reduceBEq, Nat.reduceAdd, Nat.reduceLeDiff, Nat.reduceSub, Int.reduceEq, rdAt]) ?_
    rintro r rs ⟨rfl, rfl⟩
    simp -dsimp -implicitDefEqProofs only [go_sem, Nat.reduceBEq, Nat.reduceAdd, Nat.reduceLeDiff, Nat.reduceSub, Int.reduceEq, rdAt]
  · refine ⟨encP w, ?_, by omega⟩
    refine Meets.intro mixed (hint []) Try.func29 rfl (by decide) res_29 rty_29 (by kernel_rfl) ?_; 
    simp -dsimp -implicitDefEqProofs only [go_sem, Nat.reduceBEq, Nat.reduceAdd, Nat.reduceLeDiff, Nat.reduceSub, Int.reduceEq, initE]
    refine CallE.lend (hO) (by simp -dsimp -implicitDefEqProofs only [go_sem, Nat.reduceBEq, Nat.reduceAdd, Nat.reduceLeDiff, Nat.reduceSub, Int.reduceEq, rdAt]) ?_
    rintro r rfl
    simp -dsimp -implicitDefEqProofs only [go_sem, Nat.reduceBEq, Nat.reduceAdd, Nat.reduceLeDiff, Nat.reduceSub, Int.reduceEq, rdAt]
    refine CallE.mutLend (hN) (by simp -dsimp -implicitDefEqProofs only [go_sem, Nat.reduceBEq, Nat.reduceAdd, Nat.reduceLeDiff, Nat.reduceSub, Int.reduceEq]) (by simp -dsimp -implicitDefEqProofs only [go_sem, Nat.reduceBEq, Nat.reduceAdd, Nat.reduceLeDiff, Nat.reduceSub, Int.reduceEq, rdAt]) (by simp -dsimp -implicitDefEqProofs only [go_sem, Nat.reduceBEq, Nat.reduceAdd, Nat.reduceLeDiff, Nat.reduceSub, Int.reduceEq, rdAt]) ?_
    rintro r rs ⟨rfl, rfl⟩
    simp -dsimp -implicitDefEqProofs only [go_sem, Nat.reduceBEq, Nat.reduceAdd, Nat.reduceLeDiff, Nat.reduceSub, Int.reduceEq, rdAt]
    refine CallE.mutLend (hP) (by simp -dsimp -implicitDefEqProofs only [go_sem, Nat.reduceBEq, Nat.reduceAdd, Nat.reduceLeDiff, Nat.reduceSub, Int.reduceEq]) (by simp -dsimp -implicitDefEqProofs only [go_sem, Nat.reduceBEq, Nat.reduceAdd, Nat.reduceLeDiff, Nat.reduceSub, Int.reduceEq, rdAt, pkC]) (by simp -dsimp -implicitDefEqProofs only [go_sem, Nat.reduceBEq, Nat.reduceAdd, Nat.reduceLeDiff, Nat.reduceSub, Int.reduceEq, rdAt, pkC]) ?_
    rintro r rs ⟨rfl, rfl⟩
    simp -dsimp -implicitDefEqProofs only [go_sem, Nat.reduceBEq, Nat.reduceAdd, Nat.reduceLeDiff, Nat.reduceSub, Int.reduceEq, rdAt, pkC]
    refine CallE.of (hE) (by rintro r rfl; (repeat' first | exact trivial | exact pure_rowB _ | exact pure_rowO _ | exact pure_rowI _ | exact pure_rowBB _ | exact pure_rowPk _ _ | exact pure_rowSn _ _ | exact pure_rowFd _ _ | exact pure_rowBBB _ | exact pure_rowCl _ _ | exact pure_rowTb _ _ _ | refine And.intro ?_ ?_)) (by simp -dsimp -implicitDefEqProofs only [go_sem, Nat.reduceBEq, Nat.reduceAdd, Nat.reduceLeDiff, Nat.reduceSub, Int.reduceEq, pkC]) ?_
    rintro r rfl
    simp -dsimp -implicitDefEqProofs only [go_sem, Nat.reduceBEq, Nat.reduceAdd, Nat.reduceLeDiff, Nat.reduceSub, Int.reduceEq, pkC]
    repeat' (first | with_reducible refine ask.of (by first | omega | decide) ?_ | ((with_reducible refine ifB'.of (fun h => ?_) (fun h => ?_)) <;> first | (exfalso; omega) | skip) | simp -dsimp -implicitDefEqProofs only [go_sem, Nat.reduceBEq, Nat.reduceAdd, Nat.reduceLeDiff, Nat.reduceSub, Int.reduceEq, e2])
end Go.Ev
set_option linter.unusedSimpArgs false
set_option linter.unusedVariables false
namespace Go.Ev
open Go Go.RowKit Go.Proofs
structure Sn where
  p : Pk
  q : Int
def snC (s : Sn) : List AV := [.v (.int .i64 s.p.a), .v (.int .i64 s.p.b), .v (.int .i64 s.p.c), .v (.int .i64 s.p.d), .v (.bool s.p.e), .row 5 1 (bytesA s.p.f), .v (.int .i64 s.q)]
def rowPk (T : Nat) (ps : List Pk) : AV := .row T 6 (ra pkC ps)
def rowSn (T : Nat) (ps : List Sn) : AV := .row T 7 (ra snC ps)
theorem pure_rowPk (T : Nat) (ps : List Pk) : (rowPk T ps).pure := pureEls_ra (enc := pkC) (fun x => ⟨trivial, trivial, trivial, trivial, trivial, pureEls_bytes _, trivial⟩) ps
theorem pure_rowSn (T : Nat) (ps : List Sn) : (rowSn T ps).pure := pureEls_ra (enc := snC) (fun x => ⟨trivial, trivial, trivial, trivial, trivial, pureEls_bytes _, trivial, trivial⟩) ps
end Go.Ev
set_option linter.unusedSimpArgs false
set_option linter.unusedVariables false
namespace Go.Ev
open Go Go.RowKit Go.Proofs
structure Ms where
  k : Int
  f : Int
  n : Int
  bs : List (List UInt8)
def msC (x : Ms) : List AV := [.v (.int .i64 x.k), .v (.int .i64 x.f), .v (.int .i64 x.n), .row 22 1 (ra byC x.bs)]
theorem bleM (n : Nat) : Nat.ble n n = true := by simp
def msOk (x : Ms) : Prop := 1 ≤ x.k ∧ x.k ≤ 4 ∧ 0 ≤ x.f ∧ x.f < 12 ∧ 0 ≤ x.n ∧ x.n ≤ 1000 ∧ x.bs.length ≤ 40 ∧ (x.f = 0 ∨ x.k = 2 ∨ x.k = 3)
instance (x : Ms) : Decidable (msOk x) := by unfold msOk; infer_instance
def lensB (bs : List (List UInt8)) : List UInt8 := bs.flatMap fun b => leB 4 b.length
theorem lensB_length (bs : List (List UInt8)) : (lensB bs).length = 4 * bs.length := by
  induction bs with
  | nil => rfl
  | cons b bs ih => rw [lensB, List.flatMap_cons, List.length_append, leB_length, List.length_cons]; rw [lensB] at ih; omega
theorem lensB_succ {bs : List (List UInt8)} {i : Nat} (h : i < bs.length) : lensB (bs.take i) ++ leB 4 bs[i].length = lensB (bs.take (i + 1)) := by
  rw [List.take_succ_eq_append_getElem h, lensB, lensB, List.flatMap_append]; simp
def headB (x : Ms) : List UInt8 := [67, 77, UInt8.ofNat x.k.toNat, UInt8.ofNat x.f.toNat, UInt8.ofNat (x.n.toNat % 256), UInt8.ofNat (x.n.toNat / 256 % 256), UInt8.ofNat x.bs.length, 0]
def msBody (x : Ms) : List UInt8 := sumB [headB x, joinA (lensB x.bs :: x.bs)]
def msGood (x : Ms) : Prop := msOk x ∧ wBB x.bs ≤ 20000 ∧ (msBody x).length ≤ 20000
instance (x : Ms) : Decidable (msGood x) := by unfold msGood; infer_instance
def encM (x : Ms) : List UInt8 := if msGood x then msBody x else []
theorem encM_no {x : Ms} (h : ¬ msGood x) : encM x = [] := if_neg h
theorem encM_yes {x : Ms} (h : msGood x) : encM x = msBody x := if_pos h
theorem encM_le (x : Ms) : (encM x).length ≤ 20000 := by
  unfold encM
  split
  · rename_i h; exact h.2.2
  · simp
theorem joinA_len (xs : List (List UInt8)) : (joinA xs).length ≤ wBB xs + 7 * xs.length := by
  have := joinA_le xs xs.length (Nat.le_refl _)
  rw [List.take_length] at this
  exact this
theorem ms_b1 {x : Ms} (h : msOk x) : IntKind.u8.wrap x.k = ((UInt8.ofNat x.k.toNat).toNat : Int) := by
  obtain ⟨n, hn⟩ := Int.eq_ofNat_of_zero_le (show 0 ≤ x.k by have := h.1; omega)
  rw [hn]; exact u8_of_nat n
theorem ms_b2 {x : Ms} (h : msOk x) : IntKind.u8.wrap x.f = ((UInt8.ofNat x.f.toNat).toNat : Int) := by
  obtain ⟨n, hn⟩ := Int.eq_ofNat_of_zero_le (show 0 ≤ x.f by have := h.2.2.1; omega)
  rw [hn]; exact u8_of_nat n
theorem ms_b3 {x : Ms} (h : msOk x) : IntKind.u8.wrap x.n = ((UInt8.ofNat (x.n.toNat % 256)).toNat : Int) := by
  obtain ⟨n, hn⟩ := Int.eq_ofNat_of_zero_le (show 0 ≤ x.n by have := h.2.2.2.2.1; omega)
  rw [hn, u8_of_nat n]; simp
theorem ms_b4 {x : Ms} (h : msOk x) : IntKind.u8.wrap (x.n.fdiv (2 ^ min (Int.toNat 8) 64)) = ((UInt8.ofNat (x.n.toNat / 256 % 256)).toNat : Int) := by
  obtain ⟨n, hn⟩ := Int.eq_ofNat_of_zero_le (show 0 ≤ x.n by have := h.2.2.2.2.1; omega)
  rw [hn, show (2 : Int) ^ min (Int.toNat 8) 64 = 256 from rfl, Int.fdiv_eq_ediv_of_nonneg _ (by decide), show ((n : Int) / 256) = ((n / 256 : Nat) : Int) by omega, u8_of_nat]
  simp
theorem leB2 {x : Ms} (h : msOk x) : leB 2 x.n = [UInt8.ofNat (x.n.toNat % 256), UInt8.ofNat (x.n.toNat / 256 % 256)] := by
  have h1 := h.2.2.2.2.1
  have h2 := h.2.2.2.2.2.1
  have e : uN x.n = x.n.toNat := by unfold uN; omega
  simp [leB, e, List.range_succ]
theorem ms_good {x : Ms} (h : msOk x) (hw : wBB x.bs ≤ 20000) : (lensB x.bs :: x.bs).length + wBB (lensB x.bs :: x.bs) ≤ 20400 := by
  have h1 := h.2.2.2.2.2.2.1
  have : wBB (lensB x.bs :: x.bs) = 4 * x.bs.length + wBB x.bs := by simp [wBB, szL, lensB_length]
  rw [this, List.length_cons]; omega
end Go.Ev
set_option linter.unusedSimpArgs false
set_option linter.unusedVariables false
namespace Go.Ev
open Go Go.RowKit Go.Proofs
theorem ms_f {x : Ms} (h : ¬ msOk x) : false = decide (msOk x) := by rw [decide_eq_false h]
theorem ms_t {x : Ms} (h : msOk x) : true = decide (msOk x) := by rw [decide_eq_true h]
theorem ms_d {x : Ms} {q : Prop} [Decidable q] (h : q ↔ msOk x) : decide q = decide (msOk x) := by rw [decide_eq_decide.2 h]
set_option maxHeartbeats 2000000 in
theorem c_messageOk (x : Ms) (hx : x.bs.length ≤ 1048576) : Meets Try.prog 80 [.agg (msC x)] (fun r => r = .v (.bool (decide (msOk x)))) := by
  refine Meets.intro mixed (hint []) Try.func80 rfl (by decide) res_80 rty_80 (by kernel_rfl) ?_; 
  simp -dsimp -implicitDefEqProofs only [go_sem, Nat.reduceBEq, Nat.reduceAdd, Nat.reduceLeDiff, Nat.reduceSub, Int.reduceEq, msC]
  repeat' (first | with_reducible refine ifB'.of (fun h => ?_) (fun h => ?_) | with_reducible refine ask.of (by omega) ?_ | ((with_reducible refine ms_f ?_); unfold msOk; omega) | ((with_reducible refine ms_t ?_); unfold msOk; omega) | ((with_reducible refine ms_d ?_); unfold msOk; omega) | simp -dsimp -implicitDefEqProofs only [go_sem, Nat.reduceBEq, Nat.reduceAdd, Nat.reduceLeDiff, Nat.reduceSub, Int.reduceEq, decide_true, Bool.not_true, Bool.not_false])
theorem bytes4 (a b : UInt8) : [[AV.v (.int .u8 67)], [AV.v (.int .u8 77)], [AV.v (.int .u8 (a.toNat : Int))], [AV.v (.int .u8 (b.toNat : Int))]] = bytesA [67, 77, a, b] := rfl
theorem bytes2 (a : UInt8) : [[AV.v (.int .u8 (a.toNat : Int))], [AV.v (.int .u8 0)]] = bytesA [a, 0] := rfl
theorem bytes8 (a b c d e : UInt8) : [[AV.v (.int .u8 67)], [AV.v (.int .u8 77)], [AV.v (.int .u8 (a.toNat : Int))], [AV.v (.int .u8 (b.toNat : Int))], [AV.v (.int .u8 (c.toNat : Int))], [AV.v (.int .u8 (d.toNat : Int))], [AV.v (.int .u8 (e.toNat : Int))], [AV.v (.int .u8 0)]] = bytesA [67, 77, a, b, c, d, e, 0] := rfl
theorem c_specJoinAlignedL (l : List UInt8) (bs : List (List UInt8)) (h : (l :: bs).length + wBB (l :: bs) ≤ 1048576) : Meets Try.prog 148 [.row 22 1 ([.row 5 1 (bytesA l)] :: ra byE bs)] (fun r => r = rowB (joinA (l :: bs))) :=
  Meets.look (bs := [rowBB (l :: bs)]) ⟨Look.row ⟨⟨Look.refl _, trivial⟩, look_byE bs⟩, trivial⟩ (c_specJoinAligned (l :: bs) h)
theorem c_implJoinAlignedL (l : List UInt8) (bs : List (List UInt8)) (h : (l :: bs).length + wBB (l :: bs) ≤ 1048576) : Meets Try.prog 83 [.row 22 1 ([.row 5 1 (bytesA l)] :: ra byE bs)] (fun r => r = rowB (joinA (l :: bs))) :=
  Meets.look (bs := [rowBB (l :: bs)]) ⟨Look.row ⟨⟨Look.refl _, trivial⟩, look_byE bs⟩, trivial⟩ (c_implJoinAligned (l :: bs) h)
theorem msBody_eq (x : Ms) : msBody x = headB x ++ joinA (lensB x.bs :: x.bs) ++ leB 4 (crcB (headB x ++ joinA (lensB x.bs :: x.bs))).toNat := by simp [msBody, sumB]
set_option maxHeartbeats 1000000 in
theorem c_l4encode (x : Ms) (h : msOk x) (hw : wBB x.bs ≤ 20000) : Meets Try.prog 79 [.agg (msC x)] (fun r => r = rowB (msBody x)) := by
  refine Meets.intro mixed (hint [(3, 122)]) Try.func79 rfl (by decide) res_79 rty_79 (by kernel_rfl) ?_; 
  have hl := h.2.2.2.2.2.2.1
  simp -dsimp -implicitDefEqProofs only [go_sem, Nat.reduceBEq, Nat.reduceAdd, Nat.reduceLeDiff, Nat.reduceSub, Int.reduceEq, msC]
  refine LoopE.cnt x.bs.length (fun i s => s.env 1 = .ptr [1] 0 0 0 ∧ s.env 3 = .ref [3] ∧ s.env 4 = .v (.int .i64 i) ∧ s.σ [1] = some (.box 43 [.v (.int .i64 x.k), .v (.int .i64 x.f), .v (.int .i64 x.n), .rd .ent 22 1 (ra byC x.bs)]) ∧ s.σ [3] = some (.row 5 1 (bytesA (lensB (x.bs.take i))))) ⟨by simp -dsimp -implicitDefEqProofs only [go_sem, Nat.reduceBEq, Nat.reduceAdd, Nat.reduceLeDiff, Nat.reduceSub, Int.reduceEq], by simp -dsimp -implicitDefEqProofs only [go_sem, Nat.reduceBEq, Nat.reduceAdd, Nat.reduceLeDiff, Nat.reduceSub, Int.reduceEq], by simp -dsimp -implicitDefEqProofs only [go_sem, Nat.reduceBEq, Nat.reduceAdd, Nat.reduceLeDiff, Nat.reduceSub, Int.reduceEq], by simp -dsimp -implicitDefEqProofs only [go_sem, Nat.reduceBEq, Nat.reduceAdd, Nat.reduceLeDiff, Nat.reduceSub, Int.reduceEq], by simp -dsimp -implicitDefEqProofs only [go_sem, Nat.reduceBEq, Nat.reduceAdd, Nat.reduceLeDiff, Nat.reduceSub, Int.reduceEq] <;> rfl⟩ ?_
  rintro i ⟨e, σ⟩ hi ⟨h1, h3, h4, hs1, hs3⟩ K hK
  simp only at h1 h3 h4 hs1 hs3
  simp -dsimp -implicitDefEqProofs only [go_sem, Nat.reduceBEq, Nat.reduceAdd, Nat.reduceLeDiff, Nat.reduceSub, Int.reduceEq, h1, h3, h4, hs1, hs3]
  repeat (first | with_reducible refine ask.of (by first | omega | decide) ?_ | simp -dsimp -implicitDefEqProofs only [go_sem, Nat.reduceBEq, Nat.reduceAdd, Nat.reduceLeDiff, Nat.reduceSub, Int.reduceEq, h1, h3, h4, hs1, hs3, bleM])
  refine ifB'.of (fun hlt => ?_) (fun hlt => ?_)
  · have hlt : i < x.bs.length := by omega
    have hll := lensB_length (x.bs.take i)
    have htl : (x.bs.take i).length = i := by simp; omega
    simp -dsimp -implicitDefEqProofs only [go_sem, Nat.reduceBEq, Nat.reduceAdd, Nat.reduceLeDiff, Nat.reduceSub, Int.reduceEq, h1, h3, h4, hs1, hs3, byA_at hlt]
    repeat (first | with_reducible refine ask.of (by first | omega | decide) ?_ | simp -dsimp -implicitDefEqProofs only [go_sem, Nat.reduceBEq, Nat.reduceAdd, Nat.reduceLeDiff, Nat.reduceSub, Int.reduceEq, h1, h3, h4, hs1, hs3, byA_at hlt, bleM])
    refine CallE.of (c_l1little x.bs[i].length 4 (by omega)) (by rintro r rfl; (repeat' first | exact trivial | exact pure_rowB _ | exact pure_rowO _ | exact pure_rowI _ | exact pure_rowBB _ | exact pure_rowPk _ _ | exact pure_rowSn _ _ | exact pure_rowFd _ _ | exact pure_rowBBB _ | exact pure_rowCl _ _ | exact pure_rowTb _ _ _ | refine And.intro ?_ ?_)) (by simp -dsimp -implicitDefEqProofs only [go_sem, Nat.reduceBEq, Nat.reduceAdd, Nat.reduceLeDiff, Nat.reduceSub, Int.reduceEq, h1, h3, h4, hs1, hs3, show ((4 : Nat) : Int) = 4 from rfl]) ?_
    rintro r rfl
    simp -dsimp -implicitDefEqProofs only [go_sem, Nat.reduceBEq, Nat.reduceAdd, Nat.reduceLeDiff, Nat.reduceSub, Int.reduceEq, h1, h3, h4, hs1, hs3, show ((4 : Nat) : Int) = 4 from rfl]
    repeat (first | with_reducible refine ask.of (by first | omega | (rw [hll, htl, leB_length]; omega)) ?_ | simp -dsimp -implicitDefEqProofs only [go_sem, Nat.reduceBEq, Nat.reduceAdd, Nat.reduceLeDiff, Nat.reduceSub, Int.reduceEq, h1, h3, h4, hs1, hs3, leB_length])
    refine hK _ hlt ?_
    simp -dsimp -implicitDefEqProofs only [go_sem, Nat.reduceBEq, Nat.reduceAdd, Nat.reduceLeDiff, Nat.reduceSub, Int.reduceEq, h1, h3, h4, hs1, hs3, wrap_succ (show i < 4611686018427387904 by omega), lensB_succ hlt]
  · have : i = x.bs.length := by omega
    subst this
    rw [List.take_length] at hs3
    have hg := ms_good h hw
    have hj := joinA_len (lensB x.bs :: x.bs)
    have hll := lensB_length x.bs
    simp -dsimp -implicitDefEqProofs only [go_sem, Nat.reduceBEq, Nat.reduceAdd, Nat.reduceLeDiff, Nat.reduceSub, Int.reduceEq, h1, h3, h4, hs1, hs3, ms_b1 h, ms_b2 h]
    repeat (first | with_reducible refine ask.of (by first | omega | decide) ?_ | simp -dsimp -implicitDefEqProofs only [go_sem, Nat.reduceBEq, Nat.reduceAdd, Nat.reduceLeDiff, Nat.reduceSub, Int.reduceEq, h1, h3, h4, hs1, hs3, bleM, ms_b1 h, ms_b2 h, bytes4])
    refine CallE.of (c_l1little x.n 2 (by omega)) (by rintro r rfl; (repeat' first | exact trivial | exact pure_rowB _ | exact pure_rowO _ | exact pure_rowI _ | exact pure_rowBB _ | exact pure_rowPk _ _ | exact pure_rowSn _ _ | exact pure_rowFd _ _ | exact pure_rowBBB _ | exact pure_rowCl _ _ | exact pure_rowTb _ _ _ | refine And.intro ?_ ?_)) (by simp -dsimp -implicitDefEqProofs only [go_sem, Nat.reduceBEq, Nat.reduceAdd, Nat.reduceLeDiff, Nat.reduceSub, Int.reduceEq, h1, h3, h4, hs1, hs3, show ((2 : Nat) : Int) = 2 from rfl]) ?_
    rintro r rfl
    simp -dsimp -implicitDefEqProofs only [go_sem, Nat.reduceBEq, Nat.reduceAdd, Nat.reduceLeDiff, Nat.reduceSub, Int.reduceEq, h1, h3, h4, hs1, hs3, show ((2 : Nat) : Int) = 2 from rfl]
    repeat (first | with_reducible refine ask.of (by first | omega | (simp only [List.length_append, List.length_cons, List.length_nil, leB_length]; omega)) ?_ | simp -dsimp -implicitDefEqProofs only [go_sem, Nat.reduceBEq, Nat.reduceAdd, Nat.reduceLeDiff, Nat.reduceSub, Int.reduceEq, h1, h3, h4, hs1, hs3, bleM, leB_length, u8_of_nat, bytes2, byE_asrw])
    refine CallE.of (c_specJoinAlignedL (lensB x.bs) x.bs (by omega)) (by rintro r rfl; (repeat' first | exact trivial | exact pure_rowB _ | exact pure_rowO _ | exact pure_rowI _ | exact pure_rowBB _ | exact pure_rowPk _ _ | exact pure_rowSn _ _ | exact pure_rowFd _ _ | exact pure_rowBBB _ | exact pure_rowCl _ _ | exact pure_rowTb _ _ _ | refine And.intro ?_ ?_)) (by simp -dsimp -implicitDefEqProofs only [go_sem, Nat.reduceBEq, Nat.reduceAdd, Nat.reduceLeDiff, Nat.reduceSub, Int.reduceEq, h1, h3, h4, hs1, hs3]) ?_
    rintro r rfl
    simp -dsimp -implicitDefEqProofs only [go_sem, Nat.reduceBEq, Nat.reduceAdd, Nat.reduceLeDiff, Nat.reduceSub, Int.reduceEq, h1, h3, h4, hs1, hs3]
    have hjl : (headB x ++ joinA (lensB x.bs :: x.bs)).length ≤ 30000 := by
      have : wBB (lensB x.bs :: x.bs) = 4 * x.bs.length + wBB x.bs := by simp [wBB, szL, lensB_length]
      simp only [List.length_append, headB, List.length_cons, List.length_nil] at hj ⊢
      omega
    have hjl2 : (joinA (lensB x.bs :: x.bs)).length ≤ 30000 := by rw [List.length_append] at hjl; omega
    repeat (first | with_reducible refine ask.of (by first | omega | (simp only [List.length_append, List.length_cons, List.length_nil, leB_length]; omega)) ?_ | simp -dsimp -implicitDefEqProofs only [go_sem, Nat.reduceBEq, Nat.reduceAdd, Nat.reduceLeDiff, Nat.reduceSub, Int.reduceEq, h1, h3, h4, hs1, hs3, bleM, leB_length])
    refine CallE.of (c_specCrc32 (headB x ++ joinA (lensB x.bs :: x.bs)) (by omega)) (by rintro r rfl; (repeat' first | exact trivial | exact pure_rowB _ | exact pure_rowO _ | exact pure_rowI _ | exact pure_rowBB _ | exact pure_rowPk _ _ | exact pure_rowSn _ _ | exact pure_rowFd _ _ | exact pure_rowBBB _ | exact pure_rowCl _ _ | exact pure_rowTb _ _ _ | refine And.intro ?_ ?_)) (by simp -dsimp -implicitDefEqProofs only [go_sem, Nat.reduceBEq, Nat.reduceAdd, Nat.reduceLeDiff, Nat.reduceSub, Int.reduceEq, h1, h3, h4, hs1, hs3, headB, leB2 h, List.cons_append, List.nil_append, List.append_assoc]) ?_
    rintro r rfl
    simp -dsimp -implicitDefEqProofs only [go_sem, Nat.reduceBEq, Nat.reduceAdd, Nat.reduceLeDiff, Nat.reduceSub, Int.reduceEq, h1, h3, h4, hs1, hs3, headB, leB2 h, List.cons_append, List.nil_append, List.append_assoc]
    simp -dsimp -implicitDefEqProofs only [go_sem, Nat.reduceBEq, Nat.reduceAdd, Nat.reduceLeDiff, Nat.reduceSub, Int.reduceEq, h1, h3, h4, hs1, hs3, wrap_u32i]
    refine CallE.of (c_l1little (crcB (headB x ++ joinA (lensB x.bs :: x.bs))).toNat 4 (by omega)) (by rintro r rfl; (repeat' first | exact trivial | exact pure_rowB _ | exact pure_rowO _ | exact pure_rowI _ | exact pure_rowBB _ | exact pure_rowPk _ _ | exact pure_rowSn _ _ | exact pure_rowFd _ _ | exact pure_rowBBB _ | exact pure_rowCl _ _ | exact pure_rowTb _ _ _ | refine And.intro ?_ ?_)) (by simp -dsimp -implicitDefEqProofs only [go_sem, Nat.reduceBEq, Nat.reduceAdd, Nat.reduceLeDiff, Nat.reduceSub, Int.reduceEq, h1, h3, h4, hs1, hs3, show ((4 : Nat) : Int) = 4 from rfl, headB, leB2 h, List.cons_append, List.nil_append, List.append_assoc]) ?_
    rintro r rfl
    simp -dsimp -implicitDefEqProofs only [go_sem, Nat.reduceBEq, Nat.reduceAdd, Nat.reduceLeDiff, Nat.reduceSub, Int.reduceEq, h1, h3, h4, hs1, hs3, show ((4 : Nat) : Int) = 4 from rfl, headB, leB2 h, List.cons_append, List.nil_append, List.append_assoc]
    repeat (first | with_reducible refine ask.of (by first | omega | (simp only [List.length_append, List.length_cons, List.length_nil, leB_length]; omega)) ?_ | simp -dsimp -implicitDefEqProofs only [go_sem, Nat.reduceBEq, Nat.reduceAdd, Nat.reduceLeDiff, Nat.reduceSub, Int.reduceEq, h1, h3, h4, hs1, hs3, bleM, leB_length])
    simp [msBody_eq, headB, leB2 h]
end Go.Ev
set_option linter.unusedSimpArgs false
set_option linter.unusedVariables false
namespace Go.Ev
open Go Go.RowKit Go.Proofs
theorem em_f {x : Ms} (h : ¬ msGood x) : AV.row 5 1 [] = AV.row 5 1 (bytesA (encM x)) := by rw [encM_no h]; rfl
theorem em_ok {x : Ms} (h : ¬ msOk x) : AV.row 5 1 [] = AV.row 5 1 (bytesA (encM x)) := em_f (fun h' => h h'.1)
set_option maxHeartbeats 2000000 in
theorem c_specEncodeMessage (x : Ms) (hx : x.bs.length + wBB x.bs ≤ 1048576) : Meets Try.prog 17 [.agg (msC x)] (fun r => r = rowB (encM x)) := by
  refine Meets.intro mixed (hint []) Try.func17 rfl (by decide) res_17 rty_17 (by kernel_rfl) ?_; 
  simp -dsimp -implicitDefEqProofs only [go_sem, Nat.reduceBEq, Nat.reduceAdd, Nat.reduceLeDiff, Nat.reduceSub, Int.reduceEq, msC]
  repeat' (first | with_reducible refine ifB'.of (fun h => ?_) (fun h => ?_) | with_reducible refine ask.of (by omega) ?_ | ((with_reducible refine em_ok ?_); unfold msOk; omega) | simp -dsimp -implicitDefEqProofs only [go_sem, Nat.reduceBEq, Nat.reduceAdd, Nat.reduceLeDiff, Nat.reduceSub, Int.reduceEq, decide_true, Bool.not_true, Bool.not_false])
  all_goals
    have hok : msOk x := by unfold msOk; omega
    refine LoopE.cnt x.bs.length (fun i s => s.env 1 = .ptr [1] 0 0 0 ∧ s.env 3 = .v (.int .i64 (wBB (x.bs.take i) : Nat)) ∧ s.env 4 = .v (.int .i64 i) ∧ s.σ [1] = some (.box 43 [.v (.int .i64 x.k), .v (.int .i64 x.f), .v (.int .i64 x.n), .rd .ent 22 1 (ra byC x.bs)])) ⟨by simp -dsimp -implicitDefEqProofs only [go_sem, Nat.reduceBEq, Nat.reduceAdd, Nat.reduceLeDiff, Nat.reduceSub, Int.reduceEq], by simp -dsimp -implicitDefEqProofs only [go_sem, Nat.reduceBEq, Nat.reduceAdd, Nat.reduceLeDiff, Nat.reduceSub, Int.reduceEq] <;> rfl, by simp -dsimp -implicitDefEqProofs only [go_sem, Nat.reduceBEq, Nat.reduceAdd, Nat.reduceLeDiff, Nat.reduceSub, Int.reduceEq], by simp -dsimp -implicitDefEqProofs only [go_sem, Nat.reduceBEq, Nat.reduceAdd, Nat.reduceLeDiff, Nat.reduceSub, Int.reduceEq]⟩ ?_
    rintro i ⟨e, σ⟩ hi ⟨h1, h3, h4, hs1⟩ K hK
    simp only at h1 h3 h4 hs1
    simp -dsimp -implicitDefEqProofs only [go_sem, Nat.reduceBEq, Nat.reduceAdd, Nat.reduceLeDiff, Nat.reduceSub, Int.reduceEq, h1, h3, h4, hs1]
    repeat (first | with_reducible refine ask.of (by first | omega | decide) ?_ | simp -dsimp -implicitDefEqProofs only [go_sem, Nat.reduceBEq, Nat.reduceAdd, Nat.reduceLeDiff, Nat.reduceSub, Int.reduceEq, h1, h3, h4, hs1, bleM])
    refine ifB'.of (fun hlt => ?_) (fun hlt => ?_)
    · have hlt : i < x.bs.length := by omega
      have hs : wBB (x.bs.take (i + 1)) = wBB (x.bs.take i) + x.bs[i].length := szL_take_succ List.length hlt
      have hsl : wBB (x.bs.take (i + 1)) ≤ wBB x.bs := szL_take_le List.length x.bs (i + 1)
      have e1 : IntKind.i64.wrap ((wBB (x.bs.take i) : Int) + x.bs[i].length) = (wBB (x.bs.take (i + 1)) : Nat) := by rw [wrap_i64_of (by omega) (by omega), hs]; omega
      simp -dsimp -implicitDefEqProofs only [go_sem, Nat.reduceBEq, Nat.reduceAdd, Nat.reduceLeDiff, Nat.reduceSub, Int.reduceEq, h1, h3, h4, hs1, byA_at hlt, e1]
      repeat (first | with_reducible refine ask.of (by first | omega | decide) ?_ | simp -dsimp -implicitDefEqProofs only [go_sem, Nat.reduceBEq, Nat.reduceAdd, Nat.reduceLeDiff, Nat.reduceSub, Int.reduceEq, h1, h3, h4, hs1, byA_at hlt, bleM, e1])
      refine hK _ hlt ?_
      simp -dsimp -implicitDefEqProofs only [go_sem, Nat.reduceBEq, Nat.reduceAdd, Nat.reduceLeDiff, Nat.reduceSub, Int.reduceEq, h1, h3, h4, hs1, wrap_succ (show i < 4611686018427387904 by omega), e1]
    · have : i = x.bs.length := by omega
      subst this
      rw [List.take_length] at h3
      simp -dsimp -implicitDefEqProofs only [go_sem, Nat.reduceBEq, Nat.reduceAdd, Nat.reduceLeDiff, Nat.reduceSub, Int.reduceEq, h1, h3, h4, hs1]
      refine ifB'.of (fun hg => ?_) (fun hg => ?_)
      · simp -dsimp -implicitDefEqProofs only [go_sem, Nat.reduceBEq, Nat.reduceAdd, Nat.reduceLeDiff, Nat.reduceSub, Int.reduceEq, h1, h3, h4, hs1]
        exact em_f (fun h' => by have := h'.2.1; omega)
      simp -dsimp -implicitDefEqProofs only [go_sem, Nat.reduceBEq, Nat.reduceAdd, Nat.reduceLeDiff, Nat.reduceSub, Int.reduceEq, h1, h3, h4, hs1]
      repeat (first | with_reducible refine ask.of (by first | omega | decide) ?_ | simp -dsimp -implicitDefEqProofs only [go_sem, Nat.reduceBEq, Nat.reduceAdd, Nat.reduceLeDiff, Nat.reduceSub, Int.reduceEq, h1, h3, h4, hs1, bleM])
      refine CallE.of (c_l4encode x hok (by omega)) (by rintro r rfl; (repeat' first | exact trivial | exact pure_rowB _ | exact pure_rowO _ | exact pure_rowI _ | exact pure_rowBB _ | exact pure_rowPk _ _ | exact pure_rowSn _ _ | exact pure_rowFd _ _ | exact pure_rowBBB _ | exact pure_rowCl _ _ | exact pure_rowTb _ _ _ | refine And.intro ?_ ?_)) (by simp -dsimp -implicitDefEqProofs only [go_sem, Nat.reduceBEq, Nat.reduceAdd, Nat.reduceLeDiff, Nat.reduceSub, Int.reduceEq, h1, h3, h4, hs1, msC]) ?_
      rintro r rfl
      simp -dsimp -implicitDefEqProofs only [go_sem, Nat.reduceBEq, Nat.reduceAdd, Nat.reduceLeDiff, Nat.reduceSub, Int.reduceEq, h1, h3, h4, hs1, msC]
      refine ifB'.of (fun hg2 => ?_) (fun hg2 => ?_)
      · simp -dsimp -implicitDefEqProofs only [go_sem, Nat.reduceBEq, Nat.reduceAdd, Nat.reduceLeDiff, Nat.reduceSub, Int.reduceEq, h1, h3, h4, hs1]
        exact em_f (fun h' => by have := h'.2.2; omega)
      · simp -dsimp -implicitDefEqProofs only [go_sem, Nat.reduceBEq, Nat.reduceAdd, Nat.reduceLeDiff, Nat.reduceSub, Int.reduceEq, h1, h3, h4, hs1]
        rw [encM_yes ⟨hok, by omega, by omega⟩]
theorem byC2 (a b : List UInt8) : ra byC [a, b] = [[.row 5 1 (bytesA a)], [.row 5 1 (bytesA b)]] := rfl
set_option maxHeartbeats 2000000 in
theorem c_implEncodeMessage (x : Ms) (hx : x.bs.length + wBB x.bs ≤ 1048576) : Meets Try.prog 18 [.agg (msC x)] (fun r => r = rowB (encM x)) := by
  refine Meets.intro mixed (hint []) Try.func18 rfl (by decide) res_18 rty_18 (by kernel_rfl) ?_; 
  simp -dsimp -implicitDefEqProofs only [go_sem, Nat.reduceBEq, Nat.reduceAdd, Nat.reduceLeDiff, Nat.reduceSub, Int.reduceEq, msC]
  repeat (first | with_reducible refine ask.of (by first | omega | decide) ?_ | simp -dsimp -implicitDefEqProofs only [go_sem, Nat.reduceBEq, Nat.reduceAdd, Nat.reduceLeDiff, Nat.reduceSub, Int.reduceEq, bleM])
  refine CallE.of (c_messageOk x (by omega)) (by rintro r rfl; (repeat' first | exact trivial | exact pure_rowB _ | exact pure_rowO _ | exact pure_rowI _ | exact pure_rowBB _ | exact pure_rowPk _ _ | exact pure_rowSn _ _ | exact pure_rowFd _ _ | exact pure_rowBBB _ | exact pure_rowCl _ _ | exact pure_rowTb _ _ _ | refine And.intro ?_ ?_)) (by simp -dsimp -implicitDefEqProofs only [go_sem, Nat.reduceBEq, Nat.reduceAdd, Nat.reduceLeDiff, Nat.reduceSub, Int.reduceEq, msC]) ?_
  rintro r rfl
  simp -dsimp -implicitDefEqProofs only [go_sem, Nat.reduceBEq, Nat.reduceAdd, Nat.reduceLeDiff, Nat.reduceSub, Int.reduceEq, msC]
  by_cases hok : msOk x
  case neg =>
    simp -dsimp -implicitDefEqProofs only [go_sem, Nat.reduceBEq, Nat.reduceAdd, Nat.reduceLeDiff, Nat.reduceSub, Int.reduceEq, decide_eq_false hok, Bool.not_false]
    exact em_ok hok
  have hl := hok.2.2.2.2.2.2.1
  simp -dsimp -implicitDefEqProofs only [go_sem, Nat.reduceBEq, Nat.reduceAdd, Nat.reduceLeDiff, Nat.reduceSub, Int.reduceEq, decide_eq_true hok, Bool.not_true]
  repeat (first | with_reducible refine ask.of (by first | omega | decide) ?_ | simp -dsimp -implicitDefEqProofs only [go_sem, Nat.reduceBEq, Nat.reduceAdd, Nat.reduceLeDiff, Nat.reduceSub, Int.reduceEq, bleM])
  refine LoopE.cnt x.bs.length (fun i s => s.env 1 = .ptr [1] 0 0 0 ∧ s.env 3 = .ref [12] ∧ s.env 4 = .v (.int .i64 (wBB (x.bs.take i) : Nat)) ∧ s.env 14 = .rd .ent 22 1 (ra byC x.bs) ∧ s.env 15 = .v (.int .i64 x.bs.length) ∧ s.env 16 = .v (.int .i64 i) ∧ s.σ [1] = some (.box 43 [.v (.int .i64 x.k), .v (.int .i64 x.f), .v (.int .i64 x.n), .rd .ent 22 1 (ra byC x.bs)]) ∧ s.σ [12] = some (.row 5 1 (bytesA (lensB (x.bs.take i)))) ∧ wBB (x.bs.take i) ≤ 20000) ⟨by simp -dsimp -implicitDefEqProofs only [go_sem, Nat.reduceBEq, Nat.reduceAdd, Nat.reduceLeDiff, Nat.reduceSub, Int.reduceEq], by simp -dsimp -implicitDefEqProofs only [go_sem, Nat.reduceBEq, Nat.reduceAdd, Nat.reduceLeDiff, Nat.reduceSub, Int.reduceEq], by simp -dsimp -implicitDefEqProofs only [go_sem, Nat.reduceBEq, Nat.reduceAdd, Nat.reduceLeDiff, Nat.reduceSub, Int.reduceEq] <;> rfl, by simp -dsimp -implicitDefEqProofs only [go_sem, Nat.reduceBEq, Nat.reduceAdd, Nat.reduceLeDiff, Nat.reduceSub, Int.reduceEq], by simp -dsimp -implicitDefEqProofs only [go_sem, Nat.reduceBEq, Nat.reduceAdd, Nat.reduceLeDiff, Nat.reduceSub, Int.reduceEq], by simp -dsimp -implicitDefEqProofs only [go_sem, Nat.reduceBEq, Nat.reduceAdd, Nat.reduceLeDiff, Nat.reduceSub, Int.reduceEq], by simp -dsimp -implicitDefEqProofs only [go_sem, Nat.reduceBEq, Nat.reduceAdd, Nat.reduceLeDiff, Nat.reduceSub, Int.reduceEq], by simp -dsimp -implicitDefEqProofs only [go_sem, Nat.reduceBEq, Nat.reduceAdd, Nat.reduceLeDiff, Nat.reduceSub, Int.reduceEq] <;> rfl, by simp [wBB, szL]⟩ ?_
  rintro i ⟨e, σ⟩ hi ⟨h1, h3, h4, h14, h15, h16, hs1, hs12, hw⟩ K hK
  simp only at h1 h3 h4 h14 h15 h16 hs1 hs12
  simp -dsimp -implicitDefEqProofs only [go_sem, Nat.reduceBEq, Nat.reduceAdd, Nat.reduceLeDiff, Nat.reduceSub, Int.reduceEq, h1, h3, h4, h14, h15, h16, hs1, hs12]
  refine ifB'.of (fun hlt => ?_) (fun hlt => ?_)
  · have hlt : i < x.bs.length := by omega
    have hs : wBB (x.bs.take (i + 1)) = wBB (x.bs.take i) + x.bs[i].length := szL_take_succ List.length hlt
    have hsl : wBB (x.bs.take (i + 1)) ≤ wBB x.bs := szL_take_le List.length x.bs (i + 1)
    have e1 : IntKind.i64.wrap ((wBB (x.bs.take i) : Int) + x.bs[i].length) = (wBB (x.bs.take (i + 1)) : Nat) := by rw [wrap_i64_of (by omega) (by omega), hs]; omega
    have hll := lensB_length (x.bs.take i)
    have htl : (x.bs.take i).length = i := by simp; omega
    simp -dsimp -implicitDefEqProofs only [go_sem, Nat.reduceBEq, Nat.reduceAdd, Nat.reduceLeDiff, Nat.reduceSub, Int.reduceEq, h1, h3, h4, h14, h15, h16, hs1, hs12, byA_at hlt, e1]
    repeat (first | with_reducible refine ask.of (by first | omega | decide) ?_ | simp -dsimp -implicitDefEqProofs only [go_sem, Nat.reduceBEq, Nat.reduceAdd, Nat.reduceLeDiff, Nat.reduceSub, Int.reduceEq, h1, h3, h4, h14, h15, h16, hs1, hs12, byA_at hlt, bleM, e1])
    refine ifB'.of (fun hg => ?_) (fun hg => ?_)
    · simp -dsimp -implicitDefEqProofs only [go_sem, Nat.reduceBEq, Nat.reduceAdd, Nat.reduceLeDiff, Nat.reduceSub, Int.reduceEq, h1, h3, h4, h14, h15, h16, hs1, hs12]
      exact em_f (fun h' => by have := h'.2.1; omega)
    simp -dsimp -implicitDefEqProofs only [go_sem, Nat.reduceBEq, Nat.reduceAdd, Nat.reduceLeDiff, Nat.reduceSub, Int.reduceEq, h1, h3, h4, h14, h15, h16, hs1, hs12]
    refine CallE.of (c_number x.bs[i].length 4 (by omega)) (by rintro r rfl; (repeat' first | exact trivial | exact pure_rowB _ | exact pure_rowO _ | exact pure_rowI _ | exact pure_rowBB _ | exact pure_rowPk _ _ | exact pure_rowSn _ _ | exact pure_rowFd _ _ | exact pure_rowBBB _ | exact pure_rowCl _ _ | exact pure_rowTb _ _ _ | refine And.intro ?_ ?_)) (by simp -dsimp -implicitDefEqProofs only [go_sem, Nat.reduceBEq, Nat.reduceAdd, Nat.reduceLeDiff, Nat.reduceSub, Int.reduceEq, h1, h3, h4, h14, h15, h16, hs1, hs12, show ((4 : Nat) : Int) = 4 from rfl]) ?_
    rintro r rfl
    simp -dsimp -implicitDefEqProofs only [go_sem, Nat.reduceBEq, Nat.reduceAdd, Nat.reduceLeDiff, Nat.reduceSub, Int.reduceEq, h1, h3, h4, h14, h15, h16, hs1, hs12, show ((4 : Nat) : Int) = 4 from rfl]
    repeat (first | with_reducible refine ask.of (by first | omega | (rw [hll, htl, leB_length]; omega)) ?_ | simp -dsimp -implicitDefEqProofs only [go_sem, Nat.reduceBEq, Nat.reduceAdd, Nat.reduceLeDiff, Nat.reduceSub, Int.reduceEq, h1, h3, h4, h14, h15, h16, hs1, hs12, leB_length])
    refine hK _ hlt ?_
    simp -dsimp -implicitDefEqProofs only [go_sem, Nat.reduceBEq, Nat.reduceAdd, Nat.reduceLeDiff, Nat.reduceSub, Int.reduceEq, h1, h3, h4, h14, h15, h16, hs1, hs12, wrap_succ (show i < 4611686018427387904 by omega), lensB_succ hlt, e1]
    omega
  · have : i = x.bs.length := by omega
    subst this
    rw [List.take_length] at hs12 hw
    have hg := ms_good hok hw
    have hj := joinA_len (lensB x.bs :: x.bs)
    have hll := lensB_length x.bs
    have hjl2 : (joinA (lensB x.bs :: x.bs)).length ≤ 30000 := by
      have : wBB (lensB x.bs :: x.bs) = 4 * x.bs.length + wBB x.bs := by simp [wBB, szL, lensB_length]
      simp only [List.length_cons] at hj ⊢
      omega
    simp -dsimp -implicitDefEqProofs only [go_sem, Nat.reduceBEq, Nat.reduceAdd, Nat.reduceLeDiff, Nat.reduceSub, Int.reduceEq, h1, h3, h4, h14, h15, h16, hs1, hs12, ms_b1 hok, ms_b2 hok, ms_b3 hok, ms_b4 hok]
    repeat (first | with_reducible refine ask.of (by first | omega | decide) ?_ | simp -dsimp -implicitDefEqProofs only [go_sem, Nat.reduceBEq, Nat.reduceAdd, Nat.reduceLeDiff, Nat.reduceSub, Int.reduceEq, h1, h3, h4, h14, h15, h16, hs1, hs12, bleM, ms_b1 hok, ms_b2 hok, ms_b3 hok, ms_b4 hok, u8_of_nat, bytes8, byE_asrw])
    refine CallE.of (c_implJoinAlignedL (lensB x.bs) x.bs (by omega)) (by rintro r rfl; (repeat' first | exact trivial | exact pure_rowB _ | exact pure_rowO _ | exact pure_rowI _ | exact pure_rowBB _ | exact pure_rowPk _ _ | exact pure_rowSn _ _ | exact pure_rowFd _ _ | exact pure_rowBBB _ | exact pure_rowCl _ _ | exact pure_rowTb _ _ _ | refine And.intro ?_ ?_)) (by simp -dsimp -implicitDefEqProofs only [go_sem, Nat.reduceBEq, Nat.reduceAdd, Nat.reduceLeDiff, Nat.reduceSub, Int.reduceEq, h1, h3, h4, h14, h15, h16, hs1, hs12]) ?_
    rintro r rfl
    simp -dsimp -implicitDefEqProofs only [go_sem, Nat.reduceBEq, Nat.reduceAdd, Nat.reduceLeDiff, Nat.reduceSub, Int.reduceEq, h1, h3, h4, h14, h15, h16, hs1, hs12]
    repeat (first | with_reducible refine ask.of (by first | omega | decide) ?_ | simp -dsimp -implicitDefEqProofs only [go_sem, Nat.reduceBEq, Nat.reduceAdd, Nat.reduceLeDiff, Nat.reduceSub, Int.reduceEq, h1, h3, h4, h14, h15, h16, hs1, hs12, bleM])
    refine CallE.of (c_summed [headB x, joinA (lensB x.bs :: x.bs)] (by simp [wBB, szL, headB]; omega)) (by rintro r rfl; (repeat' first | exact trivial | exact pure_rowB _ | exact pure_rowO _ | exact pure_rowI _ | exact pure_rowBB _ | exact pure_rowPk _ _ | exact pure_rowSn _ _ | exact pure_rowFd _ _ | exact pure_rowBBB _ | exact pure_rowCl _ _ | exact pure_rowTb _ _ _ | refine And.intro ?_ ?_)) (by simp -dsimp -implicitDefEqProofs only [go_sem, Nat.reduceBEq, Nat.reduceAdd, Nat.reduceLeDiff, Nat.reduceSub, Int.reduceEq, h1, h3, h4, h14, h15, h16, hs1, hs12, byC2, headB]) ?_
    rintro r rfl
    simp -dsimp -implicitDefEqProofs only [go_sem, Nat.reduceBEq, Nat.reduceAdd, Nat.reduceLeDiff, Nat.reduceSub, Int.reduceEq, h1, h3, h4, h14, h15, h16, hs1, hs12, byC2, headB]
    refine ifB'.of (fun hg2 => ?_) (fun hg2 => ?_)
    · simp -dsimp -implicitDefEqProofs only [go_sem, Nat.reduceBEq, Nat.reduceAdd, Nat.reduceLeDiff, Nat.reduceSub, Int.reduceEq, h1, h3, h4, h14, h15, h16, hs1, hs12]
      refine em_f (fun h' => ?_)
      have := h'.2.2
      unfold msBody headB at this
      omega
    · simp -dsimp -implicitDefEqProofs only [go_sem, Nat.reduceBEq, Nat.reduceAdd, Nat.reduceLeDiff, Nat.reduceSub, Int.reduceEq, h1, h3, h4, h14, h15, h16, hs1, hs12]
      rw [encM_yes ⟨hok, hw, by unfold msBody headB; omega⟩]
      rfl
end Go.Ev
set_option linter.unusedSimpArgs false
set_option linter.unusedVariables false
namespace Go.Ev
open Go Go.RowKit Go.Proofs
structure Fd where
  f : List UInt8
  k : Int
  w : Int
structure Cl where
  z : Bool
  i : Int
  f : List UInt8
def fdC (x : Fd) : List AV := [.row 5 1 (bytesA x.f), .v (.int .i64 x.k), .v (.int .i64 x.w)]
def clC (x : Cl) : List AV := [.v (.bool x.z), .v (.int .i64 x.i), .row 5 1 (bytesA x.f)]
def rowFd (T : Nat) (ps : List Fd) : AV := .row T 3 (ra fdC ps)
def rowCl (T : Nat) (ps : List Cl) : AV := .row T 3 (ra clC ps)
theorem pure_rowFd (T : Nat) (ps : List Fd) : (rowFd T ps).pure := pureEls_ra (enc := fdC) (fun x => ⟨pureEls_bytes _, trivial, trivial, trivial⟩) ps
theorem pure_rowCl (T : Nat) (ps : List Cl) : (rowCl T ps).pure := pureEls_ra (enc := clC) (fun x => ⟨trivial, trivial, pureEls_bytes _, trivial⟩) ps
end Go.Ev
set_option linter.unusedSimpArgs false
set_option linter.unusedVariables false
namespace Go.Ev
open Go Go.RowKit Go.Proofs
def dstep (acc : List (List UInt8)) (c : Cl) : List (List UInt8) := if c.z = false ∧ c.f ∉ acc then acc ++ [c.f] else acc
def dst (xs : List Cl) : List (List UInt8) := xs.foldl dstep []
end Go.Ev
set_option linter.unusedSimpArgs false
set_option linter.unusedVariables false
namespace Go.Ev
open Go Go.RowKit Go.Proofs
def ev (n : Nat) : Nat := (n + 7) / 8 * 8
theorem ev_le (n : Nat) : n ≤ ev n ∧ ev n ≤ n + 7 := by unfold ev; omega
theorem ev_mod (n : Nat) : ev n % 8 = 0 := by unfold ev; omega
theorem joinA_pad (xs : List (List UInt8)) : ∀ i, i ≤ xs.length → (joinA (xs.take i)).length = szL (fun x => ev x.length) (xs.take i)
  | 0, _ => by simp [joinA, szL]
  | i + 1, h => by
    have ih := joinA_pad xs i (by omega)
    rw [joinA_take (by omega), pad8_length, List.length_append, szL_take_succ _ (by omega), ih]
    have hm : szL (fun x : List UInt8 => ev x.length) (xs.take i) % 8 = 0 := by
      have : ∀ ys : List (List UInt8), szL (fun x : List UInt8 => ev x.length) ys % 8 = 0 := fun ys => by
        induction ys with
        | nil => rfl
        | cons y ys ih => simp only [szL, List.map_cons, List.sum_cons] at ih ⊢; have := ev_mod y.length; omega
      exact this _
    generalize szL (fun x : List UInt8 => ev x.length) (xs.take i) = t at *
    simp only [padN, ev]
    omega
theorem joinA_len2 (xs : List (List UInt8)) : (joinA xs).length = szL (fun x => ev x.length) xs := by
  have := joinA_pad xs xs.length (Nat.le_refl _)
  rwa [List.take_length] at this
def szAt (b : List UInt8) (i : Nat) : Nat := leN (cutB b (8 + 4 * i) (12 + 4 * i))
def atP (b : List UInt8) (n : Nat) : Nat → Nat
  | 0 => 8 + ev (4 * n)
  | i + 1 => atP b n i + ev (szAt b i)
theorem atP_mono (b : List UInt8) (n : Nat) : ∀ {i j : Nat}, i ≤ j → atP b n i ≤ atP b n j
  | i, 0, h => by obtain rfl : i = 0 := by omega
                  exact Nat.le_refl _
  | i, j + 1, h => by
    by_cases e : i = j + 1
    · rw [e]; exact Nat.le_refl _
    · have := atP_mono b n (show i ≤ j by omega)
      rw [atP]; omega
def goodI (b : List UInt8) (n i : Nat) : Prop := 12 + 4 * i ≤ b.length ∧ atP b n i ≤ b.length ∧ atP b n i + szAt b i ≤ b.length
def bufAt (b : List UInt8) (n i : Nat) : List UInt8 := cutB b (atP b n i) (atP b n i + szAt b i)
def bufs (b : List UInt8) (n i : Nat) : List (List UInt8) := (List.range i).map (bufAt b n)
def nOf (b : List UInt8) : Nat := (b.getD 6 0).toNat
def msOf (b : List UInt8) : Ms := ⟨((b.getD 2 0).toNat : Int), ((b.getD 3 0).toNat : Int), numAt b 4 6, bufs b (nOf b) (nOf b)⟩
def ms0 : Ms := ⟨0, 0, 0, []⟩
def decMGood (b : List UInt8) : Prop := 12 ≤ b.length ∧ b.length ≤ 20000 ∧ (∀ i, i < nOf b → goodI b (nOf b) i) ∧ encM (msOf b) = b
noncomputable def decM (b : List UInt8) : Ms × Int := @ite _ (decMGood b) (Classical.propDecidable _) (msOf b, 0) (ms0, 3)
theorem decM_yes {b : List UInt8} (h : decMGood b) : decM b = (msOf b, 0) := @if_pos _ (Classical.propDecidable _) h _ _ _
theorem decM_no {b : List UInt8} (h : ¬ decMGood b) : decM b = (ms0, 3) := @if_neg _ (Classical.propDecidable _) h _ _ _
def atC (b : List UInt8) (n i : Nat) : Nat := min (atP b n i) b.length
def bufC (b : List UInt8) (n i : Nat) : List UInt8 := cutB b (atC b n i) (atC b n i + szAt b i)
def bufsC (b : List UInt8) (n i : Nat) : List (List UInt8) := (List.range i).map (bufC b n)
def msC2 (b : List UInt8) : Ms := ⟨((b.getD 2 0).toNat : Int), ((b.getD 3 0).toNat : Int), numAt b 4 6, bufsC b (nOf b) (nOf b)⟩
theorem bufsC_len {b : List UInt8} {n i : Nat} (h : atC b n i + szAt b i ≤ b.length) : (bufC b n i).length = szAt b i := by
  rw [bufC, cutB_length h]; omega
theorem sum_bufsC (b : List UInt8) (n : Nat) : ∀ k, (∀ i, i < k → atC b n i + szAt b i ≤ b.length) → 8 + ev (4 * n) + szL (fun x => ev x.length) (bufsC b n k) = atP b n k
  | 0, _ => by simp [bufsC, szL, atP]
  | k + 1, h => by
    have ih := sum_bufsC b n k (fun i hi => h i (by omega))
    have hl := bufsC_len (h k (by omega))
    rw [atP, ← ih, bufsC, List.range_succ, List.map_append]
    simp only [szL, List.map_append, List.map_cons, List.map_nil, List.sum_append, List.sum_cons, List.sum_nil, bufsC, hl]
    omega
theorem encM_len {x : Ms} (h : encM x ≠ []) : (encM x).length = 12 + szL (fun b => ev b.length) (lensB x.bs :: x.bs) := by
  unfold encM at h ⊢
  split
  · rw [msBody_eq]
    simp only [List.length_append, leB_length, joinA_len2, headB, List.length_cons, List.length_nil]
    omega
  · rename_i h'; rw [if_neg h'] at h; exact absurd rfl h
theorem atC_all {b : List UInt8} (h12 : 12 ≤ b.length) (hs : ∀ i, i < nOf b → atC b (nOf b) i + szAt b i ≤ b.length) (he : encM (msC2 b) = b) : ∀ i, i ≤ nOf b → atP b (nOf b) i ≤ b.length := by
  intro i hi
  have hne : encM (msC2 b) ≠ [] := fun e => by rw [he] at e; rw [e] at h12; simp at h12
  have h1 := encM_len hne
  rw [he] at h1
  have h2 := sum_bufsC b (nOf b) (nOf b) hs
  have h3 : (msC2 b).bs = bufsC b (nOf b) (nOf b) := rfl
  have h4 : (bufsC b (nOf b) (nOf b)).length = nOf b := by simp [bufsC]
  have h5 : szL (fun b : List UInt8 => ev b.length) (lensB (msC2 b).bs :: (msC2 b).bs) = ev (4 * nOf b) + szL (fun b => ev b.length) (bufsC b (nOf b) (nOf b)) := by
    rw [h3]
    simp only [szL, List.map_cons, List.sum_cons, lensB_length, h4]
  have := atP_mono b (nOf b) hi
  omega
theorem msC2_eq {b : List UInt8} (h : ∀ i, i ≤ nOf b → atP b (nOf b) i ≤ b.length) : msC2 b = msOf b := by
  have : bufsC b (nOf b) (nOf b) = bufs b (nOf b) (nOf b) := by
    refine List.map_congr_left fun i hi => ?_
    have hi := List.mem_range.1 hi
    have e : atC b (nOf b) i = atP b (nOf b) i := Nat.min_eq_left (h i (by omega))
    rw [bufC, bufAt, e]
  rw [msC2, msOf, this]
theorem decM_impl {b : List UInt8} (h12 : 12 ≤ b.length) (hL : b.length ≤ 20000) (hs : ∀ i, i < nOf b → atC b (nOf b) i + szAt b i ≤ b.length) : (encM (msC2 b) = b → decM b = (msC2 b, 0)) ∧ (encM (msC2 b) ≠ b → decM b = (ms0, 3)) := by
  constructor
  · intro he
    have hall := atC_all h12 hs he
    have e := msC2_eq hall
    rw [e]
    refine decM_yes ⟨h12, hL, fun i hi => ?_, by rw [← e]; exact he⟩
    have h0 := hall 0 (by omega)
    rw [atP] at h0
    have := (ev_le (4 * nOf b)).1
    have h1 := hs i hi
    have e1 : atC b (nOf b) i = atP b (nOf b) i := Nat.min_eq_left (hall i (by omega))
    exact ⟨by omega, hall i (by omega), by rw [e1] at h1; exact h1⟩
  · intro hne
    refine decM_no (fun h => hne ?_)
    obtain ⟨_, _, hg, he⟩ := h
    -- the parts us the reference has them
    have hne' : encM (msOf b) ≠ [] := fun e => by rw [he] at e; rw [e] at h12; simp at h12
    have h1 := encM_len hne'
    rw [he] at h1
    have e2 : ∀ i, i < nOf b → bufC b (nOf b) i = bufAt b (nOf b) i := fun i hi => by
      rw [bufC, bufAt, show atC b (nOf b) i = atP b (nOf b) i from Nat.min_eq_left (hg i hi).2.1]
    have e3 : bufsC b (nOf b) (nOf b) = bufs b (nOf b) (nOf b) := List.map_congr_left fun i hi => e2 i (List.mem_range.1 hi)
    rw [show msC2 b = msOf b by rw [msC2, msOf, e3]]
    exact he
end Go.Ev
set_option linter.unusedSimpArgs false
set_option linter.unusedVariables false
namespace Go.Ev
open Go Go.RowKit Go.Proofs
theorem c_sameB (bs : List UInt8) (hb : bs.length ≤ 8388608) : Meets Try.prog 19 [rowB bs, rowB bs] (fun r => r = .v (.bool true)) := by
  refine Meets.intro mixed (hint []) Try.func19 rfl (by decide) res_19 rty_19 (by kernel_rfl) ?_; 
  simp -dsimp -implicitDefEqProofs only [go_sem, Nat.reduceBEq, Nat.reduceAdd, Nat.reduceLeDiff, Nat.reduceSub, Int.reduceEq, decide_true, Bool.not_true]
  refine LoopE.cnt bs.length (fun i s => s.env 0 = .rd .ent 5 1 (bytesA bs) ∧ s.env 1 = .rd .ent 5 1 (bytesA bs) ∧ s.env 5 = .v (.int .i64 i)) ⟨by simp -dsimp -implicitDefEqProofs only [go_sem, Nat.reduceBEq, Nat.reduceAdd, Nat.reduceLeDiff, Nat.reduceSub, Int.reduceEq, initE], by simp -dsimp -implicitDefEqProofs only [go_sem, Nat.reduceBEq, Nat.reduceAdd, Nat.reduceLeDiff, Nat.reduceSub, Int.reduceEq, initE], by simp -dsimp -implicitDefEqProofs only [go_sem, Nat.reduceBEq, Nat.reduceAdd, Nat.reduceLeDiff, Nat.reduceSub, Int.reduceEq] <;> simp⟩ ?_
  rintro i ⟨e, σ⟩ hi ⟨h0, h1, h5⟩ K hK
  simp only at h0 h1 h5
  simp -dsimp -implicitDefEqProofs only [go_sem, Nat.reduceBEq, Nat.reduceAdd, Nat.reduceLeDiff, Nat.reduceSub, Int.reduceEq, h0, h1, h5]
  refine ifB'.of (fun hlt => ?_) (fun hlt => ?_)
  · have hlt : i < bs.length := by omega
    simp -dsimp -implicitDefEqProofs only [go_sem, Nat.reduceBEq, Nat.reduceAdd, Nat.reduceLeDiff, Nat.reduceSub, Int.reduceEq, h0, h1, h5, bytesA_at hlt]
    repeat with_reducible refine ask.of (by omega) ?_
    simp -dsimp -implicitDefEqProofs only [go_sem, Nat.reduceBEq, Nat.reduceAdd, Nat.reduceLeDiff, Nat.reduceSub, Int.reduceEq, h0, h1, h5, decide_true, Bool.not_true]
    refine hK _ hlt ?_
    simp -dsimp -implicitDefEqProofs only [go_sem, Nat.reduceBEq, Nat.reduceAdd, Nat.reduceLeDiff, Nat.reduceSub, Int.reduceEq, h0, h1, h5, wrap_succ (show i < 4611686018427387904 by omega)]
  · simp -dsimp -implicitDefEqProofs only [go_sem, Nat.reduceBEq, Nat.reduceAdd, Nat.reduceLeDiff, Nat.reduceSub, Int.reduceEq, h0, h1, h5]
set_option maxRecDepth 8000 in
set_option maxHeartbeats 2000000 in
theorem c_samePacket (p : Pk) (hb : p.f.length ≤ 1048576) : Meets Try.prog 28 [.agg (pkC p), .agg (pkC p)] (fun r => r = .v (.bool true)) := by
  refine Meets.intro mixed (hint []) Try.func28 rfl (by decide) res_28 rty_28 (by kernel_rfl) ?_; 
  simp -dsimp -implicitDefEqProofs only [go_sem, Nat.reduceBEq, Nat.reduceAdd, Nat.reduceLeDiff, Nat.reduceSub, Int.reduceEq, pkC, decide_true]
  repeat with_reducible refine ask.of (by omega) ?_
  repeat (first | with_reducible refine ask.of (by omega) ?_ | simp -dsimp -implicitDefEqProofs only [go_sem, Nat.reduceBEq, Nat.reduceAdd, Nat.reduceLeDiff, Nat.reduceSub, Int.reduceEq, bleR, decide_true])
  refine CallE.of (c_sameB p.f (by omega)) (by rintro r rfl; (repeat' first | exact trivial | exact pure_rowB _ | exact pure_rowO _ | exact pure_rowI _ | exact pure_rowBB _ | exact pure_rowPk _ _ | exact pure_rowSn _ _ | exact pure_rowFd _ _ | exact pure_rowBBB _ | exact pure_rowCl _ _ | exact pure_rowTb _ _ _ | refine And.intro ?_ ?_)) (by simp -dsimp -implicitDefEqProofs only [go_sem, Nat.reduceBEq, Nat.reduceAdd, Nat.reduceLeDiff, Nat.reduceSub, Int.reduceEq, Bool.not_true]) ?_
  rintro r rfl
  simp -dsimp -implicitDefEqProofs only [go_sem, Nat.reduceBEq, Nat.reduceAdd, Nat.reduceLeDiff, Nat.reduceSub, Int.reduceEq, Bool.not_true]
end Go.Ev
set_option linter.unusedSimpArgs false
set_option linter.unusedVariables false
namespace Go.Ev
open Go Go.RowKit Go.Proofs
theorem c_l4even (n : Nat) (hn : n ≤ 1099511627776) : Meets Try.prog 87 [.v (.int .i64 n)] (fun r => r = .v (.int .i64 (ev n))) := by
  refine Meets.intro mixed (hint []) Try.func87 rfl (by decide) res_87 rty_87 (by kernel_rfl) ?_; 
  have e1 : IntKind.i64.wrap ((n : Int) + 7) = ((n + 7 : Nat) : Int) := by rw [wrap_i64_of (by omega) (by omega)]; omega
  have e2 : IntKind.i64.wrap (((n + 7 : Nat) : Int).tdiv 8) = (((n + 7) / 8 : Nat) : Int) := by
    rw [show ((n + 7 : Nat) : Int).tdiv 8 = (((n + 7) / 8 : Nat) : Int) from rfl, wrap_nat (by omega)]
  have e3 : IntKind.i64.wrap ((((n + 7) / 8 : Nat) : Int) * 8) = (ev n : Nat) := by
    rw [wrap_i64_of (by omega) (by omega), ev]; omega
  simp -dsimp -implicitDefEqProofs only [go_sem, Nat.reduceBEq, Nat.reduceAdd, Nat.reduceLeDiff, Nat.reduceSub, Int.reduceEq, initE, e1, e2]
  repeat (first | with_reducible refine ask.of (by decide) ?_ | simp -dsimp -implicitDefEqProofs only [go_sem, Nat.reduceBEq, Nat.reduceAdd, Nat.reduceLeDiff, Nat.reduceSub, Int.reduceEq, e1, e2, e3])
theorem c_aligned (n : Nat) (hn : n ≤ 1099511627776) : Meets Try.prog 84 [.v (.int .i64 n)] (fun r => r = .v (.int .i64 (ev n))) := by
  refine Meets.intro mixed (hint []) Try.func84 rfl (by decide) res_84 rty_84 (by kernel_rfl) ?_; 
  have e1 : IntKind.i64.wrap ((n : Int) + 7) = ((n + 7 : Nat) : Int) := by rw [wrap_i64_of (by omega) (by omega)]; omega
  have e2 : IntKind.i64.wrap (((n + 7 : Nat) : Int).tdiv 8) = (((n + 7) / 8 : Nat) : Int) := by
    rw [show ((n + 7 : Nat) : Int).tdiv 8 = (((n + 7) / 8 : Nat) : Int) from rfl, wrap_nat (by omega)]
  have e3 : IntKind.i64.wrap ((((n + 7) / 8 : Nat) : Int) * 8) = (ev n : Nat) := by
    rw [wrap_i64_of (by omega) (by omega), ev]; omega
  simp -dsimp -implicitDefEqProofs only [go_sem, Nat.reduceBEq, Nat.reduceAdd, Nat.reduceLeDiff, Nat.reduceSub, Int.reduceEq, initE, e1, e2]
  repeat (first | with_reducible refine ask.of (by decide) ?_ | simp -dsimp -implicitDefEqProofs only [go_sem, Nat.reduceBEq, Nat.reduceAdd, Nat.reduceLeDiff, Nat.reduceSub, Int.reduceEq, e1, e2, e3])
noncomputable def decResM (b : List UInt8) : AV := .tup [.agg (msC (decM b).1), .v (.int .i64 (decM b).2)]
theorem resM_no {b : List UInt8} (h : ¬ decMGood b) : AV.tup [.agg [.v (.int .i64 0), .v (.int .i64 0), .v (.int .i64 0), .row 22 1 []], .v (.int .i64 3)] = decResM b := by rw [decResM, decM_no h]; rfl
theorem cut_eq {b : List UInt8} {l h : Nat} : List.drop l (List.take h b) = cutB b l h := rfl
theorem ble4_1 : Nat.ble 1 4 = true := rfl
theorem ble4_2 : Nat.ble 2 4 = true := rfl
theorem ble4_3 : Nat.ble 3 4 = true := rfl
theorem szAt_lt (b : List UInt8) (i : Nat) : szAt b i < 4294967296 := by
  have h := leN_lt (cutB b (8 + 4 * i) (12 + 4 * i))
  have hl : (cutB b (8 + 4 * i) (12 + 4 * i)).length ≤ 4 := by simp [cutB]; omega
  have h2 : 256 ^ (cutB b (8 + 4 * i) (12 + 4 * i)).length ≤ 256 ^ 4 := Nat.pow_le_pow_right (by decide) hl
  unfold szAt
  omega
theorem bufs_length (b : List UInt8) (n i : Nat) : (bufs b n i).length = i := by simp [bufs]
theorem bufsC_length (b : List UInt8) (n i : Nat) : (bufsC b n i).length = i := by simp [bufsC]
theorem byC_snoc {xs : List (List UInt8)} {x : List UInt8} : ra byC xs ++ [[AV.row 5 1 (bytesA x)]] = ra byC (xs ++ [x]) := by simp [ra, byC]
theorem wBB_snoc (xs : List (List UInt8)) (x : List UInt8) : wBB (xs ++ [x]) = wBB xs + x.length := by simp [wBB, szL]
theorem wBB_bufs (b : List UInt8) (n : Nat) : ∀ i, (∀ j, j < i → atP b n j + szAt b j ≤ b.length) → wBB (bufs b n i) + (8 + ev (4 * n)) ≤ atP b n i ∧ (0 < i → wBB (bufs b n i) ≤ b.length)
  | 0, _ => by simp [bufs, wBB, szL, atP]
  | i + 1, h => by
    obtain ⟨h1, _⟩ := wBB_bufs b n i (fun j hj => h j (by omega))
    have h2 := h i (by omega)
    have h3 := (ev_le (szAt b i)).1
    have h4 : (bufAt b n i).length = szAt b i := by rw [bufAt, cutB_length h2]; omega
    rw [bufs, List.range_succ, List.map_append, List.map_cons, List.map_nil, wBB_snoc, ← bufs, h4, atP]
    omega
theorem wBB_bufsC (b : List UInt8) (n : Nat) : ∀ i, (∀ j, j < i → atC b n j + szAt b j ≤ b.length) → wBB (bufsC b n i) ≤ atC b n i
  | 0, _ => by simp [bufsC, wBB, szL]
  | i + 1, h => by
    have h1 := wBB_bufsC b n i (fun j hj => h j (by omega))
    have h2 := h i (by omega)
    have h3 := (ev_le (szAt b i)).1
    have h4 : (bufC b n i).length = szAt b i := by rw [bufC, cutB_length h2]; omega
    rw [bufsC, List.range_succ, List.map_append, List.map_cons, List.map_nil, wBB_snoc, ← bufsC, h4]
    have h5 : atC b n (i + 1) = min (atP b n i + ev (szAt b i)) b.length := rfl
    have h6 : atC b n i = min (atP b n i) b.length := rfl
    omega
theorem bufs_snoc (b : List UInt8) (n i : Nat) : bufs b n i ++ [bufAt b n i] = bufs b n (i + 1) := by simp [bufs, List.range_succ]
theorem bufsC_snoc (b : List UInt8) (n i : Nat) : bufsC b n i ++ [bufC b n i] = bufsC b n (i + 1) := by simp [bufsC, List.range_succ]
set_option maxHeartbeats 2000000 in
set_option maxRecDepth 8000 in
theorem c_specDecodeMessage (b : List UInt8) (hb : b.length ≤ 1048576) : Meets Try.prog 24 [rowB b] (fun r => r = decResM b) := by
  refine Meets.introO mixed (hint []) (fun k => (sel (k == 3) [999,0,1,2,3,4,5,6,7,8,9,1012,10,11,12,13] (sel (k == 14) [0,1,2,3,4,5,6,7,8,9,10,11,12] []))) Try.func24 rfl (by decide) res_24 rty_24 (by kernel_rfl) ?_; 
  simp -dsimp -implicitDefEqProofs only [go_sem, Nat.reduceBEq, Nat.reduceAdd, Nat.reduceLeDiff, Nat.reduceSub, Int.reduceEq]
  repeat (first | with_reducible refine ask.of (by omega) ?_ | simp -dsimp -implicitDefEqProofs only [go_sem, Nat.reduceBEq, Nat.reduceAdd, Nat.reduceLeDiff, Nat.reduceSub, Int.reduceEq])
  refine ifB'.of (fun h => ?_) (fun h12 => ?_)
  · simp -dsimp -implicitDefEqProofs only [go_sem, Nat.reduceBEq, Nat.reduceAdd, Nat.reduceLeDiff, Nat.reduceSub, Int.reduceEq]
    repeat (first | with_reducible refine ask.of (by omega) ?_ | simp -dsimp -implicitDefEqProofs only [go_sem, Nat.reduceBEq, Nat.reduceAdd, Nat.reduceLeDiff, Nat.reduceSub, Int.reduceEq, bleM])
    exact resM_no (fun h' => by have := h'.1; omega)
  simp -dsimp -implicitDefEqProofs only [go_sem, Nat.reduceBEq, Nat.reduceAdd, Nat.reduceLeDiff, Nat.reduceSub, Int.reduceEq]
  refine ifB'.of (fun h => ?_) (fun hL => ?_)
  · simp -dsimp -implicitDefEqProofs only [go_sem, Nat.reduceBEq, Nat.reduceAdd, Nat.reduceLeDiff, Nat.reduceSub, Int.reduceEq]
    repeat (first | with_reducible refine ask.of (by omega) ?_ | simp -dsimp -implicitDefEqProofs only [go_sem, Nat.reduceBEq, Nat.reduceAdd, Nat.reduceLeDiff, Nat.reduceSub, Int.reduceEq, bleM])
    exact resM_no (fun h' => by have := h'.2.1; omega)
  have n2 : 2 < b.length := by omega
  have n3 : 3 < b.length := by omega
  have n6 : 6 < b.length := by omega
  have hn : b[6].toNat = nOf b := by rw [at_getD n6]; rfl
  have hn8 : nOf b < 256 := by rw [← hn]; exact b[6].toNat_lt
  have c46 : List.drop (Int.toNat 4) (List.take 6 b) = cutB b 4 6 := rfl
  have l46 : (cutB b 4 6).length = 2 := cutB_length (by omega)
  simp -dsimp -implicitDefEqProofs only [go_sem, Nat.reduceBEq, Nat.reduceAdd, Nat.reduceLeDiff, Nat.reduceSub, Int.reduceEq, bytesA_at n2, bytesA_at n3, bytesA_at n6, show Int.toNat 2 = 2 from rfl, show Int.toNat 3 = 3 from rfl, show Int.toNat 6 = 6 from rfl]
  repeat (first | with_reducible refine ask.of (by omega) ?_ | simp -dsimp -implicitDefEqProofs only [go_sem, Nat.reduceBEq, Nat.reduceAdd, Nat.reduceLeDiff, Nat.reduceSub, Int.reduceEq, bytesA_at n2, bytesA_at n3, bytesA_at n6, show Int.toNat 2 = 2 from rfl, show Int.toNat 3 = 3 from rfl, show Int.toNat 6 = 6 from rfl, i64_u8])
  refine CallE.of (c_l1number (cutB b 4 6) (by omega)) (by rintro r rfl; (repeat' first | exact trivial | exact pure_rowB _ | exact pure_rowO _ | exact pure_rowI _ | exact pure_rowBB _ | exact pure_rowPk _ _ | exact pure_rowSn _ _ | exact pure_rowFd _ _ | exact pure_rowBBB _ | exact pure_rowCl _ _ | exact pure_rowTb _ _ _ | refine And.intro ?_ ?_)) (by simp -dsimp -implicitDefEqProofs only [go_sem, Nat.reduceBEq, Nat.reduceAdd, Nat.reduceLeDiff, Nat.reduceSub, Int.reduceEq, c46]) ?_
  rintro r rfl
  simp -dsimp -implicitDefEqProofs only [go_sem, Nat.reduceBEq, Nat.reduceAdd, Nat.reduceLeDiff, Nat.reduceSub, Int.reduceEq, c46]
  have e0 : IntKind.i64.wrap (nOf b : Int) = nOf b := wrap_nat (by omega)
  have e1 : IntKind.i64.wrap (4 * (nOf b : Int)) = ((4 * nOf b : Nat) : Int) := by rw [wrap_i64_of (by omega) (by omega)]; omega
  repeat (first | with_reducible refine ask.of (by omega) ?_ | simp -dsimp -implicitDefEqProofs only [go_sem, Nat.reduceBEq, Nat.reduceAdd, Nat.reduceLeDiff, Nat.reduceSub, Int.reduceEq, bleM, ble4_1, ble4_2, ble4_3, bytesA_at n6, show Int.toNat 6 = 6 from rfl, i64_u8, hn, e0, e1])
  refine CallE.of (c_l4even (4 * nOf b) (by omega)) (by rintro r rfl; (repeat' first | exact trivial | exact pure_rowB _ | exact pure_rowO _ | exact pure_rowI _ | exact pure_rowBB _ | exact pure_rowPk _ _ | exact pure_rowSn _ _ | exact pure_rowFd _ _ | exact pure_rowBBB _ | exact pure_rowCl _ _ | exact pure_rowTb _ _ _ | refine And.intro ?_ ?_)) (by simp -dsimp -implicitDefEqProofs only [go_sem, Nat.reduceBEq, Nat.reduceAdd, Nat.reduceLeDiff, Nat.reduceSub, Int.reduceEq]) ?_
  rintro r rfl
  simp -dsimp -implicitDefEqProofs only [go_sem, Nat.reduceBEq, Nat.reduceAdd, Nat.reduceLeDiff, Nat.reduceSub, Int.reduceEq]
  have h0 := ev_le (4 * nOf b)
  have e2 : IntKind.i64.wrap (8 + (ev (4 * nOf b) : Int)) = (atP b (nOf b) 0 : Nat) := by rw [wrap_i64_of (by omega) (by omega), atP]; omega
  simp -dsimp -implicitDefEqProofs only [go_sem, Nat.reduceBEq, Nat.reduceAdd, Nat.reduceLeDiff, Nat.reduceSub, Int.reduceEq, e2]
  refine LoopE.cntW (nOf b) (fun i s => (∀ j, j < i → goodI b (nOf b) j) ∧ s.env 0 = .rd .ent 5 1 (bytesA b) ∧ s.env 5 = .v (.int .i64 (nOf b : Nat)) ∧ s.env 6 = .v (.int .i64 (atP b (nOf b) i : Nat)) ∧ s.env 7 = .v (.int .i64 i) ∧ s.env 4 = .ptr [4] 0 0 0 ∧ s.env 2 = .ptr [2] 0 0 0
    ∧ s.σ [4] = some (.box 43 [.v (.int .i64 (b[2].toNat : Int)), .v (.int .i64 (b[3].toNat : Int)), .v (.int .i64 (IntKind.i64.wrap (leN (cutB b 4 6)))), .ref [50]]) ∧ s.σ [50] = some (.row 22 1 (ra byC (bufs b (nOf b) i)))
    ∧ s.σ [2] = some (.box 43 [.v (.int .i64 0), .v (.int .i64 0), .v (.int .i64 0), .v (.slice none 0 0)]))
    (Wk.box [4] 3 [50] 22 1 43 [.v (.int .i64 (b[2].toNat : Int)), .v (.int .i64 (b[3].toNat : Int)), .v (.int .i64 (IntKind.i64.wrap (leN (cutB b 4 6)))), .v (.slice none 0 0)] ?_ rfl rfl (Wk.refl _)) ?_ ?_
  · simp -dsimp -implicitDefEqProofs only [go_sem, Nat.reduceBEq, Nat.reduceAdd, Nat.reduceLeDiff, Nat.reduceSub, Int.reduceEq]
  · refine ⟨fun j hj => absurd hj (Nat.not_lt_zero _), by simp -dsimp -implicitDefEqProofs only [go_sem, Nat.reduceBEq, Nat.reduceAdd, Nat.reduceLeDiff, Nat.reduceSub, Int.reduceEq, initE], by simp -dsimp -implicitDefEqProofs only [go_sem, Nat.reduceBEq, Nat.reduceAdd, Nat.reduceLeDiff, Nat.reduceSub, Int.reduceEq], by simp -dsimp -implicitDefEqProofs only [go_sem, Nat.reduceBEq, Nat.reduceAdd, Nat.reduceLeDiff, Nat.reduceSub, Int.reduceEq], by simp -dsimp -implicitDefEqProofs only [go_sem, Nat.reduceBEq, Nat.reduceAdd, Nat.reduceLeDiff, Nat.reduceSub, Int.reduceEq], by simp -dsimp -implicitDefEqProofs only [go_sem, Nat.reduceBEq, Nat.reduceAdd, Nat.reduceLeDiff, Nat.reduceSub, Int.reduceEq], by simp -dsimp -implicitDefEqProofs only [go_sem, Nat.reduceBEq, Nat.reduceAdd, Nat.reduceLeDiff, Nat.reduceSub, Int.reduceEq], by simp -dsimp -implicitDefEqProofs only [go_sem, Nat.reduceBEq, Nat.reduceAdd, Nat.reduceLeDiff, Nat.reduceSub, Int.reduceEq] <;> rfl, by simp -dsimp -implicitDefEqProofs only [go_sem, Nat.reduceBEq, Nat.reduceAdd, Nat.reduceLeDiff, Nat.reduceSub, Int.reduceEq] <;> rfl, by simp -dsimp -implicitDefEqProofs only [go_sem, Nat.reduceBEq, Nat.reduceAdd, Nat.reduceLeDiff, Nat.reduceSub, Int.reduceEq]⟩
  rintro i ⟨e, σ⟩ hi ⟨hg, h00, h5, h6, h7, h4, h2, hs4, hs50, hs2⟩ K hK
  simp only at h00 h5 h6 h7 h4 h2 hs4 hs50 hs2
  simp -dsimp -implicitDefEqProofs only [go_sem, Nat.reduceBEq, Nat.reduceAdd, Nat.reduceLeDiff, Nat.reduceSub, Int.reduceEq, h00, h5, h6, h7, h4, h2, hs4, hs50, hs2]
  repeat (first | with_reducible refine ask.of (by first | omega | decide) ?_ | simp -dsimp -implicitDefEqProofs only [go_sem, Nat.reduceBEq, Nat.reduceAdd, Nat.reduceLeDiff, Nat.reduceSub, Int.reduceEq, h00, h5, h6, h7, h4, h2, hs4, hs50, hs2, bleM])
  refine ifB'.of (fun hlt => ?_) (fun hlt => ?_)
  · have hlt : i < nOf b := by omega
    have e3 : IntKind.i64.wrap (4 * (i : Int)) = ((4 * i : Nat) : Int) := by rw [wrap_i64_of (by omega) (by omega)]; omega
    have e4 : IntKind.i64.wrap (12 + ((4 * i : Nat) : Int)) = ((12 + 4 * i : Nat) : Int) := by rw [wrap_i64_of (by omega) (by omega)]; omega
    have e5 : IntKind.i64.wrap (8 + ((4 * i : Nat) : Int)) = ((8 + 4 * i : Nat) : Int) := by rw [wrap_i64_of (by omega) (by omega)]; omega
    simp -dsimp -implicitDefEqProofs only [go_sem, Nat.reduceBEq, Nat.reduceAdd, Nat.reduceLeDiff, Nat.reduceSub, Int.reduceEq, h00, h5, h6, h7, h4, h2, hs4, hs50, hs2, e3, e4, e5]
    repeat (first | with_reducible refine ask.of (by first | omega | decide) ?_ | simp -dsimp -implicitDefEqProofs only [go_sem, Nat.reduceBEq, Nat.reduceAdd, Nat.reduceLeDiff, Nat.reduceSub, Int.reduceEq, h00, h5, h6, h7, h4, h2, hs4, hs50, hs2, bleM, e3, e4, e5])
    refine ifB'.of (fun h12i => ?_) (fun h12i => ?_)
    · simp -dsimp -implicitDefEqProofs only [go_sem, Nat.reduceBEq, Nat.reduceAdd, Nat.reduceLeDiff, Nat.reduceSub, Int.reduceEq, h00, h5, h6, h7, h4, h2, hs4, hs50, hs2]
      repeat (first | with_reducible refine ask.of (by omega) ?_ | simp -dsimp -implicitDefEqProofs only [go_sem, Nat.reduceBEq, Nat.reduceAdd, Nat.reduceLeDiff, Nat.reduceSub, Int.reduceEq, h00, h5, h6, h7, h4, h2, hs4, hs50, hs2, bleM])
      exact resM_no (fun h' => by have := (h'.2.2.1 i hlt).1; omega)
    simp -dsimp -implicitDefEqProofs only [go_sem, Nat.reduceBEq, Nat.reduceAdd, Nat.reduceLeDiff, Nat.reduceSub, Int.reduceEq, h00, h5, h6, h7, h4, h2, hs4, hs50, hs2, e3, e4, e5]
    repeat (first | with_reducible refine ask.of (by first | omega | decide) ?_ | simp -dsimp -implicitDefEqProofs only [go_sem, Nat.reduceBEq, Nat.reduceAdd, Nat.reduceLeDiff, Nat.reduceSub, Int.reduceEq, h00, h5, h6, h7, h4, h2, hs4, hs50, hs2, bleM, e3, e4, e5])
    have l4 : (cutB b (8 + 4 * i) (12 + 4 * i)).length = 4 := by rw [cutB_length (by omega)]; omega
    have hz := szAt_lt b i
    have e6 : IntKind.i64.wrap (leN (cutB b (8 + 4 * i) (12 + 4 * i)) : Nat) = (szAt b i : Nat) := by rw [← szAt]; exact wrap_nat (by omega)
    refine CallE.of (c_l1number (cutB b (8 + 4 * i) (12 + 4 * i)) (by omega)) (by rintro r rfl; (repeat' first | exact trivial | exact pure_rowB _ | exact pure_rowO _ | exact pure_rowI _ | exact pure_rowBB _ | exact pure_rowPk _ _ | exact pure_rowSn _ _ | exact pure_rowFd _ _ | exact pure_rowBBB _ | exact pure_rowCl _ _ | exact pure_rowTb _ _ _ | refine And.intro ?_ ?_)) (by simp -dsimp -implicitDefEqProofs only [go_sem, Nat.reduceBEq, Nat.reduceAdd, Nat.reduceLeDiff, Nat.reduceSub, Int.reduceEq, h00, h5, h6, h7, h4, h2, hs4, hs50, hs2, cut_eq]) ?_
    rintro r rfl
    simp -dsimp -implicitDefEqProofs only [go_sem, Nat.reduceBEq, Nat.reduceAdd, Nat.reduceLeDiff, Nat.reduceSub, Int.reduceEq, h00, h5, h6, h7, h4, h2, hs4, hs50, hs2, cut_eq]
    refine ifB'.of (fun hA => ?_) (fun hA => ?_)
    · simp -dsimp -implicitDefEqProofs only [go_sem, Nat.reduceBEq, Nat.reduceAdd, Nat.reduceLeDiff, Nat.reduceSub, Int.reduceEq, h00, h5, h6, h7, h4, h2, hs4, hs50, hs2]
      repeat (first | with_reducible refine ask.of (by omega) ?_ | simp -dsimp -implicitDefEqProofs only [go_sem, Nat.reduceBEq, Nat.reduceAdd, Nat.reduceLeDiff, Nat.reduceSub, Int.reduceEq, h00, h5, h6, h7, h4, h2, hs4, hs50, hs2, bleM])
      exact resM_no (fun h' => by have := (h'.2.2.1 i hlt).2.1; omega)
    have e7 : IntKind.i64.wrap ((b.length : Int) - (atP b (nOf b) i : Nat)) = ((b.length - atP b (nOf b) i : Nat) : Int) := by rw [wrap_i64_of (by omega) (by omega)]; omega
    simp -dsimp -implicitDefEqProofs only [go_sem, Nat.reduceBEq, Nat.reduceAdd, Nat.reduceLeDiff, Nat.reduceSub, Int.reduceEq, h00, h5, h6, h7, h4, h2, hs4, hs50, hs2, e6, e7]
    repeat (first | with_reducible refine ask.of (by omega) ?_ | simp -dsimp -implicitDefEqProofs only [go_sem, Nat.reduceBEq, Nat.reduceAdd, Nat.reduceLeDiff, Nat.reduceSub, Int.reduceEq, h00, h5, h6, h7, h4, h2, hs4, hs50, hs2, bleM, e6, e7])
    refine ifB'.of (fun hB => ?_) (fun hB => ?_)
    · simp -dsimp -implicitDefEqProofs only [go_sem, Nat.reduceBEq, Nat.reduceAdd, Nat.reduceLeDiff, Nat.reduceSub, Int.reduceEq, h00, h5, h6, h7, h4, h2, hs4, hs50, hs2]
      repeat (first | with_reducible refine ask.of (by omega) ?_ | simp -dsimp -implicitDefEqProofs only [go_sem, Nat.reduceBEq, Nat.reduceAdd, Nat.reduceLeDiff, Nat.reduceSub, Int.reduceEq, h00, h5, h6, h7, h4, h2, hs4, hs50, hs2, bleM])
      exact resM_no (fun h' => by have := (h'.2.2.1 i hlt).2.2; omega)
    have e8 : IntKind.i64.wrap ((atP b (nOf b) i : Int) + (szAt b i : Nat)) = ((atP b (nOf b) i + szAt b i : Nat) : Int) := by rw [wrap_i64_of (by omega) (by omega)]; omega
    simp -dsimp -implicitDefEqProofs only [go_sem, Nat.reduceBEq, Nat.reduceAdd, Nat.reduceLeDiff, Nat.reduceSub, Int.reduceEq, h00, h5, h6, h7, h4, h2, hs4, hs50, hs2, e6, e8]
    repeat (first | with_reducible refine ask.of (by first | omega | decide) ?_ | simp -dsimp -implicitDefEqProofs only [go_sem, Nat.reduceBEq, Nat.reduceAdd, Nat.reduceLeDiff, Nat.reduceSub, Int.reduceEq, h00, h5, h6, h7, h4, h2, hs4, hs50, hs2, bleM, e6, e8, cut_eq])
    refine CallE.of (c_l1copy (cutB b (atP b (nOf b) i) (atP b (nOf b) i + szAt b i)) (by rw [cutB_length (by omega)]; omega)) (by rintro r rfl; (repeat' first | exact trivial | exact pure_rowB _ | exact pure_rowO _ | exact pure_rowI _ | exact pure_rowBB _ | exact pure_rowPk _ _ | exact pure_rowSn _ _ | exact pure_rowFd _ _ | exact pure_rowBBB _ | exact pure_rowCl _ _ | exact pure_rowTb _ _ _ | refine And.intro ?_ ?_)) (by simp -dsimp -implicitDefEqProofs only [go_sem, Nat.reduceBEq, Nat.reduceAdd, Nat.reduceLeDiff, Nat.reduceSub, Int.reduceEq, h00, h5, h6, h7, h4, h2, hs4, hs50, hs2]) ?_
    rintro r rfl
    simp -dsimp -implicitDefEqProofs only [go_sem, Nat.reduceBEq, Nat.reduceAdd, Nat.reduceLeDiff, Nat.reduceSub, Int.reduceEq, h00, h5, h6, h7, h4, h2, hs4, hs50, hs2]
    repeat (first | with_reducible refine ask.of (by first | omega | decide | (simp only [ra_length, bufs_length, List.length_cons, List.length_nil]; omega)) ?_ | simp -dsimp -implicitDefEqProofs only [go_sem, Nat.reduceBEq, Nat.reduceAdd, Nat.reduceLeDiff, Nat.reduceSub, Int.reduceEq, h00, h5, h6, h7, h4, h2, hs4, hs50, hs2, bleM, byC_snoc])
    refine CallE.of (c_l4even (szAt b i) (by omega)) (by rintro r rfl; (repeat' first | exact trivial | exact pure_rowB _ | exact pure_rowO _ | exact pure_rowI _ | exact pure_rowBB _ | exact pure_rowPk _ _ | exact pure_rowSn _ _ | exact pure_rowFd _ _ | exact pure_rowBBB _ | exact pure_rowCl _ _ | exact pure_rowTb _ _ _ | refine And.intro ?_ ?_)) (by simp -dsimp -implicitDefEqProofs only [go_sem, Nat.reduceBEq, Nat.reduceAdd, Nat.reduceLeDiff, Nat.reduceSub, Int.reduceEq, h00, h5, h6, h7, h4, h2, hs4, hs50, hs2]) ?_
    rintro r rfl
    simp -dsimp -implicitDefEqProofs only [go_sem, Nat.reduceBEq, Nat.reduceAdd, Nat.reduceLeDiff, Nat.reduceSub, Int.reduceEq, h00, h5, h6, h7, h4, h2, hs4, hs50, hs2]
    have h9 := ev_le (szAt b i)
    have e9 : IntKind.i64.wrap ((atP b (nOf b) i : Int) + (ev (szAt b i) : Nat)) = (atP b (nOf b) (i + 1) : Nat) := by rw [wrap_i64_of (by omega) (by omega), atP]; omega
    simp -dsimp -implicitDefEqProofs only [go_sem, Nat.reduceBEq, Nat.reduceAdd, Nat.reduceLeDiff, Nat.reduceSub, Int.reduceEq, h00, h5, h6, h7, h4, h2, hs4, hs50, hs2, e9]
    refine hK _ _ hlt (Wk.refl _) ?_
    simp -dsimp -implicitDefEqProofs only [go_sem, Nat.reduceBEq, Nat.reduceAdd, Nat.reduceLeDiff, Nat.reduceSub, Int.reduceEq, h00, h5, h6, h7, h4, h2, hs4, hs50, hs2, wrap_succ (show i < 4611686018427387904 by omega)]
    refine ⟨fun j hj => ?_, by rw [← bufs_snoc, bufAt]⟩
    by_cases hji : j < i
    · exact hg j hji
    · obtain rfl : j = i := by omega
      exact ⟨by omega, by omega, by omega⟩
  · have hii : i = nOf b := by omega
    subst hii
    have hw := wBB_bufs b (nOf b) (nOf b) (fun j hj => (hg j hj).2.2)
    have hw2 : wBB (bufs b (nOf b) (nOf b)) ≤ b.length := by
      by_cases h0 : 0 < nOf b
      · exact hw.2 h0
      · have h0 : nOf b = 0 := by omega
        rw [h0]; simp [bufs, wBB, szL]
    have hm : msC (msOf b) = [.v (.int .i64 (b[2].toNat : Int)), .v (.int .i64 (b[3].toNat : Int)), .v (.int .i64 (IntKind.i64.wrap (leN (cutB b 4 6)))), .row 22 1 (ra byC (bufs b (nOf b) (nOf b)))] := by rw [at_getD n2, at_getD n3]; rfl
    simp -dsimp -implicitDefEqProofs only [go_sem, Nat.reduceBEq, Nat.reduceAdd, Nat.reduceLeDiff, Nat.reduceSub, Int.reduceEq, h00, h5, h6, h7, h4, h2, hs4, hs50, hs2]
    repeat (first | with_reducible refine ask.of (by first | omega | decide) ?_ | simp -dsimp -implicitDefEqProofs only [go_sem, Nat.reduceBEq, Nat.reduceAdd, Nat.reduceLeDiff, Nat.reduceSub, Int.reduceEq, h00, h5, h6, h7, h4, h2, hs4, hs50, hs2, bleM])
    refine CallE.of (c_specEncodeMessage (msOf b) (by show (bufs b (nOf b) (nOf b)).length + wBB (bufs b (nOf b) (nOf b)) ≤ _; rw [bufs_length]; omega)) (by rintro r rfl; (repeat' first | exact trivial | exact pure_rowB _ | exact pure_rowO _ | exact pure_rowI _ | exact pure_rowBB _ | exact pure_rowPk _ _ | exact pure_rowSn _ _ | exact pure_rowFd _ _ | exact pure_rowBBB _ | exact pure_rowCl _ _ | exact pure_rowTb _ _ _ | refine And.intro ?_ ?_)) (by simp -dsimp -implicitDefEqProofs only [go_sem, Nat.reduceBEq, Nat.reduceAdd, Nat.reduceLeDiff, Nat.reduceSub, Int.reduceEq, h00, h5, h6, h7, h4, h2, hs4, hs50, hs2, hm]) ?_
    rintro r rfl
    simp -dsimp -implicitDefEqProofs only [go_sem, Nat.reduceBEq, Nat.reduceAdd, Nat.reduceLeDiff, Nat.reduceSub, Int.reduceEq, h00, h5, h6, h7, h4, h2, hs4, hs50, hs2, hm]
    have hel := encM_le (msOf b)
    refine CallE.of (c_l1same (encM (msOf b)) b (by omega) (by omega)) (by rintro r rfl; (repeat' first | exact trivial | exact pure_rowB _ | exact pure_rowO _ | exact pure_rowI _ | exact pure_rowBB _ | exact pure_rowPk _ _ | exact pure_rowSn _ _ | exact pure_rowFd _ _ | exact pure_rowBBB _ | exact pure_rowCl _ _ | exact pure_rowTb _ _ _ | refine And.intro ?_ ?_)) (by simp -dsimp -implicitDefEqProofs only [go_sem, Nat.reduceBEq, Nat.reduceAdd, Nat.reduceLeDiff, Nat.reduceSub, Int.reduceEq, h00, h5, h6, h7, h4, h2, hs4, hs50, hs2]) ?_
    rintro r rfl
    simp -dsimp -implicitDefEqProofs only [go_sem, Nat.reduceBEq, Nat.reduceAdd, Nat.reduceLeDiff, Nat.reduceSub, Int.reduceEq, h00, h5, h6, h7, h4, h2, hs4, hs50, hs2]
    refine ifB'.of (fun hE => ?_) (fun hE => ?_)
    · simp -dsimp -implicitDefEqProofs only [go_sem, Nat.reduceBEq, Nat.reduceAdd, Nat.reduceLeDiff, Nat.reduceSub, Int.reduceEq, h00, h5, h6, h7, h4, h2, hs4, hs50, hs2]
      repeat (first | with_reducible refine ask.of (by omega) ?_ | simp -dsimp -implicitDefEqProofs only [go_sem, Nat.reduceBEq, Nat.reduceAdd, Nat.reduceLeDiff, Nat.reduceSub, Int.reduceEq, h00, h5, h6, h7, h4, h2, hs4, hs50, hs2, bleM])
      rw [decResM, decM_yes ⟨by omega, by omega, hg, hE⟩, hm]
    · simp -dsimp -implicitDefEqProofs only [go_sem, Nat.reduceBEq, Nat.reduceAdd, Nat.reduceLeDiff, Nat.reduceSub, Int.reduceEq, h00, h5, h6, h7, h4, h2, hs4, hs50, hs2]
      repeat (first | with_reducible refine ask.of (by omega) ?_ | simp -dsimp -implicitDefEqProofs only [go_sem, Nat.reduceBEq, Nat.reduceAdd, Nat.reduceLeDiff, Nat.reduceSub, Int.reduceEq, h00, h5, h6, h7, h4, h2, hs4, hs50, hs2, bleM])
      exact resM_no (fun h' => hE h'.2.2.2)
end Go.Ev
set_option linter.unusedSimpArgs false
set_option linter.unusedVariables false
namespace Go.Ev
open Go Go.RowKit Go.Proofs
theorem stB_inj {x y : BitVec 32} (h : stB x = stB y) : x = y := by
  have hb : ∀ z : BitVec 32, (stB z).getLsbD 31 = z.getLsbD 0 := by
    intro z
    unfold stB
    rw [BitVec.getLsbD_xor, BitVec.getLsbD_ushiftRight]
    have h1 : z.getLsbD (1 + 31) = false := BitVec.getLsbD_of_ge z 32 (by decide)
    rw [h1]
    cases hz : z.getLsbD 0 <;> simp
  have h0 : x.getLsbD 0 = y.getLsbD 0 := by rw [← hb x, ← hb y, h]
  have h1 : x >>> 1 = y >>> 1 := by
    unfold stB at h
    rw [h0] at h
    have h2 := congrArg (· ^^^ (if y.getLsbD 0 = true then (3988292384 : BitVec 32) else 0)) h
    simpa [BitVec.xor_assoc] using h2
  apply BitVec.eq_of_getLsbD_eq
  intro i hi
  cases i with
  | zero => exact h0
  | succ i =>
    have h2 := congrArg (fun z => z.getLsbD i) h1
    simpa [BitVec.getLsbD_ushiftRight, Nat.add_comm] using h2
theorem stN_inj : ∀ (n : Nat) {x y : BitVec 32}, stN n x = stN n y → x = y
  | 0, _, _, h => h
  | n + 1, _, _, h => stN_inj n (stB_inj h)
theorem crcN_inj (n : Nat) {a b : UInt32} (h : crcN n a = crcN n b) : a = b := by
  have h1 := congrArg UInt32.toBitVec h
  rw [crcN_bv, crcN_bv] at h1
  exact UInt32.toBitVec_inj.1 (stN_inj n h1)
theorem crcU_inj (l : List UInt8) : ∀ {a b : UInt32}, crcU a l = crcU b l → a = b := by
  induction l with
  | nil => intro a b h; exact h
  | cons x l ih =>
    intro a b h
    have h1 := crcN_inj 8 (ih h)
    have h2 := congrArg (· ^^^ x.toUInt32) h1
    simpa [UInt32.xor_assoc] using h2
theorem u8_u32_inj {x y : UInt8} (h : x.toUInt32 = y.toUInt32) : x = y := by
  have h1 := congrArg UInt32.toNat h
  rw [UInt8.toNat_toUInt32, UInt8.toNat_toUInt32] at h1
  exact UInt8.toNat_inj.1 h1
theorem crcU_append (c : UInt32) (a b : List UInt8) : crcU c (a ++ b) = crcU (crcU c a) b := by
  induction a generalizing c with
  | nil => rfl
  | cons x a ih => exact ih _
theorem crcB_change (a b : List UInt8) {x y : UInt8} (h : crcB (a ++ x :: b) = crcB (a ++ y :: b)) : x = y := by
  have h1 : crcU 4294967295 (a ++ x :: b) = crcU 4294967295 (a ++ y :: b) := by
    have := congrArg (· ^^^ (4294967295 : UInt32)) h
    simpa [crcB, UInt32.xor_assoc] using this
  rw [crcU_append, crcU_append] at h1
  have h2 := crcN_inj 8 (crcU_inj b h1)
  have h3 := congrArg (crcU 4294967295 a ^^^ ·) h2
  exact u8_u32_inj (by simpa [← UInt32.xor_assoc] using h3)
def sumOk (b : List UInt8) : Prop := ∃ body, b = body ++ leB 4 (crcB body).toNat
theorem sumB_ok (xs : List (List UInt8)) : sumOk (sumB xs) := ⟨xs.flatten, rfl⟩
theorem leB4_inj {a b : UInt32} (h : leB 4 (a.toNat : Int) = leB 4 (b.toNat : Int)) : a = b := by
  have h1 := congrArg leN h
  rw [leN_leB, leN_leB] at h1
  have ha := a.toNat_lt
  have hb := b.toNat_lt
  have e : ∀ n : Nat, n < 4294967296 → uN (n : Int) % 256 ^ 4 = n := fun n hn => by
    unfold uN
    rw [show (256 : Nat) ^ 4 = 4294967296 from rfl]
    omega
  rw [e _ ha, e _ hb] at h1
  exact UInt32.toNat_inj.1 h1
def flipB (b : List UInt8) (bit : Nat) : List UInt8 := if b.length = 0 then [] else b.set (bit % (8 * b.length) / 8) (b.getD (bit % (8 * b.length) / 8) 0 ^^^ UInt8.ofNat (2 ^ (bit % 8)))
theorem flipB_len (b : List UInt8) (bit : Nat) : (flipB b bit).length = b.length := by
  unfold flipB
  split
  · rename_i h; rw [h]; rfl
  · simp
theorem xor_ne {x : UInt8} {k : Nat} (hk : k < 8) : x ^^^ UInt8.ofNat (2 ^ k) ≠ x := by
  intro h
  have h1 := congrArg (x ^^^ ·) h
  have h2 : UInt8.ofNat (2 ^ k) = 0 := by simpa [← UInt8.xor_assoc] using h1
  have h3 : ∀ k, k < 8 → UInt8.ofNat (2 ^ k) ≠ 0 := by decide
  exact h3 k hk h2
theorem flipB_split {b : List UInt8} (h : b.length ≠ 0) (bit : Nat) : ∃ l x y r, b = l ++ x :: r ∧ flipB b bit = l ++ y :: r ∧ x ≠ y := by
  have hj : bit % (8 * b.length) / 8 < b.length := by
    have : bit % (8 * b.length) < 8 * b.length := Nat.mod_lt _ (by omega)
    omega
  unfold flipB
  rw [if_neg h]
  generalize bit % (8 * b.length) / 8 = j at hj
  refine ⟨b.take j, b[j], b.getD j 0 ^^^ UInt8.ofNat (2 ^ (bit % 8)), b.drop (j + 1), ?_, ?_, ?_⟩
  · rw [← List.drop_eq_getElem_cons hj, List.take_append_drop]
  · rw [List.set_eq_take_append_cons_drop, if_pos hj]
  · have : b.getD j 0 = b[j] := by simp [List.getD, hj]
    rw [this]
    exact fun e => xor_ne (Nat.mod_lt _ (by decide)) e.symm
theorem take_mid {α : Type} {l r : List α} {x : α} {n : Nat} (h : l.length < n) : (l ++ x :: r).take n = l ++ x :: r.take (n - l.length - 1) := by
  obtain ⟨m, rfl⟩ : ∃ m, n = l.length + (m + 1) := ⟨n - l.length - 1, by omega⟩
  rw [List.take_length_add_append, List.take_succ_cons, show l.length + (m + 1) - l.length - 1 = m by omega]
theorem drop_mid {α : Type} {l r : List α} {x : α} {n : Nat} (h : l.length < n) : (l ++ x :: r).drop n = r.drop (n - l.length - 1) := by
  obtain ⟨m, rfl⟩ : ∃ m, n = l.length + (m + 1) := ⟨n - l.length - 1, by omega⟩
  rw [List.drop_length_add_append, List.drop_succ_cons, show l.length + (m + 1) - l.length - 1 = m by omega]
theorem flip_bad {b : List UInt8} (hb : sumOk b) (bit : Nat) : ¬ sumOk (flipB b bit) := by
  obtain ⟨body, hb⟩ := hb
  rintro ⟨body', hb'⟩
  have hl4 := leB_length 4 (crcB body).toNat
  have hl4' := leB_length 4 (crcB body').toNat
  have hbl : b.length = body.length + 4 := by rw [hb, List.length_append, hl4]
  have hbl' : (flipB b bit).length = body'.length + 4 := by rw [hb', List.length_append, hl4']
  rw [flipB_len] at hbl'
  obtain ⟨l, x, y, r, e1, e2, hxy⟩ := flipB_split (b := b) (by omega) bit
  have hlr : l.length + 1 + r.length = b.length := by rw [e1]; simp; omega
  have f1 : body ++ leB 4 (crcB body).toNat = l ++ x :: r := by rw [← hb, e1]
  have f2 : body' ++ leB 4 (crcB body').toNat = l ++ y :: r := by rw [← hb', e2]
  by_cases hp : l.length < body.length
  · have g1 : body = l ++ x :: r.take (body.length - l.length - 1) := by
      have := congrArg (List.take body.length) f1
      rw [List.take_left' rfl, take_mid (by omega)] at this
      exact this
    have g2 : body' = l ++ y :: r.take (body.length - l.length - 1) := by
      have := congrArg (List.take body.length) f2
      rw [show body.length = body'.length by omega, List.take_left' rfl, show body'.length = body.length by omega, take_mid (by omega)] at this
      exact this
    have t1 : leB 4 (crcB body).toNat = r.drop (body.length - l.length - 1) := by
      have := congrArg (List.drop body.length) f1
      rw [List.drop_left' rfl, drop_mid (by omega)] at this
      exact this
    have t2 : leB 4 (crcB body').toNat = r.drop (body.length - l.length - 1) := by
      have := congrArg (List.drop body.length) f2
      rw [show body.length = body'.length by omega, List.drop_left' rfl, show body'.length = body.length by omega, drop_mid (by omega)] at this
      exact this
    have hc := leB4_inj (t1.trans t2.symm)
    rw [g1, g2] at hc
    exact hxy (crcB_change _ _ hc)
  · have g1 : body = l.take body.length := by
      have := congrArg (List.take body.length) f1
      rwa [List.take_left' rfl, List.take_append_of_le_length (by omega)] at this
    have g2 : body' = l.take body.length := by
      have := congrArg (List.take body'.length) f2
      rw [List.take_left' rfl, List.take_append_of_le_length (by omega)] at this
      rw [this]; congr 1; omega
    have hbb : body = body' := g1.trans g2.symm
    rw [← hbb] at f2
    have := f1.symm.trans f2
    rw [List.append_cancel_left_eq] at this
    exact hxy (List.cons.inj this).1
theorem decP_sum {b : List UInt8} (h : (decP b).2 = 0) : sumOk b := by
  unfold decP at h
  split at h
  · rename_i hc
    have h1 := hc.2
    unfold encP at h1
    split at h1
    · rw [← h1]; exact sumB_ok _
    · rw [← h1] at hc; exact absurd hc.1 (by decide)
  · cases h
theorem encP_sum {p : Pk} (h : okB p = true) : sumOk (encP p) := by
  rw [encP, if_pos h]; exact sumB_ok _
theorem decP_flip {p : Pk} (h : okB p = true) (bit : Nat) : decP (flipB (encP p) bit) = (⟨0, 0, 0, 0, false, []⟩, 3) := by
  have h1 : ¬ (decP (flipB (encP p) bit)).2 = 0 := fun e => flip_bad (encP_sum h) bit (decP_sum e)
  unfold decP at h1 ⊢
  split
  · rename_i hc; rw [if_pos hc] at h1; exact absurd rfl h1
  · rfl
theorem cut_mid {xs ys zs : List UInt8} {l h : Nat} (hl : l = xs.length) (hh : h = xs.length + ys.length) : cutB (xs ++ (ys ++ zs)) l h = ys := by
  subst hl hh
  rw [cutB, ← List.append_assoc, List.take_left' (by rw [List.length_append]), List.drop_left' rfl]
theorem num_leB {w : Nat} (hw : w ≤ 8) {x : Int} (h0 : 0 ≤ x) (h1 : x < 9223372036854775808) (h2 : x < (256 ^ w : Nat)) : IntKind.i64.wrap (leN (leB w x)) = x := by
  rw [leN_leB]
  have e : uN x = x.toNat := by unfold uN; omega
  rw [e, Nat.mod_eq_of_lt (by omega), wrap_i64_of (by omega) (by omega)]
  omega
theorem encP_shape {p : Pk} (h : okB p = true) : encP p = [67, UInt8.ofNat p.a.toNat] ++ (leB 4 p.b ++ (leB 8 p.c ++ (leB 4 p.d ++ ([lastB p.e] ++ (leB 2 p.f.length ++ (p.f ++ leB 4 (crcB (pkParts p).flatten).toNat)))))) := by
  rw [encP, if_pos h, sumB]
  simp [pkParts]
theorem decP_encP {p : Pk} (h : okB p = true) : decP (encP p) = (p, 0) := by
  have hp : okPk p := of_decide_eq_true h
  have hs := encP_shape h
  obtain ⟨h1, h2, h3, h4, h5, h6, h7, h8, h9⟩ := hp
  have hfl : p.f.length ≤ 100 := by
    rcases h9 with h9 | h9
    · omega
    · have := h9; omega
  have hlen : (encP p).length = 25 + p.f.length := by rw [hs]; simp [leB_length]; omega
  have e1 : (encP p).getD 1 0 = UInt8.ofNat p.a.toNat := by rw [hs]; rfl
  have ea : ((UInt8.ofNat p.a.toNat).toNat : Int) = p.a := by simp; omega
  have e2 : cutB (encP p) 2 6 = leB 4 p.b := by rw [hs]; exact cut_mid rfl (by simp [leB_length])
  have e3 : cutB (encP p) 6 14 = leB 8 p.c := by
    rw [hs, ← List.append_assoc]; exact cut_mid (by simp [leB_length]) (by simp [leB_length])
  have e4 : cutB (encP p) 14 18 = leB 4 p.d := by
    rw [hs, ← List.append_assoc, ← List.append_assoc]; exact cut_mid (by simp [leB_length]) (by simp [leB_length])
  have e5 : cutB (encP p) 21 ((encP p).length - 4) = p.f := by
    rw [hlen]
    rw [hs, ← List.append_assoc, ← List.append_assoc, ← List.append_assoc, ← List.append_assoc, ← List.append_assoc]; exact cut_mid (by simp [leB_length]) (by simp [leB_length]; omega)
  have e6 : cutB (encP p) 18 19 = [lastB p.e] := by
    rw [hs, ← List.append_assoc, ← List.append_assoc, ← List.append_assoc]; exact cut_mid (by simp [leB_length]) (by simp [leB_length])
  have e7 : (encP p).getD 18 0 = lastB p.e := by
    have h18 : 18 < (encP p).length := by omega
    have : (cutB (encP p) 18 19)[0]? = (encP p)[18]? := by simp [cutB]
    rw [e6] at this
    rw [List.getD, ← this]; rfl
  have e8 : decide ((lastB p.e).toNat = 1) = p.e := by cases p.e <;> rfl
  have hk : pkOf (encP p) = p := by
    unfold pkOf numAt
    rw [e1, ea, e2, e3, e4, e5, e7, e8, num_leB (by decide) (by omega) (by omega) (by omega), num_leB (by decide) (by omega) (by omega) (by omega), num_leB (by decide) (by omega) (by omega) (by omega)]
  rw [decP, if_pos ⟨by omega, by rw [hk]⟩, hk]
end Go.Ev
set_option linter.unusedSimpArgs false
set_option linter.unusedVariables false
namespace Go.Ev
open Go Go.RowKit Go.Proofs
theorem cut_shift {h r : List UInt8} {k l u : Nat} (hk : h.length = k) : cutB (h ++ r) (k + l) (k + u) = cutB r l u := by
  subst hk
  rw [cutB, cutB, List.take_length_add_append, List.drop_length_add_append]
theorem cut_in {r s : List UInt8} {l u : Nat} (h : u ≤ r.length) : cutB (r ++ s) l u = cutB r l u := by
  rw [cutB, cutB, List.take_append_of_le_length h]
theorem lensB_pack (bs : List (List UInt8)) : lensB bs = packI (bs.map fun b => ((b.length : Nat) : Int)) 4 := by
  rw [lensB, packI, List.flatMap_map]
theorem lens_cut (bs : List (List UInt8)) {i : Nat} (h : i < bs.length) : cutB (lensB bs) (4 * i) (4 * i + 4) = leB 4 ((bs[i].length : Nat) : Int) := by
  have h1 := chunk_pack 4 (bs.map fun b => ((b.length : Nat) : Int)) i (by simpa using h)
  rw [← lensB_pack, ← spec_chunk] at h1
  rw [cutB, h1]
  simp
theorem leN_len {n : Nat} (h : n < 4294967296) : leN (leB 4 ((n : Nat) : Int)) = n := by
  rw [leN_leB, show (256 : Nat) ^ 4 = 4294967296 from rfl]
  unfold uN
  omega
theorem headB_len (x : Ms) : (headB x).length = 8 := rfl
section
variable {x : Ms} (hg : msGood x)
include hg
theorem encM_shape : encM x = headB x ++ (joinA (lensB x.bs :: x.bs) ++ leB 4 (crcB [headB x, joinA (lensB x.bs :: x.bs)].flatten).toNat) := by
  rw [encM_yes hg, msBody, sumB]
  simp
theorem mem_len20 {i : Nat} (h : i < x.bs.length) : x.bs[i].length ≤ 20000 := by
  have h1 := hg.2.1
  have h2 := mem_wBB (List.getElem_mem h)
  omega
theorem enc_szAt {i : Nat} (h : i < x.bs.length) : szAt (encM x) i = x.bs[i].length ∧ 12 + 4 * i ≤ (encM x).length := by
  have h0 := joinA_part (xs := lensB x.bs :: x.bs) (i := 0) (by simp)
  have hl := lensB_length x.bs
  obtain ⟨h1, h2, _, _⟩ := h0
  have e0 : (joinA ((lensB x.bs :: x.bs).take 0)).length = 0 := rfl
  simp only [List.getElem_cons_zero, e0, Nat.zero_add, List.drop_zero] at h1 h2
  have hJ : 4 * x.bs.length ≤ (joinA (lensB x.bs :: x.bs)).length := by omega
  have e1 : cutB (joinA (lensB x.bs :: x.bs)) (4 * i) (4 * i + 4) = cutB (lensB x.bs) (4 * i) (4 * i + 4) := by
    conv => rhs; rw [← h2]
    rw [cutB, cutB, List.take_take, Nat.min_eq_left (by omega)]
  refine ⟨?_, ?_⟩
  · rw [szAt, encM_shape hg, show 12 + 4 * i = 8 + (4 * i + 4) by omega, cut_shift (headB_len x), cut_in (by omega), e1, lens_cut x.bs h]
    exact leN_len (by have := mem_len20 hg h; omega)
  · rw [encM_shape hg, List.length_append, List.length_append, headB_len x]; omega
theorem enc_atP : ∀ i, i ≤ x.bs.length → atP (encM x) x.bs.length i = 8 + (joinA ((lensB x.bs :: x.bs).take (i + 1))).length
  | 0, _ => by
    rw [atP, joinA_pad _ 1 (by simp)]
    simp [szL, lensB_length]
  | i + 1, h => by
    have ih := enc_atP i (by omega)
    rw [atP, ih, (enc_szAt hg (by omega)).1, joinA_pad _ (i + 1) (by simp; omega), joinA_pad _ (i + 1 + 1) (by simp; omega), szL_take_succ _ (show i + 1 < (lensB x.bs :: x.bs).length by simp; omega)]
    simp only [List.getElem_cons_succ]
    omega
theorem enc_len : (encM x).length = 12 + (joinA (lensB x.bs :: x.bs)).length := by
  rw [encM_shape hg, List.length_append, List.length_append, headB_len x, leB_length]; omega
theorem enc_good {i : Nat} (h : i < x.bs.length) : goodI (encM x) x.bs.length i ∧ bufAt (encM x) x.bs.length i = x.bs[i] := by
  have h0 := joinA_part (xs := lensB x.bs :: x.bs) (i := i + 1) (by simp; omega)
  obtain ⟨h1, h2, _, _⟩ := h0
  simp only [List.getElem_cons_succ] at h1 h2
  have hs := enc_szAt hg h
  have ha := enc_atP hg i (by omega)
  have hl := enc_len hg
  refine ⟨⟨hs.2, by omega, by rw [ha, hs.1]; omega⟩, ?_⟩
  rw [bufAt, ha, hs.1]
  conv => lhs; rw [encM_shape hg]
  rw [Nat.add_assoc, cut_shift (headB_len x), cut_in (by omega), cutB, h2]
theorem nOf_enc : nOf (encM x) = x.bs.length := by
  have h1 := hg.1.2.2.2.2.2.2.1
  have : (encM x).getD 6 0 = UInt8.ofNat x.bs.length := by rw [encM_shape hg]; rfl
  rw [nOf, this]
  simp; omega
theorem msOf_enc : msOf (encM x) = x := by
  obtain ⟨⟨h1, h2, h3, h4, h5, h6, h7, h8⟩, h9, h10⟩ := hg
  have hg : msGood x := ⟨⟨h1, h2, h3, h4, h5, h6, h7, h8⟩, h9, h10⟩
  have hn := nOf_enc hg
  have e2 : (encM x).getD 2 0 = UInt8.ofNat x.k.toNat := by rw [encM_shape hg]; rfl
  have e3 : (encM x).getD 3 0 = UInt8.ofNat x.f.toNat := by rw [encM_shape hg]; rfl
  have e4 : cutB (encM x) 4 6 = [UInt8.ofNat (x.n.toNat % 256), UInt8.ofNat (x.n.toNat / 256 % 256)] := by rw [encM_shape hg]; rfl
  have eb : bufs (encM x) x.bs.length x.bs.length = x.bs := by
    refine List.ext_getElem (by simp [bufs]) fun i h1 h2 => ?_
    have : (bufs (encM x) x.bs.length x.bs.length)[i] = bufAt (encM x) x.bs.length i := by simp [bufs]
    rw [this, (enc_good hg h2).2]
  have en : numAt (encM x) 4 6 = x.n := by
    rw [numAt, e4]
    have : leN [UInt8.ofNat (x.n.toNat % 256), UInt8.ofNat (x.n.toNat / 256 % 256)] = x.n.toNat := by
      simp [leN]; omega
    rw [this, wrap_i64_of (by omega) (by omega)]; omega
  have k2 : (((UInt8.ofNat x.k.toNat).toNat : Nat) : Int) = x.k := by simp; omega
  have k3 : (((UInt8.ofNat x.f.toNat).toNat : Nat) : Int) = x.f := by simp; omega
  rw [msOf, hn, e2, e3, en, eb, k2, k3]
theorem decM_encM : decM (encM x) = (x, 0) := by
  have hn := nOf_enc hg
  have hm := msOf_enc hg
  have hl := enc_len hg
  have h20 : (encM x).length ≤ 20000 := encM_le x
  rw [decM_yes ⟨by omega, h20, fun i hi => by rw [hn] at hi ⊢; exact (enc_good hg hi).1, by rw [hm]⟩, hm]
theorem encM_sum : sumOk (encM x) := by rw [encM_yes hg]; exact sumB_ok _
theorem decM_flip (bit : Nat) : decM (flipB (encM x) bit) = (ms0, 3) := by
  refine decM_no fun h => flip_bad (encM_sum hg) bit ?_
  have h4 := h.2.2.2
  by_cases hgg : msGood (msOf (flipB (encM x) bit))
  · rw [← h4, encM_yes hgg]; exact sumB_ok _
  · rw [encM_no hgg] at h4
    have := h.1
    rw [← h4] at this
    exact absurd this (by decide)
end
end Go.Ev
set_option linter.unusedSimpArgs false
set_option linter.unusedVariables false
namespace Go.Ev
open Go Go.RowKit Go.Proofs
def tkAt (c : List UInt8) (i : Nat) : Nat := (c.getD (i % c.length) 0).toNat
theorem tkAt_lt (c : List UInt8) (i : Nat) : tkAt c i < 256 := UInt8.toNat_lt _
theorem c_take (c : List UInt8) (i : Nat) (hi : i < 1000) (hb : c.length ≤ 1048576) : Meets Try.prog 14 [rowB c, .v (.int .i64 i)] (fun r => r = .v (.int .i64 (tkAt c i : Nat))) := by
  refine Meets.intro mixed (hint []) Try.func14 rfl (by decide) res_14 rty_14 (by kernel_rfl) ?_; 
  simp -dsimp -implicitDefEqProofs only [go_sem, Nat.reduceBEq, Nat.reduceAdd, Nat.reduceLeDiff, Nat.reduceSub, Int.reduceEq, initE]
  refine ifB'.of (fun h => ?_) (fun h => ?_)
  · have h : c = [] := List.eq_nil_of_length_eq_zero (by omega)
    subst h
    simp -dsimp -implicitDefEqProofs only [go_sem, Nat.reduceBEq, Nat.reduceAdd, Nat.reduceLeDiff, Nat.reduceSub, Int.reduceEq]
    rfl
  · have hl : 0 < c.length := by omega
    have hm : i % c.length < c.length := Nat.mod_lt _ hl
    have e1 : tkAt c i = c[i % c.length].toNat := by unfold tkAt; simp [hm]
    have et := tmodL i c.length
    have ew : IntKind.i64.wrap (c[i % c.length].toNat : Int) = (c[i % c.length].toNat : Int) := by have := c[i % c.length].toNat_lt; rw [wrap_i64_of (by omega) (by omega)]
    repeat (first | with_reducible refine ask.of (by first | omega | decide) ?_ | simp -dsimp -implicitDefEqProofs only [go_sem, Nat.reduceBEq, Nat.reduceAdd, Nat.reduceLeDiff, Nat.reduceSub, Int.reduceEq, et, bytesA_at hm, ew, e1])
    try rw [e1]
theorem flip_eq {b : List UInt8} (h : b.length ≠ 0) (bit : Nat) (hj : bit % (8 * b.length) / 8 < b.length) : b.set (bit % (8 * b.length) / 8) (b[bit % (8 * b.length) / 8] ^^^ UInt8.ofNat (2 ^ (bit % (8 * b.length) % 8))) = flipB b bit := by
  unfold flipB
  rw [if_neg h, Nat.mod_mod_of_dvd _ (Nat.dvd_mul_right 8 _)]
  congr 2
  simp [List.getD, hj]
set_option maxRecDepth 8000 in
set_option maxHeartbeats 1000000 in
theorem c_flip (b : List UInt8) (bit : Nat) (hbit : bit ≤ 1000000) (hb : b.length ≤ 1048576) : Meets Try.prog 21 [rowB b, .v (.int .i64 bit)] (fun r => r = rowB (flipB b bit)) := by
  refine Meets.intro mixed (hint []) Try.func21 rfl (by decide) res_21 rty_21 (by kernel_rfl) ?_; 
  simp -dsimp -implicitDefEqProofs only [go_sem, Nat.reduceBEq, Nat.reduceAdd, Nat.reduceLeDiff, Nat.reduceSub, Int.reduceEq, initE]
  by_cases h : b.length = 0
  · have h : b = [] := List.eq_nil_of_length_eq_zero h
    subst h
    repeat' (first | with_reducible refine ask.of (by first | omega | decide) ?_ | ((with_reducible refine ifB'.of (fun h => ?_) (fun h => ?_)) <;> first | (exfalso; simp at h; done) | skip) | simp -dsimp -implicitDefEqProofs only [go_sem, Nat.reduceBEq, Nat.reduceAdd, Nat.reduceLeDiff, Nat.reduceSub, Int.reduceEq, cty_rd])
    exact rfl
  · have hM : bit % (8 * b.length) < 8 * b.length := Nat.mod_lt _ (by omega)
    obtain ⟨M, hMe⟩ : ∃ M, bit % (8 * b.length) = M := ⟨_, rfl⟩
    have hMl : M ≤ bit := by rw [← hMe]; exact Nat.mod_le _ _
    rw [hMe] at hM
    have hj : M / 8 < b.length := by omega
    have hk : M % 8 < 8 := Nat.mod_lt _ (by decide)
    have em : IntKind.i64.wrap (8 * (b.length : Int)) = ((8 * b.length : Nat) : Int) := by rw [wrap_i64_of (by omega) (by omega)]; omega
    have h9 := h
    have et := tmodL bit (8 * b.length)
    rw [hMe] at et
    have ed := tdivL 8 (n := M) (by omega)
    have ek := tmodL M 8
    simp only [show ((8 : Nat) : Int) = 8 from rfl] at ed ek
    repeat' (first | with_reducible refine ask.of (by first | omega | decide) ?_ | ((with_reducible refine ifB'.of (fun h => ?_) (fun h => ?_)) <;> first | (exfalso; omega) | skip) | simp -dsimp -implicitDefEqProofs only [go_sem, Nat.reduceBEq, Nat.reduceAdd, Nat.reduceLeDiff, Nat.reduceSub, Int.reduceEq, cty_rd, blA, em, et, ed, ek, bytesA_at hj, shl8' hk, xor8])
    subst hMe
    exact congrArg rowB (flip_eq h9 bit hj)
set_option maxRecDepth 8000 in
theorem c_sameL (xs : List (List UInt8)) (hl : xs.length ≤ 1048576) (hb : ∀ b ∈ xs, b.length ≤ 8388608) : Meets Try.prog 22 [rowBB xs, rowBB xs] (fun r => r = .v (.bool true)) := by
  refine Meets.introO mixed (hint []) (fun k => (sel (k == 6) [0,1,2,3,4,5,6,7,8,9] [])) Try.func22 rfl (by decide) res_22 rty_22 (by kernel_rfl) ?_; 
  simp -dsimp -implicitDefEqProofs only [go_sem, Nat.reduceBEq, Nat.reduceAdd, Nat.reduceLeDiff, Nat.reduceSub, Int.reduceEq, decide_true, Bool.not_true]
  refine LoopE.cnt xs.length (fun i s => s.env 0 = .rd .ent 22 1 (ra byC xs) ∧ s.env 1 = .rd .ent 22 1 (ra byC xs) ∧ s.env 5 = .v (.int .i64 i)) ⟨by simp -dsimp -implicitDefEqProofs only [go_sem, Nat.reduceBEq, Nat.reduceAdd, Nat.reduceLeDiff, Nat.reduceSub, Int.reduceEq, initE], by simp -dsimp -implicitDefEqProofs only [go_sem, Nat.reduceBEq, Nat.reduceAdd, Nat.reduceLeDiff, Nat.reduceSub, Int.reduceEq, initE], by simp -dsimp -implicitDefEqProofs only [go_sem, Nat.reduceBEq, Nat.reduceAdd, Nat.reduceLeDiff, Nat.reduceSub, Int.reduceEq] <;> simp⟩ ?_
  rintro i ⟨e, σ⟩ hi ⟨h0, h1, h5⟩ K hK
  simp only at h0 h1 h5
  simp -dsimp -implicitDefEqProofs only [go_sem, Nat.reduceBEq, Nat.reduceAdd, Nat.reduceLeDiff, Nat.reduceSub, Int.reduceEq, h0, h1, h5]
  refine ifB'.of (fun hlt => ?_) (fun hlt => ?_)
  · have hlt : i < xs.length := by omega
    have hA : (ra byC xs)[i]? = some (byC xs[i]) := ra_at hlt
    repeat (first | with_reducible refine ask.of (by first | omega | decide) ?_ | simp -dsimp -implicitDefEqProofs only [go_sem, Nat.reduceBEq, Nat.reduceAdd, Nat.reduceLeDiff, Nat.reduceSub, Int.reduceEq, h0, h1, h5, hA, byC])
    refine CallE.of (c_sameB xs[i] (hb _ (List.getElem_mem _))) (by rintro r rfl; (repeat' first | exact trivial | exact pure_rowB _ | exact pure_rowO _ | exact pure_rowI _ | exact pure_rowBB _ | exact pure_rowPk _ _ | exact pure_rowSn _ _ | exact pure_rowFd _ _ | exact pure_rowBBB _ | exact pure_rowCl _ _ | exact pure_rowTb _ _ _ | refine And.intro ?_ ?_)) (by simp -dsimp -implicitDefEqProofs only [go_sem, Nat.reduceBEq, Nat.reduceAdd, Nat.reduceLeDiff, Nat.reduceSub, Int.reduceEq, h0, h1, h5, Bool.not_true]) ?_
    rintro r rfl
    simp -dsimp -implicitDefEqProofs only [go_sem, Nat.reduceBEq, Nat.reduceAdd, Nat.reduceLeDiff, Nat.reduceSub, Int.reduceEq, h0, h1, h5, Bool.not_true]
    refine hK _ hlt ?_
    simp -dsimp -implicitDefEqProofs only [go_sem, Nat.reduceBEq, Nat.reduceAdd, Nat.reduceLeDiff, Nat.reduceSub, Int.reduceEq, h0, h1, h5, wrap_succ (show i < 4611686018427387904 by omega)]
  · simp -dsimp -implicitDefEqProofs only [go_sem, Nat.reduceBEq, Nat.reduceAdd, Nat.reduceLeDiff, Nat.reduceSub, Int.reduceEq, h0, h1, h5]
end Go.Ev
