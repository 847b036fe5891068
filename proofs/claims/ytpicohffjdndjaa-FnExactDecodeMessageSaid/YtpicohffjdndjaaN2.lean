/- Contracts: messages out of bytes. -/
import Derived.Test.YtpicohffjdndjaaN1
set_option linter.unusedSimpArgs false
set_option linter.unusedVariables false
namespace Go.Ev
open Go Go.RowKit Go.Proofs
theorem c_l4even (n : Nat) (hn : n ≤ 1099511627776) : Meets Try.prog 127 [.v (.int .i64 n)] (fun r => r = .v (.int .i64 (ev n))) := by
  refine Meets.intro mixed (hint []) Try.func127 rfl (by decide) res_127 rty_127 (by kernel_rfl) ?_; 
  have e1 : IntKind.i64.wrap ((n : Int) + 7) = ((n + 7 : Nat) : Int) := by rw [wrap_i64_of (by omega) (by omega)]; omega
  have e2 : IntKind.i64.wrap (((n + 7 : Nat) : Int).tdiv 8) = (((n + 7) / 8 : Nat) : Int) := by
    rw [show ((n + 7 : Nat) : Int).tdiv 8 = (((n + 7) / 8 : Nat) : Int) from rfl, wrap_nat (by omega)]
  have e3 : IntKind.i64.wrap ((((n + 7) / 8 : Nat) : Int) * 8) = (ev n : Nat) := by
    rw [wrap_i64_of (by omega) (by omega), ev]; omega
  simp -dsimp -implicitDefEqProofs only [go_sem, Nat.reduceBEq, Nat.reduceAdd, Nat.reduceLeDiff, Nat.reduceSub, Int.reduceEq, initE, e1, e2]
  repeat (first | with_reducible refine ask.of (by decide) ?_ | simp -dsimp -implicitDefEqProofs only [go_sem, Nat.reduceBEq, Nat.reduceAdd, Nat.reduceLeDiff, Nat.reduceSub, Int.reduceEq, e1, e2, e3])
theorem c_aligned (n : Nat) (hn : n ≤ 1099511627776) : Meets Try.prog 128 [.v (.int .i64 n)] (fun r => r = .v (.int .i64 (ev n))) := by
  refine Meets.intro mixed (hint []) Try.func128 rfl (by decide) res_128 rty_128 (by kernel_rfl) ?_; 
  have e1 : IntKind.i64.wrap ((n : Int) + 7) = ((n + 7 : Nat) : Int) := by rw [wrap_i64_of (by omega) (by omega)]; omega
  have e2 : IntKind.i64.wrap (((n + 7 : Nat) : Int).tdiv 8) = (((n + 7) / 8 : Nat) : Int) := by
    rw [show ((n + 7 : Nat) : Int).tdiv 8 = (((n + 7) / 8 : Nat) : Int) from rfl, wrap_nat (by omega)]
  have e3 : IntKind.i64.wrap ((((n + 7) / 8 : Nat) : Int) * 8) = (ev n : Nat) := by
    rw [wrap_i64_of (by omega) (by omega), ev]; omega
  simp -dsimp -implicitDefEqProofs only [go_sem, Nat.reduceBEq, Nat.reduceAdd, Nat.reduceLeDiff, Nat.reduceSub, Int.reduceEq, initE, e1, e2]
  repeat (first | with_reducible refine ask.of (by decide) ?_ | simp -dsimp -implicitDefEqProofs only [go_sem, Nat.reduceBEq, Nat.reduceAdd, Nat.reduceLeDiff, Nat.reduceSub, Int.reduceEq, e1, e2, e3])
noncomputable def decResM (b : List UInt8) : AV := .tup [.agg (msC (decM b).1), .v (.int .i64 (decM b).2)]
theorem resM_no {b : List UInt8} (h : ¬ decMGood b) : AV.tup [.agg [.v (.int .i64 0), .v (.int .i64 0), .v (.int .i64 0), .row 37 1 []], .v (.int .i64 3)] = decResM b := by rw [decResM, decM_no h]; rfl
theorem cut_eq {b : List UInt8} {l h : Nat} : List.drop l (List.take h b) = cutB b l h := rfl
theorem ble4_1 : Nat.ble 1 4 = true := rfl
theorem ble4_2 : Nat.ble 2 4 = true := rfl
theorem ble4_3 : Nat.ble 3 4 = true := rfl
theorem szAt_lt (b : List UInt8) (i : Nat) : szAt b i < 4294967296 := by
  have h := leN_lt (cutB b (8 + 4 * i) (12 + 4 * i))
  have hl : (cutB b (8 + 4 * i) (12 + 4 * i)).length ≤ 4 := by simp [cutB]; omega
  have h2 : 256 ^ (cutB b (8 + 4 * i) (12 + 4 * i)).length ≤ 256 ^ 4 := Nat.pow_le_pow_right (by decide) hl
  unfold szAt
  omega
theorem bufs_length (b : List UInt8) (n i : Nat) : (bufs b n i).length = i := by simp [bufs]
theorem bufsC_length (b : List UInt8) (n i : Nat) : (bufsC b n i).length = i := by simp [bufsC]
theorem byC_snoc {xs : List (List UInt8)} {x : List UInt8} : ra byC xs ++ [[AV.row 5 1 (bytesA x)]] = ra byC (xs ++ [x]) := by simp [ra, byC]
theorem wBB_snoc (xs : List (List UInt8)) (x : List UInt8) : wBB (xs ++ [x]) = wBB xs + x.length := by simp [wBB, szL]
theorem wBB_bufs (b : List UInt8) (n : Nat) : ∀ i, (∀ j, j < i → atP b n j + szAt b j ≤ b.length) → wBB (bufs b n i) + (8 + ev (4 * n)) ≤ atP b n i ∧ (0 < i → wBB (bufs b n i) ≤ b.length)
  | 0, _ => by simp [bufs, wBB, szL, atP]
  | i + 1, h => by
    obtain ⟨h1, _⟩ := wBB_bufs b n i (fun j hj => h j (by omega))
    have h2 := h i (by omega)
    have h3 := (ev_le (szAt b i)).1
    have h4 : (bufAt b n i).length = szAt b i := by rw [bufAt, cutB_length h2]; omega
    rw [bufs, List.range_succ, List.map_append, List.map_cons, List.map_nil, wBB_snoc, ← bufs, h4, atP]
    omega
theorem wBB_bufsC (b : List UInt8) (n : Nat) : ∀ i, (∀ j, j < i → atC b n j + szAt b j ≤ b.length) → wBB (bufsC b n i) ≤ atC b n i
  | 0, _ => by simp [bufsC, wBB, szL]
  | i + 1, h => by
    have h1 := wBB_bufsC b n i (fun j hj => h j (by omega))
    have h2 := h i (by omega)
    have h3 := (ev_le (szAt b i)).1
    have h4 : (bufC b n i).length = szAt b i := by rw [bufC, cutB_length h2]; omega
    rw [bufsC, List.range_succ, List.map_append, List.map_cons, List.map_nil, wBB_snoc, ← bufsC, h4]
    have h5 : atC b n (i + 1) = min (atP b n i + ev (szAt b i)) b.length := rfl
    have h6 : atC b n i = min (atP b n i) b.length := rfl
    omega
theorem bufs_snoc (b : List UInt8) (n i : Nat) : bufs b n i ++ [bufAt b n i] = bufs b n (i + 1) := by simp [bufs, List.range_succ]
theorem bufsC_snoc (b : List UInt8) (n i : Nat) : bufsC b n i ++ [bufC b n i] = bufsC b n (i + 1) := by simp [bufsC, List.range_succ]
set_option maxHeartbeats 2000000 in
set_option maxRecDepth 8000 in
theorem c_specDecodeMessage (b : List UInt8) (hb : b.length ≤ 1048576) : Meets Try.prog 66 [rowB b] (fun r => r = decResM b) := by
  refine Meets.introO mixed (hint []) (fun k => (sel (k == 3) [999,0,1,2,3,4,5,6,7,8,9,1012,10,11,12,13] (sel (k == 14) [0,1,2,3,4,5,6,7,8,9,10,11,12] []))) Try.func66 rfl (by decide) res_66 rty_66 (by kernel_rfl) ?_; 
  simp -dsimp -implicitDefEqProofs only [go_sem, Nat.reduceBEq, Nat.reduceAdd, Nat.reduceLeDiff, Nat.reduceSub, Int.reduceEq]
  repeat (first | with_reducible refine ask.of (by omega) ?_ | simp -dsimp -implicitDefEqProofs only [go_sem, Nat.reduceBEq, Nat.reduceAdd, Nat.reduceLeDiff, Nat.reduceSub, Int.reduceEq])
  refine ifB'.of (fun h => ?_) (fun h12 => ?_)
  · simp -dsimp -implicitDefEqProofs only [go_sem, Nat.reduceBEq, Nat.reduceAdd, Nat.reduceLeDiff, Nat.reduceSub, Int.reduceEq]
    repeat (first | with_reducible refine ask.of (by omega) ?_ | simp -dsimp -implicitDefEqProofs only [go_sem, Nat.reduceBEq, Nat.reduceAdd, Nat.reduceLeDiff, Nat.reduceSub, Int.reduceEq, bleM])
    exact resM_no (fun h' => by have := h'.1; omega)
  simp -dsimp -implicitDefEqProofs only [go_sem, Nat.reduceBEq, Nat.reduceAdd, Nat.reduceLeDiff, Nat.reduceSub, Int.reduceEq]
  refine ifB'.of (fun h => ?_) (fun hL => ?_)
  · simp -dsimp -implicitDefEqProofs only [go_sem, Nat.reduceBEq, Nat.reduceAdd, Nat.reduceLeDiff, Nat.reduceSub, Int.reduceEq]
    repeat (first | with_reducible refine ask.of (by omega) ?_ | simp -dsimp -implicitDefEqProofs only [go_sem, Nat.reduceBEq, Nat.reduceAdd, Nat.reduceLeDiff, Nat.reduceSub, Int.reduceEq, bleM])
    exact resM_no (fun h' => by have := h'.2.1; omega)
  have n2 : 2 < b.length := by omega
  have n3 : 3 < b.length := by omega
  have n6 : 6 < b.length := by omega
  have hn : b[6].toNat = nOf b := by rw [at_getD n6]; rfl
  have hn8 : nOf b < 256 := by rw [← hn]; exact b[6].toNat_lt
  have c46 : List.drop (Int.toNat 4) (List.take 6 b) = cutB b 4 6 := rfl
  have l46 : (cutB b 4 6).length = 2 := cutB_length (by omega)
  simp -dsimp -implicitDefEqProofs only [go_sem, Nat.reduceBEq, Nat.reduceAdd, Nat.reduceLeDiff, Nat.reduceSub, Int.reduceEq, bytesA_at n2, bytesA_at n3, bytesA_at n6, show Int.toNat 2 = 2 from rfl, show Int.toNat 3 = 3 from rfl, show Int.toNat 6 = 6 from rfl]
  repeat (first | with_reducible refine ask.of (by omega) ?_ | simp -dsimp -implicitDefEqProofs only [go_sem, Nat.reduceBEq, Nat.reduceAdd, Nat.reduceLeDiff, Nat.reduceSub, Int.reduceEq, bytesA_at n2, bytesA_at n3, bytesA_at n6, show Int.toNat 2 = 2 from rfl, show Int.toNat 3 = 3 from rfl, show Int.toNat 6 = 6 from rfl, i64_u8])
  refine CallE.of (c_l1number (cutB b 4 6) (by omega)) (by rintro r rfl; (repeat' first | exact trivial | exact pure_rowB _ | exact pure_rowO _ | exact pure_rowI _ | exact pure_rowBB _ | exact pure_rowPk _ _ | exact pure_rowSn _ _ | exact pure_rowFd _ _ | exact pure_rowBBB _ | exact pure_rowCl _ _ | refine And.intro ?_ ?_)) (by simp -dsimp -implicitDefEqProofs only [go_sem, Nat.reduceBEq, Nat.reduceAdd, Nat.reduceLeDiff, Nat.reduceSub, Int.reduceEq, c46]) ?_
  rintro r rfl
  simp -dsimp -implicitDefEqProofs only [go_sem, Nat.reduceBEq, Nat.reduceAdd, Nat.reduceLeDiff, Nat.reduceSub, Int.reduceEq, c46]
  have e0 : IntKind.i64.wrap (nOf b : Int) = nOf b := wrap_nat (by omega)
  have e1 : IntKind.i64.wrap (4 * (nOf b : Int)) = ((4 * nOf b : Nat) : Int) := by rw [wrap_i64_of (by omega) (by omega)]; omega
  repeat (first | with_reducible refine ask.of (by omega) ?_ | simp -dsimp -implicitDefEqProofs only [go_sem, Nat.reduceBEq, Nat.reduceAdd, Nat.reduceLeDiff, Nat.reduceSub, Int.reduceEq, bleM, ble4_1, ble4_2, ble4_3, bytesA_at n6, show Int.toNat 6 = 6 from rfl, i64_u8, hn, e0, e1])
  refine CallE.of (c_l4even (4 * nOf b) (by omega)) (by rintro r rfl; (repeat' first | exact trivial | exact pure_rowB _ | exact pure_rowO _ | exact pure_rowI _ | exact pure_rowBB _ | exact pure_rowPk _ _ | exact pure_rowSn _ _ | exact pure_rowFd _ _ | exact pure_rowBBB _ | exact pure_rowCl _ _ | refine And.intro ?_ ?_)) (by simp -dsimp -implicitDefEqProofs only [go_sem, Nat.reduceBEq, Nat.reduceAdd, Nat.reduceLeDiff, Nat.reduceSub, Int.reduceEq]) ?_
  rintro r rfl
  simp -dsimp -implicitDefEqProofs only [go_sem, Nat.reduceBEq, Nat.reduceAdd, Nat.reduceLeDiff, Nat.reduceSub, Int.reduceEq]
  have h0 := ev_le (4 * nOf b)
  have e2 : IntKind.i64.wrap (8 + (ev (4 * nOf b) : Int)) = (atP b (nOf b) 0 : Nat) := by rw [wrap_i64_of (by omega) (by omega), atP]; omega
  simp -dsimp -implicitDefEqProofs only [go_sem, Nat.reduceBEq, Nat.reduceAdd, Nat.reduceLeDiff, Nat.reduceSub, Int.reduceEq, e2]
  refine LoopE.cntW (nOf b) (fun i s => (∀ j, j < i → goodI b (nOf b) j) ∧ s.env 0 = .rd .ent 5 1 (bytesA b) ∧ s.env 5 = .v (.int .i64 (nOf b : Nat)) ∧ s.env 6 = .v (.int .i64 (atP b (nOf b) i : Nat)) ∧ s.env 7 = .v (.int .i64 i) ∧ s.env 4 = .ptr [4] 0 0 0 ∧ s.env 2 = .ptr [2] 0 0 0
    ∧ s.σ [4] = some (.box 72 [.v (.int .i64 (b[2].toNat : Int)), .v (.int .i64 (b[3].toNat : Int)), .v (.int .i64 (IntKind.i64.wrap (leN (cutB b 4 6)))), .ref [50]]) ∧ s.σ [50] = some (.row 37 1 (ra byC (bufs b (nOf b) i)))
    ∧ s.σ [2] = some (.box 72 [.v (.int .i64 0), .v (.int .i64 0), .v (.int .i64 0), .v (.slice none 0 0)]))
    (Wk.box [4] 3 [50] 37 1 72 [.v (.int .i64 (b[2].toNat : Int)), .v (.int .i64 (b[3].toNat : Int)), .v (.int .i64 (IntKind.i64.wrap (leN (cutB b 4 6)))), .v (.slice none 0 0)] ?_ rfl rfl (Wk.refl _)) ?_ ?_
  · simp -dsimp -implicitDefEqProofs only [go_sem, Nat.reduceBEq, Nat.reduceAdd, Nat.reduceLeDiff, Nat.reduceSub, Int.reduceEq]
  · refine ⟨fun j hj => absurd hj (Nat.not_lt_zero _), by simp -dsimp -implicitDefEqProofs only [go_sem, Nat.reduceBEq, Nat.reduceAdd, Nat.reduceLeDiff, Nat.reduceSub, Int.reduceEq, initE], by simp -dsimp -implicitDefEqProofs only [go_sem, Nat.reduceBEq, Nat.reduceAdd, Nat.reduceLeDiff, Nat.reduceSub, Int.reduceEq], by simp -dsimp -implicitDefEqProofs only [go_sem, Nat.reduceBEq, Nat.reduceAdd, Nat.reduceLeDiff, Nat.reduceSub, Int.reduceEq], by simp -dsimp -implicitDefEqProofs only [go_sem, Nat.reduceBEq, Nat.reduceAdd, Nat.reduceLeDiff, Nat.reduceSub, Int.reduceEq], by simp -dsimp -implicitDefEqProofs only [go_sem, Nat.reduceBEq, Nat.reduceAdd, Nat.reduceLeDiff, Nat.reduceSub, Int.reduceEq], by simp -dsimp -implicitDefEqProofs only [go_sem, Nat.reduceBEq, Nat.reduceAdd, Nat.reduceLeDiff, Nat.reduceSub, Int.reduceEq], by simp -dsimp -implicitDefEqProofs only [go_sem, Nat.reduceBEq, Nat.reduceAdd, Nat.reduceLeDiff, Nat.reduceSub, Int.reduceEq] <;> rfl, by simp -dsimp -implicitDefEqProofs only [go_sem, Nat.reduceBEq, Nat.reduceAdd, Nat.reduceLeDiff, Nat.reduceSub, Int.reduceEq] <;> rfl, by simp -dsimp -implicitDefEqProofs only [go_sem, Nat.reduceBEq, Nat.reduceAdd, Nat.reduceLeDiff, Nat.reduceSub, Int.reduceEq]⟩
  rintro i ⟨e, σ⟩ hi ⟨hg, h00, h5, h6, h7, h4, h2, hs4, hs50, hs2⟩ K hK
  simp only at h00 h5 h6 h7 h4 h2 hs4 hs50 hs2
  simp -dsimp -implicitDefEqProofs only [go_sem, Nat.reduceBEq, Nat.reduceAdd, Nat.reduceLeDiff, Nat.reduceSub, Int.reduceEq, h00, h5, h6, h7, h4, h2, hs4, hs50, hs2]
  repeat (first | with_reducible refine ask.of (by first | omega | decide) ?_ | simp -dsimp -implicitDefEqProofs only [go_sem, Nat.reduceBEq, Nat.reduceAdd, Nat.reduceLeDiff, Nat.reduceSub, Int.reduceEq, h00, h5, h6, h7, h4, h2, hs4, hs50, hs2, bleM])
  refine ifB'.of (fun hlt => ?_) (fun hlt => ?_)
  · have hlt : i < nOf b := by omega
    have e3 : IntKind.i64.wrap (4 * (i : Int)) = ((4 * i : Nat) : Int) := by rw [wrap_i64_of (by omega) (by omega)]; omega
    have e4 : IntKind.i64.wrap (12 + ((4 * i : Nat) : Int)) = ((12 + 4 * i : Nat) : Int) := by rw [wrap_i64_of (by omega) (by omega)]; omega
    have e5 : IntKind.i64.wrap (8 + ((4 * i : Nat) : Int)) = ((8 + 4 * i : Nat) : Int) := by rw [wrap_i64_of (by omega) (by omega)]; omega
    simp -dsimp -implicitDefEqProofs only [go_sem, Nat.reduceBEq, Nat.reduceAdd, Nat.reduceLeDiff, Nat.reduceSub, Int.reduceEq, h00, h5, h6, h7, h4, h2, hs4, hs50, hs2, e3, e4, e5]
    repeat (first | with_reducible refine ask.of (by first | omega | decide) ?_ | simp -dsimp -implicitDefEqProofs only [go_sem, Nat.reduceBEq, Nat.reduceAdd, Nat.reduceLeDiff, Nat.reduceSub, Int.reduceEq, h00, h5, h6, h7, h4, h2, hs4, hs50, hs2, bleM, e3, e4, e5])
    refine ifB'.of (fun h12i => ?_) (fun h12i => ?_)
    · simp -dsimp -implicitDefEqProofs only [go_sem, Nat.reduceBEq, Nat.reduceAdd, Nat.reduceLeDiff, Nat.reduceSub, Int.reduceEq, h00, h5, h6, h7, h4, h2, hs4, hs50, hs2]
      repeat (first | with_reducible refine ask.of (by omega) ?_ | simp -dsimp -implicitDefEqProofs only [go_sem, Nat.reduceBEq, Nat.reduceAdd, Nat.reduceLeDiff, Nat.reduceSub, Int.reduceEq, h00, h5, h6, h7, h4, h2, hs4, hs50, hs2, bleM])
      exact resM_no (fun h' => by have := (h'.2.2.1 i hlt).1; omega)
    simp -dsimp -implicitDefEqProofs only [go_sem, Nat.reduceBEq, Nat.reduceAdd, Nat.reduceLeDiff, Nat.reduceSub, Int.reduceEq, h00, h5, h6, h7, h4, h2, hs4, hs50, hs2, e3, e4, e5]
    repeat (first | with_reducible refine ask.of (by first | omega | decide) ?_ | simp -dsimp -implicitDefEqProofs only [go_sem, Nat.reduceBEq, Nat.reduceAdd, Nat.reduceLeDiff, Nat.reduceSub, Int.reduceEq, h00, h5, h6, h7, h4, h2, hs4, hs50, hs2, bleM, e3, e4, e5])
    have l4 : (cutB b (8 + 4 * i) (12 + 4 * i)).length = 4 := by rw [cutB_length (by omega)]; omega
    have hz := szAt_lt b i
    have e6 : IntKind.i64.wrap (leN (cutB b (8 + 4 * i) (12 + 4 * i)) : Nat) = (szAt b i : Nat) := by rw [← szAt]; exact wrap_nat (by omega)
    refine CallE.of (c_l1number (cutB b (8 + 4 * i) (12 + 4 * i)) (by omega)) (by rintro r rfl; (repeat' first | exact trivial | exact pure_rowB _ | exact pure_rowO _ | exact pure_rowI _ | exact pure_rowBB _ | exact pure_rowPk _ _ | exact pure_rowSn _ _ | exact pure_rowFd _ _ | exact pure_rowBBB _ | exact pure_rowCl _ _ | refine And.intro ?_ ?_)) (by simp -dsimp -implicitDefEqProofs only [go_sem, Nat.reduceBEq, Nat.reduceAdd, Nat.reduceLeDiff, Nat.reduceSub, Int.reduceEq, h00, h5, h6, h7, h4, h2, hs4, hs50, hs2, cut_eq]) ?_
    rintro r rfl
    simp -dsimp -implicitDefEqProofs only [go_sem, Nat.reduceBEq, Nat.reduceAdd, Nat.reduceLeDiff, Nat.reduceSub, Int.reduceEq, h00, h5, h6, h7, h4, h2, hs4, hs50, hs2, cut_eq]
    refine ifB'.of (fun hA => ?_) (fun hA => ?_)
    · simp -dsimp -implicitDefEqProofs only [go_sem, Nat.reduceBEq, Nat.reduceAdd, Nat.reduceLeDiff, Nat.reduceSub, Int.reduceEq, h00, h5, h6, h7, h4, h2, hs4, hs50, hs2]
      repeat (first | with_reducible refine ask.of (by omega) ?_ | simp -dsimp -implicitDefEqProofs only [go_sem, Nat.reduceBEq, Nat.reduceAdd, Nat.reduceLeDiff, Nat.reduceSub, Int.reduceEq, h00, h5, h6, h7, h4, h2, hs4, hs50, hs2, bleM])
      exact resM_no (fun h' => by have := (h'.2.2.1 i hlt).2.1; omega)
    have e7 : IntKind.i64.wrap ((b.length : Int) - (atP b (nOf b) i : Nat)) = ((b.length - atP b (nOf b) i : Nat) : Int) := by rw [wrap_i64_of (by omega) (by omega)]; omega
    simp -dsimp -implicitDefEqProofs only [go_sem, Nat.reduceBEq, Nat.reduceAdd, Nat.reduceLeDiff, Nat.reduceSub, Int.reduceEq, h00, h5, h6, h7, h4, h2, hs4, hs50, hs2, e6, e7]
    repeat (first | with_reducible refine ask.of (by omega) ?_ | simp -dsimp -implicitDefEqProofs only [go_sem, Nat.reduceBEq, Nat.reduceAdd, Nat.reduceLeDiff, Nat.reduceSub, Int.reduceEq, h00, h5, h6, h7, h4, h2, hs4, hs50, hs2, bleM, e6, e7])
    refine ifB'.of (fun hB => ?_) (fun hB => ?_)
    · simp -dsimp -implicitDefEqProofs only [go_sem, Nat.reduceBEq, Nat.reduceAdd, Nat.reduceLeDiff, Nat.reduceSub, Int.reduceEq, h00, h5, h6, h7, h4, h2, hs4, hs50, hs2]
      repeat (first | with_reducible refine ask.of (by omega) ?_ | simp -dsimp -implicitDefEqProofs only [go_sem, Nat.reduceBEq, Nat.reduceAdd, Nat.reduceLeDiff, Nat.reduceSub, Int.reduceEq, h00, h5, h6, h7, h4, h2, hs4, hs50, hs2, bleM])
      exact resM_no (fun h' => by have := (h'.2.2.1 i hlt).2.2; omega)
    have e8 : IntKind.i64.wrap ((atP b (nOf b) i : Int) + (szAt b i : Nat)) = ((atP b (nOf b) i + szAt b i : Nat) : Int) := by rw [wrap_i64_of (by omega) (by omega)]; omega
    simp -dsimp -implicitDefEqProofs only [go_sem, Nat.reduceBEq, Nat.reduceAdd, Nat.reduceLeDiff, Nat.reduceSub, Int.reduceEq, h00, h5, h6, h7, h4, h2, hs4, hs50, hs2, e6, e8]
    repeat (first | with_reducible refine ask.of (by first | omega | decide) ?_ | simp -dsimp -implicitDefEqProofs only [go_sem, Nat.reduceBEq, Nat.reduceAdd, Nat.reduceLeDiff, Nat.reduceSub, Int.reduceEq, h00, h5, h6, h7, h4, h2, hs4, hs50, hs2, bleM, e6, e8, cut_eq])
    refine CallE.of (c_l1copy (cutB b (atP b (nOf b) i) (atP b (nOf b) i + szAt b i)) (by rw [cutB_length (by omega)]; omega)) (by rintro r rfl; (repeat' first | exact trivial | exact pure_rowB _ | exact pure_rowO _ | exact pure_rowI _ | exact pure_rowBB _ | exact pure_rowPk _ _ | exact pure_rowSn _ _ | exact pure_rowFd _ _ | exact pure_rowBBB _ | exact pure_rowCl _ _ | refine And.intro ?_ ?_)) (by simp -dsimp -implicitDefEqProofs only [go_sem, Nat.reduceBEq, Nat.reduceAdd, Nat.reduceLeDiff, Nat.reduceSub, Int.reduceEq, h00, h5, h6, h7, h4, h2, hs4, hs50, hs2]) ?_
    rintro r rfl
    simp -dsimp -implicitDefEqProofs only [go_sem, Nat.reduceBEq, Nat.reduceAdd, Nat.reduceLeDiff, Nat.reduceSub, Int.reduceEq, h00, h5, h6, h7, h4, h2, hs4, hs50, hs2]
    repeat (first | with_reducible refine ask.of (by first | omega | decide | (simp only [ra_length, bufs_length, List.length_cons, List.length_nil]; omega)) ?_ | simp -dsimp -implicitDefEqProofs only [go_sem, Nat.reduceBEq, Nat.reduceAdd, Nat.reduceLeDiff, Nat.reduceSub, Int.reduceEq, h00, h5, h6, h7, h4, h2, hs4, hs50, hs2, bleM, byC_snoc])
    refine CallE.of (c_l4even (szAt b i) (by omega)) (by rintro r rfl; (repeat' first | exact trivial | exact pure_rowB _ | exact pure_rowO _ | exact pure_rowI _ | exact pure_rowBB _ | exact pure_rowPk _ _ | exact pure_rowSn _ _ | exact pure_rowFd _ _ | exact pure_rowBBB _ | exact pure_rowCl _ _ | refine And.intro ?_ ?_)) (by simp -dsimp -implicitDefEqProofs only [go_sem, Nat.reduceBEq, Nat.reduceAdd, Nat.reduceLeDiff, Nat.reduceSub, Int.reduceEq, h00, h5, h6, h7, h4, h2, hs4, hs50, hs2]) ?_
    rintro r rfl
    simp -dsimp -implicitDefEqProofs only [go_sem, Nat.reduceBEq, Nat.reduceAdd, Nat.reduceLeDiff, Nat.reduceSub, Int.reduceEq, h00, h5, h6, h7, h4, h2, hs4, hs50, hs2]
    have h9 := ev_le (szAt b i)
    have e9 : IntKind.i64.wrap ((atP b (nOf b) i : Int) + (ev (szAt b i) : Nat)) = (atP b (nOf b) (i + 1) : Nat) := by rw [wrap_i64_of (by omega) (by omega), atP]; omega
    simp -dsimp -implicitDefEqProofs only [go_sem, Nat.reduceBEq, Nat.reduceAdd, Nat.reduceLeDiff, Nat.reduceSub, Int.reduceEq, h00, h5, h6, h7, h4, h2, hs4, hs50, hs2, e9]
    refine hK _ _ hlt (Wk.refl _) ?_
    simp -dsimp -implicitDefEqProofs only [go_sem, Nat.reduceBEq, Nat.reduceAdd, Nat.reduceLeDiff, Nat.reduceSub, Int.reduceEq, h00, h5, h6, h7, h4, h2, hs4, hs50, hs2, wrap_succ (show i < 4611686018427387904 by omega)]
    refine ⟨fun j hj => ?_, by rw [← bufs_snoc, bufAt]⟩
    by_cases hji : j < i
    · exact hg j hji
    · obtain rfl : j = i := by omega
      exact ⟨by omega, by omega, by omega⟩
  · have hii : i = nOf b := by omega
    subst hii
    have hw := wBB_bufs b (nOf b) (nOf b) (fun j hj => (hg j hj).2.2)
    have hw2 : wBB (bufs b (nOf b) (nOf b)) ≤ b.length := by
      by_cases h0 : 0 < nOf b
      · exact hw.2 h0
      · have h0 : nOf b = 0 := by omega
        rw [h0]; simp [bufs, wBB, szL]
    have hm : msC (msOf b) = [.v (.int .i64 (b[2].toNat : Int)), .v (.int .i64 (b[3].toNat : Int)), .v (.int .i64 (IntKind.i64.wrap (leN (cutB b 4 6)))), .row 37 1 (ra byC (bufs b (nOf b) (nOf b)))] := by rw [at_getD n2, at_getD n3]; rfl
    simp -dsimp -implicitDefEqProofs only [go_sem, Nat.reduceBEq, Nat.reduceAdd, Nat.reduceLeDiff, Nat.reduceSub, Int.reduceEq, h00, h5, h6, h7, h4, h2, hs4, hs50, hs2]
    repeat (first | with_reducible refine ask.of (by first | omega | decide) ?_ | simp -dsimp -implicitDefEqProofs only [go_sem, Nat.reduceBEq, Nat.reduceAdd, Nat.reduceLeDiff, Nat.reduceSub, Int.reduceEq, h00, h5, h6, h7, h4, h2, hs4, hs50, hs2, bleM])
    refine CallE.of (c_specEncodeMessage (msOf b) (by show (bufs b (nOf b) (nOf b)).length + wBB (bufs b (nOf b) (nOf b)) ≤ _; rw [bufs_length]; omega)) (by rintro r rfl; (repeat' first | exact trivial | exact pure_rowB _ | exact pure_rowO _ | exact pure_rowI _ | exact pure_rowBB _ | exact pure_rowPk _ _ | exact pure_rowSn _ _ | exact pure_rowFd _ _ | exact pure_rowBBB _ | exact pure_rowCl _ _ | refine And.intro ?_ ?_)) (by simp -dsimp -implicitDefEqProofs only [go_sem, Nat.reduceBEq, Nat.reduceAdd, Nat.reduceLeDiff, Nat.reduceSub, Int.reduceEq, h00, h5, h6, h7, h4, h2, hs4, hs50, hs2, hm]) ?_
    rintro r rfl
    simp -dsimp -implicitDefEqProofs only [go_sem, Nat.reduceBEq, Nat.reduceAdd, Nat.reduceLeDiff, Nat.reduceSub, Int.reduceEq, h00, h5, h6, h7, h4, h2, hs4, hs50, hs2, hm]
    have hel := encM_le (msOf b)
    refine CallE.of (c_l1same (encM (msOf b)) b (by omega) (by omega)) (by rintro r rfl; (repeat' first | exact trivial | exact pure_rowB _ | exact pure_rowO _ | exact pure_rowI _ | exact pure_rowBB _ | exact pure_rowPk _ _ | exact pure_rowSn _ _ | exact pure_rowFd _ _ | exact pure_rowBBB _ | exact pure_rowCl _ _ | refine And.intro ?_ ?_)) (by simp -dsimp -implicitDefEqProofs only [go_sem, Nat.reduceBEq, Nat.reduceAdd, Nat.reduceLeDiff, Nat.reduceSub, Int.reduceEq, h00, h5, h6, h7, h4, h2, hs4, hs50, hs2]) ?_
    rintro r rfl
    simp -dsimp -implicitDefEqProofs only [go_sem, Nat.reduceBEq, Nat.reduceAdd, Nat.reduceLeDiff, Nat.reduceSub, Int.reduceEq, h00, h5, h6, h7, h4, h2, hs4, hs50, hs2]
    refine ifB'.of (fun hE => ?_) (fun hE => ?_)
    · simp -dsimp -implicitDefEqProofs only [go_sem, Nat.reduceBEq, Nat.reduceAdd, Nat.reduceLeDiff, Nat.reduceSub, Int.reduceEq, h00, h5, h6, h7, h4, h2, hs4, hs50, hs2]
      repeat (first | with_reducible refine ask.of (by omega) ?_ | simp -dsimp -implicitDefEqProofs only [go_sem, Nat.reduceBEq, Nat.reduceAdd, Nat.reduceLeDiff, Nat.reduceSub, Int.reduceEq, h00, h5, h6, h7, h4, h2, hs4, hs50, hs2, bleM])
      rw [decResM, decM_yes ⟨by omega, by omega, hg, hE⟩, hm]
    · simp -dsimp -implicitDefEqProofs only [go_sem, Nat.reduceBEq, Nat.reduceAdd, Nat.reduceLeDiff, Nat.reduceSub, Int.reduceEq, h00, h5, h6, h7, h4, h2, hs4, hs50, hs2]
      repeat (first | with_reducible refine ask.of (by omega) ?_ | simp -dsimp -implicitDefEqProofs only [go_sem, Nat.reduceBEq, Nat.reduceAdd, Nat.reduceLeDiff, Nat.reduceSub, Int.reduceEq, h00, h5, h6, h7, h4, h2, hs4, hs50, hs2, bleM])
      exact resM_no (fun h' => hE h'.2.2.2)
end Go.Ev
