/- Part 13 of what the row leans on: the evaluator, words, contracts of functions; pruned by a program of ours. -/
import Derived.Test.YtnoelgaficjjmaaFb12
import Derived.RangeFuncBound
import Derived.Shelf.Abstract
import Derived.Shelf.RegionOpen
import Derived.WalkKit
import Derived.OwnWalkIn
import Derived.TacticsInMore
import Derived.LoopNIn
import Derived.LoopIn
namespace Go.Ev
open Go Go.RowKit Go.Shelf Go.Proofs
attribute [local go_sem] Oper.semAt_some
set_option maxHeartbeats 2000000 in
theorem chunk_in (F : Fence) (n : Nat) (h5 : F.fn 31) (hro : F.round = none) (a : Option Addr) (len cap : Nat) (w : World) :
    CallsIn F n Try.prog 31 #[.slice a len cap, .int .i64 100] w fun e w' => e = .returned (.func (.func 62) #[] #[.pointer (some ⟨w.heap.size, 0, none⟩), .pointer (some ⟨w.heap.size + 1, 0, none⟩)]) ∧ w' = (w.alloc (.cells #[.slice a len cap] 22)).alloc (.cells #[.int .i64 100] 3) := by
  refine callsIn_of_wp Try.func31 rfl h5 ?_ hro
  simp only [Try.ntmps31, List.size_toArray, List.length_cons, List.length_nil, Nat.reduceAdd, Nat.reduceSub, Array.replicate_succ, Array.replicate_zero, List.push_toArray, List.append_toArray, List.nil_append, List.cons_append]
  gi_wp2
  go_ret
  exact ⟨rfl, rfl⟩
set_option maxRecDepth 100000 in
set_option maxHeartbeats 4000000 in
theorem chunk1_in (n : Nat) (hn : 1 ≤ n) (l B1 B2 b off len cap : Nat) (hlen : len ≤ 1048576) (hcap : len ≤ cap) (J : Nat → World → Prop)
    (hJd : ∀ i w, J i w → J i w.drew)
    (hJb : ∀ i w, J i w → w.cell? ⟨B1, 0, none⟩ = some (.slice (some ⟨b, off, none⟩) len cap) ∧ w.cell? ⟨B2, 0, none⟩ = some (.int .i64 100))
    (hY : ∀ i W, J i W → 100 * i < len → YieldAt Fence.wide (n - 1) Try.prog l #[pieceV b off len i] W fun e W' => e = .returned (.bool true) ∧ J (i + 1) W')
    (W : World) (h0 : J 0 W) :
    CallsIn Fence.wide n Try.prog 62 #[.func (.yield l) #[] #[], .pointer (some ⟨B1, 0, none⟩), .pointer (some ⟨B2, 0, none⟩)] W fun e W' => (∃ v, e = .returned v) ∧ J ((len + 99) / 100) W' := by
  refine callsIn_of_wp Try.func62 rfl trivial ?_
  simp only [Try.ntmps62, List.size_toArray, List.length_cons, List.length_nil, Nat.reduceAdd, Nat.reduceSub, Array.replicate_succ, Array.replicate_zero, List.push_toArray, List.append_toArray, List.nil_append, List.cons_append]
  gi_wp2
  gi_loopw [4] (fun i wr => ∃ k : Nat, k ≤ (len + 99) / 100 ∧ i = .int .i64 (100 * k : Nat) ∧ J k wr)
    (fun i _ => (len + 99) / 100 * 100 - (intOf i).toNat)
  case atStart => exact ⟨0, Nat.zero_le _, rfl, h0⟩
  case round =>
    obtain ⟨k, hk, rfl, hJs⟩ := hrel
    obtain ⟨hB1, hB2⟩ := hJb _ _ hJs
    by_cases hlt : 100 * k < len
    · have hJ2 := hJd _ _ hJs
      obtain ⟨fn, tmps, assign, body, hy, hR⟩ := hY k _ hJ2 hlt
      obtain ⟨hC1, hC2⟩ := hJb _ _ hJ2
      have hmx : Try.prog.follows .mixedOrders = true := by kernel_rfl
      gi_wp2
      gi_region
      obtain ⟨m, hm, hme⟩ : ∃ m : Nat, (if ((len - 100 * k : Nat) : Int) < 100 then ((len - 100 * k : Nat) : Int) else 100) = (m : Int) ∧ min 100 (len - 100 * k) = m := by
        by_cases h : len - 100 * k < 100
        · exact ⟨len - 100 * k, if_pos (by omega), by omega⟩
        · exact ⟨100, if_neg (by omega), by omega⟩
      rw [hm]
      unfold pieceV at hy
      rw [hme] at hy
      have hmb : 1 ≤ m ∧ m ≤ 100 ∧ 100 * k + m ≤ len := by omega
      generalize wr.drew = w2 at *
      have e1 : wrap64 ((100 * k : Nat) + (m : Int)) = ((100 * k + m : Nat) : Int) := by simp [wrap64]; omega
      gi_wp2
      refine hR.mono ?_
      rintro e W3 ⟨rfl, hJ3⟩
      obtain ⟨hD1, hD2⟩ := hJb _ _ hJ3
      have e2 : wrap64 ((100 * k : Nat) + (100 : Int)) = ((100 * (k + 1) : Nat) : Int) := by simp [wrap64]; omega
      gi_wp2
      go_roundw
      case rel => exact ⟨k + 1, by omega, by first | rfl | (simp; omega), hJ3⟩
      case measure => simp [intOf]; omega
    · obtain rfl : k = (len + 99) / 100 := by omega
      gi_wp2
      go_end0
      exact ⟨⟨_, rfl⟩, hJs⟩
theorem chunks : Chunks Try.prog 31 62 22 3 :=
  ⟨by kernel_rfl, enters_of Try.func62 (by kernel_rfl) rfl, fun a len cap w => callsIn_wide.1 (chunk_in Fence.wide 0 trivial rfl a len cap w),
   fun l B1 B2 b off len cap h1 h2 J h3 h4 h5 W h6 => chunk1_in 2 (by decide) l B1 B2 b off len cap h1 h2 J h3 h4 h5 W h6⟩
end Go.Ev
set_option linter.unusedSimpArgs false
set_option linter.unusedVariables false
namespace Go.Ev
open Go Go.RowKit Go.Proofs
def pieceL (msg : List UInt8) (i : Nat) : List UInt8 := (msg.drop (100 * i)).take 100
def pcN (msg : List UInt8) : Nat := (msg.length + 99) / 100
def pushSn (x : LO) (msg : List UInt8) (i : Nat) : Sn := ⟨⟨1, x.a, x.b + i, 0, decide (i + 1 = pcN msg), pieceL msg i⟩, -1⟩
def pushS (x : LO) (msg : List UInt8) (k : Nat) : List Sn := (List.range k).map (pushSn x msg)
theorem pushS_succ (x : LO) (msg : List UInt8) (k : Nat) : pushS x msg (k + 1) = pushS x msg k ++ [pushSn x msg k] := by simp [pushS, List.range_succ]
theorem pushS_len (x : LO) (msg : List UInt8) (k : Nat) : (pushS x msg k).length = k := by simp [pushS]
def pushC (x : LO) (msg : List UInt8) : Prop := okLO x ∧ 1 ≤ msg.length ∧ msg.length ≤ 20000
noncomputable def pushL (x : LO) (msg : List UInt8) : LO × Int := @ite _ (pushC x msg) (Classical.propDecidable _) (if 300 < x.h.length + pcN msg then (x, 2) else if 1000000000000 < x.b + pcN msg then (x, 6) else (⟨x.a, x.b + pcN msg, x.c, x.h ++ pushS x msg (pcN msg)⟩, 0)) (lo0, 1)
theorem pushL_no {x : LO} {msg : List UInt8} (h : ¬ pushC x msg) : pushL x msg = (lo0, 1) := @if_neg _ (Classical.propDecidable _) h _ _ _
theorem pushL_full {x : LO} {msg : List UInt8} (h : pushC x msg) (h2 : 300 < x.h.length + pcN msg) : pushL x msg = (x, 2) := (@if_pos _ (Classical.propDecidable _) h _ _ _).trans (if_pos h2)
theorem pushL_end {x : LO} {msg : List UInt8} (h : pushC x msg) (h2 : ¬ 300 < x.h.length + pcN msg) (h3 : 1000000000000 < x.b + pcN msg) : pushL x msg = (x, 6) := (@if_pos _ (Classical.propDecidable _) h _ _ _).trans ((if_neg h2).trans (if_pos h3))
theorem pushL_yes {x : LO} {msg : List UInt8} (h : pushC x msg) (h2 : ¬ 300 < x.h.length + pcN msg) (h3 : ¬ 1000000000000 < x.b + pcN msg) : pushL x msg = (⟨x.a, x.b + pcN msg, x.c, x.h ++ pushS x msg (pcN msg)⟩, 0) := (@if_pos _ (Classical.propDecidable _) h _ _ _).trans ((if_neg h2).trans (if_neg h3))
theorem push_no {x : LO} {msg : List UInt8} (h : ¬ pushC x msg) : AV.tup [.agg [.v (.int .i64 0), .v (.int .i64 0), .v (.int .i64 0), .row 73 7 []], .v (.int .i64 1)] = resL (pushL x msg) := by rw [pushL_no h]; rfl
theorem pcN_eq {msg : List UInt8} (h : msg.length ≤ 1048576) : IntKind.i64.wrap ((IntKind.i64.wrap (IntKind.i64.wrap ((msg.length : Int) + 100) - 1)).tdiv 100) = (pcN msg : Int) := by
  rw [wrap_i64_of (n := (msg.length : Int) + 100) (by omega) (by omega), wrap_i64_of (n := (msg.length : Int) + 100 - 1) (by omega) (by omega)]
  have e : ((msg.length : Int) + 100 - 1) = ((msg.length + 99 : Nat) : Int) := by omega
  rw [e, show ((msg.length + 99 : Nat) : Int).tdiv 100 = (((msg.length + 99) / 100 : Nat) : Int) from rfl, wrap_i64_of (by omega) (by omega)]; rfl
theorem bl67 : Nat.ble 1 6 = true ∧ Nat.ble 2 6 = true ∧ Nat.ble 3 6 = true ∧ Nat.ble 4 6 = true ∧ Nat.ble 5 6 = true ∧ Nat.ble 6 6 = true ∧ Nat.ble 6 7 = true ∧ Nat.ble 7 7 = true := ⟨rfl, rfl, rfl, rfl, rfl, rfl, rfl, rfl⟩
theorem lo_bnd {x : LO} (h : okLO x) : x.h.length ≤ 300 ∧ 0 ≤ x.b ∧ x.b ≤ 1000000000000 := by
  obtain ⟨h1, h2⟩ := h
  omega
set_option maxRecDepth 8000 in
set_option maxHeartbeats 2000000 in
theorem c_implLinkPush (x : LO) (msg : List UInt8) (hx : x.h.length ≤ 1048576) (hb : ∀ b ∈ x.h, b.p.f.length ≤ 1048576) (hl : msg.length ≤ 1048576) : Meets Try.prog 7 [.agg (loC 73 x), rowB msg] (fun r => r = resL (pushL x msg)) := by
  refine Meets.introN mixed (hint []) (fun k => (sel (k == 13) [998,0,1,2,3,4,5,6,7,8,9,2010] [])) [0, 0, 0, 0, 0, 0, 0] Try.func7 rfl (by decide) res_7 rty_7 (by kernel_rfl) ?_; 
  simp -dsimp -implicitDefEqProofs only [go_sem, Nat.reduceBEq, Nat.reduceAdd, Nat.reduceLeDiff, Nat.reduceSub, Int.reduceEq, loC]
  repeat (first | with_reducible refine ask.of (by omega) ?_ | simp -dsimp -implicitDefEqProofs only [go_sem, Nat.reduceBEq, Nat.reduceAdd, Nat.reduceLeDiff, Nat.reduceSub, Int.reduceEq, bleR, bl4])
  refine CallE.of (c_implValidOut x hx hb) (by rintro r rfl; (repeat' first | exact trivial | exact pure_rowB _ | exact pure_rowO _ | exact pure_rowI _ | exact pure_rowBB _ | exact pure_rowPk _ _ | exact pure_rowSn _ _ | exact pure_rowFd _ _ | exact pure_rowBBB _ | exact pure_rowCl _ _ | exact pure_rowTb _ _ _ | refine And.intro ?_ ?_)) (by simp -dsimp -implicitDefEqProofs only [go_sem, Nat.reduceBEq, Nat.reduceAdd, Nat.reduceLeDiff, Nat.reduceSub, Int.reduceEq, loC]) ?_
  rintro r rfl
  simp -dsimp -implicitDefEqProofs only [go_sem, Nat.reduceBEq, Nat.reduceAdd, Nat.reduceLeDiff, Nat.reduceSub, Int.reduceEq, loC]
  cases hv : loB x
  · have hv := loB_f hv
    repeat' (first | with_reducible refine ask.of (by omega) ?_ | simp -dsimp -implicitDefEqProofs only [go_sem, Nat.reduceBEq, Nat.reduceAdd, Nat.reduceLeDiff, Nat.reduceSub, Int.reduceEq, bleR, bl4, Bool.not_false])
    exact push_no fun h => hv h.1
  · have hv := loB_t hv
    by_cases h1 : 1 ≤ msg.length ∧ msg.length ≤ 20000
    · repeat' (first | with_reducible refine ask.of (by omega) ?_ | with_reducible refine ifB'.no (by omega) ?_ | simp -dsimp -implicitDefEqProofs only [go_sem, Nat.reduceBEq, Nat.reduceAdd, Nat.reduceLeDiff, Nat.reduceSub, Int.reduceEq, bleR, bl4, Bool.not_true, initE])
      refine CallE.of (c_outCopy x hx hb) (by rintro r rfl; (repeat' first | exact trivial | exact pure_rowB _ | exact pure_rowO _ | exact pure_rowI _ | exact pure_rowBB _ | exact pure_rowPk _ _ | exact pure_rowSn _ _ | exact pure_rowFd _ _ | exact pure_rowBBB _ | exact pure_rowCl _ _ | exact pure_rowTb _ _ _ | refine And.intro ?_ ?_)) (by simp -dsimp -implicitDefEqProofs only [go_sem, Nat.reduceBEq, Nat.reduceAdd, Nat.reduceLeDiff, Nat.reduceSub, Int.reduceEq, loC]) ?_
      rintro r rfl
      simp -dsimp -implicitDefEqProofs only [go_sem, Nat.reduceBEq, Nat.reduceAdd, Nat.reduceLeDiff, Nat.reduceSub, Int.reduceEq, loC]
      have hn := pcN_eq hl
      have hnb : 1 ≤ pcN msg ∧ pcN msg ≤ 200 := by unfold pcN; omega
      have hbo := lo_bnd hv
      have e1 : IntKind.i64.wrap ((x.h.length : Int) + (pcN msg : Int)) = ((x.h.length + pcN msg : Nat) : Int) := by rw [wrap_i64_of (by omega) (by omega)]; omega
      have e2 : IntKind.i64.wrap (x.b + (pcN msg : Int)) = x.b + (pcN msg : Int) := wrap_i64_of (by omega) (by omega)
      repeat' (first | with_reducible refine ask.of (by first | omega | decide) ?_ | simp -dsimp -implicitDefEqProofs only [go_sem, Nat.reduceBEq, Nat.reduceAdd, Nat.reduceLeDiff, Nat.reduceSub, Int.reduceEq, bleR, bl4, initE, hn, e1])
      refine ifB'.of (fun h2 => ?_) (fun h2 => ?_)
      · rw [pushL_full ⟨hv, h1⟩ (by omega)]
        repeat' (first | with_reducible refine ask.of (by first | omega | decide) ?_ | simp -dsimp -implicitDefEqProofs only [go_sem, Nat.reduceBEq, Nat.reduceAdd, Nat.reduceLeDiff, Nat.reduceSub, Int.reduceEq, bleR, bl4, initE])
        rfl
      repeat' (first | with_reducible refine ask.of (by first | omega | decide) ?_ | simp -dsimp -implicitDefEqProofs only [go_sem, Nat.reduceBEq, Nat.reduceAdd, Nat.reduceLeDiff, Nat.reduceSub, Int.reduceEq, bleR, bl4, initE, hn, e2])
      refine ifB'.of (fun h3 => ?_) (fun h3 => ?_)
      · rw [pushL_end ⟨hv, h1⟩ (by omega) (by omega)]
        repeat' (first | with_reducible refine ask.of (by first | omega | decide) ?_ | simp -dsimp -implicitDefEqProofs only [go_sem, Nat.reduceBEq, Nat.reduceAdd, Nat.reduceLeDiff, Nat.reduceSub, Int.reduceEq, bleR, bl4, initE])
        rfl
      repeat' (first | with_reducible refine ask.of (by first | omega | decide) ?_ | simp -dsimp -implicitDefEqProofs only [go_sem, Nat.reduceBEq, Nat.reduceAdd, Nat.reduceLeDiff, Nat.reduceSub, Int.reduceEq, bleR, bl4, initE])
      have hpos : 0 < (bytesA msg).length := by rw [bytesA_length]; omega
      have hle : (bytesA msg).length ≤ 1048576 := by rw [bytesA_length]; omega
      refine RangeE.chunk (H := hint []) (O := fun k => sel (k == 13) [998, 0, 1, 2, 3, 4, 5, 6, 7, 8, 9, 2010] []) (x := 47) (g := 48) (p := 49) (e := 5) (els := bytesA msg) mixed chunks rfl rfl rfl rfl rfl rfl (by kernel_rfl) (by simp -dsimp -implicitDefEqProofs only [go_sem, Nat.reduceBEq, Nat.reduceAdd, Nat.reduceLeDiff, Nat.reduceSub, Int.reduceEq, initE]) hpos hle [2, 4, 6, 7, 8]
        (fun vals i σ => (σ [2000000, 2] = some (.pin (.ptr [2] 0 0 0) (vals 2)) ∧ σ [2000000, 4] = some (.pin (.ptr [4] 0 0 0) (vals 4)) ∧ σ [2000000, 6] = some (.pin (.ptr [6] 0 0 0) (vals 6)) ∧ σ [2000000, 7] = some (.pin (.ptr [7] 0 0 0) (vals 7)) ∧ σ [2000000, 8] = some (.pin (.ptr [8] 0 0 0) (vals 8))) ∧
          σ [2] = some (.box 30 [.v (.int .i64 x.a), .v (.int .i64 x.b), .v (.int .i64 x.c), .rd .ent 73 7 (ra snC x.h)]) ∧ σ [4] = some (.box 30 [.v (.int .i64 0), .v (.int .i64 0), .v (.int .i64 0), .v (.slice none 0 0)]) ∧ σ [7] = some (.box 3 [.v (.int .i64 (pcN msg - i : Nat))]) ∧
          ((i = 0 ∧ σ [6] = some (.box 30 [.v (.int .i64 x.a), .v (.int .i64 x.b), .v (.int .i64 x.c), .ref [25, 3]]) ∧ σ [8] = some (.box 67 [.ref [25, 3]]) ∧ σ [25, 3] = some (.row 73 7 (ra snC x.h))) ∨
           (1 ≤ i ∧ σ [6] = some (.box 30 [.v (.int .i64 x.a), .v (.int .i64 (x.b + i)), .v (.int .i64 x.c), .any]) ∧ σ [8] = some (.box 67 [.ref [1000002, 8, 0]]) ∧ σ [1000002, 8, 0] = some (.row 73 7 (ra snC (x.h ++ pushS x msg i)))))) ?_ ?_ ?_
      · intro vals
        simp -dsimp -implicitDefEqProofs only [go_sem, Nat.reduceBEq, Nat.reduceAdd, Nat.reduceLeDiff, Nat.reduceSub, Int.reduceEq]
        exact ⟨rfl, .inl trivial⟩
      · rintro vals i σ hlt ⟨⟨p2, p4, p6, p7, p8⟩, h2', h4', h7', hor⟩
        have hlt : i < pcN msg := by rw [bytesA_length] at hlt; unfold pcN; omega
        have en : IntKind.i64.wrap (((pcN msg - i : Nat) : Int) - 1) = ((pcN msg - (i + 1) : Nat) : Int) := by rw [wrap_i64_of (by omega) (by omega)]; omega
        have ed : decide (((pcN msg - (i + 1) : Nat) : Int) = 0) = decide (i + 1 = pcN msg) := decide_eq_decide.2 (by omega)
        have eb : IntKind.i64.wrap (x.b + (i : Int) + 1) = x.b + ((i + 1 : Nat) : Int) := by rw [wrap_i64_of (by omega) (by omega)]; omega
        have hpl : (List.take 100 (List.drop (100 * i) msg)).length ≤ 1048576 := by simp; omega
        have hql : (x.h ++ pushS x msg i).length ≤ 1048576 := by rw [List.length_append, pushS_len]; omega
        rcases hor with ⟨hi0, h6', h8', hq'⟩ | ⟨hi0, h6', h8', hq'⟩
        · have h6' : σ [6] = some (.box 30 [.v (.int .i64 x.a), .v (.int .i64 (x.b + i)), .v (.int .i64 x.c), .ref [25, 3]]) := by rw [h6', hi0]; simp
          have hq' : σ [25, 3] = some (.row 73 7 (ra snC (x.h ++ pushS x msg i))) := by rw [hq', hi0]; simp [pushS]
          simp -dsimp -implicitDefEqProofs only [go_sem, Nat.reduceBEq, Nat.reduceAdd, Nat.reduceLeDiff, Nat.reduceSub, Int.reduceEq, p2, p4, p6, p7, p8, h2', h4', h7', h6', h8', hq', en, ed]
          repeat' (first | with_reducible refine ask.of (by first | omega | decide) ?_ | simp -dsimp -implicitDefEqProofs only [go_sem, Nat.reduceBEq, Nat.reduceAdd, Nat.reduceLeDiff, Nat.reduceSub, Int.reduceEq, p2, p4, p6, p7, p8, h2', h4', h7', h6', h8', hq', bleR, bl4, en, ed])
          refine CallE.of (c_bytesClone (List.take 100 (List.drop (100 * i) msg)) (by omega)) (by rintro r rfl; (repeat' first | exact trivial | exact pure_rowB _ | exact pure_rowO _ | exact pure_rowI _ | exact pure_rowBB _ | exact pure_rowPk _ _ | exact pure_rowSn _ _ | exact pure_rowFd _ _ | exact pure_rowBBB _ | exact pure_rowCl _ _ | exact pure_rowTb _ _ _ | refine And.intro ?_ ?_)) (by simp -dsimp -implicitDefEqProofs only [go_sem, Nat.reduceBEq, Nat.reduceAdd, Nat.reduceLeDiff, Nat.reduceSub, Int.reduceEq, p2, p4, p6, p7, p8, h2', h4', h7', h6', h8', hq']) ?_
          rintro r rfl
          simp -dsimp -implicitDefEqProofs only [go_sem, Nat.reduceBEq, Nat.reduceAdd, Nat.reduceLeDiff, Nat.reduceSub, Int.reduceEq, p2, p4, p6, p7, p8, h2', h4', h7', h6', h8', hq']
          repeat' (first | with_reducible refine ask.of (by first | omega | decide) ?_ | simp -dsimp -implicitDefEqProofs only [go_sem, Nat.reduceBEq, Nat.reduceAdd, Nat.reduceLeDiff, Nat.reduceSub, Int.reduceEq, p2, p4, p6, p7, p8, h2', h4', h7', h6', h8', hq', bleR, bl4, bl67, en, ed])
          refine CallE.mutLend (c_put (x.h ++ pushS x msg i) (pushSn x msg i) hql hpl) (by simp -dsimp -implicitDefEqProofs only [go_sem, Nat.reduceBEq, Nat.reduceAdd, Nat.reduceLeDiff, Nat.reduceSub, Int.reduceEq, p2, p4, p6, p7, p8, h2', h4', h7', h6', h8', hq']) (by simp -dsimp -implicitDefEqProofs only [go_sem, Nat.reduceBEq, Nat.reduceAdd, Nat.reduceLeDiff, Nat.reduceSub, Int.reduceEq, p2, p4, p6, p7, p8, h2', h4', h7', h6', h8', hq', snC, pushSn, pieceL]) (by simp -dsimp -implicitDefEqProofs only [go_sem, Nat.reduceBEq, Nat.reduceAdd, Nat.reduceLeDiff, Nat.reduceSub, Int.reduceEq, p2, p4, p6, p7, p8, h2', h4', h7', h6', h8', hq', snC, pushSn, pieceL]) ?_
          rintro r rs ⟨rfl, rfl⟩
          simp -dsimp -implicitDefEqProofs only [go_sem, Nat.reduceBEq, Nat.reduceAdd, Nat.reduceLeDiff, Nat.reduceSub, Int.reduceEq, p2, p4, p6, p7, p8, h2', h4', h7', h6', h8', hq', snC, pushSn, pieceL]
          repeat' (first | with_reducible refine ask.of (by first | omega | decide) ?_ | simp -dsimp -implicitDefEqProofs only [go_sem, Nat.reduceBEq, Nat.reduceAdd, Nat.reduceLeDiff, Nat.reduceSub, Int.reduceEq, p2, p4, p6, p7, p8, h2', h4', h7', h6', h8', hq', bleR, bl4, eb])
          refine .inr ?_
          rw [pushS_succ, ← List.append_assoc]; rfl
        · skip
          simp -dsimp -implicitDefEqProofs only [go_sem, Nat.reduceBEq, Nat.reduceAdd, Nat.reduceLeDiff, Nat.reduceSub, Int.reduceEq, p2, p4, p6, p7, p8, h2', h4', h7', h6', h8', hq', en, ed]
          repeat' (first | with_reducible refine ask.of (by first | omega | decide) ?_ | simp -dsimp -implicitDefEqProofs only [go_sem, Nat.reduceBEq, Nat.reduceAdd, Nat.reduceLeDiff, Nat.reduceSub, Int.reduceEq, p2, p4, p6, p7, p8, h2', h4', h7', h6', h8', hq', bleR, bl4, en, ed])
          refine CallE.of (c_bytesClone (List.take 100 (List.drop (100 * i) msg)) (by omega)) (by rintro r rfl; (repeat' first | exact trivial | exact pure_rowB _ | exact pure_rowO _ | exact pure_rowI _ | exact pure_rowBB _ | exact pure_rowPk _ _ | exact pure_rowSn _ _ | exact pure_rowFd _ _ | exact pure_rowBBB _ | exact pure_rowCl _ _ | exact pure_rowTb _ _ _ | refine And.intro ?_ ?_)) (by simp -dsimp -implicitDefEqProofs only [go_sem, Nat.reduceBEq, Nat.reduceAdd, Nat.reduceLeDiff, Nat.reduceSub, Int.reduceEq, p2, p4, p6, p7, p8, h2', h4', h7', h6', h8', hq']) ?_
          rintro r rfl
          simp -dsimp -implicitDefEqProofs only [go_sem, Nat.reduceBEq, Nat.reduceAdd, Nat.reduceLeDiff, Nat.reduceSub, Int.reduceEq, p2, p4, p6, p7, p8, h2', h4', h7', h6', h8', hq']
          repeat' (first | with_reducible refine ask.of (by first | omega | decide) ?_ | simp -dsimp -implicitDefEqProofs only [go_sem, Nat.reduceBEq, Nat.reduceAdd, Nat.reduceLeDiff, Nat.reduceSub, Int.reduceEq, p2, p4, p6, p7, p8, h2', h4', h7', h6', h8', hq', bleR, bl4, bl67, en, ed])
          refine CallE.mutLend (c_put (x.h ++ pushS x msg i) (pushSn x msg i) hql hpl) (by simp -dsimp -implicitDefEqProofs only [go_sem, Nat.reduceBEq, Nat.reduceAdd, Nat.reduceLeDiff, Nat.reduceSub, Int.reduceEq, p2, p4, p6, p7, p8, h2', h4', h7', h6', h8', hq']) (by simp -dsimp -implicitDefEqProofs only [go_sem, Nat.reduceBEq, Nat.reduceAdd, Nat.reduceLeDiff, Nat.reduceSub, Int.reduceEq, p2, p4, p6, p7, p8, h2', h4', h7', h6', h8', hq', snC, pushSn, pieceL]) (by simp -dsimp -implicitDefEqProofs only [go_sem, Nat.reduceBEq, Nat.reduceAdd, Nat.reduceLeDiff, Nat.reduceSub, Int.reduceEq, p2, p4, p6, p7, p8, h2', h4', h7', h6', h8', hq', snC, pushSn, pieceL]) ?_
          rintro r rs ⟨rfl, rfl⟩
          simp -dsimp -implicitDefEqProofs only [go_sem, Nat.reduceBEq, Nat.reduceAdd, Nat.reduceLeDiff, Nat.reduceSub, Int.reduceEq, p2, p4, p6, p7, p8, h2', h4', h7', h6', h8', hq', snC, pushSn, pieceL]
          repeat' (first | with_reducible refine ask.of (by first | omega | decide) ?_ | simp -dsimp -implicitDefEqProofs only [go_sem, Nat.reduceBEq, Nat.reduceAdd, Nat.reduceLeDiff, Nat.reduceSub, Int.reduceEq, p2, p4, p6, p7, p8, h2', h4', h7', h6', h8', hq', bleR, bl4, eb])
          refine .inr ?_
          rw [pushS_succ, ← List.append_assoc]; rfl
      · rintro vals σ ⟨⟨p2, p4, p6, p7, p8⟩, h2', h4', h7', hor⟩
        have eN : ((bytesA msg).length + 99) / 100 = pcN msg := by rw [bytesA_length]; rfl
        rw [eN] at hor
        rcases hor with ⟨hi0, _⟩ | ⟨hi0, h6', h8', hq'⟩
        · omega
        rw [pushL_yes ⟨hv, h1⟩ (by omega) (by omega)]
        simp -dsimp -implicitDefEqProofs only [go_sem, Nat.reduceBEq, Nat.reduceAdd, Nat.reduceLeDiff, Nat.reduceSub, Int.reduceEq, p2, p4, p6, p7, p8, h2', h4', h7', h6', h8', hq']
        repeat' (first | with_reducible refine ask.of (by first | omega | decide) ?_ | simp -dsimp -implicitDefEqProofs only [go_sem, Nat.reduceBEq, Nat.reduceAdd, Nat.reduceLeDiff, Nat.reduceSub, Int.reduceEq, p2, p4, p6, p7, p8, h2', h4', h7', h6', h8', hq', bleR, bl4])
        rfl
    · repeat' (first | exact push_no fun h => h1 h.2 | with_reducible refine ask.of (by omega) ?_ | with_reducible refine ifB'.of (fun _ => ?_) (fun _ => ?_) | simp -dsimp -implicitDefEqProofs only [go_sem, Nat.reduceBEq, Nat.reduceAdd, Nat.reduceLeDiff, Nat.reduceSub, Int.reduceEq, bleR, bl4, Bool.not_true, Bool.not_false, initE])
      all_goals (exfalso; omega)
end Go.Ev
set_option linter.unusedSimpArgs false
set_option linter.unusedVariables false
namespace Go.Ev
open Go Go.RowKit Go.Proofs
def padN (n : Nat) : Nat := (8 - n % 8) % 8
def pad8 (l : List UInt8) : List UInt8 := l ++ List.replicate (padN l.length) 0
def joinA (xs : List (List UInt8)) : List UInt8 := xs.foldl (fun acc p => pad8 (acc ++ p)) []
theorem pad8_length (l : List UInt8) : (pad8 l).length = l.length + padN l.length := by simp [pad8]
theorem padN_lt (n : Nat) : padN n < 8 := Nat.mod_lt _ (by decide)
theorem joinA_take {xs : List (List UInt8)} {i : Nat} (h : i < xs.length) : joinA (xs.take (i + 1)) = pad8 (joinA (xs.take i) ++ xs[i]) := by
  rw [List.take_succ_eq_append_getElem h, joinA, List.foldl_append]; rfl
theorem joinA_le (xs : List (List UInt8)) : ∀ i, i ≤ xs.length → (joinA (xs.take i)).length ≤ szL List.length (xs.take i) + 7 * i
  | 0, _ => by simp [joinA]
  | i + 1, h => by
    have h1 := joinA_le xs i (by omega)
    have h2 := padN_lt ((joinA (xs.take i) ++ xs[i]).length)
    rw [joinA_take (by omega), pad8_length, szL_take_succ _ (by omega)]
    simp only [List.length_append] at h2 ⊢
    omega
theorem tmod8 (n : Nat) : (n : Int).tmod 8 = ((n % 8 : Nat) : Int) := rfl
theorem pad_more {n j : Nat} (h : j ≤ padN n) : (n + j) % 8 = 0 ↔ j = padN n := by unfold padN at *; omega
theorem rep_snoc {α : Type} (l : List α) (j : Nat) (z : α) : (l ++ List.replicate j z) ++ [z] = l ++ List.replicate (j + 1) z := by
  rw [List.append_assoc, ← List.replicate_succ']
theorem c_implJoinAligned (xs : List (List UInt8)) (hx : xs.length + wBB xs ≤ 1048576) : Meets Try.prog 28 [rowBB xs] (fun r => r = rowB (joinA xs)) := by
  refine Meets.intro mixed (hint [(2, 122)]) Try.func28 rfl (by decide) res_28 rty_28 (by kernel_rfl) ?_; 
  simp -dsimp -implicitDefEqProofs only [go_sem, Nat.reduceBEq, Nat.reduceAdd, Nat.reduceLeDiff, Nat.reduceSub, Int.reduceEq]
  repeat with_reducible refine ask.of (by omega) ?_
  refine LoopE.cnt xs.length (fun i s => s.env 7 = .rd .ent 22 1 (ra byC xs) ∧ s.env 8 = .v (.int .i64 xs.length) ∧ s.env 9 = .v (.int .i64 i) ∧ s.env 3 = .ref [6] ∧ s.σ [6] = some (.row 5 1 (bytesA (joinA (xs.take i))))) ⟨by simp -dsimp -implicitDefEqProofs only [go_sem, Nat.reduceBEq, Nat.reduceAdd, Nat.reduceLeDiff, Nat.reduceSub, Int.reduceEq, initE], by simp -dsimp -implicitDefEqProofs only [go_sem, Nat.reduceBEq, Nat.reduceAdd, Nat.reduceLeDiff, Nat.reduceSub, Int.reduceEq, initE], by simp -dsimp -implicitDefEqProofs only [go_sem, Nat.reduceBEq, Nat.reduceAdd, Nat.reduceLeDiff, Nat.reduceSub, Int.reduceEq], by simp -dsimp -implicitDefEqProofs only [go_sem, Nat.reduceBEq, Nat.reduceAdd, Nat.reduceLeDiff, Nat.reduceSub, Int.reduceEq], by simp -dsimp -implicitDefEqProofs only [go_sem, Nat.reduceBEq, Nat.reduceAdd, Nat.reduceLeDiff, Nat.reduceSub, Int.reduceEq, List.take_zero] <;> rfl⟩ ?_
  rintro i ⟨e, σ⟩ hi ⟨h0, hl, h4, h3, hs⟩ K hK
  simp only at h0 hl h4 h3 hs
  simp -dsimp -implicitDefEqProofs only [go_sem, Nat.reduceBEq, Nat.reduceAdd, Nat.reduceLeDiff, Nat.reduceSub, Int.reduceEq, h0, hl, h4, h3, hs]
  refine ifB'.of (fun hlt => ?_) (fun hlt => ?_)
  · have hlt : i < xs.length := by omega
    have hj := joinA_le xs i hi
    have hw := szL_at_le List.length hlt
    unfold wBB at hx
    simp -dsimp -implicitDefEqProofs only [go_sem, Nat.reduceBEq, Nat.reduceAdd, Nat.reduceLeDiff, Nat.reduceSub, Int.reduceEq, h0, hl, h4, h3, hs, byA_at hlt, bytesA_append]
    repeat with_reducible refine ask.of (by omega) ?_
    have hp := padN_lt (joinA (xs.take i) ++ xs[i]).length
    have hlen : (joinA (xs.take i) ++ xs[i]).length ≤ 16777216 := by simp only [List.length_append]; omega
    generalize hb : joinA (xs.take i) ++ xs[i] = b at hp hlen
    refine LoopE.cnt (padN b.length) (fun j s => s.env 7 = .rd .ent 22 1 (ra byC xs) ∧ s.env 8 = .v (.int .i64 xs.length) ∧ s.env 9 = .v (.int .i64 i) ∧ s.env 3 = .ref [6] ∧ s.σ [6] = some (.row 5 1 (bytesA (b ++ List.replicate j 0)))) ⟨by simp -dsimp -implicitDefEqProofs only [go_sem, Nat.reduceBEq, Nat.reduceAdd, Nat.reduceLeDiff, Nat.reduceSub, Int.reduceEq, h0, hl, h4, h3, hs, hb], by simp -dsimp -implicitDefEqProofs only [go_sem, Nat.reduceBEq, Nat.reduceAdd, Nat.reduceLeDiff, Nat.reduceSub, Int.reduceEq, h0, hl, h4, h3, hs, hb], by simp -dsimp -implicitDefEqProofs only [go_sem, Nat.reduceBEq, Nat.reduceAdd, Nat.reduceLeDiff, Nat.reduceSub, Int.reduceEq, h0, hl, h4, h3, hs, hb], by simp -dsimp -implicitDefEqProofs only [go_sem, Nat.reduceBEq, Nat.reduceAdd, Nat.reduceLeDiff, Nat.reduceSub, Int.reduceEq, h0, hl, h4, h3, hs, hb], by simp -dsimp -implicitDefEqProofs only [go_sem, Nat.reduceBEq, Nat.reduceAdd, Nat.reduceLeDiff, Nat.reduceSub, Int.reduceEq, h0, hl, h4, h3, hs, hb] <;> simp⟩ ?_
    rintro j ⟨e, σ⟩ hj ⟨h0, hl, h4, h3, hs⟩ K' hK'
    simp only at h0 hl h4 h3 hs
    have hlj : (b ++ List.replicate j (0 : UInt8)).length = b.length + j := by simp
    simp -dsimp -implicitDefEqProofs only [go_sem, Nat.reduceBEq, Nat.reduceAdd, Nat.reduceLeDiff, Nat.reduceSub, Int.reduceEq, h0, hl, h4, h3, hs, hlj, tmod8]
    refine ifB'.of (fun hne => ?_) (fun hne => ?_)
    · have := (pad_more hj)
      simp -dsimp -implicitDefEqProofs only [go_sem, Nat.reduceBEq, Nat.reduceAdd, Nat.reduceLeDiff, Nat.reduceSub, Int.reduceEq, h0, hl, h4, h3, hs, Bool.not_true]
      have : j = padN b.length := this.1 (by omega)
      subst this
      refine hK _ hlt ?_
      simp -dsimp -implicitDefEqProofs only [go_sem, Nat.reduceBEq, Nat.reduceAdd, Nat.reduceLeDiff, Nat.reduceSub, Int.reduceEq, h0, hl, h4, h3, hs, wrap_succ (show i < 4611686018427387904 by omega), joinA_take hlt, hb]
      rfl
    · have := (pad_more hj)
      have hjl : j < padN b.length := by omega
      simp -dsimp -implicitDefEqProofs only [go_sem, Nat.reduceBEq, Nat.reduceAdd, Nat.reduceLeDiff, Nat.reduceSub, Int.reduceEq, h0, hl, h4, h3, hs, Bool.not_false, hlj]
      repeat with_reducible refine ask.of (by omega) ?_
      refine hK' _ hjl ?_
      simp -dsimp -implicitDefEqProofs only [go_sem, Nat.reduceBEq, Nat.reduceAdd, Nat.reduceLeDiff, Nat.reduceSub, Int.reduceEq, h0, hl, h4, h3, hs, rep_snoc]
  · have : i = xs.length := by omega
    subst this
    simp -dsimp -implicitDefEqProofs only [go_sem, Nat.reduceBEq, Nat.reduceAdd, Nat.reduceLeDiff, Nat.reduceSub, Int.reduceEq, h0, hl, h4, h3, hs, List.take_length]
end Go.Ev
set_option linter.unusedSimpArgs false
set_option linter.unusedVariables false
namespace Go.Ev
open Go Go.RowKit Go.Proofs
structure Ms where
  k : Int
  f : Int
  n : Int
  bs : List (List UInt8)
def msC (x : Ms) : List AV := [.v (.int .i64 x.k), .v (.int .i64 x.f), .v (.int .i64 x.n), .row 22 1 (ra byC x.bs)]
theorem bleM (n : Nat) : Nat.ble n n = true := by simp
def msOk (x : Ms) : Prop := 1 ≤ x.k ∧ x.k ≤ 4 ∧ 0 ≤ x.f ∧ x.f < 12 ∧ 0 ≤ x.n ∧ x.n ≤ 1000 ∧ x.bs.length ≤ 40 ∧ (x.f = 0 ∨ x.k = 2 ∨ x.k = 3)
instance (x : Ms) : Decidable (msOk x) := by unfold msOk; infer_instance
def lensB (bs : List (List UInt8)) : List UInt8 := bs.flatMap fun b => leB 4 b.length
theorem lensB_length (bs : List (List UInt8)) : (lensB bs).length = 4 * bs.length := by
  induction bs with
  | nil => rfl
  | cons b bs ih => rw [lensB, List.flatMap_cons, List.length_append, leB_length, List.length_cons]; rw [lensB] at ih; omega
theorem lensB_succ {bs : List (List UInt8)} {i : Nat} (h : i < bs.length) : lensB (bs.take i) ++ leB 4 bs[i].length = lensB (bs.take (i + 1)) := by
  rw [List.take_succ_eq_append_getElem h, lensB, lensB, List.flatMap_append]; simp
def headB (x : Ms) : List UInt8 := [67, 77, UInt8.ofNat x.k.toNat, UInt8.ofNat x.f.toNat, UInt8.ofNat (x.n.toNat % 256), UInt8.ofNat (x.n.toNat / 256 % 256), UInt8.ofNat x.bs.length, 0]
def msBody (x : Ms) : List UInt8 := sumB [headB x, joinA (lensB x.bs :: x.bs)]
def msGood (x : Ms) : Prop := msOk x ∧ wBB x.bs ≤ 20000 ∧ (msBody x).length ≤ 20000
instance (x : Ms) : Decidable (msGood x) := by unfold msGood; infer_instance
def encM (x : Ms) : List UInt8 := if msGood x then msBody x else []
theorem encM_no {x : Ms} (h : ¬ msGood x) : encM x = [] := if_neg h
theorem encM_yes {x : Ms} (h : msGood x) : encM x = msBody x := if_pos h
theorem joinA_len (xs : List (List UInt8)) : (joinA xs).length ≤ wBB xs + 7 * xs.length := by
  have := joinA_le xs xs.length (Nat.le_refl _)
  rw [List.take_length] at this
  exact this
theorem ms_b1 {x : Ms} (h : msOk x) : IntKind.u8.wrap x.k = ((UInt8.ofNat x.k.toNat).toNat : Int) := by
  obtain ⟨n, hn⟩ := Int.eq_ofNat_of_zero_le (show 0 ≤ x.k by have := h.1; omega)
  rw [hn]; exact u8_of_nat n
theorem ms_b2 {x : Ms} (h : msOk x) : IntKind.u8.wrap x.f = ((UInt8.ofNat x.f.toNat).toNat : Int) := by
  obtain ⟨n, hn⟩ := Int.eq_ofNat_of_zero_le (show 0 ≤ x.f by have := h.2.2.1; omega)
  rw [hn]; exact u8_of_nat n
theorem ms_b3 {x : Ms} (h : msOk x) : IntKind.u8.wrap x.n = ((UInt8.ofNat (x.n.toNat % 256)).toNat : Int) := by
  obtain ⟨n, hn⟩ := Int.eq_ofNat_of_zero_le (show 0 ≤ x.n by have := h.2.2.2.2.1; omega)
  rw [hn, u8_of_nat n]; simp
theorem ms_b4 {x : Ms} (h : msOk x) : IntKind.u8.wrap (x.n.fdiv (2 ^ min (Int.toNat 8) 64)) = ((UInt8.ofNat (x.n.toNat / 256 % 256)).toNat : Int) := by
  obtain ⟨n, hn⟩ := Int.eq_ofNat_of_zero_le (show 0 ≤ x.n by have := h.2.2.2.2.1; omega)
  rw [hn, show (2 : Int) ^ min (Int.toNat 8) 64 = 256 from rfl, Int.fdiv_eq_ediv_of_nonneg _ (by decide), show ((n : Int) / 256) = ((n / 256 : Nat) : Int) by omega, u8_of_nat]
  simp
theorem ms_good {x : Ms} (h : msOk x) (hw : wBB x.bs ≤ 20000) : (lensB x.bs :: x.bs).length + wBB (lensB x.bs :: x.bs) ≤ 20400 := by
  have h1 := h.2.2.2.2.2.2.1
  have : wBB (lensB x.bs :: x.bs) = 4 * x.bs.length + wBB x.bs := by simp [wBB, szL, lensB_length]
  rw [this, List.length_cons]; omega
end Go.Ev
set_option linter.unusedSimpArgs false
set_option linter.unusedVariables false
namespace Go.Ev
open Go Go.RowKit Go.Proofs
theorem ms_f {x : Ms} (h : ¬ msOk x) : false = decide (msOk x) := by rw [decide_eq_false h]
theorem ms_t {x : Ms} (h : msOk x) : true = decide (msOk x) := by rw [decide_eq_true h]
theorem ms_d {x : Ms} {q : Prop} [Decidable q] (h : q ↔ msOk x) : decide q = decide (msOk x) := by rw [decide_eq_decide.2 h]
set_option maxHeartbeats 2000000 in
theorem c_messageOk (x : Ms) (hx : x.bs.length ≤ 1048576) : Meets Try.prog 25 [.agg (msC x)] (fun r => r = .v (.bool (decide (msOk x)))) := by
  refine Meets.intro mixed (hint []) Try.func25 rfl (by decide) res_25 rty_25 (by kernel_rfl) ?_; 
  simp -dsimp -implicitDefEqProofs only [go_sem, Nat.reduceBEq, Nat.reduceAdd, Nat.reduceLeDiff, Nat.reduceSub, Int.reduceEq, msC]
  repeat' (first | with_reducible refine ifB'.of (fun h => ?_) (fun h => ?_) | with_reducible refine ask.of (by omega) ?_ | ((with_reducible refine ms_f ?_); unfold msOk; omega) | ((with_reducible refine ms_t ?_); unfold msOk; omega) | ((with_reducible refine ms_d ?_); unfold msOk; omega) | simp -dsimp -implicitDefEqProofs only [go_sem, Nat.reduceBEq, Nat.reduceAdd, Nat.reduceLeDiff, Nat.reduceSub, Int.reduceEq, decide_true, Bool.not_true, Bool.not_false])
theorem bytes8 (a b c d e : UInt8) : [[AV.v (.int .u8 67)], [AV.v (.int .u8 77)], [AV.v (.int .u8 (a.toNat : Int))], [AV.v (.int .u8 (b.toNat : Int))], [AV.v (.int .u8 (c.toNat : Int))], [AV.v (.int .u8 (d.toNat : Int))], [AV.v (.int .u8 (e.toNat : Int))], [AV.v (.int .u8 0)]] = bytesA [67, 77, a, b, c, d, e, 0] := rfl
theorem c_implJoinAlignedL (l : List UInt8) (bs : List (List UInt8)) (h : (l :: bs).length + wBB (l :: bs) ≤ 1048576) : Meets Try.prog 28 [.row 22 1 ([.row 5 1 (bytesA l)] :: ra byE bs)] (fun r => r = rowB (joinA (l :: bs))) :=
  Meets.look (bs := [rowBB (l :: bs)]) ⟨Look.row ⟨⟨Look.refl _, trivial⟩, look_byE bs⟩, trivial⟩ (c_implJoinAligned (l :: bs) h)
end Go.Ev
set_option linter.unusedSimpArgs false
set_option linter.unusedVariables false
namespace Go.Ev
open Go Go.RowKit Go.Proofs
theorem em_f {x : Ms} (h : ¬ msGood x) : AV.row 5 1 [] = AV.row 5 1 (bytesA (encM x)) := by rw [encM_no h]; rfl
theorem em_ok {x : Ms} (h : ¬ msOk x) : AV.row 5 1 [] = AV.row 5 1 (bytesA (encM x)) := em_f (fun h' => h h'.1)
theorem byC2 (a b : List UInt8) : ra byC [a, b] = [[.row 5 1 (bytesA a)], [.row 5 1 (bytesA b)]] := rfl
set_option maxHeartbeats 2000000 in
theorem c_implEncodeMessage (x : Ms) (hx : x.bs.length + wBB x.bs ≤ 1048576) : Meets Try.prog 6 [.agg (msC x)] (fun r => r = rowB (encM x)) := by
  refine Meets.intro mixed (hint []) Try.func6 rfl (by decide) res_6 rty_6 (by kernel_rfl) ?_; 
  simp -dsimp -implicitDefEqProofs only [go_sem, Nat.reduceBEq, Nat.reduceAdd, Nat.reduceLeDiff, Nat.reduceSub, Int.reduceEq, msC]
  repeat (first | with_reducible refine ask.of (by first | omega | decide) ?_ | simp -dsimp -implicitDefEqProofs only [go_sem, Nat.reduceBEq, Nat.reduceAdd, Nat.reduceLeDiff, Nat.reduceSub, Int.reduceEq, bleM])
  refine CallE.of (c_messageOk x (by omega)) (by rintro r rfl; (repeat' first | exact trivial | exact pure_rowB _ | exact pure_rowO _ | exact pure_rowI _ | exact pure_rowBB _ | exact pure_rowPk _ _ | exact pure_rowSn _ _ | exact pure_rowFd _ _ | exact pure_rowBBB _ | exact pure_rowCl _ _ | exact pure_rowTb _ _ _ | refine And.intro ?_ ?_)) (by simp -dsimp -implicitDefEqProofs only [go_sem, Nat.reduceBEq, Nat.reduceAdd, Nat.reduceLeDiff, Nat.reduceSub, Int.reduceEq, msC]) ?_
  rintro r rfl
  simp -dsimp -implicitDefEqProofs only [go_sem, Nat.reduceBEq, Nat.reduceAdd, Nat.reduceLeDiff, Nat.reduceSub, Int.reduceEq, msC]
  by_cases hok : msOk x
  case neg =>
    simp -dsimp -implicitDefEqProofs only [go_sem, Nat.reduceBEq, Nat.reduceAdd, Nat.reduceLeDiff, Nat.reduceSub, Int.reduceEq, decide_eq_false hok, Bool.not_false]
    exact em_ok hok
  have hl := hok.2.2.2.2.2.2.1
  simp -dsimp -implicitDefEqProofs only [go_sem, Nat.reduceBEq, Nat.reduceAdd, Nat.reduceLeDiff, Nat.reduceSub, Int.reduceEq, decide_eq_true hok, Bool.not_true]
  repeat (first | with_reducible refine ask.of (by first | omega | decide) ?_ | simp -dsimp -implicitDefEqProofs only [go_sem, Nat.reduceBEq, Nat.reduceAdd, Nat.reduceLeDiff, Nat.reduceSub, Int.reduceEq, bleM])
  refine LoopE.cnt x.bs.length (fun i s => s.env 1 = .ptr [1] 0 0 0 ∧ s.env 3 = .ref [12] ∧ s.env 4 = .v (.int .i64 (wBB (x.bs.take i) : Nat)) ∧ s.env 14 = .rd .ent 22 1 (ra byC x.bs) ∧ s.env 15 = .v (.int .i64 x.bs.length) ∧ s.env 16 = .v (.int .i64 i) ∧ s.σ [1] = some (.box 26 [.v (.int .i64 x.k), .v (.int .i64 x.f), .v (.int .i64 x.n), .rd .ent 22 1 (ra byC x.bs)]) ∧ s.σ [12] = some (.row 5 1 (bytesA (lensB (x.bs.take i)))) ∧ wBB (x.bs.take i) ≤ 20000) ⟨by simp -dsimp -implicitDefEqProofs only [go_sem, Nat.reduceBEq, Nat.reduceAdd, Nat.reduceLeDiff, Nat.reduceSub, Int.reduceEq], by simp -dsimp -implicitDefEqProofs only [go_sem, Nat.reduceBEq, Nat.reduceAdd, Nat.reduceLeDiff, Nat.reduceSub, Int.reduceEq], by simp -dsimp -implicitDefEqProofs only [go_sem, Nat.reduceBEq, Nat.reduceAdd, Nat.reduceLeDiff, Nat.reduceSub, Int.reduceEq] <;> rfl, by simp -dsimp -implicitDefEqProofs only [go_sem, Nat.reduceBEq, Nat.reduceAdd, Nat.reduceLeDiff, Nat.reduceSub, Int.reduceEq], by simp -dsimp -implicitDefEqProofs only [go_sem, Nat.reduceBEq, Nat.reduceAdd, Nat.reduceLeDiff, Nat.reduceSub, Int.reduceEq], by simp -dsimp -implicitDefEqProofs only [go_sem, Nat.reduceBEq, Nat.reduceAdd, Nat.reduceLeDiff, Nat.reduceSub, Int.reduceEq], by simp -dsimp -implicitDefEqProofs only [go_sem, Nat.reduceBEq, Nat.reduceAdd, Nat.reduceLeDiff, Nat.reduceSub, Int.reduceEq], by simp -dsimp -implicitDefEqProofs only [go_sem, Nat.reduceBEq, Nat.reduceAdd, Nat.reduceLeDiff, Nat.reduceSub, Int.reduceEq] <;> rfl, by simp [wBB, szL]⟩ ?_
  rintro i ⟨e, σ⟩ hi ⟨h1, h3, h4, h14, h15, h16, hs1, hs12, hw⟩ K hK
  simp only at h1 h3 h4 h14 h15 h16 hs1 hs12
  simp -dsimp -implicitDefEqProofs only [go_sem, Nat.reduceBEq, Nat.reduceAdd, Nat.reduceLeDiff, Nat.reduceSub, Int.reduceEq, h1, h3, h4, h14, h15, h16, hs1, hs12]
  refine ifB'.of (fun hlt => ?_) (fun hlt => ?_)
  · have hlt : i < x.bs.length := by omega
    have hs : wBB (x.bs.take (i + 1)) = wBB (x.bs.take i) + x.bs[i].length := szL_take_succ List.length hlt
    have hsl : wBB (x.bs.take (i + 1)) ≤ wBB x.bs := szL_take_le List.length x.bs (i + 1)
    have e1 : IntKind.i64.wrap ((wBB (x.bs.take i) : Int) + x.bs[i].length) = (wBB (x.bs.take (i + 1)) : Nat) := by rw [wrap_i64_of (by omega) (by omega), hs]; omega
    have hll := lensB_length (x.bs.take i)
    have htl : (x.bs.take i).length = i := by simp; omega
    simp -dsimp -implicitDefEqProofs only [go_sem, Nat.reduceBEq, Nat.reduceAdd, Nat.reduceLeDiff, Nat.reduceSub, Int.reduceEq, h1, h3, h4, h14, h15, h16, hs1, hs12, byA_at hlt, e1]
    repeat (first | with_reducible refine ask.of (by first | omega | decide) ?_ | simp -dsimp -implicitDefEqProofs only [go_sem, Nat.reduceBEq, Nat.reduceAdd, Nat.reduceLeDiff, Nat.reduceSub, Int.reduceEq, h1, h3, h4, h14, h15, h16, hs1, hs12, byA_at hlt, bleM, e1])
    refine ifB'.of (fun hg => ?_) (fun hg => ?_)
    · simp -dsimp -implicitDefEqProofs only [go_sem, Nat.reduceBEq, Nat.reduceAdd, Nat.reduceLeDiff, Nat.reduceSub, Int.reduceEq, h1, h3, h4, h14, h15, h16, hs1, hs12]
      exact em_f (fun h' => by have := h'.2.1; omega)
    simp -dsimp -implicitDefEqProofs only [go_sem, Nat.reduceBEq, Nat.reduceAdd, Nat.reduceLeDiff, Nat.reduceSub, Int.reduceEq, h1, h3, h4, h14, h15, h16, hs1, hs12]
    refine CallE.of (c_number x.bs[i].length 4 (by omega)) (by rintro r rfl; (repeat' first | exact trivial | exact pure_rowB _ | exact pure_rowO _ | exact pure_rowI _ | exact pure_rowBB _ | exact pure_rowPk _ _ | exact pure_rowSn _ _ | exact pure_rowFd _ _ | exact pure_rowBBB _ | exact pure_rowCl _ _ | exact pure_rowTb _ _ _ | refine And.intro ?_ ?_)) (by simp -dsimp -implicitDefEqProofs only [go_sem, Nat.reduceBEq, Nat.reduceAdd, Nat.reduceLeDiff, Nat.reduceSub, Int.reduceEq, h1, h3, h4, h14, h15, h16, hs1, hs12, show ((4 : Nat) : Int) = 4 from rfl]) ?_
    rintro r rfl
    simp -dsimp -implicitDefEqProofs only [go_sem, Nat.reduceBEq, Nat.reduceAdd, Nat.reduceLeDiff, Nat.reduceSub, Int.reduceEq, h1, h3, h4, h14, h15, h16, hs1, hs12, show ((4 : Nat) : Int) = 4 from rfl]
    repeat (first | with_reducible refine ask.of (by first | omega | (rw [hll, htl, leB_length]; omega)) ?_ | simp -dsimp -implicitDefEqProofs only [go_sem, Nat.reduceBEq, Nat.reduceAdd, Nat.reduceLeDiff, Nat.reduceSub, Int.reduceEq, h1, h3, h4, h14, h15, h16, hs1, hs12, leB_length])
    refine hK _ hlt ?_
    simp -dsimp -implicitDefEqProofs only [go_sem, Nat.reduceBEq, Nat.reduceAdd, Nat.reduceLeDiff, Nat.reduceSub, Int.reduceEq, h1, h3, h4, h14, h15, h16, hs1, hs12, wrap_succ (show i < 4611686018427387904 by omega), lensB_succ hlt, e1]
    omega
  · have : i = x.bs.length := by omega
    subst this
    rw [List.take_length] at hs12 hw
    have hg := ms_good hok hw
    have hj := joinA_len (lensB x.bs :: x.bs)
    have hll := lensB_length x.bs
    have hjl2 : (joinA (lensB x.bs :: x.bs)).length ≤ 30000 := by
      have : wBB (lensB x.bs :: x.bs) = 4 * x.bs.length + wBB x.bs := by simp [wBB, szL, lensB_length]
      simp only [List.length_cons] at hj ⊢
      omega
    simp -dsimp -implicitDefEqProofs only [go_sem, Nat.reduceBEq, Nat.reduceAdd, Nat.reduceLeDiff, Nat.reduceSub, Int.reduceEq, h1, h3, h4, h14, h15, h16, hs1, hs12, ms_b1 hok, ms_b2 hok, ms_b3 hok, ms_b4 hok]
    repeat (first | with_reducible refine ask.of (by first | omega | decide) ?_ | simp -dsimp -implicitDefEqProofs only [go_sem, Nat.reduceBEq, Nat.reduceAdd, Nat.reduceLeDiff, Nat.reduceSub, Int.reduceEq, h1, h3, h4, h14, h15, h16, hs1, hs12, bleM, ms_b1 hok, ms_b2 hok, ms_b3 hok, ms_b4 hok, u8_of_nat, bytes8, byE_asrw])
    refine CallE.of (c_implJoinAlignedL (lensB x.bs) x.bs (by omega)) (by rintro r rfl; (repeat' first | exact trivial | exact pure_rowB _ | exact pure_rowO _ | exact pure_rowI _ | exact pure_rowBB _ | exact pure_rowPk _ _ | exact pure_rowSn _ _ | exact pure_rowFd _ _ | exact pure_rowBBB _ | exact pure_rowCl _ _ | exact pure_rowTb _ _ _ | refine And.intro ?_ ?_)) (by simp -dsimp -implicitDefEqProofs only [go_sem, Nat.reduceBEq, Nat.reduceAdd, Nat.reduceLeDiff, Nat.reduceSub, Int.reduceEq, h1, h3, h4, h14, h15, h16, hs1, hs12]) ?_
    rintro r rfl
    simp -dsimp -implicitDefEqProofs only [go_sem, Nat.reduceBEq, Nat.reduceAdd, Nat.reduceLeDiff, Nat.reduceSub, Int.reduceEq, h1, h3, h4, h14, h15, h16, hs1, hs12]
    repeat (first | with_reducible refine ask.of (by first | omega | decide) ?_ | simp -dsimp -implicitDefEqProofs only [go_sem, Nat.reduceBEq, Nat.reduceAdd, Nat.reduceLeDiff, Nat.reduceSub, Int.reduceEq, h1, h3, h4, h14, h15, h16, hs1, hs12, bleM])
    refine CallE.of (c_summed [headB x, joinA (lensB x.bs :: x.bs)] (by simp [wBB, szL, headB]; omega)) (by rintro r rfl; (repeat' first | exact trivial | exact pure_rowB _ | exact pure_rowO _ | exact pure_rowI _ | exact pure_rowBB _ | exact pure_rowPk _ _ | exact pure_rowSn _ _ | exact pure_rowFd _ _ | exact pure_rowBBB _ | exact pure_rowCl _ _ | exact pure_rowTb _ _ _ | refine And.intro ?_ ?_)) (by simp -dsimp -implicitDefEqProofs only [go_sem, Nat.reduceBEq, Nat.reduceAdd, Nat.reduceLeDiff, Nat.reduceSub, Int.reduceEq, h1, h3, h4, h14, h15, h16, hs1, hs12, byC2, headB]) ?_
    rintro r rfl
    simp -dsimp -implicitDefEqProofs only [go_sem, Nat.reduceBEq, Nat.reduceAdd, Nat.reduceLeDiff, Nat.reduceSub, Int.reduceEq, h1, h3, h4, h14, h15, h16, hs1, hs12, byC2, headB]
    refine ifB'.of (fun hg2 => ?_) (fun hg2 => ?_)
    · simp -dsimp -implicitDefEqProofs only [go_sem, Nat.reduceBEq, Nat.reduceAdd, Nat.reduceLeDiff, Nat.reduceSub, Int.reduceEq, h1, h3, h4, h14, h15, h16, hs1, hs12]
      refine em_f (fun h' => ?_)
      have := h'.2.2
      unfold msBody headB at this
      omega
    · simp -dsimp -implicitDefEqProofs only [go_sem, Nat.reduceBEq, Nat.reduceAdd, Nat.reduceLeDiff, Nat.reduceSub, Int.reduceEq, h1, h3, h4, h14, h15, h16, hs1, hs12]
      rw [encM_yes ⟨hok, hw, by unfold msBody headB; omega⟩]
      rfl
end Go.Ev
set_option linter.unusedSimpArgs false
set_option linter.unusedVariables false
namespace Go.Ev
open Go Go.RowKit Go.Proofs
structure Fd where
  f : List UInt8
  k : Int
  w : Int
structure Cl where
  z : Bool
  i : Int
  f : List UInt8
def fdC (x : Fd) : List AV := [.row 5 1 (bytesA x.f), .v (.int .i64 x.k), .v (.int .i64 x.w)]
def clC (x : Cl) : List AV := [.v (.bool x.z), .v (.int .i64 x.i), .row 5 1 (bytesA x.f)]
def clW (x : Cl) : Nat := x.f.length
def cl0 : Cl := ⟨false, 0, []⟩
def rowFd (T : Nat) (ps : List Fd) : AV := .row T 3 (ra fdC ps)
def rowCl (T : Nat) (ps : List Cl) : AV := .row T 3 (ra clC ps)
theorem bleF (n : Nat) : Nat.ble n n = true := by simp
theorem pure_rowFd (T : Nat) (ps : List Fd) : (rowFd T ps).pure := pureEls_ra (enc := fdC) (fun x => ⟨pureEls_bytes _, trivial, trivial, trivial⟩) ps
theorem pure_rowCl (T : Nat) (ps : List Cl) : (rowCl T ps).pure := pureEls_ra (enc := clC) (fun x => ⟨trivial, trivial, pureEls_bytes _, trivial⟩) ps
theorem Fd_at {xs : List Fd} {i : Nat} (h : i < xs.length) : (ra fdC xs)[i]? = some (fdC xs[i]) := ra_at h
theorem Cl_at {xs : List Cl} {i : Nat} (h : i < xs.length) : (ra clC xs)[i]? = some (clC xs[i]) := ra_at h
theorem mem_clW {xs : List Cl} {b : Cl} (h : b ∈ xs) : b.f.length ≤ szL clW xs := by
  obtain ⟨i, hi, rfl⟩ := List.mem_iff_getElem.1 h
  have := szL_at_le clW hi
  have : clW xs[i] = xs[i].f.length := rfl
  omega
end Go.Ev
set_option linter.unusedSimpArgs false
set_option linter.unusedVariables false
namespace Go.Ev
open Go Go.RowKit Go.Proofs
def chOk (c : UInt8) : Prop := (97 ≤ c.toNat ∧ c.toNat ≤ 122) ∨ (65 ≤ c.toNat ∧ c.toNat ≤ 90) ∨ (48 ≤ c.toNat ∧ c.toNat ≤ 57) ∨ c.toNat = 95
instance (c : UInt8) : Decidable (chOk c) := by unfold chOk; infer_instance
def nmOk (b : List UInt8) : Prop := 1 ≤ b.length ∧ b.length ≤ 20 ∧ ∀ c ∈ b, chOk c
instance (b : List UInt8) : Decidable (nmOk b) := by unfold nmOk; infer_instance
theorem nm_len {b : List UInt8} (h : ¬ (1 ≤ b.length ∧ b.length ≤ 20)) : false = decide (nmOk b) := (decide_eq_false (fun h' => h ⟨h'.1, h'.2.1⟩)).symm
theorem nm_ch {b : List UInt8} {i : Nat} (hi : i < b.length) (h : ¬ chOk b[i]) : false = decide (nmOk b) := (decide_eq_false (fun h' => h (h'.2.2 _ (List.getElem_mem _)))).symm
theorem all_take_succ {α : Type} {q : α → Prop} {xs : List α} {i : Nat} (h : i < xs.length) (ha : ∀ c ∈ xs.take i, q c) (hc : q xs[i]) : ∀ c ∈ xs.take (i + 1), q c := by
  rw [List.take_succ_eq_append_getElem h]
  intro c hm
  rcases List.mem_append.1 hm with hm | hm
  · exact ha c hm
  · rw [List.mem_singleton.1 hm]; exact hc
set_option maxRecDepth 4000 in
theorem c_l2nameOK (b : List UInt8) (hb : b.length ≤ 140737488355328) : Meets Try.prog 65 [rowB b] (fun r => r = .v (.bool (decide (nmOk b)))) := by
  refine Meets.intro mixed (hint []) Try.func65 rfl (by decide) res_65 rty_65 (by kernel_rfl) ?_; 
  simp -dsimp -implicitDefEqProofs only [go_sem, Nat.reduceBEq, Nat.reduceAdd, Nat.reduceLeDiff, Nat.reduceSub, Int.reduceEq]
  refine ifB'.of (fun h => ?_) (fun h => ?_)
  · simp -dsimp -implicitDefEqProofs only [go_sem, Nat.reduceBEq, Nat.reduceAdd, Nat.reduceLeDiff, Nat.reduceSub, Int.reduceEq]
    exact nm_len (by omega)
  simp -dsimp -implicitDefEqProofs only [go_sem, Nat.reduceBEq, Nat.reduceAdd, Nat.reduceLeDiff, Nat.reduceSub, Int.reduceEq]
  refine ifB'.of (fun h2 => ?_) (fun h2 => ?_)
  · simp -dsimp -implicitDefEqProofs only [go_sem, Nat.reduceBEq, Nat.reduceAdd, Nat.reduceLeDiff, Nat.reduceSub, Int.reduceEq]
    exact nm_len (by omega)
  simp -dsimp -implicitDefEqProofs only [go_sem, Nat.reduceBEq, Nat.reduceAdd, Nat.reduceLeDiff, Nat.reduceSub, Int.reduceEq]
  refine LoopE.cnt b.length (fun i s => s.env 0 = .rd .ent 5 1 (bytesA b) ∧ s.env 3 = .v (.int .i64 i) ∧ ∀ c ∈ b.take i, chOk c) ⟨by simp -dsimp -implicitDefEqProofs only [go_sem, Nat.reduceBEq, Nat.reduceAdd, Nat.reduceLeDiff, Nat.reduceSub, Int.reduceEq, initE], by simp -dsimp -implicitDefEqProofs only [go_sem, Nat.reduceBEq, Nat.reduceAdd, Nat.reduceLeDiff, Nat.reduceSub, Int.reduceEq], by simp⟩ ?_
  rintro i ⟨e, σ⟩ hi ⟨h0, h3, ha⟩ K hK
  simp only at h0 h3
  simp -dsimp -implicitDefEqProofs only [go_sem, Nat.reduceBEq, Nat.reduceAdd, Nat.reduceLeDiff, Nat.reduceSub, Int.reduceEq, h0, h3]
  refine ifB'.of (fun hlt => ?_) (fun hlt => ?_)
  · have hlt : i < b.length := by omega
    simp -dsimp -implicitDefEqProofs only [go_sem, Nat.reduceBEq, Nat.reduceAdd, Nat.reduceLeDiff, Nat.reduceSub, Int.reduceEq, h0, h3, bytesA_at hlt]
    repeat' (first | with_reducible refine ifB'.of (fun h => ?_) (fun h => ?_) | with_reducible refine ask.of (by omega) ?_ | ((with_reducible refine nm_ch hlt ?_); unfold chOk; omega) | simp -dsimp -implicitDefEqProofs only [go_sem, Nat.reduceBEq, Nat.reduceAdd, Nat.reduceLeDiff, Nat.reduceSub, Int.reduceEq, h0, h3, Bool.not_true, Bool.not_false])
    all_goals (refine hK _ hlt ?_; simp -dsimp -implicitDefEqProofs only [go_sem, Nat.reduceBEq, Nat.reduceAdd, Nat.reduceLeDiff, Nat.reduceSub, Int.reduceEq, h0, h3, wrap_succ (show i < 4611686018427387904 by omega)]; exact all_take_succ hlt ha (by unfold chOk; omega))
  · have : i = b.length := by omega
    subst this
    simp -dsimp -implicitDefEqProofs only [go_sem, Nat.reduceBEq, Nat.reduceAdd, Nat.reduceLeDiff, Nat.reduceSub, Int.reduceEq, h0, h3]
    rw [List.take_length] at ha
    exact (decide_eq_true (show nmOk b from ⟨by omega, by omega, ha⟩)).symm
set_option maxRecDepth 4000 in
theorem c_nameOk (b : List UInt8) (hb : b.length ≤ 140737488355328) : Meets Try.prog 74 [rowB b] (fun r => r = .v (.bool (decide (nmOk b)))) := by
  refine Meets.intro mixed (hint []) Try.func74 rfl (by decide) res_74 rty_74 (by kernel_rfl) ?_; 
  simp -dsimp -implicitDefEqProofs only [go_sem, Nat.reduceBEq, Nat.reduceAdd, Nat.reduceLeDiff, Nat.reduceSub, Int.reduceEq]
  refine ifB'.of (fun h => ?_) (fun h => ?_)
  · simp -dsimp -implicitDefEqProofs only [go_sem, Nat.reduceBEq, Nat.reduceAdd, Nat.reduceLeDiff, Nat.reduceSub, Int.reduceEq]
    exact nm_len (by omega)
  simp -dsimp -implicitDefEqProofs only [go_sem, Nat.reduceBEq, Nat.reduceAdd, Nat.reduceLeDiff, Nat.reduceSub, Int.reduceEq]
  refine ifB'.of (fun h2 => ?_) (fun h2 => ?_)
  · simp -dsimp -implicitDefEqProofs only [go_sem, Nat.reduceBEq, Nat.reduceAdd, Nat.reduceLeDiff, Nat.reduceSub, Int.reduceEq]
    exact nm_len (by omega)
  simp -dsimp -implicitDefEqProofs only [go_sem, Nat.reduceBEq, Nat.reduceAdd, Nat.reduceLeDiff, Nat.reduceSub, Int.reduceEq]
  refine LoopE.cnt b.length (fun i s => s.env 13 = .rd .ent 5 1 (bytesA b) ∧ s.env 14 = .v (.int .i64 b.length) ∧ s.env 15 = .v (.int .i64 i) ∧ ∀ c ∈ b.take i, chOk c) ⟨by simp -dsimp -implicitDefEqProofs only [go_sem, Nat.reduceBEq, Nat.reduceAdd, Nat.reduceLeDiff, Nat.reduceSub, Int.reduceEq, initE], by simp -dsimp -implicitDefEqProofs only [go_sem, Nat.reduceBEq, Nat.reduceAdd, Nat.reduceLeDiff, Nat.reduceSub, Int.reduceEq, initE], by simp -dsimp -implicitDefEqProofs only [go_sem, Nat.reduceBEq, Nat.reduceAdd, Nat.reduceLeDiff, Nat.reduceSub, Int.reduceEq], by simp⟩ ?_
  rintro i ⟨e, σ⟩ hi ⟨h13, h14, h15, ha⟩ K hK
  simp only at h13 h14 h15
  simp -dsimp -implicitDefEqProofs only [go_sem, Nat.reduceBEq, Nat.reduceAdd, Nat.reduceLeDiff, Nat.reduceSub, Int.reduceEq, h13, h14, h15]
  refine ifB'.of (fun hlt => ?_) (fun hlt => ?_)
  · have hlt : i < b.length := by omega
    simp -dsimp -implicitDefEqProofs only [go_sem, Nat.reduceBEq, Nat.reduceAdd, Nat.reduceLeDiff, Nat.reduceSub, Int.reduceEq, h13, h14, h15, bytesA_at hlt]
    repeat' (first | with_reducible refine ifB'.of (fun h => ?_) (fun h => ?_) | with_reducible refine ask.of (by omega) ?_ | ((with_reducible refine nm_ch hlt ?_); unfold chOk; omega) | simp -dsimp -implicitDefEqProofs only [go_sem, Nat.reduceBEq, Nat.reduceAdd, Nat.reduceLeDiff, Nat.reduceSub, Int.reduceEq, h13, h14, h15, Bool.not_true, Bool.not_false])
    all_goals (refine hK _ hlt ?_; simp -dsimp -implicitDefEqProofs only [go_sem, Nat.reduceBEq, Nat.reduceAdd, Nat.reduceLeDiff, Nat.reduceSub, Int.reduceEq, h13, h14, h15, wrap_succ (show i < 4611686018427387904 by omega)]; exact all_take_succ hlt ha (by unfold chOk; omega))
  · have : i = b.length := by omega
    subst this
    simp -dsimp -implicitDefEqProofs only [go_sem, Nat.reduceBEq, Nat.reduceAdd, Nat.reduceLeDiff, Nat.reduceSub, Int.reduceEq, h13, h14, h15]
    rw [List.take_length] at ha
    exact (decide_eq_true (show nmOk b from ⟨by omega, by omega, ha⟩)).symm
def fdOk (x : Fd) : Prop := nmOk x.f ∧ ((x.k = 1 ∧ (x.w = 1 ∨ x.w = 2 ∨ x.w = 4 ∨ x.w = 8)) ∨ ((x.k = 0 ∨ x.k = 2 ∨ x.k = 3) ∧ x.w = 0))
instance (x : Fd) : Decidable (fdOk x) := by unfold fdOk; infer_instance
theorem fd_f {x : Fd} (h : ¬ fdOk x) : false = decide (fdOk x) := by rw [decide_eq_false h]
theorem fd_t {x : Fd} (h : fdOk x) : true = decide (fdOk x) := by rw [decide_eq_true h]
theorem fd_d {x : Fd} {q : Prop} [Decidable q] (h : q ↔ fdOk x) : decide q = decide (fdOk x) := by rw [decide_eq_decide.2 h]
theorem isW_iff (n : Int) : isW n = decide (n = 1 ∨ n = 2 ∨ n = 4 ∨ n = 8) := by
  unfold isW
  simp only [Bool.decide_or, Bool.or_assoc]
theorem c_l2fieldOK (x : Fd) (hb : x.f.length ≤ 1048576) : Meets Try.prog 40 [.agg (fdC x)] (fun r => r = .v (.bool (decide (fdOk x)))) := by
  refine Meets.intro mixed (hint []) Try.func40 rfl (by decide) res_40 rty_40 (by kernel_rfl) ?_; 
  simp -dsimp -implicitDefEqProofs only [go_sem, Nat.reduceBEq, Nat.reduceAdd, Nat.reduceLeDiff, Nat.reduceSub, Int.reduceEq, fdC]
  repeat (first | with_reducible refine ask.of (by omega) ?_ | simp -dsimp -implicitDefEqProofs only [go_sem, Nat.reduceBEq, Nat.reduceAdd, Nat.reduceLeDiff, Nat.reduceSub, Int.reduceEq, bleF])
  refine CallE.of (c_l2nameOK x.f (by omega)) (by rintro r rfl; (repeat' first | exact trivial | exact pure_rowB _ | exact pure_rowO _ | exact pure_rowI _ | exact pure_rowBB _ | exact pure_rowPk _ _ | exact pure_rowSn _ _ | exact pure_rowFd _ _ | exact pure_rowBBB _ | exact pure_rowCl _ _ | exact pure_rowTb _ _ _ | refine And.intro ?_ ?_)) (by simp -dsimp -implicitDefEqProofs only [go_sem, Nat.reduceBEq, Nat.reduceAdd, Nat.reduceLeDiff, Nat.reduceSub, Int.reduceEq]) ?_
  rintro r rfl
  simp -dsimp -implicitDefEqProofs only [go_sem, Nat.reduceBEq, Nat.reduceAdd, Nat.reduceLeDiff, Nat.reduceSub, Int.reduceEq]
  by_cases hn : nmOk x.f
  · simp -dsimp -implicitDefEqProofs only [go_sem, Nat.reduceBEq, Nat.reduceAdd, Nat.reduceLeDiff, Nat.reduceSub, Int.reduceEq, decide_eq_true hn]
    repeat' (first | with_reducible refine ifB'.of (fun h => ?_) (fun h => ?_) | with_reducible refine ask.of (by omega) ?_ | ((with_reducible refine fd_f ?_); unfold fdOk; simp only [hn, true_and]; omega) | ((with_reducible refine fd_t ?_); unfold fdOk; simp only [hn, true_and]; omega) | ((with_reducible refine fd_d ?_); unfold fdOk; simp only [hn, true_and]; omega) | simp -dsimp -implicitDefEqProofs only [go_sem, Nat.reduceBEq, Nat.reduceAdd, Nat.reduceLeDiff, Nat.reduceSub, Int.reduceEq, decide_true])
    all_goals
      refine CallE.of (c_l1width x.w) (by rintro r rfl; (repeat' first | exact trivial | exact pure_rowB _ | exact pure_rowO _ | exact pure_rowI _ | exact pure_rowBB _ | exact pure_rowPk _ _ | exact pure_rowSn _ _ | exact pure_rowFd _ _ | exact pure_rowBBB _ | exact pure_rowCl _ _ | exact pure_rowTb _ _ _ | refine And.intro ?_ ?_)) (by simp -dsimp -implicitDefEqProofs only [go_sem, Nat.reduceBEq, Nat.reduceAdd, Nat.reduceLeDiff, Nat.reduceSub, Int.reduceEq, isW_iff]) ?_
      rintro r rfl
      simp -dsimp -implicitDefEqProofs only [go_sem, Nat.reduceBEq, Nat.reduceAdd, Nat.reduceLeDiff, Nat.reduceSub, Int.reduceEq, isW_iff]
      refine fd_d ?_
      unfold fdOk
      simp only [hn, true_and]
      omega
  · simp -dsimp -implicitDefEqProofs only [go_sem, Nat.reduceBEq, Nat.reduceAdd, Nat.reduceLeDiff, Nat.reduceSub, Int.reduceEq, decide_eq_false hn]
    repeat' (first | with_reducible refine ask.of (by omega) ?_ | ((with_reducible refine fd_f ?_); exact fun h => hn h.1) | simp -dsimp -implicitDefEqProofs only [go_sem, Nat.reduceBEq, Nat.reduceAdd, Nat.reduceLeDiff, Nat.reduceSub, Int.reduceEq, decide_true])
theorem c_fieldOk (x : Fd) (hb : x.f.length ≤ 1048576) : Meets Try.prog 49 [.agg (fdC x)] (fun r => r = .v (.bool (decide (fdOk x)))) := by
  refine Meets.intro mixed (hint []) Try.func49 rfl (by decide) res_49 rty_49 (by kernel_rfl) ?_; 
  simp -dsimp -implicitDefEqProofs only [go_sem, Nat.reduceBEq, Nat.reduceAdd, Nat.reduceLeDiff, Nat.reduceSub, Int.reduceEq, fdC]
  repeat (first | with_reducible refine ask.of (by omega) ?_ | simp -dsimp -implicitDefEqProofs only [go_sem, Nat.reduceBEq, Nat.reduceAdd, Nat.reduceLeDiff, Nat.reduceSub, Int.reduceEq, bleF])
  refine CallE.of (c_nameOk x.f (by omega)) (by rintro r rfl; (repeat' first | exact trivial | exact pure_rowB _ | exact pure_rowO _ | exact pure_rowI _ | exact pure_rowBB _ | exact pure_rowPk _ _ | exact pure_rowSn _ _ | exact pure_rowFd _ _ | exact pure_rowBBB _ | exact pure_rowCl _ _ | exact pure_rowTb _ _ _ | refine And.intro ?_ ?_)) (by simp -dsimp -implicitDefEqProofs only [go_sem, Nat.reduceBEq, Nat.reduceAdd, Nat.reduceLeDiff, Nat.reduceSub, Int.reduceEq]) ?_
  rintro r rfl
  simp -dsimp -implicitDefEqProofs only [go_sem, Nat.reduceBEq, Nat.reduceAdd, Nat.reduceLeDiff, Nat.reduceSub, Int.reduceEq]
  by_cases hn : nmOk x.f
  · simp -dsimp -implicitDefEqProofs only [go_sem, Nat.reduceBEq, Nat.reduceAdd, Nat.reduceLeDiff, Nat.reduceSub, Int.reduceEq, decide_eq_true hn]
    repeat' (first | with_reducible refine ifB'.of (fun h => ?_) (fun h => ?_) | with_reducible refine ask.of (by omega) ?_ | ((with_reducible refine fd_f ?_); unfold fdOk; simp only [hn, true_and]; omega) | ((with_reducible refine fd_t ?_); unfold fdOk; simp only [hn, true_and]; omega) | ((with_reducible refine fd_d ?_); unfold fdOk; simp only [hn, true_and]; omega) | simp -dsimp -implicitDefEqProofs only [go_sem, Nat.reduceBEq, Nat.reduceAdd, Nat.reduceLeDiff, Nat.reduceSub, Int.reduceEq, decide_true])
    all_goals
      refine CallE.of (c_l1width x.w) (by rintro r rfl; (repeat' first | exact trivial | exact pure_rowB _ | exact pure_rowO _ | exact pure_rowI _ | exact pure_rowBB _ | exact pure_rowPk _ _ | exact pure_rowSn _ _ | exact pure_rowFd _ _ | exact pure_rowBBB _ | exact pure_rowCl _ _ | exact pure_rowTb _ _ _ | refine And.intro ?_ ?_)) (by simp -dsimp -implicitDefEqProofs only [go_sem, Nat.reduceBEq, Nat.reduceAdd, Nat.reduceLeDiff, Nat.reduceSub, Int.reduceEq, isW_iff]) ?_
      rintro r rfl
      simp -dsimp -implicitDefEqProofs only [go_sem, Nat.reduceBEq, Nat.reduceAdd, Nat.reduceLeDiff, Nat.reduceSub, Int.reduceEq, isW_iff]
      refine fd_d ?_
      unfold fdOk
      simp only [hn, true_and]
      omega
  · simp -dsimp -implicitDefEqProofs only [go_sem, Nat.reduceBEq, Nat.reduceAdd, Nat.reduceLeDiff, Nat.reduceSub, Int.reduceEq, decide_eq_false hn]
    repeat' (first | with_reducible refine ask.of (by omega) ?_ | ((with_reducible refine fd_f ?_); exact fun h => hn h.1) | simp -dsimp -implicitDefEqProofs only [go_sem, Nat.reduceBEq, Nat.reduceAdd, Nat.reduceLeDiff, Nat.reduceSub, Int.reduceEq, decide_true])
end Go.Ev
set_option linter.unusedSimpArgs false
set_option linter.unusedVariables false
namespace Go.Ev
open Go Go.RowKit Go.Proofs
def nms (xs : List Fd) : List (List UInt8) := xs.map Fd.f
theorem nms_length (xs : List Fd) : (nms xs).length = xs.length := by simp [nms]
theorem nms_at {xs : List Fd} {i : Nat} (h : i < (nms xs).length) : (nms xs)[i] = (xs[i]'(by simpa [nms] using h)).f := by simp [nms]
theorem nms_take (xs : List Fd) (i : Nat) : nms (xs.take i) = (nms xs).take i := by simp [nms, List.map_take]
theorem nms_snoc {xs : List Fd} {i : Nat} (h : i < xs.length) : nms (xs.take i) ++ [xs[i].f] = nms (xs.take (i + 1)) := by
  rw [List.take_succ_eq_append_getElem h, nms, nms, List.map_append]; rfl
theorem nms_nodup {xs : List Fd} {i : Nat} (h : i < xs.length) : (nms (xs.take (i + 1))).Nodup ↔ (nms (xs.take i)).Nodup ∧ xs[i].f ∉ nms (xs.take i) := by
  have := nodup_take_succ (xs := nms xs) (i := i) (by rwa [nms_length])
  rw [nms_at] at this
  rw [nms_take, nms_take]; exact this
def okF (xs : List Fd) : Prop := (1 ≤ xs.length ∧ xs.length ≤ 12) ∧ (∀ x ∈ xs, fdOk x) ∧ (nms xs).Nodup
instance (xs : List Fd) : Decidable (okF xs) := by unfold okF; infer_instance
theorem okF_f {xs : List Fd} (h : ¬ okF xs) : false = decide (okF xs) := (decide_eq_false h).symm
theorem okF_dup {xs : List Fd} {i : Nat} (h : i < xs.length) (hm : xs[i].f ∈ nms (xs.take i)) : ¬ okF xs := fun h' =>
  ((nms_nodup h).1 (by rw [nms_take]; exact nodup_take h'.2.2 _)).2 hm
theorem c_iValidFields (xs : List Fd) (hx : xs.length ≤ 1048576) (hb : ∀ b ∈ xs, b.f.length ≤ 1048576) : Meets Try.prog 36 [rowFd 39 xs] (fun r => r = .v (.bool (decide (okF xs)))) := by
  refine Meets.intro mixed (hint []) Try.func36 rfl (by decide) res_36 rty_36 (by kernel_rfl) ?_; 
  simp -dsimp -implicitDefEqProofs only [go_sem, Nat.reduceBEq, Nat.reduceAdd, Nat.reduceLeDiff, Nat.reduceSub, Int.reduceEq, rowFd]
  refine ifB'.of (fun h => ?_) (fun h => ?_)
  · simp -dsimp -implicitDefEqProofs only [go_sem, Nat.reduceBEq, Nat.reduceAdd, Nat.reduceLeDiff, Nat.reduceSub, Int.reduceEq]
    exact okF_f (fun h' => by have := h'.1; omega)
  simp -dsimp -implicitDefEqProofs only [go_sem, Nat.reduceBEq, Nat.reduceAdd, Nat.reduceLeDiff, Nat.reduceSub, Int.reduceEq]
  refine ifB'.of (fun h2 => ?_) (fun h2 => ?_)
  · simp -dsimp -implicitDefEqProofs only [go_sem, Nat.reduceBEq, Nat.reduceAdd, Nat.reduceLeDiff, Nat.reduceSub, Int.reduceEq]
    exact okF_f (fun h' => by have := h'.1; omega)
  simp -dsimp -implicitDefEqProofs only [go_sem, Nat.reduceBEq, Nat.reduceAdd, Nat.reduceLeDiff, Nat.reduceSub, Int.reduceEq]
  refine LoopE.cnt xs.length (fun i s => s.env 17 = .rd .ent 39 3 (ra fdC xs) ∧ s.env 18 = .v (.int .i64 xs.length) ∧ s.env 19 = .v (.int .i64 i) ∧ s.env 3 = .ref [16] ∧ s.σ [16] = some (.mp .string 3 (mpS (ixP (nms (xs.take i))))) ∧ (∀ x ∈ xs.take i, fdOk x) ∧ (nms (xs.take i)).Nodup) ⟨by simp -dsimp -implicitDefEqProofs only [go_sem, Nat.reduceBEq, Nat.reduceAdd, Nat.reduceLeDiff, Nat.reduceSub, Int.reduceEq, initE, rowFd], by simp -dsimp -implicitDefEqProofs only [go_sem, Nat.reduceBEq, Nat.reduceAdd, Nat.reduceLeDiff, Nat.reduceSub, Int.reduceEq, initE, rowFd], by simp -dsimp -implicitDefEqProofs only [go_sem, Nat.reduceBEq, Nat.reduceAdd, Nat.reduceLeDiff, Nat.reduceSub, Int.reduceEq], by simp -dsimp -implicitDefEqProofs only [go_sem, Nat.reduceBEq, Nat.reduceAdd, Nat.reduceLeDiff, Nat.reduceSub, Int.reduceEq], by simp -dsimp -implicitDefEqProofs only [go_sem, Nat.reduceBEq, Nat.reduceAdd, Nat.reduceLeDiff, Nat.reduceSub, Int.reduceEq] <;> rfl, by simp, by simp [nms]⟩ ?_
  rintro i ⟨e, σ⟩ hi ⟨h17, h18, h19, h3, hs, ha, hnd⟩ K hK
  simp only at h17 h18 h19 h3 hs
  simp -dsimp -implicitDefEqProofs only [go_sem, Nat.reduceBEq, Nat.reduceAdd, Nat.reduceLeDiff, Nat.reduceSub, Int.reduceEq, h17, h18, h19, h3, hs]
  refine ifB'.of (fun hlt => ?_) (fun hlt => ?_)
  · have hlt : i < xs.length := by omega
    simp -dsimp -implicitDefEqProofs only [go_sem, Nat.reduceBEq, Nat.reduceAdd, Nat.reduceLeDiff, Nat.reduceSub, Int.reduceEq, h17, h18, h19, h3, hs, Fd_at hlt, fdC]
    repeat (first | with_reducible refine ask.of (by omega) ?_ | simp -dsimp -implicitDefEqProofs only [go_sem, Nat.reduceBEq, Nat.reduceAdd, Nat.reduceLeDiff, Nat.reduceSub, Int.reduceEq, h17, h18, h19, h3, hs, Fd_at hlt, fdC, bleF, ixP_has])
    refine ifB'.of (fun hq => ?_) (fun hq => ?_)
    · simp -dsimp -implicitDefEqProofs only [go_sem, Nat.reduceBEq, Nat.reduceAdd, Nat.reduceLeDiff, Nat.reduceSub, Int.reduceEq, h17, h18, h19, h3, hs]
      exact okF_f (okF_dup hlt hq)
    · simp -dsimp -implicitDefEqProofs only [go_sem, Nat.reduceBEq, Nat.reduceAdd, Nat.reduceLeDiff, Nat.reduceSub, Int.reduceEq, h17, h18, h19, h3, hs]
      repeat (first | with_reducible refine ask.of (by omega) ?_ | simp -dsimp -implicitDefEqProofs only [go_sem, Nat.reduceBEq, Nat.reduceAdd, Nat.reduceLeDiff, Nat.reduceSub, Int.reduceEq, h17, h18, h19, h3, hs, Fd_at hlt, fdC, bleF, ixP_has])
      refine CallE.of (c_fieldOk xs[i] (hb _ (List.getElem_mem _))) (by rintro r rfl; (repeat' first | exact trivial | exact pure_rowB _ | exact pure_rowO _ | exact pure_rowI _ | exact pure_rowBB _ | exact pure_rowPk _ _ | exact pure_rowSn _ _ | exact pure_rowFd _ _ | exact pure_rowBBB _ | exact pure_rowCl _ _ | exact pure_rowTb _ _ _ | refine And.intro ?_ ?_)) (by simp -dsimp -implicitDefEqProofs only [go_sem, Nat.reduceBEq, Nat.reduceAdd, Nat.reduceLeDiff, Nat.reduceSub, Int.reduceEq, h17, h18, h19, h3, hs, fdC]) ?_
      rintro r rfl
      simp -dsimp -implicitDefEqProofs only [go_sem, Nat.reduceBEq, Nat.reduceAdd, Nat.reduceLeDiff, Nat.reduceSub, Int.reduceEq, h17, h18, h19, h3, hs, fdC]
      refine ifB'.of (fun hq2 => ?_) (fun hq2 => ?_)
      · simp -dsimp -implicitDefEqProofs only [go_sem, Nat.reduceBEq, Nat.reduceAdd, Nat.reduceLeDiff, Nat.reduceSub, Int.reduceEq, h17, h18, h19, h3, hs]
        have hp := ixP_put hq
        rw [nms_length, show (xs.take i).length = i by simp; omega, nms_snoc hlt] at hp
        repeat (first | with_reducible refine ask.of (by omega) ?_ | simp -dsimp -implicitDefEqProofs only [go_sem, Nat.reduceBEq, Nat.reduceAdd, Nat.reduceLeDiff, Nat.reduceSub, Int.reduceEq, h17, h18, h19, h3, hs, Fd_at hlt, fdC, bleF, hp])
        refine hK _ hlt ?_
        simp -dsimp -implicitDefEqProofs only [go_sem, Nat.reduceBEq, Nat.reduceAdd, Nat.reduceLeDiff, Nat.reduceSub, Int.reduceEq, h17, h18, h19, h3, hs, wrap_succ (show i < 4611686018427387904 by omega)]
        exact ⟨all_take_succ hlt ha hq2, (nms_nodup hlt).2 ⟨hnd, hq⟩⟩
      · simp -dsimp -implicitDefEqProofs only [go_sem, Nat.reduceBEq, Nat.reduceAdd, Nat.reduceLeDiff, Nat.reduceSub, Int.reduceEq, h17, h18, h19, h3, hs]
        exact okF_f (fun h' => hq2 (h'.2.1 _ (List.getElem_mem _)))
  · have : i = xs.length := by omega
    subst this
    simp -dsimp -implicitDefEqProofs only [go_sem, Nat.reduceBEq, Nat.reduceAdd, Nat.reduceLeDiff, Nat.reduceSub, Int.reduceEq, h17, h18, h19, h3, hs]
    rw [List.take_length] at ha hnd
    exact (decide_eq_true (show okF xs from ⟨⟨by omega, by omega⟩, ha, hnd⟩)).symm
end Go.Ev
set_option linter.unusedSimpArgs false
set_option linter.unusedVariables false
namespace Go.Ev
open Go Go.RowKit Go.Proofs
def clOk (f : Fd) (c : Cl) : Prop := if c.z = true then c.i = 0 ∧ c.f.length = 0 else if f.k = 0 then (c.i = 0 ∨ c.i = 1) ∧ c.f.length = 0 else if f.k = 1 then fitsB f.w.toNat c.i = true ∧ c.f.length = 0 else c.i = 0
instance (f : Fd) (c : Cl) : Decidable (clOk f c) := by unfold clOk; infer_instance
def i64r (n : Int) : Prop := -9223372036854775808 ≤ n ∧ n ≤ 9223372036854775807
theorem cl_d {f : Fd} {c : Cl} {q : Prop} [Decidable q] (h : q ↔ clOk f c) : decide q = decide (clOk f c) := decide_eq_decide.2 h
theorem cl_f {f : Fd} {c : Cl} (h : ¬ clOk f c) : false = decide (clOk f c) := (decide_eq_false h).symm
theorem cl_t {f : Fd} {c : Cl} (h : clOk f c) : true = decide (clOk f c) := (decide_eq_true h).symm
theorem packIC_one {n x : Int} (h : isW n = true) : (packIC [x] n).2 = if fitsB n.toNat x = true then 0 else 1 := by
  unfold packIC
  rw [if_pos h]
  by_cases h2 : fitsB n.toNat x = true
  · rw [if_pos h2, if_pos (by simp [h2])]
  · rw [if_neg h2, if_neg (by simp [h2])]
theorem fd_w {f : Fd} (h : fdOk f) (h1 : f.k = 1) : ∃ w : Nat, f.w = w ∧ (w = 1 ∨ w = 2 ∨ w = 4 ∨ w = 8) := by
  have := h.2
  exact ⟨f.w.toNat, by omega, by omega⟩
set_option maxRecDepth 4000 in
theorem c_l2cellOK (f : Fd) (c : Cl) (hf : fdOk f) (hb : c.f.length ≤ 1048576) : Meets Try.prog 83 [.agg (fdC f), .agg (clC c)] (fun r => r = .v (.bool (decide (clOk f c)))) := by
  refine Meets.intro mixed (hint []) Try.func83 rfl (by decide) res_83 rty_83 (by kernel_rfl) ?_; 
  simp -dsimp -implicitDefEqProofs only [go_sem, Nat.reduceBEq, Nat.reduceAdd, Nat.reduceLeDiff, Nat.reduceSub, Int.reduceEq, fdC, clC]
  cases hz : c.z
  · by_cases h1 : f.k = 1
    · obtain ⟨w, hw, hww⟩ := fd_w hf h1
      simp -dsimp -implicitDefEqProofs only [go_sem, Nat.reduceBEq, Nat.reduceAdd, Nat.reduceLeDiff, Nat.reduceSub, Int.reduceEq, hz, h1, hw, decide_false, decide_true]
      repeat (first | with_reducible refine ask.of (by omega) ?_ | simp -dsimp -implicitDefEqProofs only [go_sem, Nat.reduceBEq, Nat.reduceAdd, Nat.reduceLeDiff, Nat.reduceSub, Int.reduceEq, hz, h1, hw, decide_false, decide_true])
      refine CallE.of (c_l1fits c.i w hww) (by rintro r rfl; (repeat' first | exact trivial | exact pure_rowB _ | exact pure_rowO _ | exact pure_rowI _ | exact pure_rowBB _ | exact pure_rowPk _ _ | exact pure_rowSn _ _ | exact pure_rowFd _ _ | exact pure_rowBBB _ | exact pure_rowCl _ _ | exact pure_rowTb _ _ _ | refine And.intro ?_ ?_)) (by simp -dsimp -implicitDefEqProofs only [go_sem, Nat.reduceBEq, Nat.reduceAdd, Nat.reduceLeDiff, Nat.reduceSub, Int.reduceEq]) ?_
      rintro r rfl
      simp -dsimp -implicitDefEqProofs only [go_sem, Nat.reduceBEq, Nat.reduceAdd, Nat.reduceLeDiff, Nat.reduceSub, Int.reduceEq]
      have e : clOk f c ↔ fitsB w c.i = true ∧ c.f.length = 0 := by
        unfold clOk
        rw [hz, if_neg (by decide), if_neg (by omega), if_pos h1, hw]; simp
      cases hq : fitsB w c.i
      · simp -dsimp -implicitDefEqProofs only [go_sem, Nat.reduceBEq, Nat.reduceAdd, Nat.reduceLeDiff, Nat.reduceSub, Int.reduceEq, hq]
        exact cl_f (by rw [e, hq]; simp)
      · simp -dsimp -implicitDefEqProofs only [go_sem, Nat.reduceBEq, Nat.reduceAdd, Nat.reduceLeDiff, Nat.reduceSub, Int.reduceEq, hq]
        repeat (first | with_reducible refine ask.of (by omega) ?_ | simp -dsimp -implicitDefEqProofs only [go_sem, Nat.reduceBEq, Nat.reduceAdd, Nat.reduceLeDiff, Nat.reduceSub, Int.reduceEq, hq])
        exact cl_d (by rw [e, hq]; simp)
    · repeat' (first | with_reducible refine ifB'.of (fun h => ?_) (fun h => ?_) | with_reducible refine ask.of (by omega) ?_ | omega | ((with_reducible refine cl_f ?_); unfold clOk; simp only [hz, h1, if_false, Bool.false_eq_true]; split <;> omega) | ((with_reducible refine cl_t ?_); unfold clOk; simp only [hz, h1, if_false, Bool.false_eq_true]; split <;> omega) | ((with_reducible refine cl_d ?_); unfold clOk; simp only [hz, h1, if_false, Bool.false_eq_true]; split <;> omega) | simp -dsimp -implicitDefEqProofs only [go_sem, Nat.reduceBEq, Nat.reduceAdd, Nat.reduceLeDiff, Nat.reduceSub, Int.reduceEq, hz, decide_true])
  · repeat' (first | with_reducible refine ifB'.of (fun h => ?_) (fun h => ?_) | with_reducible refine ask.of (by omega) ?_ | ((with_reducible refine cl_f ?_); unfold clOk; simp only [hz, if_true]; omega) | ((with_reducible refine cl_t ?_); unfold clOk; simp only [hz, if_true]; omega) | ((with_reducible refine cl_d ?_); unfold clOk; simp only [hz, if_true]; omega) | simp -dsimp -implicitDefEqProofs only [go_sem, Nat.reduceBEq, Nat.reduceAdd, Nat.reduceLeDiff, Nat.reduceSub, Int.reduceEq, hz, decide_true])
set_option maxRecDepth 4000 in
theorem c_cellOk (f : Fd) (c : Cl) (hf : fdOk f) (hb : c.f.length ≤ 1048576) (hi : i64r c.i) : Meets Try.prog 38 [.agg (fdC f), .agg (clC c)] (fun r => r = .v (.bool (decide (clOk f c)))) := by
  refine Meets.intro mixed (hint []) Try.func38 rfl (by decide) res_38 rty_38 (by kernel_rfl) ?_; 
  simp -dsimp -implicitDefEqProofs only [go_sem, Nat.reduceBEq, Nat.reduceAdd, Nat.reduceLeDiff, Nat.reduceSub, Int.reduceEq, fdC, clC]
  cases hz : c.z
  · by_cases h1 : f.k = 1
    · obtain ⟨w, hw, hww⟩ := fd_w hf h1
      have hW : isW (w : Int) = true := isW_of hww
      have e : clOk f c ↔ fitsB w c.i = true ∧ c.f.length = 0 := by
        unfold clOk
        rw [hz, if_neg (by decide), if_neg (by omega), if_pos h1, hw]; simp
      simp -dsimp -implicitDefEqProofs only [go_sem, Nat.reduceBEq, Nat.reduceAdd, Nat.reduceLeDiff, Nat.reduceSub, Int.reduceEq, hz, h1, hw, decide_false, decide_true]
      repeat (first | with_reducible refine ask.of (by omega) ?_ | simp -dsimp -implicitDefEqProofs only [go_sem, Nat.reduceBEq, Nat.reduceAdd, Nat.reduceLeDiff, Nat.reduceSub, Int.reduceEq, hz, h1, hw, decide_false, decide_true])
      repeat (first | with_reducible refine ask.of (by decide) ?_ | simp -dsimp -implicitDefEqProofs only [go_sem, Nat.reduceBEq, Nat.reduceAdd, Nat.reduceLeDiff, Nat.reduceSub, Int.reduceEq, intA_one, show intC c.i = [.v (.int .i64 c.i)] from rfl])
      refine CallE.of (c_implPackInts [c.i] w (by simp) (by intro x hx; simp at hx; subst hx; exact hi)) (by rintro r rfl; (repeat' first | exact trivial | exact pure_rowB _ | exact pure_rowO _ | exact pure_rowI _ | exact pure_rowBB _ | exact pure_rowPk _ _ | exact pure_rowSn _ _ | exact pure_rowFd _ _ | exact pure_rowBBB _ | exact pure_rowCl _ _ | exact pure_rowTb _ _ _ | refine And.intro ?_ ?_)) (by simp -dsimp -implicitDefEqProofs only [go_sem, Nat.reduceBEq, Nat.reduceAdd, Nat.reduceLeDiff, Nat.reduceSub, Int.reduceEq]) ?_
      rintro r rfl
      simp -dsimp -implicitDefEqProofs only [go_sem, Nat.reduceBEq, Nat.reduceAdd, Nat.reduceLeDiff, Nat.reduceSub, Int.reduceEq]
      cases hq : fitsB w c.i
      · have ep : (packIC [c.i] (w : Int)).2 = 1 := by rw [packIC_one hW, Int.toNat_natCast, hq]; rfl
        simp -dsimp -implicitDefEqProofs only [go_sem, Nat.reduceBEq, Nat.reduceAdd, Nat.reduceLeDiff, Nat.reduceSub, Int.reduceEq, ep, decide_false]
        exact cl_f (by rw [e, hq]; simp)
      · have ep : (packIC [c.i] (w : Int)).2 = 0 := by rw [packIC_one hW, Int.toNat_natCast, hq]; rfl
        simp -dsimp -implicitDefEqProofs only [go_sem, Nat.reduceBEq, Nat.reduceAdd, Nat.reduceLeDiff, Nat.reduceSub, Int.reduceEq, ep, decide_true]
        repeat (first | with_reducible refine ask.of (by omega) ?_ | simp -dsimp -implicitDefEqProofs only [go_sem, Nat.reduceBEq, Nat.reduceAdd, Nat.reduceLeDiff, Nat.reduceSub, Int.reduceEq, hq])
        exact cl_d (by rw [e, hq]; simp)
    · repeat' (first | with_reducible refine ifB'.of (fun h => ?_) (fun h => ?_) | with_reducible refine ask.of (by omega) ?_ | omega | ((with_reducible refine cl_f ?_); unfold clOk; simp only [hz, h1, if_false, Bool.false_eq_true]; split <;> omega) | ((with_reducible refine cl_t ?_); unfold clOk; simp only [hz, h1, if_false, Bool.false_eq_true]; split <;> omega) | ((with_reducible refine cl_d ?_); unfold clOk; simp only [hz, h1, if_false, Bool.false_eq_true]; split <;> omega) | simp -dsimp -implicitDefEqProofs only [go_sem, Nat.reduceBEq, Nat.reduceAdd, Nat.reduceLeDiff, Nat.reduceSub, Int.reduceEq, hz, decide_true])
  · repeat' (first | with_reducible refine ifB'.of (fun h => ?_) (fun h => ?_) | with_reducible refine ask.of (by omega) ?_ | ((with_reducible refine cl_f ?_); unfold clOk; simp only [hz, if_true]; omega) | ((with_reducible refine cl_t ?_); unfold clOk; simp only [hz, if_true]; omega) | ((with_reducible refine cl_d ?_); unfold clOk; simp only [hz, if_true]; omega) | simp -dsimp -implicitDefEqProofs only [go_sem, Nat.reduceBEq, Nat.reduceAdd, Nat.reduceLeDiff, Nat.reduceSub, Int.reduceEq, hz, decide_true])
end Go.Ev
set_option linter.unusedSimpArgs false
set_option linter.unusedVariables false
namespace Go.Ev
open Go Go.RowKit Go.Proofs
structure Tb where
  r : Int
  c : List Cl
def tbC (T : Nat) (x : Tb) : List AV := [.v (.int .i64 x.r), .row T 3 (ra clC x.c)]
def colL (xs : List Cl) (R i : Nat) : List Cl := (xs.take ((i + 1) * R)).drop (i * R)
theorem wrap_mul {a b : Nat} (h : a * b ≤ 9223372036854775807) : IntKind.i64.wrap ((a : Int) * (b : Int)) = ((a * b : Nat) : Int) := by
  rw [← Int.natCast_mul]; exact wrap_nat h
theorem c_column (xs : List Cl) (R i : Nat) (hR : R ≤ 100) (hi : i ≤ 1000) (h : (i + 1) * R ≤ xs.length) : Meets Try.prog 37 [.agg [.v (.int .i64 R), .rd .ent 82 3 (ra clC xs)], .v (.int .i64 i)] (fun r => r = .rd .ent 82 3 (ra clC (colL xs R i))) := by
  have hm : (i + 1) * R ≤ 1001 * 100 := Nat.mul_le_mul (by omega) hR
  have hm1 : i * R ≤ (i + 1) * R := Nat.mul_le_mul_right _ (by omega)
  refine Meets.intro mixed (hint []) Try.func37 rfl (by decide) res_37 rty_37 (by kernel_rfl) ?_; 
  simp -dsimp -implicitDefEqProofs only [go_sem, Nat.reduceBEq, Nat.reduceAdd, Nat.reduceLeDiff, Nat.reduceSub, Int.reduceEq]
  repeat (first | with_reducible refine ask.of (by omega) ?_ | simp -dsimp -implicitDefEqProofs only [go_sem, Nat.reduceBEq, Nat.reduceAdd, Nat.reduceLeDiff, Nat.reduceSub, Int.reduceEq, bleF, wrap_succ (show i < 4611686018427387904 by omega), wrap_mul (show i * R ≤ 9223372036854775807 by omega), wrap_mul (show (i + 1) * R ≤ 9223372036854775807 by omega)])
  rfl
theorem colL_length {xs : List Cl} {R i : Nat} (h : (i + 1) * R ≤ xs.length) : (colL xs R i).length = R := by
  have : (i + 1) * R = i * R + R := by rw [Nat.add_mul, Nat.one_mul]
  simp [colL]; omega
theorem colL_mem {xs : List Cl} {R i : Nat} {c : Cl} (h : c ∈ colL xs R i) : c ∈ xs := List.mem_of_mem_take (List.mem_of_mem_drop h)
theorem colL_sz {xs : List Cl} {R i : Nat} : szL clW (xs.take (i * R)) + szL clW (colL xs R i) = szL clW (xs.take ((i + 1) * R)) := by
  have hm1 : i * R ≤ (i + 1) * R := Nat.mul_le_mul_right _ (by omega)
  have e : xs.take ((i + 1) * R) = xs.take (i * R) ++ colL xs R i := by
    have := List.take_append_drop (i * R) (xs.take ((i + 1) * R))
    rw [List.take_take, Nat.min_eq_left hm1] at this
    exact this.symm
  rw [e]
  simp [szL]
def dstep (acc : List (List UInt8)) (c : Cl) : List (List UInt8) := if c.z = false ∧ c.f ∉ acc then acc ++ [c.f] else acc
def dst (xs : List Cl) : List (List UInt8) := xs.foldl dstep []
theorem dst_succ {xs : List Cl} {i : Nat} (h : i < xs.length) : dst (xs.take (i + 1)) = dstep (dst (xs.take i)) xs[i] := by
  rw [List.take_succ_eq_append_getElem h, dst, List.foldl_append]; rfl
theorem dstep_no {acc : List (List UInt8)} {c : Cl} (h : ¬ (c.z = false ∧ c.f ∉ acc)) : dstep acc c = acc := if_neg h
end Go.Ev
set_option linter.unusedSimpArgs false
set_option linter.unusedVariables false
namespace Go.Ev
open Go Go.RowKit Go.Proofs
def mpI (l : List (List UInt8 × Int)) : List (Value × Value) := mpS (l.map fun p => (p.1, .int .i64 p.2))
theorem mpI_length (l : List (List UInt8 × Int)) : (mpI l).length = l.length := by simp [mpI, mpS]
def getI : List (List UInt8 × Int) → List UInt8 → Int
  | [], _ => 0
  | p :: l, t => if p.1 = t then p.2 else getI l t
def putI : List (List UInt8 × Int) → List UInt8 → Int → List (List UInt8 × Int)
  | [], t, n => [(t, n)]
  | p :: l, t, n => if p.1 = t then (t, n) :: l else p :: putI l t n
theorem mgetI (t : List UInt8) : ∀ l : List (List UInt8 × Int), (mget (mpI l) (.string ⟨t.toArray⟩)).getD (.int .i64 0) = .int .i64 (getI l t)
  | [] => rfl
  | p :: l => by
    show (sel (kEq (.string ⟨p.1.toArray⟩) (.string ⟨t.toArray⟩)) (some (Value.int .i64 p.2)) (mget (mpI l) _)).getD (.int .i64 0) = _
    rw [kEq_str, getI]
    by_cases h : p.1 = t
    · rw [decide_eq_true h, if_pos h]; rfl
    · rw [decide_eq_false h, if_neg h]; exact mgetI t l
theorem mputI (t : List UInt8) (n : Int) : ∀ l : List (List UInt8 × Int), mput (mpI l) (.string ⟨t.toArray⟩) (.int .i64 n) = mpI (putI l t n)
  | [] => rfl
  | p :: l => by
    show sel (kEq (.string ⟨p.1.toArray⟩) (.string ⟨t.toArray⟩)) ((.string ⟨t.toArray⟩, .int .i64 n) :: mpI l) ((.string ⟨p.1.toArray⟩, .int .i64 p.2) :: mput (mpI l) _ _) = _
    rw [kEq_str, putI]
    by_cases h : p.1 = t
    · rw [decide_eq_true h, if_pos h]; rfl
    · rw [decide_eq_false h, if_neg h, mputI t n l]; rfl
theorem putI_keys (t : List UInt8) (n : Int) : ∀ l : List (List UInt8 × Int), (putI l t n).map (·.1) = if t ∈ l.map (·.1) then l.map (·.1) else l.map (·.1) ++ [t]
  | [] => rfl
  | p :: l => by
    rw [putI]
    by_cases h : p.1 = t
    · rw [if_pos h, if_pos (by simp [h])]; simp [h]
    · have ih := putI_keys t n l
      rw [if_neg h, List.map_cons, ih]
      by_cases h2 : t ∈ l.map (·.1)
      · rw [if_pos h2, if_pos (by simp only [List.map_cons, List.mem_cons]; exact .inr h2)]; rfl
      · rw [if_neg h2, if_neg (by simp only [List.map_cons, List.mem_cons]; rintro (h3 | h3); exact h h3.symm; exact h2 h3)]; rfl
theorem putI_dst {l : List (List UInt8 × Int)} {acc : List (List UInt8)} {c : Cl} (h : l.map (·.1) = acc) (hz : c.z = false) (n : Int) : (putI l c.f n).map (·.1) = dstep acc c := by
  rw [putI_keys, h]
  unfold dstep
  by_cases h2 : c.f ∈ acc
  · rw [if_pos h2, if_neg (by simp [h2])]
  · rw [if_neg h2, if_pos ⟨hz, h2⟩]
def colOk (f : Fd) (xs : List Cl) : Prop := (∀ c ∈ xs, clOk f c) ∧ (f.k = 3 → (dst xs).length ≤ 40)
def okT (fs : List Fd) (r : Int) (xs : List Cl) : Prop := okF fs ∧ (0 ≤ r ∧ r ≤ 100 ∧ (xs.length : Int) = r * fs.length) ∧ (∀ i (h : i < fs.length), colOk fs[i] (colL xs r.toNat i)) ∧ szL clW xs ≤ 4000
noncomputable def tbB (fs : List Fd) (r : Int) (xs : List Cl) : Bool := @decide (okT fs r xs) (Classical.propDecidable _)
theorem tb_f {fs : List Fd} {r : Int} {xs : List Cl} (h : ¬ okT fs r xs) : false = tbB fs r xs := (@decide_eq_false _ (Classical.propDecidable _) h).symm
theorem tb_t {fs : List Fd} {r : Int} {xs : List Cl} (h : okT fs r xs) : true = tbB fs r xs := (@decide_eq_true _ (Classical.propDecidable _) h).symm
theorem tb_d {fs : List Fd} {r : Int} {xs : List Cl} {q : Prop} [hd : Decidable q] (h : q ↔ okT fs r xs) : decide q = tbB fs r xs := by
  by_cases hq : q
  · rw [decide_eq_true hq]; exact tb_t (h.1 hq)
  · rw [decide_eq_false hq]; exact tb_f (fun h' => hq (h.2 h'))
theorem tb_w {a : Nat} {R : Nat} (h : a ≤ 12) (hR : R ≤ 100) : a * R ≤ 1200 := Nat.le_trans (Nat.mul_le_mul h hR) (by decide)
set_option maxRecDepth 4000 in
theorem c_iValidTable (fs : List Fd) (r : Int) (xs : List Cl) (hf : fs.length ≤ 1048576) (hfb : ∀ b ∈ fs, b.f.length ≤ 1048576) (hx : xs.length + szL clW xs ≤ 1048576) (hxi : ∀ c ∈ xs, i64r c.i) : Meets Try.prog 11 [rowFd 39 fs, .agg (tbC 82 ⟨r, xs⟩)] (fun v => v = .v (.bool (tbB fs r xs))) := by
  refine Meets.intro mixed (hint []) Try.func11 rfl (by decide) res_11 rty_11 (by kernel_rfl) ?_; 
  have hxb : ∀ c ∈ xs, c.f.length ≤ 1048576 := fun c hc => by have := mem_clW hc; omega
  simp -dsimp -implicitDefEqProofs only [go_sem, Nat.reduceBEq, Nat.reduceAdd, Nat.reduceLeDiff, Nat.reduceSub, Int.reduceEq, rowFd, tbC]
  refine CallE.of (c_iValidFields fs hf hfb) (by rintro r rfl; (repeat' first | exact trivial | exact pure_rowB _ | exact pure_rowO _ | exact pure_rowI _ | exact pure_rowBB _ | exact pure_rowPk _ _ | exact pure_rowSn _ _ | exact pure_rowFd _ _ | exact pure_rowBBB _ | exact pure_rowCl _ _ | exact pure_rowTb _ _ _ | refine And.intro ?_ ?_)) (by simp -dsimp -implicitDefEqProofs only [go_sem, Nat.reduceBEq, Nat.reduceAdd, Nat.reduceLeDiff, Nat.reduceSub, Int.reduceEq, rowFd]) ?_
  rintro r rfl
  simp -dsimp -implicitDefEqProofs only [go_sem, Nat.reduceBEq, Nat.reduceAdd, Nat.reduceLeDiff, Nat.reduceSub, Int.reduceEq, rowFd]
  by_cases hF : okF fs
  case neg =>
    simp -dsimp -implicitDefEqProofs only [go_sem, Nat.reduceBEq, Nat.reduceAdd, Nat.reduceLeDiff, Nat.reduceSub, Int.reduceEq, decide_eq_false hF, Bool.not_false]
    exact tb_f (fun h => hF h.1)
  have hn := hF.1
  simp -dsimp -implicitDefEqProofs only [go_sem, Nat.reduceBEq, Nat.reduceAdd, Nat.reduceLeDiff, Nat.reduceSub, Int.reduceEq, decide_eq_true hF, Bool.not_true]
  repeat (first | with_reducible refine ask.of (by omega) ?_ | simp -dsimp -implicitDefEqProofs only [go_sem, Nat.reduceBEq, Nat.reduceAdd, Nat.reduceLeDiff, Nat.reduceSub, Int.reduceEq, Bool.not_true])
  refine ifB'.of (fun h1 => ?_) (fun h1 => ?_)
  · simp -dsimp -implicitDefEqProofs only [go_sem, Nat.reduceBEq, Nat.reduceAdd, Nat.reduceLeDiff, Nat.reduceSub, Int.reduceEq]
    exact tb_f (fun h => by have := h.2.1.1; omega)
  simp -dsimp -implicitDefEqProofs only [go_sem, Nat.reduceBEq, Nat.reduceAdd, Nat.reduceLeDiff, Nat.reduceSub, Int.reduceEq]
  repeat (first | with_reducible refine ask.of (by omega) ?_ | simp -dsimp -implicitDefEqProofs only [go_sem, Nat.reduceBEq, Nat.reduceAdd, Nat.reduceLeDiff, Nat.reduceSub, Int.reduceEq, Bool.not_true])
  refine ifB'.of (fun h2 => ?_) (fun h2 => ?_)
  · simp -dsimp -implicitDefEqProofs only [go_sem, Nat.reduceBEq, Nat.reduceAdd, Nat.reduceLeDiff, Nat.reduceSub, Int.reduceEq]
    exact tb_f (fun h => by have := h.2.1.2.1; omega)
  obtain ⟨R, rfl⟩ := Int.eq_ofNat_of_zero_le (show 0 ≤ r by omega)
  have hR : R ≤ 100 := by omega
  have hnR := tb_w (a := fs.length) hn.2 hR
  have hnR' : R * fs.length ≤ 1200 := by rw [Nat.mul_comm]; exact hnR
  simp -dsimp -implicitDefEqProofs only [go_sem, Nat.reduceBEq, Nat.reduceAdd, Nat.reduceLeDiff, Nat.reduceSub, Int.reduceEq, wrap_mul (show R * fs.length ≤ 9223372036854775807 by omega)]
  repeat (first | with_reducible refine ask.of (by omega) ?_ | simp -dsimp -implicitDefEqProofs only [go_sem, Nat.reduceBEq, Nat.reduceAdd, Nat.reduceLeDiff, Nat.reduceSub, Int.reduceEq, wrap_mul (show R * fs.length ≤ 9223372036854775807 by omega)])
  refine ifB'.of (fun h3 => ?_) (fun h3 => ?_)
  case refine_2 =>
    simp -dsimp -implicitDefEqProofs only [go_sem, Nat.reduceBEq, Nat.reduceAdd, Nat.reduceLeDiff, Nat.reduceSub, Int.reduceEq]
    refine tb_f (fun h => h3 ?_)
    have := h.2.1.2.2
    rw [this, Int.natCast_mul]
  have hlen : xs.length = fs.length * R := by rw [Nat.mul_comm]; omega
  simp -dsimp -implicitDefEqProofs only [go_sem, Nat.reduceBEq, Nat.reduceAdd, Nat.reduceLeDiff, Nat.reduceSub, Int.reduceEq]
  refine LoopE.cnt fs.length (fun i s => s.env 35 = .rd .ent 39 3 (ra fdC fs) ∧ s.env 36 = .v (.int .i64 fs.length) ∧ s.env 37 = .v (.int .i64 i) ∧ s.env 3 = .ptr [3] 0 0 0 ∧ s.env 5 = .v (.int .i64 (szL clW (xs.take (i * R)) : Nat)) ∧ s.σ [3] = some (.box 44 [.v (.int .i64 R), .rd .ent 82 3 (ra clC xs)]) ∧ ∀ k (h : k < fs.length), k < i → colOk fs[k] (colL xs R k)) ⟨by simp -dsimp -implicitDefEqProofs only [go_sem, Nat.reduceBEq, Nat.reduceAdd, Nat.reduceLeDiff, Nat.reduceSub, Int.reduceEq, initE, rowFd], by simp -dsimp -implicitDefEqProofs only [go_sem, Nat.reduceBEq, Nat.reduceAdd, Nat.reduceLeDiff, Nat.reduceSub, Int.reduceEq, initE, rowFd], by simp -dsimp -implicitDefEqProofs only [go_sem, Nat.reduceBEq, Nat.reduceAdd, Nat.reduceLeDiff, Nat.reduceSub, Int.reduceEq], by simp -dsimp -implicitDefEqProofs only [go_sem, Nat.reduceBEq, Nat.reduceAdd, Nat.reduceLeDiff, Nat.reduceSub, Int.reduceEq], by simp -dsimp -implicitDefEqProofs only [go_sem, Nat.reduceBEq, Nat.reduceAdd, Nat.reduceLeDiff, Nat.reduceSub, Int.reduceEq] <;> simp [szL], by simp -dsimp -implicitDefEqProofs only [go_sem, Nat.reduceBEq, Nat.reduceAdd, Nat.reduceLeDiff, Nat.reduceSub, Int.reduceEq], fun k _ h => absurd h (by omega)⟩ ?_
  rintro i ⟨e, σ⟩ hi ⟨h35, h36, h37, h3', h5, hs, hc⟩ K hK
  simp only at h35 h36 h37 h3' h5 hs
  simp -dsimp -implicitDefEqProofs only [go_sem, Nat.reduceBEq, Nat.reduceAdd, Nat.reduceLeDiff, Nat.reduceSub, Int.reduceEq, h35, h36, h37, h3', h5, hs]
  refine ifB'.of (fun hlt => ?_) (fun hlt => ?_)
  · have hlt : i < fs.length := by omega
    have hiR : (i + 1) * R ≤ xs.length := by rw [hlen]; exact Nat.mul_le_mul_right _ (by omega)
    have hsz := colL_sz (xs := xs) (R := R) (i := i)
    have hszl : szL clW (xs.take ((i + 1) * R)) ≤ szL clW xs := szL_take_le clW xs _
    have hcl := colL_length hiR
    have hfd : fdOk fs[i] := hF.2.1 _ (List.getElem_mem _)
    simp -dsimp -implicitDefEqProofs only [go_sem, Nat.reduceBEq, Nat.reduceAdd, Nat.reduceLeDiff, Nat.reduceSub, Int.reduceEq, h35, h36, h37, h3', h5, hs, Fd_at hlt, fdC]
    repeat (first | with_reducible refine ask.of (by omega) ?_ | simp -dsimp -implicitDefEqProofs only [go_sem, Nat.reduceBEq, Nat.reduceAdd, Nat.reduceLeDiff, Nat.reduceSub, Int.reduceEq, h35, h36, h37, h3', h5, hs, Fd_at hlt, fdC, bleF])
    refine CallE.lend (c_column xs R i hR (by omega) hiR) (by simp -dsimp -implicitDefEqProofs only [go_sem, Nat.reduceBEq, Nat.reduceAdd, Nat.reduceLeDiff, Nat.reduceSub, Int.reduceEq, h35, h36, h37, h3', h5, hs]) ?_
    rintro r rfl
    simp -dsimp -implicitDefEqProofs only [go_sem, Nat.reduceBEq, Nat.reduceAdd, Nat.reduceLeDiff, Nat.reduceSub, Int.reduceEq, h35, h36, h37, h3', h5, hs]
    refine LoopE.cnt R (fun j s => s.env 35 = .rd .ent 39 3 (ra fdC fs) ∧ s.env 36 = .v (.int .i64 fs.length) ∧ s.env 37 = .v (.int .i64 i) ∧ s.env 3 = .ptr [3] 0 0 0 ∧ s.env 7 = .ptr [7] 0 0 0 ∧ s.env 8 = .ref [42] ∧ s.env 5 = .v (.int .i64 (szL clW (xs.take (i * R)) + szL clW ((colL xs R i).take j) : Nat)) ∧ s.env 45 = .rd .ent 82 3 (ra clC (colL xs R i)) ∧ s.env 46 = .v (.int .i64 R) ∧ s.env 47 = .v (.int .i64 j) ∧ s.σ [3] = some (.box 44 [.v (.int .i64 R), .rd .ent 82 3 (ra clC xs)]) ∧ s.σ [7] = some (.box 39 [.rd .ent 5 1 (bytesA fs[i].f), .v (.int .i64 fs[i].k), .v (.int .i64 fs[i].w)]) ∧
      (∃ l, s.σ [42] = some (.mp .string 3 (mpI l)) ∧ l.map (·.1) = dst ((colL xs R i).take j)) ∧ ∀ c ∈ (colL xs R i).take j, clOk fs[i] c) ⟨by simp -dsimp -implicitDefEqProofs only [go_sem, Nat.reduceBEq, Nat.reduceAdd, Nat.reduceLeDiff, Nat.reduceSub, Int.reduceEq, h35, h36, h37, h3', h5, hs], by simp -dsimp -implicitDefEqProofs only [go_sem, Nat.reduceBEq, Nat.reduceAdd, Nat.reduceLeDiff, Nat.reduceSub, Int.reduceEq, h35, h36, h37, h3', h5, hs], by simp -dsimp -implicitDefEqProofs only [go_sem, Nat.reduceBEq, Nat.reduceAdd, Nat.reduceLeDiff, Nat.reduceSub, Int.reduceEq, h35, h36, h37, h3', h5, hs], by simp -dsimp -implicitDefEqProofs only [go_sem, Nat.reduceBEq, Nat.reduceAdd, Nat.reduceLeDiff, Nat.reduceSub, Int.reduceEq, h35, h36, h37, h3', h5, hs], by simp -dsimp -implicitDefEqProofs only [go_sem, Nat.reduceBEq, Nat.reduceAdd, Nat.reduceLeDiff, Nat.reduceSub, Int.reduceEq, h35, h36, h37, h3', h5, hs], by simp -dsimp -implicitDefEqProofs only [go_sem, Nat.reduceBEq, Nat.reduceAdd, Nat.reduceLeDiff, Nat.reduceSub, Int.reduceEq, h35, h36, h37, h3', h5, hs], by simp -dsimp -implicitDefEqProofs only [go_sem, Nat.reduceBEq, Nat.reduceAdd, Nat.reduceLeDiff, Nat.reduceSub, Int.reduceEq, h35, h36, h37, h3', h5, hs] <;> simp [szL], by simp -dsimp -implicitDefEqProofs only [go_sem, Nat.reduceBEq, Nat.reduceAdd, Nat.reduceLeDiff, Nat.reduceSub, Int.reduceEq, h35, h36, h37, h3', h5, hs], by simp -dsimp -implicitDefEqProofs only [go_sem, Nat.reduceBEq, Nat.reduceAdd, Nat.reduceLeDiff, Nat.reduceSub, Int.reduceEq, h35, h36, h37, h3', h5, hs, hcl], by simp -dsimp -implicitDefEqProofs only [go_sem, Nat.reduceBEq, Nat.reduceAdd, Nat.reduceLeDiff, Nat.reduceSub, Int.reduceEq, h35, h36, h37, h3', h5, hs], by simp -dsimp -implicitDefEqProofs only [go_sem, Nat.reduceBEq, Nat.reduceAdd, Nat.reduceLeDiff, Nat.reduceSub, Int.reduceEq, h35, h36, h37, h3', h5, hs], by simp -dsimp -implicitDefEqProofs only [go_sem, Nat.reduceBEq, Nat.reduceAdd, Nat.reduceLeDiff, Nat.reduceSub, Int.reduceEq, h35, h36, h37, h3', h5, hs], ⟨[], by simp -dsimp -implicitDefEqProofs only [go_sem, Nat.reduceBEq, Nat.reduceAdd, Nat.reduceLeDiff, Nat.reduceSub, Int.reduceEq, h35, h36, h37, h3', h5, hs] <;> rfl, by simp [dst]⟩, by simp⟩ ?_
    rintro j ⟨e, σ⟩ hj ⟨h35, h36, h37, h3', h7, h8, h5, h45, h46, h47, hs, hs7, ⟨l, hs42, hlk⟩, ha⟩ K' hK'
    simp only at h35 h36 h37 h3' h7 h8 h5 h45 h46 h47 hs hs7 hs42
    simp -dsimp -implicitDefEqProofs only [go_sem, Nat.reduceBEq, Nat.reduceAdd, Nat.reduceLeDiff, Nat.reduceSub, Int.reduceEq, h35, h36, h37, h3', h7, h8, h5, h45, h46, h47, hs, hs7, hs42]
    refine ifB'.of (fun hjl => ?_) (fun hjl => ?_)
    · have hjl : j < (colL xs R i).length := by omega
      have hcm : (colL xs R i)[j].f.length ≤ 1048576 := hxb _ (colL_mem (List.getElem_mem hjl))
      have hst := szL_take_succ clW hjl
      have hsl := szL_take_le clW (colL xs R i) (j + 1)
      have hcw : clW (colL xs R i)[j] = (colL xs R i)[j].f.length := rfl
      have e1 : IntKind.i64.wrap (((szL clW (xs.take (i * R)) + szL clW ((colL xs R i).take j) : Nat) : Int) + (colL xs R i)[j].f.length) = (szL clW (xs.take (i * R)) + szL clW ((colL xs R i).take (j + 1)) : Nat) := by rw [wrap_i64_of (by omega) (by omega)]; omega
      simp -dsimp -implicitDefEqProofs only [go_sem, Nat.reduceBEq, Nat.reduceAdd, Nat.reduceLeDiff, Nat.reduceSub, Int.reduceEq, h35, h36, h37, h3', h7, h8, h5, h45, h46, h47, hs, hs7, hs42, Cl_at hjl, clC]
      repeat (first | with_reducible refine ask.of (by omega) ?_ | simp -dsimp -implicitDefEqProofs only [go_sem, Nat.reduceBEq, Nat.reduceAdd, Nat.reduceLeDiff, Nat.reduceSub, Int.reduceEq, h35, h36, h37, h3', h7, h8, h5, h45, h46, h47, hs, hs7, hs42, Cl_at hjl, clC, bleF, hcl])
      refine CallE.of (c_cellOk fs[i] (colL xs R i)[j] hfd hcm (hxi _ (colL_mem (List.getElem_mem hjl)))) (by rintro r rfl; (repeat' first | exact trivial | exact pure_rowB _ | exact pure_rowO _ | exact pure_rowI _ | exact pure_rowBB _ | exact pure_rowPk _ _ | exact pure_rowSn _ _ | exact pure_rowFd _ _ | exact pure_rowBBB _ | exact pure_rowCl _ _ | exact pure_rowTb _ _ _ | refine And.intro ?_ ?_)) (by simp -dsimp -implicitDefEqProofs only [go_sem, Nat.reduceBEq, Nat.reduceAdd, Nat.reduceLeDiff, Nat.reduceSub, Int.reduceEq, h35, h36, h37, h3', h7, h8, h5, h45, h46, h47, hs, hs7, hs42, fdC, clC]) ?_
      rintro r rfl
      simp -dsimp -implicitDefEqProofs only [go_sem, Nat.reduceBEq, Nat.reduceAdd, Nat.reduceLeDiff, Nat.reduceSub, Int.reduceEq, h35, h36, h37, h3', h7, h8, h5, h45, h46, h47, hs, hs7, hs42, fdC, clC]
      refine ifB'.of (fun hq => ?_) (fun hq => ?_)
      · simp -dsimp -implicitDefEqProofs only [go_sem, Nat.reduceBEq, Nat.reduceAdd, Nat.reduceLeDiff, Nat.reduceSub, Int.reduceEq, h35, h36, h37, h3', h7, h8, h5, h45, h46, h47, hs, hs7, hs42, Cl_at hjl, clC]
        repeat (first | with_reducible refine ask.of (by omega) ?_ | simp -dsimp -implicitDefEqProofs only [go_sem, Nat.reduceBEq, Nat.reduceAdd, Nat.reduceLeDiff, Nat.reduceSub, Int.reduceEq, h35, h36, h37, h3', h7, h8, h5, h45, h46, h47, hs, hs7, hs42, Cl_at hjl, clC, bleF, hcl, e1])
        cases hz : (colL xs R i)[j].z
        · simp -dsimp -implicitDefEqProofs only [go_sem, Nat.reduceBEq, Nat.reduceAdd, Nat.reduceLeDiff, Nat.reduceSub, Int.reduceEq, h35, h36, h37, h3', h7, h8, h5, h45, h46, h47, hs, hs7, hs42, hz, Bool.not_false]
          repeat (first | with_reducible refine ask.of (by omega) ?_ | simp -dsimp -implicitDefEqProofs only [go_sem, Nat.reduceBEq, Nat.reduceAdd, Nat.reduceLeDiff, Nat.reduceSub, Int.reduceEq, h35, h36, h37, h3', h7, h8, h5, h45, h46, h47, hs, hs7, hs42, Cl_at hjl, clC, bleF, hcl, e1, mgetI, mputI])
          refine hK' _ (by omega) ?_
          simp -dsimp -implicitDefEqProofs only [go_sem, Nat.reduceBEq, Nat.reduceAdd, Nat.reduceLeDiff, Nat.reduceSub, Int.reduceEq, h35, h36, h37, h3', h7, h8, h5, h45, h46, h47, hs, hs7, hs42, wrap_succ (show j < 4611686018427387904 by omega), e1]
          refine ⟨⟨_, rfl, ?_⟩, all_take_succ hjl ha hq⟩
          rw [dst_succ hjl]
          exact putI_dst hlk hz _
        · have hno : dstep (dst ((colL xs R i).take j)) (colL xs R i)[j] = dst ((colL xs R i).take j) := dstep_no (fun h => by rw [hz] at h; cases h.1)
          simp -dsimp -implicitDefEqProofs only [go_sem, Nat.reduceBEq, Nat.reduceAdd, Nat.reduceLeDiff, Nat.reduceSub, Int.reduceEq, h35, h36, h37, h3', h7, h8, h5, h45, h46, h47, hs, hs7, hs42, hz, Bool.not_true]
          refine hK' _ (by omega) ?_
          simp -dsimp -implicitDefEqProofs only [go_sem, Nat.reduceBEq, Nat.reduceAdd, Nat.reduceLeDiff, Nat.reduceSub, Int.reduceEq, h35, h36, h37, h3', h7, h8, h5, h45, h46, h47, hs, hs7, hs42, wrap_succ (show j < 4611686018427387904 by omega), e1]
          exact ⟨⟨_, rfl, by rw [dst_succ hjl, hno]; exact hlk⟩, all_take_succ hjl ha hq⟩
      · simp -dsimp -implicitDefEqProofs only [go_sem, Nat.reduceBEq, Nat.reduceAdd, Nat.reduceLeDiff, Nat.reduceSub, Int.reduceEq, h35, h36, h37, h3', h7, h8, h5, h45, h46, h47, hs, hs7, hs42]
        refine tb_f (fun h => hq ((h.2.2.1 i hlt).1 _ ?_))
        rw [Int.toNat_natCast]; exact List.getElem_mem _
    · have : j = R := by omega
      subst this
      have htk : (colL xs j i).take j = colL xs j i := List.take_of_length_le (by omega)
      have hall : ∀ c ∈ colL xs j i, clOk fs[i] c := by rw [htk] at ha; exact ha
      have hsum : szL clW (xs.take (i * j)) + szL clW ((colL xs j i).take j) = szL clW (xs.take ((i + 1) * j)) := by rw [htk]; exact hsz
      have hll : l.length = (dst (colL xs j i)).length := by rw [← htk, ← hlk]; simp
      simp -dsimp -implicitDefEqProofs only [go_sem, Nat.reduceBEq, Nat.reduceAdd, Nat.reduceLeDiff, Nat.reduceSub, Int.reduceEq, h35, h36, h37, h3', h7, h8, h5, h45, h46, h47, hs, hs7, hs42, hsum]
      repeat (first | with_reducible refine ask.of (by omega) ?_ | simp -dsimp -implicitDefEqProofs only [go_sem, Nat.reduceBEq, Nat.reduceAdd, Nat.reduceLeDiff, Nat.reduceSub, Int.reduceEq, h35, h36, h37, h3', h7, h8, h5, h45, h46, h47, hs, hs7, hs42, bleF])
      refine ifB'.of (fun hk => ?_) (fun hk => ?_)
      · simp -dsimp -implicitDefEqProofs only [go_sem, Nat.reduceBEq, Nat.reduceAdd, Nat.reduceLeDiff, Nat.reduceSub, Int.reduceEq, h35, h36, h37, h3', h7, h8, h5, h45, h46, h47, hs, hs7, hs42, mpI_length]
        refine ifB'.of (fun hy => ?_) (fun hy => ?_)
        · simp -dsimp -implicitDefEqProofs only [go_sem, Nat.reduceBEq, Nat.reduceAdd, Nat.reduceLeDiff, Nat.reduceSub, Int.reduceEq, h35, h36, h37, h3', h7, h8, h5, h45, h46, h47, hs, hs7, hs42]
          refine tb_f (fun h => ?_)
          have h9 := (h.2.2.1 i hlt).2 hk
          rw [Int.toNat_natCast] at h9
          omega
        · simp -dsimp -implicitDefEqProofs only [go_sem, Nat.reduceBEq, Nat.reduceAdd, Nat.reduceLeDiff, Nat.reduceSub, Int.reduceEq, h35, h36, h37, h3', h7, h8, h5, h45, h46, h47, hs, hs7, hs42]
          refine hK _ hlt ?_
          simp -dsimp -implicitDefEqProofs only [go_sem, Nat.reduceBEq, Nat.reduceAdd, Nat.reduceLeDiff, Nat.reduceSub, Int.reduceEq, h35, h36, h37, h3', h7, h8, h5, h45, h46, h47, hs, hs7, hs42, wrap_succ (show i < 4611686018427387904 by omega), hsum]
          intro k hkf hki
          by_cases hke : k = i
          · subst hke
            exact ⟨hall, fun _ => by omega⟩
          · exact hc k hkf (by omega)
      · simp -dsimp -implicitDefEqProofs only [go_sem, Nat.reduceBEq, Nat.reduceAdd, Nat.reduceLeDiff, Nat.reduceSub, Int.reduceEq, h35, h36, h37, h3', h7, h8, h5, h45, h46, h47, hs, hs7, hs42]
        refine hK _ hlt ?_
        simp -dsimp -implicitDefEqProofs only [go_sem, Nat.reduceBEq, Nat.reduceAdd, Nat.reduceLeDiff, Nat.reduceSub, Int.reduceEq, h35, h36, h37, h3', h7, h8, h5, h45, h46, h47, hs, hs7, hs42, wrap_succ (show i < 4611686018427387904 by omega), hsum]
        intro k hkf hki
        by_cases hke : k = i
        · subst hke
          exact ⟨hall, fun h' => absurd h' hk⟩
        · exact hc k hkf (by omega)
  · have : i = fs.length := by omega
    subst this
    simp -dsimp -implicitDefEqProofs only [go_sem, Nat.reduceBEq, Nat.reduceAdd, Nat.reduceLeDiff, Nat.reduceSub, Int.reduceEq, h35, h36, h37, h3', h5, hs]
    rw [← hlen, List.take_length]
    refine tb_d ⟨fun h => ⟨hF, ⟨by omega, by omega, by rw [hlen, Int.natCast_mul, Int.mul_comm]⟩, fun k hk => by rw [Int.toNat_natCast]; exact hc k hk hk, by omega⟩, fun h => by have := h.2.2.2; omega⟩
end Go.Ev
set_option linter.unusedSimpArgs false
set_option linter.unusedVariables false
namespace Go.Ev
open Go Go.RowKit Go.Proofs
def ev (n : Nat) : Nat := (n + 7) / 8 * 8
theorem ev_mod (n : Nat) : ev n % 8 = 0 := by unfold ev; omega
theorem joinA_pad (xs : List (List UInt8)) : ∀ i, i ≤ xs.length → (joinA (xs.take i)).length = szL (fun x => ev x.length) (xs.take i)
  | 0, _ => by simp [joinA, szL]
  | i + 1, h => by
    have ih := joinA_pad xs i (by omega)
    rw [joinA_take (by omega), pad8_length, List.length_append, szL_take_succ _ (by omega), ih]
    have hm : szL (fun x : List UInt8 => ev x.length) (xs.take i) % 8 = 0 := by
      have : ∀ ys : List (List UInt8), szL (fun x : List UInt8 => ev x.length) ys % 8 = 0 := fun ys => by
        induction ys with
        | nil => rfl
        | cons y ys ih => simp only [szL, List.map_cons, List.sum_cons] at ih ⊢; have := ev_mod y.length; omega
      exact this _
    generalize szL (fun x : List UInt8 => ev x.length) (xs.take i) = t at *
    simp only [padN, ev]
    omega
theorem joinA_len2 (xs : List (List UInt8)) : (joinA xs).length = szL (fun x => ev x.length) xs := by
  have := joinA_pad xs xs.length (Nat.le_refl _)
  rwa [List.take_length] at this
end Go.Ev
set_option linter.unusedSimpArgs false
set_option linter.unusedVariables false
namespace Go.Ev
open Go Go.RowKit Go.Proofs
def tk0 (c : List UInt8) : Nat := (c.getD 0 0).toNat
theorem c_take0 (c : List UInt8) (hb : c.length ≤ 1048576) : Meets Try.prog 5 [rowB c, .v (.int .i64 0)] (fun r => r = .v (.int .i64 (tk0 c : Nat))) := by
  refine Meets.intro mixed (hint []) Try.func5 rfl (by decide) res_5 rty_5 (by kernel_rfl) ?_; 
  simp -dsimp -implicitDefEqProofs only [go_sem, Nat.reduceBEq, Nat.reduceAdd, Nat.reduceLeDiff, Nat.reduceSub, Int.reduceEq, initE]
  refine ifB'.of (fun h => ?_) (fun h => ?_)
  · have h : c = [] := List.eq_nil_of_length_eq_zero (by omega)
    subst h
    simp -dsimp -implicitDefEqProofs only [go_sem, Nat.reduceBEq, Nat.reduceAdd, Nat.reduceLeDiff, Nat.reduceSub, Int.reduceEq]
    rfl
  · have hl : 0 < c.length := by omega
    have e0 : IntKind.i64.wrap 0 = 0 := rfl
    have e1 : tk0 c = c[0].toNat := by unfold tk0; simp [hl]
    have ha : (bytesA c)[(0 : Int).toNat]? = some [.v (.int .u8 c[0].toNat)] := bytesA_at hl
    have ha' : (bytesA c)[0]? = some [.v (.int .u8 c[0].toNat)] := bytesA_at hl
    have ew : IntKind.i64.wrap (c[0].toNat : Int) = (c[0].toNat : Int) := by have := c[0].toNat_lt; rw [wrap_i64_of (by omega) (by omega)]
    repeat (first | with_reducible refine ask.of (by first | omega | decide) ?_ | simp -dsimp -implicitDefEqProofs only [go_sem, Nat.reduceBEq, Nat.reduceAdd, Nat.reduceLeDiff, Nat.reduceSub, Int.reduceEq, Int.zero_tmod, e0, ha, ha', ew, e1])
    try rw [e1]
theorem c_sameB (bs : List UInt8) (hb : bs.length ≤ 8388608) : Meets Try.prog 63 [rowB bs, rowB bs] (fun r => r = .v (.bool true)) := by
  refine Meets.intro mixed (hint []) Try.func63 rfl (by decide) res_63 rty_63 (by kernel_rfl) ?_; 
  simp -dsimp -implicitDefEqProofs only [go_sem, Nat.reduceBEq, Nat.reduceAdd, Nat.reduceLeDiff, Nat.reduceSub, Int.reduceEq, decide_true, Bool.not_true]
  refine LoopE.cnt bs.length (fun i s => s.env 0 = .rd .ent 5 1 (bytesA bs) ∧ s.env 1 = .rd .ent 5 1 (bytesA bs) ∧ s.env 5 = .v (.int .i64 i)) ⟨by simp -dsimp -implicitDefEqProofs only [go_sem, Nat.reduceBEq, Nat.reduceAdd, Nat.reduceLeDiff, Nat.reduceSub, Int.reduceEq, initE], by simp -dsimp -implicitDefEqProofs only [go_sem, Nat.reduceBEq, Nat.reduceAdd, Nat.reduceLeDiff, Nat.reduceSub, Int.reduceEq, initE], by simp -dsimp -implicitDefEqProofs only [go_sem, Nat.reduceBEq, Nat.reduceAdd, Nat.reduceLeDiff, Nat.reduceSub, Int.reduceEq] <;> simp⟩ ?_
  rintro i ⟨e, σ⟩ hi ⟨h0, h1, h5⟩ K hK
  simp only at h0 h1 h5
  simp -dsimp -implicitDefEqProofs only [go_sem, Nat.reduceBEq, Nat.reduceAdd, Nat.reduceLeDiff, Nat.reduceSub, Int.reduceEq, h0, h1, h5]
  refine ifB'.of (fun hlt => ?_) (fun hlt => ?_)
  · have hlt : i < bs.length := by omega
    simp -dsimp -implicitDefEqProofs only [go_sem, Nat.reduceBEq, Nat.reduceAdd, Nat.reduceLeDiff, Nat.reduceSub, Int.reduceEq, h0, h1, h5, bytesA_at hlt]
    repeat with_reducible refine ask.of (by omega) ?_
    simp -dsimp -implicitDefEqProofs only [go_sem, Nat.reduceBEq, Nat.reduceAdd, Nat.reduceLeDiff, Nat.reduceSub, Int.reduceEq, h0, h1, h5, decide_true, Bool.not_true]
    refine hK _ hlt ?_
    simp -dsimp -implicitDefEqProofs only [go_sem, Nat.reduceBEq, Nat.reduceAdd, Nat.reduceLeDiff, Nat.reduceSub, Int.reduceEq, h0, h1, h5, wrap_succ (show i < 4611686018427387904 by omega)]
  · simp -dsimp -implicitDefEqProofs only [go_sem, Nat.reduceBEq, Nat.reduceAdd, Nat.reduceLeDiff, Nat.reduceSub, Int.reduceEq, h0, h1, h5]
set_option maxRecDepth 8000 in
set_option maxHeartbeats 2000000 in
theorem c_samePacket (p : Pk) (hb : p.f.length ≤ 1048576) : Meets Try.prog 34 [.agg (pkC p), .agg (pkC p)] (fun r => r = .v (.bool true)) := by
  refine Meets.intro mixed (hint []) Try.func34 rfl (by decide) res_34 rty_34 (by kernel_rfl) ?_; 
  simp -dsimp -implicitDefEqProofs only [go_sem, Nat.reduceBEq, Nat.reduceAdd, Nat.reduceLeDiff, Nat.reduceSub, Int.reduceEq, pkC, decide_true]
  repeat with_reducible refine ask.of (by omega) ?_
  repeat (first | with_reducible refine ask.of (by omega) ?_ | simp -dsimp -implicitDefEqProofs only [go_sem, Nat.reduceBEq, Nat.reduceAdd, Nat.reduceLeDiff, Nat.reduceSub, Int.reduceEq, bleR, decide_true])
  refine CallE.of (c_sameB p.f (by omega)) (by rintro r rfl; (repeat' first | exact trivial | exact pure_rowB _ | exact pure_rowO _ | exact pure_rowI _ | exact pure_rowBB _ | exact pure_rowPk _ _ | exact pure_rowSn _ _ | exact pure_rowFd _ _ | exact pure_rowBBB _ | exact pure_rowCl _ _ | exact pure_rowTb _ _ _ | refine And.intro ?_ ?_)) (by simp -dsimp -implicitDefEqProofs only [go_sem, Nat.reduceBEq, Nat.reduceAdd, Nat.reduceLeDiff, Nat.reduceSub, Int.reduceEq, Bool.not_true]) ?_
  rintro r rfl
  simp -dsimp -implicitDefEqProofs only [go_sem, Nat.reduceBEq, Nat.reduceAdd, Nat.reduceLeDiff, Nat.reduceSub, Int.reduceEq, Bool.not_true]
set_option maxRecDepth 8000 in
set_option maxHeartbeats 2000000 in
theorem c_sameOut (x : LO) (hx : x.h.length ≤ 1048576) (hb : ∀ b ∈ x.h, b.p.f.length ≤ 1048576) : Meets Try.prog 8 [.agg (loC 73 x), .agg (loC 73 x)] (fun r => r = .v (.bool true)) := by
  refine Meets.introO mixed (hint []) (fun k => (sel (k == 6) [0,1,2,3,4,5,6,7,8,9,10,11,12,13,14,15,16,17,18,19,20,21,22,23,24,25,26,27,28] [])) Try.func8 rfl (by decide) res_8 rty_8 (by kernel_rfl) ?_; 
  simp -dsimp -implicitDefEqProofs only [go_sem, Nat.reduceBEq, Nat.reduceAdd, Nat.reduceLeDiff, Nat.reduceSub, Int.reduceEq, loC, decide_true]
  repeat (first | with_reducible refine ask.of (by first | omega | decide) ?_ | simp -dsimp -implicitDefEqProofs only [go_sem, Nat.reduceBEq, Nat.reduceAdd, Nat.reduceLeDiff, Nat.reduceSub, Int.reduceEq, bleR, bl4, decide_true, Bool.not_true])
  refine LoopE.cnt x.h.length (fun i s => s.env 2 = .ptr [2] 0 0 0 ∧ s.env 3 = .ptr [3] 0 0 0 ∧ s.env 5 = .v (.int .i64 i) ∧ s.σ [2] = some (.box 30 [.v (.int .i64 x.a), .v (.int .i64 x.b), .v (.int .i64 x.c), .rd .ent 73 7 (ra snC x.h)]) ∧ s.σ [3] = some (.box 30 [.v (.int .i64 x.a), .v (.int .i64 x.b), .v (.int .i64 x.c), .rd .ent 73 7 (ra snC x.h)])) ⟨by simp -dsimp -implicitDefEqProofs only [go_sem, Nat.reduceBEq, Nat.reduceAdd, Nat.reduceLeDiff, Nat.reduceSub, Int.reduceEq], by simp -dsimp -implicitDefEqProofs only [go_sem, Nat.reduceBEq, Nat.reduceAdd, Nat.reduceLeDiff, Nat.reduceSub, Int.reduceEq], by simp -dsimp -implicitDefEqProofs only [go_sem, Nat.reduceBEq, Nat.reduceAdd, Nat.reduceLeDiff, Nat.reduceSub, Int.reduceEq] <;> simp, by simp -dsimp -implicitDefEqProofs only [go_sem, Nat.reduceBEq, Nat.reduceAdd, Nat.reduceLeDiff, Nat.reduceSub, Int.reduceEq], by simp -dsimp -implicitDefEqProofs only [go_sem, Nat.reduceBEq, Nat.reduceAdd, Nat.reduceLeDiff, Nat.reduceSub, Int.reduceEq]⟩ ?_
  rintro i ⟨e, σ⟩ hi ⟨h2, h3, h5, hs2, hs3⟩ K hK
  simp only at h2 h3 h5 hs2 hs3
  simp -dsimp -implicitDefEqProofs only [go_sem, Nat.reduceBEq, Nat.reduceAdd, Nat.reduceLeDiff, Nat.reduceSub, Int.reduceEq, h2, h3, h5, hs2, hs3, bl4]
  repeat (first | with_reducible refine ask.of (by first | omega | decide) ?_ | simp -dsimp -implicitDefEqProofs only [go_sem, Nat.reduceBEq, Nat.reduceAdd, Nat.reduceLeDiff, Nat.reduceSub, Int.reduceEq, h2, h3, h5, hs2, hs3, bleR, bl4])
  refine ifB'.of (fun hlt => ?_) (fun hlt => ?_)
  · have hlt : i < x.h.length := by omega
    have hA : (ra snC x.h)[i]? = some (snC x.h[i]) := ra_at hlt
    repeat (first | with_reducible refine ask.of (by first | omega | decide) ?_ | simp -dsimp -implicitDefEqProofs only [go_sem, Nat.reduceBEq, Nat.reduceAdd, Nat.reduceLeDiff, Nat.reduceSub, Int.reduceEq, h2, h3, h5, hs2, hs3, bleR, bl4, bl67, hA, snC, decide_true, Bool.not_true])
    refine CallE.of (c_samePacket x.h[i].p (hb _ (List.getElem_mem _))) (by rintro r rfl; (repeat' first | exact trivial | exact pure_rowB _ | exact pure_rowO _ | exact pure_rowI _ | exact pure_rowBB _ | exact pure_rowPk _ _ | exact pure_rowSn _ _ | exact pure_rowFd _ _ | exact pure_rowBBB _ | exact pure_rowCl _ _ | exact pure_rowTb _ _ _ | refine And.intro ?_ ?_)) (by simp -dsimp -implicitDefEqProofs only [go_sem, Nat.reduceBEq, Nat.reduceAdd, Nat.reduceLeDiff, Nat.reduceSub, Int.reduceEq, h2, h3, h5, hs2, hs3, pkC]) ?_
    rintro r rfl
    simp -dsimp -implicitDefEqProofs only [go_sem, Nat.reduceBEq, Nat.reduceAdd, Nat.reduceLeDiff, Nat.reduceSub, Int.reduceEq, h2, h3, h5, hs2, hs3, pkC]
    repeat (first | with_reducible refine ask.of (by first | omega | decide) ?_ | simp -dsimp -implicitDefEqProofs only [go_sem, Nat.reduceBEq, Nat.reduceAdd, Nat.reduceLeDiff, Nat.reduceSub, Int.reduceEq, h2, h3, h5, hs2, hs3, bleR, bl4, decide_true, Bool.not_true])
    refine hK _ hlt ?_
    simp -dsimp -implicitDefEqProofs only [go_sem, Nat.reduceBEq, Nat.reduceAdd, Nat.reduceLeDiff, Nat.reduceSub, Int.reduceEq, h2, h3, h5, hs2, hs3, wrap_succ (show i < 4611686018427387904 by omega)]
  · simp -dsimp -implicitDefEqProofs only [go_sem, Nat.reduceBEq, Nat.reduceAdd, Nat.reduceLeDiff, Nat.reduceSub, Int.reduceEq, h2, h3, h5, hs2, hs3]
end Go.Ev
set_option linter.unusedSimpArgs false
set_option linter.unusedVariables false
namespace Go.Ev
open Go Go.RowKit Go.Proofs
def zB (n : Nat) : List UInt8 := List.replicate n 0
theorem zB_len (n : Nat) : (zB n).length = n := List.length_replicate
theorem wBB_one (b : List UInt8) : wBB [b] = b.length := by simp [wBB, szL]
theorem msBody_length (x : Ms) : (msBody x).length = 12 + (joinA (lensB x.bs :: x.bs)).length := by
  unfold msBody
  rw [sumB_length]
  simp [wBB, szL, headB]
  omega
theorem fb_ms (d : Nat) : (msBody ⟨4, 0, 0, [zB (19975 + d)]⟩).length = 20 + (19975 + d + 7) / 8 * 8 := by
  rw [msBody_length, joinA_len2]
  show 12 + szL (fun x => ev x.length) [lensB [zB (19975 + d)], zB (19975 + d)] = _
  have h1 : szL (fun x : List UInt8 => ev x.length) [lensB [zB (19975 + d)], zB (19975 + d)] = ev (lensB [zB (19975 + d)]).length + (ev (zB (19975 + d)).length + 0) := rfl
  rw [h1, lensB_length, zB_len]
  unfold ev
  simp only [List.length_cons, List.length_nil]
  omega
theorem fb_msg {d : Nat} (hd : d < 2) : 0 < (encM ⟨4, 0, 0, [zB (19975 + d)]⟩).length := by
  have h := fb_ms d
  rw [encM_yes]
  · omega
  · refine ⟨⟨(by decide : (1 : Int) ≤ 4), (by decide : (4 : Int) ≤ 4), (by decide : (0 : Int) ≤ 0), (by decide : (0 : Int) < 12), (by decide : (0 : Int) ≤ 0), (by decide : (0 : Int) ≤ 1000), (by decide : (1 : Nat) ≤ 40), .inl rfl⟩, ?_, by omega⟩
    show wBB [zB (19975 + d)] ≤ 20000
    rw [wBB_one, zB_len]; omega
theorem fb_msg2 : (encM ⟨4, 0, 0, [zB 19977]⟩).length = 0 := by
  have h := fb_ms 2
  rw [encM_no]
  · rfl
  · intro h2
    have h3 : (msBody ⟨4, 0, 0, [zB 19977]⟩).length ≤ 20000 := h2.2.2
    have h4 : (msBody ⟨4, 0, 0, [zB 19977]⟩).length = 20 + (19975 + 2 + 7) / 8 * 8 := h
    omega
def oZ : LO := ⟨1, 0, 0, []⟩
theorem oZ_ok : okLO oZ := ⟨by refine ⟨by decide, by decide, by decide, by decide, by decide, by decide, by decide⟩, fun i h => by cases h⟩
def oN (d : Nat) : LO := ⟨1, 200, 0, pushS oZ (zB (19999 + d)) 200⟩
theorem oN_len (d : Nat) : (oN d).h.length = 200 := pushS_len _ _ _
theorem pcN_z (n : Nat) : pcN (zB n) = (n + 99) / 100 := by unfold pcN; rw [zB_len]
theorem fb_push {d : Nat} (hd : d < 2) : pushL oZ (zB (19999 + d)) = (oN d, 0) := by
  have hp : pcN (zB (19999 + d)) = 200 := by rw [pcN_z]; omega
  have h0 : oZ.h.length = 0 := rfl
  have h1 : oZ.b = 0 := rfl
  have h := pushL_yes (x := oZ) (msg := zB (19999 + d)) ⟨oZ_ok, by rw [zB_len]; omega, by rw [zB_len]; omega⟩ (by omega) (by omega)
  rw [h, hp]
  rfl
theorem fb_push2 : pushL oZ (zB 20001) = (lo0, 1) := pushL_no fun h => by have := h.2.2; rw [zB_len] at this; omega
theorem oN_at (d i : Nat) (h : i < (oN d).h.length) : (oN d).h[i] = pushSn oZ (zB (19999 + d)) i := by simp [oN, pushS]
theorem oN_ok {d : Nat} (hd : d < 2) : okLO (oN d) := by
  refine ⟨⟨(by decide : (1 : Int) ≤ 1), (by decide : (1 : Int) ≤ 1000000000), (by decide : (0 : Int) ≤ 200), (by decide : (200 : Int) ≤ 1000000000000), (by decide : (0 : Int) ≤ 0), (by decide : (0 : Int) ≤ 1000000000), by rw [oN_len]; omega⟩, fun i h => ?_⟩
  have h' := h
  rw [oN_len] at h'
  unfold loAt
  rw [oN_at, oN_len]
  have hl : (pieceL (zB (19999 + d)) i).length = min 100 (19999 + d - 100 * i) := by unfold pieceL; rw [List.length_take, List.length_drop, zB_len]
  refine ⟨?_, rfl, rfl, ?_, (by decide : (-1 : Int) ≤ -1), (by decide : (-1 : Int) ≤ 0)⟩
  · unfold okPk
    refine ⟨(by decide : (1 : Int) ≤ 1), (by decide : (1 : Int) ≤ 4), (by decide : (1 : Int) ≤ 1), (by decide : (1 : Int) ≤ 1000000000), ?_, ?_, (by decide : (0 : Int) ≤ 0), (by decide : (0 : Int) ≤ 1000000000), .inr ⟨rfl, ?_, ?_, ?_⟩, .inl rfl, .inl (by decide : ¬ (1 : Int) = 3), .inl (by decide : ¬ (1 : Int) = 4)⟩
    · show 0 ≤ (0 : Int) + i; omega
    · show (0 : Int) + i ≤ 1000000000000; omega
    · show (0 : Int) + i < 1000000000000; omega
    · show 1 ≤ (pieceL (zB (19999 + d)) i).length; omega
    · show (pieceL (zB (19999 + d)) i).length ≤ 100; omega
  · show (0 : Int) + i = 200 - (200 : Nat) + i; omega
theorem oN_b (d : Nat) : (oN d).h.length ≤ 1048576 ∧ ∀ b ∈ (oN d).h, b.p.f.length ≤ 1048576 := by
  refine ⟨by rw [oN_len]; omega, fun b hb => ?_⟩
  obtain ⟨i, hi, rfl⟩ := List.mem_iff_getElem.1 hb
  rw [oN_at]
  show (pieceL _ _).length ≤ _
  unfold pieceL
  rw [List.length_take]; omega
theorem fb_third {d : Nat} (hd : d < 2) : (pushL (oN d) (zB 10000)).2 = 0 := by
  have hp : pcN (zB 10000) = 100 := by rw [pcN_z]
  have h0 := oN_len d
  have h1 : (oN d).b = 200 := rfl
  rw [pushL_yes ⟨oN_ok hd, by rw [zB_len]; omega, by rw [zB_len]; omega⟩ (by omega) (by omega)]
theorem fb_fourth {d : Nat} (hd : d < 2) : pushL (oN d) (zB 10001) = (oN d, 2) := by
  have hp : pcN (zB 10001) = 101 := by rw [pcN_z]
  have h0 := oN_len d
  exact pushL_full ⟨oN_ok hd, by rw [zB_len]; omega, by rw [zB_len]; omega⟩ (by omega)
theorem fb_pk {d : Nat} (hd : d < 2) : 0 < (encP ⟨1, 1, 0, 0, false, zB (99 + d)⟩).length := by
  unfold encP
  rw [if_pos, sumB_length]
  · omega
  · refine decide_eq_true ?_
    unfold okPk
    refine ⟨(by decide : (1 : Int) ≤ 1), (by decide : (1 : Int) ≤ 4), (by decide : (1 : Int) ≤ 1), (by decide : (1 : Int) ≤ 1000000000), (by decide : (0 : Int) ≤ 0), (by decide : (0 : Int) ≤ 1000000000000), (by decide : (0 : Int) ≤ 0), (by decide : (0 : Int) ≤ 1000000000), .inr ⟨rfl, (by decide : (0 : Int) < 1000000000000), ?_, ?_⟩, .inl rfl, .inl (by decide : ¬ (1 : Int) = 3), .inl (by decide : ¬ (1 : Int) = 4)⟩
    · show 1 ≤ (zB (99 + d)).length; rw [zB_len]; omega
    · show (zB (99 + d)).length ≤ 100; rw [zB_len]; omega
theorem fb_pk2 : (encP ⟨1, 1, 0, 0, false, zB 101⟩).length = 0 := by
  unfold encP
  rw [if_neg]
  · rfl
  · intro h
    have h : okPk ⟨1, 1, 0, 0, false, zB 101⟩ := of_decide_eq_true h
    have h2 : ¬ (1 : Int) = 1 ∨ (0 : Int) = 0 ∧ (0 : Int) < 1000000000000 ∧ 1 ≤ (zB 101).length ∧ (zB 101).length ≤ 100 := h.2.2.2.2.2.2.2.2.1
    rw [zB_len] at h2
    omega
def dv (n : Nat) : List (List UInt8) := (List.range n).map fun i => [UInt8.ofNat i]
theorem dv_succ (n : Nat) : dv n ++ [[UInt8.ofNat n]] = dv (n + 1) := by simp [dv, List.range_succ]
theorem dv_len (n : Nat) : (dv n).length = n := by simp [dv]
theorem wBB_dv (n : Nat) : wBB (dv n) = n := by
  induction n with
  | zero => rfl
  | succ n ih => rw [← dv_succ]; simp [wBB, szL] at ih ⊢; omega
theorem dv_nodup {n : Nat} (h : n ≤ 256) : (dv n).Nodup := by
  unfold List.Nodup
  rw [List.pairwise_iff_getElem]
  intro i j hi hj hij e
  rw [dv_len] at hi hj
  have e1 : UInt8.ofNat i = UInt8.ofNat j := by simpa [dv] using e
  have e2 := congrArg UInt8.toNat e1
  simp at e2
  omega
theorem fb_dict {d : Nat} (hd : d < 2) : decide (okD (dv (39 + d))) = true := decide_eq_true ⟨by rw [dv_len]; omega, by rw [wBB_dv]; omega, dv_nodup (by omega)⟩
theorem fb_dict2 : decide (okD (dv 41)) = false := decide_eq_false fun h => by have := h.1; rw [dv_len] at this; omega
def fbF : List Fd := [⟨[97], 0, 0⟩]
theorem szL_rep (n : Nat) : szL clW (List.replicate n cl0) = 0 := by
  induction n with
  | zero => rfl
  | succ n ih => rw [List.replicate_succ]; simp [szL, clW, cl0] at ih ⊢
theorem fb_tab {d : Nat} (hd : d < 2) : tbB fbF ((99 + d : Nat) : Int) (List.replicate (99 + d) cl0) = true := by
  refine (tb_t ⟨by decide, ⟨by omega, by omega, ?_⟩, fun i h => ?_, by rw [szL_rep]; omega⟩).symm
  · rw [List.length_replicate]
    show ((99 + d : Nat) : Int) = ((99 + d : Nat) : Int) * ((1 : Nat) : Int)
    omega
  · have hi : i = 0 := by have : i < 1 := h; omega
    subst hi
    refine ⟨fun c hc => ?_, fun h => by cases h⟩
    have hc : c = cl0 := List.eq_of_mem_replicate (colL_mem hc)
    rw [hc]
    show clOk ⟨[97], 0, 0⟩ cl0
    decide
theorem clA_zeros (n : Nat) : List.replicate n [AV.v (.bool false), AV.v (.int .i64 0), AV.row 5 1 []] = ra clC (List.replicate n cl0) := by simp [ra, clC, cl0, bytesA]
end Go.Ev
set_option linter.unusedSimpArgs false
set_option linter.unusedVariables false
namespace Go.Ev
open Go Go.RowKit Go.Proofs
theorem raN {α : Type} (enc : α → List AV) : ra enc [] = [] := rfl
theorem u8_nat {i : Nat} (h : i < 256) : IntKind.u8.wrap (i : Int) = ((UInt8.ofNat i).toNat : Int) := by
  have e : (UInt8.ofNat i).toNat = i := by simp; omega
  rw [e, IntKind.wrap_u8]; omega
theorem byA_snoc1 (xs : List (List UInt8)) (b : UInt8) : ra byC xs ++ [[.row 5 1 [[AV.v (.int .u8 (b.toNat : Int))]]]] = ra byC (xs ++ [[b]]) := byA_snoc xs [b]
theorem bl3f : Nat.ble 1 3 = true ∧ Nat.ble 2 3 = true ∧ Nat.ble 3 3 = true ∧ Nat.ble 1 2 = true ∧ Nat.ble 2 2 = true := ⟨rfl, rfl, rfl, rfl, rfl⟩
theorem b97 : bytesA [97] = [[AV.v (.int .u8 97)]] := rfl
theorem raF1 (x : Fd) : ra fdC [x] = [fdC x] := rfl
theorem tmd3 (n : Nat) : (n : Int).tmod 3 = ((n % 3 : Nat) : Int) := rfl
set_option maxRecDepth 8000 in
set_option maxHeartbeats 4000000 in
theorem c_FnBound (code : List UInt8) : Meets Try.prog 3 [rowB code] (fun r => r = .v (.bool true)) := by
  refine Meets.introO mixed (hint [(16, 124)]) (fun k => (sel (k == 16) [999,0,1,2,1008,3,4,5,6,7,8,9,10] (sel (k == 17) [999,0,1,2,3,1009,4,5,6,7,8,9,10,11] []))) Try.func3 rfl (by decide) res_3 rty_3 (by kernel_rfl) ?_; 
  simp -dsimp -implicitDefEqProofs only [go_sem, Nat.reduceBEq, Nat.reduceAdd, Nat.reduceLeDiff, Nat.reduceSub, Int.reduceEq, initE]
  refine ifB'.of (fun h => ?_) (fun h => ?_)
  · simp -dsimp -implicitDefEqProofs only [go_sem, Nat.reduceBEq, Nat.reduceAdd, Nat.reduceLeDiff, Nat.reduceSub, Int.reduceEq]
  have hb : code.length ≤ 1048576 := by omega
  simp -dsimp -implicitDefEqProofs only [go_sem, Nat.reduceBEq, Nat.reduceAdd, Nat.reduceLeDiff, Nat.reduceSub, Int.reduceEq, initE]
  refine CallE.of (c_take0 code hb) (by rintro r rfl; (repeat' first | exact trivial | exact pure_rowB _ | exact pure_rowO _ | exact pure_rowI _ | exact pure_rowBB _ | exact pure_rowPk _ _ | exact pure_rowSn _ _ | exact pure_rowFd _ _ | exact pure_rowBBB _ | exact pure_rowCl _ _ | exact pure_rowTb _ _ _ | refine And.intro ?_ ?_)) (by simp -dsimp -implicitDefEqProofs only [go_sem, Nat.reduceBEq, Nat.reduceAdd, Nat.reduceLeDiff, Nat.reduceSub, Int.reduceEq]) ?_
  rintro r rfl
  simp -dsimp -implicitDefEqProofs only [go_sem, Nat.reduceBEq, Nat.reduceAdd, Nat.reduceLeDiff, Nat.reduceSub, Int.reduceEq]
  have hd3 : tk0 code % 3 < 3 := Nat.mod_lt _ (by decide)
  have et := tmd3 (tk0 code)
  generalize tk0 code % 3 = d at *
  have ew : IntKind.i64.wrap (d : Int) = (d : Int) := wrap_i64_of (by omega) (by omega)
  have w1 : IntKind.i64.wrap (19975 + (d : Int)) = ((19975 + d : Nat) : Int) := by rw [wrap_i64_of (by omega) (by omega)]; omega
  have w2 : IntKind.i64.wrap (19999 + (d : Int)) = ((19999 + d : Nat) : Int) := by rw [wrap_i64_of (by omega) (by omega)]; omega
  have w3 : IntKind.i64.wrap (99 + (d : Int)) = ((99 + d : Nat) : Int) := by rw [wrap_i64_of (by omega) (by omega)]; omega
  have w4 : IntKind.i64.wrap (39 + (d : Int)) = ((39 + d : Nat) : Int) := by rw [wrap_i64_of (by omega) (by omega)]; omega
  by_cases hd : d < 2
  · have e4 : decide ((d : Int) < 2) = true := decide_eq_true (by omega)
    have m5 : IntKind.i64.wrap (100 * 100) = 10000 := by decide
    have m6 : IntKind.i64.wrap (10000 + 1) = 10001 := by decide
    have n5 : (10000 : Int).toNat = 10000 := rfl
    have n6 : (10001 : Int).toNat = 10001 := rfl
    repeat (first | with_reducible refine ask.of (by first | omega | decide) ?_ | simp -dsimp -implicitDefEqProofs only [go_sem, Nat.reduceBEq, Nat.reduceAdd, Nat.reduceLeDiff, Nat.reduceSub, Int.reduceEq, et, ew, w1, w2, w3, w4, e4, m5, m6, n5, n6, Int.toNat_natCast, bytesA_zeros, bl4, bl67, bl3f, bleM, decide_true, decide_false, Bool.not_true, Bool.not_false])
    have hE := c_implEncodeMessage ⟨4, 0, 0, [zB (19975 + d)]⟩ (by rw [wBB_one, zB_len]; show 1 + _ ≤ _; omega)
    have hm := fb_msg hd
    generalize encM ⟨4, 0, 0, [zB (19975 + d)]⟩ = em at hE hm
    refine CallE.of (hE) (by rintro r rfl; (repeat' first | exact trivial | exact pure_rowB _ | exact pure_rowO _ | exact pure_rowI _ | exact pure_rowBB _ | exact pure_rowPk _ _ | exact pure_rowSn _ _ | exact pure_rowFd _ _ | exact pure_rowBBB _ | exact pure_rowCl _ _ | exact pure_rowTb _ _ _ | refine And.intro ?_ ?_)) (by simp -dsimp -implicitDefEqProofs only [go_sem, Nat.reduceBEq, Nat.reduceAdd, Nat.reduceLeDiff, Nat.reduceSub, Int.reduceEq, msC, et, w1, Int.toNat_natCast, byA_one, zB]) ?_
    rintro r rfl
    simp -dsimp -implicitDefEqProofs only [go_sem, Nat.reduceBEq, Nat.reduceAdd, Nat.reduceLeDiff, Nat.reduceSub, Int.reduceEq, msC, et, w1, Int.toNat_natCast, byA_one, zB]
    repeat (first | with_reducible refine ask.of (by first | omega | decide) ?_ | simp -dsimp -implicitDefEqProofs only [go_sem, Nat.reduceBEq, Nat.reduceAdd, Nat.reduceLeDiff, Nat.reduceSub, Int.reduceEq, et, ew, w1, w2, w3, w4, e4, m5, m6, n5, n6, Int.toNat_natCast, bytesA_zeros, bl4, bl67, bl3f, bleM, decide_true, decide_false, Bool.not_true, Bool.not_false])
    refine ifB'.yes (decide_eq_true (by omega)) ?_
    repeat (first | with_reducible refine ask.of (by first | omega | decide) ?_ | simp -dsimp -implicitDefEqProofs only [go_sem, Nat.reduceBEq, Nat.reduceAdd, Nat.reduceLeDiff, Nat.reduceSub, Int.reduceEq, et, ew, w1, w2, w3, w4, e4, m5, m6, n5, n6, Int.toNat_natCast, bytesA_zeros, bl4, bl67, bl3f, bleM, decide_true, decide_false, Bool.not_true, Bool.not_false])
    have hP := c_implLinkPush oZ (zB (19999 + d)) (Nat.zero_le _) (fun b hb => by cases hb) (by rw [zB_len]; omega)
    rw [fb_push hd] at hP
    refine CallE.of (hP) (by rintro r rfl; (repeat' first | exact trivial | exact pure_rowB _ | exact pure_rowO _ | exact pure_rowI _ | exact pure_rowBB _ | exact pure_rowPk _ _ | exact pure_rowSn _ _ | exact pure_rowFd _ _ | exact pure_rowBBB _ | exact pure_rowCl _ _ | exact pure_rowTb _ _ _ | refine And.intro ?_ ?_)) (by simp -dsimp -implicitDefEqProofs only [go_sem, Nat.reduceBEq, Nat.reduceAdd, Nat.reduceLeDiff, Nat.reduceSub, Int.reduceEq, resL, loC, raN, oZ, zB]) ?_
    rintro r rfl
    simp -dsimp -implicitDefEqProofs only [go_sem, Nat.reduceBEq, Nat.reduceAdd, Nat.reduceLeDiff, Nat.reduceSub, Int.reduceEq, resL, loC, raN, oZ, zB]
    repeat (first | with_reducible refine ask.of (by first | omega | decide) ?_ | simp -dsimp -implicitDefEqProofs only [go_sem, Nat.reduceBEq, Nat.reduceAdd, Nat.reduceLeDiff, Nat.reduceSub, Int.reduceEq, et, ew, w1, w2, w3, w4, e4, m5, m6, n5, n6, Int.toNat_natCast, bytesA_zeros, bl4, bl67, bl3f, bleM, decide_true, decide_false, Bool.not_true, Bool.not_false])
    have hN := oN_b d
    have hP3 := c_implLinkPush (oN d) (zB 10000) hN.1 hN.2 (by rw [zB_len]; omega)
    have h3 := fb_third hd
    generalize pushL (oN d) (zB 10000) = p3 at hP3 h3
    obtain ⟨q3, c3⟩ := p3
    simp only at h3
    subst h3
    refine CallE.of (hP3) (by rintro r rfl; (repeat' first | exact trivial | exact pure_rowB _ | exact pure_rowO _ | exact pure_rowI _ | exact pure_rowBB _ | exact pure_rowPk _ _ | exact pure_rowSn _ _ | exact pure_rowFd _ _ | exact pure_rowBBB _ | exact pure_rowCl _ _ | exact pure_rowTb _ _ _ | refine And.intro ?_ ?_)) (by simp -dsimp -implicitDefEqProofs only [go_sem, Nat.reduceBEq, Nat.reduceAdd, Nat.reduceLeDiff, Nat.reduceSub, Int.reduceEq, resL, loC, zB]) ?_
    rintro r rfl
    simp -dsimp -implicitDefEqProofs only [go_sem, Nat.reduceBEq, Nat.reduceAdd, Nat.reduceLeDiff, Nat.reduceSub, Int.reduceEq, resL, loC, zB]
    repeat (first | with_reducible refine ask.of (by first | omega | decide) ?_ | simp -dsimp -implicitDefEqProofs only [go_sem, Nat.reduceBEq, Nat.reduceAdd, Nat.reduceLeDiff, Nat.reduceSub, Int.reduceEq, et, ew, w1, w2, w3, w4, e4, m5, m6, n5, n6, Int.toNat_natCast, bytesA_zeros, bl4, bl67, bl3f, bleM, decide_true, decide_false, Bool.not_true, Bool.not_false])
    have hP4 := c_implLinkPush (oN d) (zB 10001) hN.1 hN.2 (by rw [zB_len]; omega)
    rw [fb_fourth hd] at hP4
    refine CallE.of (hP4) (by rintro r rfl; (repeat' first | exact trivial | exact pure_rowB _ | exact pure_rowO _ | exact pure_rowI _ | exact pure_rowBB _ | exact pure_rowPk _ _ | exact pure_rowSn _ _ | exact pure_rowFd _ _ | exact pure_rowBBB _ | exact pure_rowCl _ _ | exact pure_rowTb _ _ _ | refine And.intro ?_ ?_)) (by simp -dsimp -implicitDefEqProofs only [go_sem, Nat.reduceBEq, Nat.reduceAdd, Nat.reduceLeDiff, Nat.reduceSub, Int.reduceEq, resL, loC, zB]) ?_
    rintro r rfl
    simp -dsimp -implicitDefEqProofs only [go_sem, Nat.reduceBEq, Nat.reduceAdd, Nat.reduceLeDiff, Nat.reduceSub, Int.reduceEq, resL, loC, zB]
    repeat (first | with_reducible refine ask.of (by first | omega | decide) ?_ | simp -dsimp -implicitDefEqProofs only [go_sem, Nat.reduceBEq, Nat.reduceAdd, Nat.reduceLeDiff, Nat.reduceSub, Int.reduceEq, et, ew, w1, w2, w3, w4, e4, m5, m6, n5, n6, Int.toNat_natCast, bytesA_zeros, bl4, bl67, bl3f, bleM, decide_true, decide_false, Bool.not_true, Bool.not_false])
    refine CallE.of (c_sameOut (oN d) hN.1 hN.2) (by rintro r rfl; (repeat' first | exact trivial | exact pure_rowB _ | exact pure_rowO _ | exact pure_rowI _ | exact pure_rowBB _ | exact pure_rowPk _ _ | exact pure_rowSn _ _ | exact pure_rowFd _ _ | exact pure_rowBBB _ | exact pure_rowCl _ _ | exact pure_rowTb _ _ _ | refine And.intro ?_ ?_)) (by simp -dsimp -implicitDefEqProofs only [go_sem, Nat.reduceBEq, Nat.reduceAdd, Nat.reduceLeDiff, Nat.reduceSub, Int.reduceEq, loC]) ?_
    rintro r rfl
    simp -dsimp -implicitDefEqProofs only [go_sem, Nat.reduceBEq, Nat.reduceAdd, Nat.reduceLeDiff, Nat.reduceSub, Int.reduceEq, loC]
    repeat (first | with_reducible refine ask.of (by first | omega | decide) ?_ | simp -dsimp -implicitDefEqProofs only [go_sem, Nat.reduceBEq, Nat.reduceAdd, Nat.reduceLeDiff, Nat.reduceSub, Int.reduceEq, et, ew, w1, w2, w3, w4, e4, m5, m6, n5, n6, Int.toNat_natCast, bytesA_zeros, bl4, bl67, bl3f, bleM, decide_true, decide_false, Bool.not_true, Bool.not_false])
    have hK := c_implEncodePacket ⟨1, 1, 0, 0, false, zB (99 + d)⟩ (by show (zB (99 + d)).length ≤ _; rw [zB_len]; omega)
    have hk := fb_pk hd
    generalize encP ⟨1, 1, 0, 0, false, zB (99 + d)⟩ = ek at hK hk
    refine CallE.of (hK) (by rintro r rfl; (repeat' first | exact trivial | exact pure_rowB _ | exact pure_rowO _ | exact pure_rowI _ | exact pure_rowBB _ | exact pure_rowPk _ _ | exact pure_rowSn _ _ | exact pure_rowFd _ _ | exact pure_rowBBB _ | exact pure_rowCl _ _ | exact pure_rowTb _ _ _ | refine And.intro ?_ ?_)) (by simp -dsimp -implicitDefEqProofs only [go_sem, Nat.reduceBEq, Nat.reduceAdd, Nat.reduceLeDiff, Nat.reduceSub, Int.reduceEq, pkC, zB]) ?_
    rintro r rfl
    simp -dsimp -implicitDefEqProofs only [go_sem, Nat.reduceBEq, Nat.reduceAdd, Nat.reduceLeDiff, Nat.reduceSub, Int.reduceEq, pkC, zB]
    repeat (first | with_reducible refine ask.of (by first | omega | decide) ?_ | simp -dsimp -implicitDefEqProofs only [go_sem, Nat.reduceBEq, Nat.reduceAdd, Nat.reduceLeDiff, Nat.reduceSub, Int.reduceEq, et, ew, w1, w2, w3, w4, e4, m5, m6, n5, n6, Int.toNat_natCast, bytesA_zeros, bl4, bl67, bl3f, bleM, decide_true, decide_false, Bool.not_true, Bool.not_false])
    refine ifB'.yes (decide_eq_true (by omega)) ?_
    repeat (first | with_reducible refine ask.of (by first | omega | decide) ?_ | simp -dsimp -implicitDefEqProofs only [go_sem, Nat.reduceBEq, Nat.reduceAdd, Nat.reduceLeDiff, Nat.reduceSub, Int.reduceEq, et, ew, w1, w2, w3, w4, e4, m5, m6, n5, n6, Int.toNat_natCast, bytesA_zeros, bl4, bl67, bl3f, bleM, decide_true, decide_false, Bool.not_true, Bool.not_false])
    refine LoopE.cnt (39 + d) (fun i s => s.env 3 = .v (.int .i64 d) ∧ s.env 4 = .v (.bool true) ∧ s.env 16 = .ref [16] ∧ s.env 17 = .v (.int .i64 i) ∧ s.σ [16] = some (.row 22 1 (ra byC (dv i)))) ⟨by simp -dsimp -implicitDefEqProofs only [go_sem, Nat.reduceBEq, Nat.reduceAdd, Nat.reduceLeDiff, Nat.reduceSub, Int.reduceEq], by simp -dsimp -implicitDefEqProofs only [go_sem, Nat.reduceBEq, Nat.reduceAdd, Nat.reduceLeDiff, Nat.reduceSub, Int.reduceEq], by simp -dsimp -implicitDefEqProofs only [go_sem, Nat.reduceBEq, Nat.reduceAdd, Nat.reduceLeDiff, Nat.reduceSub, Int.reduceEq], by simp -dsimp -implicitDefEqProofs only [go_sem, Nat.reduceBEq, Nat.reduceAdd, Nat.reduceLeDiff, Nat.reduceSub, Int.reduceEq] <;> rfl, by simp -dsimp -implicitDefEqProofs only [go_sem, Nat.reduceBEq, Nat.reduceAdd, Nat.reduceLeDiff, Nat.reduceSub, Int.reduceEq] <;> rfl⟩ ?_
    rintro i ⟨e, σ⟩ hi ⟨h3, h4, h16, h17, hs⟩ K hK
    simp only at h3 h4 h16 h17 hs
    repeat (first | with_reducible refine ask.of (by first | omega | decide) ?_ | simp -dsimp -implicitDefEqProofs only [go_sem, Nat.reduceBEq, Nat.reduceAdd, Nat.reduceLeDiff, Nat.reduceSub, Int.reduceEq, h3, h4, h16, h17, hs, et, ew, w1, w2, w3, w4, e4, m5, m6, n5, n6, Int.toNat_natCast, bytesA_zeros, bl4, bl67, bl3f, bleM, decide_true, decide_false, Bool.not_true, Bool.not_false])
    refine ifB'.of (fun hlt => ?_) (fun hlt => ?_)
    · have hlt : i < 39 + d := by omega
      have eu : IntKind.u8.wrap (i : Int) = ((UInt8.ofNat i).toNat : Int) := u8_nat (by omega)
      have hl := dv_len i
      repeat (first | with_reducible refine ask.of (by first | omega | decide | (simp only [ra_length, hl, List.length_cons, List.length_nil]; omega)) ?_ | simp -dsimp -implicitDefEqProofs only [go_sem, Nat.reduceBEq, Nat.reduceAdd, Nat.reduceLeDiff, Nat.reduceSub, Int.reduceEq, h3, h4, h16, h17, hs, eu, byA_snoc1, dv_succ])
      refine hK _ hlt ?_
      simp -dsimp -implicitDefEqProofs only [go_sem, Nat.reduceBEq, Nat.reduceAdd, Nat.reduceLeDiff, Nat.reduceSub, Int.reduceEq, h3, h4, h16, h17, hs, wrap_succ (show i < 4611686018427387904 by omega)]
    · have hi' : i = 39 + d := by omega
      subst hi'
      have hV := c_iValidDict (dv (39 + d)) (by rw [dv_len, wBB_dv]; omega)
      rw [fb_dict hd] at hV
      repeat (first | with_reducible refine ask.of (by first | omega | decide) ?_ | simp -dsimp -implicitDefEqProofs only [go_sem, Nat.reduceBEq, Nat.reduceAdd, Nat.reduceLeDiff, Nat.reduceSub, Int.reduceEq, h3, h4, h16, h17, hs, et, ew, w1, w2, w3, w4, e4, m5, m6, n5, n6, Int.toNat_natCast, bytesA_zeros, bl4, bl67, bl3f, bleM, decide_true, decide_false, Bool.not_true, Bool.not_false])
      refine CallE.of (hV) (by rintro r rfl; (repeat' first | exact trivial | exact pure_rowB _ | exact pure_rowO _ | exact pure_rowI _ | exact pure_rowBB _ | exact pure_rowPk _ _ | exact pure_rowSn _ _ | exact pure_rowFd _ _ | exact pure_rowBBB _ | exact pure_rowCl _ _ | exact pure_rowTb _ _ _ | refine And.intro ?_ ?_)) (by simp -dsimp -implicitDefEqProofs only [go_sem, Nat.reduceBEq, Nat.reduceAdd, Nat.reduceLeDiff, Nat.reduceSub, Int.reduceEq, h3, h4, h16, h17, hs]) ?_
      rintro r rfl
      simp -dsimp -implicitDefEqProofs only [go_sem, Nat.reduceBEq, Nat.reduceAdd, Nat.reduceLeDiff, Nat.reduceSub, Int.reduceEq, h3, h4, h16, h17, hs]
      repeat (first | with_reducible refine ask.of (by first | omega | decide) ?_ | simp -dsimp -implicitDefEqProofs only [go_sem, Nat.reduceBEq, Nat.reduceAdd, Nat.reduceLeDiff, Nat.reduceSub, Int.reduceEq, h3, h4, h16, h17, hs, et, ew, w1, w2, w3, w4, e4, m5, m6, n5, n6, Int.toNat_natCast, bytesA_zeros, bl4, bl67, bl3f, bleM, decide_true, decide_false, Bool.not_true, Bool.not_false])
      have hT := c_iValidTable fbF ((99 + d : Nat) : Int) (List.replicate (99 + d) cl0) (by decide) (by decide) (by rw [szL_rep, List.length_replicate]; omega) (fun c hc => by rw [List.eq_of_mem_replicate hc]; show -9223372036854775808 ≤ (0 : Int) ∧ (0 : Int) ≤ 9223372036854775807; decide)
      rw [fb_tab hd] at hT
      repeat (first | with_reducible refine ask.of (by first | omega | decide) ?_ | simp -dsimp -implicitDefEqProofs only [go_sem, Nat.reduceBEq, Nat.reduceAdd, Nat.reduceLeDiff, Nat.reduceSub, Int.reduceEq, h3, h4, h16, h17, hs, et, ew, w1, w2, w3, w4, e4, m5, m6, n5, n6, Int.toNat_natCast, bytesA_zeros, bl4, bl67, bl3f, bleM, clA_zeros, decide_true, decide_false, Bool.not_true, Bool.not_false])
      refine CallE.of (hT) (by rintro r rfl; (repeat' first | exact trivial | exact pure_rowB _ | exact pure_rowO _ | exact pure_rowI _ | exact pure_rowBB _ | exact pure_rowPk _ _ | exact pure_rowSn _ _ | exact pure_rowFd _ _ | exact pure_rowBBB _ | exact pure_rowCl _ _ | exact pure_rowTb _ _ _ | refine And.intro ?_ ?_)) (by simp -dsimp -implicitDefEqProofs only [go_sem, Nat.reduceBEq, Nat.reduceAdd, Nat.reduceLeDiff, Nat.reduceSub, Int.reduceEq, h3, h4, h16, h17, hs, rowFd, rowCl, fbF, raF1, fdC, b97, tbC]) ?_
      rintro r rfl
      simp -dsimp -implicitDefEqProofs only [go_sem, Nat.reduceBEq, Nat.reduceAdd, Nat.reduceLeDiff, Nat.reduceSub, Int.reduceEq, h3, h4, h16, h17, hs, rowFd, rowCl, fbF, raF1, fdC, b97, tbC]
      repeat (first | with_reducible refine ask.of (by first | omega | decide) ?_ | simp -dsimp -implicitDefEqProofs only [go_sem, Nat.reduceBEq, Nat.reduceAdd, Nat.reduceLeDiff, Nat.reduceSub, Int.reduceEq, h3, h4, h16, h17, hs, et, ew, w1, w2, w3, w4, e4, m5, m6, n5, n6, Int.toNat_natCast, bytesA_zeros, bl4, bl67, bl3f, bleM, clA_zeros, decide_true, decide_false, Bool.not_true, Bool.not_false])
  · have e4 : decide ((d : Int) < 2) = false := decide_eq_false (by omega)
    have hd2 : d = 2 := by omega
    have m5 : IntKind.i64.wrap (100 * 100) = 10000 := by decide
    have m6 : IntKind.i64.wrap (10000 + 1) = 10001 := by decide
    have n5 : (10000 : Int).toNat = 10000 := rfl
    have n6 : (10001 : Int).toNat = 10001 := rfl
    repeat (first | with_reducible refine ask.of (by first | omega | decide) ?_ | simp -dsimp -implicitDefEqProofs only [go_sem, Nat.reduceBEq, Nat.reduceAdd, Nat.reduceLeDiff, Nat.reduceSub, Int.reduceEq, et, ew, w1, w2, w3, w4, e4, m5, m6, n5, n6, Int.toNat_natCast, bytesA_zeros, bl4, bl67, bl3f, bleM, decide_true, decide_false, Bool.not_true, Bool.not_false])
    have hE := c_implEncodeMessage ⟨4, 0, 0, [zB (19975 + d)]⟩ (by rw [wBB_one, zB_len]; show 1 + _ ≤ _; omega)
    have hm : (encM ⟨4, 0, 0, [zB (19975 + d)]⟩).length = 0 := by rw [hd2]; exact fb_msg2
    generalize encM ⟨4, 0, 0, [zB (19975 + d)]⟩ = em at hE hm
    refine CallE.of (hE) (by rintro r rfl; (repeat' first | exact trivial | exact pure_rowB _ | exact pure_rowO _ | exact pure_rowI _ | exact pure_rowBB _ | exact pure_rowPk _ _ | exact pure_rowSn _ _ | exact pure_rowFd _ _ | exact pure_rowBBB _ | exact pure_rowCl _ _ | exact pure_rowTb _ _ _ | refine And.intro ?_ ?_)) (by simp -dsimp -implicitDefEqProofs only [go_sem, Nat.reduceBEq, Nat.reduceAdd, Nat.reduceLeDiff, Nat.reduceSub, Int.reduceEq, msC, et, w1, Int.toNat_natCast, byA_one, zB]) ?_
    rintro r rfl
    simp -dsimp -implicitDefEqProofs only [go_sem, Nat.reduceBEq, Nat.reduceAdd, Nat.reduceLeDiff, Nat.reduceSub, Int.reduceEq, msC, et, w1, Int.toNat_natCast, byA_one, zB]
    repeat (first | with_reducible refine ask.of (by first | omega | decide) ?_ | simp -dsimp -implicitDefEqProofs only [go_sem, Nat.reduceBEq, Nat.reduceAdd, Nat.reduceLeDiff, Nat.reduceSub, Int.reduceEq, et, ew, w1, w2, w3, w4, e4, m5, m6, n5, n6, Int.toNat_natCast, bytesA_zeros, bl4, bl67, bl3f, bleM, decide_true, decide_false, Bool.not_true, Bool.not_false])
    refine ifB'.yes (decide_eq_false (by omega)) ?_
    repeat (first | with_reducible refine ask.of (by first | omega | decide) ?_ | simp -dsimp -implicitDefEqProofs only [go_sem, Nat.reduceBEq, Nat.reduceAdd, Nat.reduceLeDiff, Nat.reduceSub, Int.reduceEq, et, ew, w1, w2, w3, w4, e4, m5, m6, n5, n6, Int.toNat_natCast, bytesA_zeros, bl4, bl67, bl3f, bleM, decide_true, decide_false, Bool.not_true, Bool.not_false])
    have hP := c_implLinkPush oZ (zB (19999 + d)) (Nat.zero_le _) (fun b hb => by cases hb) (by rw [zB_len]; omega)
    have hz : pushL oZ (zB (19999 + d)) = (lo0, 1) := by rw [hd2]; exact fb_push2
    rw [hz] at hP
    refine CallE.of (hP) (by rintro r rfl; (repeat' first | exact trivial | exact pure_rowB _ | exact pure_rowO _ | exact pure_rowI _ | exact pure_rowBB _ | exact pure_rowPk _ _ | exact pure_rowSn _ _ | exact pure_rowFd _ _ | exact pure_rowBBB _ | exact pure_rowCl _ _ | exact pure_rowTb _ _ _ | refine And.intro ?_ ?_)) (by simp -dsimp -implicitDefEqProofs only [go_sem, Nat.reduceBEq, Nat.reduceAdd, Nat.reduceLeDiff, Nat.reduceSub, Int.reduceEq, resL, loC, raN, oZ, lo0, zB]) ?_
    rintro r rfl
    simp -dsimp -implicitDefEqProofs only [go_sem, Nat.reduceBEq, Nat.reduceAdd, Nat.reduceLeDiff, Nat.reduceSub, Int.reduceEq, resL, loC, raN, oZ, lo0, zB]
    repeat (first | with_reducible refine ask.of (by first | omega | decide) ?_ | simp -dsimp -implicitDefEqProofs only [go_sem, Nat.reduceBEq, Nat.reduceAdd, Nat.reduceLeDiff, Nat.reduceSub, Int.reduceEq, et, ew, w1, w2, w3, w4, e4, m5, m6, n5, n6, Int.toNat_natCast, bytesA_zeros, bl4, bl67, bl3f, bleM, decide_true, decide_false, Bool.not_true, Bool.not_false])
    have hK := c_implEncodePacket ⟨1, 1, 0, 0, false, zB (99 + d)⟩ (by show (zB (99 + d)).length ≤ _; rw [zB_len]; omega)
    have hk : (encP ⟨1, 1, 0, 0, false, zB (99 + d)⟩).length = 0 := by rw [hd2]; exact fb_pk2
    generalize encP ⟨1, 1, 0, 0, false, zB (99 + d)⟩ = ek at hK hk
    refine CallE.of (hK) (by rintro r rfl; (repeat' first | exact trivial | exact pure_rowB _ | exact pure_rowO _ | exact pure_rowI _ | exact pure_rowBB _ | exact pure_rowPk _ _ | exact pure_rowSn _ _ | exact pure_rowFd _ _ | exact pure_rowBBB _ | exact pure_rowCl _ _ | exact pure_rowTb _ _ _ | refine And.intro ?_ ?_)) (by simp -dsimp -implicitDefEqProofs only [go_sem, Nat.reduceBEq, Nat.reduceAdd, Nat.reduceLeDiff, Nat.reduceSub, Int.reduceEq, pkC, zB]) ?_
    rintro r rfl
    simp -dsimp -implicitDefEqProofs only [go_sem, Nat.reduceBEq, Nat.reduceAdd, Nat.reduceLeDiff, Nat.reduceSub, Int.reduceEq, pkC, zB]
    repeat (first | with_reducible refine ask.of (by first | omega | decide) ?_ | simp -dsimp -implicitDefEqProofs only [go_sem, Nat.reduceBEq, Nat.reduceAdd, Nat.reduceLeDiff, Nat.reduceSub, Int.reduceEq, et, ew, w1, w2, w3, w4, e4, m5, m6, n5, n6, Int.toNat_natCast, bytesA_zeros, bl4, bl67, bl3f, bleM, decide_true, decide_false, Bool.not_true, Bool.not_false])
    refine ifB'.yes (decide_eq_false (by omega)) ?_
    repeat (first | with_reducible refine ask.of (by first | omega | decide) ?_ | simp -dsimp -implicitDefEqProofs only [go_sem, Nat.reduceBEq, Nat.reduceAdd, Nat.reduceLeDiff, Nat.reduceSub, Int.reduceEq, et, ew, w1, w2, w3, w4, e4, m5, m6, n5, n6, Int.toNat_natCast, bytesA_zeros, bl4, bl67, bl3f, bleM, decide_true, decide_false, Bool.not_true, Bool.not_false])
    refine LoopE.cnt (39 + d) (fun i s => s.env 3 = .v (.int .i64 d) ∧ s.env 4 = .v (.bool false) ∧ s.env 16 = .ref [16] ∧ s.env 17 = .v (.int .i64 i) ∧ s.σ [16] = some (.row 22 1 (ra byC (dv i)))) ⟨by simp -dsimp -implicitDefEqProofs only [go_sem, Nat.reduceBEq, Nat.reduceAdd, Nat.reduceLeDiff, Nat.reduceSub, Int.reduceEq], by simp -dsimp -implicitDefEqProofs only [go_sem, Nat.reduceBEq, Nat.reduceAdd, Nat.reduceLeDiff, Nat.reduceSub, Int.reduceEq], by simp -dsimp -implicitDefEqProofs only [go_sem, Nat.reduceBEq, Nat.reduceAdd, Nat.reduceLeDiff, Nat.reduceSub, Int.reduceEq], by simp -dsimp -implicitDefEqProofs only [go_sem, Nat.reduceBEq, Nat.reduceAdd, Nat.reduceLeDiff, Nat.reduceSub, Int.reduceEq] <;> rfl, by simp -dsimp -implicitDefEqProofs only [go_sem, Nat.reduceBEq, Nat.reduceAdd, Nat.reduceLeDiff, Nat.reduceSub, Int.reduceEq] <;> rfl⟩ ?_
    rintro i ⟨e, σ⟩ hi ⟨h3, h4, h16, h17, hs⟩ K hK
    simp only at h3 h4 h16 h17 hs
    repeat (first | with_reducible refine ask.of (by first | omega | decide) ?_ | simp -dsimp -implicitDefEqProofs only [go_sem, Nat.reduceBEq, Nat.reduceAdd, Nat.reduceLeDiff, Nat.reduceSub, Int.reduceEq, h3, h4, h16, h17, hs, et, ew, w1, w2, w3, w4, e4, m5, m6, n5, n6, Int.toNat_natCast, bytesA_zeros, bl4, bl67, bl3f, bleM, decide_true, decide_false, Bool.not_true, Bool.not_false])
    refine ifB'.of (fun hlt => ?_) (fun hlt => ?_)
    · have hlt : i < 39 + d := by omega
      have eu : IntKind.u8.wrap (i : Int) = ((UInt8.ofNat i).toNat : Int) := u8_nat (by omega)
      have hl := dv_len i
      repeat (first | with_reducible refine ask.of (by first | omega | decide | (simp only [ra_length, hl, List.length_cons, List.length_nil]; omega)) ?_ | simp -dsimp -implicitDefEqProofs only [go_sem, Nat.reduceBEq, Nat.reduceAdd, Nat.reduceLeDiff, Nat.reduceSub, Int.reduceEq, h3, h4, h16, h17, hs, eu, byA_snoc1, dv_succ])
      refine hK _ hlt ?_
      simp -dsimp -implicitDefEqProofs only [go_sem, Nat.reduceBEq, Nat.reduceAdd, Nat.reduceLeDiff, Nat.reduceSub, Int.reduceEq, h3, h4, h16, h17, hs, wrap_succ (show i < 4611686018427387904 by omega)]
    · have hi' : i = 39 + d := by omega
      subst hi'
      have hV := c_iValidDict (dv (39 + d)) (by rw [dv_len, wBB_dv]; omega)
      have hz : decide (okD (dv (39 + d))) = false := by rw [hd2]; exact fb_dict2
      rw [hz] at hV
      repeat (first | with_reducible refine ask.of (by first | omega | decide) ?_ | simp -dsimp -implicitDefEqProofs only [go_sem, Nat.reduceBEq, Nat.reduceAdd, Nat.reduceLeDiff, Nat.reduceSub, Int.reduceEq, h3, h4, h16, h17, hs, et, ew, w1, w2, w3, w4, e4, m5, m6, n5, n6, Int.toNat_natCast, bytesA_zeros, bl4, bl67, bl3f, bleM, decide_true, decide_false, Bool.not_true, Bool.not_false])
      refine CallE.of (hV) (by rintro r rfl; (repeat' first | exact trivial | exact pure_rowB _ | exact pure_rowO _ | exact pure_rowI _ | exact pure_rowBB _ | exact pure_rowPk _ _ | exact pure_rowSn _ _ | exact pure_rowFd _ _ | exact pure_rowBBB _ | exact pure_rowCl _ _ | exact pure_rowTb _ _ _ | refine And.intro ?_ ?_)) (by simp -dsimp -implicitDefEqProofs only [go_sem, Nat.reduceBEq, Nat.reduceAdd, Nat.reduceLeDiff, Nat.reduceSub, Int.reduceEq, h3, h4, h16, h17, hs]) ?_
      rintro r rfl
      simp -dsimp -implicitDefEqProofs only [go_sem, Nat.reduceBEq, Nat.reduceAdd, Nat.reduceLeDiff, Nat.reduceSub, Int.reduceEq, h3, h4, h16, h17, hs]
      repeat (first | with_reducible refine ask.of (by first | omega | decide) ?_ | simp -dsimp -implicitDefEqProofs only [go_sem, Nat.reduceBEq, Nat.reduceAdd, Nat.reduceLeDiff, Nat.reduceSub, Int.reduceEq, h3, h4, h16, h17, hs, et, ew, w1, w2, w3, w4, e4, m5, m6, n5, n6, Int.toNat_natCast, bytesA_zeros, bl4, bl67, bl3f, bleM, decide_true, decide_false, Bool.not_true, Bool.not_false])
      have hT := c_iValidTable fbF ((99 + d : Nat) : Int) (List.replicate (99 + d) cl0) (by decide) (by decide) (by rw [szL_rep, List.length_replicate]; omega) (fun c hc => by rw [List.eq_of_mem_replicate hc]; show -9223372036854775808 ≤ (0 : Int) ∧ (0 : Int) ≤ 9223372036854775807; decide)
      have hz2 : tbB fbF ((99 + d : Nat) : Int) (List.replicate (99 + d) cl0) = false := (tb_f fun h => by have := h.2.1.2.1; omega).symm
      rw [hz2] at hT
      repeat (first | with_reducible refine ask.of (by first | omega | decide) ?_ | simp -dsimp -implicitDefEqProofs only [go_sem, Nat.reduceBEq, Nat.reduceAdd, Nat.reduceLeDiff, Nat.reduceSub, Int.reduceEq, h3, h4, h16, h17, hs, et, ew, w1, w2, w3, w4, e4, m5, m6, n5, n6, Int.toNat_natCast, bytesA_zeros, bl4, bl67, bl3f, bleM, clA_zeros, decide_true, decide_false, Bool.not_true, Bool.not_false])
      refine CallE.of (hT) (by rintro r rfl; (repeat' first | exact trivial | exact pure_rowB _ | exact pure_rowO _ | exact pure_rowI _ | exact pure_rowBB _ | exact pure_rowPk _ _ | exact pure_rowSn _ _ | exact pure_rowFd _ _ | exact pure_rowBBB _ | exact pure_rowCl _ _ | exact pure_rowTb _ _ _ | refine And.intro ?_ ?_)) (by simp -dsimp -implicitDefEqProofs only [go_sem, Nat.reduceBEq, Nat.reduceAdd, Nat.reduceLeDiff, Nat.reduceSub, Int.reduceEq, h3, h4, h16, h17, hs, rowFd, rowCl, fbF, raF1, fdC, b97, tbC]) ?_
      rintro r rfl
      simp -dsimp -implicitDefEqProofs only [go_sem, Nat.reduceBEq, Nat.reduceAdd, Nat.reduceLeDiff, Nat.reduceSub, Int.reduceEq, h3, h4, h16, h17, hs, rowFd, rowCl, fbF, raF1, fdC, b97, tbC]
      repeat (first | with_reducible refine ask.of (by first | omega | decide) ?_ | simp -dsimp -implicitDefEqProofs only [go_sem, Nat.reduceBEq, Nat.reduceAdd, Nat.reduceLeDiff, Nat.reduceSub, Int.reduceEq, h3, h4, h16, h17, hs, et, ew, w1, w2, w3, w4, e4, m5, m6, n5, n6, Int.toNat_natCast, bytesA_zeros, bl4, bl67, bl3f, bleM, clA_zeros, decide_true, decide_false, Bool.not_true, Bool.not_false])
end Go.Ev
