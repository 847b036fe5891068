/- Part 14 of what the row leans on: the evaluator, words, contracts of functions; pruned by a program of ours. -/
import Derived.Test.YtcmkgoflnfchcaaWn13
import Derived.RangeFuncBound
import Derived.Shelf.Abstract
import Derived.Shelf.RegionOpen
import Derived.WalkKit
import Derived.OwnWalkIn
import Derived.TacticsInMore
import Derived.LoopNIn
import Derived.LoopIn
namespace Go.Ev
open Go Go.RowKit Go.Shelf Go.Proofs
attribute [local go_sem] Oper.semAt_some
set_option maxHeartbeats 2000000 in
theorem chunk_in (F : Fence) (n : Nat) (h5 : F.fn 94) (hro : F.round = none) (a : Option Addr) (len cap : Nat) (w : World) :
    CallsIn F n Try.prog 94 #[.slice a len cap, .int .i64 100] w fun e w' => e = .returned (.func (.func 151) #[] #[.pointer (some ⟨w.heap.size, 0, none⟩), .pointer (some ⟨w.heap.size + 1, 0, none⟩)]) ∧ w' = (w.alloc (.cells #[.slice a len cap] 22)).alloc (.cells #[.int .i64 100] 3) := by
  refine callsIn_of_wp Try.func94 rfl h5 ?_ hro
  simp only [Try.ntmps94, List.size_toArray, List.length_cons, List.length_nil, Nat.reduceAdd, Nat.reduceSub, Array.replicate_succ, Array.replicate_zero, List.push_toArray, List.append_toArray, List.nil_append, List.cons_append]
  gi_wp2
  go_ret
  exact ⟨rfl, rfl⟩
set_option maxRecDepth 100000 in
set_option maxHeartbeats 4000000 in
theorem chunk1_in (n : Nat) (hn : 1 ≤ n) (l B1 B2 b off len cap : Nat) (hlen : len ≤ 1048576) (hcap : len ≤ cap) (J : Nat → World → Prop)
    (hJd : ∀ i w, J i w → J i w.drew)
    (hJb : ∀ i w, J i w → w.cell? ⟨B1, 0, none⟩ = some (.slice (some ⟨b, off, none⟩) len cap) ∧ w.cell? ⟨B2, 0, none⟩ = some (.int .i64 100))
    (hY : ∀ i W, J i W → 100 * i < len → YieldAt Fence.wide (n - 1) Try.prog l #[pieceV b off len i] W fun e W' => e = .returned (.bool true) ∧ J (i + 1) W')
    (W : World) (h0 : J 0 W) :
    CallsIn Fence.wide n Try.prog 151 #[.func (.yield l) #[] #[], .pointer (some ⟨B1, 0, none⟩), .pointer (some ⟨B2, 0, none⟩)] W fun e W' => (∃ v, e = .returned v) ∧ J ((len + 99) / 100) W' := by
  refine callsIn_of_wp Try.func151 rfl trivial ?_
  simp only [Try.ntmps151, List.size_toArray, List.length_cons, List.length_nil, Nat.reduceAdd, Nat.reduceSub, Array.replicate_succ, Array.replicate_zero, List.push_toArray, List.append_toArray, List.nil_append, List.cons_append]
  gi_wp2
  gi_loopw [4] (fun i wr => ∃ k : Nat, k ≤ (len + 99) / 100 ∧ i = .int .i64 (100 * k : Nat) ∧ J k wr)
    (fun i _ => (len + 99) / 100 * 100 - (intOf i).toNat)
  case atStart => exact ⟨0, Nat.zero_le _, rfl, h0⟩
  case round =>
    obtain ⟨k, hk, rfl, hJs⟩ := hrel
    obtain ⟨hB1, hB2⟩ := hJb _ _ hJs
    by_cases hlt : 100 * k < len
    · have hJ2 := hJd _ _ hJs
      obtain ⟨fn, tmps, assign, body, hy, hR⟩ := hY k _ hJ2 hlt
      obtain ⟨hC1, hC2⟩ := hJb _ _ hJ2
      have hmx : Try.prog.follows .mixedOrders = true := by kernel_rfl
      gi_wp2
      gi_region
      obtain ⟨m, hm, hme⟩ : ∃ m : Nat, (if ((len - 100 * k : Nat) : Int) < 100 then ((len - 100 * k : Nat) : Int) else 100) = (m : Int) ∧ min 100 (len - 100 * k) = m := by
        by_cases h : len - 100 * k < 100
        · exact ⟨len - 100 * k, if_pos (by omega), by omega⟩
        · exact ⟨100, if_neg (by omega), by omega⟩
      rw [hm]
      unfold pieceV at hy
      rw [hme] at hy
      have hmb : 1 ≤ m ∧ m ≤ 100 ∧ 100 * k + m ≤ len := by omega
      generalize wr.drew = w2 at *
      have e1 : wrap64 ((100 * k : Nat) + (m : Int)) = ((100 * k + m : Nat) : Int) := by simp [wrap64]; omega
      gi_wp2
      refine hR.mono ?_
      rintro e W3 ⟨rfl, hJ3⟩
      obtain ⟨hD1, hD2⟩ := hJb _ _ hJ3
      have e2 : wrap64 ((100 * k : Nat) + (100 : Int)) = ((100 * (k + 1) : Nat) : Int) := by simp [wrap64]; omega
      gi_wp2
      go_roundw
      case rel => exact ⟨k + 1, by omega, by first | rfl | (simp; omega), hJ3⟩
      case measure => simp [intOf]; omega
    · obtain rfl : k = (len + 99) / 100 := by omega
      gi_wp2
      go_end0
      exact ⟨⟨_, rfl⟩, hJs⟩
theorem chunks : Chunks Try.prog 94 151 22 3 :=
  ⟨by kernel_rfl, enters_of Try.func151 (by kernel_rfl) rfl, fun a len cap w => callsIn_wide.1 (chunk_in Fence.wide 0 trivial rfl a len cap w),
   fun l B1 B2 b off len cap h1 h2 J h3 h4 h5 W h6 => chunk1_in 2 (by decide) l B1 B2 b off len cap h1 h2 J h3 h4 h5 W h6⟩
end Go.Ev
set_option linter.unusedSimpArgs false
set_option linter.unusedVariables false
namespace Go.Ev
open Go Go.RowKit Go.Proofs
def pieceL (msg : List UInt8) (i : Nat) : List UInt8 := (msg.drop (100 * i)).take 100
def pcN (msg : List UInt8) : Nat := (msg.length + 99) / 100
def pushSn (x : LO) (msg : List UInt8) (i : Nat) : Sn := ⟨⟨1, x.a, x.b + i, 0, decide (i + 1 = pcN msg), pieceL msg i⟩, -1⟩
def pushS (x : LO) (msg : List UInt8) (k : Nat) : List Sn := (List.range k).map (pushSn x msg)
theorem pushS_succ (x : LO) (msg : List UInt8) (k : Nat) : pushS x msg (k + 1) = pushS x msg k ++ [pushSn x msg k] := by simp [pushS, List.range_succ]
theorem pushS_len (x : LO) (msg : List UInt8) (k : Nat) : (pushS x msg k).length = k := by simp [pushS]
def pushC (x : LO) (msg : List UInt8) : Prop := okLO x ∧ 1 ≤ msg.length ∧ msg.length ≤ 20000
noncomputable def pushL (x : LO) (msg : List UInt8) : LO × Int := @ite _ (pushC x msg) (Classical.propDecidable _) (if 300 < x.h.length + pcN msg then (x, 2) else if 1000000000000 < x.b + pcN msg then (x, 6) else (⟨x.a, x.b + pcN msg, x.c, x.h ++ pushS x msg (pcN msg)⟩, 0)) (lo0, 1)
theorem pushL_no {x : LO} {msg : List UInt8} (h : ¬ pushC x msg) : pushL x msg = (lo0, 1) := @if_neg _ (Classical.propDecidable _) h _ _ _
theorem pushL_full {x : LO} {msg : List UInt8} (h : pushC x msg) (h2 : 300 < x.h.length + pcN msg) : pushL x msg = (x, 2) := (@if_pos _ (Classical.propDecidable _) h _ _ _).trans (if_pos h2)
theorem pushL_end {x : LO} {msg : List UInt8} (h : pushC x msg) (h2 : ¬ 300 < x.h.length + pcN msg) (h3 : 1000000000000 < x.b + pcN msg) : pushL x msg = (x, 6) := (@if_pos _ (Classical.propDecidable _) h _ _ _).trans ((if_neg h2).trans (if_pos h3))
theorem pushL_yes {x : LO} {msg : List UInt8} (h : pushC x msg) (h2 : ¬ 300 < x.h.length + pcN msg) (h3 : ¬ 1000000000000 < x.b + pcN msg) : pushL x msg = (⟨x.a, x.b + pcN msg, x.c, x.h ++ pushS x msg (pcN msg)⟩, 0) := (@if_pos _ (Classical.propDecidable _) h _ _ _).trans ((if_neg h2).trans (if_neg h3))
theorem push_no {x : LO} {msg : List UInt8} (h : ¬ pushC x msg) : AV.tup [.agg [.v (.int .i64 0), .v (.int .i64 0), .v (.int .i64 0), .row 40 7 []], .v (.int .i64 1)] = resL (pushL x msg) := by rw [pushL_no h]; rfl
theorem pcN_eq {msg : List UInt8} (h : msg.length ≤ 1048576) : IntKind.i64.wrap ((IntKind.i64.wrap (IntKind.i64.wrap ((msg.length : Int) + 100) - 1)).tdiv 100) = (pcN msg : Int) := by
  rw [wrap_i64_of (n := (msg.length : Int) + 100) (by omega) (by omega), wrap_i64_of (n := (msg.length : Int) + 100 - 1) (by omega) (by omega)]
  have e : ((msg.length : Int) + 100 - 1) = ((msg.length + 99 : Nat) : Int) := by omega
  rw [e, show ((msg.length + 99 : Nat) : Int).tdiv 100 = (((msg.length + 99) / 100 : Nat) : Int) from rfl, wrap_i64_of (by omega) (by omega)]; rfl
theorem bl67 : Nat.ble 1 6 = true ∧ Nat.ble 2 6 = true ∧ Nat.ble 3 6 = true ∧ Nat.ble 4 6 = true ∧ Nat.ble 5 6 = true ∧ Nat.ble 6 6 = true ∧ Nat.ble 6 7 = true ∧ Nat.ble 7 7 = true := ⟨rfl, rfl, rfl, rfl, rfl, rfl, rfl, rfl⟩
theorem lo_bnd {x : LO} (h : okLO x) : x.h.length ≤ 300 ∧ 0 ≤ x.b ∧ x.b ≤ 1000000000000 := by
  obtain ⟨h1, h2⟩ := h
  omega
set_option maxRecDepth 8000 in
set_option maxHeartbeats 2000000 in
theorem c_implLinkPush (x : LO) (msg : List UInt8) (hx : x.h.length ≤ 1048576) (hb : ∀ b ∈ x.h, b.p.f.length ≤ 1048576) (hl : msg.length ≤ 1048576) : Meets Try.prog 31 [.agg (loC 40 x), rowB msg] (fun r => r = resL (pushL x msg)) := by
  refine Meets.introN mixed (hint []) (fun k => (sel (k == 13) [998,0,1,2,3,4,5,6,7,8,9,2010] [])) [0, 0, 0, 0, 0, 0, 0] Try.func31 rfl (by decide) res_31 rty_31 (by kernel_rfl) ?_; 
  simp -dsimp -implicitDefEqProofs only [go_sem, Nat.reduceBEq, Nat.reduceAdd, Nat.reduceLeDiff, Nat.reduceSub, Int.reduceEq, loC]
  repeat (first | with_reducible refine ask.of (by omega) ?_ | simp -dsimp -implicitDefEqProofs only [go_sem, Nat.reduceBEq, Nat.reduceAdd, Nat.reduceLeDiff, Nat.reduceSub, Int.reduceEq, bleR, bl4])
  refine CallE.of (c_implValidOut x hx hb) (by rintro r rfl; (repeat' first | exact trivial | exact pure_rowB _ | exact pure_rowO _ | exact pure_rowI _ | exact pure_rowBB _ | exact pure_rowPk _ _ | exact pure_rowSn _ _ | exact pure_rowFd _ _ | exact pure_rowBBB _ | exact pure_rowCl _ _ | exact pure_rowTb _ _ _ | refine And.intro ?_ ?_)) (by simp -dsimp -implicitDefEqProofs only [go_sem, Nat.reduceBEq, Nat.reduceAdd, Nat.reduceLeDiff, Nat.reduceSub, Int.reduceEq, loC]) ?_
  rintro r rfl
  simp -dsimp -implicitDefEqProofs only [go_sem, Nat.reduceBEq, Nat.reduceAdd, Nat.reduceLeDiff, Nat.reduceSub, Int.reduceEq, loC]
  cases hv : loB x
  · have hv := loB_f hv
    repeat' (first | with_reducible refine ask.of (by omega) ?_ | simp -dsimp -implicitDefEqProofs only [go_sem, Nat.reduceBEq, Nat.reduceAdd, Nat.reduceLeDiff, Nat.reduceSub, Int.reduceEq, bleR, bl4, Bool.not_false])
    exact push_no fun h => hv h.1
  · have hv := loB_t hv
    by_cases h1 : 1 ≤ msg.length ∧ msg.length ≤ 20000
    · repeat' (first | with_reducible refine ask.of (by omega) ?_ | with_reducible refine ifB'.no (by omega) ?_ | simp -dsimp -implicitDefEqProofs only [go_sem, Nat.reduceBEq, Nat.reduceAdd, Nat.reduceLeDiff, Nat.reduceSub, Int.reduceEq, bleR, bl4, Bool.not_true, initE])
      refine CallE.of (c_outCopy x hx hb) (by rintro r rfl; (repeat' first | exact trivial | exact pure_rowB _ | exact pure_rowO _ | exact pure_rowI _ | exact pure_rowBB _ | exact pure_rowPk _ _ | exact pure_rowSn _ _ | exact pure_rowFd _ _ | exact pure_rowBBB _ | exact pure_rowCl _ _ | exact pure_rowTb _ _ _ | refine And.intro ?_ ?_)) (by simp -dsimp -implicitDefEqProofs only [go_sem, Nat.reduceBEq, Nat.reduceAdd, Nat.reduceLeDiff, Nat.reduceSub, Int.reduceEq, loC]) ?_
      rintro r rfl
      simp -dsimp -implicitDefEqProofs only [go_sem, Nat.reduceBEq, Nat.reduceAdd, Nat.reduceLeDiff, Nat.reduceSub, Int.reduceEq, loC]
      have hn := pcN_eq hl
      have hnb : 1 ≤ pcN msg ∧ pcN msg ≤ 200 := by unfold pcN; omega
      have hbo := lo_bnd hv
      have e1 : IntKind.i64.wrap ((x.h.length : Int) + (pcN msg : Int)) = ((x.h.length + pcN msg : Nat) : Int) := by rw [wrap_i64_of (by omega) (by omega)]; omega
      have e2 : IntKind.i64.wrap (x.b + (pcN msg : Int)) = x.b + (pcN msg : Int) := wrap_i64_of (by omega) (by omega)
      repeat' (first | with_reducible refine ask.of (by first | omega | decide) ?_ | simp -dsimp -implicitDefEqProofs only [go_sem, Nat.reduceBEq, Nat.reduceAdd, Nat.reduceLeDiff, Nat.reduceSub, Int.reduceEq, bleR, bl4, initE, hn, e1])
      refine ifB'.of (fun h2 => ?_) (fun h2 => ?_)
      · rw [pushL_full ⟨hv, h1⟩ (by omega)]
        repeat' (first | with_reducible refine ask.of (by first | omega | decide) ?_ | simp -dsimp -implicitDefEqProofs only [go_sem, Nat.reduceBEq, Nat.reduceAdd, Nat.reduceLeDiff, Nat.reduceSub, Int.reduceEq, bleR, bl4, initE])
        rfl
      repeat' (first | with_reducible refine ask.of (by first | omega | decide) ?_ | simp -dsimp -implicitDefEqProofs only [go_sem, Nat.reduceBEq, Nat.reduceAdd, Nat.reduceLeDiff, Nat.reduceSub, Int.reduceEq, bleR, bl4, initE, hn, e2])
      refine ifB'.of (fun h3 => ?_) (fun h3 => ?_)
      · rw [pushL_end ⟨hv, h1⟩ (by omega) (by omega)]
        repeat' (first | with_reducible refine ask.of (by first | omega | decide) ?_ | simp -dsimp -implicitDefEqProofs only [go_sem, Nat.reduceBEq, Nat.reduceAdd, Nat.reduceLeDiff, Nat.reduceSub, Int.reduceEq, bleR, bl4, initE])
        rfl
      repeat' (first | with_reducible refine ask.of (by first | omega | decide) ?_ | simp -dsimp -implicitDefEqProofs only [go_sem, Nat.reduceBEq, Nat.reduceAdd, Nat.reduceLeDiff, Nat.reduceSub, Int.reduceEq, bleR, bl4, initE])
      have hpos : 0 < (bytesA msg).length := by rw [bytesA_length]; omega
      have hle : (bytesA msg).length ≤ 1048576 := by rw [bytesA_length]; omega
      refine RangeE.chunk (H := hint []) (O := fun k => sel (k == 13) [998, 0, 1, 2, 3, 4, 5, 6, 7, 8, 9, 2010] []) (x := 47) (g := 48) (p := 49) (e := 5) (els := bytesA msg) mixed chunks rfl rfl rfl rfl rfl rfl (by kernel_rfl) (by simp -dsimp -implicitDefEqProofs only [go_sem, Nat.reduceBEq, Nat.reduceAdd, Nat.reduceLeDiff, Nat.reduceSub, Int.reduceEq, initE]) hpos hle [2, 4, 6, 7, 8]
        (fun vals i σ => (σ [2000000, 2] = some (.pin (.ptr [2] 0 0 0) (vals 2)) ∧ σ [2000000, 4] = some (.pin (.ptr [4] 0 0 0) (vals 4)) ∧ σ [2000000, 6] = some (.pin (.ptr [6] 0 0 0) (vals 6)) ∧ σ [2000000, 7] = some (.pin (.ptr [7] 0 0 0) (vals 7)) ∧ σ [2000000, 8] = some (.pin (.ptr [8] 0 0 0) (vals 8))) ∧
          σ [2] = some (.box 25 [.v (.int .i64 x.a), .v (.int .i64 x.b), .v (.int .i64 x.c), .rd .ent 40 7 (ra snC x.h)]) ∧ σ [4] = some (.box 25 [.v (.int .i64 0), .v (.int .i64 0), .v (.int .i64 0), .v (.slice none 0 0)]) ∧ σ [7] = some (.box 3 [.v (.int .i64 (pcN msg - i : Nat))]) ∧
          ((i = 0 ∧ σ [6] = some (.box 25 [.v (.int .i64 x.a), .v (.int .i64 x.b), .v (.int .i64 x.c), .ref [25, 3]]) ∧ σ [8] = some (.box 109 [.ref [25, 3]]) ∧ σ [25, 3] = some (.row 40 7 (ra snC x.h))) ∨
           (1 ≤ i ∧ σ [6] = some (.box 25 [.v (.int .i64 x.a), .v (.int .i64 (x.b + i)), .v (.int .i64 x.c), .any]) ∧ σ [8] = some (.box 109 [.ref [1000002, 8, 0]]) ∧ σ [1000002, 8, 0] = some (.row 40 7 (ra snC (x.h ++ pushS x msg i)))))) ?_ ?_ ?_
      · intro vals
        simp -dsimp -implicitDefEqProofs only [go_sem, Nat.reduceBEq, Nat.reduceAdd, Nat.reduceLeDiff, Nat.reduceSub, Int.reduceEq]
        exact ⟨rfl, .inl trivial⟩
      · rintro vals i σ hlt ⟨⟨p2, p4, p6, p7, p8⟩, h2', h4', h7', hor⟩
        have hlt : i < pcN msg := by rw [bytesA_length] at hlt; unfold pcN; omega
        have en : IntKind.i64.wrap (((pcN msg - i : Nat) : Int) - 1) = ((pcN msg - (i + 1) : Nat) : Int) := by rw [wrap_i64_of (by omega) (by omega)]; omega
        have ed : decide (((pcN msg - (i + 1) : Nat) : Int) = 0) = decide (i + 1 = pcN msg) := decide_eq_decide.2 (by omega)
        have eb : IntKind.i64.wrap (x.b + (i : Int) + 1) = x.b + ((i + 1 : Nat) : Int) := by rw [wrap_i64_of (by omega) (by omega)]; omega
        have hpl : (List.take 100 (List.drop (100 * i) msg)).length ≤ 1048576 := by simp; omega
        have hql : (x.h ++ pushS x msg i).length ≤ 1048576 := by rw [List.length_append, pushS_len]; omega
        rcases hor with ⟨hi0, h6', h8', hq'⟩ | ⟨hi0, h6', h8', hq'⟩
        · have h6' : σ [6] = some (.box 25 [.v (.int .i64 x.a), .v (.int .i64 (x.b + i)), .v (.int .i64 x.c), .ref [25, 3]]) := by rw [h6', hi0]; simp
          have hq' : σ [25, 3] = some (.row 40 7 (ra snC (x.h ++ pushS x msg i))) := by rw [hq', hi0]; simp [pushS]
          simp -dsimp -implicitDefEqProofs only [go_sem, Nat.reduceBEq, Nat.reduceAdd, Nat.reduceLeDiff, Nat.reduceSub, Int.reduceEq, p2, p4, p6, p7, p8, h2', h4', h7', h6', h8', hq', en, ed]
          repeat' (first | with_reducible refine ask.of (by first | omega | decide) ?_ | simp -dsimp -implicitDefEqProofs only [go_sem, Nat.reduceBEq, Nat.reduceAdd, Nat.reduceLeDiff, Nat.reduceSub, Int.reduceEq, p2, p4, p6, p7, p8, h2', h4', h7', h6', h8', hq', bleR, bl4, en, ed])
          refine CallE.of (c_bytesClone (List.take 100 (List.drop (100 * i) msg)) (by omega)) (by rintro r rfl; (repeat' first | exact trivial | exact pure_rowB _ | exact pure_rowO _ | exact pure_rowI _ | exact pure_rowBB _ | exact pure_rowPk _ _ | exact pure_rowSn _ _ | exact pure_rowFd _ _ | exact pure_rowBBB _ | exact pure_rowCl _ _ | exact pure_rowTb _ _ _ | refine And.intro ?_ ?_)) (by simp -dsimp -implicitDefEqProofs only [go_sem, Nat.reduceBEq, Nat.reduceAdd, Nat.reduceLeDiff, Nat.reduceSub, Int.reduceEq, p2, p4, p6, p7, p8, h2', h4', h7', h6', h8', hq']) ?_
          rintro r rfl
          simp -dsimp -implicitDefEqProofs only [go_sem, Nat.reduceBEq, Nat.reduceAdd, Nat.reduceLeDiff, Nat.reduceSub, Int.reduceEq, p2, p4, p6, p7, p8, h2', h4', h7', h6', h8', hq']
          repeat' (first | with_reducible refine ask.of (by first | omega | decide) ?_ | simp -dsimp -implicitDefEqProofs only [go_sem, Nat.reduceBEq, Nat.reduceAdd, Nat.reduceLeDiff, Nat.reduceSub, Int.reduceEq, p2, p4, p6, p7, p8, h2', h4', h7', h6', h8', hq', bleR, bl4, bl67, en, ed])
          refine CallE.mutLend (c_put (x.h ++ pushS x msg i) (pushSn x msg i) hql hpl) (by simp -dsimp -implicitDefEqProofs only [go_sem, Nat.reduceBEq, Nat.reduceAdd, Nat.reduceLeDiff, Nat.reduceSub, Int.reduceEq, p2, p4, p6, p7, p8, h2', h4', h7', h6', h8', hq']) (by simp -dsimp -implicitDefEqProofs only [go_sem, Nat.reduceBEq, Nat.reduceAdd, Nat.reduceLeDiff, Nat.reduceSub, Int.reduceEq, p2, p4, p6, p7, p8, h2', h4', h7', h6', h8', hq', snC, pushSn, pieceL]) (by simp -dsimp -implicitDefEqProofs only [go_sem, Nat.reduceBEq, Nat.reduceAdd, Nat.reduceLeDiff, Nat.reduceSub, Int.reduceEq, p2, p4, p6, p7, p8, h2', h4', h7', h6', h8', hq', snC, pushSn, pieceL]) ?_
          rintro r rs ⟨rfl, rfl⟩
          simp -dsimp -implicitDefEqProofs only [go_sem, Nat.reduceBEq, Nat.reduceAdd, Nat.reduceLeDiff, Nat.reduceSub, Int.reduceEq, p2, p4, p6, p7, p8, h2', h4', h7', h6', h8', hq', snC, pushSn, pieceL]
          repeat' (first | with_reducible refine ask.of (by first | omega | decide) ?_ | simp -dsimp -implicitDefEqProofs only [go_sem, Nat.reduceBEq, Nat.reduceAdd, Nat.reduceLeDiff, Nat.reduceSub, Int.reduceEq, p2, p4, p6, p7, p8, h2', h4', h7', h6', h8', hq', bleR, bl4, eb])
          refine .inr ?_
          rw [pushS_succ, ← List.append_assoc]; rfl
        · skip
          simp -dsimp -implicitDefEqProofs only [go_sem, Nat.reduceBEq, Nat.reduceAdd, Nat.reduceLeDiff, Nat.reduceSub, Int.reduceEq, p2, p4, p6, p7, p8, h2', h4', h7', h6', h8', hq', en, ed]
          repeat' (first | with_reducible refine ask.of (by first | omega | decide) ?_ | simp -dsimp -implicitDefEqProofs only [go_sem, Nat.reduceBEq, Nat.reduceAdd, Nat.reduceLeDiff, Nat.reduceSub, Int.reduceEq, p2, p4, p6, p7, p8, h2', h4', h7', h6', h8', hq', bleR, bl4, en, ed])
          refine CallE.of (c_bytesClone (List.take 100 (List.drop (100 * i) msg)) (by omega)) (by rintro r rfl; (repeat' first | exact trivial | exact pure_rowB _ | exact pure_rowO _ | exact pure_rowI _ | exact pure_rowBB _ | exact pure_rowPk _ _ | exact pure_rowSn _ _ | exact pure_rowFd _ _ | exact pure_rowBBB _ | exact pure_rowCl _ _ | exact pure_rowTb _ _ _ | refine And.intro ?_ ?_)) (by simp -dsimp -implicitDefEqProofs only [go_sem, Nat.reduceBEq, Nat.reduceAdd, Nat.reduceLeDiff, Nat.reduceSub, Int.reduceEq, p2, p4, p6, p7, p8, h2', h4', h7', h6', h8', hq']) ?_
          rintro r rfl
          simp -dsimp -implicitDefEqProofs only [go_sem, Nat.reduceBEq, Nat.reduceAdd, Nat.reduceLeDiff, Nat.reduceSub, Int.reduceEq, p2, p4, p6, p7, p8, h2', h4', h7', h6', h8', hq']
          repeat' (first | with_reducible refine ask.of (by first | omega | decide) ?_ | simp -dsimp -implicitDefEqProofs only [go_sem, Nat.reduceBEq, Nat.reduceAdd, Nat.reduceLeDiff, Nat.reduceSub, Int.reduceEq, p2, p4, p6, p7, p8, h2', h4', h7', h6', h8', hq', bleR, bl4, bl67, en, ed])
          refine CallE.mutLend (c_put (x.h ++ pushS x msg i) (pushSn x msg i) hql hpl) (by simp -dsimp -implicitDefEqProofs only [go_sem, Nat.reduceBEq, Nat.reduceAdd, Nat.reduceLeDiff, Nat.reduceSub, Int.reduceEq, p2, p4, p6, p7, p8, h2', h4', h7', h6', h8', hq']) (by simp -dsimp -implicitDefEqProofs only [go_sem, Nat.reduceBEq, Nat.reduceAdd, Nat.reduceLeDiff, Nat.reduceSub, Int.reduceEq, p2, p4, p6, p7, p8, h2', h4', h7', h6', h8', hq', snC, pushSn, pieceL]) (by simp -dsimp -implicitDefEqProofs only [go_sem, Nat.reduceBEq, Nat.reduceAdd, Nat.reduceLeDiff, Nat.reduceSub, Int.reduceEq, p2, p4, p6, p7, p8, h2', h4', h7', h6', h8', hq', snC, pushSn, pieceL]) ?_
          rintro r rs ⟨rfl, rfl⟩
          simp -dsimp -implicitDefEqProofs only [go_sem, Nat.reduceBEq, Nat.reduceAdd, Nat.reduceLeDiff, Nat.reduceSub, Int.reduceEq, p2, p4, p6, p7, p8, h2', h4', h7', h6', h8', hq', snC, pushSn, pieceL]
          repeat' (first | with_reducible refine ask.of (by first | omega | decide) ?_ | simp -dsimp -implicitDefEqProofs only [go_sem, Nat.reduceBEq, Nat.reduceAdd, Nat.reduceLeDiff, Nat.reduceSub, Int.reduceEq, p2, p4, p6, p7, p8, h2', h4', h7', h6', h8', hq', bleR, bl4, eb])
          refine .inr ?_
          rw [pushS_succ, ← List.append_assoc]; rfl
      · rintro vals σ ⟨⟨p2, p4, p6, p7, p8⟩, h2', h4', h7', hor⟩
        have eN : ((bytesA msg).length + 99) / 100 = pcN msg := by rw [bytesA_length]; rfl
        rw [eN] at hor
        rcases hor with ⟨hi0, _⟩ | ⟨hi0, h6', h8', hq'⟩
        · omega
        rw [pushL_yes ⟨hv, h1⟩ (by omega) (by omega)]
        simp -dsimp -implicitDefEqProofs only [go_sem, Nat.reduceBEq, Nat.reduceAdd, Nat.reduceLeDiff, Nat.reduceSub, Int.reduceEq, p2, p4, p6, p7, p8, h2', h4', h7', h6', h8', hq']
        repeat' (first | with_reducible refine ask.of (by first | omega | decide) ?_ | simp -dsimp -implicitDefEqProofs only [go_sem, Nat.reduceBEq, Nat.reduceAdd, Nat.reduceLeDiff, Nat.reduceSub, Int.reduceEq, p2, p4, p6, p7, p8, h2', h4', h7', h6', h8', hq', bleR, bl4])
        rfl
    · repeat' (first | exact push_no fun h => h1 h.2 | with_reducible refine ask.of (by omega) ?_ | with_reducible refine ifB'.of (fun _ => ?_) (fun _ => ?_) | simp -dsimp -implicitDefEqProofs only [go_sem, Nat.reduceBEq, Nat.reduceAdd, Nat.reduceLeDiff, Nat.reduceSub, Int.reduceEq, bleR, bl4, Bool.not_true, Bool.not_false, initE])
      all_goals (exfalso; omega)
theorem tz0 : Int.toNat 0 = 0 := rfl
theorem tz100 : Int.toNat 100 = 100 := rfl
theorem push_e (x : LO) (msg : List UInt8) (i : Nat) : x.h ++ pushS x msg i ++ [pushSn x msg i] = x.h ++ pushS x msg (i + 1) := by rw [pushS_succ, ← List.append_assoc]
theorem push_snoc (x : LO) (msg : List UInt8) (i : Nat) : ra snC (x.h ++ pushS x msg i) ++ [[.v (.int .i64 1), .v (.int .i64 x.a), .v (.int .i64 (x.b + i)), .v (.int .i64 0), .v (.bool (decide (i + 1 = pcN msg))), .row 5 1 (bytesA (pieceL msg i)), .v (.int .i64 (-1))]] = ra snC (x.h ++ pushS x msg (i + 1)) := by rw [← push_e]; simp [ra, snC, pushSn]
set_option maxRecDepth 8000 in
set_option maxHeartbeats 2000000 in
theorem c_specLinkPush (x : LO) (msg : List UInt8) (hx : x.h.length ≤ 1048576) (hb : ∀ b ∈ x.h, b.p.f.length ≤ 1048576) (hl : msg.length ≤ 1048576) : Meets Try.prog 168 [.agg (loC 40 x), rowB msg] (fun r => r = resL (pushL x msg)) := by
  refine Meets.introO mixed (hint []) (fun k => (sel (k == 15) [999,0,1,2,3,4,5,6,7,8,9,10,1013,11,12,13,14] [])) Try.func168 rfl (by decide) res_168 rty_168 (by kernel_rfl) ?_; 
  simp -dsimp -implicitDefEqProofs only [go_sem, Nat.reduceBEq, Nat.reduceAdd, Nat.reduceLeDiff, Nat.reduceSub, Int.reduceEq, loC]
  repeat (first | with_reducible refine ask.of (by omega) ?_ | simp -dsimp -implicitDefEqProofs only [go_sem, Nat.reduceBEq, Nat.reduceAdd, Nat.reduceLeDiff, Nat.reduceSub, Int.reduceEq, bleR, bl4])
  refine CallE.of (c_specValidOut x hx hb) (by rintro r rfl; (repeat' first | exact trivial | exact pure_rowB _ | exact pure_rowO _ | exact pure_rowI _ | exact pure_rowBB _ | exact pure_rowPk _ _ | exact pure_rowSn _ _ | exact pure_rowFd _ _ | exact pure_rowBBB _ | exact pure_rowCl _ _ | exact pure_rowTb _ _ _ | refine And.intro ?_ ?_)) (by simp -dsimp -implicitDefEqProofs only [go_sem, Nat.reduceBEq, Nat.reduceAdd, Nat.reduceLeDiff, Nat.reduceSub, Int.reduceEq, loC]) ?_
  rintro r rfl
  simp -dsimp -implicitDefEqProofs only [go_sem, Nat.reduceBEq, Nat.reduceAdd, Nat.reduceLeDiff, Nat.reduceSub, Int.reduceEq, loC]
  cases hv : loB x
  · have hv := loB_f hv
    repeat' (first | with_reducible refine ask.of (by omega) ?_ | simp -dsimp -implicitDefEqProofs only [go_sem, Nat.reduceBEq, Nat.reduceAdd, Nat.reduceLeDiff, Nat.reduceSub, Int.reduceEq, bleR, bl4, Bool.not_false])
    exact push_no fun h => hv h.1
  · have hv := loB_t hv
    by_cases h1 : 1 ≤ msg.length ∧ msg.length ≤ 20000
    · repeat' (first | with_reducible refine ask.of (by omega) ?_ | with_reducible refine ifB'.no (by omega) ?_ | simp -dsimp -implicitDefEqProofs only [go_sem, Nat.reduceBEq, Nat.reduceAdd, Nat.reduceLeDiff, Nat.reduceSub, Int.reduceEq, bleR, bl4, Bool.not_true, initE])
      refine CallE.of (c_l5out x hx hb) (by rintro r rfl; (repeat' first | exact trivial | exact pure_rowB _ | exact pure_rowO _ | exact pure_rowI _ | exact pure_rowBB _ | exact pure_rowPk _ _ | exact pure_rowSn _ _ | exact pure_rowFd _ _ | exact pure_rowBBB _ | exact pure_rowCl _ _ | exact pure_rowTb _ _ _ | refine And.intro ?_ ?_)) (by simp -dsimp -implicitDefEqProofs only [go_sem, Nat.reduceBEq, Nat.reduceAdd, Nat.reduceLeDiff, Nat.reduceSub, Int.reduceEq, loC]) ?_
      rintro r rfl
      simp -dsimp -implicitDefEqProofs only [go_sem, Nat.reduceBEq, Nat.reduceAdd, Nat.reduceLeDiff, Nat.reduceSub, Int.reduceEq, loC]
      have hn := pcN_eq hl
      have hnb : 1 ≤ pcN msg ∧ pcN msg ≤ 200 := by unfold pcN; omega
      have hbo := lo_bnd hv
      have e1 : IntKind.i64.wrap ((x.h.length : Int) + (pcN msg : Int)) = ((x.h.length + pcN msg : Nat) : Int) := by rw [wrap_i64_of (by omega) (by omega)]; omega
      have e2 : IntKind.i64.wrap (x.b + (pcN msg : Int)) = x.b + (pcN msg : Int) := wrap_i64_of (by omega) (by omega)
      repeat' (first | with_reducible refine ask.of (by first | omega | decide) ?_ | simp -dsimp -implicitDefEqProofs only [go_sem, Nat.reduceBEq, Nat.reduceAdd, Nat.reduceLeDiff, Nat.reduceSub, Int.reduceEq, bleR, bl4, initE, hn, e1])
      refine ifB'.of (fun h2 => ?_) (fun h2 => ?_)
      · rw [pushL_full ⟨hv, h1⟩ (by omega)]
        repeat' (first | with_reducible refine ask.of (by first | omega | decide) ?_ | simp -dsimp -implicitDefEqProofs only [go_sem, Nat.reduceBEq, Nat.reduceAdd, Nat.reduceLeDiff, Nat.reduceSub, Int.reduceEq, bleR, bl4, initE])
        rfl
      repeat' (first | with_reducible refine ask.of (by first | omega | decide) ?_ | simp -dsimp -implicitDefEqProofs only [go_sem, Nat.reduceBEq, Nat.reduceAdd, Nat.reduceLeDiff, Nat.reduceSub, Int.reduceEq, bleR, bl4, initE, hn, e2])
      refine ifB'.of (fun h3 => ?_) (fun h3 => ?_)
      · rw [pushL_end ⟨hv, h1⟩ (by omega) (by omega)]
        repeat' (first | with_reducible refine ask.of (by first | omega | decide) ?_ | simp -dsimp -implicitDefEqProofs only [go_sem, Nat.reduceBEq, Nat.reduceAdd, Nat.reduceLeDiff, Nat.reduceSub, Int.reduceEq, bleR, bl4, initE])
        rfl
      repeat' (first | with_reducible refine ask.of (by first | omega | decide) ?_ | simp -dsimp -implicitDefEqProofs only [go_sem, Nat.reduceBEq, Nat.reduceAdd, Nat.reduceLeDiff, Nat.reduceSub, Int.reduceEq, bleR, bl4, initE])
      refine LoopE.cnt (pcN msg) (fun i s => s.env 1 = .rd .ent 5 1 (bytesA msg) ∧ s.env 2 = .ptr [2] 0 0 0 ∧ s.env 4 = .ptr [4] 0 0 0 ∧ s.env 6 = .ptr [6] 0 0 0 ∧ s.env 7 = .v (.int .i64 (pcN msg)) ∧ s.env 8 = .v (.int .i64 i) ∧
        s.σ [2] = some (.box 25 [.v (.int .i64 x.a), .v (.int .i64 x.b), .v (.int .i64 x.c), .rd .ent 40 7 (ra snC x.h)]) ∧ s.σ [4] = some (.box 25 [.v (.int .i64 0), .v (.int .i64 0), .v (.int .i64 0), .v (.slice none 0 0)]) ∧
        s.σ [6] = some (.box 25 [.v (.int .i64 x.a), .v (.int .i64 x.b), .v (.int .i64 x.c), .ref [26, 3]]) ∧ s.σ [26, 3] = some (.row 40 7 (ra snC (x.h ++ pushS x msg i)))) ⟨by simp -dsimp -implicitDefEqProofs only [go_sem, Nat.reduceBEq, Nat.reduceAdd, Nat.reduceLeDiff, Nat.reduceSub, Int.reduceEq, initE], by simp -dsimp -implicitDefEqProofs only [go_sem, Nat.reduceBEq, Nat.reduceAdd, Nat.reduceLeDiff, Nat.reduceSub, Int.reduceEq], by simp -dsimp -implicitDefEqProofs only [go_sem, Nat.reduceBEq, Nat.reduceAdd, Nat.reduceLeDiff, Nat.reduceSub, Int.reduceEq], by simp -dsimp -implicitDefEqProofs only [go_sem, Nat.reduceBEq, Nat.reduceAdd, Nat.reduceLeDiff, Nat.reduceSub, Int.reduceEq], by simp -dsimp -implicitDefEqProofs only [go_sem, Nat.reduceBEq, Nat.reduceAdd, Nat.reduceLeDiff, Nat.reduceSub, Int.reduceEq, initE, hn], by simp -dsimp -implicitDefEqProofs only [go_sem, Nat.reduceBEq, Nat.reduceAdd, Nat.reduceLeDiff, Nat.reduceSub, Int.reduceEq] <;> rfl, by simp -dsimp -implicitDefEqProofs only [go_sem, Nat.reduceBEq, Nat.reduceAdd, Nat.reduceLeDiff, Nat.reduceSub, Int.reduceEq], by simp -dsimp -implicitDefEqProofs only [go_sem, Nat.reduceBEq, Nat.reduceAdd, Nat.reduceLeDiff, Nat.reduceSub, Int.reduceEq], by simp -dsimp -implicitDefEqProofs only [go_sem, Nat.reduceBEq, Nat.reduceAdd, Nat.reduceLeDiff, Nat.reduceSub, Int.reduceEq], by simp -dsimp -implicitDefEqProofs only [go_sem, Nat.reduceBEq, Nat.reduceAdd, Nat.reduceLeDiff, Nat.reduceSub, Int.reduceEq] <;> simp [pushS]⟩ ?_
      rintro i ⟨e, σ⟩ hi ⟨g1, g2, g4, g6, g7, g8, s2, s4, s6, sq⟩ K hK
      simp only at g1 g2 g4 g6 g7 g8 s2 s4 s6 sq
      simp -dsimp -implicitDefEqProofs only [go_sem, Nat.reduceBEq, Nat.reduceAdd, Nat.reduceLeDiff, Nat.reduceSub, Int.reduceEq, g1, g2, g4, g6, g7, g8, s2, s4, s6, sq]
      refine ifB'.of (fun hlt => ?_) (fun hlt => ?_)
      · have hlt : i < pcN msg := by omega
        have hlt2 : 100 * i < msg.length := by unfold pcN at hlt; omega
        have em : IntKind.i64.wrap ((i : Int) * 100) = ((100 * i : Nat) : Int) := by rw [wrap_i64_of (by omega) (by omega)]; omega
        have en : IntKind.i64.wrap ((pcN msg : Int) - 1) = ((pcN msg - 1 : Nat) : Int) := by rw [wrap_i64_of (by omega) (by omega)]; omega
        have ed : decide ((i : Int) = ((pcN msg - 1 : Nat) : Int)) = decide (i + 1 = pcN msg) := decide_eq_decide.2 (by omega)
        have eb : IntKind.i64.wrap (x.b + (i : Int)) = x.b + (i : Int) := by rw [wrap_i64_of (by omega) (by omega)]
        have hpl : (pieceL msg i).length ≤ 1048576 := by unfold pieceL; simp; omega
        have hql : (x.h ++ pushS x msg i).length ≤ 1048576 := by rw [List.length_append, pushS_len]; omega
        repeat' (first | with_reducible refine ask.of (by first | omega | decide | (simp; omega)) ?_ | simp -dsimp -implicitDefEqProofs only [go_sem, Nat.reduceBEq, Nat.reduceAdd, Nat.reduceLeDiff, Nat.reduceSub, Int.reduceEq, g1, g2, g4, g6, g7, g8, s2, s4, s6, sq, bleR, bl4, em, Int.toNat_natCast, List.take_length])
        refine ifB'.of (fun hc => ?_) (fun hc => ?_)
        · have ep : List.take 100 (List.drop (100 * i) msg) = pieceL msg i := rfl
          repeat' (first | with_reducible refine ask.of (by first | omega | decide | (simp; omega)) ?_ | simp -dsimp -implicitDefEqProofs only [go_sem, Nat.reduceBEq, Nat.reduceAdd, Nat.reduceLeDiff, Nat.reduceSub, Int.reduceEq, g1, g2, g4, g6, g7, g8, s2, s4, s6, sq, bleR, bl4, em, en, ed, eb, Int.toNat_natCast, List.take_length, List.drop_zero, tz0, tz100, ep])
          refine CallE.of (c_l1copy (pieceL msg i) (by omega)) (by rintro r rfl; (repeat' first | exact trivial | exact pure_rowB _ | exact pure_rowO _ | exact pure_rowI _ | exact pure_rowBB _ | exact pure_rowPk _ _ | exact pure_rowSn _ _ | exact pure_rowFd _ _ | exact pure_rowBBB _ | exact pure_rowCl _ _ | exact pure_rowTb _ _ _ | refine And.intro ?_ ?_)) (by simp -dsimp -implicitDefEqProofs only [go_sem, Nat.reduceBEq, Nat.reduceAdd, Nat.reduceLeDiff, Nat.reduceSub, Int.reduceEq, g1, g2, g4, g6, g7, g8, s2, s4, s6, sq]) ?_
          rintro r rfl
          simp -dsimp -implicitDefEqProofs only [go_sem, Nat.reduceBEq, Nat.reduceAdd, Nat.reduceLeDiff, Nat.reduceSub, Int.reduceEq, g1, g2, g4, g6, g7, g8, s2, s4, s6, sq]
          repeat' (first | with_reducible refine ask.of (by first | omega | decide | (simp only [ra_length, List.length_cons, List.length_nil]; omega)) ?_ | simp -dsimp -implicitDefEqProofs only [go_sem, Nat.reduceBEq, Nat.reduceAdd, Nat.reduceLeDiff, Nat.reduceSub, Int.reduceEq, g1, g2, g4, g6, g7, g8, s2, s4, s6, sq, bleR, bl4, bl67, en, ed, eb, push_snoc])
          refine hK _ hlt ?_
          simp -dsimp -implicitDefEqProofs only [go_sem, Nat.reduceBEq, Nat.reduceAdd, Nat.reduceLeDiff, Nat.reduceSub, Int.reduceEq, g1, g2, g4, g6, g7, g8, s2, s4, s6, sq, wrap_succ (show i < 4611686018427387904 by omega)]
        · have ep : List.drop (100 * i) msg = pieceL msg i := (List.take_of_length_le (by simp at hc ⊢; omega)).symm
          repeat' (first | with_reducible refine ask.of (by first | omega | decide | (simp; omega)) ?_ | simp -dsimp -implicitDefEqProofs only [go_sem, Nat.reduceBEq, Nat.reduceAdd, Nat.reduceLeDiff, Nat.reduceSub, Int.reduceEq, g1, g2, g4, g6, g7, g8, s2, s4, s6, sq, bleR, bl4, em, en, ed, eb, Int.toNat_natCast, List.take_length, List.drop_zero, tz0, tz100, ep])
          refine CallE.of (c_l1copy (pieceL msg i) (by omega)) (by rintro r rfl; (repeat' first | exact trivial | exact pure_rowB _ | exact pure_rowO _ | exact pure_rowI _ | exact pure_rowBB _ | exact pure_rowPk _ _ | exact pure_rowSn _ _ | exact pure_rowFd _ _ | exact pure_rowBBB _ | exact pure_rowCl _ _ | exact pure_rowTb _ _ _ | refine And.intro ?_ ?_)) (by simp -dsimp -implicitDefEqProofs only [go_sem, Nat.reduceBEq, Nat.reduceAdd, Nat.reduceLeDiff, Nat.reduceSub, Int.reduceEq, g1, g2, g4, g6, g7, g8, s2, s4, s6, sq]) ?_
          rintro r rfl
          simp -dsimp -implicitDefEqProofs only [go_sem, Nat.reduceBEq, Nat.reduceAdd, Nat.reduceLeDiff, Nat.reduceSub, Int.reduceEq, g1, g2, g4, g6, g7, g8, s2, s4, s6, sq]
          repeat' (first | with_reducible refine ask.of (by first | omega | decide | (simp only [ra_length, List.length_cons, List.length_nil]; omega)) ?_ | simp -dsimp -implicitDefEqProofs only [go_sem, Nat.reduceBEq, Nat.reduceAdd, Nat.reduceLeDiff, Nat.reduceSub, Int.reduceEq, g1, g2, g4, g6, g7, g8, s2, s4, s6, sq, bleR, bl4, bl67, en, ed, eb, push_snoc])
          refine hK _ hlt ?_
          simp -dsimp -implicitDefEqProofs only [go_sem, Nat.reduceBEq, Nat.reduceAdd, Nat.reduceLeDiff, Nat.reduceSub, Int.reduceEq, g1, g2, g4, g6, g7, g8, s2, s4, s6, sq, wrap_succ (show i < 4611686018427387904 by omega)]
      · have : i = pcN msg := by omega
        subst this
        rw [pushL_yes ⟨hv, h1⟩ (by omega) (by omega)]
        repeat' (first | with_reducible refine ask.of (by first | omega | decide) ?_ | simp -dsimp -implicitDefEqProofs only [go_sem, Nat.reduceBEq, Nat.reduceAdd, Nat.reduceLeDiff, Nat.reduceSub, Int.reduceEq, g1, g2, g4, g6, g7, g8, s2, s4, s6, sq, bleR, bl4, e2])
        rfl
    · repeat' (first | exact push_no fun h => h1 h.2 | with_reducible refine ask.of (by omega) ?_ | with_reducible refine ifB'.of (fun _ => ?_) (fun _ => ?_) | simp -dsimp -implicitDefEqProofs only [go_sem, Nat.reduceBEq, Nat.reduceAdd, Nat.reduceLeDiff, Nat.reduceSub, Int.reduceEq, bleR, bl4, Bool.not_true, Bool.not_false, initE])
      all_goals (exfalso; omega)
end Go.Ev
set_option linter.unusedSimpArgs false
set_option linter.unusedVariables false
namespace Go.Ev
open Go Go.RowKit Go.Proofs
theorem bk7 : Nat.ble 6 7 = true ∧ Nat.ble 7 7 = true := ⟨rfl, rfl⟩
def dueB (now : Int) (s : Sn) : Bool := decide (s.q = -1 ∨ s.q ≤ now - 4)
def tkS (now : Int) (s : Sn) : Sn := bif dueB now s then ⟨s.p, now⟩ else s
def tkH (now : Int) (n : Nat) (h : List Sn) : List Sn := (h.take n).map (tkS now) ++ h.drop n
def tkO (now : Int) (n : Nat) (h : List Sn) : List (List UInt8) := ((h.take n).filter (dueB now)).map fun s => encP s.p
theorem tkH_zero (now : Int) (h : List Sn) : tkH now 0 h = h := by simp [tkH]
theorem tkO_zero (now : Int) (h : List Sn) : tkO now 0 h = [] := by simp [tkO]
theorem tkH_len (now : Int) (n : Nat) (h : List Sn) : (tkH now n h).length = h.length := by simp [tkH]; omega
theorem tkH_at (now : Int) {i : Nat} {h : List Sn} (hi : i < h.length) : (tkH now i h)[i]? = some h[i] := by
  rw [tkH, List.getElem?_append_right (by simp; omega)]
  have : i - ((h.take i).map (tkS now)).length = 0 := by simp; omega
  rw [this]; simp [hi]
theorem tkH_set (now : Int) {i : Nat} {h : List Sn} (hi : i < h.length) : (tkH now i h).set i (tkS now h[i]) = tkH now (i + 1) h := by
  rw [tkH, tkH, List.set_append_right _ _ (by simp; omega), List.take_succ_eq_append_getElem hi, List.map_append, List.append_assoc]
  have : i - ((h.take i).map (tkS now)).length = 0 := by simp; omega
  rw [this, List.drop_eq_getElem_cons hi]
  rfl
theorem tkS_due {now : Int} {s : Sn} (h : s.q = -1 ∨ s.q ≤ now - 4) : tkS now s = ⟨s.p, now⟩ := by simp [tkS, dueB, h]
theorem tkS_not {now : Int} {s : Sn} (h : ¬ (s.q = -1 ∨ s.q ≤ now - 4)) : tkS now s = s := by simp only [tkS, dueB, decide_eq_false h]; rfl
theorem tkH_keep (now : Int) {i : Nat} {h : List Sn} (hi : i < h.length) (hn : ¬ (h[i].q = -1 ∨ h[i].q ≤ now - 4)) : tkH now (i + 1) h = tkH now i h := by
  rw [← tkH_set now hi, tkS_not hn]
  have := tkH_at now hi
  exact List.ext_getElem? fun j => by
    rw [List.getElem?_set]
    split
    · rename_i e; subst e
      rw [if_pos (by rw [tkH_len]; exact hi), this]
    · rfl
theorem tkO_due (now : Int) {i : Nat} {h : List Sn} (hi : i < h.length) (hn : h[i].q = -1 ∨ h[i].q ≤ now - 4) : tkO now (i + 1) h = tkO now i h ++ [encP h[i].p] := by
  rw [tkO, List.take_succ_eq_append_getElem hi, List.filter_append, List.map_append]
  simp [tkO, dueB, hn]
theorem tkO_keep (now : Int) {i : Nat} {h : List Sn} (hi : i < h.length) (hn : ¬ (h[i].q = -1 ∨ h[i].q ≤ now - 4)) : tkO now (i + 1) h = tkO now i h := by
  rw [tkO, List.take_succ_eq_append_getElem hi, List.filter_append, List.map_append]
  simp [tkO, dueB, hn]
theorem tkO_len (now : Int) (i : Nat) (h : List Sn) : (tkO now i h).length ≤ i := by
  have := List.length_filter_le (dueB now) (h.take i)
  simp [tkO] at *; omega
noncomputable def tickL (x : LO) : LO × List (List UInt8) × Int := @ite _ (okLO x) (Classical.propDecidable _) (if x.c = 1000000000 then (x, [], 6) else (⟨x.a, x.b, x.c + 1, tkH (x.c + 1) (min 8 x.h.length) x.h⟩, tkO (x.c + 1) (min 8 x.h.length) x.h, 0)) (lo0, [], 1)
theorem tickL_no {x : LO} (h : ¬ okLO x) : tickL x = (lo0, [], 1) := @if_neg _ (Classical.propDecidable _) h _ _ _
theorem tickL_end {x : LO} (h : okLO x) (h2 : x.c = 1000000000) : tickL x = (x, [], 6) := (@if_pos _ (Classical.propDecidable _) h _ _ _).trans (if_pos h2)
theorem tickL_yes {x : LO} (h : okLO x) (h2 : ¬ x.c = 1000000000) : tickL x = (⟨x.a, x.b, x.c + 1, tkH (x.c + 1) (min 8 x.h.length) x.h⟩, tkO (x.c + 1) (min 8 x.h.length) x.h, 0) := (@if_pos _ (Classical.propDecidable _) h _ _ _).trans (if_neg h2)
noncomputable def resT (xc : LO × List (List UInt8) × Int) : AV := .tup [.agg (loC 40 xc.1), rowBB xc.2.1, .v (.int .i64 xc.2.2)]
theorem sn_setq {h : List Sn} {now : Int} {i : Nat} (hi : i < h.length) (hd : h[i].q = -1 ∨ h[i].q ≤ now - 4) : (ra snC (tkH now i h)).set i [.v (.int .i64 h[i].p.a), .v (.int .i64 h[i].p.b), .v (.int .i64 h[i].p.c), .v (.int .i64 h[i].p.d), .v (.bool h[i].p.e), .row 5 1 (bytesA h[i].p.f), .v (.int .i64 now)] = ra snC (tkH now (i + 1) h) := by
  rw [← tkH_set now hi, tkS_due hd]
  exact ra_set (enc := snC) _ i ⟨h[i].p, now⟩
set_option maxRecDepth 8000 in
set_option maxHeartbeats 2000000 in
theorem c_implLinkTick (x : LO) (hx : x.h.length ≤ 1048576) (hb : ∀ b ∈ x.h, b.p.f.length ≤ 1048576) : Meets Try.prog 12 [.agg (loC 40 x)] (fun r => r = resT (tickL x)) := by
  refine Meets.intro mixed (hint []) Try.func12 rfl (by decide) res_12 rty_12 (by kernel_rfl) ?_; 
  simp -dsimp -implicitDefEqProofs only [go_sem, Nat.reduceBEq, Nat.reduceAdd, Nat.reduceLeDiff, Nat.reduceSub, Int.reduceEq, loC]
  repeat (first | with_reducible refine ask.of (by omega) ?_ | simp -dsimp -implicitDefEqProofs only [go_sem, Nat.reduceBEq, Nat.reduceAdd, Nat.reduceLeDiff, Nat.reduceSub, Int.reduceEq, bleR, bl4])
  refine CallE.of (c_implValidOut x hx hb) (by rintro r rfl; (repeat' first | exact trivial | exact pure_rowB _ | exact pure_rowO _ | exact pure_rowI _ | exact pure_rowBB _ | exact pure_rowPk _ _ | exact pure_rowSn _ _ | exact pure_rowFd _ _ | exact pure_rowBBB _ | exact pure_rowCl _ _ | exact pure_rowTb _ _ _ | refine And.intro ?_ ?_)) (by simp -dsimp -implicitDefEqProofs only [go_sem, Nat.reduceBEq, Nat.reduceAdd, Nat.reduceLeDiff, Nat.reduceSub, Int.reduceEq, loC]) ?_
  rintro r rfl
  simp -dsimp -implicitDefEqProofs only [go_sem, Nat.reduceBEq, Nat.reduceAdd, Nat.reduceLeDiff, Nat.reduceSub, Int.reduceEq, loC]
  cases hv : loB x
  · have hv := loB_f hv
    repeat (first | with_reducible refine ask.of (by omega) ?_ | simp -dsimp -implicitDefEqProofs only [go_sem, Nat.reduceBEq, Nat.reduceAdd, Nat.reduceLeDiff, Nat.reduceSub, Int.reduceEq, bleR, bl4, Bool.not_false])
    rw [tickL_no hv]; rfl
  have hv := loB_t hv
  have hc : 0 ≤ x.c ∧ x.c ≤ 1000000000 := ⟨hv.1.2.2.2.2.1, hv.1.2.2.2.2.2.1⟩
  repeat (first | with_reducible refine ask.of (by omega) ?_ | simp -dsimp -implicitDefEqProofs only [go_sem, Nat.reduceBEq, Nat.reduceAdd, Nat.reduceLeDiff, Nat.reduceSub, Int.reduceEq, bleR, bl4, Bool.not_true])
  refine CallE.of (c_outCopy x hx hb) (by rintro r rfl; (repeat' first | exact trivial | exact pure_rowB _ | exact pure_rowO _ | exact pure_rowI _ | exact pure_rowBB _ | exact pure_rowPk _ _ | exact pure_rowSn _ _ | exact pure_rowFd _ _ | exact pure_rowBBB _ | exact pure_rowCl _ _ | exact pure_rowTb _ _ _ | refine And.intro ?_ ?_)) (by simp -dsimp -implicitDefEqProofs only [go_sem, Nat.reduceBEq, Nat.reduceAdd, Nat.reduceLeDiff, Nat.reduceSub, Int.reduceEq, loC]) ?_
  rintro r rfl
  simp -dsimp -implicitDefEqProofs only [go_sem, Nat.reduceBEq, Nat.reduceAdd, Nat.reduceLeDiff, Nat.reduceSub, Int.reduceEq, loC]
  repeat (first | with_reducible refine ask.of (by omega) ?_ | simp -dsimp -implicitDefEqProofs only [go_sem, Nat.reduceBEq, Nat.reduceAdd, Nat.reduceLeDiff, Nat.reduceSub, Int.reduceEq, bleR, bl4])
  refine ifB'.of (fun h => ?_) (fun h => ?_)
  · repeat (first | with_reducible refine ask.of (by omega) ?_ | simp -dsimp -implicitDefEqProofs only [go_sem, Nat.reduceBEq, Nat.reduceAdd, Nat.reduceLeDiff, Nat.reduceSub, Int.reduceEq, bleR, bl4])
    rw [tickL_end hv h]; rfl
  have ec : IntKind.i64.wrap (x.c + 1) = x.c + 1 := wrap_i64_of (by omega) (by omega)
  have ec4 : IntKind.i64.wrap (x.c + 1 - 4) = x.c + 1 - 4 := wrap_i64_of (by omega) (by omega)
  rw [tickL_yes hv h]
  obtain ⟨N, hN⟩ : ∃ N, min 8 x.h.length = N := ⟨_, rfl⟩
  have hN2 : N ≤ 8 ∧ N ≤ x.h.length := by omega
  rw [hN]
  repeat (first | with_reducible refine ask.of (by omega) ?_ | simp -dsimp -implicitDefEqProofs only [go_sem, Nat.reduceBEq, Nat.reduceAdd, Nat.reduceLeDiff, Nat.reduceSub, Int.reduceEq, bleR, bl4, ec])
  have hm : (x.h.length : Int) < 8 ∧ (x.h.length : Int) = N ∨ ¬ (x.h.length : Int) < 8 ∧ (8 : Int) = N := by omega
  rcases hm with ⟨hm, hm2⟩ | ⟨hm, hm2⟩
  all_goals
    first | rw [decide_eq_true hm] | rw [decide_eq_false hm]
    simp -dsimp -implicitDefEqProofs only [go_sem, Nat.reduceBEq, Nat.reduceAdd, Nat.reduceLeDiff, Nat.reduceSub, Int.reduceEq]
    refine LoopE.cnt N (fun i s => s.env 2 = .ptr [2] 0 0 0 ∧ s.env 5 = .ptr [5] 0 0 0 ∧ s.env 6 = .ref [23] ∧ s.env 27 = .v (.int .i64 (N : Nat)) ∧ s.env 28 = .v (.int .i64 i) ∧ s.σ [2] = some (.box 25 [.v (.int .i64 0), .v (.int .i64 0), .v (.int .i64 0), .v (.slice none 0 0)]) ∧ s.σ [5] = some (.box 25 [.v (.int .i64 x.a), .v (.int .i64 x.b), .v (.int .i64 (x.c + 1)), .ref [14, 3]])
      ∧ s.σ [14, 3] = some (.row 40 7 (ra snC (tkH (x.c + 1) i x.h))) ∧ s.σ [23] = some (.row 22 1 (ra byC (tkO (x.c + 1) i x.h)))) ⟨by simp -dsimp -implicitDefEqProofs only [go_sem, Nat.reduceBEq, Nat.reduceAdd, Nat.reduceLeDiff, Nat.reduceSub, Int.reduceEq], by simp -dsimp -implicitDefEqProofs only [go_sem, Nat.reduceBEq, Nat.reduceAdd, Nat.reduceLeDiff, Nat.reduceSub, Int.reduceEq], by simp -dsimp -implicitDefEqProofs only [go_sem, Nat.reduceBEq, Nat.reduceAdd, Nat.reduceLeDiff, Nat.reduceSub, Int.reduceEq], by simp -dsimp -implicitDefEqProofs only [go_sem, Nat.reduceBEq, Nat.reduceAdd, Nat.reduceLeDiff, Nat.reduceSub, Int.reduceEq, hm2], by simp -dsimp -implicitDefEqProofs only [go_sem, Nat.reduceBEq, Nat.reduceAdd, Nat.reduceLeDiff, Nat.reduceSub, Int.reduceEq] <;> rfl, by simp -dsimp -implicitDefEqProofs only [go_sem, Nat.reduceBEq, Nat.reduceAdd, Nat.reduceLeDiff, Nat.reduceSub, Int.reduceEq], by simp -dsimp -implicitDefEqProofs only [go_sem, Nat.reduceBEq, Nat.reduceAdd, Nat.reduceLeDiff, Nat.reduceSub, Int.reduceEq], by simp -dsimp -implicitDefEqProofs only [go_sem, Nat.reduceBEq, Nat.reduceAdd, Nat.reduceLeDiff, Nat.reduceSub, Int.reduceEq, tkH_zero], by simp -dsimp -implicitDefEqProofs only [go_sem, Nat.reduceBEq, Nat.reduceAdd, Nat.reduceLeDiff, Nat.reduceSub, Int.reduceEq, tkO_zero] <;> rfl⟩ ?_
    rintro i ⟨e, σ⟩ hi ⟨h2, h5, h6, h27, h28, hs2, hs5, hs14, hs23⟩ K hK
    simp only at h2 h5 h6 h27 h28 hs2 hs5 hs14 hs23
    simp -dsimp -implicitDefEqProofs only [go_sem, Nat.reduceBEq, Nat.reduceAdd, Nat.reduceLeDiff, Nat.reduceSub, Int.reduceEq, h2, h5, h6, h27, h28, hs2, hs5, hs14, hs23]
    refine ifB'.of (fun hlt => ?_) (fun hlt => ?_)
    · have hlt : i < N := by omega
      have hlt' : i < x.h.length := by omega
      have hp := hb _ (List.getElem_mem hlt')
      have htl := tkH_len (x.c + 1) i x.h
      have hol := tkO_len (x.c + 1) i x.h
      have hat : (ra snC (tkH (x.c + 1) i x.h))[i]? = some (snC x.h[i]) := ra_at' (tkH_at _ hlt')
      have hgs : ∀ c : List AV, ((ra snC (tkH (x.c + 1) i x.h)).set i c)[i]? = some c := fun c => by rw [List.getElem?_set_self]; rw [ra_length]; omega
      by_cases hd : x.h[i].q = -1 ∨ x.h[i].q ≤ x.c + 1 - 4
      · have e1 := sn_setq hlt' hd
        have e2 := tkO_due (x.c + 1) hlt' hd
        repeat' (first | with_reducible refine ask.of (by first | omega | decide) ?_ | ((with_reducible refine ifB'.of (fun h => ?_) (fun h => ?_)) <;> first | (exfalso; omega) | skip) | simp -dsimp -implicitDefEqProofs only [go_sem, Nat.reduceBEq, Nat.reduceAdd, Nat.reduceLeDiff, Nat.reduceSub, Int.reduceEq, h2, h5, h6, h27, h28, hs2, hs5, hs14, hs23, bleR, bl4, bk7, ble67, htl, hat, hgs, snC, ec4])
        all_goals
          refine CallE.of (c_implEncodePacket x.h[i].p hp) (by rintro r rfl; (repeat' first | exact trivial | exact pure_rowB _ | exact pure_rowO _ | exact pure_rowI _ | exact pure_rowBB _ | exact pure_rowPk _ _ | exact pure_rowSn _ _ | exact pure_rowFd _ _ | exact pure_rowBBB _ | exact pure_rowCl _ _ | exact pure_rowTb _ _ _ | refine And.intro ?_ ?_)) (by simp -dsimp -implicitDefEqProofs only [go_sem, Nat.reduceBEq, Nat.reduceAdd, Nat.reduceLeDiff, Nat.reduceSub, Int.reduceEq, h2, h5, h6, h27, h28, hs2, hs5, hs14, hs23, pkC, hgs]) ?_
          rintro r rfl
          simp -dsimp -implicitDefEqProofs only [go_sem, Nat.reduceBEq, Nat.reduceAdd, Nat.reduceLeDiff, Nat.reduceSub, Int.reduceEq, h2, h5, h6, h27, h28, hs2, hs5, hs14, hs23, pkC, hgs]
          repeat (first | with_reducible refine ask.of (by first | omega | decide | (simp only [ra_length, List.length_cons, List.length_nil]; omega)) ?_ | simp -dsimp -implicitDefEqProofs only [go_sem, Nat.reduceBEq, Nat.reduceAdd, Nat.reduceLeDiff, Nat.reduceSub, Int.reduceEq, h2, h5, h6, h27, h28, hs2, hs5, hs14, hs23, bleR, bl4, hgs, byA_snoc])
          refine hK _ hlt ?_
          simp -dsimp -implicitDefEqProofs only [go_sem, Nat.reduceBEq, Nat.reduceAdd, Nat.reduceLeDiff, Nat.reduceSub, Int.reduceEq, h2, h5, h6, h27, h28, hs2, hs5, hs14, hs23, wrap_succ (show i < 4611686018427387904 by omega), e1, e2, true_and]
      · have e1 := tkH_keep (x.c + 1) hlt' hd
        have e2 := tkO_keep (x.c + 1) hlt' hd
        repeat' (first | with_reducible refine ask.of (by first | omega | decide) ?_ | ((with_reducible refine ifB'.of (fun h => ?_) (fun h => ?_)) <;> first | (exfalso; omega) | skip) | simp -dsimp -implicitDefEqProofs only [go_sem, Nat.reduceBEq, Nat.reduceAdd, Nat.reduceLeDiff, Nat.reduceSub, Int.reduceEq, h2, h5, h6, h27, h28, hs2, hs5, hs14, hs23, bleR, bl4, bk7, ble67, htl, hat, hgs, snC, ec4])
        all_goals
          refine hK _ hlt ?_
          simp -dsimp -implicitDefEqProofs only [go_sem, Nat.reduceBEq, Nat.reduceAdd, Nat.reduceLeDiff, Nat.reduceSub, Int.reduceEq, h2, h5, h6, h27, h28, hs2, hs5, hs14, hs23, wrap_succ (show i < 4611686018427387904 by omega), e1, e2]
    · have : i = N := by omega
      subst this
      repeat (first | with_reducible refine ask.of (by first | omega | decide) ?_ | simp -dsimp -implicitDefEqProofs only [go_sem, Nat.reduceBEq, Nat.reduceAdd, Nat.reduceLeDiff, Nat.reduceSub, Int.reduceEq, h2, h5, h6, h27, h28, hs2, hs5, hs14, hs23, bleR, bl4])
      rfl
set_option maxRecDepth 8000 in
set_option maxHeartbeats 2000000 in
theorem c_specLinkTick (x : LO) (hx : x.h.length ≤ 1048576) (hb : ∀ b ∈ x.h, b.p.f.length ≤ 1048576) : Meets Try.prog 169 [.agg (loC 40 x)] (fun r => r = resT (tickL x)) := by
  refine Meets.intro mixed (hint [(6, 129)]) Try.func169 rfl (by decide) res_169 rty_169 (by kernel_rfl) ?_; 
  simp -dsimp -implicitDefEqProofs only [go_sem, Nat.reduceBEq, Nat.reduceAdd, Nat.reduceLeDiff, Nat.reduceSub, Int.reduceEq, loC]
  repeat (first | with_reducible refine ask.of (by omega) ?_ | simp -dsimp -implicitDefEqProofs only [go_sem, Nat.reduceBEq, Nat.reduceAdd, Nat.reduceLeDiff, Nat.reduceSub, Int.reduceEq, bleR, bl4])
  refine CallE.of (c_specValidOut x hx hb) (by rintro r rfl; (repeat' first | exact trivial | exact pure_rowB _ | exact pure_rowO _ | exact pure_rowI _ | exact pure_rowBB _ | exact pure_rowPk _ _ | exact pure_rowSn _ _ | exact pure_rowFd _ _ | exact pure_rowBBB _ | exact pure_rowCl _ _ | exact pure_rowTb _ _ _ | refine And.intro ?_ ?_)) (by simp -dsimp -implicitDefEqProofs only [go_sem, Nat.reduceBEq, Nat.reduceAdd, Nat.reduceLeDiff, Nat.reduceSub, Int.reduceEq, loC]) ?_
  rintro r rfl
  simp -dsimp -implicitDefEqProofs only [go_sem, Nat.reduceBEq, Nat.reduceAdd, Nat.reduceLeDiff, Nat.reduceSub, Int.reduceEq, loC]
  cases hv : loB x
  · have hv := loB_f hv
    repeat (first | with_reducible refine ask.of (by omega) ?_ | simp -dsimp -implicitDefEqProofs only [go_sem, Nat.reduceBEq, Nat.reduceAdd, Nat.reduceLeDiff, Nat.reduceSub, Int.reduceEq, bleR, bl4, Bool.not_false])
    rw [tickL_no hv]; rfl
  have hv := loB_t hv
  have hc : 0 ≤ x.c ∧ x.c ≤ 1000000000 := ⟨hv.1.2.2.2.2.1, hv.1.2.2.2.2.2.1⟩
  repeat (first | with_reducible refine ask.of (by omega) ?_ | simp -dsimp -implicitDefEqProofs only [go_sem, Nat.reduceBEq, Nat.reduceAdd, Nat.reduceLeDiff, Nat.reduceSub, Int.reduceEq, bleR, bl4, Bool.not_true])
  refine CallE.of (c_l5out x hx hb) (by rintro r rfl; (repeat' first | exact trivial | exact pure_rowB _ | exact pure_rowO _ | exact pure_rowI _ | exact pure_rowBB _ | exact pure_rowPk _ _ | exact pure_rowSn _ _ | exact pure_rowFd _ _ | exact pure_rowBBB _ | exact pure_rowCl _ _ | exact pure_rowTb _ _ _ | refine And.intro ?_ ?_)) (by simp -dsimp -implicitDefEqProofs only [go_sem, Nat.reduceBEq, Nat.reduceAdd, Nat.reduceLeDiff, Nat.reduceSub, Int.reduceEq, loC]) ?_
  rintro r rfl
  simp -dsimp -implicitDefEqProofs only [go_sem, Nat.reduceBEq, Nat.reduceAdd, Nat.reduceLeDiff, Nat.reduceSub, Int.reduceEq, loC]
  repeat (first | with_reducible refine ask.of (by omega) ?_ | simp -dsimp -implicitDefEqProofs only [go_sem, Nat.reduceBEq, Nat.reduceAdd, Nat.reduceLeDiff, Nat.reduceSub, Int.reduceEq, bleR, bl4])
  refine ifB'.of (fun h => ?_) (fun h => ?_)
  · repeat (first | with_reducible refine ask.of (by omega) ?_ | simp -dsimp -implicitDefEqProofs only [go_sem, Nat.reduceBEq, Nat.reduceAdd, Nat.reduceLeDiff, Nat.reduceSub, Int.reduceEq, bleR, bl4])
    rw [tickL_end hv (by omega)]; rfl
  have h : ¬ x.c = 1000000000 := by omega
  have ec : IntKind.i64.wrap (x.c + 1) = x.c + 1 := wrap_i64_of (by omega) (by omega)
  rw [tickL_yes hv h]
  obtain ⟨N, hN⟩ : ∃ N, min 8 x.h.length = N := ⟨_, rfl⟩
  have hN2 : N ≤ 8 ∧ N ≤ x.h.length := by omega
  rw [hN]
  repeat (first | with_reducible refine ask.of (by omega) ?_ | simp -dsimp -implicitDefEqProofs only [go_sem, Nat.reduceBEq, Nat.reduceAdd, Nat.reduceLeDiff, Nat.reduceSub, Int.reduceEq, bleR, bl4, ec])
  refine LoopE.cnt N (fun i s => s.env 2 = .ptr [2] 0 0 0 ∧ s.env 5 = .ptr [5] 0 0 0 ∧ s.env 6 = .ref [6] ∧ s.env 7 = .v (.int .i64 i) ∧ s.σ [2] = some (.box 25 [.v (.int .i64 0), .v (.int .i64 0), .v (.int .i64 0), .v (.slice none 0 0)]) ∧ s.σ [5] = some (.box 25 [.v (.int .i64 x.a), .v (.int .i64 x.b), .v (.int .i64 (x.c + 1)), .ref [14, 3]])
    ∧ s.σ [14, 3] = some (.row 40 7 (ra snC (tkH (x.c + 1) i x.h))) ∧ s.σ [6] = some (.row 22 1 (ra byC (tkO (x.c + 1) i x.h)))) ⟨by simp -dsimp -implicitDefEqProofs only [go_sem, Nat.reduceBEq, Nat.reduceAdd, Nat.reduceLeDiff, Nat.reduceSub, Int.reduceEq], by simp -dsimp -implicitDefEqProofs only [go_sem, Nat.reduceBEq, Nat.reduceAdd, Nat.reduceLeDiff, Nat.reduceSub, Int.reduceEq], by simp -dsimp -implicitDefEqProofs only [go_sem, Nat.reduceBEq, Nat.reduceAdd, Nat.reduceLeDiff, Nat.reduceSub, Int.reduceEq], by simp -dsimp -implicitDefEqProofs only [go_sem, Nat.reduceBEq, Nat.reduceAdd, Nat.reduceLeDiff, Nat.reduceSub, Int.reduceEq] <;> rfl, by simp -dsimp -implicitDefEqProofs only [go_sem, Nat.reduceBEq, Nat.reduceAdd, Nat.reduceLeDiff, Nat.reduceSub, Int.reduceEq], by simp -dsimp -implicitDefEqProofs only [go_sem, Nat.reduceBEq, Nat.reduceAdd, Nat.reduceLeDiff, Nat.reduceSub, Int.reduceEq], by simp -dsimp -implicitDefEqProofs only [go_sem, Nat.reduceBEq, Nat.reduceAdd, Nat.reduceLeDiff, Nat.reduceSub, Int.reduceEq, tkH_zero], by simp -dsimp -implicitDefEqProofs only [go_sem, Nat.reduceBEq, Nat.reduceAdd, Nat.reduceLeDiff, Nat.reduceSub, Int.reduceEq, tkO_zero] <;> rfl⟩ ?_
  rintro i ⟨e, σ⟩ hi ⟨h2, h5, h6, h7, hs2, hs5, hs14, hs6⟩ K hK
  simp only at h2 h5 h6 h7 hs2 hs5 hs14 hs6
  have htl := tkH_len (x.c + 1) i x.h
  have hol := tkO_len (x.c + 1) i x.h
  simp -dsimp -implicitDefEqProofs only [go_sem, Nat.reduceBEq, Nat.reduceAdd, Nat.reduceLeDiff, Nat.reduceSub, Int.reduceEq, h2, h5, h6, h7, hs2, hs5, hs14, hs6]
  by_cases hlt : i < N
  · have hlt' : i < x.h.length := by omega
    have hp := hb _ (List.getElem_mem hlt')
    have hat : (ra snC (tkH (x.c + 1) i x.h))[i]? = some (snC x.h[i]) := ra_at' (tkH_at _ hlt')
    have hgs : ∀ c : List AV, ((ra snC (tkH (x.c + 1) i x.h)).set i c)[i]? = some c := fun c => by rw [List.getElem?_set_self]; rw [ra_length]; omega
    have hq := (hv.2 i hlt').2.2.2.2
    have eq4 : IntKind.i64.wrap (x.c + 1 - x.h[i].q) = x.c + 1 - x.h[i].q := wrap_i64_of (by omega) (by omega)
    by_cases hd : x.h[i].q = -1 ∨ x.h[i].q ≤ x.c + 1 - 4
    · have e1 := sn_setq hlt' hd
      have e2 := tkO_due (x.c + 1) hlt' hd
      repeat' (first | with_reducible refine ask.of (by first | omega | decide) ?_ | ((with_reducible refine ifB'.of (fun h => ?_) (fun h => ?_)) <;> first | (exfalso; omega) | skip) | simp -dsimp -implicitDefEqProofs only [go_sem, Nat.reduceBEq, Nat.reduceAdd, Nat.reduceLeDiff, Nat.reduceSub, Int.reduceEq, h2, h5, h6, h7, hs2, hs5, hs14, hs6, bleR, bl4, bk7, ble67, htl, hat, hgs, snC, eq4])
      all_goals
        refine CallE.of (c_specEncodePacket x.h[i].p hp) (by rintro r rfl; (repeat' first | exact trivial | exact pure_rowB _ | exact pure_rowO _ | exact pure_rowI _ | exact pure_rowBB _ | exact pure_rowPk _ _ | exact pure_rowSn _ _ | exact pure_rowFd _ _ | exact pure_rowBBB _ | exact pure_rowCl _ _ | exact pure_rowTb _ _ _ | refine And.intro ?_ ?_)) (by simp -dsimp -implicitDefEqProofs only [go_sem, Nat.reduceBEq, Nat.reduceAdd, Nat.reduceLeDiff, Nat.reduceSub, Int.reduceEq, h2, h5, h6, h7, hs2, hs5, hs14, hs6, pkC, hgs]) ?_
        rintro r rfl
        simp -dsimp -implicitDefEqProofs only [go_sem, Nat.reduceBEq, Nat.reduceAdd, Nat.reduceLeDiff, Nat.reduceSub, Int.reduceEq, h2, h5, h6, h7, hs2, hs5, hs14, hs6, pkC, hgs]
        repeat (first | with_reducible refine ask.of (by first | omega | decide | (simp only [ra_length, List.length_cons, List.length_nil]; omega)) ?_ | simp -dsimp -implicitDefEqProofs only [go_sem, Nat.reduceBEq, Nat.reduceAdd, Nat.reduceLeDiff, Nat.reduceSub, Int.reduceEq, h2, h5, h6, h7, hs2, hs5, hs14, hs6, bleR, bl4, hgs, byA_snoc])
        refine hK _ hlt ?_
        simp -dsimp -implicitDefEqProofs only [go_sem, Nat.reduceBEq, Nat.reduceAdd, Nat.reduceLeDiff, Nat.reduceSub, Int.reduceEq, h2, h5, h6, h7, hs2, hs5, hs14, hs6, wrap_succ (show i < 4611686018427387904 by omega), e1, e2, true_and]
    · have e1 := tkH_keep (x.c + 1) hlt' hd
      have e2 := tkO_keep (x.c + 1) hlt' hd
      repeat' (first | with_reducible refine ask.of (by first | omega | decide) ?_ | ((with_reducible refine ifB'.of (fun h => ?_) (fun h => ?_)) <;> first | (exfalso; omega) | skip) | simp -dsimp -implicitDefEqProofs only [go_sem, Nat.reduceBEq, Nat.reduceAdd, Nat.reduceLeDiff, Nat.reduceSub, Int.reduceEq, h2, h5, h6, h7, hs2, hs5, hs14, hs6, bleR, bl4, bk7, ble67, htl, hat, hgs, snC, eq4])
      all_goals
        refine hK _ hlt ?_
        simp -dsimp -implicitDefEqProofs only [go_sem, Nat.reduceBEq, Nat.reduceAdd, Nat.reduceLeDiff, Nat.reduceSub, Int.reduceEq, h2, h5, h6, h7, hs2, hs5, hs14, hs6, wrap_succ (show i < 4611686018427387904 by omega), e1, e2]
  · have : i = N := by omega
    subst this
    repeat' (first | with_reducible refine ask.of (by first | omega | decide) ?_ | ((with_reducible refine ifB'.of (fun h => ?_) (fun h => ?_)) <;> first | (exfalso; omega) | skip) | simp -dsimp -implicitDefEqProofs only [go_sem, Nat.reduceBEq, Nat.reduceAdd, Nat.reduceLeDiff, Nat.reduceSub, Int.reduceEq, h2, h5, h6, h7, hs2, hs5, hs14, hs6, bleR, bl4, htl])
    all_goals rfl
end Go.Ev
set_option linter.unusedSimpArgs false
set_option linter.unusedVariables false
namespace Go.Ev
open Go Go.RowKit Go.Proofs
def Bd (x : LO) : Prop := x.h.length ≤ 300 ∧ ∀ b ∈ x.h, b.p.f.length ≤ 1000
theorem Bd.a {x : LO} (h : Bd x) : x.h.length ≤ 1048576 := by have := h.1; omega
theorem Bd.b {x : LO} (h : Bd x) : ∀ b ∈ x.h, b.p.f.length ≤ 1048576 := fun b hb => by have := h.2 b hb; omega
theorem pushL_bd {x z : LO} {msg : List UInt8} (h : Bd x) (hz : pushL x msg = (z, 0)) : Bd z := by
  by_cases h1 : pushC x msg
  · by_cases h2 : 300 < x.h.length + pcN msg
    · rw [pushL_full h1 h2] at hz; cases hz
    · by_cases h3 : 1000000000000 < x.b + pcN msg
      · rw [pushL_end h1 h2 h3] at hz; cases hz
      · rw [pushL_yes h1 h2 h3] at hz
        obtain ⟨rfl, _⟩ := Prod.mk.inj hz
        refine ⟨?_, fun b hb => ?_⟩
        · show (x.h ++ pushS x msg (pcN msg)).length ≤ 300
          rw [List.length_append, pushS_len]; omega
        · rcases List.mem_append.1 hb with hb | hb
          · exact h.2 b hb
          · obtain ⟨j, _, rfl⟩ := List.mem_map.1 hb
            show (pieceL msg j).length ≤ 1000
            unfold pieceL
            rw [List.length_take]; omega
  · rw [pushL_no h1] at hz; cases hz
theorem tickL_bd {x z : LO} {o : List (List UInt8)} (h : Bd x) (hz : tickL x = (z, o, 0)) : Bd z := by
  by_cases h1 : okLO x
  · by_cases h2 : x.c = 1000000000
    · rw [tickL_end h1 h2] at hz; cases hz
    · rw [tickL_yes h1 h2] at hz
      obtain ⟨rfl, _⟩ := Prod.mk.inj hz
      refine ⟨?_, fun b hb => ?_⟩
      · show (tkH _ _ x.h).length ≤ 300
        rw [tkH_len]; exact h.1
      · rcases List.mem_append.1 hb with hb | hb
        · obtain ⟨s, hs, rfl⟩ := List.mem_map.1 hb
          have := h.2 s (List.mem_of_mem_take hs)
          unfold tkS
          cases dueB (x.c + 1) s <;> exact this
        · exact h.2 b (List.mem_of_mem_drop hb)
  · rw [tickL_no h1] at hz; cases hz
theorem ackL_bd {x z : LO} {q : Int} (h : Bd x) (hz : ackL x q = (z, 0)) : Bd z := by
  by_cases h1 : okLO x ∧ 0 ≤ q ∧ q ≤ x.b
  · rw [ackL_yes h1] at hz
    obtain ⟨rfl, _⟩ := Prod.mk.inj hz
    have hs : ∀ b, b ∈ dropQ q x.h → b ∈ x.h := fun b hb => (List.dropWhile_sublist _).subset hb
    refine ⟨?_, fun b hb => h.2 b (hs b hb)⟩
    show (dropQ q x.h).length ≤ 300
    have := (List.dropWhile_sublist (fun s : Sn => decide (s.p.c < q)) (l := x.h)).length_le
    have := h.1
    unfold dropQ; omega
  · rw [ackL_no h1] at hz; cases hz
noncomputable def pushK (x : LO) (msg : List UInt8) : LO := if (pushL x msg).2 = 0 then (pushL x msg).1 else x
noncomputable def tickK (x : LO) : LO := if (tickL x).2.2 = 0 then (tickL x).1 else x
noncomputable def ackK (x : LO) (q : Int) : LO := if (ackL x q).2 = 0 then (ackL x q).1 else x
theorem pushK_yes {x z : LO} {msg : List UInt8} (h : pushL x msg = (z, 0)) : pushK x msg = z := by unfold pushK; rw [h]; rfl
theorem pushK_no {x z : LO} {e : Int} {msg : List UInt8} (h : pushL x msg = (z, e)) (he : e ≠ 0) : pushK x msg = x := by unfold pushK; rw [h]; exact if_neg he
theorem tickK_yes {x z : LO} {o : List (List UInt8)} (h : tickL x = (z, o, 0)) : tickK x = z := by unfold tickK; rw [h]; rfl
theorem tickK_no {x z : LO} {o : List (List UInt8)} {e : Int} (h : tickL x = (z, o, e)) (he : e ≠ 0) : tickK x = x := by unfold tickK; rw [h]; exact if_neg he
theorem ackK_yes {x z : LO} {q : Int} (h : ackL x q = (z, 0)) : ackK x q = z := by unfold ackK; rw [h]; rfl
theorem ackK_no {x z : LO} {q e : Int} (h : ackL x q = (z, e)) (he : e ≠ 0) : ackK x q = x := by unfold ackK; rw [h]; exact if_neg he
theorem pushK_bd {x : LO} (h : Bd x) (msg : List UInt8) : Bd (pushK x msg) := by
  obtain ⟨z, e, hz⟩ : ∃ z e, pushL x msg = (z, e) := ⟨_, _, rfl⟩
  by_cases he : e = 0
  · subst he; rw [pushK_yes hz]; exact pushL_bd h hz
  · rw [pushK_no hz he]; exact h
theorem tickK_bd {x : LO} (h : Bd x) : Bd (tickK x) := by
  obtain ⟨z, o, e, hz⟩ : ∃ z o e, tickL x = (z, o, e) := ⟨_, _, _, rfl⟩
  by_cases he : e = 0
  · subst he; rw [tickK_yes hz]; exact tickL_bd h hz
  · rw [tickK_no hz he]; exact h
theorem ackK_bd {x : LO} (h : Bd x) (q : Int) : Bd (ackK x q) := by
  obtain ⟨z, e, hz⟩ : ∃ z e, ackL x q = (z, e) := ⟨_, _, rfl⟩
  by_cases he : e = 0
  · subst he; rw [ackK_yes hz]; exact ackL_bd h hz
  · rw [ackK_no hz he]; exact h
noncomputable def tickN (x : LO) : Nat → LO
  | 0 => x
  | i + 1 => tickK (tickN x i)
theorem tickN_bd {x : LO} (h : Bd x) : ∀ i, Bd (tickN x i)
  | 0 => h
  | i + 1 => tickK_bd (tickN_bd h i)
def dwK (c : List UInt8) (p : Nat) : Nat := nxV c (dbP c p 16)
def dwP (c : List UInt8) (p : Nat) : Nat := nxP c (dbP c p 16)
theorem dwP_le (c : List UInt8) {p : Nat} (h : p ≤ c.length) : dwP c p ≤ c.length := nxP_le c (dbP_le c h)
def dwM (c : List UInt8) (p : Nat) : List UInt8 := if dwK c p % 3 = 0 then List.replicate (1 + dwK c p * 3) (UInt8.ofNat (dwK c p)) else 1 :: db c p 16
noncomputable def dwA (k : Nat) (y : LO) : LO := if k % 5 = 1 then ackK y (IntKind.i64.wrap (y.b - ((y.h.length / 2 : Nat) : Int))) else y
noncomputable def dwS (c : List UInt8) (p : Nat) (y : LO) : LO := dwA (dwK c p) (tickN (pushK y (dwM c p)) (dwK c p % 4))
def dwQ (c : List UInt8) (p : Nat) : Nat → Nat
  | 0 => p
  | i + 1 => dwP c (dwQ c p i)
noncomputable def dwY (c : List UInt8) (p : Nat) (y : LO) : Nat → LO
  | 0 => y
  | i + 1 => dwS c (dwQ c p i) (dwY c p y i)
theorem dwQ_le (c : List UInt8) {p : Nat} (h : p ≤ c.length) : ∀ i, dwQ c p i ≤ c.length
  | 0 => h
  | i + 1 => dwP_le c (dwQ_le c h i)
theorem dwS_bd (c : List UInt8) (p : Nat) {y : LO} (h : Bd y) : Bd (dwS c p y) := by
  unfold dwS dwA
  split
  · exact ackK_bd (tickN_bd (pushK_bd h _) _) _
  · exact tickN_bd (pushK_bd h _) _
theorem dwY_bd (c : List UInt8) (p : Nat) {y : LO} (h : Bd y) : ∀ i, Bd (dwY c p y i)
  | 0 => h
  | i + 1 => dwS_bd c _ (dwY_bd c p h i)
def dw0 (k : Nat) : LO := ⟨(1 + k % 3 : Nat), if k = 250 then 999999999995 else ((k % 7 : Nat) : Int), if k = 251 then 999999999 else ((k % 20 : Nat) : Int), []⟩
theorem dw0_bd (k : Nat) : Bd (dw0 k) := ⟨Nat.zero_le _, fun b hb => by cases hb⟩
end Go.Ev
