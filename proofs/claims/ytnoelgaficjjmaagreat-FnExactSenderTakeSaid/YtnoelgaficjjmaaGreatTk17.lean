/- Part 17 of what the row leans on: the evaluator, words, contracts of functions; pruned by a program of ours. -/
import Derived.Test.YtnoelgaficjjmaaGreatTk16
import Derived.RangeFuncBound
import Derived.Shelf.Abstract
import Derived.Shelf.RegionOpen
import Derived.WalkKit
import Derived.OwnWalkIn
import Derived.TacticsInMore
import Derived.LoopNIn
import Derived.LoopIn
namespace Go.Ev
open Go Go.RowKit Go.Shelf Go.Proofs
attribute [local go_sem] Oper.semAt_some
set_option maxHeartbeats 2000000 in
theorem chunk_in (F : Fence) (n : Nat) (h5 : F.fn 153) (hro : F.round = none) (a : Option Addr) (len cap : Nat) (w : World) :
    CallsIn F n Tryz.prog 153 #[.slice a len cap, .int .i64 100] w fun e w' => e = .returned (.func (.func 165) #[] #[.pointer (some ⟨w.heap.size, 0, none⟩), .pointer (some ⟨w.heap.size + 1, 0, none⟩)]) ∧ w' = (w.alloc (.cells #[.slice a len cap] 48)).alloc (.cells #[.int .i64 100] 3) := by
  refine callsIn_of_wp Tryz.func153 rfl h5 ?_ hro
  simp only [Tryz.ntmps153, List.size_toArray, List.length_cons, List.length_nil, Nat.reduceAdd, Nat.reduceSub, Array.replicate_succ, Array.replicate_zero, List.push_toArray, List.append_toArray, List.nil_append, List.cons_append]
  gi_wp2
  go_ret
  exact ⟨rfl, rfl⟩
set_option maxRecDepth 100000 in
set_option maxHeartbeats 4000000 in
theorem chunk1_in (n : Nat) (hn : 1 ≤ n) (l B1 B2 b off len cap : Nat) (hlen : len ≤ 1048576) (hcap : len ≤ cap) (J : Nat → World → Prop)
    (hJd : ∀ i w, J i w → J i w.drew)
    (hJb : ∀ i w, J i w → w.cell? ⟨B1, 0, none⟩ = some (.slice (some ⟨b, off, none⟩) len cap) ∧ w.cell? ⟨B2, 0, none⟩ = some (.int .i64 100))
    (hY : ∀ i W, J i W → 100 * i < len → YieldAt Fence.wide (n - 1) Tryz.prog l #[pieceV b off len i] W fun e W' => e = .returned (.bool true) ∧ J (i + 1) W')
    (W : World) (h0 : J 0 W) :
    CallsIn Fence.wide n Tryz.prog 165 #[.func (.yield l) #[] #[], .pointer (some ⟨B1, 0, none⟩), .pointer (some ⟨B2, 0, none⟩)] W fun e W' => (∃ v, e = .returned v) ∧ J ((len + 99) / 100) W' := by
  refine callsIn_of_wp Tryz.func165 rfl trivial ?_
  simp only [Tryz.ntmps165, List.size_toArray, List.length_cons, List.length_nil, Nat.reduceAdd, Nat.reduceSub, Array.replicate_succ, Array.replicate_zero, List.push_toArray, List.append_toArray, List.nil_append, List.cons_append]
  gi_wp2
  gi_loopw [4] (fun i wr => ∃ k : Nat, k ≤ (len + 99) / 100 ∧ i = .int .i64 (100 * k : Nat) ∧ J k wr)
    (fun i _ => (len + 99) / 100 * 100 - (intOf i).toNat)
  case atStart => exact ⟨0, Nat.zero_le _, rfl, h0⟩
  case round =>
    obtain ⟨k, hk, rfl, hJs⟩ := hrel
    obtain ⟨hB1, hB2⟩ := hJb _ _ hJs
    by_cases hlt : 100 * k < len
    · have hJ2 := hJd _ _ hJs
      obtain ⟨fn, tmps, assign, body, hy, hR⟩ := hY k _ hJ2 hlt
      obtain ⟨hC1, hC2⟩ := hJb _ _ hJ2
      have hmx : Tryz.prog.follows .mixedOrders = true := by kernel_rfl
      gi_wp2
      gi_region
      obtain ⟨m, hm, hme⟩ : ∃ m : Nat, (if ((len - 100 * k : Nat) : Int) < 100 then ((len - 100 * k : Nat) : Int) else 100) = (m : Int) ∧ min 100 (len - 100 * k) = m := by
        by_cases h : len - 100 * k < 100
        · exact ⟨len - 100 * k, if_pos (by omega), by omega⟩
        · exact ⟨100, if_neg (by omega), by omega⟩
      rw [hm]
      unfold pieceV at hy
      rw [hme] at hy
      have hmb : 1 ≤ m ∧ m ≤ 100 ∧ 100 * k + m ≤ len := by omega
      generalize wr.drew = w2 at *
      have e1 : wrap64 ((100 * k : Nat) + (m : Int)) = ((100 * k + m : Nat) : Int) := by simp [wrap64]; omega
      gi_wp2
      refine hR.mono ?_
      rintro e W3 ⟨rfl, hJ3⟩
      obtain ⟨hD1, hD2⟩ := hJb _ _ hJ3
      have e2 : wrap64 ((100 * k : Nat) + (100 : Int)) = ((100 * (k + 1) : Nat) : Int) := by simp [wrap64]; omega
      gi_wp2
      go_roundw
      case rel => exact ⟨k + 1, by omega, by first | rfl | (simp; omega), hJ3⟩
      case measure => simp [intOf]; omega
    · obtain rfl : k = (len + 99) / 100 := by omega
      gi_wp2
      go_end0
      exact ⟨⟨_, rfl⟩, hJs⟩
theorem chunks : Chunks Tryz.prog 153 165 48 3 :=
  ⟨by kernel_rfl, enters_of Tryz.func165 (by kernel_rfl) rfl, fun a len cap w => callsIn_wide.1 (chunk_in Fence.wide 0 trivial rfl a len cap w),
   fun l B1 B2 b off len cap h1 h2 J h3 h4 h5 W h6 => chunk1_in 2 (by decide) l B1 B2 b off len cap h1 h2 J h3 h4 h5 W h6⟩
end Go.Ev
set_option linter.unusedSimpArgs false
set_option linter.unusedVariables false
namespace Go.Ev
open Go Go.RowKit Go.Proofs
def pieceL (msg : List UInt8) (i : Nat) : List UInt8 := (msg.drop (100 * i)).take 100
def pcN (msg : List UInt8) : Nat := (msg.length + 99) / 100
def pushSn (x : LO) (msg : List UInt8) (i : Nat) : Sn := ⟨⟨1, x.a, x.b + i, 0, decide (i + 1 = pcN msg), pieceL msg i⟩, -1⟩
def pushS (x : LO) (msg : List UInt8) (k : Nat) : List Sn := (List.range k).map (pushSn x msg)
theorem pushS_succ (x : LO) (msg : List UInt8) (k : Nat) : pushS x msg (k + 1) = pushS x msg k ++ [pushSn x msg k] := by simp [pushS, List.range_succ]
theorem pushS_len (x : LO) (msg : List UInt8) (k : Nat) : (pushS x msg k).length = k := by simp [pushS]
def pushC (x : LO) (msg : List UInt8) : Prop := okLO x ∧ 1 ≤ msg.length ∧ msg.length ≤ 20000
noncomputable def pushL (x : LO) (msg : List UInt8) : LO × Int := @ite _ (pushC x msg) (Classical.propDecidable _) (if 300 < x.h.length + pcN msg then (x, 2) else if 1000000000000 < x.b + pcN msg then (x, 6) else (⟨x.a, x.b + pcN msg, x.c, x.h ++ pushS x msg (pcN msg)⟩, 0)) (lo0, 1)
theorem pushL_no {x : LO} {msg : List UInt8} (h : ¬ pushC x msg) : pushL x msg = (lo0, 1) := @if_neg _ (Classical.propDecidable _) h _ _ _
theorem pushL_full {x : LO} {msg : List UInt8} (h : pushC x msg) (h2 : 300 < x.h.length + pcN msg) : pushL x msg = (x, 2) := (@if_pos _ (Classical.propDecidable _) h _ _ _).trans (if_pos h2)
theorem pushL_end {x : LO} {msg : List UInt8} (h : pushC x msg) (h2 : ¬ 300 < x.h.length + pcN msg) (h3 : 1000000000000 < x.b + pcN msg) : pushL x msg = (x, 6) := (@if_pos _ (Classical.propDecidable _) h _ _ _).trans ((if_neg h2).trans (if_pos h3))
theorem pushL_yes {x : LO} {msg : List UInt8} (h : pushC x msg) (h2 : ¬ 300 < x.h.length + pcN msg) (h3 : ¬ 1000000000000 < x.b + pcN msg) : pushL x msg = (⟨x.a, x.b + pcN msg, x.c, x.h ++ pushS x msg (pcN msg)⟩, 0) := (@if_pos _ (Classical.propDecidable _) h _ _ _).trans ((if_neg h2).trans (if_neg h3))
theorem push_no {x : LO} {msg : List UInt8} (h : ¬ pushC x msg) : AV.tup [.agg [.v (.int .i64 0), .v (.int .i64 0), .v (.int .i64 0), .row 122 7 []], .v (.int .i64 1)] = resL (pushL x msg) := by rw [pushL_no h]; rfl
theorem pcN_eq {msg : List UInt8} (h : msg.length ≤ 1048576) : IntKind.i64.wrap ((IntKind.i64.wrap (IntKind.i64.wrap ((msg.length : Int) + 100) - 1)).tdiv 100) = (pcN msg : Int) := by
  rw [wrap_i64_of (n := (msg.length : Int) + 100) (by omega) (by omega), wrap_i64_of (n := (msg.length : Int) + 100 - 1) (by omega) (by omega)]
  have e : ((msg.length : Int) + 100 - 1) = ((msg.length + 99 : Nat) : Int) := by omega
  rw [e, show ((msg.length + 99 : Nat) : Int).tdiv 100 = (((msg.length + 99) / 100 : Nat) : Int) from rfl, wrap_i64_of (by omega) (by omega)]; rfl
theorem bl67 : Nat.ble 1 6 = true ∧ Nat.ble 2 6 = true ∧ Nat.ble 3 6 = true ∧ Nat.ble 4 6 = true ∧ Nat.ble 5 6 = true ∧ Nat.ble 6 6 = true ∧ Nat.ble 6 7 = true ∧ Nat.ble 7 7 = true := ⟨rfl, rfl, rfl, rfl, rfl, rfl, rfl, rfl⟩
theorem lo_bnd {x : LO} (h : okLO x) : x.h.length ≤ 300 ∧ 0 ≤ x.b ∧ x.b ≤ 1000000000000 := by
  obtain ⟨h1, h2⟩ := h
  omega
set_option maxRecDepth 8000 in
set_option maxHeartbeats 2000000 in
theorem c_implLinkPush (x : LO) (msg : List UInt8) (hx : x.h.length ≤ 1048576) (hb : ∀ b ∈ x.h, b.p.f.length ≤ 1048576) (hl : msg.length ≤ 1048576) : Meets Tryz.prog 128 [.agg (loC 122 x), rowB msg] (fun r => r = resL (pushL x msg)) := by
  refine Meets.introN mixed (hint []) (fun k => (sel (k == 13) [998,0,1,2,3,4,5,6,7,8,9,2010] [])) [0, 0, 0, 0, 0, 0, 0] Tryz.func128 rfl (by decide) res_128 rty_128 (by kernel_rfl) ?_; 
  simp -dsimp -implicitDefEqProofs only [go_sem, loC]
  repeat (first | with_reducible refine ask.of (by omega) ?_ | simp -dsimp -implicitDefEqProofs only [go_sem, bleR, bl4])
  refine CallE.of (c_implValidOut x hx hb) (by rintro r rfl; (repeat' first | exact trivial | exact pure_rowB _ | exact pure_rowO _ | exact pure_rowI _ | exact pure_rowBB _ | exact pure_rowPk _ _ | exact pure_rowSn _ _ | exact pure_rowFd _ _ | exact pure_rowBBB _ | exact pure_rowCl _ _ | exact pure_rowTb _ _ _ | refine And.intro ?_ ?_)) (by simp -dsimp -implicitDefEqProofs only [go_sem, loC]) ?_
  rintro r rfl
  simp -dsimp -implicitDefEqProofs only [go_sem, loC]
  cases hv : loB x
  · have hv := loB_f hv
    repeat' (first | with_reducible refine ask.of (by omega) ?_ | simp -dsimp -implicitDefEqProofs only [go_sem, bleR, bl4, Bool.not_false])
    exact push_no fun h => hv h.1
  · have hv := loB_t hv
    by_cases h1 : 1 ≤ msg.length ∧ msg.length ≤ 20000
    · repeat' (first | with_reducible refine ask.of (by omega) ?_ | with_reducible refine ifB'.no (by omega) ?_ | simp -dsimp -implicitDefEqProofs only [go_sem, bleR, bl4, Bool.not_true, initE])
      refine CallE.of (c_outCopy x hx hb) (by rintro r rfl; (repeat' first | exact trivial | exact pure_rowB _ | exact pure_rowO _ | exact pure_rowI _ | exact pure_rowBB _ | exact pure_rowPk _ _ | exact pure_rowSn _ _ | exact pure_rowFd _ _ | exact pure_rowBBB _ | exact pure_rowCl _ _ | exact pure_rowTb _ _ _ | refine And.intro ?_ ?_)) (by simp -dsimp -implicitDefEqProofs only [go_sem, loC]) ?_
      rintro r rfl
      simp -dsimp -implicitDefEqProofs only [go_sem, loC]
      have hn := pcN_eq hl
      have hnb : 1 ≤ pcN msg ∧ pcN msg ≤ 200 := by unfold pcN; omega
      have hbo := lo_bnd hv
      have e1 : IntKind.i64.wrap ((x.h.length : Int) + (pcN msg : Int)) = ((x.h.length + pcN msg : Nat) : Int) := by rw [wrap_i64_of (by omega) (by omega)]; omega
      have e2 : IntKind.i64.wrap (x.b + (pcN msg : Int)) = x.b + (pcN msg : Int) := wrap_i64_of (by omega) (by omega)
      repeat' (first | with_reducible refine ask.of (by first | omega | decide) ?_ | simp -dsimp -implicitDefEqProofs only [go_sem, bleR, bl4, initE, hn, e1])
      refine ifB'.of (fun h2 => ?_) (fun h2 => ?_)
      · rw [pushL_full ⟨hv, h1⟩ (by omega)]
        repeat' (first | with_reducible refine ask.of (by first | omega | decide) ?_ | simp -dsimp -implicitDefEqProofs only [go_sem, bleR, bl4, initE])
        rfl
      repeat' (first | with_reducible refine ask.of (by first | omega | decide) ?_ | simp -dsimp -implicitDefEqProofs only [go_sem, bleR, bl4, initE, hn, e2])
      refine ifB'.of (fun h3 => ?_) (fun h3 => ?_)
      · rw [pushL_end ⟨hv, h1⟩ (by omega) (by omega)]
        repeat' (first | with_reducible refine ask.of (by first | omega | decide) ?_ | simp -dsimp -implicitDefEqProofs only [go_sem, bleR, bl4, initE])
        rfl
      repeat' (first | with_reducible refine ask.of (by first | omega | decide) ?_ | simp -dsimp -implicitDefEqProofs only [go_sem, bleR, bl4, initE])
      have hpos : 0 < (bytesA msg).length := by rw [bytesA_length]; omega
      have hle : (bytesA msg).length ≤ 1048576 := by rw [bytesA_length]; omega
      refine RangeE.chunk (H := hint []) (O := fun k => sel (k == 13) [998, 0, 1, 2, 3, 4, 5, 6, 7, 8, 9, 2010] []) (x := 47) (g := 48) (p := 49) (e := 5) (els := bytesA msg) mixed chunks rfl rfl rfl rfl rfl rfl (by kernel_rfl) (by simp -dsimp -implicitDefEqProofs only [go_sem, initE]) hpos hle [2, 4, 6, 7, 8]
        (fun vals i σ => (σ [2000000, 2] = some (.pin (.ptr [2] 0 0 0) (vals 2)) ∧ σ [2000000, 4] = some (.pin (.ptr [4] 0 0 0) (vals 4)) ∧ σ [2000000, 6] = some (.pin (.ptr [6] 0 0 0) (vals 6)) ∧ σ [2000000, 7] = some (.pin (.ptr [7] 0 0 0) (vals 7)) ∧ σ [2000000, 8] = some (.pin (.ptr [8] 0 0 0) (vals 8))) ∧
          σ [2] = some (.box 37 [.v (.int .i64 x.a), .v (.int .i64 x.b), .v (.int .i64 x.c), .rd .ent 122 7 (ra snC x.h)]) ∧ σ [4] = some (.box 37 [.v (.int .i64 0), .v (.int .i64 0), .v (.int .i64 0), .v (.slice none 0 0)]) ∧ σ [7] = some (.box 3 [.v (.int .i64 (pcN msg - i : Nat))]) ∧
          ((i = 0 ∧ σ [6] = some (.box 37 [.v (.int .i64 x.a), .v (.int .i64 x.b), .v (.int .i64 x.c), .ref [25, 3]]) ∧ σ [8] = some (.box 153 [.ref [25, 3]]) ∧ σ [25, 3] = some (.row 122 7 (ra snC x.h))) ∨
           (1 ≤ i ∧ σ [6] = some (.box 37 [.v (.int .i64 x.a), .v (.int .i64 (x.b + i)), .v (.int .i64 x.c), .any]) ∧ σ [8] = some (.box 153 [.ref [1000002, 8, 0]]) ∧ σ [1000002, 8, 0] = some (.row 122 7 (ra snC (x.h ++ pushS x msg i)))))) ?_ ?_ ?_
      · intro vals
        simp -dsimp -implicitDefEqProofs only [go_sem]
        exact ⟨rfl, .inl trivial⟩
      · rintro vals i σ hlt ⟨⟨p2, p4, p6, p7, p8⟩, h2', h4', h7', hor⟩
        have hlt : i < pcN msg := by rw [bytesA_length] at hlt; unfold pcN; omega
        have en : IntKind.i64.wrap (((pcN msg - i : Nat) : Int) - 1) = ((pcN msg - (i + 1) : Nat) : Int) := by rw [wrap_i64_of (by omega) (by omega)]; omega
        have ed : decide (((pcN msg - (i + 1) : Nat) : Int) = 0) = decide (i + 1 = pcN msg) := decide_eq_decide.2 (by omega)
        have eb : IntKind.i64.wrap (x.b + (i : Int) + 1) = x.b + ((i + 1 : Nat) : Int) := by rw [wrap_i64_of (by omega) (by omega)]; omega
        have hpl : (List.take 100 (List.drop (100 * i) msg)).length ≤ 1048576 := by simp; omega
        have hql : (x.h ++ pushS x msg i).length ≤ 1048576 := by rw [List.length_append, pushS_len]; omega
        rcases hor with ⟨hi0, h6', h8', hq'⟩ | ⟨hi0, h6', h8', hq'⟩
        · have h6' : σ [6] = some (.box 37 [.v (.int .i64 x.a), .v (.int .i64 (x.b + i)), .v (.int .i64 x.c), .ref [25, 3]]) := by rw [h6', hi0]; simp
          have hq' : σ [25, 3] = some (.row 122 7 (ra snC (x.h ++ pushS x msg i))) := by rw [hq', hi0]; simp [pushS]
          simp -dsimp -implicitDefEqProofs only [go_sem, p2, p4, p6, p7, p8, h2', h4', h7', h6', h8', hq', en, ed]
          repeat' (first | with_reducible refine ask.of (by first | omega | decide) ?_ | simp -dsimp -implicitDefEqProofs only [go_sem, p2, p4, p6, p7, p8, h2', h4', h7', h6', h8', hq', bleR, bl4, en, ed])
          refine CallE.of (c_bytesClone (List.take 100 (List.drop (100 * i) msg)) (by omega)) (by rintro r rfl; (repeat' first | exact trivial | exact pure_rowB _ | exact pure_rowO _ | exact pure_rowI _ | exact pure_rowBB _ | exact pure_rowPk _ _ | exact pure_rowSn _ _ | exact pure_rowFd _ _ | exact pure_rowBBB _ | exact pure_rowCl _ _ | exact pure_rowTb _ _ _ | refine And.intro ?_ ?_)) (by simp -dsimp -implicitDefEqProofs only [go_sem, p2, p4, p6, p7, p8, h2', h4', h7', h6', h8', hq']) ?_
          rintro r rfl
          simp -dsimp -implicitDefEqProofs only [go_sem, p2, p4, p6, p7, p8, h2', h4', h7', h6', h8', hq']
          repeat' (first | with_reducible refine ask.of (by first | omega | decide) ?_ | simp -dsimp -implicitDefEqProofs only [go_sem, p2, p4, p6, p7, p8, h2', h4', h7', h6', h8', hq', bleR, bl4, bl67, en, ed])
          refine CallE.mutLend (c_put (x.h ++ pushS x msg i) (pushSn x msg i) hql hpl) (by simp -dsimp -implicitDefEqProofs only [go_sem, p2, p4, p6, p7, p8, h2', h4', h7', h6', h8', hq']) (by simp -dsimp -implicitDefEqProofs only [go_sem, p2, p4, p6, p7, p8, h2', h4', h7', h6', h8', hq', snC, pushSn, pieceL]) (by simp -dsimp -implicitDefEqProofs only [go_sem, p2, p4, p6, p7, p8, h2', h4', h7', h6', h8', hq', snC, pushSn, pieceL]) ?_
          rintro r rs ⟨rfl, rfl⟩
          simp -dsimp -implicitDefEqProofs only [go_sem, p2, p4, p6, p7, p8, h2', h4', h7', h6', h8', hq', snC, pushSn, pieceL]
          repeat' (first | with_reducible refine ask.of (by first | omega | decide) ?_ | simp -dsimp -implicitDefEqProofs only [go_sem, p2, p4, p6, p7, p8, h2', h4', h7', h6', h8', hq', bleR, bl4, eb])
          refine .inr ?_
          rw [pushS_succ, ← List.append_assoc]; rfl
        · skip
          simp -dsimp -implicitDefEqProofs only [go_sem, p2, p4, p6, p7, p8, h2', h4', h7', h6', h8', hq', en, ed]
          repeat' (first | with_reducible refine ask.of (by first | omega | decide) ?_ | simp -dsimp -implicitDefEqProofs only [go_sem, p2, p4, p6, p7, p8, h2', h4', h7', h6', h8', hq', bleR, bl4, en, ed])
          refine CallE.of (c_bytesClone (List.take 100 (List.drop (100 * i) msg)) (by omega)) (by rintro r rfl; (repeat' first | exact trivial | exact pure_rowB _ | exact pure_rowO _ | exact pure_rowI _ | exact pure_rowBB _ | exact pure_rowPk _ _ | exact pure_rowSn _ _ | exact pure_rowFd _ _ | exact pure_rowBBB _ | exact pure_rowCl _ _ | exact pure_rowTb _ _ _ | refine And.intro ?_ ?_)) (by simp -dsimp -implicitDefEqProofs only [go_sem, p2, p4, p6, p7, p8, h2', h4', h7', h6', h8', hq']) ?_
          rintro r rfl
          simp -dsimp -implicitDefEqProofs only [go_sem, p2, p4, p6, p7, p8, h2', h4', h7', h6', h8', hq']
          repeat' (first | with_reducible refine ask.of (by first | omega | decide) ?_ | simp -dsimp -implicitDefEqProofs only [go_sem, p2, p4, p6, p7, p8, h2', h4', h7', h6', h8', hq', bleR, bl4, bl67, en, ed])
          refine CallE.mutLend (c_put (x.h ++ pushS x msg i) (pushSn x msg i) hql hpl) (by simp -dsimp -implicitDefEqProofs only [go_sem, p2, p4, p6, p7, p8, h2', h4', h7', h6', h8', hq']) (by simp -dsimp -implicitDefEqProofs only [go_sem, p2, p4, p6, p7, p8, h2', h4', h7', h6', h8', hq', snC, pushSn, pieceL]) (by simp -dsimp -implicitDefEqProofs only [go_sem, p2, p4, p6, p7, p8, h2', h4', h7', h6', h8', hq', snC, pushSn, pieceL]) ?_
          rintro r rs ⟨rfl, rfl⟩
          simp -dsimp -implicitDefEqProofs only [go_sem, p2, p4, p6, p7, p8, h2', h4', h7', h6', h8', hq', snC, pushSn, pieceL]
          repeat' (first | with_reducible refine ask.of (by first | omega | decide) ?_ | simp -dsimp -implicitDefEqProofs only [go_sem, p2, p4, p6, p7, p8, h2', h4', h7', h6', h8', hq', bleR, bl4, eb])
          refine .inr ?_
          rw [pushS_succ, ← List.append_assoc]; rfl
      · rintro vals σ ⟨⟨p2, p4, p6, p7, p8⟩, h2', h4', h7', hor⟩
        have eN : ((bytesA msg).length + 99) / 100 = pcN msg := by rw [bytesA_length]; rfl
        rw [eN] at hor
        rcases hor with ⟨hi0, _⟩ | ⟨hi0, h6', h8', hq'⟩
        · omega
        rw [pushL_yes ⟨hv, h1⟩ (by omega) (by omega)]
        simp -dsimp -implicitDefEqProofs only [go_sem, p2, p4, p6, p7, p8, h2', h4', h7', h6', h8', hq']
        repeat' (first | with_reducible refine ask.of (by first | omega | decide) ?_ | simp -dsimp -implicitDefEqProofs only [go_sem, p2, p4, p6, p7, p8, h2', h4', h7', h6', h8', hq', bleR, bl4])
        rfl
    · repeat' (first | exact push_no fun h => h1 h.2 | with_reducible refine ask.of (by omega) ?_ | with_reducible refine ifB'.of (fun _ => ?_) (fun _ => ?_) | simp -dsimp -implicitDefEqProofs only [go_sem, bleR, bl4, Bool.not_true, Bool.not_false, initE])
      all_goals (exfalso; omega)
theorem tz0 : Int.toNat 0 = 0 := rfl
theorem tz100 : Int.toNat 100 = 100 := rfl
theorem push_e (x : LO) (msg : List UInt8) (i : Nat) : x.h ++ pushS x msg i ++ [pushSn x msg i] = x.h ++ pushS x msg (i + 1) := by rw [pushS_succ, ← List.append_assoc]
theorem push_snoc (x : LO) (msg : List UInt8) (i : Nat) : ra snC (x.h ++ pushS x msg i) ++ [[.v (.int .i64 1), .v (.int .i64 x.a), .v (.int .i64 (x.b + i)), .v (.int .i64 0), .v (.bool (decide (i + 1 = pcN msg))), .row 5 1 (bytesA (pieceL msg i)), .v (.int .i64 (-1))]] = ra snC (x.h ++ pushS x msg (i + 1)) := by rw [← push_e]; simp [ra, snC, pushSn]
set_option maxRecDepth 8000 in
set_option maxHeartbeats 2000000 in
theorem c_specLinkPush (x : LO) (msg : List UInt8) (hx : x.h.length ≤ 1048576) (hb : ∀ b ∈ x.h, b.p.f.length ≤ 1048576) (hl : msg.length ≤ 1048576) : Meets Tryz.prog 61 [.agg (loC 122 x), rowB msg] (fun r => r = resL (pushL x msg)) := by
  refine Meets.introO mixed (hint []) (fun k => (sel (k == 15) [999,0,1,2,3,4,5,6,7,8,9,10,1013,11,12,13,14] [])) Tryz.func61 rfl (by decide) res_61 rty_61 (by kernel_rfl) ?_; 
  simp -dsimp -implicitDefEqProofs only [go_sem, loC]
  repeat (first | with_reducible refine ask.of (by omega) ?_ | simp -dsimp -implicitDefEqProofs only [go_sem, bleR, bl4])
  refine CallE.of (c_specValidOut x hx hb) (by rintro r rfl; (repeat' first | exact trivial | exact pure_rowB _ | exact pure_rowO _ | exact pure_rowI _ | exact pure_rowBB _ | exact pure_rowPk _ _ | exact pure_rowSn _ _ | exact pure_rowFd _ _ | exact pure_rowBBB _ | exact pure_rowCl _ _ | exact pure_rowTb _ _ _ | refine And.intro ?_ ?_)) (by simp -dsimp -implicitDefEqProofs only [go_sem, loC]) ?_
  rintro r rfl
  simp -dsimp -implicitDefEqProofs only [go_sem, loC]
  cases hv : loB x
  · have hv := loB_f hv
    repeat' (first | with_reducible refine ask.of (by omega) ?_ | simp -dsimp -implicitDefEqProofs only [go_sem, bleR, bl4, Bool.not_false])
    exact push_no fun h => hv h.1
  · have hv := loB_t hv
    by_cases h1 : 1 ≤ msg.length ∧ msg.length ≤ 20000
    · repeat' (first | with_reducible refine ask.of (by omega) ?_ | with_reducible refine ifB'.no (by omega) ?_ | simp -dsimp -implicitDefEqProofs only [go_sem, bleR, bl4, Bool.not_true, initE])
      refine CallE.of (c_l5out x hx hb) (by rintro r rfl; (repeat' first | exact trivial | exact pure_rowB _ | exact pure_rowO _ | exact pure_rowI _ | exact pure_rowBB _ | exact pure_rowPk _ _ | exact pure_rowSn _ _ | exact pure_rowFd _ _ | exact pure_rowBBB _ | exact pure_rowCl _ _ | exact pure_rowTb _ _ _ | refine And.intro ?_ ?_)) (by simp -dsimp -implicitDefEqProofs only [go_sem, loC]) ?_
      rintro r rfl
      simp -dsimp -implicitDefEqProofs only [go_sem, loC]
      have hn := pcN_eq hl
      have hnb : 1 ≤ pcN msg ∧ pcN msg ≤ 200 := by unfold pcN; omega
      have hbo := lo_bnd hv
      have e1 : IntKind.i64.wrap ((x.h.length : Int) + (pcN msg : Int)) = ((x.h.length + pcN msg : Nat) : Int) := by rw [wrap_i64_of (by omega) (by omega)]; omega
      have e2 : IntKind.i64.wrap (x.b + (pcN msg : Int)) = x.b + (pcN msg : Int) := wrap_i64_of (by omega) (by omega)
      repeat' (first | with_reducible refine ask.of (by first | omega | decide) ?_ | simp -dsimp -implicitDefEqProofs only [go_sem, bleR, bl4, initE, hn, e1])
      refine ifB'.of (fun h2 => ?_) (fun h2 => ?_)
      · rw [pushL_full ⟨hv, h1⟩ (by omega)]
        repeat' (first | with_reducible refine ask.of (by first | omega | decide) ?_ | simp -dsimp -implicitDefEqProofs only [go_sem, bleR, bl4, initE])
        rfl
      repeat' (first | with_reducible refine ask.of (by first | omega | decide) ?_ | simp -dsimp -implicitDefEqProofs only [go_sem, bleR, bl4, initE, hn, e2])
      refine ifB'.of (fun h3 => ?_) (fun h3 => ?_)
      · rw [pushL_end ⟨hv, h1⟩ (by omega) (by omega)]
        repeat' (first | with_reducible refine ask.of (by first | omega | decide) ?_ | simp -dsimp -implicitDefEqProofs only [go_sem, bleR, bl4, initE])
        rfl
      repeat' (first | with_reducible refine ask.of (by first | omega | decide) ?_ | simp -dsimp -implicitDefEqProofs only [go_sem, bleR, bl4, initE])
      refine LoopE.cnt (pcN msg) (fun i s => s.env 1 = .rd .ent 5 1 (bytesA msg) ∧ s.env 2 = .ptr [2] 0 0 0 ∧ s.env 4 = .ptr [4] 0 0 0 ∧ s.env 6 = .ptr [6] 0 0 0 ∧ s.env 7 = .v (.int .i64 (pcN msg)) ∧ s.env 8 = .v (.int .i64 i) ∧
        s.σ [2] = some (.box 37 [.v (.int .i64 x.a), .v (.int .i64 x.b), .v (.int .i64 x.c), .rd .ent 122 7 (ra snC x.h)]) ∧ s.σ [4] = some (.box 37 [.v (.int .i64 0), .v (.int .i64 0), .v (.int .i64 0), .v (.slice none 0 0)]) ∧
        s.σ [6] = some (.box 37 [.v (.int .i64 x.a), .v (.int .i64 x.b), .v (.int .i64 x.c), .ref [26, 3]]) ∧ s.σ [26, 3] = some (.row 122 7 (ra snC (x.h ++ pushS x msg i)))) ⟨by simp -dsimp -implicitDefEqProofs only [go_sem, initE], by simp -dsimp -implicitDefEqProofs only [go_sem], by simp -dsimp -implicitDefEqProofs only [go_sem], by simp -dsimp -implicitDefEqProofs only [go_sem], by simp -dsimp -implicitDefEqProofs only [go_sem, initE, hn], by simp -dsimp -implicitDefEqProofs only [go_sem] <;> rfl, by simp -dsimp -implicitDefEqProofs only [go_sem], by simp -dsimp -implicitDefEqProofs only [go_sem], by simp -dsimp -implicitDefEqProofs only [go_sem], by simp -dsimp -implicitDefEqProofs only [go_sem] <;> simp [pushS]⟩ ?_
      rintro i ⟨e, σ⟩ hi ⟨g1, g2, g4, g6, g7, g8, s2, s4, s6, sq⟩ K hK
      simp only at g1 g2 g4 g6 g7 g8 s2 s4 s6 sq
      simp -dsimp -implicitDefEqProofs only [go_sem, g1, g2, g4, g6, g7, g8, s2, s4, s6, sq]
      refine ifB'.of (fun hlt => ?_) (fun hlt => ?_)
      · have hlt : i < pcN msg := by omega
        have hlt2 : 100 * i < msg.length := by unfold pcN at hlt; omega
        have em : IntKind.i64.wrap ((i : Int) * 100) = ((100 * i : Nat) : Int) := by rw [wrap_i64_of (by omega) (by omega)]; omega
        have en : IntKind.i64.wrap ((pcN msg : Int) - 1) = ((pcN msg - 1 : Nat) : Int) := by rw [wrap_i64_of (by omega) (by omega)]; omega
        have ed : decide ((i : Int) = ((pcN msg - 1 : Nat) : Int)) = decide (i + 1 = pcN msg) := decide_eq_decide.2 (by omega)
        have eb : IntKind.i64.wrap (x.b + (i : Int)) = x.b + (i : Int) := by rw [wrap_i64_of (by omega) (by omega)]
        have hpl : (pieceL msg i).length ≤ 1048576 := by unfold pieceL; simp; omega
        have hql : (x.h ++ pushS x msg i).length ≤ 1048576 := by rw [List.length_append, pushS_len]; omega
        repeat' (first | with_reducible refine ask.of (by first | omega | decide | (simp; omega)) ?_ | simp -dsimp -implicitDefEqProofs only [go_sem, g1, g2, g4, g6, g7, g8, s2, s4, s6, sq, bleR, bl4, em, Int.toNat_natCast, List.take_length])
        refine ifB'.of (fun hc => ?_) (fun hc => ?_)
        · have ep : List.take 100 (List.drop (100 * i) msg) = pieceL msg i := rfl
          repeat' (first | with_reducible refine ask.of (by first | omega | decide | (simp; omega)) ?_ | simp -dsimp -implicitDefEqProofs only [go_sem, g1, g2, g4, g6, g7, g8, s2, s4, s6, sq, bleR, bl4, em, en, ed, eb, Int.toNat_natCast, List.take_length, List.drop_zero, tz0, tz100, ep])
          refine CallE.of (c_l1copy (pieceL msg i) (by omega)) (by rintro r rfl; (repeat' first | exact trivial | exact pure_rowB _ | exact pure_rowO _ | exact pure_rowI _ | exact pure_rowBB _ | exact pure_rowPk _ _ | exact pure_rowSn _ _ | exact pure_rowFd _ _ | exact pure_rowBBB _ | exact pure_rowCl _ _ | exact pure_rowTb _ _ _ | refine And.intro ?_ ?_)) (by simp -dsimp -implicitDefEqProofs only [go_sem, g1, g2, g4, g6, g7, g8, s2, s4, s6, sq]) ?_
          rintro r rfl
          simp -dsimp -implicitDefEqProofs only [go_sem, g1, g2, g4, g6, g7, g8, s2, s4, s6, sq]
          repeat' (first | with_reducible refine ask.of (by first | omega | decide | (simp only [ra_length, List.length_cons, List.length_nil]; omega)) ?_ | simp -dsimp -implicitDefEqProofs only [go_sem, g1, g2, g4, g6, g7, g8, s2, s4, s6, sq, bleR, bl4, bl67, en, ed, eb, push_snoc])
          refine hK _ hlt ?_
          simp -dsimp -implicitDefEqProofs only [go_sem, g1, g2, g4, g6, g7, g8, s2, s4, s6, sq, wrap_succ (show i < 4611686018427387904 by omega)]
        · have ep : List.drop (100 * i) msg = pieceL msg i := (List.take_of_length_le (by simp at hc ⊢; omega)).symm
          repeat' (first | with_reducible refine ask.of (by first | omega | decide | (simp; omega)) ?_ | simp -dsimp -implicitDefEqProofs only [go_sem, g1, g2, g4, g6, g7, g8, s2, s4, s6, sq, bleR, bl4, em, en, ed, eb, Int.toNat_natCast, List.take_length, List.drop_zero, tz0, tz100, ep])
          refine CallE.of (c_l1copy (pieceL msg i) (by omega)) (by rintro r rfl; (repeat' first | exact trivial | exact pure_rowB _ | exact pure_rowO _ | exact pure_rowI _ | exact pure_rowBB _ | exact pure_rowPk _ _ | exact pure_rowSn _ _ | exact pure_rowFd _ _ | exact pure_rowBBB _ | exact pure_rowCl _ _ | exact pure_rowTb _ _ _ | refine And.intro ?_ ?_)) (by simp -dsimp -implicitDefEqProofs only [go_sem, g1, g2, g4, g6, g7, g8, s2, s4, s6, sq]) ?_
          rintro r rfl
          simp -dsimp -implicitDefEqProofs only [go_sem, g1, g2, g4, g6, g7, g8, s2, s4, s6, sq]
          repeat' (first | with_reducible refine ask.of (by first | omega | decide | (simp only [ra_length, List.length_cons, List.length_nil]; omega)) ?_ | simp -dsimp -implicitDefEqProofs only [go_sem, g1, g2, g4, g6, g7, g8, s2, s4, s6, sq, bleR, bl4, bl67, en, ed, eb, push_snoc])
          refine hK _ hlt ?_
          simp -dsimp -implicitDefEqProofs only [go_sem, g1, g2, g4, g6, g7, g8, s2, s4, s6, sq, wrap_succ (show i < 4611686018427387904 by omega)]
      · have : i = pcN msg := by omega
        subst this
        rw [pushL_yes ⟨hv, h1⟩ (by omega) (by omega)]
        repeat' (first | with_reducible refine ask.of (by first | omega | decide) ?_ | simp -dsimp -implicitDefEqProofs only [go_sem, g1, g2, g4, g6, g7, g8, s2, s4, s6, sq, bleR, bl4, e2])
        rfl
    · repeat' (first | exact push_no fun h => h1 h.2 | with_reducible refine ask.of (by omega) ?_ | with_reducible refine ifB'.of (fun _ => ?_) (fun _ => ?_) | simp -dsimp -implicitDefEqProofs only [go_sem, bleR, bl4, Bool.not_true, Bool.not_false, initE])
      all_goals (exfalso; omega)
end Go.Ev
set_option linter.unusedSimpArgs false
set_option linter.unusedVariables false
namespace Go.Ev
open Go Go.RowKit Go.Proofs
theorem szSnP_len (xs : List Sn) : szL szSn xs = 6 * xs.length + szL snW xs := by
  induction xs with
  | nil => rfl
  | cons x xs ih => simp only [szL, List.map_cons, List.sum_cons, List.length_cons, szSn, snW] at ih ⊢; omega
theorem snP_mem {xs : List Sn} {b : Sn} (h : b ∈ xs) : b.p.f.length ≤ szL snW xs := by
  induction xs with
  | nil => cases h
  | cons x xs ih =>
    simp only [szL, List.map_cons, List.sum_cons, snW] at ih ⊢
    rcases List.mem_cons.1 h with rfl | h
    · omega
    · have := ih h; omega
theorem pushS_w (x : LO) (msg : List UInt8) : ∀ k, szL snW (pushS x msg k) ≤ 100 * k
  | 0 => by simp [pushS, szL]
  | k + 1 => by
    rw [pushS_succ]
    have h := pushS_w x msg k
    have h2 : (pushSn x msg k).p.f.length ≤ 100 := by show (pieceL msg k).length ≤ 100; unfold pieceL; simp; omega
    simp only [szL, List.map_append, List.sum_append, List.map_cons, List.map_nil, List.sum_cons, List.sum_nil, snW] at h h2 ⊢
    omega
theorem pushL_b (x : LO) (msg : List UInt8) (hw : x.h.length + szL snW x.h ≤ 1048576) : (pushL x msg).1.h.length ≤ 1048576 ∧ szL snW (pushL x msg).1.h ≤ 1048576 + 30000 ∧ ∀ b ∈ (pushL x msg).1.h, b.p.f.length ≤ 1048576 := by
  by_cases h : pushC x msg
  · by_cases h2 : 300 < x.h.length + pcN msg
    · rw [pushL_full h h2]; exact ⟨by show x.h.length ≤ _; omega, by show szL snW x.h ≤ _; omega, fun b hb => by have := snP_mem (show b ∈ x.h from hb); omega⟩
    by_cases h3 : 1000000000000 < x.b + pcN msg
    · rw [pushL_end h h2 h3]; exact ⟨by show x.h.length ≤ _; omega, by show szL snW x.h ≤ _; omega, fun b hb => by have := snP_mem (show b ∈ x.h from hb); omega⟩
    · rw [pushL_yes h h2 h3]
      have h4 := pushS_w x msg (pcN msg)
      refine ⟨?_, ?_, fun b hb => ?_⟩
      · show (x.h ++ pushS x msg (pcN msg)).length ≤ _; rw [List.length_append, pushS_len]; omega
      · show szL snW (x.h ++ pushS x msg (pcN msg)) ≤ _
        have e : szL snW (x.h ++ pushS x msg (pcN msg)) = szL snW x.h + szL snW (pushS x msg (pcN msg)) := by simp [szL]
        omega
      · rcases List.mem_append.1 hb with hb | hb
        · have := snP_mem hb; omega
        · have := snP_mem hb; omega
  · rw [pushL_no h]; exact ⟨Nat.zero_le _, Nat.zero_le _, fun b hb => by cases hb⟩
end Go.Ev
set_option linter.unusedSimpArgs false
set_option linter.unusedVariables false
namespace Go.Ev
open Go Go.RowKit Go.Proofs
set_option maxRecDepth 8000 in
theorem c_tableCopy (x : Tb) (hx : tOk x 1048576) : Meets Tryz.prog 123 [.agg (tbC 149 x)] (fun r => r = .agg (tbC 149 x)) := by
  refine Meets.intro mixed (hint []) Tryz.func123 rfl (by decide) res_123 rty_123 (by kernel_rfl) ?_; 
  simp -dsimp -implicitDefEqProofs only [go_sem, tbC]
  repeat (first | with_reducible refine ask.of (by first | omega | decide) ?_ | simp -dsimp -implicitDefEqProofs only [go_sem, bl22, bl3])
  refine LoopE.cnt x.c.length (fun i s => s.env 1 = .ptr [1] 0 0 0 ∧ s.env 2 = .ptr [2] 0 0 0 ∧ s.env 3 = .ref [6] ∧ s.env 8 = .rd .ent 149 3 (ra clC x.c) ∧ s.env 9 = .v (.int .i64 x.c.length) ∧ s.env 10 = .v (.int .i64 i) ∧ s.σ [1] = some (.box 105 [.v (.int .i64 x.r), .rd .ent 149 3 (ra clC x.c)])
    ∧ s.σ [2] = some (.box 105 [.v (.int .i64 0), .v (.slice none 0 0)]) ∧ s.σ [6] = some (.row 149 3 (ra clC (x.c.take i)))) ⟨by simp -dsimp -implicitDefEqProofs only [go_sem], by simp -dsimp -implicitDefEqProofs only [go_sem], by simp -dsimp -implicitDefEqProofs only [go_sem], by simp -dsimp -implicitDefEqProofs only [go_sem], by simp -dsimp -implicitDefEqProofs only [go_sem], by simp -dsimp -implicitDefEqProofs only [go_sem] <;> rfl, by simp -dsimp -implicitDefEqProofs only [go_sem], by simp -dsimp -implicitDefEqProofs only [go_sem], by simp -dsimp -implicitDefEqProofs only [go_sem] <;> rfl⟩ ?_
  rintro i ⟨e, σ⟩ hi ⟨h1, h2, h3, h8, h9, h10, hs1, hs2, hs6⟩ K hK
  simp only at h1 h2 h3 h8 h9 h10 hs1 hs2 hs6
  simp -dsimp -implicitDefEqProofs only [go_sem, h1, h2, h3, h8, h9, h10, hs1, hs2, hs6]
  have hx1 := hx.1
  refine ifB'.of (fun hlt => ?_) (fun hlt => ?_)
  · have hlt : i < x.c.length := by omega
    have hp := hx.2 _ (List.getElem_mem hlt)
    repeat (first | with_reducible refine ask.of (by first | omega | decide) ?_ | simp -dsimp -implicitDefEqProofs only [go_sem, h1, h2, h3, h8, h9, h10, hs1, hs2, hs6, bl22, bl3, Cl_at hlt, clC])
    refine CallE.of (c_bytesClone x.c[i].f (by omega)) (by rintro r rfl; (repeat' first | exact trivial | exact pure_rowB _ | exact pure_rowO _ | exact pure_rowI _ | exact pure_rowBB _ | exact pure_rowPk _ _ | exact pure_rowSn _ _ | exact pure_rowFd _ _ | exact pure_rowBBB _ | exact pure_rowCl _ _ | exact pure_rowTb _ _ _ | refine And.intro ?_ ?_)) (by simp -dsimp -implicitDefEqProofs only [go_sem, h1, h2, h3, h8, h9, h10, hs1, hs2, hs6]) ?_
    rintro r rfl
    simp -dsimp -implicitDefEqProofs only [go_sem, h1, h2, h3, h8, h9, h10, hs1, hs2, hs6]
    repeat (first | with_reducible refine ask.of (by first | omega | decide | (simp; omega)) ?_ | simp -dsimp -implicitDefEqProofs only [go_sem, h1, h2, h3, h8, h9, h10, hs1, hs2, hs6, bl22, bl3, Cl_at hlt, clC])
    refine hK _ hlt ?_
    simp -dsimp -implicitDefEqProofs only [go_sem, h1, h2, h3, h8, h9, h10, hs1, hs2, hs6, wrap_succ (show i < 4611686018427387904 by omega), cl_takeS hlt]
  · have : i = x.c.length := by omega
    subst this
    rw [List.take_length] at hs6
    simp -dsimp -implicitDefEqProofs only [go_sem, h1, h2, h3, h8, h9, h10, hs1, hs2, hs6]
    repeat (first | with_reducible refine ask.of (by first | omega | decide) ?_ | simp -dsimp -implicitDefEqProofs only [go_sem, h1, h2, h3, h8, h9, h10, hs1, hs2, hs6, bl22, bl3])
set_option maxRecDepth 8000 in
theorem c_tablesCopy (xs : List Tb) (hx : xs.length ≤ 1048576) (hb : ∀ b ∈ xs, tOk b 1048576) : Meets Tryz.prog 74 [rowTb 105 149 xs] (fun r => r = rowTb 105 149 xs) := by
  refine Meets.intro mixed (hint []) Tryz.func74 rfl (by decide) res_74 rty_74 (by kernel_rfl) ?_; 
  simp -dsimp -implicitDefEqProofs only [go_sem, rowTb]
  repeat (first | with_reducible refine ask.of (by first | omega | decide) ?_ | simp -dsimp -implicitDefEqProofs only [go_sem, initE, rowTb])
  refine LoopE.cnt xs.length (fun i s => s.env 3 = .ref [6] ∧ s.env 7 = .rd .ent 105 2 (ra (tbC 149) xs) ∧ s.env 8 = .v (.int .i64 xs.length) ∧ s.env 9 = .v (.int .i64 i) ∧ s.σ [6] = some (.row 105 2 (ra (tbC 149) (xs.take i)))) ⟨by simp -dsimp -implicitDefEqProofs only [go_sem], by simp -dsimp -implicitDefEqProofs only [go_sem, initE, rowTb], by simp -dsimp -implicitDefEqProofs only [go_sem, initE, rowTb], by simp -dsimp -implicitDefEqProofs only [go_sem] <;> rfl, by simp -dsimp -implicitDefEqProofs only [go_sem] <;> rfl⟩ ?_
  rintro i ⟨e, σ⟩ hi ⟨h3, h7, h8, h9, hs⟩ K hK
  simp only at h3 h7 h8 h9 hs
  simp -dsimp -implicitDefEqProofs only [go_sem, h3, h7, h8, h9, hs]
  refine ifB'.of (fun hlt => ?_) (fun hlt => ?_)
  · have hlt : i < xs.length := by omega
    repeat (first | with_reducible refine ask.of (by first | omega | decide) ?_ | simp -dsimp -implicitDefEqProofs only [go_sem, h3, h7, h8, h9, hs, tbA_at hlt, bl22])
    refine CallE.of (c_tableCopy xs[i] (hb _ (List.getElem_mem hlt))) (by rintro r rfl; (repeat' first | exact trivial | exact pure_rowB _ | exact pure_rowO _ | exact pure_rowI _ | exact pure_rowBB _ | exact pure_rowPk _ _ | exact pure_rowSn _ _ | exact pure_rowFd _ _ | exact pure_rowBBB _ | exact pure_rowCl _ _ | exact pure_rowTb _ _ _ | refine And.intro ?_ ?_)) (by simp -dsimp -implicitDefEqProofs only [go_sem, h3, h7, h8, h9, hs, tbC]) ?_
    rintro r rfl
    simp -dsimp -implicitDefEqProofs only [go_sem, h3, h7, h8, h9, hs, tbC]
    repeat (first | with_reducible refine ask.of (by first | omega | decide | (simp; omega)) ?_ | simp -dsimp -implicitDefEqProofs only [go_sem, h3, h7, h8, h9, hs, tbA_at hlt, bl22])
    refine hK _ hlt ?_
    simp -dsimp -implicitDefEqProofs only [go_sem, h3, h7, h8, h9, hs, wrap_succ (show i < 4611686018427387904 by omega), tb_takeS hlt]
  · have : i = xs.length := by omega
    subst this
    simp -dsimp -implicitDefEqProofs only [go_sem, h3, h7, h8, h9, hs, List.take_length]
set_option maxRecDepth 8000 in
theorem c_l6tables (xs : List Tb) (hx : xs.length ≤ 1048576) (hb : ∀ b ∈ xs, tOk b 1048576) : Meets Tryz.prog 45 [rowTb 105 149 xs] (fun r => r = rowTb 105 149 xs) := by
  refine Meets.intro mixed (hint [(3, 134)]) Tryz.func45 rfl (by decide) res_45 rty_45 (by kernel_rfl) ?_; 
  simp -dsimp -implicitDefEqProofs only [go_sem, rowTb]
  refine LoopE.cnt xs.length (fun i s => s.env 0 = .rd .ent 105 2 (ra (tbC 149) xs) ∧ s.env 3 = .ref [3] ∧ s.env 4 = .v (.int .i64 i) ∧ s.σ [3] = some (.row 105 2 (ra (tbC 149) (xs.take i)))) ⟨by simp -dsimp -implicitDefEqProofs only [go_sem, initE, rowTb], by simp -dsimp -implicitDefEqProofs only [go_sem], by simp -dsimp -implicitDefEqProofs only [go_sem] <;> rfl, by simp -dsimp -implicitDefEqProofs only [go_sem] <;> rfl⟩ ?_
  rintro i ⟨e, σ⟩ hi ⟨h0, h3, h4, hs⟩ K hK
  simp only at h0 h3 h4 hs
  simp -dsimp -implicitDefEqProofs only [go_sem, h0, h3, h4, hs]
  refine ifB'.of (fun hlt => ?_) (fun hlt => ?_)
  · have hlt : i < xs.length := by omega
    repeat (first | with_reducible refine ask.of (by first | omega | decide) ?_ | simp -dsimp -implicitDefEqProofs only [go_sem, h0, h3, h4, hs, tbA_at hlt, bl22])
    refine CallE.of (c_l6table xs[i] (hb _ (List.getElem_mem hlt))) (by rintro r rfl; (repeat' first | exact trivial | exact pure_rowB _ | exact pure_rowO _ | exact pure_rowI _ | exact pure_rowBB _ | exact pure_rowPk _ _ | exact pure_rowSn _ _ | exact pure_rowFd _ _ | exact pure_rowBBB _ | exact pure_rowCl _ _ | exact pure_rowTb _ _ _ | refine And.intro ?_ ?_)) (by simp -dsimp -implicitDefEqProofs only [go_sem, h0, h3, h4, hs, tbC]) ?_
    rintro r rfl
    simp -dsimp -implicitDefEqProofs only [go_sem, h0, h3, h4, hs, tbC]
    repeat (first | with_reducible refine ask.of (by first | omega | decide | (simp; omega)) ?_ | simp -dsimp -implicitDefEqProofs only [go_sem, h0, h3, h4, hs, tbA_at hlt, bl22])
    refine hK _ hlt ?_
    simp -dsimp -implicitDefEqProofs only [go_sem, h0, h3, h4, hs, wrap_succ (show i < 4611686018427387904 by omega), tb_takeS hlt]
  · have : i = xs.length := by omega
    subst this
    simp -dsimp -implicitDefEqProofs only [go_sem, h0, h3, h4, hs, List.take_length]
theorem bbb_takeS {xs : List (List (List UInt8))} {i : Nat} (h : i < xs.length) : ra bbC (xs.take i) ++ [[.row 48 1 (ra byC xs[i])]] = ra bbC (xs.take (i + 1)) := by rw [List.take_succ_eq_append_getElem h, ← ra_append]; rfl
theorem lenOk_w {b : List (List UInt8)} (h : b.length + wBB b ≤ 1048576) : ∀ c ∈ b, c.length ≤ 8388608 := fun c hc => by have := mem_wBB hc; omega
set_option maxRecDepth 8000 in
set_option maxHeartbeats 1000000 in
theorem c_l4stream (x : Sm) (h1 : x.fs.length ≤ 1048576) (h2 : ∀ b ∈ x.fs, b.f.length ≤ 1048576) (h3 : x.ds.length ≤ 1048576) (h4 : ∀ b ∈ x.ds, b.length + wBB b ≤ 1048576) : Meets Tryz.prog 59 [.agg (smC 101 x)] (fun r => r = .agg (smC 101 x)) := by
  refine Meets.introO mixed (hint []) (fun k => (sel (k == 1) [999,0,1,2,3,5,6,1008,4,7,8,9] (sel (k == 5) [0,1,2,3,4,5,6,7,8,9,10,11] []))) Tryz.func59 rfl (by decide) res_59 rty_59 (by kernel_rfl) ?_; 
  simp -dsimp -implicitDefEqProofs only [go_sem, smC]
  repeat (first | with_reducible refine ask.of (by first | omega | decide) ?_ | simp -dsimp -implicitDefEqProofs only [go_sem, bl3])
  refine CallE.of (c_l4fields x.fs h1 h2) (by rintro r rfl; (repeat' first | exact trivial | exact pure_rowB _ | exact pure_rowO _ | exact pure_rowI _ | exact pure_rowBB _ | exact pure_rowPk _ _ | exact pure_rowSn _ _ | exact pure_rowFd _ _ | exact pure_rowBBB _ | exact pure_rowCl _ _ | exact pure_rowTb _ _ _ | refine And.intro ?_ ?_)) (by simp -dsimp -implicitDefEqProofs only [go_sem, rowFd]) ?_
  rintro r rfl
  simp -dsimp -implicitDefEqProofs only [go_sem, rowFd]
  repeat (first | with_reducible refine ask.of (by first | omega | decide) ?_ | simp -dsimp -implicitDefEqProofs only [go_sem, bl3])
  refine LoopE.cntW x.ds.length (fun i s => s.env 1 = .ptr [1] 0 0 0 ∧ s.env 2 = .ptr [2] 0 0 0 ∧ s.env 3 = .ptr [3] 0 0 0 ∧ s.env 4 = .v (.int .i64 i) ∧ s.σ [1] = some (.box 39 [.v (.bool x.o), .rd .ent 101 3 (ra fdC x.fs), .v (.int .i64 x.s), .rd .ent 132 1 (ra bbC x.ds)])
    ∧ s.σ [2] = some (.box 39 [.v (.bool false), .v (.slice none 0 0), .v (.int .i64 0), .v (.slice none 0 0)]) ∧ s.σ [3] = some (.box 39 [.v (.bool x.o), .ref [9], .v (.int .i64 x.s), .ref [50]]) ∧ s.σ [9] = some (.row 101 3 (ra fdC x.fs)) ∧ s.σ [50] = some (.row 132 1 (ra bbC (x.ds.take i))))
    (Wk.box [3] 3 [50] 132 1 39 [.v (.bool x.o), .ref [9], .v (.int .i64 x.s), .v (.slice none 0 0)] ?_ rfl rfl (Wk.refl _)) ?_ ?_
  · simp -dsimp -implicitDefEqProofs only [go_sem]
  · refine ⟨by simp -dsimp -implicitDefEqProofs only [go_sem], by simp -dsimp -implicitDefEqProofs only [go_sem], by simp -dsimp -implicitDefEqProofs only [go_sem], by simp -dsimp -implicitDefEqProofs only [go_sem] <;> rfl, by simp -dsimp -implicitDefEqProofs only [go_sem], by simp -dsimp -implicitDefEqProofs only [go_sem], by simp -dsimp -implicitDefEqProofs only [go_sem] <;> rfl, by simp -dsimp -implicitDefEqProofs only [go_sem], by simp -dsimp -implicitDefEqProofs only [go_sem] <;> rfl⟩
  rintro i ⟨e, σ⟩ hi ⟨h1', h2', h3', h4', hs1, hs2, hs3, hs9, hs50⟩ K hK
  simp only at h1' h2' h3' h4' hs1 hs2 hs3 hs9 hs50
  simp -dsimp -implicitDefEqProofs only [go_sem, h1', h2', h3', h4', hs1, hs2, hs3, hs9, hs50]
  repeat (first | with_reducible refine ask.of (by first | omega | decide) ?_ | simp -dsimp -implicitDefEqProofs only [go_sem, h1', h2', h3', h4', hs1, hs2, hs3, hs9, hs50, bl3])
  refine ifB'.of (fun hlt => ?_) (fun hlt => ?_)
  · have hlt : i < x.ds.length := by omega
    have hp := h4 _ (List.getElem_mem hlt)
    repeat (first | with_reducible refine ask.of (by first | omega | decide) ?_ | simp -dsimp -implicitDefEqProofs only [go_sem, h1', h2', h3', h4', hs1, hs2, hs3, hs9, hs50, bl3, bbA_at hlt])
    refine CallE.of (c_l3texts x.ds[i] (by omega) (lenOk_w hp)) (by rintro r rfl; (repeat' first | exact trivial | exact pure_rowB _ | exact pure_rowO _ | exact pure_rowI _ | exact pure_rowBB _ | exact pure_rowPk _ _ | exact pure_rowSn _ _ | exact pure_rowFd _ _ | exact pure_rowBBB _ | exact pure_rowCl _ _ | exact pure_rowTb _ _ _ | refine And.intro ?_ ?_)) (by simp -dsimp -implicitDefEqProofs only [go_sem, h1', h2', h3', h4', hs1, hs2, hs3, hs9, hs50]) ?_
    rintro r rfl
    simp -dsimp -implicitDefEqProofs only [go_sem, h1', h2', h3', h4', hs1, hs2, hs3, hs9, hs50]
    repeat (first | with_reducible refine ask.of (by first | omega | decide | (simp; omega)) ?_ | simp -dsimp -implicitDefEqProofs only [go_sem, h1', h2', h3', h4', hs1, hs2, hs3, hs9, hs50, bl3, bbA_at hlt])
    refine hK _ _ hlt (Wk.refl _) ?_
    simp -dsimp -implicitDefEqProofs only [go_sem, h1', h2', h3', h4', hs1, hs2, hs3, hs9, hs50, wrap_succ (show i < 4611686018427387904 by omega), bbb_takeS hlt]
  · have : i = x.ds.length := by omega
    subst this
    rw [List.take_length] at hs50
    simp -dsimp -implicitDefEqProofs only [go_sem, h1', h2', h3', h4', hs1, hs2, hs3, hs9, hs50]
    repeat (first | with_reducible refine ask.of (by first | omega | decide) ?_ | simp -dsimp -implicitDefEqProofs only [go_sem, h1', h2', h3', h4', hs1, hs2, hs3, hs9, hs50, bl3])
set_option maxRecDepth 8000 in
set_option maxHeartbeats 1000000 in
theorem c_streamCopy (x : Sm) (h1 : x.fs.length ≤ 1048576) (h2 : ∀ b ∈ x.fs, b.f.length ≤ 1048576) (h3 : x.ds.length ≤ 1048576) (h4 : ∀ b ∈ x.ds, b.length + wBB b ≤ 1048576) : Meets Tryz.prog 76 [.agg (smC 101 x)] (fun r => r = .agg (smC 101 x)) := by
  refine Meets.introO mixed (hint []) (fun k => (sel (k == 7) [0,1,2,3,4,5,6,7] [])) Tryz.func76 rfl (by decide) res_76 rty_76 (by kernel_rfl) ?_; 
  simp -dsimp -implicitDefEqProofs only [go_sem, smC]
  repeat (first | with_reducible refine ask.of (by first | omega | decide) ?_ | simp -dsimp -implicitDefEqProofs only [go_sem, bl3])
  refine CallE.of (c_fieldsCopy x.fs h1 h2) (by rintro r rfl; (repeat' first | exact trivial | exact pure_rowB _ | exact pure_rowO _ | exact pure_rowI _ | exact pure_rowBB _ | exact pure_rowPk _ _ | exact pure_rowSn _ _ | exact pure_rowFd _ _ | exact pure_rowBBB _ | exact pure_rowCl _ _ | exact pure_rowTb _ _ _ | refine And.intro ?_ ?_)) (by simp -dsimp -implicitDefEqProofs only [go_sem, rowFd]) ?_
  rintro r rfl
  simp -dsimp -implicitDefEqProofs only [go_sem, rowFd]
  repeat (first | with_reducible refine ask.of (by first | omega | decide) ?_ | simp -dsimp -implicitDefEqProofs only [go_sem, bl3])
  refine LoopE.cntW x.ds.length (fun i s => s.env 1 = .ptr [1] 0 0 0 ∧ s.env 2 = .ptr [2] 0 0 0 ∧ s.env 3 = .ptr [3] 0 0 0 ∧ s.env 13 = .rd .ent 132 1 (ra bbC x.ds) ∧ s.env 14 = .v (.int .i64 x.ds.length) ∧ s.env 15 = .v (.int .i64 i)
    ∧ s.σ [2] = some (.box 39 [.v (.bool false), .v (.slice none 0 0), .v (.int .i64 0), .v (.slice none 0 0)]) ∧ s.σ [3] = some (.box 39 [.v (.bool x.o), .ref [9], .v (.int .i64 x.s), .ref [50]]) ∧ s.σ [9] = some (.row 101 3 (ra fdC x.fs)) ∧ s.σ [50] = some (.row 132 1 (ra bbC (x.ds.take i))))
    (Wk.box [3] 3 [50] 132 1 39 [.v (.bool x.o), .ref [9], .v (.int .i64 x.s), .v (.slice none 0 0)] ?_ rfl rfl (Wk.refl _)) ?_ ?_
  · simp -dsimp -implicitDefEqProofs only [go_sem]
  · refine ⟨by simp -dsimp -implicitDefEqProofs only [go_sem], by simp -dsimp -implicitDefEqProofs only [go_sem], by simp -dsimp -implicitDefEqProofs only [go_sem], by simp -dsimp -implicitDefEqProofs only [go_sem], by simp -dsimp -implicitDefEqProofs only [go_sem], by simp -dsimp -implicitDefEqProofs only [go_sem] <;> rfl, by simp -dsimp -implicitDefEqProofs only [go_sem], by simp -dsimp -implicitDefEqProofs only [go_sem] <;> rfl, by simp -dsimp -implicitDefEqProofs only [go_sem], by simp -dsimp -implicitDefEqProofs only [go_sem] <;> rfl⟩
  rintro i ⟨e, σ⟩ hi ⟨h1', h2', h3', h13, h14, h15, hs2, hs3, hs9, hs50⟩ K hK
  simp only at h1' h2' h3' h13 h14 h15 hs2 hs3 hs9 hs50
  simp -dsimp -implicitDefEqProofs only [go_sem, h1', h2', h3', h13, h14, h15, hs2, hs3, hs9, hs50]
  refine ifB'.of (fun hlt => ?_) (fun hlt => ?_)
  · have hlt : i < x.ds.length := by omega
    have hp := h4 _ (List.getElem_mem hlt)
    repeat (first | with_reducible refine ask.of (by first | omega | decide) ?_ | simp -dsimp -implicitDefEqProofs only [go_sem, h1', h2', h3', h13, h14, h15, hs2, hs3, hs9, hs50, bl3, bbA_at hlt])
    refine CallE.of (c_textsCopy x.ds[i] hp) (by rintro r rfl; (repeat' first | exact trivial | exact pure_rowB _ | exact pure_rowO _ | exact pure_rowI _ | exact pure_rowBB _ | exact pure_rowPk _ _ | exact pure_rowSn _ _ | exact pure_rowFd _ _ | exact pure_rowBBB _ | exact pure_rowCl _ _ | exact pure_rowTb _ _ _ | refine And.intro ?_ ?_)) (by simp -dsimp -implicitDefEqProofs only [go_sem, h1', h2', h3', h13, h14, h15, hs2, hs3, hs9, hs50]) ?_
    rintro r rfl
    simp -dsimp -implicitDefEqProofs only [go_sem, h1', h2', h3', h13, h14, h15, hs2, hs3, hs9, hs50]
    repeat (first | with_reducible refine ask.of (by first | omega | decide | (simp; omega)) ?_ | simp -dsimp -implicitDefEqProofs only [go_sem, h1', h2', h3', h13, h14, h15, hs2, hs3, hs9, hs50, bl3, bbA_at hlt])
    refine hK _ _ hlt (Wk.refl _) ?_
    simp -dsimp -implicitDefEqProofs only [go_sem, h1', h2', h3', h13, h14, h15, hs2, hs3, hs9, hs50, wrap_succ (show i < 4611686018427387904 by omega), bbb_takeS hlt]
  · have : i = x.ds.length := by omega
    subst this
    rw [List.take_length] at hs50
    simp -dsimp -implicitDefEqProofs only [go_sem, h1', h2', h3', h13, h14, h15, hs2, hs3, hs9, hs50]
    repeat (first | with_reducible refine ask.of (by first | omega | decide) ?_ | simp -dsimp -implicitDefEqProofs only [go_sem, h1', h2', h3', h13, h14, h15, hs2, hs3, hs9, hs50, bl3])
end Go.Ev
set_option linter.unusedSimpArgs false
set_option linter.unusedVariables false
namespace Go.Ev
open Go Go.RowKit Go.Proofs
def mkLo (k : Nat) (x : LO) : LO := { x with h := mkSnS k x.h }
def mkSd (k : Nat) (x : Sd) : Sd := ⟨mkFdS k x.f, x.e, x.b, mkTbS (k + szL szFd x.f) x.t, x.p, mkLo (k + szL szFd x.f + szL szTb x.t) x.o, mkSm (k + szL szFd x.f + szL szTb x.t + szL szSn x.o.h) x.s⟩
def szSd (x : Sd) : Nat := szL szFd x.f + szL szTb x.t + szL szSn x.o.h + szSm x.s
theorem bl13b : Nat.ble 1 13 = true ∧ Nat.ble 4 13 = true ∧ Nat.ble 2 13 = true ∧ Nat.ble 3 13 = true ∧ Nat.ble 12 13 = true ∧ Nat.ble 7 13 = true ∧ Nat.ble 8 13 = true := ⟨rfl, rfl, rfl, rfl, rfl, rfl, rfl⟩
set_option maxRecDepth 8000 in
set_option maxHeartbeats 1000000 in
theorem c_markSender (x : Sd) (k : Nat) (hk : k + szSd x ≤ 4611686018427387904) (hx : SdT x) : MeetsM Tryz.prog 10 [.mu (.agg (sdCi x)), .rd (.v (.int .i64 k))] (fun r rs => r = .v (.int .i64 ((k + szSd x : Nat) : Int)) ∧ rs = [.agg (sdCi (mkSd k x)), .any]) := by
  refine MeetsM.intro mixed (hint []) Tryz.func10 rfl (by decide) res_10 rty_10 (pts := parTys Tryz.prog 10) (by rw [par_10]; rfl) (by kernel_rfl) ?_; rw [par_10]; intro vals; 
  simp -dsimp -implicitDefEqProofs only [go_sem, sdCi, sdC]
  unfold szSd at hk
  repeat (first | with_reducible refine ask.of (by first | omega | decide) ?_ | simp -dsimp -implicitDefEqProofs only [go_sem, bl13, bl13b])
  refine CallE.mut (c_markFieldS x.f k (by omega) hx.f hx.fb) (by simp -dsimp -implicitDefEqProofs only [go_sem]) (by rintro r rs ⟨rfl, rfl⟩; exact ⟨by (repeat' first | exact trivial | exact pure_rowB _ | exact pure_rowO _ | exact pure_rowI _ | exact pure_rowBB _ | exact pure_rowPk _ _ | exact pure_rowSn _ _ | exact pure_rowFd _ _ | exact pure_rowBBB _ | exact pure_rowCl _ _ | exact pure_rowTb _ _ _ | refine And.intro ?_ ?_), by first | exact ⟨by (repeat' first | exact trivial | exact pure_rowB _ | exact pure_rowO _ | exact pure_rowI _ | exact pure_rowBB _ | exact pure_rowPk _ _ | exact pure_rowSn _ _ | exact pure_rowFd _ _ | exact pure_rowBBB _ | exact pure_rowCl _ _ | exact pure_rowTb _ _ _ | refine And.intro ?_ ?_), trivial⟩ | exact ⟨by (repeat' first | exact trivial | exact pure_rowB _ | exact pure_rowO _ | exact pure_rowI _ | exact pure_rowBB _ | exact pure_rowPk _ _ | exact pure_rowSn _ _ | exact pure_rowFd _ _ | exact pure_rowBBB _ | exact pure_rowCl _ _ | exact pure_rowTb _ _ _ | refine And.intro ?_ ?_), trivial, trivial⟩⟩) (by simp -dsimp -implicitDefEqProofs only [go_sem, rowFd]) (by simp -dsimp -implicitDefEqProofs only [go_sem, rowFd]) ?_
  rintro r rs ⟨rfl, rfl⟩
  simp -dsimp -implicitDefEqProofs only [go_sem, rowFd]
  repeat (first | with_reducible refine ask.of (by first | omega | decide) ?_ | simp -dsimp -implicitDefEqProofs only [go_sem, bl13, bl13b])
  refine CallE.mut (c_markTableS x.t (k + szL szFd x.f) (by omega) hx.t hx.tt) (by simp -dsimp -implicitDefEqProofs only [go_sem]) (by rintro r rs ⟨rfl, rfl⟩; exact ⟨by (repeat' first | exact trivial | exact pure_rowB _ | exact pure_rowO _ | exact pure_rowI _ | exact pure_rowBB _ | exact pure_rowPk _ _ | exact pure_rowSn _ _ | exact pure_rowFd _ _ | exact pure_rowBBB _ | exact pure_rowCl _ _ | exact pure_rowTb _ _ _ | refine And.intro ?_ ?_), by first | exact ⟨by (repeat' first | exact trivial | exact pure_rowB _ | exact pure_rowO _ | exact pure_rowI _ | exact pure_rowBB _ | exact pure_rowPk _ _ | exact pure_rowSn _ _ | exact pure_rowFd _ _ | exact pure_rowBBB _ | exact pure_rowCl _ _ | exact pure_rowTb _ _ _ | refine And.intro ?_ ?_), trivial⟩ | exact ⟨by (repeat' first | exact trivial | exact pure_rowB _ | exact pure_rowO _ | exact pure_rowI _ | exact pure_rowBB _ | exact pure_rowPk _ _ | exact pure_rowSn _ _ | exact pure_rowFd _ _ | exact pure_rowBBB _ | exact pure_rowCl _ _ | exact pure_rowTb _ _ _ | refine And.intro ?_ ?_), trivial, trivial⟩⟩) (by simp -dsimp -implicitDefEqProofs only [go_sem, rowTb]) (by simp -dsimp -implicitDefEqProofs only [go_sem, rowTb]) ?_
  rintro r rs ⟨rfl, rfl⟩
  simp -dsimp -implicitDefEqProofs only [go_sem, rowTb]
  repeat (first | with_reducible refine ask.of (by first | omega | decide) ?_ | simp -dsimp -implicitDefEqProofs only [go_sem, bl13, bl13b])
  refine CallE.mut (c_markLinkOut x.o (k + szL szFd x.f + szL szTb x.t) (by omega) hx.o hx.ob) (by simp -dsimp -implicitDefEqProofs only [go_sem]) (by rintro r rs ⟨rfl, rfl⟩; exact ⟨by (repeat' first | exact trivial | exact pure_rowB _ | exact pure_rowO _ | exact pure_rowI _ | exact pure_rowBB _ | exact pure_rowPk _ _ | exact pure_rowSn _ _ | exact pure_rowFd _ _ | exact pure_rowBBB _ | exact pure_rowCl _ _ | exact pure_rowTb _ _ _ | refine And.intro ?_ ?_), by first | exact ⟨by (repeat' first | exact trivial | exact pure_rowB _ | exact pure_rowO _ | exact pure_rowI _ | exact pure_rowBB _ | exact pure_rowPk _ _ | exact pure_rowSn _ _ | exact pure_rowFd _ _ | exact pure_rowBBB _ | exact pure_rowCl _ _ | exact pure_rowTb _ _ _ | refine And.intro ?_ ?_), trivial⟩ | exact ⟨by (repeat' first | exact trivial | exact pure_rowB _ | exact pure_rowO _ | exact pure_rowI _ | exact pure_rowBB _ | exact pure_rowPk _ _ | exact pure_rowSn _ _ | exact pure_rowFd _ _ | exact pure_rowBBB _ | exact pure_rowCl _ _ | exact pure_rowTb _ _ _ | refine And.intro ?_ ?_), trivial, trivial⟩⟩) (by simp -dsimp -implicitDefEqProofs only [go_sem, loC]) (by simp -dsimp -implicitDefEqProofs only [go_sem, loC]) ?_
  rintro r rs ⟨rfl, rfl⟩
  simp -dsimp -implicitDefEqProofs only [go_sem, loC]
  repeat (first | with_reducible refine ask.of (by first | omega | decide) ?_ | simp -dsimp -implicitDefEqProofs only [go_sem, bl13, bl13b])
  refine CallE.mut (c_markStream x.s (k + szL szFd x.f + szL szTb x.t + szL szSn x.o.h) (by omega) hx.sf hx.sfb hx.sd hx.sdl) (by simp -dsimp -implicitDefEqProofs only [go_sem]) (by rintro r rs ⟨rfl, rfl⟩; exact ⟨by (repeat' first | exact trivial | exact pure_rowB _ | exact pure_rowO _ | exact pure_rowI _ | exact pure_rowBB _ | exact pure_rowPk _ _ | exact pure_rowSn _ _ | exact pure_rowFd _ _ | exact pure_rowBBB _ | exact pure_rowCl _ _ | exact pure_rowTb _ _ _ | refine And.intro ?_ ?_), by first | exact ⟨by (repeat' first | exact trivial | exact pure_rowB _ | exact pure_rowO _ | exact pure_rowI _ | exact pure_rowBB _ | exact pure_rowPk _ _ | exact pure_rowSn _ _ | exact pure_rowFd _ _ | exact pure_rowBBB _ | exact pure_rowCl _ _ | exact pure_rowTb _ _ _ | refine And.intro ?_ ?_), trivial⟩ | exact ⟨by (repeat' first | exact trivial | exact pure_rowB _ | exact pure_rowO _ | exact pure_rowI _ | exact pure_rowBB _ | exact pure_rowPk _ _ | exact pure_rowSn _ _ | exact pure_rowFd _ _ | exact pure_rowBBB _ | exact pure_rowCl _ _ | exact pure_rowTb _ _ _ | refine And.intro ?_ ?_), trivial, trivial⟩⟩) (by simp -dsimp -implicitDefEqProofs only [go_sem, smC, mkSm]) (by simp -dsimp -implicitDefEqProofs only [go_sem, smC, mkSm]) ?_
  rintro r rs ⟨rfl, rfl⟩
  simp -dsimp -implicitDefEqProofs only [go_sem, smC, mkSm]
  repeat (first | with_reducible refine ask.of (by first | omega | decide) ?_ | simp -dsimp -implicitDefEqProofs only [go_sem, bl13, bl13b])
  exact ⟨by unfold szSd; simp only [Nat.add_assoc], rfl⟩
set_option maxRecDepth 8000 in
set_option maxHeartbeats 1000000 in
theorem c_heldSender (x : Sd) (k : Nat) (hk : k + szSd x ≤ 4611686018427387904) (hx : SdT x) : Meets Tryz.prog 11 [.agg (sdCi (mkSd k x)), .v (.int .i64 k)] (fun r => r = .v (.int .i64 ((k + szSd x : Nat) : Int))) := by
  refine Meets.intro mixed (hint []) Tryz.func11 rfl (by decide) res_11 rty_11 (by kernel_rfl) ?_; 
  simp -dsimp -implicitDefEqProofs only [go_sem, sdCi, sdC, mkSd]
  unfold szSd at hk
  repeat (first | with_reducible refine ask.of (by first | omega | decide) ?_ | simp -dsimp -implicitDefEqProofs only [go_sem, bl13, bl13b])
  refine CallE.of (c_heldFieldS x.f k (by omega) hx.f hx.fb) (by rintro r rfl; (repeat' first | exact trivial | exact pure_rowB _ | exact pure_rowO _ | exact pure_rowI _ | exact pure_rowBB _ | exact pure_rowPk _ _ | exact pure_rowSn _ _ | exact pure_rowFd _ _ | exact pure_rowBBB _ | exact pure_rowCl _ _ | exact pure_rowTb _ _ _ | refine And.intro ?_ ?_)) (by simp -dsimp -implicitDefEqProofs only [go_sem, rowFd]) ?_
  rintro r rfl
  simp -dsimp -implicitDefEqProofs only [go_sem, rowFd]
  with_reducible refine ifB'.no (by omega) ?_
  repeat (first | with_reducible refine ask.of (by first | omega | decide) ?_ | simp -dsimp -implicitDefEqProofs only [go_sem, bl13, bl13b])
  refine CallE.of (c_heldTableS x.t (k + szL szFd x.f) (by omega) hx.t hx.tt) (by rintro r rfl; (repeat' first | exact trivial | exact pure_rowB _ | exact pure_rowO _ | exact pure_rowI _ | exact pure_rowBB _ | exact pure_rowPk _ _ | exact pure_rowSn _ _ | exact pure_rowFd _ _ | exact pure_rowBBB _ | exact pure_rowCl _ _ | exact pure_rowTb _ _ _ | refine And.intro ?_ ?_)) (by simp -dsimp -implicitDefEqProofs only [go_sem, rowTb]) ?_
  rintro r rfl
  simp -dsimp -implicitDefEqProofs only [go_sem, rowTb]
  with_reducible refine ifB'.no (by omega) ?_
  repeat (first | with_reducible refine ask.of (by first | omega | decide) ?_ | simp -dsimp -implicitDefEqProofs only [go_sem, bl13, bl13b])
  refine CallE.of (c_heldLinkOut x.o (k + szL szFd x.f + szL szTb x.t) (by omega) hx.o hx.ob) (by rintro r rfl; (repeat' first | exact trivial | exact pure_rowB _ | exact pure_rowO _ | exact pure_rowI _ | exact pure_rowBB _ | exact pure_rowPk _ _ | exact pure_rowSn _ _ | exact pure_rowFd _ _ | exact pure_rowBBB _ | exact pure_rowCl _ _ | exact pure_rowTb _ _ _ | refine And.intro ?_ ?_)) (by simp -dsimp -implicitDefEqProofs only [go_sem, loC, mkLo]) ?_
  rintro r rfl
  simp -dsimp -implicitDefEqProofs only [go_sem, loC, mkLo]
  with_reducible refine ifB'.no (by omega) ?_
  repeat (first | with_reducible refine ask.of (by first | omega | decide) ?_ | simp -dsimp -implicitDefEqProofs only [go_sem, bl13, bl13b])
  refine CallE.of (c_heldStream x.s (k + szL szFd x.f + szL szTb x.t + szL szSn x.o.h) (by omega) hx.sf hx.sfb hx.sd hx.sdl) (by rintro r rfl; (repeat' first | exact trivial | exact pure_rowB _ | exact pure_rowO _ | exact pure_rowI _ | exact pure_rowBB _ | exact pure_rowPk _ _ | exact pure_rowSn _ _ | exact pure_rowFd _ _ | exact pure_rowBBB _ | exact pure_rowCl _ _ | exact pure_rowTb _ _ _ | refine And.intro ?_ ?_)) (by simp -dsimp -implicitDefEqProofs only [go_sem, smC]) ?_
  rintro r rfl
  simp -dsimp -implicitDefEqProofs only [go_sem, smC]
  with_reducible refine ifB'.no (by omega) ?_
  repeat (first | with_reducible refine ask.of (by first | omega | decide) ?_ | simp -dsimp -implicitDefEqProofs only [go_sem, bl13, bl13b])
  unfold szSd; simp only [Nat.add_assoc]
set_option maxRecDepth 8000 in
set_option maxHeartbeats 1000000 in
theorem c_l6sender (x : Sd) (hx : SdT x) : Meets Tryz.prog 22 [.agg (sdCi x)] (fun r => r = .agg (sdCi x)) := by
  refine Meets.introO mixed (hint []) (fun k => (sel (k == 1) [0,1,3,4,5,6,7,8,10,11,12,13,15,16,2,9,14,17,18,19] [])) Tryz.func22 rfl (by decide) res_22 rty_22 (by kernel_rfl) ?_; 
  simp -dsimp -implicitDefEqProofs only [go_sem, sdCi, sdC]
  repeat' (first
    | with_reducible refine ask.of (by omega) ?_
    | (refine CallE.of (c_l4fields x.f hx.f hx.fb) ?_ ?_ ?_; rotate_left; (· (simp -dsimp -implicitDefEqProofs only [go_sem, bl13, bl13b, sdCi, sdC, loC, smC, rowTb, rowFd]; done)); rotate_left; (· (rintro r rfl; (repeat' first | exact trivial | exact pure_rowB _ | exact pure_rowO _ | exact pure_rowI _ | exact pure_rowBB _ | exact pure_rowPk _ _ | exact pure_rowSn _ _ | exact pure_rowFd _ _ | exact pure_rowBBB _ | exact pure_rowCl _ _ | exact pure_rowTb _ _ _ | refine And.intro ?_ ?_))); rintro r rfl; try simp -dsimp -implicitDefEqProofs only [go_sem, bl13, bl13b, sdCi, sdC, loC, smC, rowTb, rowFd])
    | (refine CallE.of (c_l6tables x.t hx.t hx.tt) ?_ ?_ ?_; rotate_left; (· (simp -dsimp -implicitDefEqProofs only [go_sem, bl13, bl13b, sdCi, sdC, loC, smC, rowTb, rowFd]; done)); rotate_left; (· (rintro r rfl; (repeat' first | exact trivial | exact pure_rowB _ | exact pure_rowO _ | exact pure_rowI _ | exact pure_rowBB _ | exact pure_rowPk _ _ | exact pure_rowSn _ _ | exact pure_rowFd _ _ | exact pure_rowBBB _ | exact pure_rowCl _ _ | exact pure_rowTb _ _ _ | refine And.intro ?_ ?_))); rintro r rfl; try simp -dsimp -implicitDefEqProofs only [go_sem, bl13, bl13b, sdCi, sdC, loC, smC, rowTb, rowFd])
    | (refine CallE.of (c_l5out x.o hx.o hx.ob) ?_ ?_ ?_; rotate_left; (· (simp -dsimp -implicitDefEqProofs only [go_sem, bl13, bl13b, sdCi, sdC, loC, smC, rowTb, rowFd]; done)); rotate_left; (· (rintro r rfl; (repeat' first | exact trivial | exact pure_rowB _ | exact pure_rowO _ | exact pure_rowI _ | exact pure_rowBB _ | exact pure_rowPk _ _ | exact pure_rowSn _ _ | exact pure_rowFd _ _ | exact pure_rowBBB _ | exact pure_rowCl _ _ | exact pure_rowTb _ _ _ | refine And.intro ?_ ?_))); rintro r rfl; try simp -dsimp -implicitDefEqProofs only [go_sem, bl13, bl13b, sdCi, sdC, loC, smC, rowTb, rowFd])
    | (refine CallE.of (c_l4stream x.s hx.sf hx.sfb hx.sd hx.sdb) ?_ ?_ ?_; rotate_left; (· (simp -dsimp -implicitDefEqProofs only [go_sem, bl13, bl13b, sdCi, sdC, loC, smC, rowTb, rowFd]; done)); rotate_left; (· (rintro r rfl; (repeat' first | exact trivial | exact pure_rowB _ | exact pure_rowO _ | exact pure_rowI _ | exact pure_rowBB _ | exact pure_rowPk _ _ | exact pure_rowSn _ _ | exact pure_rowFd _ _ | exact pure_rowBBB _ | exact pure_rowCl _ _ | exact pure_rowTb _ _ _ | refine And.intro ?_ ?_))); rintro r rfl; try simp -dsimp -implicitDefEqProofs only [go_sem, bl13, bl13b, sdCi, sdC, loC, smC, rowTb, rowFd])
    | with_reducible refine ifB'.no (by omega) ?_
    | simp -dsimp -implicitDefEqProofs only [go_sem, bl13, bl13b, sdCi, sdC, loC, smC, rowTb, rowFd])
set_option maxRecDepth 8000 in
set_option maxHeartbeats 1000000 in
theorem c_senderCopy (x : Sd) (hx : SdT x) : Meets Tryz.prog 29 [.agg (sdCi x)] (fun r => r = .agg (sdCi x)) := by
  refine Meets.introO mixed (hint []) (fun k => (sel (k == 1) [0,1,3,4,2,6,5,7,8,9] (sel (k == 2) [0,1,3,4,2,6,5,7,8,9] []))) Tryz.func29 rfl (by decide) res_29 rty_29 (by kernel_rfl) ?_; 
  simp -dsimp -implicitDefEqProofs only [go_sem, sdCi, sdC]
  repeat' (first
    | with_reducible refine ask.of (by omega) ?_
    | (refine CallE.of (c_fieldsCopy x.f hx.f hx.fb) ?_ ?_ ?_; rotate_left; (· (simp -dsimp -implicitDefEqProofs only [go_sem, bl13, bl13b, sdCi, sdC, loC, smC, rowTb, rowFd]; done)); rotate_left; (· (rintro r rfl; (repeat' first | exact trivial | exact pure_rowB _ | exact pure_rowO _ | exact pure_rowI _ | exact pure_rowBB _ | exact pure_rowPk _ _ | exact pure_rowSn _ _ | exact pure_rowFd _ _ | exact pure_rowBBB _ | exact pure_rowCl _ _ | exact pure_rowTb _ _ _ | refine And.intro ?_ ?_))); rintro r rfl; try simp -dsimp -implicitDefEqProofs only [go_sem, bl13, bl13b, sdCi, sdC, loC, smC, rowTb, rowFd])
    | (refine CallE.of (c_tablesCopy x.t hx.t hx.tt) ?_ ?_ ?_; rotate_left; (· (simp -dsimp -implicitDefEqProofs only [go_sem, bl13, bl13b, sdCi, sdC, loC, smC, rowTb, rowFd]; done)); rotate_left; (· (rintro r rfl; (repeat' first | exact trivial | exact pure_rowB _ | exact pure_rowO _ | exact pure_rowI _ | exact pure_rowBB _ | exact pure_rowPk _ _ | exact pure_rowSn _ _ | exact pure_rowFd _ _ | exact pure_rowBBB _ | exact pure_rowCl _ _ | exact pure_rowTb _ _ _ | refine And.intro ?_ ?_))); rintro r rfl; try simp -dsimp -implicitDefEqProofs only [go_sem, bl13, bl13b, sdCi, sdC, loC, smC, rowTb, rowFd])
    | (refine CallE.of (c_outCopy x.o hx.o hx.ob) ?_ ?_ ?_; rotate_left; (· (simp -dsimp -implicitDefEqProofs only [go_sem, bl13, bl13b, sdCi, sdC, loC, smC, rowTb, rowFd]; done)); rotate_left; (· (rintro r rfl; (repeat' first | exact trivial | exact pure_rowB _ | exact pure_rowO _ | exact pure_rowI _ | exact pure_rowBB _ | exact pure_rowPk _ _ | exact pure_rowSn _ _ | exact pure_rowFd _ _ | exact pure_rowBBB _ | exact pure_rowCl _ _ | exact pure_rowTb _ _ _ | refine And.intro ?_ ?_))); rintro r rfl; try simp -dsimp -implicitDefEqProofs only [go_sem, bl13, bl13b, sdCi, sdC, loC, smC, rowTb, rowFd])
    | (refine CallE.of (c_streamCopy x.s hx.sf hx.sfb hx.sd hx.sdb) ?_ ?_ ?_; rotate_left; (· (simp -dsimp -implicitDefEqProofs only [go_sem, bl13, bl13b, sdCi, sdC, loC, smC, rowTb, rowFd]; done)); rotate_left; (· (rintro r rfl; (repeat' first | exact trivial | exact pure_rowB _ | exact pure_rowO _ | exact pure_rowI _ | exact pure_rowBB _ | exact pure_rowPk _ _ | exact pure_rowSn _ _ | exact pure_rowFd _ _ | exact pure_rowBBB _ | exact pure_rowCl _ _ | exact pure_rowTb _ _ _ | refine And.intro ?_ ?_))); rintro r rfl; try simp -dsimp -implicitDefEqProofs only [go_sem, bl13, bl13b, sdCi, sdC, loC, smC, rowTb, rowFd])
    | with_reducible refine ifB'.no (by omega) ?_
    | simp -dsimp -implicitDefEqProofs only [go_sem, bl13, bl13b, sdCi, sdC, loC, smC, rowTb, rowFd])
def sd0 : Sd := ⟨[], 0, 0, [], 0, ⟨0, 0, 0, []⟩, sm0⟩
noncomputable def resSI (y : Sd × Int) : AV := .tup [.agg (sdCi y.1), .v (.int .i64 y.2)]
end Go.Ev
set_option linter.unusedSimpArgs false
set_option linter.unusedVariables false
namespace Go.Ev
open Go Go.RowKit Go.Proofs
noncomputable def begL (fs : List Fd) (e b : Int) (t : List Tb) : Sd := ⟨fs, e, b, t, 0, (pushL ⟨e, 0, 0, []⟩ (stL fs b).2.1).1, (stL fs b).1⟩
theorem bl13c : Nat.ble 1 13 = true ∧ Nat.ble 2 13 = true ∧ Nat.ble 3 13 = true ∧ Nat.ble 4 13 = true ∧ Nat.ble 5 13 = true ∧ Nat.ble 7 13 = true ∧ Nat.ble 8 13 = true ∧ Nat.ble 9 13 = true ∧ Nat.ble 12 13 = true ∧ Nat.ble 13 13 = true := ⟨rfl, rfl, rfl, rfl, rfl, rfl, rfl, rfl, rfl, rfl⟩
theorem blZ : Nat.ble 1 4 = true ∧ Nat.ble 2 4 = true ∧ Nat.ble 3 4 = true ∧ Nat.ble 4 4 = true := ⟨rfl, rfl, rfl, rfl⟩
theorem raZ {α : Type} (enc : α → List AV) : ra enc [] = [] := rfl
theorem beg_hd {fs : List Fd} {b : Int} (hx : fs.length ≤ 1048576) (hb : ∀ f ∈ fs, f.f.length ≤ 1048576) : (stL fs b).2.1.length ≤ 1048576 := (stL_T hx hb).2.2
set_option maxRecDepth 8000 in
set_option maxHeartbeats 2000000 in
theorem c_l6begin (fs : List Fd) (e b : Int) (ts : List Tb) (hx : fs.length ≤ 1048576) (hb : ∀ f ∈ fs, f.f.length ≤ 1048576) (ht : ts.length ≤ 1048576) (htt : ∀ t ∈ ts, tOk t 1048576) : Meets Tryz.prog 23 [rowFd 101 fs, .v (.int .i64 e), .v (.int .i64 b), rowTb 105 149 ts] (fun r => r = .agg (sdCi (begL fs e b ts))) := by
  refine Meets.introO mixed (hint []) (fun k => (sel (k == 3) [0,2,3,4,6,7,1,5,8,9] [])) Tryz.func23 rfl (by decide) res_23 rty_23 (by kernel_rfl) ?_; 
  simp -dsimp -implicitDefEqProofs only [go_sem, rowFd, rowTb]
  repeat (first | with_reducible refine ask.of (by first | omega | decide) ?_ | simp -dsimp -implicitDefEqProofs only [go_sem, initE, rowFd, rowTb, bl13c])
  refine CallE.of (c_specStartStream fs b hx hb) (by rintro r rfl; (repeat' first | exact trivial | exact pure_rowB _ | exact pure_rowO _ | exact pure_rowI _ | exact pure_rowBB _ | exact pure_rowPk _ _ | exact pure_rowSn _ _ | exact pure_rowFd _ _ | exact pure_rowBBB _ | exact pure_rowCl _ _ | exact pure_rowTb _ _ _ | refine And.intro ?_ ?_)) (by simp -dsimp -implicitDefEqProofs only [go_sem, rowFd, resS, smC]) ?_
  rintro r rfl
  simp -dsimp -implicitDefEqProofs only [go_sem, rowFd, resS, smC]
  repeat (first | with_reducible refine ask.of (by first | omega | decide) ?_ | simp -dsimp -implicitDefEqProofs only [go_sem, initE, rowFd, rowTb, bl13c, blZ])
  refine CallE.of (c_specLinkPush ⟨e, 0, 0, []⟩ (stL fs b).2.1 (Nat.zero_le _) (fun b hb => by cases hb) (beg_hd hx hb)) (by rintro r rfl; (repeat' first | exact trivial | exact pure_rowB _ | exact pure_rowO _ | exact pure_rowI _ | exact pure_rowBB _ | exact pure_rowPk _ _ | exact pure_rowSn _ _ | exact pure_rowFd _ _ | exact pure_rowBBB _ | exact pure_rowCl _ _ | exact pure_rowTb _ _ _ | refine And.intro ?_ ?_)) (by simp -dsimp -implicitDefEqProofs only [go_sem, resL, loC, raZ]) ?_
  rintro r rfl
  simp -dsimp -implicitDefEqProofs only [go_sem, resL, loC, raZ]
  repeat (first | with_reducible refine ask.of (by first | omega | decide) ?_ | simp -dsimp -implicitDefEqProofs only [go_sem, initE, rowFd, rowTb, bl13c, blZ])
  refine CallE.of (c_l4fields fs hx hb) (by rintro r rfl; (repeat' first | exact trivial | exact pure_rowB _ | exact pure_rowO _ | exact pure_rowI _ | exact pure_rowBB _ | exact pure_rowPk _ _ | exact pure_rowSn _ _ | exact pure_rowFd _ _ | exact pure_rowBBB _ | exact pure_rowCl _ _ | exact pure_rowTb _ _ _ | refine And.intro ?_ ?_)) (by simp -dsimp -implicitDefEqProofs only [go_sem, rowFd]) ?_
  rintro r rfl
  simp -dsimp -implicitDefEqProofs only [go_sem, rowFd]
  repeat (first | with_reducible refine ask.of (by first | omega | decide) ?_ | simp -dsimp -implicitDefEqProofs only [go_sem, initE, rowFd, rowTb, bl13c, blZ])
  refine CallE.of (c_l6tables ts ht htt) (by rintro r rfl; (repeat' first | exact trivial | exact pure_rowB _ | exact pure_rowO _ | exact pure_rowI _ | exact pure_rowBB _ | exact pure_rowPk _ _ | exact pure_rowSn _ _ | exact pure_rowFd _ _ | exact pure_rowBBB _ | exact pure_rowCl _ _ | exact pure_rowTb _ _ _ | refine And.intro ?_ ?_)) (by simp -dsimp -implicitDefEqProofs only [go_sem, rowTb]) ?_
  rintro r rfl
  simp -dsimp -implicitDefEqProofs only [go_sem, rowTb]
  repeat (first | with_reducible refine ask.of (by first | omega | decide) ?_ | simp -dsimp -implicitDefEqProofs only [go_sem, initE, rowFd, rowTb, bl13c, blZ])
  rfl
set_option maxRecDepth 8000 in
set_option maxHeartbeats 2000000 in
theorem c_begin (x : Sd) (hx : SdB x) : MeetsM Tryz.prog 77 [.mu (.bx 41 (sdCi x))] (fun r rs => r = .tup [] ∧ rs = [.bx 41 (sdCi (begL x.f x.e x.b x.t))]) := by
  refine MeetsM.introO mixed (hint []) (fun k => (sel (k == 1) [999,0,1,2,3,4,5,6,7,1013,8,9,10,11,12,13,14,15,16] [])) Tryz.func77 rfl (by decide) res_77 rty_77 (pts := parTys Tryz.prog 77) (by rw [par_77]; rfl) (by kernel_rfl) ?_; rw [par_77]; intro vals; 
  simp -dsimp -implicitDefEqProofs only [go_sem, sdCi, sdC]
  repeat (first | with_reducible refine ask.of (by first | omega | decide) ?_ | simp -dsimp -implicitDefEqProofs only [go_sem, bl13c, blZ])
  refine CallE.of (c_implStartStream x.f x.b hx.f hx.fb) (by rintro r rfl; (repeat' first | exact trivial | exact pure_rowB _ | exact pure_rowO _ | exact pure_rowI _ | exact pure_rowBB _ | exact pure_rowPk _ _ | exact pure_rowSn _ _ | exact pure_rowFd _ _ | exact pure_rowBBB _ | exact pure_rowCl _ _ | exact pure_rowTb _ _ _ | refine And.intro ?_ ?_)) (by simp -dsimp -implicitDefEqProofs only [go_sem, rowFd, resS, smC]) ?_
  rintro r rfl
  simp -dsimp -implicitDefEqProofs only [go_sem, rowFd, resS, smC]
  repeat (first | with_reducible refine ask.of (by first | omega | decide) ?_ | simp -dsimp -implicitDefEqProofs only [go_sem, bl13c, blZ])
  refine CallE.of (c_implLinkPush ⟨x.e, 0, 0, []⟩ (stL x.f x.b).2.1 (Nat.zero_le _) (fun b hb => by cases hb) (beg_hd hx.f hx.fb)) (by rintro r rfl; (repeat' first | exact trivial | exact pure_rowB _ | exact pure_rowO _ | exact pure_rowI _ | exact pure_rowBB _ | exact pure_rowPk _ _ | exact pure_rowSn _ _ | exact pure_rowFd _ _ | exact pure_rowBBB _ | exact pure_rowCl _ _ | exact pure_rowTb _ _ _ | refine And.intro ?_ ?_)) (by simp -dsimp -implicitDefEqProofs only [go_sem, resL, loC, raZ]) ?_
  rintro r rfl
  simp -dsimp -implicitDefEqProofs only [go_sem, resL, loC, raZ]
  repeat (first | with_reducible refine ask.of (by first | omega | decide) ?_ | simp -dsimp -implicitDefEqProofs only [go_sem, bl13c, blZ])
  rfl
end Go.Ev
set_option linter.unusedSimpArgs false
set_option linter.unusedVariables false
namespace Go.Ev
open Go Go.RowKit Go.Proofs
theorem szFd_le (fs : List Fd) : szL szFd fs ≤ 2 * fs.length + szL fdW fs := by
  induction fs with
  | nil => exact Nat.zero_le _
  | cons x fs ih => simp only [szL, List.map_cons, List.sum_cons, szFd, fdW, List.length_cons] at ih ⊢; omega
theorem stL_ds {fs : List Fd} {b : Int} : ∀ d ∈ (stL fs b).1.ds, d = [] := by
  by_cases h : okF fs ∧ 0 ≤ b ∧ b ≤ 1000000000
  · rw [stL_yes h]; exact fun d hd => (List.mem_replicate.1 hd).2
  · rw [stL_no h]; exact fun d hd => by cases hd
theorem begL_T {fs : List Fd} {e b : Int} {t : List Tb} (hw : fs.length + szL fdW fs ≤ 1048576) (ht : t.length ≤ 1048576) (htg : ∀ x ∈ t, tbGood x) (htt : ∀ x ∈ t, tOk x 1048576) : SdT (begL fs e b t) ∧ szSd (begL fs e b t) ≤ szL szTb t + 12582912 := by
  have hx : fs.length ≤ 1048576 := by omega
  have hb : ∀ b ∈ fs, b.f.length ≤ 1048576 := fun b hb => by have := mem_fdW hb; omega
  have h1 := stL_T (next := b) hx hb
  have h2 := pushL_b ⟨e, 0, 0, []⟩ (stL fs b).2.1 (by show 0 + 0 ≤ 1048576; omega)
  have h3 := szFd_le fs
  have h4 := szSnP_len (pushL ⟨e, 0, 0, []⟩ (stL fs b).2.1).1.h
  refine ⟨⟨⟨hx, hb, ht, htg, h2.1, h2.2.2, h1.1.1.1, h1.1.1.2, h1.1.2.1, fun d hd => ?_⟩, htt, h1.1.2.2⟩, ?_⟩
  · rw [stL_ds d hd]; decide
  · show szL szFd fs + szL szTb t + szL szSn (pushL ⟨e, 0, 0, []⟩ (stL fs b).2.1).1.h + szSm (stL fs b).1 ≤ _
    omega
theorem sdZ_T : SdT sd0 := by
  refine ⟨⟨Nat.zero_le _, fun b h => (by cases h), Nat.zero_le _, fun b h => (by cases h), Nat.zero_le _, fun b h => (by cases h), Nat.zero_le _, fun b h => (by cases h), Nat.zero_le _, fun b h => (by cases h)⟩, fun b h => (by cases h), fun b h => (by cases h)⟩
theorem szSd_le2 (x : Sd) : szSd x ≤ 6 * sdW x := by
  have h1 := szSm_le x.s
  have h2 := szSnP_len x.o.h
  have h3 := szTb_le x.t
  have h4 := szFd_le x.f
  unfold szSd sdW loW; omega
end Go.Ev
set_option linter.unusedSimpArgs false
set_option linter.unusedVariables false
namespace Go.Ev
open Go Go.RowKit Go.Proofs
noncomputable def renL (x : Sd) : Sd × Int := if 1000000000 ≤ x.e then (x, 6) else (begL x.f (x.e + 1) x.b x.t, 5)
theorem renL_end {x : Sd} (h : 1000000000 ≤ x.e) : renL x = (x, 6) := if_pos h
theorem renL_yes {x : Sd} (h : ¬ 1000000000 ≤ x.e) : renL x = (begL x.f (x.e + 1) x.b x.t, 5) := if_neg h
set_option maxRecDepth 8000 in
set_option maxHeartbeats 2000000 in
theorem c_renew (x : Sd) (hx : SdB x) (he : 0 ≤ x.e) : MeetsM Tryz.prog 30 [.mu (.bx 41 (sdCi x))] (fun r rs => r = .v (.int .i64 (renL x).2) ∧ rs = [.bx 41 (sdCi (renL x).1)]) := by
  refine MeetsM.intro mixed (hint []) Tryz.func30 rfl (by decide) res_30 rty_30 (pts := parTys Tryz.prog 30) (by rw [par_30]; rfl) (by kernel_rfl) ?_; rw [par_30]; intro vals; 
  simp -dsimp -implicitDefEqProofs only [go_sem, sdCi, sdC]
  repeat (first | with_reducible refine ask.of (by first | omega | decide) ?_ | simp -dsimp -implicitDefEqProofs only [go_sem, bl13c, blZ])
  refine ifB'.of (fun h => ?_) (fun h => ?_)
  · rw [renL_end h]
    repeat (first | with_reducible refine ask.of (by first | omega | decide) ?_ | simp -dsimp -implicitDefEqProofs only [go_sem, bl13c, blZ])
    try exact ⟨rfl, rfl⟩
  · rw [renL_yes h]
    have e1 : IntKind.i64.wrap (x.e + 1) = x.e + 1 := wrap_i64_of (by omega) (by omega)
    repeat (first | with_reducible refine ask.of (by first | omega | decide) ?_ | simp -dsimp -implicitDefEqProofs only [go_sem, bl13c, blZ, e1])
    refine CallE.mut (c_begin { x with e := x.e + 1 } ⟨hx.f, hx.fb, hx.t, hx.tb, hx.o, hx.ob, hx.sf, hx.sfb, hx.sd, hx.sdb⟩) (by simp -dsimp -implicitDefEqProofs only [go_sem]) (by rintro r rs ⟨rfl, rfl⟩; exact ⟨by (repeat' first | exact trivial | exact pure_rowB _ | exact pure_rowO _ | exact pure_rowI _ | exact pure_rowBB _ | exact pure_rowPk _ _ | exact pure_rowSn _ _ | exact pure_rowFd _ _ | exact pure_rowBBB _ | exact pure_rowCl _ _ | exact pure_rowTb _ _ _ | refine And.intro ?_ ?_), by first | exact ⟨by (repeat' first | exact trivial | exact pure_rowB _ | exact pure_rowO _ | exact pure_rowI _ | exact pure_rowBB _ | exact pure_rowPk _ _ | exact pure_rowSn _ _ | exact pure_rowFd _ _ | exact pure_rowBBB _ | exact pure_rowCl _ _ | exact pure_rowTb _ _ _ | refine And.intro ?_ ?_), trivial⟩ | exact ⟨by (repeat' first | exact trivial | exact pure_rowB _ | exact pure_rowO _ | exact pure_rowI _ | exact pure_rowBB _ | exact pure_rowPk _ _ | exact pure_rowSn _ _ | exact pure_rowFd _ _ | exact pure_rowBBB _ | exact pure_rowCl _ _ | exact pure_rowTb _ _ _ | refine And.intro ?_ ?_), trivial, trivial⟩⟩) (by simp -dsimp -implicitDefEqProofs only [go_sem, sdCi, sdC]) (by simp -dsimp -implicitDefEqProofs only [go_sem, sdCi, sdC]) ?_
    rintro r rs ⟨rfl, rfl⟩
    simp -dsimp -implicitDefEqProofs only [go_sem, sdCi, sdC]
    repeat (first | with_reducible refine ask.of (by first | omega | decide) ?_ | simp -dsimp -implicitDefEqProofs only [go_sem, bl13c, blZ])
    try exact ⟨rfl, rfl⟩
theorem okSd_e {x : Sd} (h : okSd x) : 1 ≤ x.e ∧ x.e ≤ 1000000000 := ⟨h.1.2.1, h.1.2.2.1⟩
end Go.Ev
set_option linter.unusedSimpArgs false
set_option linter.unusedVariables false
namespace Go.Ev
open Go Go.RowKit Go.Proofs
noncomputable def tk1 (x : Sd) (p : Pk) : Sd := if p.a = 2 then { x with o := (ackL x.o p.c).1 } else x
noncomputable def tk2 (x : Sd) (p : Pk) : Sd := if 0 < p.d - x.b then { x with b := p.d, t := x.t.drop (p.d - x.b).toNat, p := if x.p < p.d - x.b then x.p else x.p - (p.d - x.b) } else x
def tkG (x : Sd) (p : Pk) : Prop := (p.a = 2 ∨ p.a = 3) ∧ p.b = x.e
def tkN (x : Sd) (p : Pk) : Prop := x.b + x.t.length < p.d ∨ (p.a = 2 ∧ x.o.b < p.c)
instance (x : Sd) (p : Pk) : Decidable (tkG x p) := by unfold tkG; infer_instance
instance (x : Sd) (p : Pk) : Decidable (tkN x p) := by unfold tkN; infer_instance
noncomputable def takM (x : Sd) (p : Pk) : Sd × Int := if ¬ tkG x p then (x, 4) else if tkN x p then (x, 1) else if p.a = 3 ∨ x.p < p.d - x.b then renL (tk2 (tk1 x p) p) else (tk2 (tk1 x p) p, 0)
theorem takM_old {x : Sd} {p : Pk} (h : ¬ tkG x p) : takM x p = (x, 4) := if_pos h
theorem takM_bad {x : Sd} {p : Pk} (h : tkG x p) (h2 : tkN x p) : takM x p = (x, 1) := (if_neg (fun g => g h)).trans (if_pos h2)
theorem takM_ren {x : Sd} {p : Pk} (h : tkG x p) (h2 : ¬ tkN x p) (h3 : p.a = 3 ∨ x.p < p.d - x.b) : takM x p = renL (tk2 (tk1 x p) p) := (if_neg (fun g => g h)).trans ((if_neg h2).trans (if_pos h3))
theorem takM_ok {x : Sd} {p : Pk} (h : tkG x p) (h2 : ¬ tkN x p) (h3 : ¬ (p.a = 3 ∨ x.p < p.d - x.b)) : takM x p = (tk2 (tk1 x p) p, 0) := (if_neg (fun g => g h)).trans ((if_neg h2).trans (if_neg h3))
theorem okSd_b {x : Sd} (h : okSd x) : (1 ≤ x.e ∧ x.e ≤ 1000000000) ∧ (0 ≤ x.b ∧ x.b + x.t.length ≤ 1000000000) ∧ 0 ≤ x.p ∧ x.p ≤ x.t.length := ⟨okSd_e h, ⟨h.2.1.1, h.2.1.2.1⟩, h.2.1.2.2.2.1, h.2.1.2.2.2.2⟩
theorem ackL_in (x : LO) (q : Int) : (ackL x q).1.h.length ≤ x.h.length ∧ szL snW (ackL x q).1.h ≤ szL snW x.h ∧ ∀ b ∈ (ackL x q).1.h, b ∈ x.h := by
  by_cases h : okLO x ∧ 0 ≤ q ∧ q ≤ x.b
  · rw [ackL_yes h]
    show (dropQ q x.h).length ≤ _ ∧ szL snW (dropQ q x.h) ≤ _ ∧ ∀ b ∈ dropQ q x.h, b ∈ x.h
    unfold dropQ
    refine ⟨(List.dropWhile_sublist _).length_le, ?_, fun b h => (List.dropWhile_sublist _).subset h⟩
    generalize x.h = xs
    induction xs with
    | nil => simp
    | cons x xs ih =>
      rw [List.dropWhile_cons]
      split
      · simp only [szL, List.map_cons, List.sum_cons] at ih ⊢; omega
      · exact Nat.le_refl _
  · rw [ackL_no h]; exact ⟨Nat.zero_le _, Nat.zero_le _, fun b hb => by simp [lo0] at hb⟩
theorem tk1_B {x : Sd} {p : Pk} (hx : SdB x) : SdB (tk1 x p) := by
  have h := ackL_in x.o p.c
  have ho := hx.o
  unfold tk1
  split
  · exact ⟨hx.f, hx.fb, hx.t, hx.tb, by show (ackL x.o p.c).1.h.length ≤ _; omega, fun b hb => hx.ob b (h.2.2 b hb), hx.sf, hx.sfb, hx.sd, hx.sdb⟩
  · exact hx
theorem tk2_B {x : Sd} {p : Pk} (hx : SdB x) : SdB (tk2 x p) := by
  have ht := hx.t
  unfold tk2
  split
  · exact ⟨hx.f, hx.fb, by show (x.t.drop _).length ≤ _; simp; omega, fun b hb => hx.tb b (List.mem_of_mem_drop hb), hx.o, hx.ob, hx.sf, hx.sfb, hx.sd, hx.sdb⟩
  · exact hx
theorem tk1_e (x : Sd) (p : Pk) : (tk1 x p).e = x.e ∧ (tk1 x p).b = x.b ∧ (tk1 x p).p = x.p ∧ (tk1 x p).t = x.t ∧ (tk1 x p).f = x.f := by unfold tk1; split <;> exact ⟨rfl, rfl, rfl, rfl, rfl⟩
theorem tk2_e (x : Sd) (p : Pk) : (tk2 x p).e = x.e ∧ (tk2 x p).f = x.f := by unfold tk2; split <;> exact ⟨rfl, rfl⟩
theorem bl6z : Nat.ble 1 6 = true ∧ Nat.ble 2 6 = true ∧ Nat.ble 3 6 = true ∧ Nat.ble 4 6 = true ∧ Nat.ble 5 6 = true ∧ Nat.ble 6 6 = true := ⟨rfl, rfl, rfl, rfl, rfl, rfl⟩
theorem bl13d : Nat.ble 6 13 = true ∧ Nat.ble 10 13 = true ∧ Nat.ble 11 13 = true := ⟨rfl, rfl, rfl⟩
set_option maxRecDepth 8000 in
set_option maxHeartbeats 8000000 in
theorem c_take (x : Sd) (p : Pk) (hx : SdB x) (hok : okSd x) (hp : okPk p) (hpb : p.f.length ≤ 1048576) : MeetsM Tryz.prog 47 [.mu (.bx 41 (sdCi x)), .rd (.agg (pkC p))] (fun r rs => r = .v (.int .i64 (takM x p).2) ∧ rs = [.bx 41 (sdCi (takM x p).1), .any]) := by
  have hb := okSd_b hok
  have e1 : IntKind.i64.wrap (x.b + (x.t.length : Int)) = x.b + (x.t.length : Int) := wrap_i64_of (by omega) (by omega)
  have hpd : 0 ≤ p.d ∧ p.d ≤ 1000000000 ∧ 0 ≤ p.c ∧ p.c ≤ 1000000000000 ∧ 1 ≤ p.a ∧ p.a ≤ 4 := by unfold okPk at hp; omega
  have e2 : IntKind.i64.wrap (p.d - x.b) = p.d - x.b := wrap_i64_of (by omega) (by omega)
  have e3 : IntKind.i64.wrap (x.p - (p.d - x.b)) = x.p - (p.d - x.b) := wrap_i64_of (by omega) (by omega)
  refine MeetsM.introO mixed (hint [(94, 1)]) (fun k => (sel (k == 6) [0,1,2,3,4,5,6,7,8,9,10,11,12,13] [])) Tryz.func47 rfl (by decide) res_47 rty_47 (pts := parTys Tryz.prog 47) (by rw [par_47]; rfl) (by kernel_rfl) ?_; rw [par_47]; intro vals; 
  simp -dsimp -implicitDefEqProofs only [go_sem, sdCi, sdC, pkC]
  repeat (first | with_reducible refine ask.of (by first | omega | decide) ?_ | simp -dsimp -implicitDefEqProofs only [go_sem, bl13c, bl13d, bl6z, blZ])
  by_cases c1 : tkG x p
  · have c1' := c1
    unfold tkG at c1'
    by_cases c2 : tkN x p
    · rw [takM_bad c1 c2]
      have c2' := c2
      unfold tkN at c2'
      repeat' (first | exact ⟨rfl, rfl⟩ | with_reducible refine ask.of (by first | omega | decide) ?_ | ((with_reducible refine ifB'.of (fun _ => ?_) (fun _ => ?_)); (try omega)) | simp -dsimp -implicitDefEqProofs only [go_sem, bl13c, bl13d, bl6z, blZ, e1])
      all_goals omega
    · have c2' := c2
      unfold tkN at c2'
      by_cases d1 : p.a = 2
      · by_cases d2 : 0 < p.d - x.b
        · by_cases d3 : x.p < p.d - x.b
          · have hy : tk2 (tk1 x p) p = { x with o := (ackL x.o p.c).1, b := p.d, t := x.t.drop (p.d - x.b).toNat } := by rw [tk2, tk1, if_pos d1]; exact (if_pos d2).trans (by rw [if_pos d3])
            have hR := c_renew (tk2 (tk1 x p) p) (tk2_B (tk1_B hx)) (by have := (tk2_e (tk1 x p) p).1; have := (tk1_e x p).1; omega)
            rw [takM_ren c1 c2 (by omega)]
            generalize hz : renL (tk2 (tk1 x p) p) = z at hR ⊢
            rw [hy] at hR
            repeat' (first | with_reducible refine ask.of (by first | omega | decide) ?_ | with_reducible refine ifB'.no (by omega) ?_ | with_reducible refine ifB'.yes (by omega) ?_ | simp -dsimp -implicitDefEqProofs only [go_sem, bl13c, bl13d, bl6z, blZ, e1, e2, e3, decide_true, decide_false, Bool.not_true, Bool.not_false, List.take_length])
            refine CallE.of (c_implLinkAcked x.o p.c hx.o hx.ob) (by rintro r rfl; (repeat' first | exact trivial | exact pure_rowB _ | exact pure_rowO _ | exact pure_rowI _ | exact pure_rowBB _ | exact pure_rowPk _ _ | exact pure_rowSn _ _ | exact pure_rowFd _ _ | exact pure_rowBBB _ | exact pure_rowCl _ _ | exact pure_rowTb _ _ _ | refine And.intro ?_ ?_)) (by simp -dsimp -implicitDefEqProofs only [go_sem, resL, loC]) ?_
            rintro r rfl
            simp -dsimp -implicitDefEqProofs only [go_sem, resL, loC]
            repeat' (first | with_reducible refine ask.of (by first | omega | decide) ?_ | with_reducible refine ifB'.no (by omega) ?_ | with_reducible refine ifB'.yes (by omega) ?_ | simp -dsimp -implicitDefEqProofs only [go_sem, bl13c, bl13d, bl6z, blZ, e1, e2, e3, decide_true, decide_false, Bool.not_true, Bool.not_false, List.take_length])
            refine CallE.mut (hR) (by simp -dsimp -implicitDefEqProofs only [go_sem]) (by rintro r rs ⟨rfl, rfl⟩; exact ⟨by (repeat' first | exact trivial | exact pure_rowB _ | exact pure_rowO _ | exact pure_rowI _ | exact pure_rowBB _ | exact pure_rowPk _ _ | exact pure_rowSn _ _ | exact pure_rowFd _ _ | exact pure_rowBBB _ | exact pure_rowCl _ _ | exact pure_rowTb _ _ _ | refine And.intro ?_ ?_), by first | exact ⟨by (repeat' first | exact trivial | exact pure_rowB _ | exact pure_rowO _ | exact pure_rowI _ | exact pure_rowBB _ | exact pure_rowPk _ _ | exact pure_rowSn _ _ | exact pure_rowFd _ _ | exact pure_rowBBB _ | exact pure_rowCl _ _ | exact pure_rowTb _ _ _ | refine And.intro ?_ ?_), trivial⟩ | exact ⟨by (repeat' first | exact trivial | exact pure_rowB _ | exact pure_rowO _ | exact pure_rowI _ | exact pure_rowBB _ | exact pure_rowPk _ _ | exact pure_rowSn _ _ | exact pure_rowFd _ _ | exact pure_rowBBB _ | exact pure_rowCl _ _ | exact pure_rowTb _ _ _ | refine And.intro ?_ ?_), trivial, trivial⟩⟩) (by simp -dsimp -implicitDefEqProofs only [go_sem, sdCi, sdC]) (by simp -dsimp -implicitDefEqProofs only [go_sem, sdCi, sdC]) ?_
            rintro r rs ⟨rfl, rfl⟩
            simp -dsimp -implicitDefEqProofs only [go_sem, sdCi, sdC]
            repeat' (first | with_reducible refine ask.of (by first | omega | decide) ?_ | with_reducible refine ifB'.no (by omega) ?_ | with_reducible refine ifB'.yes (by omega) ?_ | simp -dsimp -implicitDefEqProofs only [go_sem, bl13c, bl13d, bl6z, blZ, e1, e2, e3, decide_true, decide_false, Bool.not_true, Bool.not_false, List.take_length])
            try exact ⟨rfl, rfl⟩
          · have hy : tk2 (tk1 x p) p = { x with o := (ackL x.o p.c).1, b := p.d, t := x.t.drop (p.d - x.b).toNat, p := x.p - (p.d - x.b) } := by rw [tk2, tk1, if_pos d1]; exact (if_pos d2).trans (by rw [if_neg d3])
            rw [takM_ok c1 c2 (by omega), hy]
            repeat' (first | with_reducible refine ask.of (by first | omega | decide) ?_ | with_reducible refine ifB'.no (by omega) ?_ | with_reducible refine ifB'.yes (by omega) ?_ | simp -dsimp -implicitDefEqProofs only [go_sem, bl13c, bl13d, bl6z, blZ, e1, e2, e3, decide_true, decide_false, Bool.not_true, Bool.not_false, List.take_length])
            refine CallE.of (c_implLinkAcked x.o p.c hx.o hx.ob) (by rintro r rfl; (repeat' first | exact trivial | exact pure_rowB _ | exact pure_rowO _ | exact pure_rowI _ | exact pure_rowBB _ | exact pure_rowPk _ _ | exact pure_rowSn _ _ | exact pure_rowFd _ _ | exact pure_rowBBB _ | exact pure_rowCl _ _ | exact pure_rowTb _ _ _ | refine And.intro ?_ ?_)) (by simp -dsimp -implicitDefEqProofs only [go_sem, resL, loC]) ?_
            rintro r rfl
            simp -dsimp -implicitDefEqProofs only [go_sem, resL, loC]
            repeat' (first | with_reducible refine ask.of (by first | omega | decide) ?_ | with_reducible refine ifB'.no (by omega) ?_ | with_reducible refine ifB'.yes (by omega) ?_ | simp -dsimp -implicitDefEqProofs only [go_sem, bl13c, bl13d, bl6z, blZ, e1, e2, e3, decide_true, decide_false, Bool.not_true, Bool.not_false, List.take_length])
            try exact ⟨rfl, rfl⟩
        · have d3 : ¬ x.p < p.d - x.b := by omega
          have hy : tk2 (tk1 x p) p = { x with o := (ackL x.o p.c).1 } := by rw [tk2, tk1, if_pos d1]; exact if_neg d2
          rw [takM_ok c1 c2 (by omega), hy]
          repeat' (first | with_reducible refine ask.of (by first | omega | decide) ?_ | with_reducible refine ifB'.no (by omega) ?_ | with_reducible refine ifB'.yes (by omega) ?_ | simp -dsimp -implicitDefEqProofs only [go_sem, bl13c, bl13d, bl6z, blZ, e1, e2, e3, decide_true, decide_false, Bool.not_true, Bool.not_false, List.take_length])
          refine CallE.of (c_implLinkAcked x.o p.c hx.o hx.ob) (by rintro r rfl; (repeat' first | exact trivial | exact pure_rowB _ | exact pure_rowO _ | exact pure_rowI _ | exact pure_rowBB _ | exact pure_rowPk _ _ | exact pure_rowSn _ _ | exact pure_rowFd _ _ | exact pure_rowBBB _ | exact pure_rowCl _ _ | exact pure_rowTb _ _ _ | refine And.intro ?_ ?_)) (by simp -dsimp -implicitDefEqProofs only [go_sem, resL, loC]) ?_
          rintro r rfl
          simp -dsimp -implicitDefEqProofs only [go_sem, resL, loC]
          repeat' (first | with_reducible refine ask.of (by first | omega | decide) ?_ | with_reducible refine ifB'.no (by omega) ?_ | with_reducible refine ifB'.yes (by omega) ?_ | simp -dsimp -implicitDefEqProofs only [go_sem, bl13c, bl13d, bl6z, blZ, e1, e2, e3, decide_true, decide_false, Bool.not_true, Bool.not_false, List.take_length])
          try exact ⟨rfl, rfl⟩
      · by_cases d2 : 0 < p.d - x.b
        · by_cases d3 : x.p < p.d - x.b
          · have hy : tk2 (tk1 x p) p = { x with b := p.d, t := x.t.drop (p.d - x.b).toNat } := by rw [tk2, tk1, if_neg d1]; exact (if_pos d2).trans (by rw [if_pos d3])
            have hR := c_renew (tk2 (tk1 x p) p) (tk2_B (tk1_B hx)) (by have := (tk2_e (tk1 x p) p).1; have := (tk1_e x p).1; omega)
            rw [takM_ren c1 c2 (by omega)]
            generalize hz : renL (tk2 (tk1 x p) p) = z at hR ⊢
            rw [hy] at hR
            repeat' (first | with_reducible refine ask.of (by first | omega | decide) ?_ | with_reducible refine ifB'.no (by omega) ?_ | with_reducible refine ifB'.yes (by omega) ?_ | simp -dsimp -implicitDefEqProofs only [go_sem, bl13c, bl13d, bl6z, blZ, e1, e2, e3, decide_true, decide_false, Bool.not_true, Bool.not_false, List.take_length])
            refine CallE.mut (hR) (by simp -dsimp -implicitDefEqProofs only [go_sem]) (by rintro r rs ⟨rfl, rfl⟩; exact ⟨by (repeat' first | exact trivial | exact pure_rowB _ | exact pure_rowO _ | exact pure_rowI _ | exact pure_rowBB _ | exact pure_rowPk _ _ | exact pure_rowSn _ _ | exact pure_rowFd _ _ | exact pure_rowBBB _ | exact pure_rowCl _ _ | exact pure_rowTb _ _ _ | refine And.intro ?_ ?_), by first | exact ⟨by (repeat' first | exact trivial | exact pure_rowB _ | exact pure_rowO _ | exact pure_rowI _ | exact pure_rowBB _ | exact pure_rowPk _ _ | exact pure_rowSn _ _ | exact pure_rowFd _ _ | exact pure_rowBBB _ | exact pure_rowCl _ _ | exact pure_rowTb _ _ _ | refine And.intro ?_ ?_), trivial⟩ | exact ⟨by (repeat' first | exact trivial | exact pure_rowB _ | exact pure_rowO _ | exact pure_rowI _ | exact pure_rowBB _ | exact pure_rowPk _ _ | exact pure_rowSn _ _ | exact pure_rowFd _ _ | exact pure_rowBBB _ | exact pure_rowCl _ _ | exact pure_rowTb _ _ _ | refine And.intro ?_ ?_), trivial, trivial⟩⟩) (by simp -dsimp -implicitDefEqProofs only [go_sem, sdCi, sdC]) (by simp -dsimp -implicitDefEqProofs only [go_sem, sdCi, sdC]) ?_
            rintro r rs ⟨rfl, rfl⟩
            simp -dsimp -implicitDefEqProofs only [go_sem, sdCi, sdC]
            repeat' (first | with_reducible refine ask.of (by first | omega | decide) ?_ | with_reducible refine ifB'.no (by omega) ?_ | with_reducible refine ifB'.yes (by omega) ?_ | simp -dsimp -implicitDefEqProofs only [go_sem, bl13c, bl13d, bl6z, blZ, e1, e2, e3, decide_true, decide_false, Bool.not_true, Bool.not_false, List.take_length])
            try exact ⟨rfl, rfl⟩
          · have hy : tk2 (tk1 x p) p = { x with b := p.d, t := x.t.drop (p.d - x.b).toNat, p := x.p - (p.d - x.b) } := by rw [tk2, tk1, if_neg d1]; exact (if_pos d2).trans (by rw [if_neg d3])
            have hR := c_renew (tk2 (tk1 x p) p) (tk2_B (tk1_B hx)) (by have := (tk2_e (tk1 x p) p).1; have := (tk1_e x p).1; omega)
            rw [takM_ren c1 c2 (by omega)]
            generalize hz : renL (tk2 (tk1 x p) p) = z at hR ⊢
            rw [hy] at hR
            repeat' (first | with_reducible refine ask.of (by first | omega | decide) ?_ | with_reducible refine ifB'.no (by omega) ?_ | with_reducible refine ifB'.yes (by omega) ?_ | simp -dsimp -implicitDefEqProofs only [go_sem, bl13c, bl13d, bl6z, blZ, e1, e2, e3, decide_true, decide_false, Bool.not_true, Bool.not_false, List.take_length])
            refine CallE.mut (hR) (by simp -dsimp -implicitDefEqProofs only [go_sem]) (by rintro r rs ⟨rfl, rfl⟩; exact ⟨by (repeat' first | exact trivial | exact pure_rowB _ | exact pure_rowO _ | exact pure_rowI _ | exact pure_rowBB _ | exact pure_rowPk _ _ | exact pure_rowSn _ _ | exact pure_rowFd _ _ | exact pure_rowBBB _ | exact pure_rowCl _ _ | exact pure_rowTb _ _ _ | refine And.intro ?_ ?_), by first | exact ⟨by (repeat' first | exact trivial | exact pure_rowB _ | exact pure_rowO _ | exact pure_rowI _ | exact pure_rowBB _ | exact pure_rowPk _ _ | exact pure_rowSn _ _ | exact pure_rowFd _ _ | exact pure_rowBBB _ | exact pure_rowCl _ _ | exact pure_rowTb _ _ _ | refine And.intro ?_ ?_), trivial⟩ | exact ⟨by (repeat' first | exact trivial | exact pure_rowB _ | exact pure_rowO _ | exact pure_rowI _ | exact pure_rowBB _ | exact pure_rowPk _ _ | exact pure_rowSn _ _ | exact pure_rowFd _ _ | exact pure_rowBBB _ | exact pure_rowCl _ _ | exact pure_rowTb _ _ _ | refine And.intro ?_ ?_), trivial, trivial⟩⟩) (by simp -dsimp -implicitDefEqProofs only [go_sem, sdCi, sdC]) (by simp -dsimp -implicitDefEqProofs only [go_sem, sdCi, sdC]) ?_
            rintro r rs ⟨rfl, rfl⟩
            simp -dsimp -implicitDefEqProofs only [go_sem, sdCi, sdC]
            repeat' (first | with_reducible refine ask.of (by first | omega | decide) ?_ | with_reducible refine ifB'.no (by omega) ?_ | with_reducible refine ifB'.yes (by omega) ?_ | simp -dsimp -implicitDefEqProofs only [go_sem, bl13c, bl13d, bl6z, blZ, e1, e2, e3, decide_true, decide_false, Bool.not_true, Bool.not_false, List.take_length])
            try exact ⟨rfl, rfl⟩
        · have d3 : ¬ x.p < p.d - x.b := by omega
          have hy : tk2 (tk1 x p) p = x := by rw [tk2, tk1, if_neg d1]; exact if_neg d2
          have hR := c_renew (tk2 (tk1 x p) p) (tk2_B (tk1_B hx)) (by have := (tk2_e (tk1 x p) p).1; have := (tk1_e x p).1; omega)
          rw [takM_ren c1 c2 (by omega)]
          generalize hz : renL (tk2 (tk1 x p) p) = z at hR ⊢
          rw [hy] at hR
          repeat' (first | with_reducible refine ask.of (by first | omega | decide) ?_ | with_reducible refine ifB'.no (by omega) ?_ | with_reducible refine ifB'.yes (by omega) ?_ | simp -dsimp -implicitDefEqProofs only [go_sem, bl13c, bl13d, bl6z, blZ, e1, e2, e3, decide_true, decide_false, Bool.not_true, Bool.not_false, List.take_length])
          refine CallE.mut (hR) (by simp -dsimp -implicitDefEqProofs only [go_sem]) (by rintro r rs ⟨rfl, rfl⟩; exact ⟨by (repeat' first | exact trivial | exact pure_rowB _ | exact pure_rowO _ | exact pure_rowI _ | exact pure_rowBB _ | exact pure_rowPk _ _ | exact pure_rowSn _ _ | exact pure_rowFd _ _ | exact pure_rowBBB _ | exact pure_rowCl _ _ | exact pure_rowTb _ _ _ | refine And.intro ?_ ?_), by first | exact ⟨by (repeat' first | exact trivial | exact pure_rowB _ | exact pure_rowO _ | exact pure_rowI _ | exact pure_rowBB _ | exact pure_rowPk _ _ | exact pure_rowSn _ _ | exact pure_rowFd _ _ | exact pure_rowBBB _ | exact pure_rowCl _ _ | exact pure_rowTb _ _ _ | refine And.intro ?_ ?_), trivial⟩ | exact ⟨by (repeat' first | exact trivial | exact pure_rowB _ | exact pure_rowO _ | exact pure_rowI _ | exact pure_rowBB _ | exact pure_rowPk _ _ | exact pure_rowSn _ _ | exact pure_rowFd _ _ | exact pure_rowBBB _ | exact pure_rowCl _ _ | exact pure_rowTb _ _ _ | refine And.intro ?_ ?_), trivial, trivial⟩⟩) (by simp -dsimp -implicitDefEqProofs only [go_sem, sdCi, sdC]) (by simp -dsimp -implicitDefEqProofs only [go_sem, sdCi, sdC]) ?_
          rintro r rs ⟨rfl, rfl⟩
          simp -dsimp -implicitDefEqProofs only [go_sem, sdCi, sdC]
          repeat' (first | with_reducible refine ask.of (by first | omega | decide) ?_ | with_reducible refine ifB'.no (by omega) ?_ | with_reducible refine ifB'.yes (by omega) ?_ | simp -dsimp -implicitDefEqProofs only [go_sem, bl13c, bl13d, bl6z, blZ, e1, e2, e3, decide_true, decide_false, Bool.not_true, Bool.not_false, List.take_length])
          try exact ⟨rfl, rfl⟩
  · have c1' := c1
    unfold tkG at c1'
    rw [takM_old c1]
    repeat' (first | exact ⟨rfl, rfl⟩ | with_reducible refine ask.of (by first | omega | decide) ?_ | ((with_reducible refine ifB'.of (fun _ => ?_) (fun _ => ?_)); (try omega)) | simp -dsimp -implicitDefEqProofs only [go_sem, bl13c, bl13d, bl6z, blZ])
    all_goals omega
end Go.Ev
set_option linter.unusedSimpArgs false
set_option linter.unusedVariables false
namespace Go.Ev
open Go Go.RowKit Go.Proofs
theorem decP_k (b : List UInt8) : (decP b).1.f.length ≤ b.length ∧ ((decP b).2 = 0 ∨ (decP b).2 = 3) ∧ ((decP b).2 = 0 → okPk (decP b).1) := by
  by_cases h : 25 ≤ b.length ∧ encP (pkOf b) = b
  · rw [decP_yes h]
    refine ⟨?_, .inl rfl, fun _ => ?_⟩
    · show (cutB b 21 (b.length - 4)).length ≤ _
      rw [cutB_length (by omega)]; omega
    · refine Classical.byContradiction fun h2 => ?_
      have e : encP (pkOf b) = [] := if_neg (fun h3 => h2 (of_decide_eq_true h3))
      have := h.2 ▸ e
      have h1 := h.1
      rw [← h.2, e] at h1
      simp at h1
  · rw [decP_no h]; exact ⟨Nat.zero_le _, .inr rfl, fun h => by cases h⟩
noncomputable def takL (x : Sd) (p : Pk) (c : Int) : Sd × Int := @ite _ (okSd x) (Classical.propDecidable _) (if c ≠ 0 then (x, 3) else if (takM x p).2 = 0 ∨ (takM x p).2 = 5 then takM x p else (x, (takM x p).2)) (sd0, 1)
theorem takL_no {x : Sd} {p : Pk} {c : Int} (h : ¬ okSd x) : takL x p c = (sd0, 1) := @if_neg _ (Classical.propDecidable _) h _ _ _
theorem takL_c {x : Sd} {p : Pk} {c : Int} (h : okSd x) (h2 : c ≠ 0) : takL x p c = (x, 3) := (@if_pos _ (Classical.propDecidable _) h _ _ _).trans (if_pos h2)
theorem takL_y {x : Sd} {p : Pk} (h : okSd x) (h2 : (takM x p).2 = 0 ∨ (takM x p).2 = 5) : takL x p 0 = takM x p := (@if_pos _ (Classical.propDecidable _) h _ _ _).trans ((if_neg (fun h => h rfl)).trans (if_pos h2))
theorem takL_n {x : Sd} {p : Pk} (h : okSd x) (h2 : ¬ ((takM x p).2 = 0 ∨ (takM x p).2 = 5)) : takL x p 0 = (x, (takM x p).2) := (@if_pos _ (Classical.propDecidable _) h _ _ _).trans ((if_neg (fun h => h rfl)).trans (if_neg h2))
set_option maxRecDepth 8000 in
set_option maxHeartbeats 4000000 in
theorem c_implSenderTake (x : Sd) (b : List UInt8) (p : Pk) (c : Int) (hd : decP b = (p, c)) (hx : SdT x) (hb : b.length ≤ 1048576) : Meets Tryz.prog 14 [.agg (sdCi x), rowB b] (fun r => r = resSI (takL x p c)) := by
  have hk := decP_k b
  have hD := c_implDecodePacket b hb
  rw [decRes, hd] at hD
  rw [hd] at hk
  simp only at hk hD
  refine Meets.intro mixed (hint []) Tryz.func14 rfl (by decide) res_14 rty_14 (by kernel_rfl) ?_; 
  simp -dsimp -implicitDefEqProofs only [go_sem, sdCi, sdC, rowB]
  repeat (first | with_reducible refine ask.of (by first | omega | decide) ?_ | simp -dsimp -implicitDefEqProofs only [go_sem, bl13, bl13b, bl6z])
  refine CallE.of (c_iValidSender x hx.toSdB) (by rintro r rfl; (repeat' first | exact trivial | exact pure_rowB _ | exact pure_rowO _ | exact pure_rowI _ | exact pure_rowBB _ | exact pure_rowPk _ _ | exact pure_rowSn _ _ | exact pure_rowFd _ _ | exact pure_rowBBB _ | exact pure_rowCl _ _ | exact pure_rowTb _ _ _ | refine And.intro ?_ ?_)) (by simp -dsimp -implicitDefEqProofs only [go_sem, sdCi, sdC]) ?_
  rintro r rfl
  simp -dsimp -implicitDefEqProofs only [go_sem, sdCi, sdC]
  cases hv : sdB x
  · rw [takL_no (sdB_f hv)]
    repeat (first | with_reducible refine ask.of (by first | omega | decide) ?_ | simp -dsimp -implicitDefEqProofs only [go_sem, bl13, bl13b, Bool.not_false])
    rfl
  · have hok := sdB_t hv
    repeat (first | with_reducible refine ask.of (by first | omega | decide) ?_ | simp -dsimp -implicitDefEqProofs only [go_sem, bl13, bl13b, bl6z, Bool.not_true])
    refine CallE.of (hD) (by rintro r rfl; (repeat' first | exact trivial | exact pure_rowB _ | exact pure_rowO _ | exact pure_rowI _ | exact pure_rowBB _ | exact pure_rowPk _ _ | exact pure_rowSn _ _ | exact pure_rowFd _ _ | exact pure_rowBBB _ | exact pure_rowCl _ _ | exact pure_rowTb _ _ _ | refine And.intro ?_ ?_)) (by simp -dsimp -implicitDefEqProofs only [go_sem, rowB, pkC]) ?_
    rintro r rfl
    simp -dsimp -implicitDefEqProofs only [go_sem, rowB, pkC]
    repeat (first | with_reducible refine ask.of (by first | omega | decide) ?_ | simp -dsimp -implicitDefEqProofs only [go_sem, bl13, bl13b, bl6z])
    rcases hk.2.1 with rfl | rfl
    · have hp := hk.2.2 rfl
      have hm := c_take x p hx.toSdB hok hp (by omega)
      repeat' (first | with_reducible refine ask.of (by first | omega | decide) ?_ | with_reducible refine ifB'.no (by omega) ?_ | simp -dsimp -implicitDefEqProofs only [go_sem, bl13, bl13b, bl6z, decide_true, decide_false, Bool.not_true, Bool.not_false])
      refine CallE.of (c_senderCopy x hx) (by rintro r rfl; (repeat' first | exact trivial | exact pure_rowB _ | exact pure_rowO _ | exact pure_rowI _ | exact pure_rowBB _ | exact pure_rowPk _ _ | exact pure_rowSn _ _ | exact pure_rowFd _ _ | exact pure_rowBBB _ | exact pure_rowCl _ _ | exact pure_rowTb _ _ _ | refine And.intro ?_ ?_)) (by simp -dsimp -implicitDefEqProofs only [go_sem, sdCi, sdC]) ?_
      rintro r rfl
      simp -dsimp -implicitDefEqProofs only [go_sem, sdCi, sdC]
      repeat (first | with_reducible refine ask.of (by first | omega | decide) ?_ | simp -dsimp -implicitDefEqProofs only [go_sem, bl13, bl13b, bl6z])
      by_cases h2 : (takM x p).2 = 0 ∨ (takM x p).2 = 5
      · rw [takL_y hok h2]
        generalize takM x p = z at *
        refine CallE.mut (hm) (by simp -dsimp -implicitDefEqProofs only [go_sem]) (by rintro r rs ⟨rfl, rfl⟩; exact ⟨by (repeat' first | exact trivial | exact pure_rowB _ | exact pure_rowO _ | exact pure_rowI _ | exact pure_rowBB _ | exact pure_rowPk _ _ | exact pure_rowSn _ _ | exact pure_rowFd _ _ | exact pure_rowBBB _ | exact pure_rowCl _ _ | exact pure_rowTb _ _ _ | refine And.intro ?_ ?_), by first | exact ⟨by (repeat' first | exact trivial | exact pure_rowB _ | exact pure_rowO _ | exact pure_rowI _ | exact pure_rowBB _ | exact pure_rowPk _ _ | exact pure_rowSn _ _ | exact pure_rowFd _ _ | exact pure_rowBBB _ | exact pure_rowCl _ _ | exact pure_rowTb _ _ _ | refine And.intro ?_ ?_), trivial⟩ | exact ⟨by (repeat' first | exact trivial | exact pure_rowB _ | exact pure_rowO _ | exact pure_rowI _ | exact pure_rowBB _ | exact pure_rowPk _ _ | exact pure_rowSn _ _ | exact pure_rowFd _ _ | exact pure_rowBBB _ | exact pure_rowCl _ _ | exact pure_rowTb _ _ _ | refine And.intro ?_ ?_), trivial, trivial⟩⟩) (by simp -dsimp -implicitDefEqProofs only [go_sem, sdCi, sdC, pkC]) (by simp -dsimp -implicitDefEqProofs only [go_sem, sdCi, sdC, pkC]) ?_
        rintro r rs ⟨rfl, rfl⟩
        simp -dsimp -implicitDefEqProofs only [go_sem, sdCi, sdC, pkC]
        rcases h2 with h2 | h2
        · repeat' (first | with_reducible refine ask.of (by first | omega | decide) ?_ | with_reducible refine ifB'.no (by omega) ?_ | with_reducible refine ifB'.yes (by omega) ?_ | simp -dsimp -implicitDefEqProofs only [go_sem, bl13, bl13b, bl6z])
          rfl
        · repeat' (first | with_reducible refine ask.of (by first | omega | decide) ?_ | with_reducible refine ifB'.no (by omega) ?_ | with_reducible refine ifB'.yes (by omega) ?_ | simp -dsimp -implicitDefEqProofs only [go_sem, bl13, bl13b, bl6z])
          rfl
      · rw [takL_n hok h2]
        generalize takM x p = z at *
        refine CallE.mut (hm) (by simp -dsimp -implicitDefEqProofs only [go_sem]) (by rintro r rs ⟨rfl, rfl⟩; exact ⟨by (repeat' first | exact trivial | exact pure_rowB _ | exact pure_rowO _ | exact pure_rowI _ | exact pure_rowBB _ | exact pure_rowPk _ _ | exact pure_rowSn _ _ | exact pure_rowFd _ _ | exact pure_rowBBB _ | exact pure_rowCl _ _ | exact pure_rowTb _ _ _ | refine And.intro ?_ ?_), by first | exact ⟨by (repeat' first | exact trivial | exact pure_rowB _ | exact pure_rowO _ | exact pure_rowI _ | exact pure_rowBB _ | exact pure_rowPk _ _ | exact pure_rowSn _ _ | exact pure_rowFd _ _ | exact pure_rowBBB _ | exact pure_rowCl _ _ | exact pure_rowTb _ _ _ | refine And.intro ?_ ?_), trivial⟩ | exact ⟨by (repeat' first | exact trivial | exact pure_rowB _ | exact pure_rowO _ | exact pure_rowI _ | exact pure_rowBB _ | exact pure_rowPk _ _ | exact pure_rowSn _ _ | exact pure_rowFd _ _ | exact pure_rowBBB _ | exact pure_rowCl _ _ | exact pure_rowTb _ _ _ | refine And.intro ?_ ?_), trivial, trivial⟩⟩) (by simp -dsimp -implicitDefEqProofs only [go_sem, sdCi, sdC, pkC]) (by simp -dsimp -implicitDefEqProofs only [go_sem, sdCi, sdC, pkC]) ?_
        rintro r rs ⟨rfl, rfl⟩
        simp -dsimp -implicitDefEqProofs only [go_sem, sdCi, sdC, pkC]
        repeat' (first | with_reducible refine ask.of (by first | omega | decide) ?_ | with_reducible refine ifB'.no (by omega) ?_ | with_reducible refine ifB'.yes (by omega) ?_ | simp -dsimp -implicitDefEqProofs only [go_sem, bl13, bl13b, bl6z])
        refine CallE.of (c_senderCopy x hx) (by rintro r rfl; (repeat' first | exact trivial | exact pure_rowB _ | exact pure_rowO _ | exact pure_rowI _ | exact pure_rowBB _ | exact pure_rowPk _ _ | exact pure_rowSn _ _ | exact pure_rowFd _ _ | exact pure_rowBBB _ | exact pure_rowCl _ _ | exact pure_rowTb _ _ _ | refine And.intro ?_ ?_)) (by simp -dsimp -implicitDefEqProofs only [go_sem, sdCi, sdC]) ?_
        rintro r rfl
        simp -dsimp -implicitDefEqProofs only [go_sem, sdCi, sdC]
        repeat (first | with_reducible refine ask.of (by first | omega | decide) ?_ | simp -dsimp -implicitDefEqProofs only [go_sem, bl13, bl13b])
        rfl
    · rw [takL_c hok (by decide)]
      repeat' (first | with_reducible refine ask.of (by first | omega | decide) ?_ | with_reducible refine ifB'.yes (by omega) ?_ | simp -dsimp -implicitDefEqProofs only [go_sem, bl13, bl13b, bl6z, decide_true, decide_false, Bool.not_true, Bool.not_false])
      refine CallE.of (c_senderCopy x hx) (by rintro r rfl; (repeat' first | exact trivial | exact pure_rowB _ | exact pure_rowO _ | exact pure_rowI _ | exact pure_rowBB _ | exact pure_rowPk _ _ | exact pure_rowSn _ _ | exact pure_rowFd _ _ | exact pure_rowBBB _ | exact pure_rowCl _ _ | exact pure_rowTb _ _ _ | refine And.intro ?_ ?_)) (by simp -dsimp -implicitDefEqProofs only [go_sem, sdCi, sdC]) ?_
      rintro r rfl
      simp -dsimp -implicitDefEqProofs only [go_sem, sdCi, sdC]
      repeat (first | with_reducible refine ask.of (by first | omega | decide) ?_ | simp -dsimp -implicitDefEqProofs only [go_sem, bl13, bl13b])
      rfl
end Go.Ev
