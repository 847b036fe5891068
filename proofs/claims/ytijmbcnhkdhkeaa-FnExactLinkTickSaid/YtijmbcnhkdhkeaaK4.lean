/- Contracts: a tick of a link's near end. -/
import Derived.Test.YtijmbcnhkdhkeaaK2
set_option linter.unusedSimpArgs false
set_option linter.unusedVariables false
namespace Go.Ev
open Go Go.RowKit Go.Proofs
theorem bk7 : Nat.ble 6 7 = true ∧ Nat.ble 7 7 = true := ⟨rfl, rfl⟩
def dueB (now : Int) (s : Sn) : Bool := decide (s.q = -1 ∨ s.q ≤ now - 4)
def tkS (now : Int) (s : Sn) : Sn := bif dueB now s then ⟨s.p, now⟩ else s
def tkH (now : Int) (n : Nat) (h : List Sn) : List Sn := (h.take n).map (tkS now) ++ h.drop n
def tkO (now : Int) (n : Nat) (h : List Sn) : List (List UInt8) := ((h.take n).filter (dueB now)).map fun s => encP s.p
theorem tkH_zero (now : Int) (h : List Sn) : tkH now 0 h = h := by simp [tkH]
theorem tkO_zero (now : Int) (h : List Sn) : tkO now 0 h = [] := by simp [tkO]
theorem tkH_len (now : Int) (n : Nat) (h : List Sn) : (tkH now n h).length = h.length := by simp [tkH]; omega
theorem tkH_at (now : Int) {i : Nat} {h : List Sn} (hi : i < h.length) : (tkH now i h)[i]? = some h[i] := by
  rw [tkH, List.getElem?_append_right (by simp; omega)]
  have : i - ((h.take i).map (tkS now)).length = 0 := by simp; omega
  rw [this]; simp [hi]
theorem tkH_set (now : Int) {i : Nat} {h : List Sn} (hi : i < h.length) : (tkH now i h).set i (tkS now h[i]) = tkH now (i + 1) h := by
  rw [tkH, tkH, List.set_append_right _ _ (by simp; omega), List.take_succ_eq_append_getElem hi, List.map_append, List.append_assoc]
  have : i - ((h.take i).map (tkS now)).length = 0 := by simp; omega
  rw [this, List.drop_eq_getElem_cons hi]
  rfl
theorem tkS_due {now : Int} {s : Sn} (h : s.q = -1 ∨ s.q ≤ now - 4) : tkS now s = ⟨s.p, now⟩ := by simp [tkS, dueB, h]
theorem tkS_not {now : Int} {s : Sn} (h : ¬ (s.q = -1 ∨ s.q ≤ now - 4)) : tkS now s = s := by simp only [tkS, dueB, decide_eq_false h]; rfl
theorem tkH_keep (now : Int) {i : Nat} {h : List Sn} (hi : i < h.length) (hn : ¬ (h[i].q = -1 ∨ h[i].q ≤ now - 4)) : tkH now (i + 1) h = tkH now i h := by
  rw [← tkH_set now hi, tkS_not hn]
  have := tkH_at now hi
  exact List.ext_getElem? fun j => by
    rw [List.getElem?_set]
    split
    · rename_i e; subst e
      rw [if_pos (by rw [tkH_len]; exact hi), this]
    · rfl
theorem tkO_due (now : Int) {i : Nat} {h : List Sn} (hi : i < h.length) (hn : h[i].q = -1 ∨ h[i].q ≤ now - 4) : tkO now (i + 1) h = tkO now i h ++ [encP h[i].p] := by
  rw [tkO, List.take_succ_eq_append_getElem hi, List.filter_append, List.map_append]
  simp [tkO, dueB, hn]
theorem tkO_keep (now : Int) {i : Nat} {h : List Sn} (hi : i < h.length) (hn : ¬ (h[i].q = -1 ∨ h[i].q ≤ now - 4)) : tkO now (i + 1) h = tkO now i h := by
  rw [tkO, List.take_succ_eq_append_getElem hi, List.filter_append, List.map_append]
  simp [tkO, dueB, hn]
theorem tkO_len (now : Int) (i : Nat) (h : List Sn) : (tkO now i h).length ≤ i := by
  have := List.length_filter_le (dueB now) (h.take i)
  simp [tkO] at *; omega
noncomputable def tickL (x : LO) : LO × List (List UInt8) × Int := @ite _ (okLO x) (Classical.propDecidable _) (if x.c = 1000000000 then (x, [], 6) else (⟨x.a, x.b, x.c + 1, tkH (x.c + 1) (min 8 x.h.length) x.h⟩, tkO (x.c + 1) (min 8 x.h.length) x.h, 0)) (lo0, [], 1)
theorem tickL_no {x : LO} (h : ¬ okLO x) : tickL x = (lo0, [], 1) := @if_neg _ (Classical.propDecidable _) h _ _ _
theorem tickL_end {x : LO} (h : okLO x) (h2 : x.c = 1000000000) : tickL x = (x, [], 6) := (@if_pos _ (Classical.propDecidable _) h _ _ _).trans (if_pos h2)
theorem tickL_yes {x : LO} (h : okLO x) (h2 : ¬ x.c = 1000000000) : tickL x = (⟨x.a, x.b, x.c + 1, tkH (x.c + 1) (min 8 x.h.length) x.h⟩, tkO (x.c + 1) (min 8 x.h.length) x.h, 0) := (@if_pos _ (Classical.propDecidable _) h _ _ _).trans (if_neg h2)
noncomputable def resT (xc : LO × List (List UInt8) × Int) : AV := .tup [.agg (loC 133 xc.1), rowBB xc.2.1, .v (.int .i64 xc.2.2)]
theorem sn_setq {h : List Sn} {now : Int} {i : Nat} (hi : i < h.length) (hd : h[i].q = -1 ∨ h[i].q ≤ now - 4) : (ra snC (tkH now i h)).set i [.v (.int .i64 h[i].p.a), .v (.int .i64 h[i].p.b), .v (.int .i64 h[i].p.c), .v (.int .i64 h[i].p.d), .v (.bool h[i].p.e), .row 5 1 (bytesA h[i].p.f), .v (.int .i64 now)] = ra snC (tkH now (i + 1) h) := by
  rw [← tkH_set now hi, tkS_due hd]
  exact ra_set (enc := snC) _ i ⟨h[i].p, now⟩
set_option maxRecDepth 8000 in
set_option maxHeartbeats 2000000 in
theorem c_implLinkTick (x : LO) (hx : x.h.length ≤ 1048576) (hb : ∀ b ∈ x.h, b.p.f.length ≤ 1048576) : Meets Try.prog 46 [.agg (loC 133 x)] (fun r => r = resT (tickL x)) := by
  refine Meets.intro mixed (hint []) Try.func46 rfl (by decide) res_46 rty_46 (by kernel_rfl) ?_; 
  simp -dsimp -implicitDefEqProofs only [go_sem, Nat.reduceBEq, Nat.reduceAdd, Nat.reduceLeDiff, Nat.reduceSub, Int.reduceEq, loC]
  repeat (first | with_reducible refine ask.of (by omega) ?_ | simp -dsimp -implicitDefEqProofs only [go_sem, Nat.reduceBEq, Nat.reduceAdd, Nat.reduceLeDiff, Nat.reduceSub, Int.reduceEq, bleR, bl4])
  refine CallE.of (c_implValidOut x hx hb) (by rintro r rfl; (repeat' first | exact trivial | exact pure_rowB _ | exact pure_rowO _ | exact pure_rowI _ | exact pure_rowBB _ | exact pure_rowPk _ _ | exact pure_rowSn _ _ | exact pure_rowFd _ _ | exact pure_rowBBB _ | exact pure_rowCl _ _ | refine And.intro ?_ ?_)) (by simp -dsimp -implicitDefEqProofs only [go_sem, Nat.reduceBEq, Nat.reduceAdd, Nat.reduceLeDiff, Nat.reduceSub, Int.reduceEq, loC]) ?_
  rintro r rfl
  simp -dsimp -implicitDefEqProofs only [go_sem, Nat.reduceBEq, Nat.reduceAdd, Nat.reduceLeDiff, Nat.reduceSub, Int.reduceEq, loC]
  cases hv : loB x
  · have hv := loB_f hv
    repeat (first | with_reducible refine ask.of (by omega) ?_ | simp -dsimp -implicitDefEqProofs only [go_sem, Nat.reduceBEq, Nat.reduceAdd, Nat.reduceLeDiff, Nat.reduceSub, Int.reduceEq, bleR, bl4, Bool.not_false])
    rw [tickL_no hv]; rfl
  have hv := loB_t hv
  have hc : 0 ≤ x.c ∧ x.c ≤ 1000000000 := ⟨hv.1.2.2.2.2.1, hv.1.2.2.2.2.2.1⟩
  repeat (first | with_reducible refine ask.of (by omega) ?_ | simp -dsimp -implicitDefEqProofs only [go_sem, Nat.reduceBEq, Nat.reduceAdd, Nat.reduceLeDiff, Nat.reduceSub, Int.reduceEq, bleR, bl4, Bool.not_true])
  refine CallE.of (c_outCopy x hx hb) (by rintro r rfl; (repeat' first | exact trivial | exact pure_rowB _ | exact pure_rowO _ | exact pure_rowI _ | exact pure_rowBB _ | exact pure_rowPk _ _ | exact pure_rowSn _ _ | exact pure_rowFd _ _ | exact pure_rowBBB _ | exact pure_rowCl _ _ | refine And.intro ?_ ?_)) (by simp -dsimp -implicitDefEqProofs only [go_sem, Nat.reduceBEq, Nat.reduceAdd, Nat.reduceLeDiff, Nat.reduceSub, Int.reduceEq, loC]) ?_
  rintro r rfl
  simp -dsimp -implicitDefEqProofs only [go_sem, Nat.reduceBEq, Nat.reduceAdd, Nat.reduceLeDiff, Nat.reduceSub, Int.reduceEq, loC]
  repeat (first | with_reducible refine ask.of (by omega) ?_ | simp -dsimp -implicitDefEqProofs only [go_sem, Nat.reduceBEq, Nat.reduceAdd, Nat.reduceLeDiff, Nat.reduceSub, Int.reduceEq, bleR, bl4])
  refine ifB'.of (fun h => ?_) (fun h => ?_)
  · repeat (first | with_reducible refine ask.of (by omega) ?_ | simp -dsimp -implicitDefEqProofs only [go_sem, Nat.reduceBEq, Nat.reduceAdd, Nat.reduceLeDiff, Nat.reduceSub, Int.reduceEq, bleR, bl4])
    rw [tickL_end hv h]; rfl
  have ec : IntKind.i64.wrap (x.c + 1) = x.c + 1 := wrap_i64_of (by omega) (by omega)
  have ec4 : IntKind.i64.wrap (x.c + 1 - 4) = x.c + 1 - 4 := wrap_i64_of (by omega) (by omega)
  rw [tickL_yes hv h]
  obtain ⟨N, hN⟩ : ∃ N, min 8 x.h.length = N := ⟨_, rfl⟩
  have hN2 : N ≤ 8 ∧ N ≤ x.h.length := by omega
  rw [hN]
  repeat (first | with_reducible refine ask.of (by omega) ?_ | simp -dsimp -implicitDefEqProofs only [go_sem, Nat.reduceBEq, Nat.reduceAdd, Nat.reduceLeDiff, Nat.reduceSub, Int.reduceEq, bleR, bl4, ec])
  have hm : (x.h.length : Int) < 8 ∧ (x.h.length : Int) = N ∨ ¬ (x.h.length : Int) < 8 ∧ (8 : Int) = N := by omega
  rcases hm with ⟨hm, hm2⟩ | ⟨hm, hm2⟩
  all_goals
    first | rw [decide_eq_true hm] | rw [decide_eq_false hm]
    simp -dsimp -implicitDefEqProofs only [go_sem, Nat.reduceBEq, Nat.reduceAdd, Nat.reduceLeDiff, Nat.reduceSub, Int.reduceEq]
    refine LoopE.cnt N (fun i s => s.env 2 = .ptr [2] 0 0 0 ∧ s.env 5 = .ptr [5] 0 0 0 ∧ s.env 6 = .ref [23] ∧ s.env 27 = .v (.int .i64 (N : Nat)) ∧ s.env 28 = .v (.int .i64 i) ∧ s.σ [2] = some (.box 29 [.v (.int .i64 0), .v (.int .i64 0), .v (.int .i64 0), .v (.slice none 0 0)]) ∧ s.σ [5] = some (.box 29 [.v (.int .i64 x.a), .v (.int .i64 x.b), .v (.int .i64 (x.c + 1)), .ref [14, 3]])
      ∧ s.σ [14, 3] = some (.row 133 7 (ra snC (tkH (x.c + 1) i x.h))) ∧ s.σ [23] = some (.row 25 1 (ra byC (tkO (x.c + 1) i x.h)))) ⟨by simp -dsimp -implicitDefEqProofs only [go_sem, Nat.reduceBEq, Nat.reduceAdd, Nat.reduceLeDiff, Nat.reduceSub, Int.reduceEq], by simp -dsimp -implicitDefEqProofs only [go_sem, Nat.reduceBEq, Nat.reduceAdd, Nat.reduceLeDiff, Nat.reduceSub, Int.reduceEq], by simp -dsimp -implicitDefEqProofs only [go_sem, Nat.reduceBEq, Nat.reduceAdd, Nat.reduceLeDiff, Nat.reduceSub, Int.reduceEq], by simp -dsimp -implicitDefEqProofs only [go_sem, Nat.reduceBEq, Nat.reduceAdd, Nat.reduceLeDiff, Nat.reduceSub, Int.reduceEq, hm2], by simp -dsimp -implicitDefEqProofs only [go_sem, Nat.reduceBEq, Nat.reduceAdd, Nat.reduceLeDiff, Nat.reduceSub, Int.reduceEq] <;> rfl, by simp -dsimp -implicitDefEqProofs only [go_sem, Nat.reduceBEq, Nat.reduceAdd, Nat.reduceLeDiff, Nat.reduceSub, Int.reduceEq], by simp -dsimp -implicitDefEqProofs only [go_sem, Nat.reduceBEq, Nat.reduceAdd, Nat.reduceLeDiff, Nat.reduceSub, Int.reduceEq], by simp -dsimp -implicitDefEqProofs only [go_sem, Nat.reduceBEq, Nat.reduceAdd, Nat.reduceLeDiff, Nat.reduceSub, Int.reduceEq, tkH_zero], by simp -dsimp -implicitDefEqProofs only [go_sem, Nat.reduceBEq, Nat.reduceAdd, Nat.reduceLeDiff, Nat.reduceSub, Int.reduceEq, tkO_zero] <;> rfl⟩ ?_
    rintro i ⟨e, σ⟩ hi ⟨h2, h5, h6, h27, h28, hs2, hs5, hs14, hs23⟩ K hK
    simp only at h2 h5 h6 h27 h28 hs2 hs5 hs14 hs23
    simp -dsimp -implicitDefEqProofs only [go_sem, Nat.reduceBEq, Nat.reduceAdd, Nat.reduceLeDiff, Nat.reduceSub, Int.reduceEq, h2, h5, h6, h27, h28, hs2, hs5, hs14, hs23]
    refine ifB'.of (fun hlt => ?_) (fun hlt => ?_)
    · have hlt : i < N := by omega
      have hlt' : i < x.h.length := by omega
      have hp := hb _ (List.getElem_mem hlt')
      have htl := tkH_len (x.c + 1) i x.h
      have hol := tkO_len (x.c + 1) i x.h
      have hat : (ra snC (tkH (x.c + 1) i x.h))[i]? = some (snC x.h[i]) := ra_at' (tkH_at _ hlt')
      have hgs : ∀ c : List AV, ((ra snC (tkH (x.c + 1) i x.h)).set i c)[i]? = some c := fun c => by rw [List.getElem?_set_self]; rw [ra_length]; omega
      by_cases hd : x.h[i].q = -1 ∨ x.h[i].q ≤ x.c + 1 - 4
      · have e1 := sn_setq hlt' hd
        have e2 := tkO_due (x.c + 1) hlt' hd
        repeat' (first | with_reducible refine ask.of (by first | omega | decide) ?_ | ((with_reducible refine ifB'.of (fun h => ?_) (fun h => ?_)) <;> first | (exfalso; omega) | skip) | simp -dsimp -implicitDefEqProofs only [go_sem, Nat.reduceBEq, Nat.reduceAdd, Nat.reduceLeDiff, Nat.reduceSub, Int.reduceEq, h2, h5, h6, h27, h28, hs2, hs5, hs14, hs23, bleR, bl4, bk7, ble67, htl, hat, hgs, snC, ec4])
        all_goals
          refine CallE.of (c_implEncodePacket x.h[i].p hp) (by rintro r rfl; (repeat' first | exact trivial | exact pure_rowB _ | exact pure_rowO _ | exact pure_rowI _ | exact pure_rowBB _ | exact pure_rowPk _ _ | exact pure_rowSn _ _ | exact pure_rowFd _ _ | exact pure_rowBBB _ | exact pure_rowCl _ _ | refine And.intro ?_ ?_)) (by simp -dsimp -implicitDefEqProofs only [go_sem, Nat.reduceBEq, Nat.reduceAdd, Nat.reduceLeDiff, Nat.reduceSub, Int.reduceEq, h2, h5, h6, h27, h28, hs2, hs5, hs14, hs23, pkC, hgs]) ?_
          rintro r rfl
          simp -dsimp -implicitDefEqProofs only [go_sem, Nat.reduceBEq, Nat.reduceAdd, Nat.reduceLeDiff, Nat.reduceSub, Int.reduceEq, h2, h5, h6, h27, h28, hs2, hs5, hs14, hs23, pkC, hgs]
          repeat (first | with_reducible refine ask.of (by first | omega | decide | (simp only [ra_length, List.length_cons, List.length_nil]; omega)) ?_ | simp -dsimp -implicitDefEqProofs only [go_sem, Nat.reduceBEq, Nat.reduceAdd, Nat.reduceLeDiff, Nat.reduceSub, Int.reduceEq, h2, h5, h6, h27, h28, hs2, hs5, hs14, hs23, bleR, bl4, hgs, byA_snoc])
          refine hK _ hlt ?_
          simp -dsimp -implicitDefEqProofs only [go_sem, Nat.reduceBEq, Nat.reduceAdd, Nat.reduceLeDiff, Nat.reduceSub, Int.reduceEq, h2, h5, h6, h27, h28, hs2, hs5, hs14, hs23, wrap_succ (show i < 4611686018427387904 by omega), e1, e2, true_and]
      · have e1 := tkH_keep (x.c + 1) hlt' hd
        have e2 := tkO_keep (x.c + 1) hlt' hd
        repeat' (first | with_reducible refine ask.of (by first | omega | decide) ?_ | ((with_reducible refine ifB'.of (fun h => ?_) (fun h => ?_)) <;> first | (exfalso; omega) | skip) | simp -dsimp -implicitDefEqProofs only [go_sem, Nat.reduceBEq, Nat.reduceAdd, Nat.reduceLeDiff, Nat.reduceSub, Int.reduceEq, h2, h5, h6, h27, h28, hs2, hs5, hs14, hs23, bleR, bl4, bk7, ble67, htl, hat, hgs, snC, ec4])
        all_goals
          refine hK _ hlt ?_
          simp -dsimp -implicitDefEqProofs only [go_sem, Nat.reduceBEq, Nat.reduceAdd, Nat.reduceLeDiff, Nat.reduceSub, Int.reduceEq, h2, h5, h6, h27, h28, hs2, hs5, hs14, hs23, wrap_succ (show i < 4611686018427387904 by omega), e1, e2]
    · have : i = N := by omega
      subst this
      repeat (first | with_reducible refine ask.of (by first | omega | decide) ?_ | simp -dsimp -implicitDefEqProofs only [go_sem, Nat.reduceBEq, Nat.reduceAdd, Nat.reduceLeDiff, Nat.reduceSub, Int.reduceEq, h2, h5, h6, h27, h28, hs2, hs5, hs14, hs23, bleR, bl4])
      rfl
set_option maxRecDepth 8000 in
set_option maxHeartbeats 2000000 in
theorem c_specLinkTick (x : LO) (hx : x.h.length ≤ 1048576) (hb : ∀ b ∈ x.h, b.p.f.length ≤ 1048576) : Meets Try.prog 45 [.agg (loC 133 x)] (fun r => r = resT (tickL x)) := by
  refine Meets.intro mixed (hint [(6, 139)]) Try.func45 rfl (by decide) res_45 rty_45 (by kernel_rfl) ?_; 
  simp -dsimp -implicitDefEqProofs only [go_sem, Nat.reduceBEq, Nat.reduceAdd, Nat.reduceLeDiff, Nat.reduceSub, Int.reduceEq, loC]
  repeat (first | with_reducible refine ask.of (by omega) ?_ | simp -dsimp -implicitDefEqProofs only [go_sem, Nat.reduceBEq, Nat.reduceAdd, Nat.reduceLeDiff, Nat.reduceSub, Int.reduceEq, bleR, bl4])
  refine CallE.of (c_specValidOut x hx hb) (by rintro r rfl; (repeat' first | exact trivial | exact pure_rowB _ | exact pure_rowO _ | exact pure_rowI _ | exact pure_rowBB _ | exact pure_rowPk _ _ | exact pure_rowSn _ _ | exact pure_rowFd _ _ | exact pure_rowBBB _ | exact pure_rowCl _ _ | refine And.intro ?_ ?_)) (by simp -dsimp -implicitDefEqProofs only [go_sem, Nat.reduceBEq, Nat.reduceAdd, Nat.reduceLeDiff, Nat.reduceSub, Int.reduceEq, loC]) ?_
  rintro r rfl
  simp -dsimp -implicitDefEqProofs only [go_sem, Nat.reduceBEq, Nat.reduceAdd, Nat.reduceLeDiff, Nat.reduceSub, Int.reduceEq, loC]
  cases hv : loB x
  · have hv := loB_f hv
    repeat (first | with_reducible refine ask.of (by omega) ?_ | simp -dsimp -implicitDefEqProofs only [go_sem, Nat.reduceBEq, Nat.reduceAdd, Nat.reduceLeDiff, Nat.reduceSub, Int.reduceEq, bleR, bl4, Bool.not_false])
    rw [tickL_no hv]; rfl
  have hv := loB_t hv
  have hc : 0 ≤ x.c ∧ x.c ≤ 1000000000 := ⟨hv.1.2.2.2.2.1, hv.1.2.2.2.2.2.1⟩
  repeat (first | with_reducible refine ask.of (by omega) ?_ | simp -dsimp -implicitDefEqProofs only [go_sem, Nat.reduceBEq, Nat.reduceAdd, Nat.reduceLeDiff, Nat.reduceSub, Int.reduceEq, bleR, bl4, Bool.not_true])
  refine CallE.of (c_l5out x hx hb) (by rintro r rfl; (repeat' first | exact trivial | exact pure_rowB _ | exact pure_rowO _ | exact pure_rowI _ | exact pure_rowBB _ | exact pure_rowPk _ _ | exact pure_rowSn _ _ | exact pure_rowFd _ _ | exact pure_rowBBB _ | exact pure_rowCl _ _ | refine And.intro ?_ ?_)) (by simp -dsimp -implicitDefEqProofs only [go_sem, Nat.reduceBEq, Nat.reduceAdd, Nat.reduceLeDiff, Nat.reduceSub, Int.reduceEq, loC]) ?_
  rintro r rfl
  simp -dsimp -implicitDefEqProofs only [go_sem, Nat.reduceBEq, Nat.reduceAdd, Nat.reduceLeDiff, Nat.reduceSub, Int.reduceEq, loC]
  repeat (first | with_reducible refine ask.of (by omega) ?_ | simp -dsimp -implicitDefEqProofs only [go_sem, Nat.reduceBEq, Nat.reduceAdd, Nat.reduceLeDiff, Nat.reduceSub, Int.reduceEq, bleR, bl4])
  refine ifB'.of (fun h => ?_) (fun h => ?_)
  · repeat (first | with_reducible refine ask.of (by omega) ?_ | simp -dsimp -implicitDefEqProofs only [go_sem, Nat.reduceBEq, Nat.reduceAdd, Nat.reduceLeDiff, Nat.reduceSub, Int.reduceEq, bleR, bl4])
    rw [tickL_end hv (by omega)]; rfl
  have h : ¬ x.c = 1000000000 := by omega
  have ec : IntKind.i64.wrap (x.c + 1) = x.c + 1 := wrap_i64_of (by omega) (by omega)
  rw [tickL_yes hv h]
  obtain ⟨N, hN⟩ : ∃ N, min 8 x.h.length = N := ⟨_, rfl⟩
  have hN2 : N ≤ 8 ∧ N ≤ x.h.length := by omega
  rw [hN]
  repeat (first | with_reducible refine ask.of (by omega) ?_ | simp -dsimp -implicitDefEqProofs only [go_sem, Nat.reduceBEq, Nat.reduceAdd, Nat.reduceLeDiff, Nat.reduceSub, Int.reduceEq, bleR, bl4, ec])
  refine LoopE.cnt N (fun i s => s.env 2 = .ptr [2] 0 0 0 ∧ s.env 5 = .ptr [5] 0 0 0 ∧ s.env 6 = .ref [6] ∧ s.env 7 = .v (.int .i64 i) ∧ s.σ [2] = some (.box 29 [.v (.int .i64 0), .v (.int .i64 0), .v (.int .i64 0), .v (.slice none 0 0)]) ∧ s.σ [5] = some (.box 29 [.v (.int .i64 x.a), .v (.int .i64 x.b), .v (.int .i64 (x.c + 1)), .ref [14, 3]])
    ∧ s.σ [14, 3] = some (.row 133 7 (ra snC (tkH (x.c + 1) i x.h))) ∧ s.σ [6] = some (.row 25 1 (ra byC (tkO (x.c + 1) i x.h)))) ⟨by simp -dsimp -implicitDefEqProofs only [go_sem, Nat.reduceBEq, Nat.reduceAdd, Nat.reduceLeDiff, Nat.reduceSub, Int.reduceEq], by simp -dsimp -implicitDefEqProofs only [go_sem, Nat.reduceBEq, Nat.reduceAdd, Nat.reduceLeDiff, Nat.reduceSub, Int.reduceEq], by simp -dsimp -implicitDefEqProofs only [go_sem, Nat.reduceBEq, Nat.reduceAdd, Nat.reduceLeDiff, Nat.reduceSub, Int.reduceEq], by simp -dsimp -implicitDefEqProofs only [go_sem, Nat.reduceBEq, Nat.reduceAdd, Nat.reduceLeDiff, Nat.reduceSub, Int.reduceEq] <;> rfl, by simp -dsimp -implicitDefEqProofs only [go_sem, Nat.reduceBEq, Nat.reduceAdd, Nat.reduceLeDiff, Nat.reduceSub, Int.reduceEq], by simp -dsimp -implicitDefEqProofs only [go_sem, Nat.reduceBEq, Nat.reduceAdd, Nat.reduceLeDiff, Nat.reduceSub, Int.reduceEq], by simp -dsimp -implicitDefEqProofs only [go_sem, Nat.reduceBEq, Nat.reduceAdd, Nat.reduceLeDiff, Nat.reduceSub, Int.reduceEq, tkH_zero], by simp -dsimp -implicitDefEqProofs only [go_sem, Nat.reduceBEq, Nat.reduceAdd, Nat.reduceLeDiff, Nat.reduceSub, Int.reduceEq, tkO_zero] <;> rfl⟩ ?_
  rintro i ⟨e, σ⟩ hi ⟨h2, h5, h6, h7, hs2, hs5, hs14, hs6⟩ K hK
  simp only at h2 h5 h6 h7 hs2 hs5 hs14 hs6
  have htl := tkH_len (x.c + 1) i x.h
  have hol := tkO_len (x.c + 1) i x.h
  simp -dsimp -implicitDefEqProofs only [go_sem, Nat.reduceBEq, Nat.reduceAdd, Nat.reduceLeDiff, Nat.reduceSub, Int.reduceEq, h2, h5, h6, h7, hs2, hs5, hs14, hs6]
  by_cases hlt : i < N
  · have hlt' : i < x.h.length := by omega
    have hp := hb _ (List.getElem_mem hlt')
    have hat : (ra snC (tkH (x.c + 1) i x.h))[i]? = some (snC x.h[i]) := ra_at' (tkH_at _ hlt')
    have hgs : ∀ c : List AV, ((ra snC (tkH (x.c + 1) i x.h)).set i c)[i]? = some c := fun c => by rw [List.getElem?_set_self]; rw [ra_length]; omega
    have hq := (hv.2 i hlt').2.2.2.2
    have eq4 : IntKind.i64.wrap (x.c + 1 - x.h[i].q) = x.c + 1 - x.h[i].q := wrap_i64_of (by omega) (by omega)
    by_cases hd : x.h[i].q = -1 ∨ x.h[i].q ≤ x.c + 1 - 4
    · have e1 := sn_setq hlt' hd
      have e2 := tkO_due (x.c + 1) hlt' hd
      repeat' (first | with_reducible refine ask.of (by first | omega | decide) ?_ | ((with_reducible refine ifB'.of (fun h => ?_) (fun h => ?_)) <;> first | (exfalso; omega) | skip) | simp -dsimp -implicitDefEqProofs only [go_sem, Nat.reduceBEq, Nat.reduceAdd, Nat.reduceLeDiff, Nat.reduceSub, Int.reduceEq, h2, h5, h6, h7, hs2, hs5, hs14, hs6, bleR, bl4, bk7, ble67, htl, hat, hgs, snC, eq4])
      all_goals
        refine CallE.of (c_specEncodePacket x.h[i].p hp) (by rintro r rfl; (repeat' first | exact trivial | exact pure_rowB _ | exact pure_rowO _ | exact pure_rowI _ | exact pure_rowBB _ | exact pure_rowPk _ _ | exact pure_rowSn _ _ | exact pure_rowFd _ _ | exact pure_rowBBB _ | exact pure_rowCl _ _ | refine And.intro ?_ ?_)) (by simp -dsimp -implicitDefEqProofs only [go_sem, Nat.reduceBEq, Nat.reduceAdd, Nat.reduceLeDiff, Nat.reduceSub, Int.reduceEq, h2, h5, h6, h7, hs2, hs5, hs14, hs6, pkC, hgs]) ?_
        rintro r rfl
        simp -dsimp -implicitDefEqProofs only [go_sem, Nat.reduceBEq, Nat.reduceAdd, Nat.reduceLeDiff, Nat.reduceSub, Int.reduceEq, h2, h5, h6, h7, hs2, hs5, hs14, hs6, pkC, hgs]
        repeat (first | with_reducible refine ask.of (by first | omega | decide | (simp only [ra_length, List.length_cons, List.length_nil]; omega)) ?_ | simp -dsimp -implicitDefEqProofs only [go_sem, Nat.reduceBEq, Nat.reduceAdd, Nat.reduceLeDiff, Nat.reduceSub, Int.reduceEq, h2, h5, h6, h7, hs2, hs5, hs14, hs6, bleR, bl4, hgs, byA_snoc])
        refine hK _ hlt ?_
        simp -dsimp -implicitDefEqProofs only [go_sem, Nat.reduceBEq, Nat.reduceAdd, Nat.reduceLeDiff, Nat.reduceSub, Int.reduceEq, h2, h5, h6, h7, hs2, hs5, hs14, hs6, wrap_succ (show i < 4611686018427387904 by omega), e1, e2, true_and]
    · have e1 := tkH_keep (x.c + 1) hlt' hd
      have e2 := tkO_keep (x.c + 1) hlt' hd
      repeat' (first | with_reducible refine ask.of (by first | omega | decide) ?_ | ((with_reducible refine ifB'.of (fun h => ?_) (fun h => ?_)) <;> first | (exfalso; omega) | skip) | simp -dsimp -implicitDefEqProofs only [go_sem, Nat.reduceBEq, Nat.reduceAdd, Nat.reduceLeDiff, Nat.reduceSub, Int.reduceEq, h2, h5, h6, h7, hs2, hs5, hs14, hs6, bleR, bl4, bk7, ble67, htl, hat, hgs, snC, eq4])
      all_goals
        refine hK _ hlt ?_
        simp -dsimp -implicitDefEqProofs only [go_sem, Nat.reduceBEq, Nat.reduceAdd, Nat.reduceLeDiff, Nat.reduceSub, Int.reduceEq, h2, h5, h6, h7, hs2, hs5, hs14, hs6, wrap_succ (show i < 4611686018427387904 by omega), e1, e2]
  · have : i = N := by omega
    subst this
    repeat' (first | with_reducible refine ask.of (by first | omega | decide) ?_ | ((with_reducible refine ifB'.of (fun h => ?_) (fun h => ?_)) <;> first | (exfalso; omega) | skip) | simp -dsimp -implicitDefEqProofs only [go_sem, Nat.reduceBEq, Nat.reduceAdd, Nat.reduceLeDiff, Nat.reduceSub, Int.reduceEq, h2, h5, h6, h7, hs2, hs5, hs14, hs6, bleR, bl4, htl])
    all_goals rfl
end Go.Ev
