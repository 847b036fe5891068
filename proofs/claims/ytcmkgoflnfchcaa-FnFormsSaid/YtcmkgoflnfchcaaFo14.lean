/- Part 14 of what the row leans on: the evaluator, words, contracts of functions; pruned by a program of ours. -/
import Derived.Test.YtcmkgoflnfchcaaFo13
set_option linter.unusedSimpArgs false
set_option linter.unusedVariables false
namespace Go.Ev
open Go Go.RowKit Go.Proofs
theorem msGood_b {x : Ms} (h : msGood x) : x.bs.length + wBB x.bs ≤ 1048576 := by
  have h1 := h.1.2.2.2.2.2.2.1
  have h2 := h.2.1
  omega
theorem decM_two (v : List UInt8) : ∃ m er, decM v = (m, er) ∧ (er = 0 ∧ encM m = v ∧ m.bs.length + wBB m.bs ≤ 1048576 ∨ er = 3) := by
  by_cases h : decMGood v
  · refine ⟨_, _, decM_yes h, .inl ⟨rfl, h.2.2.2, ?_⟩⟩
    refine msGood_b (Classical.byContradiction fun hg => ?_)
    have h1 := h.1
    rw [← h.2.2.2, encM_no hg] at h1
    simp at h1
  · exact ⟨_, _, decM_no h, .inr rfl⟩
theorem decP_two (v : List UInt8) (hv : v.length ≤ 1000) : ∃ p er, decP v = (p, er) ∧ (er = 0 ∧ encP p = v ∧ p.f.length ≤ 1048576 ∨ er = 3) := by
  unfold decP
  split
  · rename_i h
    refine ⟨_, _, rfl, .inl ⟨rfl, h.2, ?_⟩⟩
    refine Classical.byContradiction fun hn => ?_
    have h1 := h.2
    unfold encP at h1
    split at h1
    · rename_i hk
      have : okPk (pkOf v) := by simpa [okB] using hk
      have := this.2.2.2.2
      omega
    · rw [← h1] at h; simp at h
  · exact ⟨_, _, rfl, .inr rfl⟩
set_option maxRecDepth 10000 in
set_option maxHeartbeats 16000000 in
theorem c_FnForms (code more : List UInt8) : Meets Try.prog 4 [rowB code, rowB more] (fun r => r = .v (.bool true)) := by
  by_cases hb : code.length ≤ 1048576 ∧ more.length ≤ 1048576
  · obtain ⟨hb, hbm⟩ := hb
    obtain ⟨x, hX, hxl⟩ := x_DrawEncodeMessage code hb
    obtain ⟨v, hY, hvl⟩ := x_DrawDecodeMessage code hb
    obtain ⟨p, hP, hpl⟩ := x_DrawEncodePacket code hb
    obtain ⟨w, hQ, hwl⟩ := x_DrawDecodePacket code hb
    have hxl' : (encM x).length ≤ 20000 := encM_le x
    have hpl' : (encP p).length ≤ 1000 := by
      unfold encP
      split
      · simp [sumB, pkParts, leB_length]; omega
      · exact Nat.zero_le _
    have hse := c_specEncodeMessage x (by omega)
    have hie := c_implEncodeMessage x (by omega)
    have hsB := c_sameB (encM x) (by omega)
    have ht0 := c_take more 0 (by decide) hbm
    have ht1 := c_take more 1 (by decide) hbm
    have hk0 := tkAt_lt more 0
    have hk1 := tkAt_lt more 1
    have m1 := mulL 256 (n := tkAt more 0) (by omega) (by decide)
    have a1 : IntKind.i64.wrap (((tkAt more 0 * 256 : Nat) : Int) + ((tkAt more 1 : Nat) : Int)) = ((tkAt more 0 * 256 + tkAt more 1 : Nat) : Int) := by rw [wrap_i64_of (by omega) (by omega)]; omega
    simp only [show ((0 : Nat) : Int) = 0 from rfl, show ((1 : Nat) : Int) = 1 from rfl, show ((256 : Nat) : Int) = 256 from rfl] at ht0 ht1 m1
    generalize tkAt more 0 = k0 at *
    generalize tkAt more 1 = k1 at *
    generalize hbit : k0 * 256 + k1 = bit at *
    have hf1 := c_flip (encM x) bit (by omega) (by omega)
    have hd1 : 0 < ((encM x).length : Int) → Meets Try.prog 20 [rowB (encM x)] (fun r => r = .tup [.agg (msC x), .v (.int .i64 0)]) := fun h => by
      have hg : msGood x := Classical.byContradiction fun hg => by rw [encM_no hg] at h; simp at h
      have := c_implDecodeMessage (encM x) (by omega)
      rw [decResM, decM_encM hg] at this
      exact this
    have hd2 : 0 < ((encM x).length : Int) → Meets Try.prog 20 [rowB (flipB (encM x) bit)] (fun r => r = .tup [.agg (msC ms0), .v (.int .i64 3)]) := fun h => by
      have hg : msGood x := Classical.byContradiction fun hg => by rw [encM_no hg] at h; simp at h
      have := c_implDecodeMessage (flipB (encM x) bit) (by rw [flipB_len]; omega)
      rw [decResM, decM_flip hg] at this
      exact this
    have hsL : 0 < ((encM x).length : Int) → Meets Try.prog 22 [rowBB x.bs, rowBB x.bs] (fun r => r = .v (.bool true)) := fun h => c_sameL x.bs (by omega) (fun b hb => by have := mem_wBB hb; omega)
    have hse2 := c_specEncodePacket p (by omega)
    have hie2 := c_implEncodePacket p (by omega)
    have hsB2 := c_sameB (encP p) (by omega)
    have hf2 := c_flip (encP p) bit (by omega) (by omega)
    have hd3 : 0 < ((encP p).length : Int) → Meets Try.prog 13 [rowB (encP p)] (fun r => r = .tup [.agg (pkC p), .v (.int .i64 0)]) := fun h => by
      have hg : okB p = true := by
        cases hk : okB p with
        | true => rfl
        | false => simp [encP, hk] at h
      have := c_implDecodePacket (encP p) (by omega)
      rw [decRes, decP_encP hg] at this
      exact this
    have hd4 : 0 < ((encP p).length : Int) → Meets Try.prog 13 [rowB (flipB (encP p) bit)] (fun r => r = .tup [.agg (pkC ⟨0, 0, 0, 0, false, []⟩), .v (.int .i64 3)]) := fun h => by
      have hg : okB p = true := by
        cases hk : okB p with
        | true => rfl
        | false => simp [encP, hk] at h
      have := c_implDecodePacket (flipB (encP p) bit) (by rw [flipB_len]; omega)
      rw [decRes, decP_flip hg] at this
      exact this
    have hsP := c_samePacket p (by omega)
    have hsv := c_sameB v (by omega)
    have hsw := c_sameB w (by omega)
    obtain ⟨m, er, hm, her⟩ := decM_two v
    have hsd := c_specDecodeMessage v (by omega)
    have hid := c_implDecodeMessage v (by omega)
    rw [decResM, hm] at hsd hid
    obtain ⟨q, er2, hq, her2⟩ := decP_two w hwl
    have hsd2 := c_specDecodePacket w (by omega)
    have hid2 := c_implDecodePacket w (by omega)
    rw [decRes, hq] at hsd2 hid2
    clear hm hq
    generalize encM x = eM at *
    generalize encP p = eP at *
    generalize flipB eM bit = fM at *
    generalize flipB eP bit = fP at *
    have hie3 : er = 0 → Meets Try.prog 18 [.agg (msC m)] (fun r => r = rowB v) := fun h => by
      rcases her with ⟨_, hev, hml⟩ | h3
      · rw [← hev]; exact c_implEncodeMessage m (by omega)
      · omega
    have hie4 : er2 = 0 → Meets Try.prog 27 [.agg (pkC q)] (fun r => r = rowB w) := fun h => by
      rcases her2 with ⟨_, heq, hql⟩ | h3
      · rw [← heq]; exact c_implEncodePacket q (by omega)
      · omega
    refine Meets.intro mixed (hint [(115, 2), (181, 2)]) Try.func4 rfl (by decide) res_4 rty_4 (by kernel_rfl) ?_; 
    repeat' (first
      | with_reducible refine ask.of (by omega) ?_
      | (refine CallE.of (hX) ?_ ?_ ?_; rotate_left; (· (simp -dsimp -implicitDefEqProofs only [go_sem, Nat.reduceBEq, Nat.reduceAdd, Nat.reduceLeDiff, Nat.reduceSub, Int.reduceEq, initE, msC, pkC, ms0, m1, a1, decide_true, Bool.not_true, Bool.not_false, blA, cty_rd]; done)); rotate_left; (· (rintro r rfl; (repeat' first | exact trivial | exact pure_rowB _ | exact pure_rowO _ | exact pure_rowI _ | exact pure_rowBB _ | exact pure_rowPk _ _ | exact pure_rowSn _ _ | exact pure_rowFd _ _ | exact pure_rowBBB _ | exact pure_rowCl _ _ | exact pure_rowTb _ _ _ | refine And.intro ?_ ?_))); rintro r rfl; try simp -dsimp -implicitDefEqProofs only [go_sem, Nat.reduceBEq, Nat.reduceAdd, Nat.reduceLeDiff, Nat.reduceSub, Int.reduceEq, initE, msC, pkC, ms0, m1, a1, decide_true, Bool.not_true, Bool.not_false, blA, cty_rd])
      | (refine CallE.of (hY) ?_ ?_ ?_; rotate_left; (· (simp -dsimp -implicitDefEqProofs only [go_sem, Nat.reduceBEq, Nat.reduceAdd, Nat.reduceLeDiff, Nat.reduceSub, Int.reduceEq, initE, msC, pkC, ms0, m1, a1, decide_true, Bool.not_true, Bool.not_false, blA, cty_rd]; done)); rotate_left; (· (rintro r rfl; (repeat' first | exact trivial | exact pure_rowB _ | exact pure_rowO _ | exact pure_rowI _ | exact pure_rowBB _ | exact pure_rowPk _ _ | exact pure_rowSn _ _ | exact pure_rowFd _ _ | exact pure_rowBBB _ | exact pure_rowCl _ _ | exact pure_rowTb _ _ _ | refine And.intro ?_ ?_))); rintro r rfl; try simp -dsimp -implicitDefEqProofs only [go_sem, Nat.reduceBEq, Nat.reduceAdd, Nat.reduceLeDiff, Nat.reduceSub, Int.reduceEq, initE, msC, pkC, ms0, m1, a1, decide_true, Bool.not_true, Bool.not_false, blA, cty_rd])
      | (refine CallE.of (hP) ?_ ?_ ?_; rotate_left; (· (simp -dsimp -implicitDefEqProofs only [go_sem, Nat.reduceBEq, Nat.reduceAdd, Nat.reduceLeDiff, Nat.reduceSub, Int.reduceEq, initE, msC, pkC, ms0, m1, a1, decide_true, Bool.not_true, Bool.not_false, blA, cty_rd]; done)); rotate_left; (· (rintro r rfl; (repeat' first | exact trivial | exact pure_rowB _ | exact pure_rowO _ | exact pure_rowI _ | exact pure_rowBB _ | exact pure_rowPk _ _ | exact pure_rowSn _ _ | exact pure_rowFd _ _ | exact pure_rowBBB _ | exact pure_rowCl _ _ | exact pure_rowTb _ _ _ | refine And.intro ?_ ?_))); rintro r rfl; try simp -dsimp -implicitDefEqProofs only [go_sem, Nat.reduceBEq, Nat.reduceAdd, Nat.reduceLeDiff, Nat.reduceSub, Int.reduceEq, initE, msC, pkC, ms0, m1, a1, decide_true, Bool.not_true, Bool.not_false, blA, cty_rd])
      | (refine CallE.of (hQ) ?_ ?_ ?_; rotate_left; (· (simp -dsimp -implicitDefEqProofs only [go_sem, Nat.reduceBEq, Nat.reduceAdd, Nat.reduceLeDiff, Nat.reduceSub, Int.reduceEq, initE, msC, pkC, ms0, m1, a1, decide_true, Bool.not_true, Bool.not_false, blA, cty_rd]; done)); rotate_left; (· (rintro r rfl; (repeat' first | exact trivial | exact pure_rowB _ | exact pure_rowO _ | exact pure_rowI _ | exact pure_rowBB _ | exact pure_rowPk _ _ | exact pure_rowSn _ _ | exact pure_rowFd _ _ | exact pure_rowBBB _ | exact pure_rowCl _ _ | exact pure_rowTb _ _ _ | refine And.intro ?_ ?_))); rintro r rfl; try simp -dsimp -implicitDefEqProofs only [go_sem, Nat.reduceBEq, Nat.reduceAdd, Nat.reduceLeDiff, Nat.reduceSub, Int.reduceEq, initE, msC, pkC, ms0, m1, a1, decide_true, Bool.not_true, Bool.not_false, blA, cty_rd])
      | (refine CallE.of (hse) ?_ ?_ ?_; rotate_left; (· (simp -dsimp -implicitDefEqProofs only [go_sem, Nat.reduceBEq, Nat.reduceAdd, Nat.reduceLeDiff, Nat.reduceSub, Int.reduceEq, initE, msC, pkC, ms0, m1, a1, decide_true, Bool.not_true, Bool.not_false, blA, cty_rd]; done)); rotate_left; (· (rintro r rfl; (repeat' first | exact trivial | exact pure_rowB _ | exact pure_rowO _ | exact pure_rowI _ | exact pure_rowBB _ | exact pure_rowPk _ _ | exact pure_rowSn _ _ | exact pure_rowFd _ _ | exact pure_rowBBB _ | exact pure_rowCl _ _ | exact pure_rowTb _ _ _ | refine And.intro ?_ ?_))); rintro r rfl; try simp -dsimp -implicitDefEqProofs only [go_sem, Nat.reduceBEq, Nat.reduceAdd, Nat.reduceLeDiff, Nat.reduceSub, Int.reduceEq, initE, msC, pkC, ms0, m1, a1, decide_true, Bool.not_true, Bool.not_false, blA, cty_rd])
      | (refine CallE.of (hie) ?_ ?_ ?_; rotate_left; (· (simp -dsimp -implicitDefEqProofs only [go_sem, Nat.reduceBEq, Nat.reduceAdd, Nat.reduceLeDiff, Nat.reduceSub, Int.reduceEq, initE, msC, pkC, ms0, m1, a1, decide_true, Bool.not_true, Bool.not_false, blA, cty_rd]; done)); rotate_left; (· (rintro r rfl; (repeat' first | exact trivial | exact pure_rowB _ | exact pure_rowO _ | exact pure_rowI _ | exact pure_rowBB _ | exact pure_rowPk _ _ | exact pure_rowSn _ _ | exact pure_rowFd _ _ | exact pure_rowBBB _ | exact pure_rowCl _ _ | exact pure_rowTb _ _ _ | refine And.intro ?_ ?_))); rintro r rfl; try simp -dsimp -implicitDefEqProofs only [go_sem, Nat.reduceBEq, Nat.reduceAdd, Nat.reduceLeDiff, Nat.reduceSub, Int.reduceEq, initE, msC, pkC, ms0, m1, a1, decide_true, Bool.not_true, Bool.not_false, blA, cty_rd])
      | (refine CallE.of (hsB) ?_ ?_ ?_; rotate_left; (· (simp -dsimp -implicitDefEqProofs only [go_sem, Nat.reduceBEq, Nat.reduceAdd, Nat.reduceLeDiff, Nat.reduceSub, Int.reduceEq, initE, msC, pkC, ms0, m1, a1, decide_true, Bool.not_true, Bool.not_false, blA, cty_rd]; done)); rotate_left; (· (rintro r rfl; (repeat' first | exact trivial | exact pure_rowB _ | exact pure_rowO _ | exact pure_rowI _ | exact pure_rowBB _ | exact pure_rowPk _ _ | exact pure_rowSn _ _ | exact pure_rowFd _ _ | exact pure_rowBBB _ | exact pure_rowCl _ _ | exact pure_rowTb _ _ _ | refine And.intro ?_ ?_))); rintro r rfl; try simp -dsimp -implicitDefEqProofs only [go_sem, Nat.reduceBEq, Nat.reduceAdd, Nat.reduceLeDiff, Nat.reduceSub, Int.reduceEq, initE, msC, pkC, ms0, m1, a1, decide_true, Bool.not_true, Bool.not_false, blA, cty_rd])
      | (refine CallE.of (ht0) ?_ ?_ ?_; rotate_left; (· (simp -dsimp -implicitDefEqProofs only [go_sem, Nat.reduceBEq, Nat.reduceAdd, Nat.reduceLeDiff, Nat.reduceSub, Int.reduceEq, initE, msC, pkC, ms0, m1, a1, decide_true, Bool.not_true, Bool.not_false, blA, cty_rd]; done)); rotate_left; (· (rintro r rfl; (repeat' first | exact trivial | exact pure_rowB _ | exact pure_rowO _ | exact pure_rowI _ | exact pure_rowBB _ | exact pure_rowPk _ _ | exact pure_rowSn _ _ | exact pure_rowFd _ _ | exact pure_rowBBB _ | exact pure_rowCl _ _ | exact pure_rowTb _ _ _ | refine And.intro ?_ ?_))); rintro r rfl; try simp -dsimp -implicitDefEqProofs only [go_sem, Nat.reduceBEq, Nat.reduceAdd, Nat.reduceLeDiff, Nat.reduceSub, Int.reduceEq, initE, msC, pkC, ms0, m1, a1, decide_true, Bool.not_true, Bool.not_false, blA, cty_rd])
      | (refine CallE.of (ht1) ?_ ?_ ?_; rotate_left; (· (simp -dsimp -implicitDefEqProofs only [go_sem, Nat.reduceBEq, Nat.reduceAdd, Nat.reduceLeDiff, Nat.reduceSub, Int.reduceEq, initE, msC, pkC, ms0, m1, a1, decide_true, Bool.not_true, Bool.not_false, blA, cty_rd]; done)); rotate_left; (· (rintro r rfl; (repeat' first | exact trivial | exact pure_rowB _ | exact pure_rowO _ | exact pure_rowI _ | exact pure_rowBB _ | exact pure_rowPk _ _ | exact pure_rowSn _ _ | exact pure_rowFd _ _ | exact pure_rowBBB _ | exact pure_rowCl _ _ | exact pure_rowTb _ _ _ | refine And.intro ?_ ?_))); rintro r rfl; try simp -dsimp -implicitDefEqProofs only [go_sem, Nat.reduceBEq, Nat.reduceAdd, Nat.reduceLeDiff, Nat.reduceSub, Int.reduceEq, initE, msC, pkC, ms0, m1, a1, decide_true, Bool.not_true, Bool.not_false, blA, cty_rd])
      | (refine CallE.of (hf1) ?_ ?_ ?_; rotate_left; (· (simp -dsimp -implicitDefEqProofs only [go_sem, Nat.reduceBEq, Nat.reduceAdd, Nat.reduceLeDiff, Nat.reduceSub, Int.reduceEq, initE, msC, pkC, ms0, m1, a1, decide_true, Bool.not_true, Bool.not_false, blA, cty_rd]; done)); rotate_left; (· (rintro r rfl; (repeat' first | exact trivial | exact pure_rowB _ | exact pure_rowO _ | exact pure_rowI _ | exact pure_rowBB _ | exact pure_rowPk _ _ | exact pure_rowSn _ _ | exact pure_rowFd _ _ | exact pure_rowBBB _ | exact pure_rowCl _ _ | exact pure_rowTb _ _ _ | refine And.intro ?_ ?_))); rintro r rfl; try simp -dsimp -implicitDefEqProofs only [go_sem, Nat.reduceBEq, Nat.reduceAdd, Nat.reduceLeDiff, Nat.reduceSub, Int.reduceEq, initE, msC, pkC, ms0, m1, a1, decide_true, Bool.not_true, Bool.not_false, blA, cty_rd])
      | (refine CallE.of (hd1 (by omega)) ?_ ?_ ?_; rotate_left; (· (simp -dsimp -implicitDefEqProofs only [go_sem, Nat.reduceBEq, Nat.reduceAdd, Nat.reduceLeDiff, Nat.reduceSub, Int.reduceEq, initE, msC, pkC, ms0, m1, a1, decide_true, Bool.not_true, Bool.not_false, blA, cty_rd]; done)); rotate_left; (· (rintro r rfl; (repeat' first | exact trivial | exact pure_rowB _ | exact pure_rowO _ | exact pure_rowI _ | exact pure_rowBB _ | exact pure_rowPk _ _ | exact pure_rowSn _ _ | exact pure_rowFd _ _ | exact pure_rowBBB _ | exact pure_rowCl _ _ | exact pure_rowTb _ _ _ | refine And.intro ?_ ?_))); rintro r rfl; try simp -dsimp -implicitDefEqProofs only [go_sem, Nat.reduceBEq, Nat.reduceAdd, Nat.reduceLeDiff, Nat.reduceSub, Int.reduceEq, initE, msC, pkC, ms0, m1, a1, decide_true, Bool.not_true, Bool.not_false, blA, cty_rd])
      | (refine CallE.of (hd2 (by omega)) ?_ ?_ ?_; rotate_left; (· (simp -dsimp -implicitDefEqProofs only [go_sem, Nat.reduceBEq, Nat.reduceAdd, Nat.reduceLeDiff, Nat.reduceSub, Int.reduceEq, initE, msC, pkC, ms0, m1, a1, decide_true, Bool.not_true, Bool.not_false, blA, cty_rd]; done)); rotate_left; (· (rintro r rfl; (repeat' first | exact trivial | exact pure_rowB _ | exact pure_rowO _ | exact pure_rowI _ | exact pure_rowBB _ | exact pure_rowPk _ _ | exact pure_rowSn _ _ | exact pure_rowFd _ _ | exact pure_rowBBB _ | exact pure_rowCl _ _ | exact pure_rowTb _ _ _ | refine And.intro ?_ ?_))); rintro r rfl; try simp -dsimp -implicitDefEqProofs only [go_sem, Nat.reduceBEq, Nat.reduceAdd, Nat.reduceLeDiff, Nat.reduceSub, Int.reduceEq, initE, msC, pkC, ms0, m1, a1, decide_true, Bool.not_true, Bool.not_false, blA, cty_rd])
      | (refine CallE.of (hsL (by omega)) ?_ ?_ ?_; rotate_left; (· (simp -dsimp -implicitDefEqProofs only [go_sem, Nat.reduceBEq, Nat.reduceAdd, Nat.reduceLeDiff, Nat.reduceSub, Int.reduceEq, initE, msC, pkC, ms0, m1, a1, decide_true, Bool.not_true, Bool.not_false, blA, cty_rd]; done)); rotate_left; (· (rintro r rfl; (repeat' first | exact trivial | exact pure_rowB _ | exact pure_rowO _ | exact pure_rowI _ | exact pure_rowBB _ | exact pure_rowPk _ _ | exact pure_rowSn _ _ | exact pure_rowFd _ _ | exact pure_rowBBB _ | exact pure_rowCl _ _ | exact pure_rowTb _ _ _ | refine And.intro ?_ ?_))); rintro r rfl; try simp -dsimp -implicitDefEqProofs only [go_sem, Nat.reduceBEq, Nat.reduceAdd, Nat.reduceLeDiff, Nat.reduceSub, Int.reduceEq, initE, msC, pkC, ms0, m1, a1, decide_true, Bool.not_true, Bool.not_false, blA, cty_rd])
      | (refine CallE.of (hse2) ?_ ?_ ?_; rotate_left; (· (simp -dsimp -implicitDefEqProofs only [go_sem, Nat.reduceBEq, Nat.reduceAdd, Nat.reduceLeDiff, Nat.reduceSub, Int.reduceEq, initE, msC, pkC, ms0, m1, a1, decide_true, Bool.not_true, Bool.not_false, blA, cty_rd]; done)); rotate_left; (· (rintro r rfl; (repeat' first | exact trivial | exact pure_rowB _ | exact pure_rowO _ | exact pure_rowI _ | exact pure_rowBB _ | exact pure_rowPk _ _ | exact pure_rowSn _ _ | exact pure_rowFd _ _ | exact pure_rowBBB _ | exact pure_rowCl _ _ | exact pure_rowTb _ _ _ | refine And.intro ?_ ?_))); rintro r rfl; try simp -dsimp -implicitDefEqProofs only [go_sem, Nat.reduceBEq, Nat.reduceAdd, Nat.reduceLeDiff, Nat.reduceSub, Int.reduceEq, initE, msC, pkC, ms0, m1, a1, decide_true, Bool.not_true, Bool.not_false, blA, cty_rd])
      | (refine CallE.of (hie2) ?_ ?_ ?_; rotate_left; (· (simp -dsimp -implicitDefEqProofs only [go_sem, Nat.reduceBEq, Nat.reduceAdd, Nat.reduceLeDiff, Nat.reduceSub, Int.reduceEq, initE, msC, pkC, ms0, m1, a1, decide_true, Bool.not_true, Bool.not_false, blA, cty_rd]; done)); rotate_left; (· (rintro r rfl; (repeat' first | exact trivial | exact pure_rowB _ | exact pure_rowO _ | exact pure_rowI _ | exact pure_rowBB _ | exact pure_rowPk _ _ | exact pure_rowSn _ _ | exact pure_rowFd _ _ | exact pure_rowBBB _ | exact pure_rowCl _ _ | exact pure_rowTb _ _ _ | refine And.intro ?_ ?_))); rintro r rfl; try simp -dsimp -implicitDefEqProofs only [go_sem, Nat.reduceBEq, Nat.reduceAdd, Nat.reduceLeDiff, Nat.reduceSub, Int.reduceEq, initE, msC, pkC, ms0, m1, a1, decide_true, Bool.not_true, Bool.not_false, blA, cty_rd])
      | (refine CallE.of (hsB2) ?_ ?_ ?_; rotate_left; (· (simp -dsimp -implicitDefEqProofs only [go_sem, Nat.reduceBEq, Nat.reduceAdd, Nat.reduceLeDiff, Nat.reduceSub, Int.reduceEq, initE, msC, pkC, ms0, m1, a1, decide_true, Bool.not_true, Bool.not_false, blA, cty_rd]; done)); rotate_left; (· (rintro r rfl; (repeat' first | exact trivial | exact pure_rowB _ | exact pure_rowO _ | exact pure_rowI _ | exact pure_rowBB _ | exact pure_rowPk _ _ | exact pure_rowSn _ _ | exact pure_rowFd _ _ | exact pure_rowBBB _ | exact pure_rowCl _ _ | exact pure_rowTb _ _ _ | refine And.intro ?_ ?_))); rintro r rfl; try simp -dsimp -implicitDefEqProofs only [go_sem, Nat.reduceBEq, Nat.reduceAdd, Nat.reduceLeDiff, Nat.reduceSub, Int.reduceEq, initE, msC, pkC, ms0, m1, a1, decide_true, Bool.not_true, Bool.not_false, blA, cty_rd])
      | (refine CallE.of (hf2) ?_ ?_ ?_; rotate_left; (· (simp -dsimp -implicitDefEqProofs only [go_sem, Nat.reduceBEq, Nat.reduceAdd, Nat.reduceLeDiff, Nat.reduceSub, Int.reduceEq, initE, msC, pkC, ms0, m1, a1, decide_true, Bool.not_true, Bool.not_false, blA, cty_rd]; done)); rotate_left; (· (rintro r rfl; (repeat' first | exact trivial | exact pure_rowB _ | exact pure_rowO _ | exact pure_rowI _ | exact pure_rowBB _ | exact pure_rowPk _ _ | exact pure_rowSn _ _ | exact pure_rowFd _ _ | exact pure_rowBBB _ | exact pure_rowCl _ _ | exact pure_rowTb _ _ _ | refine And.intro ?_ ?_))); rintro r rfl; try simp -dsimp -implicitDefEqProofs only [go_sem, Nat.reduceBEq, Nat.reduceAdd, Nat.reduceLeDiff, Nat.reduceSub, Int.reduceEq, initE, msC, pkC, ms0, m1, a1, decide_true, Bool.not_true, Bool.not_false, blA, cty_rd])
      | (refine CallE.of (hd3 (by omega)) ?_ ?_ ?_; rotate_left; (· (simp -dsimp -implicitDefEqProofs only [go_sem, Nat.reduceBEq, Nat.reduceAdd, Nat.reduceLeDiff, Nat.reduceSub, Int.reduceEq, initE, msC, pkC, ms0, m1, a1, decide_true, Bool.not_true, Bool.not_false, blA, cty_rd]; done)); rotate_left; (· (rintro r rfl; (repeat' first | exact trivial | exact pure_rowB _ | exact pure_rowO _ | exact pure_rowI _ | exact pure_rowBB _ | exact pure_rowPk _ _ | exact pure_rowSn _ _ | exact pure_rowFd _ _ | exact pure_rowBBB _ | exact pure_rowCl _ _ | exact pure_rowTb _ _ _ | refine And.intro ?_ ?_))); rintro r rfl; try simp -dsimp -implicitDefEqProofs only [go_sem, Nat.reduceBEq, Nat.reduceAdd, Nat.reduceLeDiff, Nat.reduceSub, Int.reduceEq, initE, msC, pkC, ms0, m1, a1, decide_true, Bool.not_true, Bool.not_false, blA, cty_rd])
      | (refine CallE.of (hd4 (by omega)) ?_ ?_ ?_; rotate_left; (· (simp -dsimp -implicitDefEqProofs only [go_sem, Nat.reduceBEq, Nat.reduceAdd, Nat.reduceLeDiff, Nat.reduceSub, Int.reduceEq, initE, msC, pkC, ms0, m1, a1, decide_true, Bool.not_true, Bool.not_false, blA, cty_rd]; done)); rotate_left; (· (rintro r rfl; (repeat' first | exact trivial | exact pure_rowB _ | exact pure_rowO _ | exact pure_rowI _ | exact pure_rowBB _ | exact pure_rowPk _ _ | exact pure_rowSn _ _ | exact pure_rowFd _ _ | exact pure_rowBBB _ | exact pure_rowCl _ _ | exact pure_rowTb _ _ _ | refine And.intro ?_ ?_))); rintro r rfl; try simp -dsimp -implicitDefEqProofs only [go_sem, Nat.reduceBEq, Nat.reduceAdd, Nat.reduceLeDiff, Nat.reduceSub, Int.reduceEq, initE, msC, pkC, ms0, m1, a1, decide_true, Bool.not_true, Bool.not_false, blA, cty_rd])
      | (refine CallE.of (hsP) ?_ ?_ ?_; rotate_left; (· (simp -dsimp -implicitDefEqProofs only [go_sem, Nat.reduceBEq, Nat.reduceAdd, Nat.reduceLeDiff, Nat.reduceSub, Int.reduceEq, initE, msC, pkC, ms0, m1, a1, decide_true, Bool.not_true, Bool.not_false, blA, cty_rd]; done)); rotate_left; (· (rintro r rfl; (repeat' first | exact trivial | exact pure_rowB _ | exact pure_rowO _ | exact pure_rowI _ | exact pure_rowBB _ | exact pure_rowPk _ _ | exact pure_rowSn _ _ | exact pure_rowFd _ _ | exact pure_rowBBB _ | exact pure_rowCl _ _ | exact pure_rowTb _ _ _ | refine And.intro ?_ ?_))); rintro r rfl; try simp -dsimp -implicitDefEqProofs only [go_sem, Nat.reduceBEq, Nat.reduceAdd, Nat.reduceLeDiff, Nat.reduceSub, Int.reduceEq, initE, msC, pkC, ms0, m1, a1, decide_true, Bool.not_true, Bool.not_false, blA, cty_rd])
      | (refine CallE.of (hsv) ?_ ?_ ?_; rotate_left; (· (simp -dsimp -implicitDefEqProofs only [go_sem, Nat.reduceBEq, Nat.reduceAdd, Nat.reduceLeDiff, Nat.reduceSub, Int.reduceEq, initE, msC, pkC, ms0, m1, a1, decide_true, Bool.not_true, Bool.not_false, blA, cty_rd]; done)); rotate_left; (· (rintro r rfl; (repeat' first | exact trivial | exact pure_rowB _ | exact pure_rowO _ | exact pure_rowI _ | exact pure_rowBB _ | exact pure_rowPk _ _ | exact pure_rowSn _ _ | exact pure_rowFd _ _ | exact pure_rowBBB _ | exact pure_rowCl _ _ | exact pure_rowTb _ _ _ | refine And.intro ?_ ?_))); rintro r rfl; try simp -dsimp -implicitDefEqProofs only [go_sem, Nat.reduceBEq, Nat.reduceAdd, Nat.reduceLeDiff, Nat.reduceSub, Int.reduceEq, initE, msC, pkC, ms0, m1, a1, decide_true, Bool.not_true, Bool.not_false, blA, cty_rd])
      | (refine CallE.of (hsw) ?_ ?_ ?_; rotate_left; (· (simp -dsimp -implicitDefEqProofs only [go_sem, Nat.reduceBEq, Nat.reduceAdd, Nat.reduceLeDiff, Nat.reduceSub, Int.reduceEq, initE, msC, pkC, ms0, m1, a1, decide_true, Bool.not_true, Bool.not_false, blA, cty_rd]; done)); rotate_left; (· (rintro r rfl; (repeat' first | exact trivial | exact pure_rowB _ | exact pure_rowO _ | exact pure_rowI _ | exact pure_rowBB _ | exact pure_rowPk _ _ | exact pure_rowSn _ _ | exact pure_rowFd _ _ | exact pure_rowBBB _ | exact pure_rowCl _ _ | exact pure_rowTb _ _ _ | refine And.intro ?_ ?_))); rintro r rfl; try simp -dsimp -implicitDefEqProofs only [go_sem, Nat.reduceBEq, Nat.reduceAdd, Nat.reduceLeDiff, Nat.reduceSub, Int.reduceEq, initE, msC, pkC, ms0, m1, a1, decide_true, Bool.not_true, Bool.not_false, blA, cty_rd])
      | (refine CallE.of (hsd) ?_ ?_ ?_; rotate_left; (· (simp -dsimp -implicitDefEqProofs only [go_sem, Nat.reduceBEq, Nat.reduceAdd, Nat.reduceLeDiff, Nat.reduceSub, Int.reduceEq, initE, msC, pkC, ms0, m1, a1, decide_true, Bool.not_true, Bool.not_false, blA, cty_rd]; done)); rotate_left; (· (rintro r rfl; (repeat' first | exact trivial | exact pure_rowB _ | exact pure_rowO _ | exact pure_rowI _ | exact pure_rowBB _ | exact pure_rowPk _ _ | exact pure_rowSn _ _ | exact pure_rowFd _ _ | exact pure_rowBBB _ | exact pure_rowCl _ _ | exact pure_rowTb _ _ _ | refine And.intro ?_ ?_))); rintro r rfl; try simp -dsimp -implicitDefEqProofs only [go_sem, Nat.reduceBEq, Nat.reduceAdd, Nat.reduceLeDiff, Nat.reduceSub, Int.reduceEq, initE, msC, pkC, ms0, m1, a1, decide_true, Bool.not_true, Bool.not_false, blA, cty_rd])
      | (refine CallE.of (hid) ?_ ?_ ?_; rotate_left; (· (simp -dsimp -implicitDefEqProofs only [go_sem, Nat.reduceBEq, Nat.reduceAdd, Nat.reduceLeDiff, Nat.reduceSub, Int.reduceEq, initE, msC, pkC, ms0, m1, a1, decide_true, Bool.not_true, Bool.not_false, blA, cty_rd]; done)); rotate_left; (· (rintro r rfl; (repeat' first | exact trivial | exact pure_rowB _ | exact pure_rowO _ | exact pure_rowI _ | exact pure_rowBB _ | exact pure_rowPk _ _ | exact pure_rowSn _ _ | exact pure_rowFd _ _ | exact pure_rowBBB _ | exact pure_rowCl _ _ | exact pure_rowTb _ _ _ | refine And.intro ?_ ?_))); rintro r rfl; try simp -dsimp -implicitDefEqProofs only [go_sem, Nat.reduceBEq, Nat.reduceAdd, Nat.reduceLeDiff, Nat.reduceSub, Int.reduceEq, initE, msC, pkC, ms0, m1, a1, decide_true, Bool.not_true, Bool.not_false, blA, cty_rd])
      | (refine CallE.of (hsd2) ?_ ?_ ?_; rotate_left; (· (simp -dsimp -implicitDefEqProofs only [go_sem, Nat.reduceBEq, Nat.reduceAdd, Nat.reduceLeDiff, Nat.reduceSub, Int.reduceEq, initE, msC, pkC, ms0, m1, a1, decide_true, Bool.not_true, Bool.not_false, blA, cty_rd]; done)); rotate_left; (· (rintro r rfl; (repeat' first | exact trivial | exact pure_rowB _ | exact pure_rowO _ | exact pure_rowI _ | exact pure_rowBB _ | exact pure_rowPk _ _ | exact pure_rowSn _ _ | exact pure_rowFd _ _ | exact pure_rowBBB _ | exact pure_rowCl _ _ | exact pure_rowTb _ _ _ | refine And.intro ?_ ?_))); rintro r rfl; try simp -dsimp -implicitDefEqProofs only [go_sem, Nat.reduceBEq, Nat.reduceAdd, Nat.reduceLeDiff, Nat.reduceSub, Int.reduceEq, initE, msC, pkC, ms0, m1, a1, decide_true, Bool.not_true, Bool.not_false, blA, cty_rd])
      | (refine CallE.of (hid2) ?_ ?_ ?_; rotate_left; (· (simp -dsimp -implicitDefEqProofs only [go_sem, Nat.reduceBEq, Nat.reduceAdd, Nat.reduceLeDiff, Nat.reduceSub, Int.reduceEq, initE, msC, pkC, ms0, m1, a1, decide_true, Bool.not_true, Bool.not_false, blA, cty_rd]; done)); rotate_left; (· (rintro r rfl; (repeat' first | exact trivial | exact pure_rowB _ | exact pure_rowO _ | exact pure_rowI _ | exact pure_rowBB _ | exact pure_rowPk _ _ | exact pure_rowSn _ _ | exact pure_rowFd _ _ | exact pure_rowBBB _ | exact pure_rowCl _ _ | exact pure_rowTb _ _ _ | refine And.intro ?_ ?_))); rintro r rfl; try simp -dsimp -implicitDefEqProofs only [go_sem, Nat.reduceBEq, Nat.reduceAdd, Nat.reduceLeDiff, Nat.reduceSub, Int.reduceEq, initE, msC, pkC, ms0, m1, a1, decide_true, Bool.not_true, Bool.not_false, blA, cty_rd])
      | (refine CallE.of (hie3 (by omega)) ?_ ?_ ?_; rotate_left; (· (simp -dsimp -implicitDefEqProofs only [go_sem, Nat.reduceBEq, Nat.reduceAdd, Nat.reduceLeDiff, Nat.reduceSub, Int.reduceEq, initE, msC, pkC, ms0, m1, a1, decide_true, Bool.not_true, Bool.not_false, blA, cty_rd]; done)); rotate_left; (· (rintro r rfl; (repeat' first | exact trivial | exact pure_rowB _ | exact pure_rowO _ | exact pure_rowI _ | exact pure_rowBB _ | exact pure_rowPk _ _ | exact pure_rowSn _ _ | exact pure_rowFd _ _ | exact pure_rowBBB _ | exact pure_rowCl _ _ | exact pure_rowTb _ _ _ | refine And.intro ?_ ?_))); rintro r rfl; try simp -dsimp -implicitDefEqProofs only [go_sem, Nat.reduceBEq, Nat.reduceAdd, Nat.reduceLeDiff, Nat.reduceSub, Int.reduceEq, initE, msC, pkC, ms0, m1, a1, decide_true, Bool.not_true, Bool.not_false, blA, cty_rd])
      | (refine CallE.of (hie4 (by omega)) ?_ ?_ ?_; rotate_left; (· (simp -dsimp -implicitDefEqProofs only [go_sem, Nat.reduceBEq, Nat.reduceAdd, Nat.reduceLeDiff, Nat.reduceSub, Int.reduceEq, initE, msC, pkC, ms0, m1, a1, decide_true, Bool.not_true, Bool.not_false, blA, cty_rd]; done)); rotate_left; (· (rintro r rfl; (repeat' first | exact trivial | exact pure_rowB _ | exact pure_rowO _ | exact pure_rowI _ | exact pure_rowBB _ | exact pure_rowPk _ _ | exact pure_rowSn _ _ | exact pure_rowFd _ _ | exact pure_rowBBB _ | exact pure_rowCl _ _ | exact pure_rowTb _ _ _ | refine And.intro ?_ ?_))); rintro r rfl; try simp -dsimp -implicitDefEqProofs only [go_sem, Nat.reduceBEq, Nat.reduceAdd, Nat.reduceLeDiff, Nat.reduceSub, Int.reduceEq, initE, msC, pkC, ms0, m1, a1, decide_true, Bool.not_true, Bool.not_false, blA, cty_rd])
      | (with_reducible refine ask.of (flat_bytes _) ?_)
      | ((with_reducible refine ifB'.of (fun hc => ?_) (fun hc => ?_)) <;> first | (exfalso; omega) | skip)
      | with_reducible refine ifB'.no (by omega) ?_
      | simp -dsimp -implicitDefEqProofs only [go_sem, Nat.reduceBEq, Nat.reduceAdd, Nat.reduceLeDiff, Nat.reduceSub, Int.reduceEq, initE, msC, pkC, ms0, m1, a1, decide_true, Bool.not_true, Bool.not_false, blA, cty_rd]
      | (rcases her with ⟨rfl, hev, hml⟩ | rfl)
      | (rcases her2 with ⟨rfl, heq, hql⟩ | rfl))
  · refine Meets.intro mixed (hint []) Try.func4 rfl (by decide) res_4 rty_4 (by kernel_rfl) ?_; 
    simp -dsimp -implicitDefEqProofs only [go_sem, Nat.reduceBEq, Nat.reduceAdd, Nat.reduceLeDiff, Nat.reduceSub, Int.reduceEq, initE]
    repeat' (first | with_reducible refine ask.of (by first | omega | decide) ?_ | ((with_reducible refine ifB'.of (fun h => ?_) (fun h => ?_)) <;> first | (exfalso; omega) | skip) | simp -dsimp -implicitDefEqProofs only [go_sem, Nat.reduceBEq, Nat.reduceAdd, Nat.reduceLeDiff, Nat.reduceSub, Int.reduceEq, initE])
end Go.Ev
