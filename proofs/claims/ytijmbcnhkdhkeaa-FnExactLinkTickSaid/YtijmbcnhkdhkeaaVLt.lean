/- FnExactLinkTick: the law's contract. -/
import Derived.Test.YtijmbcnhkdhkeaaK3
import Derived.Test.YtijmbcnhkdhkeaaK4
set_option linter.unusedSimpArgs false
set_option linter.unusedVariables false
namespace Go.Ev
open Go Go.RowKit Go.Proofs
theorem szSn_len (xs : List Sn) : szL szSn xs = 6 * xs.length + szL snW xs := by
  induction xs with
  | nil => rfl
  | cons x xs ih => simp only [szL, List.map_cons, List.sum_cons, List.length_cons, szSn, snW] at ih ⊢; omega
theorem snW_mem {xs : List Sn} {b : Sn} (h : b ∈ xs) : b.p.f.length ≤ szL snW xs := by
  induction xs with
  | nil => cases h
  | cons x xs ih =>
    simp only [szL, List.map_cons, List.sum_cons, snW] at ih ⊢
    rcases List.mem_cons.1 h with rfl | h
    · omega
    · have := ih h; omega
theorem tkS_p (now : Int) (s : Sn) : (tkS now s).p = s.p := by unfold tkS; cases dueB now s <;> rfl
theorem tkH_w (now : Int) (n : Nat) (h : List Sn) : szL snW (tkH now n h) = szL snW h := by
  have e : (tkH now n h).map snW = h.map snW := by
    have : (snW ∘ tkS now) = snW := funext fun s => congrArg (fun p : Pk => p.f.length) (tkS_p now s)
    rw [tkH, List.map_append, List.map_map, this, ← List.map_append, List.take_append_drop]
  unfold szL; rw [e]
theorem enc_le {o : List (List UInt8)} {now : Int} {n : Nat} {h : List Sn} (ho : o = tkO now n h) {m : Nat} (hm : ∀ b ∈ h, b.p.f.length ≤ m) : ∀ b ∈ o, b.length ≤ 25 + m := by
  subst ho
  intro b hb
  obtain ⟨s, hs, rfl⟩ := List.mem_map.1 hb
  have h1 := List.mem_of_mem_take (List.mem_filter.1 hs).1
  have := hm s h1
  have := encP_le s.p
  omega
theorem wBB_le {o : List (List UInt8)} {m : Nat} (h : ∀ b ∈ o, b.length ≤ m) : wBB o ≤ o.length * m := by
  induction o with
  | nil => simp [wBB, szL]
  | cons b o ih =>
    have h1 := h b List.mem_cons_self
    have h2 := ih fun c hc => h c (List.mem_cons_of_mem _ hc)
    simp only [wBB, szL, List.map_cons, List.sum_cons, List.length_cons, Nat.succ_mul] at h2 ⊢
    omega
theorem tickL_b (x : LO) (hw : x.h.length + szL snW x.h ≤ 1048576) : ((tickL x).1.h.length ≤ 1048576 ∧ szL snW (tickL x).1.h ≤ 1048576) ∧ (tickL x).2.1.length ≤ 8 ∧ (∀ b ∈ (tickL x).2.1, b.length ≤ 25 + 1048576) := by
  by_cases h : okLO x
  · by_cases h2 : x.c = 1000000000
    · rw [tickL_end h h2]; exact ⟨⟨by show x.h.length ≤ _; omega, by show szL snW x.h ≤ _; omega⟩, Nat.zero_le _, fun b hb => by cases hb⟩
    · rw [tickL_yes h h2]
      refine ⟨⟨by show (tkH _ _ _).length ≤ _; rw [tkH_len]; omega, by show szL snW (tkH _ _ _) ≤ _; rw [tkH_w]; omega⟩, by have := tkO_len (x.c + 1) (min 8 x.h.length) x.h; show (tkO _ _ _).length ≤ 8; omega, enc_le rfl fun b hb => ?_⟩
      have := snW_mem hb; omega
  · rw [tickL_no h]; exact ⟨⟨Nat.zero_le _, Nat.zero_le _⟩, Nat.zero_le _, fun b hb => by cases hb⟩
set_option maxRecDepth 8000 in
set_option maxHeartbeats 4000000 in
theorem c_FnExactLinkTick (x : LO) (hx0 : x.h.length ≤ 140737488355328 ∧ (∀ b ∈ x.h, b.p.f.length ≤ 140737488355328)) : Meets Try.prog 6 [.agg (loC 213 x)] (fun r => r = .v (.bool true)) := by
  refine Meets.introO mixed (hint []) (fun k => (sel (k == 10) [0,1,2,3,4] [])) Try.func6 rfl (by decide) res_6 rty_6 (by kernel_rfl) ?_; 
  simp -dsimp -implicitDefEqProofs only [go_sem, Nat.reduceBEq, Nat.reduceAdd, Nat.reduceLeDiff, Nat.reduceSub, Int.reduceEq, loC, initE]
  repeat (first | with_reducible refine ask.of (by omega) ?_ | simp -dsimp -implicitDefEqProofs only [go_sem, Nat.reduceBEq, Nat.reduceAdd, Nat.reduceLeDiff, Nat.reduceSub, Int.reduceEq, bleR, bl4, initE])
  refine CallE.of (c_szLinkOut x 1048576 (by omega) hx0.1 hx0.2) (by rintro r rfl; (repeat' first | exact trivial | exact pure_rowB _ | exact pure_rowO _ | exact pure_rowI _ | exact pure_rowBB _ | exact pure_rowPk _ _ | exact pure_rowSn _ _ | exact pure_rowFd _ _ | exact pure_rowBBB _ | exact pure_rowCl _ _ | refine And.intro ?_ ?_)) (by simp -dsimp -implicitDefEqProofs only [go_sem, Nat.reduceBEq, Nat.reduceAdd, Nat.reduceLeDiff, Nat.reduceSub, Int.reduceEq, loC]) ?_
  rintro r rfl
  simp -dsimp -implicitDefEqProofs only [go_sem, Nat.reduceBEq, Nat.reduceAdd, Nat.reduceLeDiff, Nat.reduceSub, Int.reduceEq, loC]
  refine ifB'.of (fun h => ?_) (fun h => ?_)
  · simp -dsimp -implicitDefEqProofs only [go_sem, Nat.reduceBEq, Nat.reduceAdd, Nat.reduceLeDiff, Nat.reduceSub, Int.reduceEq]
  have hw : x.h.length + szL snW x.h ≤ 1048576 := Classical.byContradiction fun h' => h (by rw [szR_no (by unfold loW; omega)]; decide)
  have hx : x.h.length ≤ 1048576 := by omega
  have hb : ∀ b ∈ x.h, b.p.f.length ≤ 1048576 := fun b hb => by have := snW_mem hb; omega
  have hs := c_specLinkTick x hx hb
  have hi := c_implLinkTick x hx hb
  have hbd := tickL_b x hw
  have hsz := szSn_len x.h
  unfold resT at hs hi
  generalize tickL x = yc at *
  obtain ⟨y, o, c⟩ := yc
  simp only at hs hi hbd
  have hy : y.h.length ≤ 1048576 := by omega
  have hyb : ∀ b ∈ y.h, b.p.f.length ≤ 1048576 := fun b h => by have := snW_mem h; omega
  have hysz := szSn_len y.h
  have ho : o.length ≤ 8 := hbd.2.1
  have hob : ∀ b ∈ o, b.length ≤ 8388608 := fun b h => by have := hbd.2.2 b h; omega
  have how := wBB_le hob
  repeat' (first
    | with_reducible refine ask.of (by omega) ?_
    | (refine CallE.of (hs) ?_ ?_ ?_; rotate_left; (· (simp -dsimp -implicitDefEqProofs only [go_sem, Nat.reduceBEq, Nat.reduceAdd, Nat.reduceLeDiff, Nat.reduceSub, Int.reduceEq, loC, bleR, bl4, initE, Bool.not_true, decide_true]; done)); rotate_left; (· (rintro r rfl; (repeat' first | exact trivial | exact pure_rowB _ | exact pure_rowO _ | exact pure_rowI _ | exact pure_rowBB _ | exact pure_rowPk _ _ | exact pure_rowSn _ _ | exact pure_rowFd _ _ | exact pure_rowBBB _ | exact pure_rowCl _ _ | refine And.intro ?_ ?_))); rintro r rfl; try simp -dsimp -implicitDefEqProofs only [go_sem, Nat.reduceBEq, Nat.reduceAdd, Nat.reduceLeDiff, Nat.reduceSub, Int.reduceEq, loC, bleR, bl4, initE, Bool.not_true, decide_true])
    | (refine CallE.of (hi) ?_ ?_ ?_; rotate_left; (· (simp -dsimp -implicitDefEqProofs only [go_sem, Nat.reduceBEq, Nat.reduceAdd, Nat.reduceLeDiff, Nat.reduceSub, Int.reduceEq, loC, bleR, bl4, initE, Bool.not_true, decide_true]; done)); rotate_left; (· (rintro r rfl; (repeat' first | exact trivial | exact pure_rowB _ | exact pure_rowO _ | exact pure_rowI _ | exact pure_rowBB _ | exact pure_rowPk _ _ | exact pure_rowSn _ _ | exact pure_rowFd _ _ | exact pure_rowBBB _ | exact pure_rowCl _ _ | refine And.intro ?_ ?_))); rintro r rfl; try simp -dsimp -implicitDefEqProofs only [go_sem, Nat.reduceBEq, Nat.reduceAdd, Nat.reduceLeDiff, Nat.reduceSub, Int.reduceEq, loC, bleR, bl4, initE, Bool.not_true, decide_true])
    | (refine CallE.of (c_toLinkOut x hx hb) ?_ ?_ ?_; rotate_left; (· (simp -dsimp -implicitDefEqProofs only [go_sem, Nat.reduceBEq, Nat.reduceAdd, Nat.reduceLeDiff, Nat.reduceSub, Int.reduceEq, loC, bleR, bl4, initE, Bool.not_true, decide_true]; done)); rotate_left; (· (rintro r rfl; (repeat' first | exact trivial | exact pure_rowB _ | exact pure_rowO _ | exact pure_rowI _ | exact pure_rowBB _ | exact pure_rowPk _ _ | exact pure_rowSn _ _ | exact pure_rowFd _ _ | exact pure_rowBBB _ | exact pure_rowCl _ _ | refine And.intro ?_ ?_))); rintro r rfl; try simp -dsimp -implicitDefEqProofs only [go_sem, Nat.reduceBEq, Nat.reduceAdd, Nat.reduceLeDiff, Nat.reduceSub, Int.reduceEq, loC, bleR, bl4, initE, Bool.not_true, decide_true])
    | (refine CallE.of (c_eqLinkOut y hy hyb) ?_ ?_ ?_; rotate_left; (· (simp -dsimp -implicitDefEqProofs only [go_sem, Nat.reduceBEq, Nat.reduceAdd, Nat.reduceLeDiff, Nat.reduceSub, Int.reduceEq, loC, bleR, bl4, initE, Bool.not_true, decide_true]; done)); rotate_left; (· (rintro r rfl; (repeat' first | exact trivial | exact pure_rowB _ | exact pure_rowO _ | exact pure_rowI _ | exact pure_rowBB _ | exact pure_rowPk _ _ | exact pure_rowSn _ _ | exact pure_rowFd _ _ | exact pure_rowBBB _ | exact pure_rowCl _ _ | refine And.intro ?_ ?_))); rintro r rfl; try simp -dsimp -implicitDefEqProofs only [go_sem, Nat.reduceBEq, Nat.reduceAdd, Nat.reduceLeDiff, Nat.reduceSub, Int.reduceEq, loC, bleR, bl4, initE, Bool.not_true, decide_true])
    | (refine CallE.of (c_eqLinkOut x hx hb) ?_ ?_ ?_; rotate_left; (· (simp -dsimp -implicitDefEqProofs only [go_sem, Nat.reduceBEq, Nat.reduceAdd, Nat.reduceLeDiff, Nat.reduceSub, Int.reduceEq, loC, bleR, bl4, initE, Bool.not_true, decide_true]; done)); rotate_left; (· (rintro r rfl; (repeat' first | exact trivial | exact pure_rowB _ | exact pure_rowO _ | exact pure_rowI _ | exact pure_rowBB _ | exact pure_rowPk _ _ | exact pure_rowSn _ _ | exact pure_rowFd _ _ | exact pure_rowBBB _ | exact pure_rowCl _ _ | refine And.intro ?_ ?_))); rintro r rfl; try simp -dsimp -implicitDefEqProofs only [go_sem, Nat.reduceBEq, Nat.reduceAdd, Nat.reduceLeDiff, Nat.reduceSub, Int.reduceEq, loC, bleR, bl4, initE, Bool.not_true, decide_true])
    | (refine CallE.of (c_eqByteSS o (by omega) hob) ?_ ?_ ?_; rotate_left; (· (simp -dsimp -implicitDefEqProofs only [go_sem, Nat.reduceBEq, Nat.reduceAdd, Nat.reduceLeDiff, Nat.reduceSub, Int.reduceEq, loC, bleR, bl4, initE, Bool.not_true, decide_true]; done)); rotate_left; (· (rintro r rfl; (repeat' first | exact trivial | exact pure_rowB _ | exact pure_rowO _ | exact pure_rowI _ | exact pure_rowBB _ | exact pure_rowPk _ _ | exact pure_rowSn _ _ | exact pure_rowFd _ _ | exact pure_rowBBB _ | exact pure_rowCl _ _ | refine And.intro ?_ ?_))); rintro r rfl; try simp -dsimp -implicitDefEqProofs only [go_sem, Nat.reduceBEq, Nat.reduceAdd, Nat.reduceLeDiff, Nat.reduceSub, Int.reduceEq, loC, bleR, bl4, initE, Bool.not_true, decide_true])
    | (refine CallE.mut (c_markLinkOut x 1 (by omega) hx hb) (by simp -dsimp -implicitDefEqProofs only [go_sem, Nat.reduceBEq, Nat.reduceAdd, Nat.reduceLeDiff, Nat.reduceSub, Int.reduceEq]) ?_ ?_ ?_ ?_; rotate_left; (· (simp -dsimp -implicitDefEqProofs only [go_sem, Nat.reduceBEq, Nat.reduceAdd, Nat.reduceLeDiff, Nat.reduceSub, Int.reduceEq, loC, bleR, bl4, initE, Bool.not_true, decide_true]; done)); (· (simp -dsimp -implicitDefEqProofs only [go_sem, Nat.reduceBEq, Nat.reduceAdd, Nat.reduceLeDiff, Nat.reduceSub, Int.reduceEq, loC, bleR, bl4, initE, Bool.not_true, decide_true]; done)); rotate_left; (· (rintro r rs ⟨rfl, rfl⟩; exact ⟨by (repeat' first | exact trivial | exact pure_rowB _ | exact pure_rowO _ | exact pure_rowI _ | exact pure_rowBB _ | exact pure_rowPk _ _ | exact pure_rowSn _ _ | exact pure_rowFd _ _ | exact pure_rowBBB _ | exact pure_rowCl _ _ | refine And.intro ?_ ?_), by first | exact ⟨by (repeat' first | exact trivial | exact pure_rowB _ | exact pure_rowO _ | exact pure_rowI _ | exact pure_rowBB _ | exact pure_rowPk _ _ | exact pure_rowSn _ _ | exact pure_rowFd _ _ | exact pure_rowBBB _ | exact pure_rowCl _ _ | refine And.intro ?_ ?_), trivial⟩ | exact ⟨by (repeat' first | exact trivial | exact pure_rowB _ | exact pure_rowO _ | exact pure_rowI _ | exact pure_rowBB _ | exact pure_rowPk _ _ | exact pure_rowSn _ _ | exact pure_rowFd _ _ | exact pure_rowBBB _ | exact pure_rowCl _ _ | refine And.intro ?_ ?_), trivial, trivial⟩⟩)); rintro r rs ⟨rfl, rfl⟩; try simp -dsimp -implicitDefEqProofs only [go_sem, Nat.reduceBEq, Nat.reduceAdd, Nat.reduceLeDiff, Nat.reduceSub, Int.reduceEq, loC, bleR, bl4, initE, Bool.not_true, decide_true])
    | (refine CallE.mut (c_markLinkOut y 1 (by omega) hy hyb) (by simp -dsimp -implicitDefEqProofs only [go_sem, Nat.reduceBEq, Nat.reduceAdd, Nat.reduceLeDiff, Nat.reduceSub, Int.reduceEq]) ?_ ?_ ?_ ?_; rotate_left; (· (simp -dsimp -implicitDefEqProofs only [go_sem, Nat.reduceBEq, Nat.reduceAdd, Nat.reduceLeDiff, Nat.reduceSub, Int.reduceEq, loC, bleR, bl4, initE, Bool.not_true, decide_true]; done)); (· (simp -dsimp -implicitDefEqProofs only [go_sem, Nat.reduceBEq, Nat.reduceAdd, Nat.reduceLeDiff, Nat.reduceSub, Int.reduceEq, loC, bleR, bl4, initE, Bool.not_true, decide_true]; done)); rotate_left; (· (rintro r rs ⟨rfl, rfl⟩; exact ⟨by (repeat' first | exact trivial | exact pure_rowB _ | exact pure_rowO _ | exact pure_rowI _ | exact pure_rowBB _ | exact pure_rowPk _ _ | exact pure_rowSn _ _ | exact pure_rowFd _ _ | exact pure_rowBBB _ | exact pure_rowCl _ _ | refine And.intro ?_ ?_), by first | exact ⟨by (repeat' first | exact trivial | exact pure_rowB _ | exact pure_rowO _ | exact pure_rowI _ | exact pure_rowBB _ | exact pure_rowPk _ _ | exact pure_rowSn _ _ | exact pure_rowFd _ _ | exact pure_rowBBB _ | exact pure_rowCl _ _ | refine And.intro ?_ ?_), trivial⟩ | exact ⟨by (repeat' first | exact trivial | exact pure_rowB _ | exact pure_rowO _ | exact pure_rowI _ | exact pure_rowBB _ | exact pure_rowPk _ _ | exact pure_rowSn _ _ | exact pure_rowFd _ _ | exact pure_rowBBB _ | exact pure_rowCl _ _ | refine And.intro ?_ ?_), trivial, trivial⟩⟩)); rintro r rs ⟨rfl, rfl⟩; try simp -dsimp -implicitDefEqProofs only [go_sem, Nat.reduceBEq, Nat.reduceAdd, Nat.reduceLeDiff, Nat.reduceSub, Int.reduceEq, loC, bleR, bl4, initE, Bool.not_true, decide_true])
    | (refine CallE.mut (c_markByteSS o (1 + szL szSn y.h) (by omega) (by omega) hob) (by simp -dsimp -implicitDefEqProofs only [go_sem, Nat.reduceBEq, Nat.reduceAdd, Nat.reduceLeDiff, Nat.reduceSub, Int.reduceEq]) ?_ ?_ ?_ ?_; rotate_left; (· (simp -dsimp -implicitDefEqProofs only [go_sem, Nat.reduceBEq, Nat.reduceAdd, Nat.reduceLeDiff, Nat.reduceSub, Int.reduceEq, loC, bleR, bl4, initE, Bool.not_true, decide_true]; done)); (· (simp -dsimp -implicitDefEqProofs only [go_sem, Nat.reduceBEq, Nat.reduceAdd, Nat.reduceLeDiff, Nat.reduceSub, Int.reduceEq, loC, bleR, bl4, initE, Bool.not_true, decide_true]; done)); rotate_left; (· (rintro r rs ⟨rfl, rfl⟩; exact ⟨by (repeat' first | exact trivial | exact pure_rowB _ | exact pure_rowO _ | exact pure_rowI _ | exact pure_rowBB _ | exact pure_rowPk _ _ | exact pure_rowSn _ _ | exact pure_rowFd _ _ | exact pure_rowBBB _ | exact pure_rowCl _ _ | refine And.intro ?_ ?_), by first | exact ⟨by (repeat' first | exact trivial | exact pure_rowB _ | exact pure_rowO _ | exact pure_rowI _ | exact pure_rowBB _ | exact pure_rowPk _ _ | exact pure_rowSn _ _ | exact pure_rowFd _ _ | exact pure_rowBBB _ | exact pure_rowCl _ _ | refine And.intro ?_ ?_), trivial⟩ | exact ⟨by (repeat' first | exact trivial | exact pure_rowB _ | exact pure_rowO _ | exact pure_rowI _ | exact pure_rowBB _ | exact pure_rowPk _ _ | exact pure_rowSn _ _ | exact pure_rowFd _ _ | exact pure_rowBBB _ | exact pure_rowCl _ _ | refine And.intro ?_ ?_), trivial, trivial⟩⟩)); rintro r rs ⟨rfl, rfl⟩; try simp -dsimp -implicitDefEqProofs only [go_sem, Nat.reduceBEq, Nat.reduceAdd, Nat.reduceLeDiff, Nat.reduceSub, Int.reduceEq, loC, bleR, bl4, initE, Bool.not_true, decide_true])
    | (refine CallE.of (c_heldLinkOut y 1 (by omega) hy hyb) ?_ ?_ ?_; rotate_left; (· (simp -dsimp -implicitDefEqProofs only [go_sem, Nat.reduceBEq, Nat.reduceAdd, Nat.reduceLeDiff, Nat.reduceSub, Int.reduceEq, loC, bleR, bl4, initE, Bool.not_true, decide_true]; done)); rotate_left; (· (rintro r rfl; (repeat' first | exact trivial | exact pure_rowB _ | exact pure_rowO _ | exact pure_rowI _ | exact pure_rowBB _ | exact pure_rowPk _ _ | exact pure_rowSn _ _ | exact pure_rowFd _ _ | exact pure_rowBBB _ | exact pure_rowCl _ _ | refine And.intro ?_ ?_))); rintro r rfl; try simp -dsimp -implicitDefEqProofs only [go_sem, Nat.reduceBEq, Nat.reduceAdd, Nat.reduceLeDiff, Nat.reduceSub, Int.reduceEq, loC, bleR, bl4, initE, Bool.not_true, decide_true])
    | (refine CallE.of (c_heldByteSS o (1 + szL szSn y.h) (by omega) (by omega) hob) ?_ ?_ ?_; rotate_left; (· (simp -dsimp -implicitDefEqProofs only [go_sem, Nat.reduceBEq, Nat.reduceAdd, Nat.reduceLeDiff, Nat.reduceSub, Int.reduceEq, loC, bleR, bl4, initE, Bool.not_true, decide_true]; done)); rotate_left; (· (rintro r rfl; (repeat' first | exact trivial | exact pure_rowB _ | exact pure_rowO _ | exact pure_rowI _ | exact pure_rowBB _ | exact pure_rowPk _ _ | exact pure_rowSn _ _ | exact pure_rowFd _ _ | exact pure_rowBBB _ | exact pure_rowCl _ _ | refine And.intro ?_ ?_))); rintro r rfl; try simp -dsimp -implicitDefEqProofs only [go_sem, Nat.reduceBEq, Nat.reduceAdd, Nat.reduceLeDiff, Nat.reduceSub, Int.reduceEq, loC, bleR, bl4, initE, Bool.not_true, decide_true])
    | with_reducible refine ifB'.no (by omega) ?_
    | simp -dsimp -implicitDefEqProofs only [go_sem, Nat.reduceBEq, Nat.reduceAdd, Nat.reduceLeDiff, Nat.reduceSub, Int.reduceEq, loC, bleR, bl4, initE, Bool.not_true, decide_true])
end Go.Ev
