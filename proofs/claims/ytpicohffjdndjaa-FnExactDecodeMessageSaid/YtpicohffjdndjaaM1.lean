/- Contracts: messages as bytes. -/
import Derived.Test.YtpicohffjdndjaaE1
import Derived.Test.YtpicohffjdndjaaE2
import Derived.Test.YtpicohffjdndjaaP2
set_option linter.unusedSimpArgs false
set_option linter.unusedVariables false
namespace Go.Ev
open Go Go.RowKit Go.Proofs
structure Ms where
  k : Int
  f : Int
  n : Int
  bs : List (List UInt8)
def msC (x : Ms) : List AV := [.v (.int .i64 x.k), .v (.int .i64 x.f), .v (.int .i64 x.n), .row 37 1 (ra byC x.bs)]
theorem bleM (n : Nat) : Nat.ble n n = true := by simp
theorem c_szMessage (x : Ms) (left : Nat) (hl : left ≤ 1048576) (hx : x.bs.length ≤ 140737488355328) (hb : ∀ b ∈ x.bs, b.length ≤ 140737488355328) : Meets Try.prog 55 [.agg (msC x), .v (.int .i64 left)] (fun r => r = .v (.int .i64 (szR left (x.bs.length + wBB x.bs)))) := by
  refine Meets.intro mixed (hint []) Try.func55 rfl (by decide) res_55 rty_55 (by kernel_rfl) ?_; 
  simp -dsimp -implicitDefEqProofs only [go_sem, Nat.reduceBEq, Nat.reduceAdd, Nat.reduceLeDiff, Nat.reduceSub, Int.reduceEq, msC]
  repeat (first | with_reducible refine ask.of (by omega) ?_ | simp -dsimp -implicitDefEqProofs only [go_sem, Nat.reduceBEq, Nat.reduceAdd, Nat.reduceLeDiff, Nat.reduceSub, Int.reduceEq, bleM])
  refine CallE.of (c_szByteSS x.bs left hl hx hb) (by rintro r rfl; (repeat' first | exact trivial | exact pure_rowB _ | exact pure_rowO _ | exact pure_rowI _ | exact pure_rowBB _ | exact pure_rowPk _ _ | exact pure_rowSn _ _ | exact pure_rowFd _ _ | exact pure_rowCl _ _ | refine And.intro ?_ ?_)) (by simp -dsimp -implicitDefEqProofs only [go_sem, Nat.reduceBEq, Nat.reduceAdd, Nat.reduceLeDiff, Nat.reduceSub, Int.reduceEq]) ?_
  rintro r rfl
  simp -dsimp -implicitDefEqProofs only [go_sem, Nat.reduceBEq, Nat.reduceAdd, Nat.reduceLeDiff, Nat.reduceSub, Int.reduceEq]
  by_cases h2 : x.bs.length + wBB x.bs ≤ left
  · rw [szR_ok h2]
    refine ifB'.of (fun h => by omega) (fun h => ?_)
    simp -dsimp -implicitDefEqProofs only [go_sem, Nat.reduceBEq, Nat.reduceAdd, Nat.reduceLeDiff, Nat.reduceSub, Int.reduceEq]
  · rw [szR_no h2]
    simp -dsimp -implicitDefEqProofs only [go_sem, Nat.reduceBEq, Nat.reduceAdd, Nat.reduceLeDiff, Nat.reduceSub, Int.reduceEq, show decide ((-1 : Int) < 0) = true from rfl]
theorem c_toMessage (x : Ms) (hx : x.bs.length ≤ 1048576) (hb : ∀ b ∈ x.bs, b.length ≤ 1048576) : Meets Try.prog 57 [.agg (msC x)] (fun r => r = .agg (msC x)) := by
  refine Meets.intro mixed (hint []) Try.func57 rfl (by decide) res_57 rty_57 (by kernel_rfl) ?_; 
  simp -dsimp -implicitDefEqProofs only [go_sem, Nat.reduceBEq, Nat.reduceAdd, Nat.reduceLeDiff, Nat.reduceSub, Int.reduceEq, msC]
  repeat (first | with_reducible refine ask.of (by omega) ?_ | simp -dsimp -implicitDefEqProofs only [go_sem, Nat.reduceBEq, Nat.reduceAdd, Nat.reduceLeDiff, Nat.reduceSub, Int.reduceEq, bleM])
  refine CallE.of (c_toByteSS x.bs hx hb) (by rintro r rfl; (repeat' first | exact trivial | exact pure_rowB _ | exact pure_rowO _ | exact pure_rowI _ | exact pure_rowBB _ | exact pure_rowPk _ _ | exact pure_rowSn _ _ | exact pure_rowFd _ _ | exact pure_rowCl _ _ | refine And.intro ?_ ?_)) (by simp -dsimp -implicitDefEqProofs only [go_sem, Nat.reduceBEq, Nat.reduceAdd, Nat.reduceLeDiff, Nat.reduceSub, Int.reduceEq]) ?_
  rintro r rfl
  simp -dsimp -implicitDefEqProofs only [go_sem, Nat.reduceBEq, Nat.reduceAdd, Nat.reduceLeDiff, Nat.reduceSub, Int.reduceEq]
  repeat (first | with_reducible refine ask.of (by omega) ?_ | simp -dsimp -implicitDefEqProofs only [go_sem, Nat.reduceBEq, Nat.reduceAdd, Nat.reduceLeDiff, Nat.reduceSub, Int.reduceEq, bleM])
theorem c_eqMessage (x : Ms) (hx : x.bs.length ≤ 1048576) (hb : ∀ b ∈ x.bs, b.length ≤ 1048576) : Meets Try.prog 59 [.agg (msC x), .agg (msC x)] (fun r => r = .v (.bool true)) := by
  refine Meets.intro mixed (hint []) Try.func59 rfl (by decide) res_59 rty_59 (by kernel_rfl) ?_; 
  simp -dsimp -implicitDefEqProofs only [go_sem, Nat.reduceBEq, Nat.reduceAdd, Nat.reduceLeDiff, Nat.reduceSub, Int.reduceEq, msC, decide_true]
  repeat (first | with_reducible refine ask.of (by omega) ?_ | simp -dsimp -implicitDefEqProofs only [go_sem, Nat.reduceBEq, Nat.reduceAdd, Nat.reduceLeDiff, Nat.reduceSub, Int.reduceEq, bleM, decide_true])
  refine CallE.of (c_eqByteSS x.bs (by omega) (fun b h => by have := hb b h; omega)) (by rintro r rfl; (repeat' first | exact trivial | exact pure_rowB _ | exact pure_rowO _ | exact pure_rowI _ | exact pure_rowBB _ | exact pure_rowPk _ _ | exact pure_rowSn _ _ | exact pure_rowFd _ _ | exact pure_rowCl _ _ | refine And.intro ?_ ?_)) (by simp -dsimp -implicitDefEqProofs only [go_sem, Nat.reduceBEq, Nat.reduceAdd, Nat.reduceLeDiff, Nat.reduceSub, Int.reduceEq, Bool.not_true]) ?_
  rintro r rfl
  simp -dsimp -implicitDefEqProofs only [go_sem, Nat.reduceBEq, Nat.reduceAdd, Nat.reduceLeDiff, Nat.reduceSub, Int.reduceEq, Bool.not_true]
  try repeat (first | with_reducible refine ask.of (by omega) ?_ | trivial)
def mkMs (k : Nat) (x : Ms) : Ms := { x with bs := mkBB k x.bs }
theorem c_markMessage (x : Ms) (k : Nat) (hk : k + wBB x.bs ≤ 4611686018427387904) (hx : x.bs.length ≤ 1048576) (hb : ∀ b ∈ x.bs, b.length ≤ 1048576) : MeetsM Try.prog 60 [.mu (.agg (msC x)), .rd (.v (.int .i64 k))] (fun r rs => r = .v (.int .i64 ((k + wBB x.bs : Nat) : Int)) ∧ rs = [.agg (msC (mkMs k x)), .any]) := by
  refine MeetsM.intro mixed (hint []) Try.func60 rfl (by decide) res_60 rty_60 (pts := parTys Try.prog 60) (by rw [par_60]; rfl) (by kernel_rfl) ?_; rw [par_60]; intro vals; 
  simp -dsimp -implicitDefEqProofs only [go_sem, Nat.reduceBEq, Nat.reduceAdd, Nat.reduceLeDiff, Nat.reduceSub, Int.reduceEq, msC]
  repeat (first | with_reducible refine ask.of (by omega) ?_ | simp -dsimp -implicitDefEqProofs only [go_sem, Nat.reduceBEq, Nat.reduceAdd, Nat.reduceLeDiff, Nat.reduceSub, Int.reduceEq, bleM])
  refine CallE.mut (c_markByteSS x.bs k hk (by omega) (fun b h => by have := hb b h; omega)) (by simp -dsimp -implicitDefEqProofs only [go_sem, Nat.reduceBEq, Nat.reduceAdd, Nat.reduceLeDiff, Nat.reduceSub, Int.reduceEq]) (by rintro r rs ⟨rfl, rfl⟩; exact ⟨by (repeat' first | exact trivial | exact pure_rowB _ | exact pure_rowO _ | exact pure_rowI _ | exact pure_rowBB _ | exact pure_rowPk _ _ | exact pure_rowSn _ _ | exact pure_rowFd _ _ | exact pure_rowCl _ _ | refine And.intro ?_ ?_), by first | exact ⟨by (repeat' first | exact trivial | exact pure_rowB _ | exact pure_rowO _ | exact pure_rowI _ | exact pure_rowBB _ | exact pure_rowPk _ _ | exact pure_rowSn _ _ | exact pure_rowFd _ _ | exact pure_rowCl _ _ | refine And.intro ?_ ?_), trivial⟩ | exact ⟨by (repeat' first | exact trivial | exact pure_rowB _ | exact pure_rowO _ | exact pure_rowI _ | exact pure_rowBB _ | exact pure_rowPk _ _ | exact pure_rowSn _ _ | exact pure_rowFd _ _ | exact pure_rowCl _ _ | refine And.intro ?_ ?_), trivial, trivial⟩⟩) (by simp -dsimp -implicitDefEqProofs only [go_sem, Nat.reduceBEq, Nat.reduceAdd, Nat.reduceLeDiff, Nat.reduceSub, Int.reduceEq, msC]) (by simp -dsimp -implicitDefEqProofs only [go_sem, Nat.reduceBEq, Nat.reduceAdd, Nat.reduceLeDiff, Nat.reduceSub, Int.reduceEq, msC]) ?_
  rintro r rs ⟨rfl, rfl⟩
  simp -dsimp -implicitDefEqProofs only [go_sem, Nat.reduceBEq, Nat.reduceAdd, Nat.reduceLeDiff, Nat.reduceSub, Int.reduceEq, msC]
  rfl
theorem c_heldMessage (x : Ms) (k : Nat) (hk : k + wBB x.bs ≤ 4611686018427387904) (hx : x.bs.length ≤ 1048576) (hb : ∀ b ∈ x.bs, b.length ≤ 1048576) : Meets Try.prog 68 [.agg (msC (mkMs k x)), .v (.int .i64 k)] (fun r => r = .v (.int .i64 ((k + wBB x.bs : Nat) : Int))) := by
  refine Meets.intro mixed (hint []) Try.func68 rfl (by decide) res_68 rty_68 (by kernel_rfl) ?_; 
  simp -dsimp -implicitDefEqProofs only [go_sem, Nat.reduceBEq, Nat.reduceAdd, Nat.reduceLeDiff, Nat.reduceSub, Int.reduceEq, msC, mkMs]
  repeat (first | with_reducible refine ask.of (by omega) ?_ | simp -dsimp -implicitDefEqProofs only [go_sem, Nat.reduceBEq, Nat.reduceAdd, Nat.reduceLeDiff, Nat.reduceSub, Int.reduceEq, bleM])
  refine CallE.of (c_heldByteSS x.bs k hk (by omega) (fun b h => by have := hb b h; omega)) (by rintro r rfl; (repeat' first | exact trivial | exact pure_rowB _ | exact pure_rowO _ | exact pure_rowI _ | exact pure_rowBB _ | exact pure_rowPk _ _ | exact pure_rowSn _ _ | exact pure_rowFd _ _ | exact pure_rowCl _ _ | refine And.intro ?_ ?_)) (by simp -dsimp -implicitDefEqProofs only [go_sem, Nat.reduceBEq, Nat.reduceAdd, Nat.reduceLeDiff, Nat.reduceSub, Int.reduceEq]) ?_
  rintro r rfl
  simp -dsimp -implicitDefEqProofs only [go_sem, Nat.reduceBEq, Nat.reduceAdd, Nat.reduceLeDiff, Nat.reduceSub, Int.reduceEq]
  refine ifB'.of (fun h => by omega) (fun h => ?_)
  simp -dsimp -implicitDefEqProofs only [go_sem, Nat.reduceBEq, Nat.reduceAdd, Nat.reduceLeDiff, Nat.reduceSub, Int.reduceEq]
/-! ### what a message is in bytes -/
def msOk (x : Ms) : Prop := 1 ≤ x.k ∧ x.k ≤ 4 ∧ 0 ≤ x.f ∧ x.f < 12 ∧ 0 ≤ x.n ∧ x.n ≤ 1000 ∧ x.bs.length ≤ 40 ∧ (x.f = 0 ∨ x.k = 2 ∨ x.k = 3)
instance (x : Ms) : Decidable (msOk x) := by unfold msOk; infer_instance
def lensB (bs : List (List UInt8)) : List UInt8 := bs.flatMap fun b => leB 4 b.length
theorem lensB_length (bs : List (List UInt8)) : (lensB bs).length = 4 * bs.length := by
  induction bs with
  | nil => rfl
  | cons b bs ih => rw [lensB, List.flatMap_cons, List.length_append, leB_length, List.length_cons]; rw [lensB] at ih; omega
theorem lensB_succ {bs : List (List UInt8)} {i : Nat} (h : i < bs.length) : lensB (bs.take i) ++ leB 4 bs[i].length = lensB (bs.take (i + 1)) := by
  rw [List.take_succ_eq_append_getElem h, lensB, lensB, List.flatMap_append]; simp
def headB (x : Ms) : List UInt8 := [67, 77, UInt8.ofNat x.k.toNat, UInt8.ofNat x.f.toNat, UInt8.ofNat (x.n.toNat % 256), UInt8.ofNat (x.n.toNat / 256 % 256), UInt8.ofNat x.bs.length, 0]
def msBody (x : Ms) : List UInt8 := sumB [headB x, joinA (lensB x.bs :: x.bs)]
def msGood (x : Ms) : Prop := msOk x ∧ wBB x.bs ≤ 20000 ∧ (msBody x).length ≤ 20000
instance (x : Ms) : Decidable (msGood x) := by unfold msGood; infer_instance
def encM (x : Ms) : List UInt8 := if msGood x then msBody x else []
theorem encM_no {x : Ms} (h : ¬ msGood x) : encM x = [] := if_neg h
theorem encM_yes {x : Ms} (h : msGood x) : encM x = msBody x := if_pos h
theorem encM_le (x : Ms) : (encM x).length ≤ 20000 := by
  unfold encM
  split
  · rename_i h; exact h.2.2
  · simp
theorem joinA_len (xs : List (List UInt8)) : (joinA xs).length ≤ wBB xs + 7 * xs.length := by
  have := joinA_le xs xs.length (Nat.le_refl _)
  rw [List.take_length] at this
  exact this
theorem ms_b1 {x : Ms} (h : msOk x) : IntKind.u8.wrap x.k = ((UInt8.ofNat x.k.toNat).toNat : Int) := by
  obtain ⟨n, hn⟩ := Int.eq_ofNat_of_zero_le (show 0 ≤ x.k by have := h.1; omega)
  rw [hn]; exact u8_of_nat n
theorem ms_b2 {x : Ms} (h : msOk x) : IntKind.u8.wrap x.f = ((UInt8.ofNat x.f.toNat).toNat : Int) := by
  obtain ⟨n, hn⟩ := Int.eq_ofNat_of_zero_le (show 0 ≤ x.f by have := h.2.2.1; omega)
  rw [hn]; exact u8_of_nat n
theorem ms_b3 {x : Ms} (h : msOk x) : IntKind.u8.wrap x.n = ((UInt8.ofNat (x.n.toNat % 256)).toNat : Int) := by
  obtain ⟨n, hn⟩ := Int.eq_ofNat_of_zero_le (show 0 ≤ x.n by have := h.2.2.2.2.1; omega)
  rw [hn, u8_of_nat n]; simp
theorem ms_b4 {x : Ms} (h : msOk x) : IntKind.u8.wrap (x.n.fdiv (2 ^ min (Int.toNat 8) 64)) = ((UInt8.ofNat (x.n.toNat / 256 % 256)).toNat : Int) := by
  obtain ⟨n, hn⟩ := Int.eq_ofNat_of_zero_le (show 0 ≤ x.n by have := h.2.2.2.2.1; omega)
  rw [hn, show (2 : Int) ^ min (Int.toNat 8) 64 = 256 from rfl, Int.fdiv_eq_ediv_of_nonneg _ (by decide), show ((n : Int) / 256) = ((n / 256 : Nat) : Int) by omega, u8_of_nat]
  simp
theorem leB2 {x : Ms} (h : msOk x) : leB 2 x.n = [UInt8.ofNat (x.n.toNat % 256), UInt8.ofNat (x.n.toNat / 256 % 256)] := by
  have h1 := h.2.2.2.2.1
  have h2 := h.2.2.2.2.2.1
  have e : uN x.n = x.n.toNat := by unfold uN; omega
  simp [leB, e, List.range_succ]
theorem ms_good {x : Ms} (h : msOk x) (hw : wBB x.bs ≤ 20000) : (lensB x.bs :: x.bs).length + wBB (lensB x.bs :: x.bs) ≤ 20400 := by
  have h1 := h.2.2.2.2.2.2.1
  have : wBB (lensB x.bs :: x.bs) = 4 * x.bs.length + wBB x.bs := by simp [wBB, szL, lensB_length]
  rw [this, List.length_cons]; omega
end Go.Ev
