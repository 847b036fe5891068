/- Contracts: a link's far end. -/
import Derived.Test.YtijmbcnhkdhkeaaS2
set_option linter.unusedSimpArgs false
set_option linter.unusedVariables false
namespace Go.Ev
open Go Go.RowKit Go.Proofs
structure LI where
  a : Int
  b : Int
  h : List Pk
  f : List UInt8
def liC (T : Nat) (x : LI) : List AV := [.v (.int .i64 x.a), .v (.int .i64 x.b), .row T 6 (ra pkC x.h), .row 5 1 (bytesA x.f)]
def liW (x : LI) : Nat := x.h.length + szL pkW x.h + x.f.length
theorem mem_szL {α : Type} (W : α → Nat) {xs : List α} {b : α} (h : b ∈ xs) : W b ≤ szL W xs := by
  obtain ⟨i, hi, rfl⟩ := List.mem_iff_getElem.1 h
  have := szL_at_le W hi
  omega
theorem c_szLinkIn (x : LI) (left : Nat) (hl : left ≤ 1048576) (hx : x.h.length ≤ 140737488355328) (hb : ∀ b ∈ x.h, b.f.length ≤ 140737488355328) (hf : x.f.length ≤ 140737488355328) : Meets Try.prog 54 [.agg (liC 87 x), .v (.int .i64 left)] (fun r => r = .v (.int .i64 (szR left (liW x)))) := by
  refine Meets.intro mixed (hint []) Try.func54 rfl (by decide) res_54 rty_54 (by kernel_rfl) ?_; 
  simp -dsimp -implicitDefEqProofs only [go_sem, Nat.reduceBEq, Nat.reduceAdd, Nat.reduceLeDiff, Nat.reduceSub, Int.reduceEq, liC]
  repeat (first | with_reducible refine ask.of (by omega) ?_ | simp -dsimp -implicitDefEqProofs only [go_sem, Nat.reduceBEq, Nat.reduceAdd, Nat.reduceLeDiff, Nat.reduceSub, Int.reduceEq, bleR])
  refine CallE.of (c_szPacketS x.h left hl hx hb) (by rintro r rfl; (repeat' first | exact trivial | exact pure_rowB _ | exact pure_rowO _ | exact pure_rowI _ | exact pure_rowBB _ | exact pure_rowPk _ _ | exact pure_rowSn _ _ | exact pure_rowFd _ _ | exact pure_rowBBB _ | exact pure_rowCl _ _ | refine And.intro ?_ ?_)) (by simp -dsimp -implicitDefEqProofs only [go_sem, Nat.reduceBEq, Nat.reduceAdd, Nat.reduceLeDiff, Nat.reduceSub, Int.reduceEq, rowPk]) ?_
  rintro r rfl
  simp -dsimp -implicitDefEqProofs only [go_sem, Nat.reduceBEq, Nat.reduceAdd, Nat.reduceLeDiff, Nat.reduceSub, Int.reduceEq, rowPk]
  by_cases h2 : x.h.length + szL pkW x.h ≤ left
  · rw [szR_ok h2]
    refine ifB'.of (fun h => by omega) (fun h => ?_)
    repeat (first | with_reducible refine ask.of (by omega) ?_ | simp -dsimp -implicitDefEqProofs only [go_sem, Nat.reduceBEq, Nat.reduceAdd, Nat.reduceLeDiff, Nat.reduceSub, Int.reduceEq, bleR])
    refine CallE.of (c_szByteS x.f (left - (x.h.length + szL pkW x.h)) hf (by omega)) (by rintro r rfl; (repeat' first | exact trivial | exact pure_rowB _ | exact pure_rowO _ | exact pure_rowI _ | exact pure_rowBB _ | exact pure_rowPk _ _ | exact pure_rowSn _ _ | exact pure_rowFd _ _ | exact pure_rowBBB _ | exact pure_rowCl _ _ | refine And.intro ?_ ?_)) (by simp -dsimp -implicitDefEqProofs only [go_sem, Nat.reduceBEq, Nat.reduceAdd, Nat.reduceLeDiff, Nat.reduceSub, Int.reduceEq]) ?_
    rintro r rfl
    simp -dsimp -implicitDefEqProofs only [go_sem, Nat.reduceBEq, Nat.reduceAdd, Nat.reduceLeDiff, Nat.reduceSub, Int.reduceEq]
    by_cases h3 : x.f.length ≤ left - (x.h.length + szL pkW x.h)
    · rw [szR_ok h3]
      refine ifB'.of (fun h => by omega) (fun h => ?_)
      simp -dsimp -implicitDefEqProofs only [go_sem, Nat.reduceBEq, Nat.reduceAdd, Nat.reduceLeDiff, Nat.reduceSub, Int.reduceEq]
      rw [szR_ok (by unfold liW; omega), liW]; omega
    · rw [szR_no h3]
      simp -dsimp -implicitDefEqProofs only [go_sem, Nat.reduceBEq, Nat.reduceAdd, Nat.reduceLeDiff, Nat.reduceSub, Int.reduceEq, show decide ((-1 : Int) < 0) = true from rfl]
      rw [szR_no (by unfold liW; omega)]
  · rw [szR_no h2]
    simp -dsimp -implicitDefEqProofs only [go_sem, Nat.reduceBEq, Nat.reduceAdd, Nat.reduceLeDiff, Nat.reduceSub, Int.reduceEq, show decide ((-1 : Int) < 0) = true from rfl]
    rw [szR_no (by unfold liW; omega)]
theorem c_toLinkIn (x : LI) (hx : x.h.length ≤ 1048576) (hb : ∀ b ∈ x.h, b.f.length ≤ 1048576) (hf : x.f.length ≤ 1048576) : Meets Try.prog 57 [.agg (liC 87 x)] (fun r => r = .agg (liC 96 x)) := by
  refine Meets.intro mixed (hint []) Try.func57 rfl (by decide) res_57 rty_57 (by kernel_rfl) ?_; 
  simp -dsimp -implicitDefEqProofs only [go_sem, Nat.reduceBEq, Nat.reduceAdd, Nat.reduceLeDiff, Nat.reduceSub, Int.reduceEq, liC]
  repeat (first | with_reducible refine ask.of (by omega) ?_ | simp -dsimp -implicitDefEqProofs only [go_sem, Nat.reduceBEq, Nat.reduceAdd, Nat.reduceLeDiff, Nat.reduceSub, Int.reduceEq, bleR])
  refine CallE.of (c_toPacketS x.h hx hb) (by rintro r rfl; (repeat' first | exact trivial | exact pure_rowB _ | exact pure_rowO _ | exact pure_rowI _ | exact pure_rowBB _ | exact pure_rowPk _ _ | exact pure_rowSn _ _ | exact pure_rowFd _ _ | exact pure_rowBBB _ | exact pure_rowCl _ _ | refine And.intro ?_ ?_)) (by simp -dsimp -implicitDefEqProofs only [go_sem, Nat.reduceBEq, Nat.reduceAdd, Nat.reduceLeDiff, Nat.reduceSub, Int.reduceEq, rowPk]) ?_
  rintro r rfl
  simp -dsimp -implicitDefEqProofs only [go_sem, Nat.reduceBEq, Nat.reduceAdd, Nat.reduceLeDiff, Nat.reduceSub, Int.reduceEq, rowPk]
  repeat (first | with_reducible refine ask.of (by omega) ?_ | simp -dsimp -implicitDefEqProofs only [go_sem, Nat.reduceBEq, Nat.reduceAdd, Nat.reduceLeDiff, Nat.reduceSub, Int.reduceEq, bleR])
  refine CallE.of (c_toByteS x.f hf) (by rintro r rfl; (repeat' first | exact trivial | exact pure_rowB _ | exact pure_rowO _ | exact pure_rowI _ | exact pure_rowBB _ | exact pure_rowPk _ _ | exact pure_rowSn _ _ | exact pure_rowFd _ _ | exact pure_rowBBB _ | exact pure_rowCl _ _ | refine And.intro ?_ ?_)) (by simp -dsimp -implicitDefEqProofs only [go_sem, Nat.reduceBEq, Nat.reduceAdd, Nat.reduceLeDiff, Nat.reduceSub, Int.reduceEq, rowPk]) ?_
  rintro r rfl
  simp -dsimp -implicitDefEqProofs only [go_sem, Nat.reduceBEq, Nat.reduceAdd, Nat.reduceLeDiff, Nat.reduceSub, Int.reduceEq, rowPk]
  repeat (first | with_reducible refine ask.of (by omega) ?_ | simp -dsimp -implicitDefEqProofs only [go_sem, Nat.reduceBEq, Nat.reduceAdd, Nat.reduceLeDiff, Nat.reduceSub, Int.reduceEq, bleR])
theorem c_eqLinkIn (x : LI) (hx : x.h.length ≤ 1048576) (hb : ∀ b ∈ x.h, b.f.length ≤ 1048576) (hf : x.f.length ≤ 1048576) : Meets Try.prog 60 [.agg (liC 96 x), .agg (liC 96 x)] (fun r => r = .v (.bool true)) := by
  refine Meets.intro mixed (hint []) Try.func60 rfl (by decide) res_60 rty_60 (by kernel_rfl) ?_; 
  simp -dsimp -implicitDefEqProofs only [go_sem, Nat.reduceBEq, Nat.reduceAdd, Nat.reduceLeDiff, Nat.reduceSub, Int.reduceEq, liC, decide_true]
  repeat (first | with_reducible refine ask.of (by omega) ?_ | simp -dsimp -implicitDefEqProofs only [go_sem, Nat.reduceBEq, Nat.reduceAdd, Nat.reduceLeDiff, Nat.reduceSub, Int.reduceEq, bleR, decide_true])
  refine CallE.of (c_eqPacketS x.h hx hb) (by rintro r rfl; (repeat' first | exact trivial | exact pure_rowB _ | exact pure_rowO _ | exact pure_rowI _ | exact pure_rowBB _ | exact pure_rowPk _ _ | exact pure_rowSn _ _ | exact pure_rowFd _ _ | exact pure_rowBBB _ | exact pure_rowCl _ _ | refine And.intro ?_ ?_)) (by simp -dsimp -implicitDefEqProofs only [go_sem, Nat.reduceBEq, Nat.reduceAdd, Nat.reduceLeDiff, Nat.reduceSub, Int.reduceEq, rowPk, Bool.not_true]) ?_
  rintro r rfl
  simp -dsimp -implicitDefEqProofs only [go_sem, Nat.reduceBEq, Nat.reduceAdd, Nat.reduceLeDiff, Nat.reduceSub, Int.reduceEq, rowPk, Bool.not_true]
  repeat (first | with_reducible refine ask.of (by omega) ?_ | simp -dsimp -implicitDefEqProofs only [go_sem, Nat.reduceBEq, Nat.reduceAdd, Nat.reduceLeDiff, Nat.reduceSub, Int.reduceEq, bleR, decide_true])
  refine CallE.of (c_eqByteS x.f (by omega)) (by rintro r rfl; (repeat' first | exact trivial | exact pure_rowB _ | exact pure_rowO _ | exact pure_rowI _ | exact pure_rowBB _ | exact pure_rowPk _ _ | exact pure_rowSn _ _ | exact pure_rowFd _ _ | exact pure_rowBBB _ | exact pure_rowCl _ _ | refine And.intro ?_ ?_)) (by simp -dsimp -implicitDefEqProofs only [go_sem, Nat.reduceBEq, Nat.reduceAdd, Nat.reduceLeDiff, Nat.reduceSub, Int.reduceEq, Bool.not_true]) ?_
  rintro r rfl
  simp -dsimp -implicitDefEqProofs only [go_sem, Nat.reduceBEq, Nat.reduceAdd, Nat.reduceLeDiff, Nat.reduceSub, Int.reduceEq, Bool.not_true]
theorem c_l5data (p : Pk) (n : Int) (hb : p.f.length ≤ 1048576) : Meets Try.prog 134 [.agg (pkC p), .v (.int .i64 n)] (fun r => r = .v (.bool (okB p && (decide (p.a = 1) && decide (p.b = n))))) := by
  refine Meets.intro mixed (hint []) Try.func134 rfl (by decide) res_134 rty_134 (by kernel_rfl) ?_; 
  simp -dsimp -implicitDefEqProofs only [go_sem, Nat.reduceBEq, Nat.reduceAdd, Nat.reduceLeDiff, Nat.reduceSub, Int.reduceEq, pkC]
  repeat (first | with_reducible refine ask.of (by omega) ?_ | simp -dsimp -implicitDefEqProofs only [go_sem, Nat.reduceBEq, Nat.reduceAdd, Nat.reduceLeDiff, Nat.reduceSub, Int.reduceEq, bleR, decide_true])
  refine CallE.of (c_l5valid p hb) (by rintro r rfl; (repeat' first | exact trivial | exact pure_rowB _ | exact pure_rowO _ | exact pure_rowI _ | exact pure_rowBB _ | exact pure_rowPk _ _ | exact pure_rowSn _ _ | exact pure_rowFd _ _ | exact pure_rowBBB _ | exact pure_rowCl _ _ | refine And.intro ?_ ?_)) (by simp -dsimp -implicitDefEqProofs only [go_sem, Nat.reduceBEq, Nat.reduceAdd, Nat.reduceLeDiff, Nat.reduceSub, Int.reduceEq, pkC]) ?_
  rintro r rfl
  simp -dsimp -implicitDefEqProofs only [go_sem, Nat.reduceBEq, Nat.reduceAdd, Nat.reduceLeDiff, Nat.reduceSub, Int.reduceEq, pkC]
  cases h : okB p
  · simp -dsimp -implicitDefEqProofs only [go_sem, Nat.reduceBEq, Nat.reduceAdd, Nat.reduceLeDiff, Nat.reduceSub, Int.reduceEq, h, Bool.false_and]
  simp -dsimp -implicitDefEqProofs only [go_sem, Nat.reduceBEq, Nat.reduceAdd, Nat.reduceLeDiff, Nat.reduceSub, Int.reduceEq, h, Bool.true_and]
  repeat (first | with_reducible refine ask.of (by omega) ?_ | simp -dsimp -implicitDefEqProofs only [go_sem, Nat.reduceBEq, Nat.reduceAdd, Nat.reduceLeDiff, Nat.reduceSub, Int.reduceEq, h, Bool.true_and])
  refine ifB'.of (fun h1 => ?_) (fun h1 => ?_)
  · simp -dsimp -implicitDefEqProofs only [go_sem, Nat.reduceBEq, Nat.reduceAdd, Nat.reduceLeDiff, Nat.reduceSub, Int.reduceEq, decide_eq_true h1, Bool.true_and]
    repeat (first | with_reducible refine ask.of (by omega) ?_ | simp -dsimp -implicitDefEqProofs only [go_sem, Nat.reduceBEq, Nat.reduceAdd, Nat.reduceLeDiff, Nat.reduceSub, Int.reduceEq, decide_eq_true h1, Bool.true_and])
  · simp -dsimp -implicitDefEqProofs only [go_sem, Nat.reduceBEq, Nat.reduceAdd, Nat.reduceLeDiff, Nat.reduceSub, Int.reduceEq, decide_eq_false h1, Bool.false_and]
def liAt (x : LI) (i : Nat) (h : i < x.h.length) : Prop := okPk x.h[i] ∧ x.h[i].a = 1 ∧ x.h[i].b = x.a ∧ x.b < x.h[i].c ∧ x.h[i].c < x.b + 8 ∧ (i = 0 ∨ ∃ h0 : i - 1 < x.h.length, x.h[i - 1].c < x.h[i].c)
def okLI (x : LI) : Prop := (0 ≤ x.a ∧ x.a ≤ 1000000000 ∧ 0 ≤ x.b ∧ x.b ≤ 1000000000000 ∧ x.f.length ≤ 20000) ∧ ∀ i (h : i < x.h.length), liAt x i h
noncomputable def liB (x : LI) : Bool := @decide (okLI x) (Classical.propDecidable _)
theorem li_f {x : LI} (h : ¬ okLI x) : false = liB x := (@decide_eq_false _ (Classical.propDecidable _) h).symm
theorem li_t {x : LI} (h : okLI x) : true = liB x := (@decide_eq_true _ (Classical.propDecidable _) h).symm
theorem c_specValidIn (x : LI) (hx : x.h.length ≤ 1048576) (hb : ∀ b ∈ x.h, b.f.length ≤ 1048576) (hf : x.f.length ≤ 1048576) : Meets Try.prog 133 [.agg (liC 96 x)] (fun r => r = .v (.bool (liB x))) := by
  refine Meets.introO mixed (hint []) (fun k => (sel (k == 7) [0,1,2,3,4,5,6,7,8,9,10,11,12,13,14,15,16,17,18,19,20,21,22,23,24,25,26,27,28,29,30,31,32,33,34,35] [])) Try.func133 rfl (by decide) res_133 rty_133 (by kernel_rfl) ?_; 
  simp -dsimp -implicitDefEqProofs only [go_sem, Nat.reduceBEq, Nat.reduceAdd, Nat.reduceLeDiff, Nat.reduceSub, Int.reduceEq, liC, decide_true]
  repeat' (first | with_reducible refine ifB'.of (fun h => ?_) (fun h => ?_) | with_reducible refine ask.of (by omega) ?_ | ((with_reducible refine li_f ?_); exact fun (hh : okLI x) => by have := hh.1; omega) | simp -dsimp -implicitDefEqProofs only [go_sem, Nat.reduceBEq, Nat.reduceAdd, Nat.reduceLeDiff, Nat.reduceSub, Int.reduceEq, decide_true, bleR])
  refine LoopE.cnt x.h.length (fun i s => s.env 1 = .ptr [1] 0 0 0 ∧ s.env 3 = .v (.int .i64 i) ∧ s.σ [1] = some (.box 92 [.v (.int .i64 x.a), .v (.int .i64 x.b), .rd .ent 96 6 (ra pkC x.h), .rd .ent 5 1 (bytesA x.f)]) ∧ ∀ j (hj : j < x.h.length), j < i → liAt x j hj) ⟨by simp -dsimp -implicitDefEqProofs only [go_sem, Nat.reduceBEq, Nat.reduceAdd, Nat.reduceLeDiff, Nat.reduceSub, Int.reduceEq], by simp -dsimp -implicitDefEqProofs only [go_sem, Nat.reduceBEq, Nat.reduceAdd, Nat.reduceLeDiff, Nat.reduceSub, Int.reduceEq] <;> simp, by simp -dsimp -implicitDefEqProofs only [go_sem, Nat.reduceBEq, Nat.reduceAdd, Nat.reduceLeDiff, Nat.reduceSub, Int.reduceEq], fun j hj h => absurd h (by omega)⟩ ?_
  rintro i ⟨e, σ⟩ hi ⟨h1, h3, hs, hz⟩ K hK
  simp only at h1 h3 hs
  repeat (first | with_reducible refine ask.of (by omega) ?_ | simp -dsimp -implicitDefEqProofs only [go_sem, Nat.reduceBEq, Nat.reduceAdd, Nat.reduceLeDiff, Nat.reduceSub, Int.reduceEq, h1, h3, hs, bleR])
  refine ifB'.of (fun hlt => ?_) (fun hlt => ?_)
  · have hlt : i < x.h.length := by omega
    repeat (first | with_reducible refine ask.of (by omega) ?_ | simp -dsimp -implicitDefEqProofs only [go_sem, Nat.reduceBEq, Nat.reduceAdd, Nat.reduceLeDiff, Nat.reduceSub, Int.reduceEq, h1, h3, hs, bleR, Pk_at hlt, pkC])
    refine CallE.of (c_l5data x.h[i] x.a (hb _ (List.getElem_mem _))) (by rintro r rfl; (repeat' first | exact trivial | exact pure_rowB _ | exact pure_rowO _ | exact pure_rowI _ | exact pure_rowBB _ | exact pure_rowPk _ _ | exact pure_rowSn _ _ | exact pure_rowFd _ _ | exact pure_rowBBB _ | exact pure_rowCl _ _ | refine And.intro ?_ ?_)) (by simp -dsimp -implicitDefEqProofs only [go_sem, Nat.reduceBEq, Nat.reduceAdd, Nat.reduceLeDiff, Nat.reduceSub, Int.reduceEq, h1, h3, hs, pkC]) ?_
    rintro r rfl
    simp -dsimp -implicitDefEqProofs only [go_sem, Nat.reduceBEq, Nat.reduceAdd, Nat.reduceLeDiff, Nat.reduceSub, Int.reduceEq, h1, h3, hs, pkC]
    cases h5 : (okB x.h[i] && (decide (x.h[i].a = 1) && decide (x.h[i].b = x.a)))
    · repeat (first | with_reducible refine ask.of (by omega) ?_ | simp -dsimp -implicitDefEqProofs only [go_sem, Nat.reduceBEq, Nat.reduceAdd, Nat.reduceLeDiff, Nat.reduceSub, Int.reduceEq, h1, h3, hs, h5, Bool.not_false])
      exact li_f fun (hh : okLI x) => by
        have h6 := hh.2 i hlt
        unfold liAt at h6
        rw [okB, decide_eq_true h6.1, decide_eq_true h6.2.1, decide_eq_true h6.2.2.1] at h5
        cases h5
    · have h6 : okPk x.h[i] ∧ x.h[i].a = 1 ∧ x.h[i].b = x.a := by simpa [okB] using h5
      have e9 : IntKind.i64.wrap (x.b + 8) = x.b + 8 := wrap_i64_of (by omega) (by omega)
      rcases Nat.eq_zero_or_pos i with h0 | h0
      · have e0 : ¬ 0 < (i : Int) := by omega
        repeat' (first | with_reducible refine ifB'.of (fun h => ?_) (fun h => ?_) | with_reducible refine ask.of (by omega) ?_ | ((with_reducible refine li_f ?_); exact fun (hh : okLI x) => by { have h7 := hh.2 i hlt; unfold liAt at h7; omega }) | simp -dsimp -implicitDefEqProofs only [go_sem, Nat.reduceBEq, Nat.reduceAdd, Nat.reduceLeDiff, Nat.reduceSub, Int.reduceEq, h1, h3, hs, h5, Bool.not_true, e9, e0, decide_false])
        refine hK _ hlt ?_
        simp -dsimp -implicitDefEqProofs only [go_sem, Nat.reduceBEq, Nat.reduceAdd, Nat.reduceLeDiff, Nat.reduceSub, Int.reduceEq, h1, h3, hs, wrap_succ (show i < 4611686018427387904 by omega)]
        exact fun j hj hjt => by
          by_cases hji : j = i
          · subst hji; exact ⟨h6.1, h6.2.1, h6.2.2, by omega, by omega, .inl h0⟩
          · exact hz j hj (by omega)
      · have e0 : 0 < (i : Int) := by omega
        have e8 : IntKind.i64.wrap ((i : Int) - 1) = ((i - 1 : Nat) : Int) := by rw [wrap_i64_of (by omega) (by omega)]; omega
        have hl1 : i - 1 < x.h.length := by omega
        repeat' (first | with_reducible refine ifB'.of (fun h => ?_) (fun h => ?_) | with_reducible refine ask.of (by omega) ?_ | ((with_reducible refine li_f ?_); exact fun (hh : okLI x) => by { have h7 := hh.2 i hlt; unfold liAt at h7; rcases h7 with ⟨_, _, _, h7, h8, h9 | ⟨h9, h10⟩⟩ <;> omega }) | simp -dsimp -implicitDefEqProofs only [go_sem, Nat.reduceBEq, Nat.reduceAdd, Nat.reduceLeDiff, Nat.reduceSub, Int.reduceEq, h1, h3, hs, h5, Bool.not_true, e9, e0, decide_true, e8, Pk_at hl1, pkC])
        refine hK _ hlt ?_
        simp -dsimp -implicitDefEqProofs only [go_sem, Nat.reduceBEq, Nat.reduceAdd, Nat.reduceLeDiff, Nat.reduceSub, Int.reduceEq, h1, h3, hs, wrap_succ (show i < 4611686018427387904 by omega)]
        exact fun j hj hjt => by
          by_cases hji : j = i
          · subst hji; exact ⟨h6.1, h6.2.1, h6.2.2, by omega, by omega, .inr ⟨hl1, by omega⟩⟩
          · exact hz j hj (by omega)
  · have hi : i = x.h.length := by omega
    simp -dsimp -implicitDefEqProofs only [go_sem, Nat.reduceBEq, Nat.reduceAdd, Nat.reduceLeDiff, Nat.reduceSub, Int.reduceEq, h1, h3, hs]
    exact li_t ⟨by omega, fun j hj => hz j hj (by omega)⟩
end Go.Ev
