/- Contracts: a link's far end, the program's own way. -/
import Derived.Test.YtjmmdlifljlogaaS3
set_option linter.unusedSimpArgs false
set_option linter.unusedVariables false
namespace Go.Ev
open Go Go.RowKit Go.Proofs
def prevC (x : LI) (i : Nat) : Int := if i = 0 then x.b else (x.h[i - 1]?.map (·.c)).getD 0
theorem prevC_zero (x : LI) : prevC x 0 = x.b := rfl
theorem prevC_succ (x : LI) {i : Nat} (h : i < x.h.length) : prevC x (i + 1) = x.h[i].c := by simp [prevC, h]
theorem li_len {x : LI} (h : okLI x) : x.h.length ≤ 8 := by
  have key : ∀ i (hi : i < x.h.length), x.b + 1 + i ≤ x.h[i].c := fun i => by
    induction i with
    | zero =>
      intro hi
      have := h.2 0 hi
      unfold liAt at this
      omega
    | succ i ih =>
      intro hi
      have h1 := ih (by omega)
      obtain ⟨_, _, _, _, _, h2 | ⟨h3, h4⟩⟩ := h.2 (i + 1) hi
      · omega
      · have e : i + 1 - 1 = i := by omega
        simp only [e] at h4
        omega
  rcases Nat.lt_or_ge 8 x.h.length with h8 | h8
  · have h1 := key 8 h8
    obtain ⟨_, _, _, _, h2, _⟩ := h.2 8 h8
    omega
  · exact h8
theorem c_implValidIn (x : LI) (hx : x.h.length ≤ 1048576) (hb : ∀ b ∈ x.h, b.f.length ≤ 1048576) (hf : x.f.length ≤ 1048576) : Meets Try.prog 53 [.agg (liC 107 x)] (fun r => r = .v (.bool (liB x))) := by
  refine Meets.intro mixed (hint []) Try.func53 rfl (by decide) res_53 rty_53 (by kernel_rfl) ?_; 
  simp -dsimp -implicitDefEqProofs only [go_sem, Nat.reduceBEq, Nat.reduceAdd, Nat.reduceLeDiff, Nat.reduceSub, Int.reduceEq, liC, decide_true]
  repeat' (first | with_reducible refine ifB'.of (fun h => ?_) (fun h => ?_) | with_reducible refine ask.of (by omega) ?_ | ((with_reducible refine li_f ?_); exact fun (hh : okLI x) => by { have := hh.1; have := li_len hh; omega }) | simp -dsimp -implicitDefEqProofs only [go_sem, Nat.reduceBEq, Nat.reduceAdd, Nat.reduceLeDiff, Nat.reduceSub, Int.reduceEq, decide_true, bleR])
  refine LoopE.cnt x.h.length (fun i s => s.env 1 = .ptr [1] 0 0 0 ∧ s.env 39 = .rd .ent 107 6 (ra pkC x.h) ∧ s.env 40 = .v (.int .i64 x.h.length) ∧ s.env 41 = .v (.int .i64 i) ∧ s.env 3 = .v (.int .i64 (prevC x i)) ∧ s.σ [1] = some (.box 68 [.v (.int .i64 x.a), .v (.int .i64 x.b), .rd .ent 107 6 (ra pkC x.h), .rd .ent 5 1 (bytesA x.f)]) ∧ ∀ j (hj : j < x.h.length), j < i → liAt x j hj) ⟨by simp -dsimp -implicitDefEqProofs only [go_sem, Nat.reduceBEq, Nat.reduceAdd, Nat.reduceLeDiff, Nat.reduceSub, Int.reduceEq], by simp -dsimp -implicitDefEqProofs only [go_sem, Nat.reduceBEq, Nat.reduceAdd, Nat.reduceLeDiff, Nat.reduceSub, Int.reduceEq], by simp -dsimp -implicitDefEqProofs only [go_sem, Nat.reduceBEq, Nat.reduceAdd, Nat.reduceLeDiff, Nat.reduceSub, Int.reduceEq], by simp -dsimp -implicitDefEqProofs only [go_sem, Nat.reduceBEq, Nat.reduceAdd, Nat.reduceLeDiff, Nat.reduceSub, Int.reduceEq] <;> simp, by simp -dsimp -implicitDefEqProofs only [go_sem, Nat.reduceBEq, Nat.reduceAdd, Nat.reduceLeDiff, Nat.reduceSub, Int.reduceEq, prevC_zero], by simp -dsimp -implicitDefEqProofs only [go_sem, Nat.reduceBEq, Nat.reduceAdd, Nat.reduceLeDiff, Nat.reduceSub, Int.reduceEq], fun j hj h => absurd h (by omega)⟩ ?_
  rintro i ⟨e, σ⟩ hi ⟨h1, h39, h40, h41, h3, hs, hz⟩ K hK
  simp only at h1 h39 h40 h41 h3 hs
  simp -dsimp -implicitDefEqProofs only [go_sem, Nat.reduceBEq, Nat.reduceAdd, Nat.reduceLeDiff, Nat.reduceSub, Int.reduceEq, h1, h39, h40, h41, h3, hs]
  refine ifB'.of (fun hlt => ?_) (fun hlt => ?_)
  · have hlt : i < x.h.length := by omega
    repeat (first | with_reducible refine ask.of (by omega) ?_ | simp -dsimp -implicitDefEqProofs only [go_sem, Nat.reduceBEq, Nat.reduceAdd, Nat.reduceLeDiff, Nat.reduceSub, Int.reduceEq, h1, h39, h40, h41, h3, hs, bleR, Pk_at hlt, pkC])
    refine CallE.of (c_packetOk x.h[i] (hb _ (List.getElem_mem _))) (by rintro r rfl; (repeat' first | exact trivial | exact pure_rowB _ | exact pure_rowO _ | exact pure_rowI _ | exact pure_rowBB _ | exact pure_rowPk _ _ | exact pure_rowSn _ _ | refine And.intro ?_ ?_)) (by simp -dsimp -implicitDefEqProofs only [go_sem, Nat.reduceBEq, Nat.reduceAdd, Nat.reduceLeDiff, Nat.reduceSub, Int.reduceEq, h1, h39, h40, h41, h3, hs, pkC]) ?_
    rintro r rfl
    simp -dsimp -implicitDefEqProofs only [go_sem, Nat.reduceBEq, Nat.reduceAdd, Nat.reduceLeDiff, Nat.reduceSub, Int.reduceEq, h1, h39, h40, h41, h3, hs, pkC]
    have e9 : IntKind.i64.wrap (x.b + 8) = x.b + 8 := wrap_i64_of (by omega) (by omega)
    have hp : liAt x i hlt ↔ okPk x.h[i] ∧ x.h[i].a = 1 ∧ x.h[i].b = x.a ∧ prevC x i < x.h[i].c ∧ x.h[i].c < x.b + 8 := by
      rcases Nat.eq_zero_or_pos i with h0 | h0
      · subst h0
        rw [prevC_zero]
        unfold liAt
        exact ⟨fun ⟨a, b, c, d, e, _⟩ => ⟨a, b, c, d, e⟩, fun ⟨a, b, c, d, e⟩ => ⟨a, b, c, d, e, .inl rfl⟩⟩
      · have hl1 : i - 1 < x.h.length := by omega
        have e1 : prevC x i = x.h[i - 1].c := by
          have := prevC_succ x hl1
          rwa [show i - 1 + 1 = i by omega] at this
        have h7 := hz (i - 1) hl1 (by omega)
        unfold liAt at h7 ⊢
        rw [e1]
        exact ⟨fun ⟨a, b, c, d, e, f⟩ => ⟨a, b, c, by rcases f with f | ⟨_, f⟩ <;> omega, e⟩, fun ⟨a, b, c, d, e⟩ => ⟨a, b, c, by omega, e, .inr ⟨hl1, d⟩⟩⟩
    have hq : okLI x → okPk x.h[i] ∧ x.h[i].a = 1 ∧ x.h[i].b = x.a ∧ prevC x i < x.h[i].c ∧ x.h[i].c < x.b + 8 := fun hh => hp.1 (hh.2 i hlt)
    cases h5 : okB x.h[i]
    · repeat (first | with_reducible refine ask.of (by omega) ?_ | simp -dsimp -implicitDefEqProofs only [go_sem, Nat.reduceBEq, Nat.reduceAdd, Nat.reduceLeDiff, Nat.reduceSub, Int.reduceEq, h1, h39, h40, h41, h3, hs, h5, Bool.not_false])
      exact li_f fun (hh : okLI x) => by
        rw [okB, decide_eq_true (hq hh).1] at h5
        cases h5
    · have h6 : okPk x.h[i] := by simpa [okB] using h5
      repeat' (first | with_reducible refine ifB'.of (fun h => ?_) (fun h => ?_) | with_reducible refine ask.of (by omega) ?_ | ((with_reducible refine li_f ?_); exact fun (hh : okLI x) => by { have h7 := hq hh; omega }) | simp -dsimp -implicitDefEqProofs only [go_sem, Nat.reduceBEq, Nat.reduceAdd, Nat.reduceLeDiff, Nat.reduceSub, Int.reduceEq, h1, h39, h40, h41, h3, hs, h5, Bool.not_true, e9])
      refine hK _ hlt ?_
      simp -dsimp -implicitDefEqProofs only [go_sem, Nat.reduceBEq, Nat.reduceAdd, Nat.reduceLeDiff, Nat.reduceSub, Int.reduceEq, h1, h39, h40, h41, h3, hs, wrap_succ (show i < 4611686018427387904 by omega), prevC_succ x hlt]
      exact fun j hj hjt => by
        by_cases hji : j = i
        · subst hji; exact hp.2 ⟨h6, by omega, by omega, by omega, by omega⟩
        · exact hz j hj (by omega)
  · have hi : i = x.h.length := by omega
    simp -dsimp -implicitDefEqProofs only [go_sem, Nat.reduceBEq, Nat.reduceAdd, Nat.reduceLeDiff, Nat.reduceSub, Int.reduceEq, h1, h39, h40, h41, h3, hs]
    exact li_t ⟨by omega, fun j hj => hz j hj (by omega)⟩
end Go.Ev
