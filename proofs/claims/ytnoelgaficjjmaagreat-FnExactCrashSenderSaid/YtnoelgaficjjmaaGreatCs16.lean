/- Part 16 of what the row leans on: the evaluator, words, contracts of functions; pruned by a program of ours. -/
import Derived.Test.YtnoelgaficjjmaaGreatCs15
set_option linter.unusedSimpArgs false
set_option linter.unusedVariables false
namespace Go.Ev
open Go Go.RowKit Go.Proofs
def mkSm (k : Nat) (x : Sm) : Sm := ⟨x.o, mkFdS k x.fs, x.s, mkBsS (k + szL szFd x.fs) x.ds⟩
def szSm (x : Sm) : Nat := szL szFd x.fs + szL szBs x.ds
set_option maxRecDepth 8000 in
theorem c_markStream (x : Sm) (k : Nat) (hk : k + szSm x ≤ 4611686018427387904) (h1 : x.fs.length ≤ 1048576) (h2 : ∀ b ∈ x.fs, b.f.length ≤ 1048576) (h3 : x.ds.length ≤ 1048576) (h4 : ∀ b ∈ x.ds, lenOk b 1048576) : MeetsM Tryz.prog 38 [.mu (.agg (smC 101 x)), .rd (.v (.int .i64 k))] (fun r rs => r = .v (.int .i64 ((k + szSm x : Nat) : Int)) ∧ rs = [.agg (smC 101 (mkSm k x)), .any]) := by
  refine MeetsM.intro mixed (hint []) Tryz.func38 rfl (by decide) res_38 rty_38 (pts := parTys Tryz.prog 38) (by rw [par_38]; rfl) (by kernel_rfl) ?_; rw [par_38]; intro vals; 
  simp -dsimp -implicitDefEqProofs only [go_sem, Nat.reduceBEq, Nat.reduceAdd, Nat.reduceLeDiff, Nat.reduceSub, Int.reduceEq, smC]
  unfold szSm at hk
  repeat (first | with_reducible refine ask.of (by first | omega | decide) ?_ | simp -dsimp -implicitDefEqProofs only [go_sem, Nat.reduceBEq, Nat.reduceAdd, Nat.reduceLeDiff, Nat.reduceSub, Int.reduceEq, bl3])
  refine CallE.mut (c_markFieldS x.fs k (by omega) h1 h2) (by simp -dsimp -implicitDefEqProofs only [go_sem, Nat.reduceBEq, Nat.reduceAdd, Nat.reduceLeDiff, Nat.reduceSub, Int.reduceEq]) (by rintro r rs ⟨rfl, rfl⟩; exact ⟨by (repeat' first | exact trivial | exact pure_rowB _ | exact pure_rowO _ | exact pure_rowI _ | exact pure_rowBB _ | exact pure_rowPk _ _ | exact pure_rowSn _ _ | exact pure_rowFd _ _ | exact pure_rowBBB _ | exact pure_rowCl _ _ | exact pure_rowTb _ _ _ | refine And.intro ?_ ?_), by first | exact ⟨by (repeat' first | exact trivial | exact pure_rowB _ | exact pure_rowO _ | exact pure_rowI _ | exact pure_rowBB _ | exact pure_rowPk _ _ | exact pure_rowSn _ _ | exact pure_rowFd _ _ | exact pure_rowBBB _ | exact pure_rowCl _ _ | exact pure_rowTb _ _ _ | refine And.intro ?_ ?_), trivial⟩ | exact ⟨by (repeat' first | exact trivial | exact pure_rowB _ | exact pure_rowO _ | exact pure_rowI _ | exact pure_rowBB _ | exact pure_rowPk _ _ | exact pure_rowSn _ _ | exact pure_rowFd _ _ | exact pure_rowBBB _ | exact pure_rowCl _ _ | exact pure_rowTb _ _ _ | refine And.intro ?_ ?_), trivial, trivial⟩⟩) (by simp -dsimp -implicitDefEqProofs only [go_sem, Nat.reduceBEq, Nat.reduceAdd, Nat.reduceLeDiff, Nat.reduceSub, Int.reduceEq, rowFd]) (by simp -dsimp -implicitDefEqProofs only [go_sem, Nat.reduceBEq, Nat.reduceAdd, Nat.reduceLeDiff, Nat.reduceSub, Int.reduceEq, rowFd]) ?_
  rintro r rs ⟨rfl, rfl⟩
  simp -dsimp -implicitDefEqProofs only [go_sem, Nat.reduceBEq, Nat.reduceAdd, Nat.reduceLeDiff, Nat.reduceSub, Int.reduceEq, rowFd]
  repeat (first | with_reducible refine ask.of (by first | omega | decide) ?_ | simp -dsimp -implicitDefEqProofs only [go_sem, Nat.reduceBEq, Nat.reduceAdd, Nat.reduceLeDiff, Nat.reduceSub, Int.reduceEq, bl3])
  refine CallE.mut (c_markByteSSS x.ds (k + szL szFd x.fs) (by omega) h3 h4) (by simp -dsimp -implicitDefEqProofs only [go_sem, Nat.reduceBEq, Nat.reduceAdd, Nat.reduceLeDiff, Nat.reduceSub, Int.reduceEq]) (by rintro r rs ⟨rfl, rfl⟩; exact ⟨by (repeat' first | exact trivial | exact pure_rowB _ | exact pure_rowO _ | exact pure_rowI _ | exact pure_rowBB _ | exact pure_rowPk _ _ | exact pure_rowSn _ _ | exact pure_rowFd _ _ | exact pure_rowBBB _ | exact pure_rowCl _ _ | exact pure_rowTb _ _ _ | refine And.intro ?_ ?_), by first | exact ⟨by (repeat' first | exact trivial | exact pure_rowB _ | exact pure_rowO _ | exact pure_rowI _ | exact pure_rowBB _ | exact pure_rowPk _ _ | exact pure_rowSn _ _ | exact pure_rowFd _ _ | exact pure_rowBBB _ | exact pure_rowCl _ _ | exact pure_rowTb _ _ _ | refine And.intro ?_ ?_), trivial⟩ | exact ⟨by (repeat' first | exact trivial | exact pure_rowB _ | exact pure_rowO _ | exact pure_rowI _ | exact pure_rowBB _ | exact pure_rowPk _ _ | exact pure_rowSn _ _ | exact pure_rowFd _ _ | exact pure_rowBBB _ | exact pure_rowCl _ _ | exact pure_rowTb _ _ _ | refine And.intro ?_ ?_), trivial, trivial⟩⟩) (by simp -dsimp -implicitDefEqProofs only [go_sem, Nat.reduceBEq, Nat.reduceAdd, Nat.reduceLeDiff, Nat.reduceSub, Int.reduceEq, rowBBB]) (by simp -dsimp -implicitDefEqProofs only [go_sem, Nat.reduceBEq, Nat.reduceAdd, Nat.reduceLeDiff, Nat.reduceSub, Int.reduceEq, rowBBB]) ?_
  rintro r rs ⟨rfl, rfl⟩
  simp -dsimp -implicitDefEqProofs only [go_sem, Nat.reduceBEq, Nat.reduceAdd, Nat.reduceLeDiff, Nat.reduceSub, Int.reduceEq, rowBBB]
  repeat (first | with_reducible refine ask.of (by first | omega | decide) ?_ | simp -dsimp -implicitDefEqProofs only [go_sem, Nat.reduceBEq, Nat.reduceAdd, Nat.reduceLeDiff, Nat.reduceSub, Int.reduceEq, bl3])
  exact ⟨by unfold szSm; rw [Nat.add_assoc], rfl⟩
theorem c_heldStream (x : Sm) (k : Nat) (hk : k + szSm x ≤ 4611686018427387904) (h1 : x.fs.length ≤ 1048576) (h2 : ∀ b ∈ x.fs, b.f.length ≤ 1048576) (h3 : x.ds.length ≤ 1048576) (h4 : ∀ b ∈ x.ds, lenOk b 1048576) : Meets Tryz.prog 42 [.agg (smC 101 (mkSm k x)), .v (.int .i64 k)] (fun r => r = .v (.int .i64 ((k + szSm x : Nat) : Int))) := by
  refine Meets.intro mixed (hint []) Tryz.func42 rfl (by decide) res_42 rty_42 (by kernel_rfl) ?_; 
  simp -dsimp -implicitDefEqProofs only [go_sem, Nat.reduceBEq, Nat.reduceAdd, Nat.reduceLeDiff, Nat.reduceSub, Int.reduceEq, smC, mkSm]
  unfold szSm at hk
  repeat (first | with_reducible refine ask.of (by first | omega | decide) ?_ | simp -dsimp -implicitDefEqProofs only [go_sem, Nat.reduceBEq, Nat.reduceAdd, Nat.reduceLeDiff, Nat.reduceSub, Int.reduceEq, bl3])
  refine CallE.of (c_heldFieldS x.fs k (by omega) h1 h2) (by rintro r rfl; (repeat' first | exact trivial | exact pure_rowB _ | exact pure_rowO _ | exact pure_rowI _ | exact pure_rowBB _ | exact pure_rowPk _ _ | exact pure_rowSn _ _ | exact pure_rowFd _ _ | exact pure_rowBBB _ | exact pure_rowCl _ _ | exact pure_rowTb _ _ _ | refine And.intro ?_ ?_)) (by simp -dsimp -implicitDefEqProofs only [go_sem, Nat.reduceBEq, Nat.reduceAdd, Nat.reduceLeDiff, Nat.reduceSub, Int.reduceEq, rowFd]) ?_
  rintro r rfl
  simp -dsimp -implicitDefEqProofs only [go_sem, Nat.reduceBEq, Nat.reduceAdd, Nat.reduceLeDiff, Nat.reduceSub, Int.reduceEq, rowFd]
  with_reducible refine ifB'.no (by omega) ?_
  repeat (first | with_reducible refine ask.of (by first | omega | decide) ?_ | simp -dsimp -implicitDefEqProofs only [go_sem, Nat.reduceBEq, Nat.reduceAdd, Nat.reduceLeDiff, Nat.reduceSub, Int.reduceEq, bl3])
  refine CallE.of (c_heldByteSSS x.ds (k + szL szFd x.fs) (by omega) h3 h4) (by rintro r rfl; (repeat' first | exact trivial | exact pure_rowB _ | exact pure_rowO _ | exact pure_rowI _ | exact pure_rowBB _ | exact pure_rowPk _ _ | exact pure_rowSn _ _ | exact pure_rowFd _ _ | exact pure_rowBBB _ | exact pure_rowCl _ _ | exact pure_rowTb _ _ _ | refine And.intro ?_ ?_)) (by simp -dsimp -implicitDefEqProofs only [go_sem, Nat.reduceBEq, Nat.reduceAdd, Nat.reduceLeDiff, Nat.reduceSub, Int.reduceEq, rowBBB]) ?_
  rintro r rfl
  simp -dsimp -implicitDefEqProofs only [go_sem, Nat.reduceBEq, Nat.reduceAdd, Nat.reduceLeDiff, Nat.reduceSub, Int.reduceEq, rowBBB]
  with_reducible refine ifB'.no (by omega) ?_
  repeat (first | with_reducible refine ask.of (by first | omega | decide) ?_ | simp -dsimp -implicitDefEqProofs only [go_sem, Nat.reduceBEq, Nat.reduceAdd, Nat.reduceLeDiff, Nat.reduceSub, Int.reduceEq, bl3])
  unfold szSm; rw [Nat.add_assoc]
end Go.Ev
set_option linter.unusedSimpArgs false
set_option linter.unusedVariables false
namespace Go.Ev
open Go Go.RowKit Go.Proofs
theorem szL_lin {α : Type} (s w : α → Nat) : ∀ xs : List α, (∀ x ∈ xs, s x ≤ 5 * (w x + 1)) → szL s xs ≤ 5 * (xs.length + szL w xs)
  | [], _ => by simp [szL]
  | x :: xs, h => by
    have h1 := h x List.mem_cons_self
    have h2 := szL_lin s w xs fun y hy => h y (List.mem_cons_of_mem _ hy)
    simp only [szL, List.map_cons, List.sum_cons, List.length_cons] at h2 ⊢
    omega
theorem szSm_le (x : Sm) : szSm x ≤ 5 * smW x := by
  have h1 := szL_lin szFd fdW x.fs fun f _ => by unfold szFd fdW; omega
  have h2 := szL_lin szBs bbW x.ds fun b _ => by unfold szBs bbW; omega
  unfold szSm smW; omega
theorem szTb_le (xs : List Tb) : szL szTb xs ≤ 5 * (xs.length + szL tbW xs) := szL_lin szTb tbW xs fun t _ => by
  have h1 := szL_lin szCl clW t.c fun f _ => by unfold szCl clW; omega
  unfold szTb tbW; omega
end Go.Ev
set_option linter.unusedSimpArgs false
set_option linter.unusedVariables false
namespace Go.Ev
open Go Go.RowKit Go.Proofs
theorem szL_zeros (n : Nat) : szL szBs (List.replicate n []) = 0 := by
  induction n with
  | zero => rfl
  | succ n ih => simp only [List.replicate_succ, szL, List.map_cons, List.sum_cons] at ih ⊢; rw [ih]; rfl
theorem stL_T {fs : List Fd} {next : Int} (hx : fs.length ≤ 1048576) (hb : ∀ b ∈ fs, b.f.length ≤ 1048576) : (((stL fs next).1.fs.length ≤ 1048576 ∧ ∀ b ∈ (stL fs next).1.fs, b.f.length ≤ 1048576) ∧ (stL fs next).1.ds.length ≤ 1048576 ∧ ∀ b ∈ (stL fs next).1.ds, lenOk b 1048576) ∧ szSm (stL fs next).1 ≤ 1048576 ∧ (stL fs next).2.1.length ≤ 1048576 := by
  by_cases h : okF fs ∧ 0 ≤ next ∧ next ≤ 1000000000
  · rw [stL_yes h]
    have h1 := hd_wBB (next := next) h.1
    have h2 := msBody_len (hdMs fs next)
    have h3 : (hdMs fs next).bs.length = fs.length + 1 := by show (leB 8 next :: fs.map hdF).length = _; simp
    have h4 := h.1.1.2
    refine ⟨⟨⟨hx, hb⟩, ?_, ?_⟩, ?_, ?_⟩
    · show (List.replicate fs.length []).length ≤ _; simp; omega
    · intro b hb'
      have : b = [] := (List.mem_replicate.1 hb').2
      subst this; exact ⟨Nat.zero_le _, fun c hc => by cases hc⟩
    · show szL szFd fs + szL szBs (List.replicate fs.length []) ≤ _
      rw [szL_zeros]
      have h5 := hd_w h.1.2.1
      have h6 : szL szFd fs = wBB (fs.map hdF) := by
        clear h h1 h2 h3 h4 h5 hx hb
        induction fs with
        | nil => rfl
        | cons x fs ih => simp only [wBB, szL, List.map_cons, List.sum_cons, szFd, hdF, List.length_append, List.length_cons, List.length_nil] at ih ⊢; omega
      omega
    · show (msBody (hdMs fs next)).length ≤ _
      omega
  · rw [stL_no h]
    exact ⟨⟨⟨Nat.zero_le _, fun b h => (by cases h)⟩, Nat.zero_le _, fun b h => (by cases h)⟩, by decide, Nat.zero_le _⟩
end Go.Ev
set_option linter.unusedSimpArgs false
set_option linter.unusedVariables false
namespace Go.Ev
open Go Go.RowKit Go.Proofs
theorem c_l5packet (p : Pk) (hb : p.f.length ≤ 1048576) : Meets Tryz.prog 93 [.agg (pkC p)] (fun r => r = .agg (pkC p)) := by
  refine Meets.intro mixed (hint []) Tryz.func93 rfl (by decide) res_93 rty_93 (by kernel_rfl) ?_; 
  simp -dsimp -implicitDefEqProofs only [go_sem, Nat.reduceBEq, Nat.reduceAdd, Nat.reduceLeDiff, Nat.reduceSub, Int.reduceEq, pkC]
  repeat (first | with_reducible refine ask.of (by omega) ?_ | simp -dsimp -implicitDefEqProofs only [go_sem, Nat.reduceBEq, Nat.reduceAdd, Nat.reduceLeDiff, Nat.reduceSub, Int.reduceEq, bleR])
  refine CallE.of (c_l1copy p.f (by omega)) (by rintro r rfl; (repeat' first | exact trivial | exact pure_rowB _ | exact pure_rowO _ | exact pure_rowI _ | exact pure_rowBB _ | exact pure_rowPk _ _ | exact pure_rowSn _ _ | exact pure_rowFd _ _ | exact pure_rowBBB _ | exact pure_rowCl _ _ | exact pure_rowTb _ _ _ | refine And.intro ?_ ?_)) (by simp -dsimp -implicitDefEqProofs only [go_sem, Nat.reduceBEq, Nat.reduceAdd, Nat.reduceLeDiff, Nat.reduceSub, Int.reduceEq]) ?_
  rintro r rfl
  simp -dsimp -implicitDefEqProofs only [go_sem, Nat.reduceBEq, Nat.reduceAdd, Nat.reduceLeDiff, Nat.reduceSub, Int.reduceEq]
  repeat (first | with_reducible refine ask.of (by omega) ?_ | simp -dsimp -implicitDefEqProofs only [go_sem, Nat.reduceBEq, Nat.reduceAdd, Nat.reduceLeDiff, Nat.reduceSub, Int.reduceEq, bleR])
theorem c_packetCopy (p : Pk) (hb : p.f.length ≤ 1048576) : Meets Tryz.prog 125 [.agg (pkC p)] (fun r => r = .agg (pkC p)) := by
  refine Meets.intro mixed (hint []) Tryz.func125 rfl (by decide) res_125 rty_125 (by kernel_rfl) ?_; 
  simp -dsimp -implicitDefEqProofs only [go_sem, Nat.reduceBEq, Nat.reduceAdd, Nat.reduceLeDiff, Nat.reduceSub, Int.reduceEq, pkC]
  repeat (first | with_reducible refine ask.of (by omega) ?_ | simp -dsimp -implicitDefEqProofs only [go_sem, Nat.reduceBEq, Nat.reduceAdd, Nat.reduceLeDiff, Nat.reduceSub, Int.reduceEq, bleR])
  refine CallE.of (c_bytesClone p.f (by omega)) (by rintro r rfl; (repeat' first | exact trivial | exact pure_rowB _ | exact pure_rowO _ | exact pure_rowI _ | exact pure_rowBB _ | exact pure_rowPk _ _ | exact pure_rowSn _ _ | exact pure_rowFd _ _ | exact pure_rowBBB _ | exact pure_rowCl _ _ | exact pure_rowTb _ _ _ | refine And.intro ?_ ?_)) (by simp -dsimp -implicitDefEqProofs only [go_sem, Nat.reduceBEq, Nat.reduceAdd, Nat.reduceLeDiff, Nat.reduceSub, Int.reduceEq]) ?_
  rintro r rfl
  simp -dsimp -implicitDefEqProofs only [go_sem, Nat.reduceBEq, Nat.reduceAdd, Nat.reduceLeDiff, Nat.reduceSub, Int.reduceEq]
  repeat (first | with_reducible refine ask.of (by omega) ?_ | simp -dsimp -implicitDefEqProofs only [go_sem, Nat.reduceBEq, Nat.reduceAdd, Nat.reduceLeDiff, Nat.reduceSub, Int.reduceEq, bleR])
theorem bl4 : Nat.ble 1 4 = true ∧ Nat.ble 2 4 = true ∧ Nat.ble 3 4 = true ∧ Nat.ble 1 1 = true ∧ Nat.ble 1 7 = true := ⟨rfl, rfl, rfl, rfl, rfl⟩
theorem cty_q : cty Tryz.prog 153 = [some (122, 7)] := by kernel_rfl
theorem ble67 : Nat.ble 6 7 = true := rfl
theorem sn_snoc {xs : List Sn} {s : Sn} : ra snC xs ++ [[.v (.int .i64 s.p.a), .v (.int .i64 s.p.b), .v (.int .i64 s.p.c), .v (.int .i64 s.p.d), .v (.bool s.p.e), .row 5 1 (bytesA s.p.f), .v (.int .i64 s.q)]] = ra snC (xs ++ [s]) := by simp [ra, snC]
theorem sn_take {xs : List Sn} {i : Nat} (h : i < xs.length) : xs.take i ++ [xs[i]] = xs.take (i + 1) := by simp
set_option maxRecDepth 8000 in
set_option maxHeartbeats 1000000 in
theorem c_l5out (x : LO) (hx : x.h.length ≤ 1048576) (hb : ∀ b ∈ x.h, b.p.f.length ≤ 1048576) : Meets Tryz.prog 58 [.agg (loC 122 x)] (fun r => r = .agg (loC 122 x)) := by
  refine Meets.introO mixed (hint []) (fun k => (sel (k == 5) [0,1,2,3,4,5,6,7,9,10,11,12,13,14,8,15,16,17,18,19] [])) Tryz.func58 rfl (by decide) res_58 rty_58 (by kernel_rfl) ?_; 
  simp -dsimp -implicitDefEqProofs only [go_sem, Nat.reduceBEq, Nat.reduceAdd, Nat.reduceLeDiff, Nat.reduceSub, Int.reduceEq, loC]
  repeat (first | with_reducible refine ask.of (by omega) ?_ | simp -dsimp -implicitDefEqProofs only [go_sem, Nat.reduceBEq, Nat.reduceAdd, Nat.reduceLeDiff, Nat.reduceSub, Int.reduceEq, bleR, bl4])
  refine LoopE.cntW x.h.length (fun i s => s.env 1 = .ptr [1] 0 0 0 ∧ s.env 2 = .ptr [2] 0 0 0 ∧ s.env 3 = .ptr [3] 0 0 0 ∧ s.env 4 = .v (.int .i64 i) ∧ s.σ [1] = some (.box 37 [.v (.int .i64 x.a), .v (.int .i64 x.b), .v (.int .i64 x.c), .rd .ent 122 7 (ra snC x.h)])
    ∧ s.σ [2] = some (.box 37 [.v (.int .i64 0), .v (.int .i64 0), .v (.int .i64 0), .v (.slice none 0 0)]) ∧ s.σ [3] = some (.box 37 [.v (.int .i64 x.a), .v (.int .i64 x.b), .v (.int .i64 x.c), .ref [50]]) ∧ s.σ [50] = some (.row 122 7 (ra snC (x.h.take i))))
    (Wk.box [3] 3 [50] 122 7 37 [.v (.int .i64 x.a), .v (.int .i64 x.b), .v (.int .i64 x.c), .v (.slice none 0 0)] ?_ rfl rfl (Wk.refl _)) ?_ ?_
  · simp -dsimp -implicitDefEqProofs only [go_sem, Nat.reduceBEq, Nat.reduceAdd, Nat.reduceLeDiff, Nat.reduceSub, Int.reduceEq]
  · refine ⟨by simp -dsimp -implicitDefEqProofs only [go_sem, Nat.reduceBEq, Nat.reduceAdd, Nat.reduceLeDiff, Nat.reduceSub, Int.reduceEq], by simp -dsimp -implicitDefEqProofs only [go_sem, Nat.reduceBEq, Nat.reduceAdd, Nat.reduceLeDiff, Nat.reduceSub, Int.reduceEq], by simp -dsimp -implicitDefEqProofs only [go_sem, Nat.reduceBEq, Nat.reduceAdd, Nat.reduceLeDiff, Nat.reduceSub, Int.reduceEq], by simp -dsimp -implicitDefEqProofs only [go_sem, Nat.reduceBEq, Nat.reduceAdd, Nat.reduceLeDiff, Nat.reduceSub, Int.reduceEq] <;> rfl, by simp -dsimp -implicitDefEqProofs only [go_sem, Nat.reduceBEq, Nat.reduceAdd, Nat.reduceLeDiff, Nat.reduceSub, Int.reduceEq], by simp -dsimp -implicitDefEqProofs only [go_sem, Nat.reduceBEq, Nat.reduceAdd, Nat.reduceLeDiff, Nat.reduceSub, Int.reduceEq], by simp -dsimp -implicitDefEqProofs only [go_sem, Nat.reduceBEq, Nat.reduceAdd, Nat.reduceLeDiff, Nat.reduceSub, Int.reduceEq] <;> rfl, by simp -dsimp -implicitDefEqProofs only [go_sem, Nat.reduceBEq, Nat.reduceAdd, Nat.reduceLeDiff, Nat.reduceSub, Int.reduceEq] <;> rfl⟩
  rintro i ⟨e, σ⟩ hi ⟨h1, h2, h3, h4, hs1, hs2, hs3, hs50⟩ K hK
  simp only at h1 h2 h3 h4 hs1 hs2 hs3 hs50
  simp -dsimp -implicitDefEqProofs only [go_sem, Nat.reduceBEq, Nat.reduceAdd, Nat.reduceLeDiff, Nat.reduceSub, Int.reduceEq, h1, h2, h3, h4, hs1, hs2, hs3, hs50]
  repeat (first | with_reducible refine ask.of (by omega) ?_ | simp -dsimp -implicitDefEqProofs only [go_sem, Nat.reduceBEq, Nat.reduceAdd, Nat.reduceLeDiff, Nat.reduceSub, Int.reduceEq, h1, h2, h3, h4, hs1, hs2, hs3, hs50, bleR])
  refine ifB'.of (fun hlt => ?_) (fun hlt => ?_)
  · have hlt : i < x.h.length := by omega
    have hp := hb _ (List.getElem_mem hlt)
    have htl : (x.h.take i).length = i := by simp; omega
    repeat (first | with_reducible refine ask.of (by omega) ?_ | simp -dsimp -implicitDefEqProofs only [go_sem, Nat.reduceBEq, Nat.reduceAdd, Nat.reduceLeDiff, Nat.reduceSub, Int.reduceEq, h1, h2, h3, h4, hs1, hs2, hs3, hs50, bleR, Sn_at hlt, snC, ble67])
    refine CallE.of (c_l5packet x.h[i].p hp) (by rintro r rfl; (repeat' first | exact trivial | exact pure_rowB _ | exact pure_rowO _ | exact pure_rowI _ | exact pure_rowBB _ | exact pure_rowPk _ _ | exact pure_rowSn _ _ | exact pure_rowFd _ _ | exact pure_rowBBB _ | exact pure_rowCl _ _ | exact pure_rowTb _ _ _ | refine And.intro ?_ ?_)) (by simp -dsimp -implicitDefEqProofs only [go_sem, Nat.reduceBEq, Nat.reduceAdd, Nat.reduceLeDiff, Nat.reduceSub, Int.reduceEq, h1, h2, h3, h4, hs1, hs2, hs3, hs50, pkC]) ?_
    rintro r rfl
    simp -dsimp -implicitDefEqProofs only [go_sem, Nat.reduceBEq, Nat.reduceAdd, Nat.reduceLeDiff, Nat.reduceSub, Int.reduceEq, h1, h2, h3, h4, hs1, hs2, hs3, hs50, pkC]
    repeat (first | with_reducible refine ask.of (by first | omega | decide | (simp only [ra_length, htl, List.length_cons, List.length_nil]; omega)) ?_ | simp -dsimp -implicitDefEqProofs only [go_sem, Nat.reduceBEq, Nat.reduceAdd, Nat.reduceLeDiff, Nat.reduceSub, Int.reduceEq, h1, h2, h3, h4, hs1, hs2, hs3, hs50, bleR, snC, ble67, sn_snoc, cty_q])
    refine hK _ _ hlt (Wk.refl _) ?_
    simp -dsimp -implicitDefEqProofs only [go_sem, Nat.reduceBEq, Nat.reduceAdd, Nat.reduceLeDiff, Nat.reduceSub, Int.reduceEq, h1, h2, h3, h4, hs1, hs2, hs3, hs50, wrap_succ (show i < 4611686018427387904 by omega), sn_snoc, sn_take hlt]
  · have : i = x.h.length := by omega
    subst this
    rw [List.take_length] at hs50
    simp -dsimp -implicitDefEqProofs only [go_sem, Nat.reduceBEq, Nat.reduceAdd, Nat.reduceLeDiff, Nat.reduceSub, Int.reduceEq, h1, h2, h3, h4, hs1, hs2, hs3, hs50]
    repeat (first | with_reducible refine ask.of (by omega) ?_ | simp -dsimp -implicitDefEqProofs only [go_sem, Nat.reduceBEq, Nat.reduceAdd, Nat.reduceLeDiff, Nat.reduceSub, Int.reduceEq, h1, h2, h3, h4, hs1, hs2, hs3, hs50, bleR, show Nat.ble 4 4 = true from rfl])
theorem c_put (xs : List Sn) (s : Sn) (hx : xs.length ≤ 1048576) (hb : s.p.f.length ≤ 1048576) : MeetsM Tryz.prog 124 [.mu (.bx 153 [.row 122 7 (ra snC xs)]), .mu (.agg (snC s))] (fun r rs => r = .tup [] ∧ rs = [.bx 153 [.row 122 7 (ra snC (xs ++ [s]))], .agg [.v (.int .i64 s.p.a), .v (.int .i64 s.p.b), .v (.int .i64 s.p.c), .v (.int .i64 s.p.d), .v (.bool s.p.e), .any, .v (.int .i64 s.q)]]) := by
  refine MeetsM.introO mixed (hint []) (fun k => (sel (k == 1) [0,1,2,3,4,5,6,7,8,9,10] [])) Tryz.func124 rfl (by decide) res_124 rty_124 (pts := parTys Tryz.prog 124) (by rw [par_124]; rfl) (by kernel_rfl) ?_; rw [par_124]; intro vals; 
  simp -dsimp -implicitDefEqProofs only [go_sem, Nat.reduceBEq, Nat.reduceAdd, Nat.reduceLeDiff, Nat.reduceSub, Int.reduceEq, snC]
  repeat (first | with_reducible refine ask.of (by first | omega | decide | (simp only [ra_length, List.length_cons, List.length_nil]; omega)) ?_ | simp -dsimp -implicitDefEqProofs only [go_sem, Nat.reduceBEq, Nat.reduceAdd, Nat.reduceLeDiff, Nat.reduceSub, Int.reduceEq, bleR, snC, ble67, sn_snoc, cty_q])
set_option maxRecDepth 8000 in
set_option maxHeartbeats 1000000 in
theorem c_outCopy (x : LO) (hx : x.h.length ≤ 1048576) (hb : ∀ b ∈ x.h, b.p.f.length ≤ 1048576) : Meets Tryz.prog 75 [.agg (loC 122 x)] (fun r => r = .agg (loC 122 x)) := by
  refine Meets.introO mixed (hint []) (fun k => (sel (k == 5) [998,0,1,3,4,2,5,2006] [])) Tryz.func75 rfl (by decide) res_75 rty_75 (by kernel_rfl) ?_; 
  simp -dsimp -implicitDefEqProofs only [go_sem, Nat.reduceBEq, Nat.reduceAdd, Nat.reduceLeDiff, Nat.reduceSub, Int.reduceEq, loC]
  repeat (first | with_reducible refine ask.of (by omega) ?_ | simp -dsimp -implicitDefEqProofs only [go_sem, Nat.reduceBEq, Nat.reduceAdd, Nat.reduceLeDiff, Nat.reduceSub, Int.reduceEq, bleR, bl4])
  refine LoopE.cntW x.h.length (fun i s => s.env 1 = .ptr [1] 0 0 0 ∧ s.env 2 = .ptr [2] 0 0 0 ∧ s.env 3 = .ptr [3] 0 0 0 ∧ s.env 8 = .rd .ent 122 7 (ra snC x.h) ∧ s.env 9 = .v (.int .i64 (x.h.length : Nat)) ∧ s.env 10 = .v (.int .i64 i) ∧ s.σ [1] = some (.box 37 [.v (.int .i64 x.a), .v (.int .i64 x.b), .v (.int .i64 x.c), .rd .ent 122 7 (ra snC x.h)])
    ∧ s.σ [2] = some (.box 37 [.v (.int .i64 0), .v (.int .i64 0), .v (.int .i64 0), .v (.slice none 0 0)]) ∧ s.σ [3] = some (.box 153 [.ref [1000002, 3, 0]]) ∧ s.σ [1000002, 3, 0] = some (.row 122 7 (ra snC (x.h.take i))))
    (Wk.box [3] 0 [1000002, 3, 0] 122 7 153 [.v (.slice none 0 0)] ?_ rfl rfl (Wk.refl _)) ?_ ?_
  · simp -dsimp -implicitDefEqProofs only [go_sem, Nat.reduceBEq, Nat.reduceAdd, Nat.reduceLeDiff, Nat.reduceSub, Int.reduceEq]
  · refine ⟨by simp -dsimp -implicitDefEqProofs only [go_sem, Nat.reduceBEq, Nat.reduceAdd, Nat.reduceLeDiff, Nat.reduceSub, Int.reduceEq], by simp -dsimp -implicitDefEqProofs only [go_sem, Nat.reduceBEq, Nat.reduceAdd, Nat.reduceLeDiff, Nat.reduceSub, Int.reduceEq], by simp -dsimp -implicitDefEqProofs only [go_sem, Nat.reduceBEq, Nat.reduceAdd, Nat.reduceLeDiff, Nat.reduceSub, Int.reduceEq], by simp -dsimp -implicitDefEqProofs only [go_sem, Nat.reduceBEq, Nat.reduceAdd, Nat.reduceLeDiff, Nat.reduceSub, Int.reduceEq], by simp -dsimp -implicitDefEqProofs only [go_sem, Nat.reduceBEq, Nat.reduceAdd, Nat.reduceLeDiff, Nat.reduceSub, Int.reduceEq], by simp -dsimp -implicitDefEqProofs only [go_sem, Nat.reduceBEq, Nat.reduceAdd, Nat.reduceLeDiff, Nat.reduceSub, Int.reduceEq] <;> rfl, by simp -dsimp -implicitDefEqProofs only [go_sem, Nat.reduceBEq, Nat.reduceAdd, Nat.reduceLeDiff, Nat.reduceSub, Int.reduceEq], by simp -dsimp -implicitDefEqProofs only [go_sem, Nat.reduceBEq, Nat.reduceAdd, Nat.reduceLeDiff, Nat.reduceSub, Int.reduceEq], by simp -dsimp -implicitDefEqProofs only [go_sem, Nat.reduceBEq, Nat.reduceAdd, Nat.reduceLeDiff, Nat.reduceSub, Int.reduceEq] <;> rfl, by simp -dsimp -implicitDefEqProofs only [go_sem, Nat.reduceBEq, Nat.reduceAdd, Nat.reduceLeDiff, Nat.reduceSub, Int.reduceEq] <;> rfl⟩
  rintro i ⟨e, σ⟩ hi ⟨h1, h2, h3, h8, h9, h10, hs1, hs2, hs3, hs50⟩ K hK
  simp only at h1 h2 h3 h8 h9 h10 hs1 hs2 hs3 hs50
  simp -dsimp -implicitDefEqProofs only [go_sem, Nat.reduceBEq, Nat.reduceAdd, Nat.reduceLeDiff, Nat.reduceSub, Int.reduceEq, h1, h2, h3, h8, h9, h10, hs1, hs2, hs3, hs50]
  refine ifB'.of (fun hlt => ?_) (fun hlt => ?_)
  · have hlt : i < x.h.length := by omega
    have hp := hb _ (List.getElem_mem hlt)
    have htl : (x.h.take i).length = i := by simp; omega
    repeat (first | with_reducible refine ask.of (by omega) ?_ | simp -dsimp -implicitDefEqProofs only [go_sem, Nat.reduceBEq, Nat.reduceAdd, Nat.reduceLeDiff, Nat.reduceSub, Int.reduceEq, h1, h2, h3, h8, h9, h10, hs1, hs2, hs3, hs50, bleR, Sn_at hlt, snC, ble67, bl4])
    refine CallE.of (c_packetCopy x.h[i].p hp) (by rintro r rfl; (repeat' first | exact trivial | exact pure_rowB _ | exact pure_rowO _ | exact pure_rowI _ | exact pure_rowBB _ | exact pure_rowPk _ _ | exact pure_rowSn _ _ | exact pure_rowFd _ _ | exact pure_rowBBB _ | exact pure_rowCl _ _ | exact pure_rowTb _ _ _ | refine And.intro ?_ ?_)) (by simp -dsimp -implicitDefEqProofs only [go_sem, Nat.reduceBEq, Nat.reduceAdd, Nat.reduceLeDiff, Nat.reduceSub, Int.reduceEq, h1, h2, h3, h8, h9, h10, hs1, hs2, hs3, hs50, pkC]) ?_
    rintro r rfl
    simp -dsimp -implicitDefEqProofs only [go_sem, Nat.reduceBEq, Nat.reduceAdd, Nat.reduceLeDiff, Nat.reduceSub, Int.reduceEq, h1, h2, h3, h8, h9, h10, hs1, hs2, hs3, hs50, pkC]
    repeat (first | with_reducible refine ask.of (by first | omega | decide) ?_ | simp -dsimp -implicitDefEqProofs only [go_sem, Nat.reduceBEq, Nat.reduceAdd, Nat.reduceLeDiff, Nat.reduceSub, Int.reduceEq, h1, h2, h3, h8, h9, h10, hs1, hs2, hs3, hs50, bleR, snC, ble67, bl4])
    refine CallE.mutLend (c_put (x.h.take i) x.h[i] (by omega) hp) (by simp -dsimp -implicitDefEqProofs only [go_sem, Nat.reduceBEq, Nat.reduceAdd, Nat.reduceLeDiff, Nat.reduceSub, Int.reduceEq, h1, h2, h3, h8, h9, h10, hs1, hs2, hs3, hs50]) (by simp -dsimp -implicitDefEqProofs only [go_sem, Nat.reduceBEq, Nat.reduceAdd, Nat.reduceLeDiff, Nat.reduceSub, Int.reduceEq, h1, h2, h3, h8, h9, h10, hs1, hs2, hs3, hs50, snC]) (by simp -dsimp -implicitDefEqProofs only [go_sem, Nat.reduceBEq, Nat.reduceAdd, Nat.reduceLeDiff, Nat.reduceSub, Int.reduceEq, h1, h2, h3, h8, h9, h10, hs1, hs2, hs3, hs50, snC]) ?_
    rintro r rs ⟨rfl, rfl⟩
    simp -dsimp -implicitDefEqProofs only [go_sem, Nat.reduceBEq, Nat.reduceAdd, Nat.reduceLeDiff, Nat.reduceSub, Int.reduceEq, h1, h2, h3, h8, h9, h10, hs1, hs2, hs3, hs50, snC]
    repeat (first | with_reducible refine ask.of (by first | omega | decide) ?_ | simp -dsimp -implicitDefEqProofs only [go_sem, Nat.reduceBEq, Nat.reduceAdd, Nat.reduceLeDiff, Nat.reduceSub, Int.reduceEq, h1, h2, h3, h8, h9, h10, hs1, hs2, hs3, hs50, bleR, snC, ble67, bl4])
    refine hK _ _ hlt (Wk.refl _) ?_
    simp -dsimp -implicitDefEqProofs only [go_sem, Nat.reduceBEq, Nat.reduceAdd, Nat.reduceLeDiff, Nat.reduceSub, Int.reduceEq, h1, h2, h3, h8, h9, h10, hs1, hs2, hs3, hs50, wrap_succ (show i < 4611686018427387904 by omega), sn_take hlt]
  · have : i = x.h.length := by omega
    subst this
    rw [List.take_length] at hs50
    simp -dsimp -implicitDefEqProofs only [go_sem, Nat.reduceBEq, Nat.reduceAdd, Nat.reduceLeDiff, Nat.reduceSub, Int.reduceEq, h1, h2, h3, h8, h9, h10, hs1, hs2, hs3, hs50]
    repeat (first | with_reducible refine ask.of (by omega) ?_ | simp -dsimp -implicitDefEqProofs only [go_sem, Nat.reduceBEq, Nat.reduceAdd, Nat.reduceLeDiff, Nat.reduceSub, Int.reduceEq, h1, h2, h3, h8, h9, h10, hs1, hs2, hs3, hs50, bleR, bl4])
end Go.Ev
set_option linter.unusedSimpArgs false
set_option linter.unusedVariables false
namespace Go.Ev
open Go Go.RowKit Go.Proofs
def lo0 : LO := ⟨0, 0, 0, []⟩
noncomputable def resL (xc : LO × Int) : AV := .tup [.agg (loC 122 xc.1), .v (.int .i64 xc.2)]
theorem loB_t {x : LO} (h : loB x = true) : okLO x := of_decide_eq_true (inst := Classical.propDecidable _) h
theorem loB_f {x : LO} (h : loB x = false) : ¬ okLO x := of_decide_eq_false (inst := Classical.propDecidable _) h
end Go.Ev
set_option linter.unusedSimpArgs false
set_option linter.unusedVariables false
namespace Go.Ev
open Go Go.RowKit Go.Proofs
def mkSn (k : Nat) (s : Sn) : Sn := ⟨⟨(k : Nat), ((k + 1 : Nat) : Int), ((k + 2 : Nat) : Int), ((k + 3 : Nat) : Int), decide (((k + 4 : Nat) : Int).tmod 3 = 0), mkB (k + 5) s.p.f.length⟩, ((k + 5 + s.p.f.length : Nat) : Int)⟩
def szSn (s : Sn) : Nat := 6 + s.p.f.length
def mkSnS (k : Nat) (xs : List Sn) : List Sn := mkL mkSn szSn k xs
theorem Sn_at' {xs : List Sn} {i : Nat} {s : Sn} (h : xs[i]? = some s) : (ra snC xs)[i]? = some (snC s) := ra_at' h
theorem sn_set (xs : List Sn) (i : Nat) (s : Sn) : (ra snC xs).set i [.v (.int .i64 s.p.a), .v (.int .i64 s.p.b), .v (.int .i64 s.p.c), .v (.int .i64 s.p.d), .v (.bool s.p.e), .row 5 1 (bytesA s.p.f), .v (.int .i64 s.q)] = ra snC (xs.set i s) := ra_set xs i s
theorem wrapA (m j : Nat) (h : m + j < 4611686018427387904) : IntKind.i64.wrap (((m + j : Nat) : Int) + 1) = ((m + (j + 1) : Nat) : Int) := by rw [wrap_i64_of (by omega) (by omega)]; omega
theorem bl7 : Nat.ble 1 7 = true ∧ Nat.ble 2 7 = true ∧ Nat.ble 3 7 = true ∧ Nat.ble 4 7 = true ∧ Nat.ble 5 7 = true ∧ Nat.ble 6 7 = true ∧ Nat.ble 7 7 = true := ⟨rfl, rfl, rfl, rfl, rfl, rfl, rfl⟩
set_option maxHeartbeats 4000000 in
set_option maxRecDepth 8000 in
theorem c_markSentS (xs : List Sn) (k : Nat) (hk : k + szL szSn xs ≤ 4611686018427387904) (hx : xs.length ≤ 1048576) (hb : ∀ b ∈ xs, b.p.f.length ≤ 1048576) : MeetsM Tryz.prog 83 [.mu (rowSn 122 xs), .rd (.v (.int .i64 k))] (fun r rs => r = .v (.int .i64 ((k + szL szSn xs : Nat) : Int)) ∧ rs = [rowSn 122 (mkSnS k xs), .any]) := by
  refine MeetsM.intro mixed (hint []) Tryz.func83 rfl (by decide) res_83 rty_83 (pts := parTys Tryz.prog 83) (by rw [par_83]; rfl) (by kernel_rfl) ?_; rw [par_83]; intro vals; 
  simp -dsimp -implicitDefEqProofs only [go_sem, Nat.reduceBEq, Nat.reduceAdd, Nat.reduceLeDiff, Nat.reduceSub, Int.reduceEq, rowSn]
  refine LoopE.cnt xs.length (fun i s => s.env 0 = .ref [1000000, 0] ∧ s.env 1 = .v (.int .i64 ((k + szL szSn (xs.take i) : Nat) : Int)) ∧ s.env 5 = .v (.int .i64 i) ∧ s.σ [1000000, 0] = some (.row 122 7 (ra snC (mkLP mkSn szSn k xs i))) ∧ s.σ [1000001, 0] = some (.pin (.ref [1000000, 0]) (vals 0))) ⟨by simp -dsimp -implicitDefEqProofs only [go_sem, Nat.reduceBEq, Nat.reduceAdd, Nat.reduceLeDiff, Nat.reduceSub, Int.reduceEq], by simp -dsimp -implicitDefEqProofs only [go_sem, Nat.reduceBEq, Nat.reduceAdd, Nat.reduceLeDiff, Nat.reduceSub, Int.reduceEq] <;> simp [szL], by simp -dsimp -implicitDefEqProofs only [go_sem, Nat.reduceBEq, Nat.reduceAdd, Nat.reduceLeDiff, Nat.reduceSub, Int.reduceEq] <;> simp, by simp -dsimp -implicitDefEqProofs only [go_sem, Nat.reduceBEq, Nat.reduceAdd, Nat.reduceLeDiff, Nat.reduceSub, Int.reduceEq, mkLP_zero], by simp -dsimp -implicitDefEqProofs only [go_sem, Nat.reduceBEq, Nat.reduceAdd, Nat.reduceLeDiff, Nat.reduceSub, Int.reduceEq]⟩ ?_
  rintro i ⟨e, σ⟩ hi ⟨h0, h1, h5, hs, hp⟩ K hK
  simp only at h0 h1 h5 hs hp
  have hl := mkLP_length mkSn szSn k hi
  simp -dsimp -implicitDefEqProofs only [go_sem, Nat.reduceBEq, Nat.reduceAdd, Nat.reduceLeDiff, Nat.reduceSub, Int.reduceEq, h0, h1, h5, hs, hp, hl]
  refine ifB'.of (fun hlt => ?_) (fun hlt => ?_)
  · have hlt : i < xs.length := by omega
    have hw := szL_at_le szSn hlt
    have hpb := hb _ (List.getElem_mem hlt)
    have hat := Sn_at' (mkLP_at mkSn szSn k hlt)
    have hgs : ∀ c : List AV, ((ra snC (mkLP mkSn szSn k xs i)).set i c)[i]? = some c := fun c => by rw [List.getElem?_set_self]; rw [ra_length]; omega
    obtain ⟨m, hm⟩ : ∃ m, k + szL szSn (xs.take i) = m := ⟨_, rfl⟩
    rw [hm] at h1
    have hwm : m + (6 + xs[i].p.f.length) ≤ 4611686018427387904 := by unfold szSn at hw hk hm; omega
    have e0 : IntKind.i64.wrap ((m : Int) + 1) = ((m + 1 : Nat) : Int) := wrapA m 0 (by omega)
    have e1 := wrapA m 1 (by omega)
    have e2 := wrapA m 2 (by omega)
    have e3 := wrapA m 3 (by omega)
    have e4 := wrapA m 4 (by omega)
    repeat (first | with_reducible refine ask.of (by first | omega | decide | (simp [hl]; omega)) ?_ | simp -dsimp -implicitDefEqProofs only [go_sem, Nat.reduceBEq, Nat.reduceAdd, Nat.reduceLeDiff, Nat.reduceSub, Int.reduceEq, h0, h1, h5, hs, hp, hl, hat, snC, hgs, List.set_set, List.length_set, bl7, e0, e1, e2, e3, e4])
    refine CallE.mut (c_markByteS xs[i].p.f (m + 5) (by omega) (by omega)) (by simp -dsimp -implicitDefEqProofs only [go_sem, Nat.reduceBEq, Nat.reduceAdd, Nat.reduceLeDiff, Nat.reduceSub, Int.reduceEq, h0, h1, h5, hs, hp]) (by rintro r rs ⟨rfl, rfl⟩; exact ⟨by (repeat' first | exact trivial | exact pure_rowB _ | exact pure_rowO _ | exact pure_rowI _ | exact pure_rowBB _ | exact pure_rowPk _ _ | exact pure_rowSn _ _ | exact pure_rowFd _ _ | exact pure_rowBBB _ | exact pure_rowCl _ _ | exact pure_rowTb _ _ _ | refine And.intro ?_ ?_), by first | exact ⟨by (repeat' first | exact trivial | exact pure_rowB _ | exact pure_rowO _ | exact pure_rowI _ | exact pure_rowBB _ | exact pure_rowPk _ _ | exact pure_rowSn _ _ | exact pure_rowFd _ _ | exact pure_rowBBB _ | exact pure_rowCl _ _ | exact pure_rowTb _ _ _ | refine And.intro ?_ ?_), trivial⟩ | exact ⟨by (repeat' first | exact trivial | exact pure_rowB _ | exact pure_rowO _ | exact pure_rowI _ | exact pure_rowBB _ | exact pure_rowPk _ _ | exact pure_rowSn _ _ | exact pure_rowFd _ _ | exact pure_rowBBB _ | exact pure_rowCl _ _ | exact pure_rowTb _ _ _ | refine And.intro ?_ ?_), trivial, trivial⟩⟩) (by simp -dsimp -implicitDefEqProofs only [go_sem, Nat.reduceBEq, Nat.reduceAdd, Nat.reduceLeDiff, Nat.reduceSub, Int.reduceEq, h0, h1, h5, hs, hp, hgs, List.set_set]) (by simp -dsimp -implicitDefEqProofs only [go_sem, Nat.reduceBEq, Nat.reduceAdd, Nat.reduceLeDiff, Nat.reduceSub, Int.reduceEq, h0, h1, h5, hs, hp, hgs, List.set_set]) ?_
    rintro r rs ⟨rfl, rfl⟩
    simp -dsimp -implicitDefEqProofs only [go_sem, Nat.reduceBEq, Nat.reduceAdd, Nat.reduceLeDiff, Nat.reduceSub, Int.reduceEq, h0, h1, h5, hs, hp, hgs, List.set_set]
    have e5 : IntKind.i64.wrap (((m + 5 + xs[i].p.f.length : Nat) : Int) + 1) = ((m + 5 + xs[i].p.f.length + 1 : Nat) : Int) := by rw [wrap_i64_of (by omega) (by omega)]; omega
    repeat (first | with_reducible refine ask.of (by first | omega | decide | (simp [hl]; omega)) ?_ | simp -dsimp -implicitDefEqProofs only [go_sem, Nat.reduceBEq, Nat.reduceAdd, Nat.reduceLeDiff, Nat.reduceSub, Int.reduceEq, h0, h1, h5, hs, hp, hl, hgs, List.set_set, List.length_set, bl7, e5])
    refine hK _ hlt ?_
    simp -dsimp -implicitDefEqProofs only [go_sem, Nat.reduceBEq, Nat.reduceAdd, Nat.reduceLeDiff, Nat.reduceSub, Int.reduceEq, h0, h1, h5, hs, hp, hgs, List.set_set, wrap_succ (show i < 4611686018427387904 by omega), szL_take_succ szSn hlt]
    refine ⟨by rw [← hm]; unfold szSn; omega, ?_⟩
    rw [← mkLP_set mkSn szSn k hlt (y := mkSn m xs[i]) (by rw [hm]), ← sn_set]
    rfl
  · have : i = xs.length := by omega
    subst this
    simp -dsimp -implicitDefEqProofs only [go_sem, Nat.reduceBEq, Nat.reduceAdd, Nat.reduceLeDiff, Nat.reduceSub, Int.reduceEq, h0, h1, h5, hs, hp, mkLP_full, List.take_length]
    rfl
set_option maxHeartbeats 4000000 in
set_option maxRecDepth 8000 in
theorem c_heldSentS (xs : List Sn) (k : Nat) (hk : k + szL szSn xs ≤ 4611686018427387904) (hx : xs.length ≤ 1048576) (hb : ∀ b ∈ xs, b.p.f.length ≤ 1048576) : Meets Tryz.prog 87 [rowSn 122 (mkSnS k xs), .v (.int .i64 k)] (fun r => r = .v (.int .i64 ((k + szL szSn xs : Nat) : Int))) := by
  refine Meets.intro mixed (hint []) Tryz.func87 rfl (by decide) res_87 rty_87 (by kernel_rfl) ?_; 
  simp -dsimp -implicitDefEqProofs only [go_sem, Nat.reduceBEq, Nat.reduceAdd, Nat.reduceLeDiff, Nat.reduceSub, Int.reduceEq, rowSn]
  refine LoopE.cnt xs.length (fun i s => s.env 0 = .rd .ent 122 7 (ra snC (mkSnS k xs)) ∧ s.env 1 = .v (.int .i64 ((k + szL szSn (xs.take i) : Nat) : Int)) ∧ s.env 5 = .v (.int .i64 i)) ⟨by simp -dsimp -implicitDefEqProofs only [go_sem, Nat.reduceBEq, Nat.reduceAdd, Nat.reduceLeDiff, Nat.reduceSub, Int.reduceEq, initE, rowSn], by simp -dsimp -implicitDefEqProofs only [go_sem, Nat.reduceBEq, Nat.reduceAdd, Nat.reduceLeDiff, Nat.reduceSub, Int.reduceEq, initE] <;> simp [szL], by simp -dsimp -implicitDefEqProofs only [go_sem, Nat.reduceBEq, Nat.reduceAdd, Nat.reduceLeDiff, Nat.reduceSub, Int.reduceEq] <;> simp⟩ ?_
  rintro i ⟨e, σ⟩ hi ⟨h0, h1, h5⟩ K hK
  simp only at h0 h1 h5
  have hl : (mkSnS k xs).length = xs.length := mkL_length mkSn szSn k xs
  simp -dsimp -implicitDefEqProofs only [go_sem, Nat.reduceBEq, Nat.reduceAdd, Nat.reduceLeDiff, Nat.reduceSub, Int.reduceEq, h0, h1, h5, hl]
  refine ifB'.of (fun hlt => ?_) (fun hlt => ?_)
  · have hlt : i < xs.length := by omega
    have hw := szL_at_le szSn hlt
    have hpb := hb _ (List.getElem_mem hlt)
    have hat := Sn_at' (mkL_at mkSn szSn k hlt)
    obtain ⟨m, hm⟩ : ∃ m, k + szL szSn (xs.take i) = m := ⟨_, rfl⟩
    rw [hm] at h1 hat
    have hat : (ra snC (mkSnS k xs))[i]? = some (snC (mkSn m xs[i])) := hat
    have hwm : m + (6 + xs[i].p.f.length) ≤ 4611686018427387904 := by unfold szSn at hw hk hm; omega
    have e0 : IntKind.i64.wrap ((m : Int) + 1) = ((m + 1 : Nat) : Int) := wrapA m 0 (by omega)
    have e1 := wrapA m 1 (by omega)
    have e2 := wrapA m 2 (by omega)
    have e3 := wrapA m 3 (by omega)
    have e4 := wrapA m 4 (by omega)
    have e5 : IntKind.i64.wrap (((m + 5 + xs[i].p.f.length : Nat) : Int) + 1) = ((m + 5 + xs[i].p.f.length + 1 : Nat) : Int) := by rw [wrap_i64_of (by omega) (by omega)]; omega
    repeat (first | with_reducible refine ask.of (by first | omega | decide | (simp [hl]; omega)) ?_ | simp -dsimp -implicitDefEqProofs only [go_sem, Nat.reduceBEq, Nat.reduceAdd, Nat.reduceLeDiff, Nat.reduceSub, Int.reduceEq, h0, h1, h5, hl, hat, snC, mkSn, bl7, e0, e1, e2, e3, e4, decide_true, Bool.not_true])
    refine CallE.of (c_heldByteS (m + 5) xs[i].p.f.length (by omega) (by omega)) (by rintro r rfl; (repeat' first | exact trivial | exact pure_rowB _ | exact pure_rowO _ | exact pure_rowI _ | exact pure_rowBB _ | exact pure_rowPk _ _ | exact pure_rowSn _ _ | exact pure_rowFd _ _ | exact pure_rowBBB _ | exact pure_rowCl _ _ | exact pure_rowTb _ _ _ | refine And.intro ?_ ?_)) (by simp -dsimp -implicitDefEqProofs only [go_sem, Nat.reduceBEq, Nat.reduceAdd, Nat.reduceLeDiff, Nat.reduceSub, Int.reduceEq, h0, h1, h5, mkB]) ?_
    rintro r rfl
    simp -dsimp -implicitDefEqProofs only [go_sem, Nat.reduceBEq, Nat.reduceAdd, Nat.reduceLeDiff, Nat.reduceSub, Int.reduceEq, h0, h1, h5, mkB]
    refine ifB'.of (fun h => by omega) (fun h => ?_)
    repeat (first | with_reducible refine ask.of (by first | omega | decide | (simp [hl]; omega)) ?_ | simp -dsimp -implicitDefEqProofs only [go_sem, Nat.reduceBEq, Nat.reduceAdd, Nat.reduceLeDiff, Nat.reduceSub, Int.reduceEq, h0, h1, h5, hl, hat, snC, mkSn, bl7, e5, decide_true, Bool.not_true])
    refine hK _ hlt ?_
    simp -dsimp -implicitDefEqProofs only [go_sem, Nat.reduceBEq, Nat.reduceAdd, Nat.reduceLeDiff, Nat.reduceSub, Int.reduceEq, h0, h1, h5, wrap_succ (show i < 4611686018427387904 by omega), szL_take_succ szSn hlt]
    rw [← hm]; unfold szSn; omega
  · have : i = xs.length := by omega
    subst this
    simp -dsimp -implicitDefEqProofs only [go_sem, Nat.reduceBEq, Nat.reduceAdd, Nat.reduceLeDiff, Nat.reduceSub, Int.reduceEq, h0, h1, h5, List.take_length]
theorem c_markLinkOut (x : LO) (k : Nat) (hk : k + szL szSn x.h ≤ 4611686018427387904) (hx : x.h.length ≤ 1048576) (hb : ∀ b ∈ x.h, b.p.f.length ≤ 1048576) : MeetsM Tryz.prog 37 [.mu (.agg (loC 122 x)), .rd (.v (.int .i64 k))] (fun r rs => r = .v (.int .i64 ((k + szL szSn x.h : Nat) : Int)) ∧ rs = [.agg (loC 122 { x with h := mkSnS k x.h }), .any]) := by
  refine MeetsM.intro mixed (hint []) Tryz.func37 rfl (by decide) res_37 rty_37 (pts := parTys Tryz.prog 37) (by rw [par_37]; rfl) (by kernel_rfl) ?_; rw [par_37]; intro vals; 
  simp -dsimp -implicitDefEqProofs only [go_sem, Nat.reduceBEq, Nat.reduceAdd, Nat.reduceLeDiff, Nat.reduceSub, Int.reduceEq, loC]
  repeat (first | with_reducible refine ask.of (by omega) ?_ | simp -dsimp -implicitDefEqProofs only [go_sem, Nat.reduceBEq, Nat.reduceAdd, Nat.reduceLeDiff, Nat.reduceSub, Int.reduceEq, bleR, bl4])
  refine CallE.mut (c_markSentS x.h k hk hx hb) (by simp -dsimp -implicitDefEqProofs only [go_sem, Nat.reduceBEq, Nat.reduceAdd, Nat.reduceLeDiff, Nat.reduceSub, Int.reduceEq]) (by rintro r rs ⟨rfl, rfl⟩; exact ⟨by (repeat' first | exact trivial | exact pure_rowB _ | exact pure_rowO _ | exact pure_rowI _ | exact pure_rowBB _ | exact pure_rowPk _ _ | exact pure_rowSn _ _ | exact pure_rowFd _ _ | exact pure_rowBBB _ | exact pure_rowCl _ _ | exact pure_rowTb _ _ _ | refine And.intro ?_ ?_), by first | exact ⟨by (repeat' first | exact trivial | exact pure_rowB _ | exact pure_rowO _ | exact pure_rowI _ | exact pure_rowBB _ | exact pure_rowPk _ _ | exact pure_rowSn _ _ | exact pure_rowFd _ _ | exact pure_rowBBB _ | exact pure_rowCl _ _ | exact pure_rowTb _ _ _ | refine And.intro ?_ ?_), trivial⟩ | exact ⟨by (repeat' first | exact trivial | exact pure_rowB _ | exact pure_rowO _ | exact pure_rowI _ | exact pure_rowBB _ | exact pure_rowPk _ _ | exact pure_rowSn _ _ | exact pure_rowFd _ _ | exact pure_rowBBB _ | exact pure_rowCl _ _ | exact pure_rowTb _ _ _ | refine And.intro ?_ ?_), trivial, trivial⟩⟩) (by simp -dsimp -implicitDefEqProofs only [go_sem, Nat.reduceBEq, Nat.reduceAdd, Nat.reduceLeDiff, Nat.reduceSub, Int.reduceEq, rowSn]) (by simp -dsimp -implicitDefEqProofs only [go_sem, Nat.reduceBEq, Nat.reduceAdd, Nat.reduceLeDiff, Nat.reduceSub, Int.reduceEq, rowSn]) ?_
  rintro r rs ⟨rfl, rfl⟩
  simp -dsimp -implicitDefEqProofs only [go_sem, Nat.reduceBEq, Nat.reduceAdd, Nat.reduceLeDiff, Nat.reduceSub, Int.reduceEq, rowSn]
theorem c_heldLinkOut (x : LO) (k : Nat) (hk : k + szL szSn x.h ≤ 4611686018427387904) (hx : x.h.length ≤ 1048576) (hb : ∀ b ∈ x.h, b.p.f.length ≤ 1048576) : Meets Tryz.prog 41 [.agg (loC 122 { x with h := mkSnS k x.h }), .v (.int .i64 k)] (fun r => r = .v (.int .i64 ((k + szL szSn x.h : Nat) : Int))) := by
  refine Meets.intro mixed (hint []) Tryz.func41 rfl (by decide) res_41 rty_41 (by kernel_rfl) ?_; 
  simp -dsimp -implicitDefEqProofs only [go_sem, Nat.reduceBEq, Nat.reduceAdd, Nat.reduceLeDiff, Nat.reduceSub, Int.reduceEq, loC]
  repeat (first | with_reducible refine ask.of (by omega) ?_ | simp -dsimp -implicitDefEqProofs only [go_sem, Nat.reduceBEq, Nat.reduceAdd, Nat.reduceLeDiff, Nat.reduceSub, Int.reduceEq, bleR, bl4])
  refine CallE.of (c_heldSentS x.h k hk hx hb) (by rintro r rfl; (repeat' first | exact trivial | exact pure_rowB _ | exact pure_rowO _ | exact pure_rowI _ | exact pure_rowBB _ | exact pure_rowPk _ _ | exact pure_rowSn _ _ | exact pure_rowFd _ _ | exact pure_rowBBB _ | exact pure_rowCl _ _ | exact pure_rowTb _ _ _ | refine And.intro ?_ ?_)) (by simp -dsimp -implicitDefEqProofs only [go_sem, Nat.reduceBEq, Nat.reduceAdd, Nat.reduceLeDiff, Nat.reduceSub, Int.reduceEq, rowSn]) ?_
  rintro r rfl
  simp -dsimp -implicitDefEqProofs only [go_sem, Nat.reduceBEq, Nat.reduceAdd, Nat.reduceLeDiff, Nat.reduceSub, Int.reduceEq, rowSn]
  refine ifB'.of (fun h => by omega) (fun h => ?_)
  simp -dsimp -implicitDefEqProofs only [go_sem, Nat.reduceBEq, Nat.reduceAdd, Nat.reduceLeDiff, Nat.reduceSub, Int.reduceEq]
end Go.Ev
