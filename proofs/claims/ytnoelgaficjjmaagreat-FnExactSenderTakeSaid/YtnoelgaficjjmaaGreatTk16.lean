/- Part 16 of what the row leans on: the evaluator, words, contracts of functions; pruned by a program of ours. -/
import Derived.Test.YtnoelgaficjjmaaGreatTk15
set_option linter.unusedSimpArgs false
set_option linter.unusedVariables false
namespace Go.Ev
open Go Go.RowKit Go.Proofs
def SdO (x : Sd) : Prop := (x.f.length ≤ 140737488355328 ∧ ∀ p ∈ x.f, p.f.length ≤ 140737488355328) ∧ (x.t.length ≤ 140737488355328 ∧ ∀ t ∈ x.t, t.c.length ≤ 140737488355328 ∧ ∀ p ∈ t.c, p.f.length ≤ 140737488355328 ∧ -9223372036854775808 ≤ p.i ∧ p.i ≤ 9223372036854775807)
  ∧ (x.o.h.length ≤ 140737488355328 ∧ (∀ b ∈ x.o.h, b.p.f.length ≤ 140737488355328)) ∧ (x.s.fs.length ≤ 140737488355328 ∧ (∀ b ∈ x.s.fs, b.f.length ≤ 140737488355328) ∧ x.s.ds.length ≤ 140737488355328 ∧ ∀ b ∈ x.s.ds, b.length ≤ 140737488355328 ∧ ∀ c ∈ b, c.length ≤ 140737488355328)
theorem neg1 : decide ((-1 : Int) < 0) = true := rfl
set_option maxRecDepth 8000 in
theorem c_szSender (x : Sd) (left : Nat) (hl : left ≤ 1048576) (hx : SdO x) : Meets Tryz.prog 5 [.agg (sdCl x), .v (.int .i64 left)] (fun r => r = .v (.int .i64 (szR left (sdW x)))) := by
  refine Meets.intro mixed (hint []) Tryz.func5 rfl (by decide) res_5 rty_5 (by kernel_rfl) ?_; 
  simp -dsimp -implicitDefEqProofs only [go_sem, sdCl, sdC]
  repeat (first | with_reducible refine ask.of (by first | omega | decide) ?_ | simp -dsimp -implicitDefEqProofs only [go_sem, bl13])
  refine CallE.of (c_szFieldS x.f left hl hx.1.1 hx.1.2) (by rintro r rfl; (repeat' first | exact trivial | exact pure_rowB _ | exact pure_rowO _ | exact pure_rowI _ | exact pure_rowBB _ | exact pure_rowPk _ _ | exact pure_rowSn _ _ | exact pure_rowFd _ _ | exact pure_rowBBB _ | exact pure_rowCl _ _ | exact pure_rowTb _ _ _ | refine And.intro ?_ ?_)) (by simp -dsimp -implicitDefEqProofs only [go_sem, rowFd]) ?_
  rintro r rfl
  simp -dsimp -implicitDefEqProofs only [go_sem, rowFd]
  have hw : sdW x = x.f.length + szL fdW x.f + (x.t.length + szL tbW x.t) + loW x.o + smW x.s := rfl
  by_cases h1 : x.f.length + szL fdW x.f ≤ left
  rotate_left
  · rw [szR_no h1]; simp -dsimp -implicitDefEqProofs only [go_sem, neg1]; rw [szR_no (by omega)]
  rw [szR_ok h1]
  with_reducible refine ifB'.no (by omega) ?_
  repeat (first | with_reducible refine ask.of (by first | omega | decide) ?_ | simp -dsimp -implicitDefEqProofs only [go_sem, bl13])
  refine CallE.of (c_szTableS x.t (left - (x.f.length + szL fdW x.f)) (by omega) hx.2.1.1 (fun t ht => ⟨(hx.2.1.2 t ht).1, fun c hc => ((hx.2.1.2 t ht).2 c hc).1⟩)) (by rintro r rfl; (repeat' first | exact trivial | exact pure_rowB _ | exact pure_rowO _ | exact pure_rowI _ | exact pure_rowBB _ | exact pure_rowPk _ _ | exact pure_rowSn _ _ | exact pure_rowFd _ _ | exact pure_rowBBB _ | exact pure_rowCl _ _ | exact pure_rowTb _ _ _ | refine And.intro ?_ ?_)) (by simp -dsimp -implicitDefEqProofs only [go_sem, rowTb]) ?_
  rintro r rfl
  simp -dsimp -implicitDefEqProofs only [go_sem, rowTb]
  by_cases h2 : x.t.length + szL tbW x.t ≤ left - (x.f.length + szL fdW x.f)
  rotate_left
  · rw [szR_no h2]; simp -dsimp -implicitDefEqProofs only [go_sem, neg1]; rw [szR_no (by omega)]
  rw [szR_ok h2]
  with_reducible refine ifB'.no (by omega) ?_
  repeat (first | with_reducible refine ask.of (by first | omega | decide) ?_ | simp -dsimp -implicitDefEqProofs only [go_sem, bl13])
  refine CallE.of (c_szLinkOut x.o (left - (x.f.length + szL fdW x.f) - (x.t.length + szL tbW x.t)) (by omega) hx.2.2.1.1 hx.2.2.1.2) (by rintro r rfl; (repeat' first | exact trivial | exact pure_rowB _ | exact pure_rowO _ | exact pure_rowI _ | exact pure_rowBB _ | exact pure_rowPk _ _ | exact pure_rowSn _ _ | exact pure_rowFd _ _ | exact pure_rowBBB _ | exact pure_rowCl _ _ | exact pure_rowTb _ _ _ | refine And.intro ?_ ?_)) (by simp -dsimp -implicitDefEqProofs only [go_sem, loC]) ?_
  rintro r rfl
  simp -dsimp -implicitDefEqProofs only [go_sem, loC]
  by_cases h3 : loW x.o ≤ left - (x.f.length + szL fdW x.f) - (x.t.length + szL tbW x.t)
  rotate_left
  · rw [szR_no h3]; simp -dsimp -implicitDefEqProofs only [go_sem, neg1]; rw [szR_no (by omega)]
  rw [szR_ok h3]
  with_reducible refine ifB'.no (by omega) ?_
  repeat (first | with_reducible refine ask.of (by first | omega | decide) ?_ | simp -dsimp -implicitDefEqProofs only [go_sem, bl13])
  refine CallE.of (c_szStream x.s (left - (x.f.length + szL fdW x.f) - (x.t.length + szL tbW x.t) - loW x.o) (by omega) hx.2.2.2.1 hx.2.2.2.2.1 hx.2.2.2.2.2.1 hx.2.2.2.2.2.2) (by rintro r rfl; (repeat' first | exact trivial | exact pure_rowB _ | exact pure_rowO _ | exact pure_rowI _ | exact pure_rowBB _ | exact pure_rowPk _ _ | exact pure_rowSn _ _ | exact pure_rowFd _ _ | exact pure_rowBBB _ | exact pure_rowCl _ _ | exact pure_rowTb _ _ _ | refine And.intro ?_ ?_)) (by simp -dsimp -implicitDefEqProofs only [go_sem, smC]) ?_
  rintro r rfl
  simp -dsimp -implicitDefEqProofs only [go_sem, smC]
  by_cases h4 : smW x.s ≤ left - (x.f.length + szL fdW x.f) - (x.t.length + szL tbW x.t) - loW x.o
  rotate_left
  · rw [szR_no h4]; simp -dsimp -implicitDefEqProofs only [go_sem, neg1]; rw [szR_no (by omega)]
  rw [szR_ok h4]
  with_reducible refine ifB'.no (by omega) ?_
  simp -dsimp -implicitDefEqProofs only [go_sem]
  rw [szR_ok (by omega), show left - (x.f.length + szL fdW x.f) - (x.t.length + szL tbW x.t) - loW x.o - smW x.s = left - sdW x by omega]
structure SdT (x : Sd) : Prop extends SdB x where
  tt : ∀ t ∈ x.t, tOk t 1048576
  sdl : ∀ b ∈ x.s.ds, lenOk b 1048576
theorem sd_T {x : Sd} (ho : SdO x) (hw : sdW x ≤ 1048576) : SdT x := by
  have hd : sdW x = x.f.length + szL fdW x.f + (x.t.length + szL tbW x.t) + (x.o.h.length + szL snW x.o.h) + (x.s.fs.length + szL fdW x.s.fs + (x.s.ds.length + szL bbW x.s.ds)) := rfl
  have h4 : ∀ b ∈ x.s.ds, b.length + wBB b ≤ 1048576 := fun b hb => by have := mem_bbW hb; omega
  refine ⟨⟨by omega, fun b hb => by have := mem_fdW hb; omega, by omega, fun t ht => ⟨?_, fun c hc => ((ho.2.1.2 t ht).2 c hc).2⟩, by omega, fun b hb => ?_, by omega, fun b hb => by have := mem_fdW hb; omega, by omega, h4⟩, fun t ht => tbW_ok (by have := mem_tbW ht; omega), fun b hb => ⟨by have := h4 b hb; omega, fun c hc => by have := h4 b hb; have := mem_wBB hc; omega⟩⟩
  · have := mem_tbW ht; have e : tbW t = t.c.length + szL clW t.c := rfl; omega
  · obtain ⟨i, hi, rfl⟩ := List.mem_iff_getElem.1 hb
    have := szL_at_le snW hi
    have e : snW x.o.h[i] = x.o.h[i].p.f.length := rfl
    omega
set_option maxRecDepth 8000 in
set_option maxHeartbeats 1000000 in
theorem c_toSender (x : Sd) (hx : SdT x) : Meets Tryz.prog 7 [.agg (sdCl x)] (fun r => r = .agg (sdCi x)) := by
  refine Meets.intro mixed (hint []) Tryz.func7 rfl (by decide) res_7 rty_7 (by kernel_rfl) ?_; 
  simp -dsimp -implicitDefEqProofs only [go_sem, sdCl, sdC]
  repeat' (first
    | with_reducible refine ask.of (by omega) ?_
    | (refine CallE.of (c_toFieldS x.f hx.f hx.fb) ?_ ?_ ?_; rotate_left; (· (simp -dsimp -implicitDefEqProofs only [go_sem, bl13, sdCi, sdC, rowFd, rowTb, loC, smC]; done)); rotate_left; (· (rintro r rfl; (repeat' first | exact trivial | exact pure_rowB _ | exact pure_rowO _ | exact pure_rowI _ | exact pure_rowBB _ | exact pure_rowPk _ _ | exact pure_rowSn _ _ | exact pure_rowFd _ _ | exact pure_rowBBB _ | exact pure_rowCl _ _ | exact pure_rowTb _ _ _ | refine And.intro ?_ ?_))); rintro r rfl; try simp -dsimp -implicitDefEqProofs only [go_sem, bl13, sdCi, sdC, rowFd, rowTb, loC, smC])
    | (refine CallE.of (c_toTableS x.t hx.t hx.tt) ?_ ?_ ?_; rotate_left; (· (simp -dsimp -implicitDefEqProofs only [go_sem, bl13, sdCi, sdC, rowFd, rowTb, loC, smC]; done)); rotate_left; (· (rintro r rfl; (repeat' first | exact trivial | exact pure_rowB _ | exact pure_rowO _ | exact pure_rowI _ | exact pure_rowBB _ | exact pure_rowPk _ _ | exact pure_rowSn _ _ | exact pure_rowFd _ _ | exact pure_rowBBB _ | exact pure_rowCl _ _ | exact pure_rowTb _ _ _ | refine And.intro ?_ ?_))); rintro r rfl; try simp -dsimp -implicitDefEqProofs only [go_sem, bl13, sdCi, sdC, rowFd, rowTb, loC, smC])
    | (refine CallE.of (c_toLinkOut x.o hx.o hx.ob) ?_ ?_ ?_; rotate_left; (· (simp -dsimp -implicitDefEqProofs only [go_sem, bl13, sdCi, sdC, rowFd, rowTb, loC, smC]; done)); rotate_left; (· (rintro r rfl; (repeat' first | exact trivial | exact pure_rowB _ | exact pure_rowO _ | exact pure_rowI _ | exact pure_rowBB _ | exact pure_rowPk _ _ | exact pure_rowSn _ _ | exact pure_rowFd _ _ | exact pure_rowBBB _ | exact pure_rowCl _ _ | exact pure_rowTb _ _ _ | refine And.intro ?_ ?_))); rintro r rfl; try simp -dsimp -implicitDefEqProofs only [go_sem, bl13, sdCi, sdC, rowFd, rowTb, loC, smC])
    | (refine CallE.of (c_toStream x.s hx.sf hx.sfb hx.sd hx.sdl) ?_ ?_ ?_; rotate_left; (· (simp -dsimp -implicitDefEqProofs only [go_sem, bl13, sdCi, sdC, rowFd, rowTb, loC, smC]; done)); rotate_left; (· (rintro r rfl; (repeat' first | exact trivial | exact pure_rowB _ | exact pure_rowO _ | exact pure_rowI _ | exact pure_rowBB _ | exact pure_rowPk _ _ | exact pure_rowSn _ _ | exact pure_rowFd _ _ | exact pure_rowBBB _ | exact pure_rowCl _ _ | exact pure_rowTb _ _ _ | refine And.intro ?_ ?_))); rintro r rfl; try simp -dsimp -implicitDefEqProofs only [go_sem, bl13, sdCi, sdC, rowFd, rowTb, loC, smC])
    | with_reducible refine ifB'.no (by omega) ?_
    | simp -dsimp -implicitDefEqProofs only [go_sem, bl13, sdCi, sdC, rowFd, rowTb, loC, smC])
set_option maxRecDepth 8000 in
set_option maxHeartbeats 1000000 in
theorem c_eqSender (x : Sd) (hx : SdT x) : Meets Tryz.prog 9 [.agg (sdCi x), .agg (sdCi x)] (fun r => r = .v (.bool true)) := by
  refine Meets.intro mixed (hint []) Tryz.func9 rfl (by decide) res_9 rty_9 (by kernel_rfl) ?_; 
  simp -dsimp -implicitDefEqProofs only [go_sem, sdCi, sdC]
  repeat' (first
    | with_reducible refine ask.of (by omega) ?_
    | (refine CallE.of (c_eqFieldS x.f hx.f hx.fb) ?_ ?_ ?_; rotate_left; (· (simp -dsimp -implicitDefEqProofs only [go_sem, bl13, sdCi, sdC, rowFd, rowTb, loC, smC, Bool.not_true, decide_true]; done)); rotate_left; (· (rintro r rfl; (repeat' first | exact trivial | exact pure_rowB _ | exact pure_rowO _ | exact pure_rowI _ | exact pure_rowBB _ | exact pure_rowPk _ _ | exact pure_rowSn _ _ | exact pure_rowFd _ _ | exact pure_rowBBB _ | exact pure_rowCl _ _ | exact pure_rowTb _ _ _ | refine And.intro ?_ ?_))); rintro r rfl; try simp -dsimp -implicitDefEqProofs only [go_sem, bl13, sdCi, sdC, rowFd, rowTb, loC, smC, Bool.not_true, decide_true])
    | (refine CallE.of (c_eqTableS x.t hx.t hx.tt) ?_ ?_ ?_; rotate_left; (· (simp -dsimp -implicitDefEqProofs only [go_sem, bl13, sdCi, sdC, rowFd, rowTb, loC, smC, Bool.not_true, decide_true]; done)); rotate_left; (· (rintro r rfl; (repeat' first | exact trivial | exact pure_rowB _ | exact pure_rowO _ | exact pure_rowI _ | exact pure_rowBB _ | exact pure_rowPk _ _ | exact pure_rowSn _ _ | exact pure_rowFd _ _ | exact pure_rowBBB _ | exact pure_rowCl _ _ | exact pure_rowTb _ _ _ | refine And.intro ?_ ?_))); rintro r rfl; try simp -dsimp -implicitDefEqProofs only [go_sem, bl13, sdCi, sdC, rowFd, rowTb, loC, smC, Bool.not_true, decide_true])
    | (refine CallE.of (c_eqLinkOut x.o hx.o hx.ob) ?_ ?_ ?_; rotate_left; (· (simp -dsimp -implicitDefEqProofs only [go_sem, bl13, sdCi, sdC, rowFd, rowTb, loC, smC, Bool.not_true, decide_true]; done)); rotate_left; (· (rintro r rfl; (repeat' first | exact trivial | exact pure_rowB _ | exact pure_rowO _ | exact pure_rowI _ | exact pure_rowBB _ | exact pure_rowPk _ _ | exact pure_rowSn _ _ | exact pure_rowFd _ _ | exact pure_rowBBB _ | exact pure_rowCl _ _ | exact pure_rowTb _ _ _ | refine And.intro ?_ ?_))); rintro r rfl; try simp -dsimp -implicitDefEqProofs only [go_sem, bl13, sdCi, sdC, rowFd, rowTb, loC, smC, Bool.not_true, decide_true])
    | (refine CallE.of (c_eqStream x.s hx.sf hx.sfb hx.sd hx.sdl) ?_ ?_ ?_; rotate_left; (· (simp -dsimp -implicitDefEqProofs only [go_sem, bl13, sdCi, sdC, rowFd, rowTb, loC, smC, Bool.not_true, decide_true]; done)); rotate_left; (· (rintro r rfl; (repeat' first | exact trivial | exact pure_rowB _ | exact pure_rowO _ | exact pure_rowI _ | exact pure_rowBB _ | exact pure_rowPk _ _ | exact pure_rowSn _ _ | exact pure_rowFd _ _ | exact pure_rowBBB _ | exact pure_rowCl _ _ | exact pure_rowTb _ _ _ | refine And.intro ?_ ?_))); rintro r rfl; try simp -dsimp -implicitDefEqProofs only [go_sem, bl13, sdCi, sdC, rowFd, rowTb, loC, smC, Bool.not_true, decide_true])
    | with_reducible refine ifB'.no (by omega) ?_
    | simp -dsimp -implicitDefEqProofs only [go_sem, bl13, sdCi, sdC, rowFd, rowTb, loC, smC, Bool.not_true, decide_true])
end Go.Ev
set_option linter.unusedSimpArgs false
set_option linter.unusedVariables false
namespace Go.Ev
open Go Go.RowKit Go.Proofs
theorem wrapM (m j : Nat) (h : m + j < 4611686018427387904) : IntKind.i64.wrap (((m + j : Nat) : Int) + 1) = ((m + (j + 1) : Nat) : Int) := by rw [wrap_i64_of (by omega) (by omega)]; omega
def mkCl (k : Nat) (c : Cl) : Cl := ⟨decide ((k : Int).tmod 3 = 0), ((k + 1 : Nat) : Int), mkB (k + 2) c.f.length⟩
def szCl (c : Cl) : Nat := 2 + c.f.length
def mkClS (k : Nat) (xs : List Cl) : List Cl := mkL mkCl szCl k xs
theorem mkCl_at' {xs : List Cl} {i : Nat} {s : Cl} (h : xs[i]? = some s) : (ra clC xs)[i]? = some (clC s) := ra_at' h
theorem mkCl_set (xs : List Cl) (i : Nat) (s : Cl) : (ra clC xs).set i [.v (.bool s.z), .v (.int .i64 s.i), .row 5 1 (bytesA s.f)] = ra clC (xs.set i s) := ra_set (enc := clC) xs i s
set_option maxHeartbeats 4000000 in
set_option maxRecDepth 8000 in
theorem c_markCellS (xs : List Cl) (k : Nat) (hk : k + szL szCl xs ≤ 4611686018427387904) (hx : xs.length ≤ 1048576) (hb : ∀ b ∈ xs, b.f.length ≤ 1048576) : MeetsM Tryz.prog 82 [.mu (rowCl 149 xs), .rd (.v (.int .i64 k))] (fun r rs => r = .v (.int .i64 ((k + szL szCl xs : Nat) : Int)) ∧ rs = [rowCl 149 (mkClS k xs), .any]) := by
  refine MeetsM.intro mixed (hint []) Tryz.func82 rfl (by decide) res_82 rty_82 (pts := parTys Tryz.prog 82) (by rw [par_82]; rfl) (by kernel_rfl) ?_; rw [par_82]; intro vals; 
  simp -dsimp -implicitDefEqProofs only [go_sem, rowCl]
  refine LoopE.cnt xs.length (fun i s => s.env 0 = .ref [1000000, 0] ∧ s.env 1 = .v (.int .i64 ((k + szL szCl (xs.take i) : Nat) : Int)) ∧ s.env 5 = .v (.int .i64 i) ∧ s.σ [1000000, 0] = some (.row 149 3 (ra clC (mkLP mkCl szCl k xs i))) ∧ s.σ [1000001, 0] = some (.pin (.ref [1000000, 0]) (vals 0))) ⟨by simp -dsimp -implicitDefEqProofs only [go_sem], by simp -dsimp -implicitDefEqProofs only [go_sem] <;> simp [szL], by simp -dsimp -implicitDefEqProofs only [go_sem] <;> simp, by simp -dsimp -implicitDefEqProofs only [go_sem, mkLP_zero], by simp -dsimp -implicitDefEqProofs only [go_sem]⟩ ?_
  rintro i ⟨e, σ⟩ hi ⟨h0, h1, h5, hs, hp⟩ K hK
  simp only at h0 h1 h5 hs hp
  have hl := mkLP_length mkCl szCl k hi
  simp -dsimp -implicitDefEqProofs only [go_sem, h0, h1, h5, hs, hp, hl]
  refine ifB'.of (fun hlt => ?_) (fun hlt => ?_)
  · have hlt : i < xs.length := by omega
    have hw := szL_at_le szCl hlt
    have hpb := hb _ (List.getElem_mem hlt)
    have hat := mkCl_at' (mkLP_at mkCl szCl k hlt)
    have hgs : ∀ c : List AV, ((ra clC (mkLP mkCl szCl k xs i)).set i c)[i]? = some c := fun c => by rw [List.getElem?_set_self]; rw [ra_length]; omega
    obtain ⟨m, hm⟩ : ∃ m, k + szL szCl (xs.take i) = m := ⟨_, rfl⟩
    rw [hm] at h1
    have hwm : m + szCl xs[i] ≤ 4611686018427387904 := by omega
    unfold szCl at hwm
    have e0 : IntKind.i64.wrap ((m : Int) + 1) = ((m + 1 : Nat) : Int) := wrapM m 0 (by omega)
    have e1 := wrapM m 1 (by omega)
    repeat (first | with_reducible refine ask.of (by first | omega | decide | (simp [hl]; omega)) ?_ | simp -dsimp -implicitDefEqProofs only [go_sem, h0, h1, h5, hs, hp, hl, hat, clC, hgs, List.set_set, List.length_set, bl3, e0, e1])
    refine CallE.mut (c_markByteS xs[i].f (m + 2) (by omega) (by omega)) (by simp -dsimp -implicitDefEqProofs only [go_sem, h0, h1, h5, hs, hp]) (by rintro r rs ⟨rfl, rfl⟩; exact ⟨by (repeat' first | exact trivial | exact pure_rowB _ | exact pure_rowO _ | exact pure_rowI _ | exact pure_rowBB _ | exact pure_rowPk _ _ | exact pure_rowSn _ _ | exact pure_rowFd _ _ | exact pure_rowBBB _ | exact pure_rowCl _ _ | exact pure_rowTb _ _ _ | refine And.intro ?_ ?_), by first | exact ⟨by (repeat' first | exact trivial | exact pure_rowB _ | exact pure_rowO _ | exact pure_rowI _ | exact pure_rowBB _ | exact pure_rowPk _ _ | exact pure_rowSn _ _ | exact pure_rowFd _ _ | exact pure_rowBBB _ | exact pure_rowCl _ _ | exact pure_rowTb _ _ _ | refine And.intro ?_ ?_), trivial⟩ | exact ⟨by (repeat' first | exact trivial | exact pure_rowB _ | exact pure_rowO _ | exact pure_rowI _ | exact pure_rowBB _ | exact pure_rowPk _ _ | exact pure_rowSn _ _ | exact pure_rowFd _ _ | exact pure_rowBBB _ | exact pure_rowCl _ _ | exact pure_rowTb _ _ _ | refine And.intro ?_ ?_), trivial, trivial⟩⟩) (by simp -dsimp -implicitDefEqProofs only [go_sem, h0, h1, h5, hs, hp, hgs, hat, List.set_set, clC]) (by simp -dsimp -implicitDefEqProofs only [go_sem, h0, h1, h5, hs, hp, hgs, hat, List.set_set, clC]) ?_
    rintro r rs ⟨rfl, rfl⟩
    simp -dsimp -implicitDefEqProofs only [go_sem, h0, h1, h5, hs, hp, hgs, hat, List.set_set, clC]
    repeat (first | with_reducible refine ask.of (by first | omega | decide | (simp [hl]; omega)) ?_ | simp -dsimp -implicitDefEqProofs only [go_sem, h0, h1, h5, hs, hp, hl, hgs, List.set_set, List.length_set, bl3, e0, e1])
    refine hK _ hlt ?_
    simp -dsimp -implicitDefEqProofs only [go_sem, h0, h1, h5, hs, hp, hgs, List.set_set, wrap_succ (show i < 4611686018427387904 by omega), szL_take_succ szCl hlt]
    refine ⟨by rw [← hm]; unfold szCl; omega, ?_⟩
    rw [← mkLP_set mkCl szCl k hlt (y := mkCl m xs[i]) (by rw [hm]), ← mkCl_set]
    rfl
  · have : i = xs.length := by omega
    subst this
    simp -dsimp -implicitDefEqProofs only [go_sem, h0, h1, h5, hs, hp, mkLP_full, List.take_length]
    rfl
set_option maxHeartbeats 4000000 in
set_option maxRecDepth 8000 in
theorem c_heldCellS (xs : List Cl) (k : Nat) (hk : k + szL szCl xs ≤ 4611686018427387904) (hx : xs.length ≤ 1048576) (hb : ∀ b ∈ xs, b.f.length ≤ 1048576) : Meets Tryz.prog 86 [rowCl 149 (mkClS k xs), .v (.int .i64 k)] (fun r => r = .v (.int .i64 ((k + szL szCl xs : Nat) : Int))) := by
  refine Meets.intro mixed (hint []) Tryz.func86 rfl (by decide) res_86 rty_86 (by kernel_rfl) ?_; 
  simp -dsimp -implicitDefEqProofs only [go_sem, rowCl]
  refine LoopE.cnt xs.length (fun i s => s.env 0 = .rd .ent 149 3 (ra clC (mkClS k xs)) ∧ s.env 1 = .v (.int .i64 ((k + szL szCl (xs.take i) : Nat) : Int)) ∧ s.env 5 = .v (.int .i64 i)) ⟨by simp -dsimp -implicitDefEqProofs only [go_sem, initE, rowCl], by simp -dsimp -implicitDefEqProofs only [go_sem, initE] <;> simp [szL], by simp -dsimp -implicitDefEqProofs only [go_sem] <;> simp⟩ ?_
  rintro i ⟨e, σ⟩ hi ⟨h0, h1, h5⟩ K hK
  simp only at h0 h1 h5
  have hl : (mkClS k xs).length = xs.length := mkL_length mkCl szCl k xs
  simp -dsimp -implicitDefEqProofs only [go_sem, h0, h1, h5, hl]
  refine ifB'.of (fun hlt => ?_) (fun hlt => ?_)
  · have hlt : i < xs.length := by omega
    have hw := szL_at_le szCl hlt
    have hpb := hb _ (List.getElem_mem hlt)
    have hat := mkCl_at' (mkL_at mkCl szCl k hlt)
    obtain ⟨m, hm⟩ : ∃ m, k + szL szCl (xs.take i) = m := ⟨_, rfl⟩
    rw [hm] at h1 hat
    have hat : (ra clC (mkClS k xs))[i]? = some (clC (mkCl m xs[i])) := hat
    have hwm : m + szCl xs[i] ≤ 4611686018427387904 := by omega
    unfold szCl at hwm
    have e0 : IntKind.i64.wrap ((m : Int) + 1) = ((m + 1 : Nat) : Int) := wrapM m 0 (by omega)
    have e1 := wrapM m 1 (by omega)
    repeat (first | with_reducible refine ask.of (by first | omega | decide | (simp [hl]; omega)) ?_ | simp -dsimp -implicitDefEqProofs only [go_sem, h0, h1, h5, hl, hat, clC, mkCl, bl3, e0, e1, decide_true, Bool.not_true])
    refine CallE.of (c_heldByteS (m + 2) xs[i].f.length (by omega) (by omega)) (by rintro r rfl; (repeat' first | exact trivial | exact pure_rowB _ | exact pure_rowO _ | exact pure_rowI _ | exact pure_rowBB _ | exact pure_rowPk _ _ | exact pure_rowSn _ _ | exact pure_rowFd _ _ | exact pure_rowBBB _ | exact pure_rowCl _ _ | exact pure_rowTb _ _ _ | refine And.intro ?_ ?_)) (by simp -dsimp -implicitDefEqProofs only [go_sem, h0, h1, h5, mkB, clC, mkBB]) ?_
    rintro r rfl
    simp -dsimp -implicitDefEqProofs only [go_sem, h0, h1, h5, mkB, clC, mkBB]
    with_reducible refine ifB'.no (by omega) ?_
    repeat (first | with_reducible refine ask.of (by first | omega | decide | (simp [hl]; omega)) ?_ | simp -dsimp -implicitDefEqProofs only [go_sem, h0, h1, h5, hl, hat, clC, mkCl, bl3, e0, e1, decide_true, Bool.not_true])
    refine hK _ hlt ?_
    simp -dsimp -implicitDefEqProofs only [go_sem, h0, h1, h5, wrap_succ (show i < 4611686018427387904 by omega), szL_take_succ szCl hlt]
    rw [← hm]; unfold szCl; omega
  · have : i = xs.length := by omega
    subst this
    simp -dsimp -implicitDefEqProofs only [go_sem, h0, h1, h5, List.take_length]
end Go.Ev
set_option linter.unusedSimpArgs false
set_option linter.unusedVariables false
namespace Go.Ev
open Go Go.RowKit Go.Proofs
def mkFd (k : Nat) (c : Fd) : Fd := ⟨mkB k c.f.length, ((k + c.f.length : Nat) : Int), ((k + c.f.length + 1 : Nat) : Int)⟩
def szFd (c : Fd) : Nat := c.f.length + 2
def mkFdS (k : Nat) (xs : List Fd) : List Fd := mkL mkFd szFd k xs
theorem mkFd_at' {xs : List Fd} {i : Nat} {s : Fd} (h : xs[i]? = some s) : (ra fdC xs)[i]? = some (fdC s) := ra_at' h
theorem mkFd_set (xs : List Fd) (i : Nat) (s : Fd) : (ra fdC xs).set i [.row 5 1 (bytesA s.f), .v (.int .i64 s.k), .v (.int .i64 s.w)] = ra fdC (xs.set i s) := ra_set (enc := fdC) xs i s
set_option maxHeartbeats 4000000 in
set_option maxRecDepth 8000 in
theorem c_markFieldS (xs : List Fd) (k : Nat) (hk : k + szL szFd xs ≤ 4611686018427387904) (hx : xs.length ≤ 1048576) (hb : ∀ b ∈ xs, b.f.length ≤ 1048576) : MeetsM Tryz.prog 35 [.mu (rowFd 101 xs), .rd (.v (.int .i64 k))] (fun r rs => r = .v (.int .i64 ((k + szL szFd xs : Nat) : Int)) ∧ rs = [rowFd 101 (mkFdS k xs), .any]) := by
  refine MeetsM.intro mixed (hint []) Tryz.func35 rfl (by decide) res_35 rty_35 (pts := parTys Tryz.prog 35) (by rw [par_35]; rfl) (by kernel_rfl) ?_; rw [par_35]; intro vals; 
  simp -dsimp -implicitDefEqProofs only [go_sem, rowFd]
  refine LoopE.cnt xs.length (fun i s => s.env 0 = .ref [1000000, 0] ∧ s.env 1 = .v (.int .i64 ((k + szL szFd (xs.take i) : Nat) : Int)) ∧ s.env 5 = .v (.int .i64 i) ∧ s.σ [1000000, 0] = some (.row 101 3 (ra fdC (mkLP mkFd szFd k xs i))) ∧ s.σ [1000001, 0] = some (.pin (.ref [1000000, 0]) (vals 0))) ⟨by simp -dsimp -implicitDefEqProofs only [go_sem], by simp -dsimp -implicitDefEqProofs only [go_sem] <;> simp [szL], by simp -dsimp -implicitDefEqProofs only [go_sem] <;> simp, by simp -dsimp -implicitDefEqProofs only [go_sem, mkLP_zero], by simp -dsimp -implicitDefEqProofs only [go_sem]⟩ ?_
  rintro i ⟨e, σ⟩ hi ⟨h0, h1, h5, hs, hp⟩ K hK
  simp only at h0 h1 h5 hs hp
  have hl := mkLP_length mkFd szFd k hi
  simp -dsimp -implicitDefEqProofs only [go_sem, h0, h1, h5, hs, hp, hl]
  refine ifB'.of (fun hlt => ?_) (fun hlt => ?_)
  · have hlt : i < xs.length := by omega
    have hw := szL_at_le szFd hlt
    have hpb := hb _ (List.getElem_mem hlt)
    have hat := mkFd_at' (mkLP_at mkFd szFd k hlt)
    have hgs : ∀ c : List AV, ((ra fdC (mkLP mkFd szFd k xs i)).set i c)[i]? = some c := fun c => by rw [List.getElem?_set_self]; rw [ra_length]; omega
    obtain ⟨m, hm⟩ : ∃ m, k + szL szFd (xs.take i) = m := ⟨_, rfl⟩
    rw [hm] at h1
    have hwm : m + szFd xs[i] ≤ 4611686018427387904 := by omega
    unfold szFd at hwm
    repeat (first | with_reducible refine ask.of (by first | omega | decide | (simp [hl]; omega)) ?_ | simp -dsimp -implicitDefEqProofs only [go_sem, h0, h1, h5, hs, hp, hl, hat, fdC, hgs, List.set_set, List.length_set, bl3])
    refine CallE.mut (c_markByteS xs[i].f m (by omega) (by omega)) (by simp -dsimp -implicitDefEqProofs only [go_sem, h0, h1, h5, hs, hp]) (by rintro r rs ⟨rfl, rfl⟩; exact ⟨by (repeat' first | exact trivial | exact pure_rowB _ | exact pure_rowO _ | exact pure_rowI _ | exact pure_rowBB _ | exact pure_rowPk _ _ | exact pure_rowSn _ _ | exact pure_rowFd _ _ | exact pure_rowBBB _ | exact pure_rowCl _ _ | exact pure_rowTb _ _ _ | refine And.intro ?_ ?_), by first | exact ⟨by (repeat' first | exact trivial | exact pure_rowB _ | exact pure_rowO _ | exact pure_rowI _ | exact pure_rowBB _ | exact pure_rowPk _ _ | exact pure_rowSn _ _ | exact pure_rowFd _ _ | exact pure_rowBBB _ | exact pure_rowCl _ _ | exact pure_rowTb _ _ _ | refine And.intro ?_ ?_), trivial⟩ | exact ⟨by (repeat' first | exact trivial | exact pure_rowB _ | exact pure_rowO _ | exact pure_rowI _ | exact pure_rowBB _ | exact pure_rowPk _ _ | exact pure_rowSn _ _ | exact pure_rowFd _ _ | exact pure_rowBBB _ | exact pure_rowCl _ _ | exact pure_rowTb _ _ _ | refine And.intro ?_ ?_), trivial, trivial⟩⟩) (by simp -dsimp -implicitDefEqProofs only [go_sem, h0, h1, h5, hs, hp, hgs, hat, List.set_set, fdC]) (by simp -dsimp -implicitDefEqProofs only [go_sem, h0, h1, h5, hs, hp, hgs, hat, List.set_set, fdC]) ?_
    rintro r rs ⟨rfl, rfl⟩
    simp -dsimp -implicitDefEqProofs only [go_sem, h0, h1, h5, hs, hp, hgs, hat, List.set_set, fdC]
    have e0 : IntKind.i64.wrap (((m + xs[i].f.length : Nat) : Int) + 1) = ((m + xs[i].f.length + 1 : Nat) : Int) := wrapM (m + xs[i].f.length) 0 (by omega)
    have e1 : IntKind.i64.wrap (((m + xs[i].f.length + 1 : Nat) : Int) + 1) = ((m + xs[i].f.length + 2 : Nat) : Int) := wrapM (m + xs[i].f.length) 1 (by omega)
    repeat (first | with_reducible refine ask.of (by first | omega | decide | (simp [hl]; omega)) ?_ | simp -dsimp -implicitDefEqProofs only [go_sem, h0, h1, h5, hs, hp, hl, hgs, List.set_set, List.length_set, bl3, e0, e1])
    refine hK _ hlt ?_
    simp -dsimp -implicitDefEqProofs only [go_sem, h0, h1, h5, hs, hp, hgs, List.set_set, wrap_succ (show i < 4611686018427387904 by omega), szL_take_succ szFd hlt]
    refine ⟨by rw [← hm]; unfold szFd; omega, ?_⟩
    rw [← mkLP_set mkFd szFd k hlt (y := mkFd m xs[i]) (by rw [hm]), ← mkFd_set]
    rfl
  · have : i = xs.length := by omega
    subst this
    simp -dsimp -implicitDefEqProofs only [go_sem, h0, h1, h5, hs, hp, mkLP_full, List.take_length]
    rfl
set_option maxHeartbeats 4000000 in
set_option maxRecDepth 8000 in
theorem c_heldFieldS (xs : List Fd) (k : Nat) (hk : k + szL szFd xs ≤ 4611686018427387904) (hx : xs.length ≤ 1048576) (hb : ∀ b ∈ xs, b.f.length ≤ 1048576) : Meets Tryz.prog 39 [rowFd 101 (mkFdS k xs), .v (.int .i64 k)] (fun r => r = .v (.int .i64 ((k + szL szFd xs : Nat) : Int))) := by
  refine Meets.intro mixed (hint []) Tryz.func39 rfl (by decide) res_39 rty_39 (by kernel_rfl) ?_; 
  simp -dsimp -implicitDefEqProofs only [go_sem, rowFd]
  refine LoopE.cnt xs.length (fun i s => s.env 0 = .rd .ent 101 3 (ra fdC (mkFdS k xs)) ∧ s.env 1 = .v (.int .i64 ((k + szL szFd (xs.take i) : Nat) : Int)) ∧ s.env 5 = .v (.int .i64 i)) ⟨by simp -dsimp -implicitDefEqProofs only [go_sem, initE, rowFd], by simp -dsimp -implicitDefEqProofs only [go_sem, initE] <;> simp [szL], by simp -dsimp -implicitDefEqProofs only [go_sem] <;> simp⟩ ?_
  rintro i ⟨e, σ⟩ hi ⟨h0, h1, h5⟩ K hK
  simp only at h0 h1 h5
  have hl : (mkFdS k xs).length = xs.length := mkL_length mkFd szFd k xs
  simp -dsimp -implicitDefEqProofs only [go_sem, h0, h1, h5, hl]
  refine ifB'.of (fun hlt => ?_) (fun hlt => ?_)
  · have hlt : i < xs.length := by omega
    have hw := szL_at_le szFd hlt
    have hpb := hb _ (List.getElem_mem hlt)
    have hat := mkFd_at' (mkL_at mkFd szFd k hlt)
    obtain ⟨m, hm⟩ : ∃ m, k + szL szFd (xs.take i) = m := ⟨_, rfl⟩
    rw [hm] at h1 hat
    have hat : (ra fdC (mkFdS k xs))[i]? = some (fdC (mkFd m xs[i])) := hat
    have hwm : m + szFd xs[i] ≤ 4611686018427387904 := by omega
    unfold szFd at hwm
    repeat (first | with_reducible refine ask.of (by first | omega | decide | (simp [hl]; omega)) ?_ | simp -dsimp -implicitDefEqProofs only [go_sem, h0, h1, h5, hl, hat, fdC, mkFd, bl3, decide_true, Bool.not_true])
    refine CallE.of (c_heldByteS m xs[i].f.length (by omega) (by omega)) (by rintro r rfl; (repeat' first | exact trivial | exact pure_rowB _ | exact pure_rowO _ | exact pure_rowI _ | exact pure_rowBB _ | exact pure_rowPk _ _ | exact pure_rowSn _ _ | exact pure_rowFd _ _ | exact pure_rowBBB _ | exact pure_rowCl _ _ | exact pure_rowTb _ _ _ | refine And.intro ?_ ?_)) (by simp -dsimp -implicitDefEqProofs only [go_sem, h0, h1, h5, mkB, fdC]) ?_
    rintro r rfl
    simp -dsimp -implicitDefEqProofs only [go_sem, h0, h1, h5, mkB, fdC]
    with_reducible refine ifB'.no (by omega) ?_
    have e0 : IntKind.i64.wrap (((m + xs[i].f.length : Nat) : Int) + 1) = ((m + xs[i].f.length + 1 : Nat) : Int) := wrapM (m + xs[i].f.length) 0 (by omega)
    have e1 : IntKind.i64.wrap (((m + xs[i].f.length + 1 : Nat) : Int) + 1) = ((m + xs[i].f.length + 2 : Nat) : Int) := wrapM (m + xs[i].f.length) 1 (by omega)
    repeat (first | with_reducible refine ask.of (by first | omega | decide | (simp [hl]; omega)) ?_ | simp -dsimp -implicitDefEqProofs only [go_sem, h0, h1, h5, hl, hat, fdC, mkFd, bl3, decide_true, Bool.not_true, e0, e1])
    refine hK _ hlt ?_
    simp -dsimp -implicitDefEqProofs only [go_sem, h0, h1, h5, wrap_succ (show i < 4611686018427387904 by omega), szL_take_succ szFd hlt]
    rw [← hm]; unfold szFd; omega
  · have : i = xs.length := by omega
    subst this
    simp -dsimp -implicitDefEqProofs only [go_sem, h0, h1, h5, List.take_length]
end Go.Ev
set_option linter.unusedSimpArgs false
set_option linter.unusedVariables false
namespace Go.Ev
open Go Go.RowKit Go.Proofs
def mkTb (k : Nat) (t : Tb) : Tb := ⟨(k : Nat), mkClS (k + 1) t.c⟩
def szTb (t : Tb) : Nat := 1 + szL szCl t.c
def mkTbS (k : Nat) (xs : List Tb) : List Tb := mkL mkTb szTb k xs
theorem mkTb_at' {xs : List Tb} {i : Nat} {s : Tb} (h : xs[i]? = some s) : (ra (tbC 149) xs)[i]? = some ((tbC 149) s) := ra_at' h
theorem mkTb_set (xs : List Tb) (i : Nat) (s : Tb) : (ra (tbC 149) xs).set i [.v (.int .i64 s.r), .row 149 3 (ra clC s.c)] = ra (tbC 149) (xs.set i s) := ra_set (enc := (tbC 149)) xs i s
set_option maxHeartbeats 4000000 in
set_option maxRecDepth 8000 in
theorem c_markTableS (xs : List Tb) (k : Nat) (hk : k + szL szTb xs ≤ 4611686018427387904) (hx : xs.length ≤ 1048576) (hb : ∀ b ∈ xs, tOk b 1048576) : MeetsM Tryz.prog 36 [.mu (rowTb 105 149 xs), .rd (.v (.int .i64 k))] (fun r rs => r = .v (.int .i64 ((k + szL szTb xs : Nat) : Int)) ∧ rs = [rowTb 105 149 (mkTbS k xs), .any]) := by
  refine MeetsM.intro mixed (hint []) Tryz.func36 rfl (by decide) res_36 rty_36 (pts := parTys Tryz.prog 36) (by rw [par_36]; rfl) (by kernel_rfl) ?_; rw [par_36]; intro vals; 
  simp -dsimp -implicitDefEqProofs only [go_sem, rowTb]
  refine LoopE.cnt xs.length (fun i s => s.env 0 = .ref [1000000, 0] ∧ s.env 1 = .v (.int .i64 ((k + szL szTb (xs.take i) : Nat) : Int)) ∧ s.env 5 = .v (.int .i64 i) ∧ s.σ [1000000, 0] = some (.row 105 2 (ra (tbC 149) (mkLP mkTb szTb k xs i))) ∧ s.σ [1000001, 0] = some (.pin (.ref [1000000, 0]) (vals 0))) ⟨by simp -dsimp -implicitDefEqProofs only [go_sem], by simp -dsimp -implicitDefEqProofs only [go_sem] <;> simp [szL], by simp -dsimp -implicitDefEqProofs only [go_sem] <;> simp, by simp -dsimp -implicitDefEqProofs only [go_sem, mkLP_zero], by simp -dsimp -implicitDefEqProofs only [go_sem]⟩ ?_
  rintro i ⟨e, σ⟩ hi ⟨h0, h1, h5, hs, hp⟩ K hK
  simp only at h0 h1 h5 hs hp
  have hl := mkLP_length mkTb szTb k hi
  simp -dsimp -implicitDefEqProofs only [go_sem, h0, h1, h5, hs, hp, hl]
  refine ifB'.of (fun hlt => ?_) (fun hlt => ?_)
  · have hlt : i < xs.length := by omega
    have hw := szL_at_le szTb hlt
    have hpb := hb _ (List.getElem_mem hlt)
    have hat := mkTb_at' (mkLP_at mkTb szTb k hlt)
    have hgs : ∀ c : List AV, ((ra (tbC 149) (mkLP mkTb szTb k xs i)).set i c)[i]? = some c := fun c => by rw [List.getElem?_set_self]; rw [ra_length]; omega
    obtain ⟨m, hm⟩ : ∃ m, k + szL szTb (xs.take i) = m := ⟨_, rfl⟩
    rw [hm] at h1
    have hwm : m + szTb xs[i] ≤ 4611686018427387904 := by omega
    unfold szTb at hwm
    have e0 : IntKind.i64.wrap ((m : Int) + 1) = ((m + 1 : Nat) : Int) := wrapM m 0 (by omega)
    repeat (first | with_reducible refine ask.of (by first | omega | decide | (simp [hl]; omega)) ?_ | simp -dsimp -implicitDefEqProofs only [go_sem, h0, h1, h5, hs, hp, hl, hat, tbC, hgs, List.set_set, List.length_set, bl22, e0])
    refine CallE.mut (c_markCellS xs[i].c (m + 1) (by omega) hpb.1 hpb.2) (by simp -dsimp -implicitDefEqProofs only [go_sem, h0, h1, h5, hs, hp]) (by rintro r rs ⟨rfl, rfl⟩; exact ⟨by (repeat' first | exact trivial | exact pure_rowB _ | exact pure_rowO _ | exact pure_rowI _ | exact pure_rowBB _ | exact pure_rowPk _ _ | exact pure_rowSn _ _ | exact pure_rowFd _ _ | exact pure_rowBBB _ | exact pure_rowCl _ _ | exact pure_rowTb _ _ _ | refine And.intro ?_ ?_), by first | exact ⟨by (repeat' first | exact trivial | exact pure_rowB _ | exact pure_rowO _ | exact pure_rowI _ | exact pure_rowBB _ | exact pure_rowPk _ _ | exact pure_rowSn _ _ | exact pure_rowFd _ _ | exact pure_rowBBB _ | exact pure_rowCl _ _ | exact pure_rowTb _ _ _ | refine And.intro ?_ ?_), trivial⟩ | exact ⟨by (repeat' first | exact trivial | exact pure_rowB _ | exact pure_rowO _ | exact pure_rowI _ | exact pure_rowBB _ | exact pure_rowPk _ _ | exact pure_rowSn _ _ | exact pure_rowFd _ _ | exact pure_rowBBB _ | exact pure_rowCl _ _ | exact pure_rowTb _ _ _ | refine And.intro ?_ ?_), trivial, trivial⟩⟩) (by simp -dsimp -implicitDefEqProofs only [go_sem, h0, h1, h5, hs, hp, hgs, hat, List.set_set, tbC, rowCl]) (by simp -dsimp -implicitDefEqProofs only [go_sem, h0, h1, h5, hs, hp, hgs, hat, List.set_set, tbC, rowCl]) ?_
    rintro r rs ⟨rfl, rfl⟩
    simp -dsimp -implicitDefEqProofs only [go_sem, h0, h1, h5, hs, hp, hgs, hat, List.set_set, tbC, rowCl]
    repeat (first | with_reducible refine ask.of (by first | omega | decide | (simp [hl]; omega)) ?_ | simp -dsimp -implicitDefEqProofs only [go_sem, h0, h1, h5, hs, hp, hl, hgs, List.set_set, List.length_set, bl22, e0])
    refine hK _ hlt ?_
    simp -dsimp -implicitDefEqProofs only [go_sem, h0, h1, h5, hs, hp, hgs, List.set_set, wrap_succ (show i < 4611686018427387904 by omega), szL_take_succ szTb hlt]
    refine ⟨by rw [← hm]; unfold szTb; omega, ?_⟩
    rw [← mkLP_set mkTb szTb k hlt (y := mkTb m xs[i]) (by rw [hm]), ← mkTb_set]
    rfl
  · have : i = xs.length := by omega
    subst this
    simp -dsimp -implicitDefEqProofs only [go_sem, h0, h1, h5, hs, hp, mkLP_full, List.take_length]
    rfl
set_option maxHeartbeats 4000000 in
set_option maxRecDepth 8000 in
theorem c_heldTableS (xs : List Tb) (k : Nat) (hk : k + szL szTb xs ≤ 4611686018427387904) (hx : xs.length ≤ 1048576) (hb : ∀ b ∈ xs, tOk b 1048576) : Meets Tryz.prog 40 [rowTb 105 149 (mkTbS k xs), .v (.int .i64 k)] (fun r => r = .v (.int .i64 ((k + szL szTb xs : Nat) : Int))) := by
  refine Meets.intro mixed (hint []) Tryz.func40 rfl (by decide) res_40 rty_40 (by kernel_rfl) ?_; 
  simp -dsimp -implicitDefEqProofs only [go_sem, rowTb]
  refine LoopE.cnt xs.length (fun i s => s.env 0 = .rd .ent 105 2 (ra (tbC 149) (mkTbS k xs)) ∧ s.env 1 = .v (.int .i64 ((k + szL szTb (xs.take i) : Nat) : Int)) ∧ s.env 5 = .v (.int .i64 i)) ⟨by simp -dsimp -implicitDefEqProofs only [go_sem, initE, rowTb], by simp -dsimp -implicitDefEqProofs only [go_sem, initE] <;> simp [szL], by simp -dsimp -implicitDefEqProofs only [go_sem] <;> simp⟩ ?_
  rintro i ⟨e, σ⟩ hi ⟨h0, h1, h5⟩ K hK
  simp only at h0 h1 h5
  have hl : (mkTbS k xs).length = xs.length := mkL_length mkTb szTb k xs
  simp -dsimp -implicitDefEqProofs only [go_sem, h0, h1, h5, hl]
  refine ifB'.of (fun hlt => ?_) (fun hlt => ?_)
  · have hlt : i < xs.length := by omega
    have hw := szL_at_le szTb hlt
    have hpb := hb _ (List.getElem_mem hlt)
    have hat := mkTb_at' (mkL_at mkTb szTb k hlt)
    obtain ⟨m, hm⟩ : ∃ m, k + szL szTb (xs.take i) = m := ⟨_, rfl⟩
    rw [hm] at h1 hat
    have hat : (ra (tbC 149) (mkTbS k xs))[i]? = some ((tbC 149) (mkTb m xs[i])) := hat
    have hwm : m + szTb xs[i] ≤ 4611686018427387904 := by omega
    unfold szTb at hwm
    have e0 : IntKind.i64.wrap ((m : Int) + 1) = ((m + 1 : Nat) : Int) := wrapM m 0 (by omega)
    repeat (first | with_reducible refine ask.of (by first | omega | decide | (simp [hl]; omega)) ?_ | simp -dsimp -implicitDefEqProofs only [go_sem, h0, h1, h5, hl, hat, tbC, mkTb, bl22, e0, decide_true, Bool.not_true])
    refine CallE.of (c_heldCellS xs[i].c (m + 1) (by omega) hpb.1 hpb.2) (by rintro r rfl; (repeat' first | exact trivial | exact pure_rowB _ | exact pure_rowO _ | exact pure_rowI _ | exact pure_rowBB _ | exact pure_rowPk _ _ | exact pure_rowSn _ _ | exact pure_rowFd _ _ | exact pure_rowBBB _ | exact pure_rowCl _ _ | exact pure_rowTb _ _ _ | refine And.intro ?_ ?_)) (by simp -dsimp -implicitDefEqProofs only [go_sem, h0, h1, h5, tbC, rowCl]) ?_
    rintro r rfl
    simp -dsimp -implicitDefEqProofs only [go_sem, h0, h1, h5, tbC, rowCl]
    with_reducible refine ifB'.no (by omega) ?_
    repeat (first | with_reducible refine ask.of (by first | omega | decide | (simp [hl]; omega)) ?_ | simp -dsimp -implicitDefEqProofs only [go_sem, h0, h1, h5, hl, hat, tbC, mkTb, bl22, e0, decide_true, Bool.not_true])
    refine hK _ hlt ?_
    simp -dsimp -implicitDefEqProofs only [go_sem, h0, h1, h5, wrap_succ (show i < 4611686018427387904 by omega), szL_take_succ szTb hlt]
    rw [← hm]; unfold szTb; omega
  · have : i = xs.length := by omega
    subst this
    simp -dsimp -implicitDefEqProofs only [go_sem, h0, h1, h5, List.take_length]
end Go.Ev
set_option linter.unusedSimpArgs false
set_option linter.unusedVariables false
namespace Go.Ev
open Go Go.RowKit Go.Proofs
def mkBs (k : Nat) (b : List (List UInt8)) : List (List UInt8) := mkBB k b
def szBs (b : List (List UInt8)) : Nat := wBB b
def mkBsS (k : Nat) (xs : List (List (List UInt8))) : List (List (List UInt8)) := mkL mkBs szBs k xs
theorem mkBs_at' {xs : List (List (List UInt8))} {i : Nat} {s : (List (List UInt8))} (h : xs[i]? = some s) : (ra bbC xs)[i]? = some (bbC s) := ra_at' h
theorem mkBs_set (xs : List (List (List UInt8))) (i : Nat) (s : (List (List UInt8))) : (ra bbC xs).set i [.row 48 1 (ra byC s)] = ra bbC (xs.set i s) := ra_set (enc := bbC) xs i s
set_option maxHeartbeats 4000000 in
set_option maxRecDepth 8000 in
theorem c_markByteSSS (xs : List (List (List UInt8))) (k : Nat) (hk : k + szL szBs xs ≤ 4611686018427387904) (hx : xs.length ≤ 1048576) (hb : ∀ b ∈ xs, lenOk b 1048576) : MeetsM Tryz.prog 84 [.mu (rowBBB xs), .rd (.v (.int .i64 k))] (fun r rs => r = .v (.int .i64 ((k + szL szBs xs : Nat) : Int)) ∧ rs = [rowBBB (mkBsS k xs), .any]) := by
  refine MeetsM.intro mixed (hint []) Tryz.func84 rfl (by decide) res_84 rty_84 (pts := parTys Tryz.prog 84) (by rw [par_84]; rfl) (by kernel_rfl) ?_; rw [par_84]; intro vals; 
  simp -dsimp -implicitDefEqProofs only [go_sem, rowBBB]
  refine LoopE.cnt xs.length (fun i s => s.env 0 = .ref [1000000, 0] ∧ s.env 1 = .v (.int .i64 ((k + szL szBs (xs.take i) : Nat) : Int)) ∧ s.env 5 = .v (.int .i64 i) ∧ s.σ [1000000, 0] = some (.row 132 1 (ra bbC (mkLP mkBs szBs k xs i))) ∧ s.σ [1000001, 0] = some (.pin (.ref [1000000, 0]) (vals 0))) ⟨by simp -dsimp -implicitDefEqProofs only [go_sem], by simp -dsimp -implicitDefEqProofs only [go_sem] <;> simp [szL], by simp -dsimp -implicitDefEqProofs only [go_sem] <;> simp, by simp -dsimp -implicitDefEqProofs only [go_sem, mkLP_zero], by simp -dsimp -implicitDefEqProofs only [go_sem]⟩ ?_
  rintro i ⟨e, σ⟩ hi ⟨h0, h1, h5, hs, hp⟩ K hK
  simp only at h0 h1 h5 hs hp
  have hl := mkLP_length mkBs szBs k hi
  simp -dsimp -implicitDefEqProofs only [go_sem, h0, h1, h5, hs, hp, hl]
  refine ifB'.of (fun hlt => ?_) (fun hlt => ?_)
  · have hlt : i < xs.length := by omega
    have hw := szL_at_le szBs hlt
    have hpb := hb _ (List.getElem_mem hlt)
    have hpb1 := hpb.1
    have hat := mkBs_at' (mkLP_at mkBs szBs k hlt)
    have hgs : ∀ c : List AV, ((ra bbC (mkLP mkBs szBs k xs i)).set i c)[i]? = some c := fun c => by rw [List.getElem?_set_self]; rw [ra_length]; omega
    obtain ⟨m, hm⟩ : ∃ m, k + szL szBs (xs.take i) = m := ⟨_, rfl⟩
    rw [hm] at h1
    have hwm : m + szBs xs[i] ≤ 4611686018427387904 := by omega
    unfold szBs at hwm
    repeat (first | with_reducible refine ask.of (by first | omega | decide | (simp [hl]; omega)) ?_ | simp -dsimp -implicitDefEqProofs only [go_sem, h0, h1, h5, hs, hp, hl, hat, bbC, hgs, List.set_set, List.length_set, bl22])
    refine CallE.mut (c_markByteSS xs[i] m (by omega) (by omega) (fun b hb => by have := hpb.2 b hb; omega)) (by simp -dsimp -implicitDefEqProofs only [go_sem, h0, h1, h5, hs, hp]) (by rintro r rs ⟨rfl, rfl⟩; exact ⟨by (repeat' first | exact trivial | exact pure_rowB _ | exact pure_rowO _ | exact pure_rowI _ | exact pure_rowBB _ | exact pure_rowPk _ _ | exact pure_rowSn _ _ | exact pure_rowFd _ _ | exact pure_rowBBB _ | exact pure_rowCl _ _ | exact pure_rowTb _ _ _ | refine And.intro ?_ ?_), by first | exact ⟨by (repeat' first | exact trivial | exact pure_rowB _ | exact pure_rowO _ | exact pure_rowI _ | exact pure_rowBB _ | exact pure_rowPk _ _ | exact pure_rowSn _ _ | exact pure_rowFd _ _ | exact pure_rowBBB _ | exact pure_rowCl _ _ | exact pure_rowTb _ _ _ | refine And.intro ?_ ?_), trivial⟩ | exact ⟨by (repeat' first | exact trivial | exact pure_rowB _ | exact pure_rowO _ | exact pure_rowI _ | exact pure_rowBB _ | exact pure_rowPk _ _ | exact pure_rowSn _ _ | exact pure_rowFd _ _ | exact pure_rowBBB _ | exact pure_rowCl _ _ | exact pure_rowTb _ _ _ | refine And.intro ?_ ?_), trivial, trivial⟩⟩) (by simp -dsimp -implicitDefEqProofs only [go_sem, h0, h1, h5, hs, hp, hgs, hat, List.set_set, bbC]) (by simp -dsimp -implicitDefEqProofs only [go_sem, h0, h1, h5, hs, hp, hgs, hat, List.set_set, bbC]) ?_
    rintro r rs ⟨rfl, rfl⟩
    simp -dsimp -implicitDefEqProofs only [go_sem, h0, h1, h5, hs, hp, hgs, hat, List.set_set, bbC]
    repeat (first | with_reducible refine ask.of (by first | omega | decide | (simp [hl]; omega)) ?_ | simp -dsimp -implicitDefEqProofs only [go_sem, h0, h1, h5, hs, hp, hl, hgs, List.set_set, List.length_set, bl22])
    refine hK _ hlt ?_
    simp -dsimp -implicitDefEqProofs only [go_sem, h0, h1, h5, hs, hp, hgs, List.set_set, wrap_succ (show i < 4611686018427387904 by omega), szL_take_succ szBs hlt]
    refine ⟨by rw [← hm]; unfold szBs; omega, ?_⟩
    rw [← mkLP_set mkBs szBs k hlt (y := mkBs m xs[i]) (by rw [hm]), ← mkBs_set]
    rfl
  · have : i = xs.length := by omega
    subst this
    simp -dsimp -implicitDefEqProofs only [go_sem, h0, h1, h5, hs, hp, mkLP_full, List.take_length]
    rfl
set_option maxHeartbeats 4000000 in
set_option maxRecDepth 8000 in
theorem c_heldByteSSS (xs : List (List (List UInt8))) (k : Nat) (hk : k + szL szBs xs ≤ 4611686018427387904) (hx : xs.length ≤ 1048576) (hb : ∀ b ∈ xs, lenOk b 1048576) : Meets Tryz.prog 88 [rowBBB (mkBsS k xs), .v (.int .i64 k)] (fun r => r = .v (.int .i64 ((k + szL szBs xs : Nat) : Int))) := by
  refine Meets.intro mixed (hint []) Tryz.func88 rfl (by decide) res_88 rty_88 (by kernel_rfl) ?_; 
  simp -dsimp -implicitDefEqProofs only [go_sem, rowBBB]
  refine LoopE.cnt xs.length (fun i s => s.env 0 = .rd .ent 132 1 (ra bbC (mkBsS k xs)) ∧ s.env 1 = .v (.int .i64 ((k + szL szBs (xs.take i) : Nat) : Int)) ∧ s.env 5 = .v (.int .i64 i)) ⟨by simp -dsimp -implicitDefEqProofs only [go_sem, initE, rowBBB], by simp -dsimp -implicitDefEqProofs only [go_sem, initE] <;> simp [szL], by simp -dsimp -implicitDefEqProofs only [go_sem] <;> simp⟩ ?_
  rintro i ⟨e, σ⟩ hi ⟨h0, h1, h5⟩ K hK
  simp only at h0 h1 h5
  have hl : (mkBsS k xs).length = xs.length := mkL_length mkBs szBs k xs
  simp -dsimp -implicitDefEqProofs only [go_sem, h0, h1, h5, hl]
  refine ifB'.of (fun hlt => ?_) (fun hlt => ?_)
  · have hlt : i < xs.length := by omega
    have hw := szL_at_le szBs hlt
    have hpb := hb _ (List.getElem_mem hlt)
    have hpb1 := hpb.1
    have hat := mkBs_at' (mkL_at mkBs szBs k hlt)
    obtain ⟨m, hm⟩ : ∃ m, k + szL szBs (xs.take i) = m := ⟨_, rfl⟩
    rw [hm] at h1 hat
    have hat : (ra bbC (mkBsS k xs))[i]? = some (bbC (mkBs m xs[i])) := hat
    have hwm : m + szBs xs[i] ≤ 4611686018427387904 := by omega
    unfold szBs at hwm
    repeat (first | with_reducible refine ask.of (by first | omega | decide | (simp [hl]; omega)) ?_ | simp -dsimp -implicitDefEqProofs only [go_sem, h0, h1, h5, hl, hat, bbC, mkBs, bl22, decide_true, Bool.not_true])
    refine CallE.of (c_heldByteSS xs[i] m (by omega) (by omega) (fun b hb => by have := hpb.2 b hb; omega)) (by rintro r rfl; (repeat' first | exact trivial | exact pure_rowB _ | exact pure_rowO _ | exact pure_rowI _ | exact pure_rowBB _ | exact pure_rowPk _ _ | exact pure_rowSn _ _ | exact pure_rowFd _ _ | exact pure_rowBBB _ | exact pure_rowCl _ _ | exact pure_rowTb _ _ _ | refine And.intro ?_ ?_)) (by simp -dsimp -implicitDefEqProofs only [go_sem, h0, h1, h5, bbC]) ?_
    rintro r rfl
    simp -dsimp -implicitDefEqProofs only [go_sem, h0, h1, h5, bbC]
    with_reducible refine ifB'.no (by omega) ?_
    repeat (first | with_reducible refine ask.of (by first | omega | decide | (simp [hl]; omega)) ?_ | simp -dsimp -implicitDefEqProofs only [go_sem, h0, h1, h5, hl, hat, bbC, mkBs, bl22, decide_true, Bool.not_true])
    refine hK _ hlt ?_
    simp -dsimp -implicitDefEqProofs only [go_sem, h0, h1, h5, wrap_succ (show i < 4611686018427387904 by omega), szL_take_succ szBs hlt]
    rw [← hm]; unfold szBs; omega
  · have : i = xs.length := by omega
    subst this
    simp -dsimp -implicitDefEqProofs only [go_sem, h0, h1, h5, List.take_length]
end Go.Ev
set_option linter.unusedSimpArgs false
set_option linter.unusedVariables false
namespace Go.Ev
open Go Go.RowKit Go.Proofs
def mkSm (k : Nat) (x : Sm) : Sm := ⟨x.o, mkFdS k x.fs, x.s, mkBsS (k + szL szFd x.fs) x.ds⟩
def szSm (x : Sm) : Nat := szL szFd x.fs + szL szBs x.ds
set_option maxRecDepth 8000 in
theorem c_markStream (x : Sm) (k : Nat) (hk : k + szSm x ≤ 4611686018427387904) (h1 : x.fs.length ≤ 1048576) (h2 : ∀ b ∈ x.fs, b.f.length ≤ 1048576) (h3 : x.ds.length ≤ 1048576) (h4 : ∀ b ∈ x.ds, lenOk b 1048576) : MeetsM Tryz.prog 38 [.mu (.agg (smC 101 x)), .rd (.v (.int .i64 k))] (fun r rs => r = .v (.int .i64 ((k + szSm x : Nat) : Int)) ∧ rs = [.agg (smC 101 (mkSm k x)), .any]) := by
  refine MeetsM.intro mixed (hint []) Tryz.func38 rfl (by decide) res_38 rty_38 (pts := parTys Tryz.prog 38) (by rw [par_38]; rfl) (by kernel_rfl) ?_; rw [par_38]; intro vals; 
  simp -dsimp -implicitDefEqProofs only [go_sem, smC]
  unfold szSm at hk
  repeat (first | with_reducible refine ask.of (by first | omega | decide) ?_ | simp -dsimp -implicitDefEqProofs only [go_sem, bl3])
  refine CallE.mut (c_markFieldS x.fs k (by omega) h1 h2) (by simp -dsimp -implicitDefEqProofs only [go_sem]) (by rintro r rs ⟨rfl, rfl⟩; exact ⟨by (repeat' first | exact trivial | exact pure_rowB _ | exact pure_rowO _ | exact pure_rowI _ | exact pure_rowBB _ | exact pure_rowPk _ _ | exact pure_rowSn _ _ | exact pure_rowFd _ _ | exact pure_rowBBB _ | exact pure_rowCl _ _ | exact pure_rowTb _ _ _ | refine And.intro ?_ ?_), by first | exact ⟨by (repeat' first | exact trivial | exact pure_rowB _ | exact pure_rowO _ | exact pure_rowI _ | exact pure_rowBB _ | exact pure_rowPk _ _ | exact pure_rowSn _ _ | exact pure_rowFd _ _ | exact pure_rowBBB _ | exact pure_rowCl _ _ | exact pure_rowTb _ _ _ | refine And.intro ?_ ?_), trivial⟩ | exact ⟨by (repeat' first | exact trivial | exact pure_rowB _ | exact pure_rowO _ | exact pure_rowI _ | exact pure_rowBB _ | exact pure_rowPk _ _ | exact pure_rowSn _ _ | exact pure_rowFd _ _ | exact pure_rowBBB _ | exact pure_rowCl _ _ | exact pure_rowTb _ _ _ | refine And.intro ?_ ?_), trivial, trivial⟩⟩) (by simp -dsimp -implicitDefEqProofs only [go_sem, rowFd]) (by simp -dsimp -implicitDefEqProofs only [go_sem, rowFd]) ?_
  rintro r rs ⟨rfl, rfl⟩
  simp -dsimp -implicitDefEqProofs only [go_sem, rowFd]
  repeat (first | with_reducible refine ask.of (by first | omega | decide) ?_ | simp -dsimp -implicitDefEqProofs only [go_sem, bl3])
  refine CallE.mut (c_markByteSSS x.ds (k + szL szFd x.fs) (by omega) h3 h4) (by simp -dsimp -implicitDefEqProofs only [go_sem]) (by rintro r rs ⟨rfl, rfl⟩; exact ⟨by (repeat' first | exact trivial | exact pure_rowB _ | exact pure_rowO _ | exact pure_rowI _ | exact pure_rowBB _ | exact pure_rowPk _ _ | exact pure_rowSn _ _ | exact pure_rowFd _ _ | exact pure_rowBBB _ | exact pure_rowCl _ _ | exact pure_rowTb _ _ _ | refine And.intro ?_ ?_), by first | exact ⟨by (repeat' first | exact trivial | exact pure_rowB _ | exact pure_rowO _ | exact pure_rowI _ | exact pure_rowBB _ | exact pure_rowPk _ _ | exact pure_rowSn _ _ | exact pure_rowFd _ _ | exact pure_rowBBB _ | exact pure_rowCl _ _ | exact pure_rowTb _ _ _ | refine And.intro ?_ ?_), trivial⟩ | exact ⟨by (repeat' first | exact trivial | exact pure_rowB _ | exact pure_rowO _ | exact pure_rowI _ | exact pure_rowBB _ | exact pure_rowPk _ _ | exact pure_rowSn _ _ | exact pure_rowFd _ _ | exact pure_rowBBB _ | exact pure_rowCl _ _ | exact pure_rowTb _ _ _ | refine And.intro ?_ ?_), trivial, trivial⟩⟩) (by simp -dsimp -implicitDefEqProofs only [go_sem, rowBBB]) (by simp -dsimp -implicitDefEqProofs only [go_sem, rowBBB]) ?_
  rintro r rs ⟨rfl, rfl⟩
  simp -dsimp -implicitDefEqProofs only [go_sem, rowBBB]
  repeat (first | with_reducible refine ask.of (by first | omega | decide) ?_ | simp -dsimp -implicitDefEqProofs only [go_sem, bl3])
  exact ⟨by unfold szSm; rw [Nat.add_assoc], rfl⟩
theorem c_heldStream (x : Sm) (k : Nat) (hk : k + szSm x ≤ 4611686018427387904) (h1 : x.fs.length ≤ 1048576) (h2 : ∀ b ∈ x.fs, b.f.length ≤ 1048576) (h3 : x.ds.length ≤ 1048576) (h4 : ∀ b ∈ x.ds, lenOk b 1048576) : Meets Tryz.prog 42 [.agg (smC 101 (mkSm k x)), .v (.int .i64 k)] (fun r => r = .v (.int .i64 ((k + szSm x : Nat) : Int))) := by
  refine Meets.intro mixed (hint []) Tryz.func42 rfl (by decide) res_42 rty_42 (by kernel_rfl) ?_; 
  simp -dsimp -implicitDefEqProofs only [go_sem, smC, mkSm]
  unfold szSm at hk
  repeat (first | with_reducible refine ask.of (by first | omega | decide) ?_ | simp -dsimp -implicitDefEqProofs only [go_sem, bl3])
  refine CallE.of (c_heldFieldS x.fs k (by omega) h1 h2) (by rintro r rfl; (repeat' first | exact trivial | exact pure_rowB _ | exact pure_rowO _ | exact pure_rowI _ | exact pure_rowBB _ | exact pure_rowPk _ _ | exact pure_rowSn _ _ | exact pure_rowFd _ _ | exact pure_rowBBB _ | exact pure_rowCl _ _ | exact pure_rowTb _ _ _ | refine And.intro ?_ ?_)) (by simp -dsimp -implicitDefEqProofs only [go_sem, rowFd]) ?_
  rintro r rfl
  simp -dsimp -implicitDefEqProofs only [go_sem, rowFd]
  with_reducible refine ifB'.no (by omega) ?_
  repeat (first | with_reducible refine ask.of (by first | omega | decide) ?_ | simp -dsimp -implicitDefEqProofs only [go_sem, bl3])
  refine CallE.of (c_heldByteSSS x.ds (k + szL szFd x.fs) (by omega) h3 h4) (by rintro r rfl; (repeat' first | exact trivial | exact pure_rowB _ | exact pure_rowO _ | exact pure_rowI _ | exact pure_rowBB _ | exact pure_rowPk _ _ | exact pure_rowSn _ _ | exact pure_rowFd _ _ | exact pure_rowBBB _ | exact pure_rowCl _ _ | exact pure_rowTb _ _ _ | refine And.intro ?_ ?_)) (by simp -dsimp -implicitDefEqProofs only [go_sem, rowBBB]) ?_
  rintro r rfl
  simp -dsimp -implicitDefEqProofs only [go_sem, rowBBB]
  with_reducible refine ifB'.no (by omega) ?_
  repeat (first | with_reducible refine ask.of (by first | omega | decide) ?_ | simp -dsimp -implicitDefEqProofs only [go_sem, bl3])
  unfold szSm; rw [Nat.add_assoc]
end Go.Ev
set_option linter.unusedSimpArgs false
set_option linter.unusedVariables false
namespace Go.Ev
open Go Go.RowKit Go.Proofs
theorem szL_lin {α : Type} (s w : α → Nat) : ∀ xs : List α, (∀ x ∈ xs, s x ≤ 5 * (w x + 1)) → szL s xs ≤ 5 * (xs.length + szL w xs)
  | [], _ => by simp [szL]
  | x :: xs, h => by
    have h1 := h x List.mem_cons_self
    have h2 := szL_lin s w xs fun y hy => h y (List.mem_cons_of_mem _ hy)
    simp only [szL, List.map_cons, List.sum_cons, List.length_cons] at h2 ⊢
    omega
theorem szSm_le (x : Sm) : szSm x ≤ 5 * smW x := by
  have h1 := szL_lin szFd fdW x.fs fun f _ => by unfold szFd fdW; omega
  have h2 := szL_lin szBs bbW x.ds fun b _ => by unfold szBs bbW; omega
  unfold szSm smW; omega
theorem szTb_le (xs : List Tb) : szL szTb xs ≤ 5 * (xs.length + szL tbW xs) := szL_lin szTb tbW xs fun t _ => by
  have h1 := szL_lin szCl clW t.c fun f _ => by unfold szCl clW; omega
  unfold szTb tbW; omega
end Go.Ev
set_option linter.unusedSimpArgs false
set_option linter.unusedVariables false
namespace Go.Ev
open Go Go.RowKit Go.Proofs
theorem szL_zeros (n : Nat) : szL szBs (List.replicate n []) = 0 := by
  induction n with
  | zero => rfl
  | succ n ih => simp only [List.replicate_succ, szL, List.map_cons, List.sum_cons] at ih ⊢; rw [ih]; rfl
theorem stL_T {fs : List Fd} {next : Int} (hx : fs.length ≤ 1048576) (hb : ∀ b ∈ fs, b.f.length ≤ 1048576) : (((stL fs next).1.fs.length ≤ 1048576 ∧ ∀ b ∈ (stL fs next).1.fs, b.f.length ≤ 1048576) ∧ (stL fs next).1.ds.length ≤ 1048576 ∧ ∀ b ∈ (stL fs next).1.ds, lenOk b 1048576) ∧ szSm (stL fs next).1 ≤ 1048576 ∧ (stL fs next).2.1.length ≤ 1048576 := by
  by_cases h : okF fs ∧ 0 ≤ next ∧ next ≤ 1000000000
  · rw [stL_yes h]
    have h1 := hd_wBB (next := next) h.1
    have h2 := msBody_len (hdMs fs next)
    have h3 : (hdMs fs next).bs.length = fs.length + 1 := by show (leB 8 next :: fs.map hdF).length = _; simp
    have h4 := h.1.1.2
    refine ⟨⟨⟨hx, hb⟩, ?_, ?_⟩, ?_, ?_⟩
    · show (List.replicate fs.length []).length ≤ _; simp; omega
    · intro b hb'
      have : b = [] := (List.mem_replicate.1 hb').2
      subst this; exact ⟨Nat.zero_le _, fun c hc => by cases hc⟩
    · show szL szFd fs + szL szBs (List.replicate fs.length []) ≤ _
      rw [szL_zeros]
      have h5 := hd_w h.1.2.1
      have h6 : szL szFd fs = wBB (fs.map hdF) := by
        clear h h1 h2 h3 h4 h5 hx hb
        induction fs with
        | nil => rfl
        | cons x fs ih => simp only [wBB, szL, List.map_cons, List.sum_cons, szFd, hdF, List.length_append, List.length_cons, List.length_nil] at ih ⊢; omega
      omega
    · show (msBody (hdMs fs next)).length ≤ _
      omega
  · rw [stL_no h]
    exact ⟨⟨⟨Nat.zero_le _, fun b h => (by cases h)⟩, Nat.zero_le _, fun b h => (by cases h)⟩, by decide, Nat.zero_le _⟩
end Go.Ev
set_option linter.unusedSimpArgs false
set_option linter.unusedVariables false
namespace Go.Ev
open Go Go.RowKit Go.Proofs
theorem c_l5packet (p : Pk) (hb : p.f.length ≤ 1048576) : Meets Tryz.prog 93 [.agg (pkC p)] (fun r => r = .agg (pkC p)) := by
  refine Meets.intro mixed (hint []) Tryz.func93 rfl (by decide) res_93 rty_93 (by kernel_rfl) ?_; 
  simp -dsimp -implicitDefEqProofs only [go_sem, pkC]
  repeat (first | with_reducible refine ask.of (by omega) ?_ | simp -dsimp -implicitDefEqProofs only [go_sem, bleR])
  refine CallE.of (c_l1copy p.f (by omega)) (by rintro r rfl; (repeat' first | exact trivial | exact pure_rowB _ | exact pure_rowO _ | exact pure_rowI _ | exact pure_rowBB _ | exact pure_rowPk _ _ | exact pure_rowSn _ _ | exact pure_rowFd _ _ | exact pure_rowBBB _ | exact pure_rowCl _ _ | exact pure_rowTb _ _ _ | refine And.intro ?_ ?_)) (by simp -dsimp -implicitDefEqProofs only [go_sem]) ?_
  rintro r rfl
  simp -dsimp -implicitDefEqProofs only [go_sem]
  repeat (first | with_reducible refine ask.of (by omega) ?_ | simp -dsimp -implicitDefEqProofs only [go_sem, bleR])
theorem c_packetCopy (p : Pk) (hb : p.f.length ≤ 1048576) : Meets Tryz.prog 125 [.agg (pkC p)] (fun r => r = .agg (pkC p)) := by
  refine Meets.intro mixed (hint []) Tryz.func125 rfl (by decide) res_125 rty_125 (by kernel_rfl) ?_; 
  simp -dsimp -implicitDefEqProofs only [go_sem, pkC]
  repeat (first | with_reducible refine ask.of (by omega) ?_ | simp -dsimp -implicitDefEqProofs only [go_sem, bleR])
  refine CallE.of (c_bytesClone p.f (by omega)) (by rintro r rfl; (repeat' first | exact trivial | exact pure_rowB _ | exact pure_rowO _ | exact pure_rowI _ | exact pure_rowBB _ | exact pure_rowPk _ _ | exact pure_rowSn _ _ | exact pure_rowFd _ _ | exact pure_rowBBB _ | exact pure_rowCl _ _ | exact pure_rowTb _ _ _ | refine And.intro ?_ ?_)) (by simp -dsimp -implicitDefEqProofs only [go_sem]) ?_
  rintro r rfl
  simp -dsimp -implicitDefEqProofs only [go_sem]
  repeat (first | with_reducible refine ask.of (by omega) ?_ | simp -dsimp -implicitDefEqProofs only [go_sem, bleR])
theorem bl4 : Nat.ble 1 4 = true ∧ Nat.ble 2 4 = true ∧ Nat.ble 3 4 = true ∧ Nat.ble 1 1 = true ∧ Nat.ble 1 7 = true := ⟨rfl, rfl, rfl, rfl, rfl⟩
theorem cty_q : cty Tryz.prog 153 = [some (122, 7)] := by kernel_rfl
theorem ble67 : Nat.ble 6 7 = true := rfl
theorem sn_snoc {xs : List Sn} {s : Sn} : ra snC xs ++ [[.v (.int .i64 s.p.a), .v (.int .i64 s.p.b), .v (.int .i64 s.p.c), .v (.int .i64 s.p.d), .v (.bool s.p.e), .row 5 1 (bytesA s.p.f), .v (.int .i64 s.q)]] = ra snC (xs ++ [s]) := by simp [ra, snC]
theorem sn_take {xs : List Sn} {i : Nat} (h : i < xs.length) : xs.take i ++ [xs[i]] = xs.take (i + 1) := by simp
set_option maxRecDepth 8000 in
set_option maxHeartbeats 1000000 in
theorem c_l5out (x : LO) (hx : x.h.length ≤ 1048576) (hb : ∀ b ∈ x.h, b.p.f.length ≤ 1048576) : Meets Tryz.prog 58 [.agg (loC 122 x)] (fun r => r = .agg (loC 122 x)) := by
  refine Meets.introO mixed (hint []) (fun k => (sel (k == 5) [0,1,2,3,4,5,6,7,9,10,11,12,13,14,8,15,16,17,18,19] [])) Tryz.func58 rfl (by decide) res_58 rty_58 (by kernel_rfl) ?_; 
  simp -dsimp -implicitDefEqProofs only [go_sem, loC]
  repeat (first | with_reducible refine ask.of (by omega) ?_ | simp -dsimp -implicitDefEqProofs only [go_sem, bleR, bl4])
  refine LoopE.cntW x.h.length (fun i s => s.env 1 = .ptr [1] 0 0 0 ∧ s.env 2 = .ptr [2] 0 0 0 ∧ s.env 3 = .ptr [3] 0 0 0 ∧ s.env 4 = .v (.int .i64 i) ∧ s.σ [1] = some (.box 37 [.v (.int .i64 x.a), .v (.int .i64 x.b), .v (.int .i64 x.c), .rd .ent 122 7 (ra snC x.h)])
    ∧ s.σ [2] = some (.box 37 [.v (.int .i64 0), .v (.int .i64 0), .v (.int .i64 0), .v (.slice none 0 0)]) ∧ s.σ [3] = some (.box 37 [.v (.int .i64 x.a), .v (.int .i64 x.b), .v (.int .i64 x.c), .ref [50]]) ∧ s.σ [50] = some (.row 122 7 (ra snC (x.h.take i))))
    (Wk.box [3] 3 [50] 122 7 37 [.v (.int .i64 x.a), .v (.int .i64 x.b), .v (.int .i64 x.c), .v (.slice none 0 0)] ?_ rfl rfl (Wk.refl _)) ?_ ?_
  · simp -dsimp -implicitDefEqProofs only [go_sem]
  · refine ⟨by simp -dsimp -implicitDefEqProofs only [go_sem], by simp -dsimp -implicitDefEqProofs only [go_sem], by simp -dsimp -implicitDefEqProofs only [go_sem], by simp -dsimp -implicitDefEqProofs only [go_sem] <;> rfl, by simp -dsimp -implicitDefEqProofs only [go_sem], by simp -dsimp -implicitDefEqProofs only [go_sem], by simp -dsimp -implicitDefEqProofs only [go_sem] <;> rfl, by simp -dsimp -implicitDefEqProofs only [go_sem] <;> rfl⟩
  rintro i ⟨e, σ⟩ hi ⟨h1, h2, h3, h4, hs1, hs2, hs3, hs50⟩ K hK
  simp only at h1 h2 h3 h4 hs1 hs2 hs3 hs50
  simp -dsimp -implicitDefEqProofs only [go_sem, h1, h2, h3, h4, hs1, hs2, hs3, hs50]
  repeat (first | with_reducible refine ask.of (by omega) ?_ | simp -dsimp -implicitDefEqProofs only [go_sem, h1, h2, h3, h4, hs1, hs2, hs3, hs50, bleR])
  refine ifB'.of (fun hlt => ?_) (fun hlt => ?_)
  · have hlt : i < x.h.length := by omega
    have hp := hb _ (List.getElem_mem hlt)
    have htl : (x.h.take i).length = i := by simp; omega
    repeat (first | with_reducible refine ask.of (by omega) ?_ | simp -dsimp -implicitDefEqProofs only [go_sem, h1, h2, h3, h4, hs1, hs2, hs3, hs50, bleR, Sn_at hlt, snC, ble67])
    refine CallE.of (c_l5packet x.h[i].p hp) (by rintro r rfl; (repeat' first | exact trivial | exact pure_rowB _ | exact pure_rowO _ | exact pure_rowI _ | exact pure_rowBB _ | exact pure_rowPk _ _ | exact pure_rowSn _ _ | exact pure_rowFd _ _ | exact pure_rowBBB _ | exact pure_rowCl _ _ | exact pure_rowTb _ _ _ | refine And.intro ?_ ?_)) (by simp -dsimp -implicitDefEqProofs only [go_sem, h1, h2, h3, h4, hs1, hs2, hs3, hs50, pkC]) ?_
    rintro r rfl
    simp -dsimp -implicitDefEqProofs only [go_sem, h1, h2, h3, h4, hs1, hs2, hs3, hs50, pkC]
    repeat (first | with_reducible refine ask.of (by first | omega | decide | (simp only [ra_length, htl, List.length_cons, List.length_nil]; omega)) ?_ | simp -dsimp -implicitDefEqProofs only [go_sem, h1, h2, h3, h4, hs1, hs2, hs3, hs50, bleR, snC, ble67, sn_snoc, cty_q])
    refine hK _ _ hlt (Wk.refl _) ?_
    simp -dsimp -implicitDefEqProofs only [go_sem, h1, h2, h3, h4, hs1, hs2, hs3, hs50, wrap_succ (show i < 4611686018427387904 by omega), sn_snoc, sn_take hlt]
  · have : i = x.h.length := by omega
    subst this
    rw [List.take_length] at hs50
    simp -dsimp -implicitDefEqProofs only [go_sem, h1, h2, h3, h4, hs1, hs2, hs3, hs50]
    repeat (first | with_reducible refine ask.of (by omega) ?_ | simp -dsimp -implicitDefEqProofs only [go_sem, h1, h2, h3, h4, hs1, hs2, hs3, hs50, bleR, show Nat.ble 4 4 = true from rfl])
theorem c_put (xs : List Sn) (s : Sn) (hx : xs.length ≤ 1048576) (hb : s.p.f.length ≤ 1048576) : MeetsM Tryz.prog 124 [.mu (.bx 153 [.row 122 7 (ra snC xs)]), .mu (.agg (snC s))] (fun r rs => r = .tup [] ∧ rs = [.bx 153 [.row 122 7 (ra snC (xs ++ [s]))], .agg [.v (.int .i64 s.p.a), .v (.int .i64 s.p.b), .v (.int .i64 s.p.c), .v (.int .i64 s.p.d), .v (.bool s.p.e), .any, .v (.int .i64 s.q)]]) := by
  refine MeetsM.introO mixed (hint []) (fun k => (sel (k == 1) [0,1,2,3,4,5,6,7,8,9,10] [])) Tryz.func124 rfl (by decide) res_124 rty_124 (pts := parTys Tryz.prog 124) (by rw [par_124]; rfl) (by kernel_rfl) ?_; rw [par_124]; intro vals; 
  simp -dsimp -implicitDefEqProofs only [go_sem, snC]
  repeat (first | with_reducible refine ask.of (by first | omega | decide | (simp only [ra_length, List.length_cons, List.length_nil]; omega)) ?_ | simp -dsimp -implicitDefEqProofs only [go_sem, bleR, snC, ble67, sn_snoc, cty_q])
set_option maxRecDepth 8000 in
set_option maxHeartbeats 1000000 in
theorem c_outCopy (x : LO) (hx : x.h.length ≤ 1048576) (hb : ∀ b ∈ x.h, b.p.f.length ≤ 1048576) : Meets Tryz.prog 75 [.agg (loC 122 x)] (fun r => r = .agg (loC 122 x)) := by
  refine Meets.introO mixed (hint []) (fun k => (sel (k == 5) [998,0,1,3,4,2,5,2006] [])) Tryz.func75 rfl (by decide) res_75 rty_75 (by kernel_rfl) ?_; 
  simp -dsimp -implicitDefEqProofs only [go_sem, loC]
  repeat (first | with_reducible refine ask.of (by omega) ?_ | simp -dsimp -implicitDefEqProofs only [go_sem, bleR, bl4])
  refine LoopE.cntW x.h.length (fun i s => s.env 1 = .ptr [1] 0 0 0 ∧ s.env 2 = .ptr [2] 0 0 0 ∧ s.env 3 = .ptr [3] 0 0 0 ∧ s.env 8 = .rd .ent 122 7 (ra snC x.h) ∧ s.env 9 = .v (.int .i64 (x.h.length : Nat)) ∧ s.env 10 = .v (.int .i64 i) ∧ s.σ [1] = some (.box 37 [.v (.int .i64 x.a), .v (.int .i64 x.b), .v (.int .i64 x.c), .rd .ent 122 7 (ra snC x.h)])
    ∧ s.σ [2] = some (.box 37 [.v (.int .i64 0), .v (.int .i64 0), .v (.int .i64 0), .v (.slice none 0 0)]) ∧ s.σ [3] = some (.box 153 [.ref [1000002, 3, 0]]) ∧ s.σ [1000002, 3, 0] = some (.row 122 7 (ra snC (x.h.take i))))
    (Wk.box [3] 0 [1000002, 3, 0] 122 7 153 [.v (.slice none 0 0)] ?_ rfl rfl (Wk.refl _)) ?_ ?_
  · simp -dsimp -implicitDefEqProofs only [go_sem]
  · refine ⟨by simp -dsimp -implicitDefEqProofs only [go_sem], by simp -dsimp -implicitDefEqProofs only [go_sem], by simp -dsimp -implicitDefEqProofs only [go_sem], by simp -dsimp -implicitDefEqProofs only [go_sem], by simp -dsimp -implicitDefEqProofs only [go_sem], by simp -dsimp -implicitDefEqProofs only [go_sem] <;> rfl, by simp -dsimp -implicitDefEqProofs only [go_sem], by simp -dsimp -implicitDefEqProofs only [go_sem], by simp -dsimp -implicitDefEqProofs only [go_sem] <;> rfl, by simp -dsimp -implicitDefEqProofs only [go_sem] <;> rfl⟩
  rintro i ⟨e, σ⟩ hi ⟨h1, h2, h3, h8, h9, h10, hs1, hs2, hs3, hs50⟩ K hK
  simp only at h1 h2 h3 h8 h9 h10 hs1 hs2 hs3 hs50
  simp -dsimp -implicitDefEqProofs only [go_sem, h1, h2, h3, h8, h9, h10, hs1, hs2, hs3, hs50]
  refine ifB'.of (fun hlt => ?_) (fun hlt => ?_)
  · have hlt : i < x.h.length := by omega
    have hp := hb _ (List.getElem_mem hlt)
    have htl : (x.h.take i).length = i := by simp; omega
    repeat (first | with_reducible refine ask.of (by omega) ?_ | simp -dsimp -implicitDefEqProofs only [go_sem, h1, h2, h3, h8, h9, h10, hs1, hs2, hs3, hs50, bleR, Sn_at hlt, snC, ble67, bl4])
    refine CallE.of (c_packetCopy x.h[i].p hp) (by rintro r rfl; (repeat' first | exact trivial | exact pure_rowB _ | exact pure_rowO _ | exact pure_rowI _ | exact pure_rowBB _ | exact pure_rowPk _ _ | exact pure_rowSn _ _ | exact pure_rowFd _ _ | exact pure_rowBBB _ | exact pure_rowCl _ _ | exact pure_rowTb _ _ _ | refine And.intro ?_ ?_)) (by simp -dsimp -implicitDefEqProofs only [go_sem, h1, h2, h3, h8, h9, h10, hs1, hs2, hs3, hs50, pkC]) ?_
    rintro r rfl
    simp -dsimp -implicitDefEqProofs only [go_sem, h1, h2, h3, h8, h9, h10, hs1, hs2, hs3, hs50, pkC]
    repeat (first | with_reducible refine ask.of (by first | omega | decide) ?_ | simp -dsimp -implicitDefEqProofs only [go_sem, h1, h2, h3, h8, h9, h10, hs1, hs2, hs3, hs50, bleR, snC, ble67, bl4])
    refine CallE.mutLend (c_put (x.h.take i) x.h[i] (by omega) hp) (by simp -dsimp -implicitDefEqProofs only [go_sem, h1, h2, h3, h8, h9, h10, hs1, hs2, hs3, hs50]) (by simp -dsimp -implicitDefEqProofs only [go_sem, h1, h2, h3, h8, h9, h10, hs1, hs2, hs3, hs50, snC]) (by simp -dsimp -implicitDefEqProofs only [go_sem, h1, h2, h3, h8, h9, h10, hs1, hs2, hs3, hs50, snC]) ?_
    rintro r rs ⟨rfl, rfl⟩
    simp -dsimp -implicitDefEqProofs only [go_sem, h1, h2, h3, h8, h9, h10, hs1, hs2, hs3, hs50, snC]
    repeat (first | with_reducible refine ask.of (by first | omega | decide) ?_ | simp -dsimp -implicitDefEqProofs only [go_sem, h1, h2, h3, h8, h9, h10, hs1, hs2, hs3, hs50, bleR, snC, ble67, bl4])
    refine hK _ _ hlt (Wk.refl _) ?_
    simp -dsimp -implicitDefEqProofs only [go_sem, h1, h2, h3, h8, h9, h10, hs1, hs2, hs3, hs50, wrap_succ (show i < 4611686018427387904 by omega), sn_take hlt]
  · have : i = x.h.length := by omega
    subst this
    rw [List.take_length] at hs50
    simp -dsimp -implicitDefEqProofs only [go_sem, h1, h2, h3, h8, h9, h10, hs1, hs2, hs3, hs50]
    repeat (first | with_reducible refine ask.of (by omega) ?_ | simp -dsimp -implicitDefEqProofs only [go_sem, h1, h2, h3, h8, h9, h10, hs1, hs2, hs3, hs50, bleR, bl4])
end Go.Ev
set_option linter.unusedSimpArgs false
set_option linter.unusedVariables false
namespace Go.Ev
open Go Go.RowKit Go.Proofs
theorem c_ackedFn (s : Sn) (q : Int) : Meets Tryz.prog 138 [.agg (snC s), .bx 3 [.v (.int .i64 q)]] (fun r => r = .v (.bool (decide (s.p.c < q)))) := by
  refine Meets.intro mixed (hint []) Tryz.func138 rfl (by decide) res_138 rty_138 (by kernel_rfl) ?_; 
  simp -dsimp -implicitDefEqProofs only [go_sem, snC]
  repeat (first | with_reducible refine ask.of (by omega) ?_ | simp -dsimp -implicitDefEqProofs only [go_sem, bl4])
theorem par_acked : parTys Tryz.prog 138 = [122] := by kernel_rfl
def qB (xs : List Sn) : AV := .bx 153 [.row 122 7 (ra snC xs)]
def dropQ (q : Int) (xs : List Sn) : List Sn := xs.dropWhile (fun s => decide (s.p.c < q))
theorem c_dropWhile (xs : List Sn) (q : Int) (hx : xs.length ≤ 1048576) : MeetsM Tryz.prog 137 [.mu (qB xs), .rd (.fn 138 [.bx 3 [.v (.int .i64 q)]])] (fun r rs => r = .tup [] ∧ rs = [qB (dropQ q xs), .any]) := by
  refine MeetsM.intro mixed (hint [(25, 1)]) Tryz.func137 rfl (by decide) res_137 rty_137 (pts := parTys Tryz.prog 137) (by rw [par_137]; rfl) (by kernel_rfl) ?_; rw [par_137]; intro vals; 
  simp -dsimp -implicitDefEqProofs only [go_sem, qB]
  refine LoopE.cnt xs.length (fun i s => s.env 0 = .ptr [1000000, 0, 0] 0 0 0 ∧ s.env 1 = .fn 138 [.rp .ent 3 1 [[.v (.int .i64 q)]] 0 0] ∧ s.σ [1000000, 0, 0] = some (.box 153 [.ref [1000000, 0, 1, 0]]) ∧ s.σ [1000000, 0, 1, 0] = some (.row 122 7 (ra snC (xs.drop i))) ∧ s.σ [1000001, 0] = some (.pin (.ptr [1000000, 0, 0] 0 0 0) (vals 0)) ∧ dropQ q (xs.drop i) = dropQ q xs) ⟨by simp -dsimp -implicitDefEqProofs only [go_sem], by simp -dsimp -implicitDefEqProofs only [go_sem], by simp -dsimp -implicitDefEqProofs only [go_sem], by simp -dsimp -implicitDefEqProofs only [go_sem], by simp -dsimp -implicitDefEqProofs only [go_sem], rfl⟩ ?_
  rintro i ⟨e, σ⟩ hi ⟨h0, h1, hs0, hs1, hs2, hd⟩ K hK
  simp only at h0 h1 hs0 hs1 hs2
  simp -dsimp -implicitDefEqProofs only [go_sem, h0, h1, hs0, hs1, hs2]
  repeat (first | with_reducible refine ask.of (by omega) ?_ | simp -dsimp -implicitDefEqProofs only [go_sem, h0, h1, hs0, hs1, hs2, bl4])
  have hl : (xs.drop i).length = xs.length - i := by simp
  refine ifB'.of (fun hlt => ?_) (fun hlt => ?_)
  · have hlt : 0 < (xs.drop i).length := by omega
    have hlt : i < xs.length := by omega
    have hat : (ra snC (xs.drop i))[0]? = some (snC xs[i]) := by rw [Sn_at (by omega)]; simp
    repeat (first | with_reducible refine ask.of (by first | omega | (constructor <;> omega)) ?_ | simp -dsimp -implicitDefEqProofs only [go_sem, h0, h1, hs0, hs1, hs2, bl4, hat, tn0, snC, ble67, bleR])
    refine CallV.ofE (c_ackedFn xs[i] q) (by rintro r rfl; (repeat' first | exact trivial | exact pure_rowB _ | exact pure_rowO _ | exact pure_rowI _ | exact pure_rowBB _ | exact pure_rowPk _ _ | exact pure_rowSn _ _ | exact pure_rowFd _ _ | exact pure_rowBBB _ | exact pure_rowCl _ _ | exact pure_rowTb _ _ _ | refine And.intro ?_ ?_)) (by first | (simp -dsimp -implicitDefEqProofs only [go_sem, h0, h1, hs0, hs1, hs2, snC, par_acked]; done) | (simp -dsimp -implicitDefEqProofs only [go_sem, h0, h1, hs0, hs1, hs2, snC, par_acked]; rfl)) (by first | (simp -dsimp -implicitDefEqProofs only [go_sem, h0, h1, hs0, hs1, hs2, snC, par_acked]; done) | (simp -dsimp -implicitDefEqProofs only [go_sem, h0, h1, hs0, hs1, hs2, snC, par_acked]; rfl)) (by first | rfl | (simp -dsimp -implicitDefEqProofs only [go_sem, h0, h1, hs0, hs1, hs2, snC, par_acked]; done)) ?_
    rintro r rfl
    simp -dsimp -implicitDefEqProofs only [go_sem, h0, h1, hs0, hs1, hs2, snC, par_acked]
    have hdr : dropQ q (xs.drop i) = if xs[i].p.c < q then dropQ q (xs.drop (i + 1)) else xs.drop i := by
      rw [dropQ, List.drop_eq_getElem_cons hlt, List.dropWhile_cons]
      simp only [decide_eq_true_eq]; rfl
    refine ifB'.of (fun hc => ?_) (fun hc => ?_)
    · repeat (first | with_reducible refine ask.of (by first | omega | (constructor <;> omega)) ?_ | simp -dsimp -implicitDefEqProofs only [go_sem, h0, h1, hs0, hs1, hs2, bl4, hat, tn0, snC, ble67, bleR])
      refine hK _ hlt ?_
      rw [if_pos hc] at hdr
      simp -dsimp -implicitDefEqProofs only [go_sem, h0, h1, hs0, hs1, hs2]
      exact ⟨by rw [tn1, List.take_length, List.drop_drop], hdr.symm.trans hd⟩
    · repeat (first | with_reducible refine ask.of (by first | omega | (constructor <;> omega)) ?_ | simp -dsimp -implicitDefEqProofs only [go_sem, h0, h1, hs0, hs1, hs2, bl4, hat, tn0, snC, ble67, bleR, cty_q])
      all_goals (rw [if_neg hc] at hdr; rw [← hd, hdr])
  · have hlt : ¬ 0 < (xs.drop i).length := by omega
    repeat (first | with_reducible refine ask.of (by first | omega | (constructor <;> omega)) ?_ | simp -dsimp -implicitDefEqProofs only [go_sem, h0, h1, hs0, hs1, hs2, bl4, cty_q, tn0])
    have hnil : xs.drop i = [] := List.eq_nil_of_length_eq_zero (by omega)
    rw [← hd, hnil]
    trivial
def lo0 : LO := ⟨0, 0, 0, []⟩
noncomputable def ackL (x : LO) (q : Int) : LO × Int := @ite _ (okLO x ∧ 0 ≤ q ∧ q ≤ x.b) (Classical.propDecidable _) ({ x with h := dropQ q x.h }, 0) (lo0, 1)
theorem ackL_yes {x : LO} {q : Int} (h : okLO x ∧ 0 ≤ q ∧ q ≤ x.b) : ackL x q = ({ x with h := dropQ q x.h }, 0) := @if_pos _ (Classical.propDecidable _) h _ _ _
theorem ackL_no {x : LO} {q : Int} (h : ¬ (okLO x ∧ 0 ≤ q ∧ q ≤ x.b)) : ackL x q = (lo0, 1) := @if_neg _ (Classical.propDecidable _) h _ _ _
noncomputable def resL (xc : LO × Int) : AV := .tup [.agg (loC 122 xc.1), .v (.int .i64 xc.2)]
theorem loB_t {x : LO} (h : loB x = true) : okLO x := of_decide_eq_true (inst := Classical.propDecidable _) h
theorem loB_f {x : LO} (h : loB x = false) : ¬ okLO x := of_decide_eq_false (inst := Classical.propDecidable _) h
theorem ack_no {x : LO} {q : Int} (h : ¬ (okLO x ∧ 0 ≤ q ∧ q ≤ x.b)) : AV.tup [.agg [.v (.int .i64 0), .v (.int .i64 0), .v (.int .i64 0), .row 122 7 []], .v (.int .i64 1)] = resL (ackL x q) := by rw [ackL_no h]; rfl
set_option maxRecDepth 8000 in
set_option maxHeartbeats 1000000 in
theorem c_implLinkAcked (x : LO) (q : Int) (hx : x.h.length ≤ 1048576) (hb : ∀ b ∈ x.h, b.p.f.length ≤ 1048576) : Meets Tryz.prog 99 [.agg (loC 122 x), .v (.int .i64 q)] (fun r => r = resL (ackL x q)) := by
  refine Meets.intro mixed (hint []) Tryz.func99 rfl (by decide) res_99 rty_99 (by kernel_rfl) ?_; 
  simp -dsimp -implicitDefEqProofs only [go_sem, loC]
  repeat (first | with_reducible refine ask.of (by omega) ?_ | simp -dsimp -implicitDefEqProofs only [go_sem, bleR, bl4])
  refine CallE.of (c_implValidOut x hx hb) (by rintro r rfl; (repeat' first | exact trivial | exact pure_rowB _ | exact pure_rowO _ | exact pure_rowI _ | exact pure_rowBB _ | exact pure_rowPk _ _ | exact pure_rowSn _ _ | exact pure_rowFd _ _ | exact pure_rowBBB _ | exact pure_rowCl _ _ | exact pure_rowTb _ _ _ | refine And.intro ?_ ?_)) (by simp -dsimp -implicitDefEqProofs only [go_sem, loC]) ?_
  rintro r rfl
  simp -dsimp -implicitDefEqProofs only [go_sem, loC]
  cases hv : loB x
  · have hv := loB_f hv
    repeat (first | with_reducible refine ask.of (by omega) ?_ | simp -dsimp -implicitDefEqProofs only [go_sem, bleR, bl4, Bool.not_false])
    exact ack_no fun h => hv h.1
  have hv := loB_t hv
  repeat' (first | with_reducible refine ifB'.of (fun h => ?_) (fun h => ?_) | with_reducible refine ask.of (by omega) ?_ | ((with_reducible refine ack_no ?_); omega) | simp -dsimp -implicitDefEqProofs only [go_sem, bleR, bl4, Bool.not_true])
  refine CallE.of (c_outCopy x hx hb) (by rintro r rfl; (repeat' first | exact trivial | exact pure_rowB _ | exact pure_rowO _ | exact pure_rowI _ | exact pure_rowBB _ | exact pure_rowPk _ _ | exact pure_rowSn _ _ | exact pure_rowFd _ _ | exact pure_rowBBB _ | exact pure_rowCl _ _ | exact pure_rowTb _ _ _ | refine And.intro ?_ ?_)) (by simp -dsimp -implicitDefEqProofs only [go_sem, loC]) ?_
  rintro r rfl
  simp -dsimp -implicitDefEqProofs only [go_sem, loC]
  repeat (first | with_reducible refine ask.of (by omega) ?_ | simp -dsimp -implicitDefEqProofs only [go_sem, bleR, bl4])
  refine CallE.mut (c_dropWhile x.h q (by omega)) (by simp -dsimp -implicitDefEqProofs only [go_sem]) (by rintro r rs ⟨rfl, rfl⟩; exact ⟨by (repeat' first | exact trivial | exact pure_rowB _ | exact pure_rowO _ | exact pure_rowI _ | exact pure_rowBB _ | exact pure_rowPk _ _ | exact pure_rowSn _ _ | exact pure_rowFd _ _ | exact pure_rowBBB _ | exact pure_rowCl _ _ | exact pure_rowTb _ _ _ | refine And.intro ?_ ?_), by first | exact ⟨by (repeat' first | exact trivial | exact pure_rowB _ | exact pure_rowO _ | exact pure_rowI _ | exact pure_rowBB _ | exact pure_rowPk _ _ | exact pure_rowSn _ _ | exact pure_rowFd _ _ | exact pure_rowBBB _ | exact pure_rowCl _ _ | exact pure_rowTb _ _ _ | refine And.intro ?_ ?_), trivial⟩ | exact ⟨by (repeat' first | exact trivial | exact pure_rowB _ | exact pure_rowO _ | exact pure_rowI _ | exact pure_rowBB _ | exact pure_rowPk _ _ | exact pure_rowSn _ _ | exact pure_rowFd _ _ | exact pure_rowBBB _ | exact pure_rowCl _ _ | exact pure_rowTb _ _ _ | refine And.intro ?_ ?_), trivial, trivial⟩⟩) (by simp -dsimp -implicitDefEqProofs only [go_sem, qB, cty_q]) (by simp -dsimp -implicitDefEqProofs only [go_sem, qB, cty_q]) ?_
  rintro r rs ⟨rfl, rfl⟩
  simp -dsimp -implicitDefEqProofs only [go_sem, qB, cty_q]
  repeat (first | with_reducible refine ask.of (by omega) ?_ | simp -dsimp -implicitDefEqProofs only [go_sem, bleR, bl4])
  rw [ackL_yes ⟨hv, by omega, by omega⟩]
  rfl
def keepQ (q : Int) (xs : List Sn) : List Sn := xs.filter (fun s => decide (q ≤ s.p.c))
theorem keep_drop (q : Int) : ∀ {xs : List Sn}, xs.Pairwise (fun s t => s.p.c ≤ t.p.c) → keepQ q xs = dropQ q xs
  | [], _ => rfl
  | s :: xs, h => by
    obtain ⟨h1, h2⟩ := List.pairwise_cons.1 h
    by_cases hc : s.p.c < q
    · rw [keepQ, dropQ, List.filter_cons_of_neg (by simpa using hc), List.dropWhile_cons_of_pos (by simpa using hc)]
      exact keep_drop q h2
    · rw [dropQ, List.dropWhile_cons_of_neg (by simpa using hc), keepQ, List.filter_eq_self.2]
      intro t ht
      rcases List.mem_cons.1 ht with rfl | ht
      · simpa using hc
      · have := h1 t ht
        simp; omega
theorem lo_pair {x : LO} (h : okLO x) : x.h.Pairwise (fun s t => s.p.c ≤ t.p.c) := by
  rw [List.pairwise_iff_getElem]
  intro i j hi hj hij
  have h1 := (h.2 i hi).2.2.2.1
  have h2 := (h.2 j hj).2.2.2.1
  omega
theorem keepQ_snoc (q : Int) {xs : List Sn} {i : Nat} (h : i < xs.length) : keepQ q (xs.take (i + 1)) = if q ≤ xs[i].p.c then keepQ q (xs.take i) ++ [xs[i]] else keepQ q (xs.take i) := by
  rw [← sn_take h, keepQ, List.filter_append]
  by_cases hc : q ≤ xs[i].p.c <;> simp [keepQ, hc]
set_option maxRecDepth 8000 in
set_option maxHeartbeats 1000000 in
theorem c_specLinkAcked (x : LO) (q : Int) (hx : x.h.length ≤ 1048576) (hb : ∀ b ∈ x.h, b.p.f.length ≤ 1048576) : Meets Tryz.prog 44 [.agg (loC 122 x), .v (.int .i64 q)] (fun r => r = resL (ackL x q)) := by
  refine Meets.introO mixed (hint []) (fun k => (sel (k == 9) [0,1,2,3,4,5,6,7,9,10,11,12,13,14,8,15,16,17,18,19] [])) Tryz.func44 rfl (by decide) res_44 rty_44 (by kernel_rfl) ?_; 
  simp -dsimp -implicitDefEqProofs only [go_sem, loC]
  repeat (first | with_reducible refine ask.of (by omega) ?_ | simp -dsimp -implicitDefEqProofs only [go_sem, bleR, bl4])
  refine CallE.of (c_specValidOut x hx hb) (by rintro r rfl; (repeat' first | exact trivial | exact pure_rowB _ | exact pure_rowO _ | exact pure_rowI _ | exact pure_rowBB _ | exact pure_rowPk _ _ | exact pure_rowSn _ _ | exact pure_rowFd _ _ | exact pure_rowBBB _ | exact pure_rowCl _ _ | exact pure_rowTb _ _ _ | refine And.intro ?_ ?_)) (by simp -dsimp -implicitDefEqProofs only [go_sem, loC]) ?_
  rintro r rfl
  simp -dsimp -implicitDefEqProofs only [go_sem, loC]
  cases hv : loB x
  · have hv := loB_f hv
    repeat (first | with_reducible refine ask.of (by omega) ?_ | simp -dsimp -implicitDefEqProofs only [go_sem, bleR, bl4, Bool.not_false])
    exact ack_no fun h => hv h.1
  have hv := loB_t hv
  repeat' (first | with_reducible refine ifB'.of (fun h => ?_) (fun h => ?_) | with_reducible refine ask.of (by omega) ?_ | ((with_reducible refine ack_no ?_); omega) | simp -dsimp -implicitDefEqProofs only [go_sem, bleR, bl4, Bool.not_true, initE])
  refine CallE.of (c_l5out x hx hb) (by rintro r rfl; (repeat' first | exact trivial | exact pure_rowB _ | exact pure_rowO _ | exact pure_rowI _ | exact pure_rowBB _ | exact pure_rowPk _ _ | exact pure_rowSn _ _ | exact pure_rowFd _ _ | exact pure_rowBBB _ | exact pure_rowCl _ _ | exact pure_rowTb _ _ _ | refine And.intro ?_ ?_)) (by simp -dsimp -implicitDefEqProofs only [go_sem, loC]) ?_
  rintro r rfl
  simp -dsimp -implicitDefEqProofs only [go_sem, loC]
  repeat (first | with_reducible refine ask.of (by omega) ?_ | simp -dsimp -implicitDefEqProofs only [go_sem, bleR, bl4])
  refine LoopE.cntW x.h.length (fun i s => s.env 1 = .v (.int .i64 q) ∧ s.env 2 = .ptr [2] 0 0 0 ∧ s.env 4 = .ptr [4] 0 0 0 ∧ s.env 6 = .ptr [6] 0 0 0 ∧ s.env 7 = .v (.int .i64 i) ∧ s.σ [2] = some (.box 37 [.v (.int .i64 x.a), .v (.int .i64 x.b), .v (.int .i64 x.c), .rd .ent 122 7 (ra snC x.h)])
    ∧ s.σ [4] = some (.box 37 [.v (.int .i64 0), .v (.int .i64 0), .v (.int .i64 0), .v (.slice none 0 0)]) ∧ s.σ [6] = some (.box 37 [.v (.int .i64 x.a), .v (.int .i64 x.b), .v (.int .i64 x.c), .ref [50]]) ∧ s.σ [50] = some (.row 122 7 (ra snC (keepQ q (x.h.take i)))))
    (Wk.box [6] 3 [50] 122 7 37 [.v (.int .i64 x.a), .v (.int .i64 x.b), .v (.int .i64 x.c), .v (.slice none 0 0)] ?_ rfl rfl (Wk.refl _)) ?_ ?_
  · simp -dsimp -implicitDefEqProofs only [go_sem]
  · refine ⟨by simp -dsimp -implicitDefEqProofs only [go_sem, initE], by simp -dsimp -implicitDefEqProofs only [go_sem], by simp -dsimp -implicitDefEqProofs only [go_sem], by simp -dsimp -implicitDefEqProofs only [go_sem], by simp -dsimp -implicitDefEqProofs only [go_sem] <;> rfl, by simp -dsimp -implicitDefEqProofs only [go_sem], by simp -dsimp -implicitDefEqProofs only [go_sem], by simp -dsimp -implicitDefEqProofs only [go_sem] <;> rfl, by simp -dsimp -implicitDefEqProofs only [go_sem] <;> rfl⟩
  rintro i ⟨e, σ⟩ hi ⟨h1, h2, h4, h6, h7, hs2, hs4, hs6, hs50⟩ K hK
  simp only at h1 h2 h4 h6 h7 hs2 hs4 hs6 hs50
  simp -dsimp -implicitDefEqProofs only [go_sem, h1, h2, h4, h6, h7, hs2, hs4, hs6, hs50]
  repeat (first | with_reducible refine ask.of (by omega) ?_ | simp -dsimp -implicitDefEqProofs only [go_sem, h1, h2, h4, h6, h7, hs2, hs4, hs6, hs50, bleR, bl4])
  refine ifB'.of (fun hlt => ?_) (fun hlt => ?_)
  · have hlt : i < x.h.length := by omega
    have hp := hb _ (List.getElem_mem hlt)
    have htl : (keepQ q (x.h.take i)).length ≤ i := by have := List.length_filter_le (fun s : Sn => decide (q ≤ s.p.c)) (x.h.take i); simp only [keepQ] at *; simp at this; omega
    have hks := keepQ_snoc q hlt
    repeat (first | with_reducible refine ask.of (by omega) ?_ | simp -dsimp -implicitDefEqProofs only [go_sem, h1, h2, h4, h6, h7, hs2, hs4, hs6, hs50, bleR, Sn_at hlt, snC, ble67, bl4])
    refine ifB'.of (fun hc => ?_) (fun hc => ?_)
    · rw [if_pos (by omega)] at hks
      repeat (first | with_reducible refine ask.of (by omega) ?_ | simp -dsimp -implicitDefEqProofs only [go_sem, h1, h2, h4, h6, h7, hs2, hs4, hs6, hs50, bleR, Sn_at hlt, snC, ble67, bl4])
      refine CallE.of (c_l5packet x.h[i].p hp) (by rintro r rfl; (repeat' first | exact trivial | exact pure_rowB _ | exact pure_rowO _ | exact pure_rowI _ | exact pure_rowBB _ | exact pure_rowPk _ _ | exact pure_rowSn _ _ | exact pure_rowFd _ _ | exact pure_rowBBB _ | exact pure_rowCl _ _ | exact pure_rowTb _ _ _ | refine And.intro ?_ ?_)) (by simp -dsimp -implicitDefEqProofs only [go_sem, h1, h2, h4, h6, h7, hs2, hs4, hs6, hs50, pkC]) ?_
      rintro r rfl
      simp -dsimp -implicitDefEqProofs only [go_sem, h1, h2, h4, h6, h7, hs2, hs4, hs6, hs50, pkC]
      repeat (first | with_reducible refine ask.of (by first | omega | decide | (simp only [ra_length, List.length_cons, List.length_nil]; omega)) ?_ | simp -dsimp -implicitDefEqProofs only [go_sem, h1, h2, h4, h6, h7, hs2, hs4, hs6, hs50, bleR, snC, ble67, bl4, sn_snoc])
      refine hK _ _ hlt (Wk.refl _) ?_
      simp -dsimp -implicitDefEqProofs only [go_sem, h1, h2, h4, h6, h7, hs2, hs4, hs6, hs50, wrap_succ (show i < 4611686018427387904 by omega), sn_snoc, hks]
    · rw [if_neg (by omega)] at hks
      repeat (first | with_reducible refine ask.of (by omega) ?_ | simp -dsimp -implicitDefEqProofs only [go_sem, h1, h2, h4, h6, h7, hs2, hs4, hs6, hs50, bleR, Sn_at hlt, snC, ble67, bl4])
      refine hK _ _ hlt (Wk.refl _) ?_
      simp -dsimp -implicitDefEqProofs only [go_sem, h1, h2, h4, h6, h7, hs2, hs4, hs6, hs50, wrap_succ (show i < 4611686018427387904 by omega), hks]
  · have : i = x.h.length := by omega
    subst this
    rw [List.take_length, keep_drop q (lo_pair hv)] at hs50
    simp -dsimp -implicitDefEqProofs only [go_sem, h1, h2, h4, h6, h7, hs2, hs4, hs6, hs50]
    repeat (first | with_reducible refine ask.of (by omega) ?_ | simp -dsimp -implicitDefEqProofs only [go_sem, h1, h2, h4, h6, h7, hs2, hs4, hs6, hs50, bleR, bl4])
    rw [ackL_yes ⟨hv, by omega, by omega⟩]
    rfl
end Go.Ev
set_option linter.unusedSimpArgs false
set_option linter.unusedVariables false
namespace Go.Ev
open Go Go.RowKit Go.Proofs
def mkSn (k : Nat) (s : Sn) : Sn := ⟨⟨(k : Nat), ((k + 1 : Nat) : Int), ((k + 2 : Nat) : Int), ((k + 3 : Nat) : Int), decide (((k + 4 : Nat) : Int).tmod 3 = 0), mkB (k + 5) s.p.f.length⟩, ((k + 5 + s.p.f.length : Nat) : Int)⟩
def szSn (s : Sn) : Nat := 6 + s.p.f.length
def mkSnS (k : Nat) (xs : List Sn) : List Sn := mkL mkSn szSn k xs
theorem Sn_at' {xs : List Sn} {i : Nat} {s : Sn} (h : xs[i]? = some s) : (ra snC xs)[i]? = some (snC s) := ra_at' h
theorem sn_set (xs : List Sn) (i : Nat) (s : Sn) : (ra snC xs).set i [.v (.int .i64 s.p.a), .v (.int .i64 s.p.b), .v (.int .i64 s.p.c), .v (.int .i64 s.p.d), .v (.bool s.p.e), .row 5 1 (bytesA s.p.f), .v (.int .i64 s.q)] = ra snC (xs.set i s) := ra_set xs i s
theorem wrapA (m j : Nat) (h : m + j < 4611686018427387904) : IntKind.i64.wrap (((m + j : Nat) : Int) + 1) = ((m + (j + 1) : Nat) : Int) := by rw [wrap_i64_of (by omega) (by omega)]; omega
theorem bl7 : Nat.ble 1 7 = true ∧ Nat.ble 2 7 = true ∧ Nat.ble 3 7 = true ∧ Nat.ble 4 7 = true ∧ Nat.ble 5 7 = true ∧ Nat.ble 6 7 = true ∧ Nat.ble 7 7 = true := ⟨rfl, rfl, rfl, rfl, rfl, rfl, rfl⟩
set_option maxHeartbeats 4000000 in
set_option maxRecDepth 8000 in
theorem c_markSentS (xs : List Sn) (k : Nat) (hk : k + szL szSn xs ≤ 4611686018427387904) (hx : xs.length ≤ 1048576) (hb : ∀ b ∈ xs, b.p.f.length ≤ 1048576) : MeetsM Tryz.prog 83 [.mu (rowSn 122 xs), .rd (.v (.int .i64 k))] (fun r rs => r = .v (.int .i64 ((k + szL szSn xs : Nat) : Int)) ∧ rs = [rowSn 122 (mkSnS k xs), .any]) := by
  refine MeetsM.intro mixed (hint []) Tryz.func83 rfl (by decide) res_83 rty_83 (pts := parTys Tryz.prog 83) (by rw [par_83]; rfl) (by kernel_rfl) ?_; rw [par_83]; intro vals; 
  simp -dsimp -implicitDefEqProofs only [go_sem, rowSn]
  refine LoopE.cnt xs.length (fun i s => s.env 0 = .ref [1000000, 0] ∧ s.env 1 = .v (.int .i64 ((k + szL szSn (xs.take i) : Nat) : Int)) ∧ s.env 5 = .v (.int .i64 i) ∧ s.σ [1000000, 0] = some (.row 122 7 (ra snC (mkLP mkSn szSn k xs i))) ∧ s.σ [1000001, 0] = some (.pin (.ref [1000000, 0]) (vals 0))) ⟨by simp -dsimp -implicitDefEqProofs only [go_sem], by simp -dsimp -implicitDefEqProofs only [go_sem] <;> simp [szL], by simp -dsimp -implicitDefEqProofs only [go_sem] <;> simp, by simp -dsimp -implicitDefEqProofs only [go_sem, mkLP_zero], by simp -dsimp -implicitDefEqProofs only [go_sem]⟩ ?_
  rintro i ⟨e, σ⟩ hi ⟨h0, h1, h5, hs, hp⟩ K hK
  simp only at h0 h1 h5 hs hp
  have hl := mkLP_length mkSn szSn k hi
  simp -dsimp -implicitDefEqProofs only [go_sem, h0, h1, h5, hs, hp, hl]
  refine ifB'.of (fun hlt => ?_) (fun hlt => ?_)
  · have hlt : i < xs.length := by omega
    have hw := szL_at_le szSn hlt
    have hpb := hb _ (List.getElem_mem hlt)
    have hat := Sn_at' (mkLP_at mkSn szSn k hlt)
    have hgs : ∀ c : List AV, ((ra snC (mkLP mkSn szSn k xs i)).set i c)[i]? = some c := fun c => by rw [List.getElem?_set_self]; rw [ra_length]; omega
    obtain ⟨m, hm⟩ : ∃ m, k + szL szSn (xs.take i) = m := ⟨_, rfl⟩
    rw [hm] at h1
    have hwm : m + (6 + xs[i].p.f.length) ≤ 4611686018427387904 := by unfold szSn at hw hk hm; omega
    have e0 : IntKind.i64.wrap ((m : Int) + 1) = ((m + 1 : Nat) : Int) := wrapA m 0 (by omega)
    have e1 := wrapA m 1 (by omega)
    have e2 := wrapA m 2 (by omega)
    have e3 := wrapA m 3 (by omega)
    have e4 := wrapA m 4 (by omega)
    repeat (first | with_reducible refine ask.of (by first | omega | decide | (simp [hl]; omega)) ?_ | simp -dsimp -implicitDefEqProofs only [go_sem, h0, h1, h5, hs, hp, hl, hat, snC, hgs, List.set_set, List.length_set, bl7, e0, e1, e2, e3, e4])
    refine CallE.mut (c_markByteS xs[i].p.f (m + 5) (by omega) (by omega)) (by simp -dsimp -implicitDefEqProofs only [go_sem, h0, h1, h5, hs, hp]) (by rintro r rs ⟨rfl, rfl⟩; exact ⟨by (repeat' first | exact trivial | exact pure_rowB _ | exact pure_rowO _ | exact pure_rowI _ | exact pure_rowBB _ | exact pure_rowPk _ _ | exact pure_rowSn _ _ | exact pure_rowFd _ _ | exact pure_rowBBB _ | exact pure_rowCl _ _ | exact pure_rowTb _ _ _ | refine And.intro ?_ ?_), by first | exact ⟨by (repeat' first | exact trivial | exact pure_rowB _ | exact pure_rowO _ | exact pure_rowI _ | exact pure_rowBB _ | exact pure_rowPk _ _ | exact pure_rowSn _ _ | exact pure_rowFd _ _ | exact pure_rowBBB _ | exact pure_rowCl _ _ | exact pure_rowTb _ _ _ | refine And.intro ?_ ?_), trivial⟩ | exact ⟨by (repeat' first | exact trivial | exact pure_rowB _ | exact pure_rowO _ | exact pure_rowI _ | exact pure_rowBB _ | exact pure_rowPk _ _ | exact pure_rowSn _ _ | exact pure_rowFd _ _ | exact pure_rowBBB _ | exact pure_rowCl _ _ | exact pure_rowTb _ _ _ | refine And.intro ?_ ?_), trivial, trivial⟩⟩) (by simp -dsimp -implicitDefEqProofs only [go_sem, h0, h1, h5, hs, hp, hgs, List.set_set]) (by simp -dsimp -implicitDefEqProofs only [go_sem, h0, h1, h5, hs, hp, hgs, List.set_set]) ?_
    rintro r rs ⟨rfl, rfl⟩
    simp -dsimp -implicitDefEqProofs only [go_sem, h0, h1, h5, hs, hp, hgs, List.set_set]
    have e5 : IntKind.i64.wrap (((m + 5 + xs[i].p.f.length : Nat) : Int) + 1) = ((m + 5 + xs[i].p.f.length + 1 : Nat) : Int) := by rw [wrap_i64_of (by omega) (by omega)]; omega
    repeat (first | with_reducible refine ask.of (by first | omega | decide | (simp [hl]; omega)) ?_ | simp -dsimp -implicitDefEqProofs only [go_sem, h0, h1, h5, hs, hp, hl, hgs, List.set_set, List.length_set, bl7, e5])
    refine hK _ hlt ?_
    simp -dsimp -implicitDefEqProofs only [go_sem, h0, h1, h5, hs, hp, hgs, List.set_set, wrap_succ (show i < 4611686018427387904 by omega), szL_take_succ szSn hlt]
    refine ⟨by rw [← hm]; unfold szSn; omega, ?_⟩
    rw [← mkLP_set mkSn szSn k hlt (y := mkSn m xs[i]) (by rw [hm]), ← sn_set]
    rfl
  · have : i = xs.length := by omega
    subst this
    simp -dsimp -implicitDefEqProofs only [go_sem, h0, h1, h5, hs, hp, mkLP_full, List.take_length]
    rfl
set_option maxHeartbeats 4000000 in
set_option maxRecDepth 8000 in
theorem c_heldSentS (xs : List Sn) (k : Nat) (hk : k + szL szSn xs ≤ 4611686018427387904) (hx : xs.length ≤ 1048576) (hb : ∀ b ∈ xs, b.p.f.length ≤ 1048576) : Meets Tryz.prog 87 [rowSn 122 (mkSnS k xs), .v (.int .i64 k)] (fun r => r = .v (.int .i64 ((k + szL szSn xs : Nat) : Int))) := by
  refine Meets.intro mixed (hint []) Tryz.func87 rfl (by decide) res_87 rty_87 (by kernel_rfl) ?_; 
  simp -dsimp -implicitDefEqProofs only [go_sem, rowSn]
  refine LoopE.cnt xs.length (fun i s => s.env 0 = .rd .ent 122 7 (ra snC (mkSnS k xs)) ∧ s.env 1 = .v (.int .i64 ((k + szL szSn (xs.take i) : Nat) : Int)) ∧ s.env 5 = .v (.int .i64 i)) ⟨by simp -dsimp -implicitDefEqProofs only [go_sem, initE, rowSn], by simp -dsimp -implicitDefEqProofs only [go_sem, initE] <;> simp [szL], by simp -dsimp -implicitDefEqProofs only [go_sem] <;> simp⟩ ?_
  rintro i ⟨e, σ⟩ hi ⟨h0, h1, h5⟩ K hK
  simp only at h0 h1 h5
  have hl : (mkSnS k xs).length = xs.length := mkL_length mkSn szSn k xs
  simp -dsimp -implicitDefEqProofs only [go_sem, h0, h1, h5, hl]
  refine ifB'.of (fun hlt => ?_) (fun hlt => ?_)
  · have hlt : i < xs.length := by omega
    have hw := szL_at_le szSn hlt
    have hpb := hb _ (List.getElem_mem hlt)
    have hat := Sn_at' (mkL_at mkSn szSn k hlt)
    obtain ⟨m, hm⟩ : ∃ m, k + szL szSn (xs.take i) = m := ⟨_, rfl⟩
    rw [hm] at h1 hat
    have hat : (ra snC (mkSnS k xs))[i]? = some (snC (mkSn m xs[i])) := hat
    have hwm : m + (6 + xs[i].p.f.length) ≤ 4611686018427387904 := by unfold szSn at hw hk hm; omega
    have e0 : IntKind.i64.wrap ((m : Int) + 1) = ((m + 1 : Nat) : Int) := wrapA m 0 (by omega)
    have e1 := wrapA m 1 (by omega)
    have e2 := wrapA m 2 (by omega)
    have e3 := wrapA m 3 (by omega)
    have e4 := wrapA m 4 (by omega)
    have e5 : IntKind.i64.wrap (((m + 5 + xs[i].p.f.length : Nat) : Int) + 1) = ((m + 5 + xs[i].p.f.length + 1 : Nat) : Int) := by rw [wrap_i64_of (by omega) (by omega)]; omega
    repeat (first | with_reducible refine ask.of (by first | omega | decide | (simp [hl]; omega)) ?_ | simp -dsimp -implicitDefEqProofs only [go_sem, h0, h1, h5, hl, hat, snC, mkSn, bl7, e0, e1, e2, e3, e4, decide_true, Bool.not_true])
    refine CallE.of (c_heldByteS (m + 5) xs[i].p.f.length (by omega) (by omega)) (by rintro r rfl; (repeat' first | exact trivial | exact pure_rowB _ | exact pure_rowO _ | exact pure_rowI _ | exact pure_rowBB _ | exact pure_rowPk _ _ | exact pure_rowSn _ _ | exact pure_rowFd _ _ | exact pure_rowBBB _ | exact pure_rowCl _ _ | exact pure_rowTb _ _ _ | refine And.intro ?_ ?_)) (by simp -dsimp -implicitDefEqProofs only [go_sem, h0, h1, h5, mkB]) ?_
    rintro r rfl
    simp -dsimp -implicitDefEqProofs only [go_sem, h0, h1, h5, mkB]
    refine ifB'.of (fun h => by omega) (fun h => ?_)
    repeat (first | with_reducible refine ask.of (by first | omega | decide | (simp [hl]; omega)) ?_ | simp -dsimp -implicitDefEqProofs only [go_sem, h0, h1, h5, hl, hat, snC, mkSn, bl7, e5, decide_true, Bool.not_true])
    refine hK _ hlt ?_
    simp -dsimp -implicitDefEqProofs only [go_sem, h0, h1, h5, wrap_succ (show i < 4611686018427387904 by omega), szL_take_succ szSn hlt]
    rw [← hm]; unfold szSn; omega
  · have : i = xs.length := by omega
    subst this
    simp -dsimp -implicitDefEqProofs only [go_sem, h0, h1, h5, List.take_length]
theorem c_markLinkOut (x : LO) (k : Nat) (hk : k + szL szSn x.h ≤ 4611686018427387904) (hx : x.h.length ≤ 1048576) (hb : ∀ b ∈ x.h, b.p.f.length ≤ 1048576) : MeetsM Tryz.prog 37 [.mu (.agg (loC 122 x)), .rd (.v (.int .i64 k))] (fun r rs => r = .v (.int .i64 ((k + szL szSn x.h : Nat) : Int)) ∧ rs = [.agg (loC 122 { x with h := mkSnS k x.h }), .any]) := by
  refine MeetsM.intro mixed (hint []) Tryz.func37 rfl (by decide) res_37 rty_37 (pts := parTys Tryz.prog 37) (by rw [par_37]; rfl) (by kernel_rfl) ?_; rw [par_37]; intro vals; 
  simp -dsimp -implicitDefEqProofs only [go_sem, loC]
  repeat (first | with_reducible refine ask.of (by omega) ?_ | simp -dsimp -implicitDefEqProofs only [go_sem, bleR, bl4])
  refine CallE.mut (c_markSentS x.h k hk hx hb) (by simp -dsimp -implicitDefEqProofs only [go_sem]) (by rintro r rs ⟨rfl, rfl⟩; exact ⟨by (repeat' first | exact trivial | exact pure_rowB _ | exact pure_rowO _ | exact pure_rowI _ | exact pure_rowBB _ | exact pure_rowPk _ _ | exact pure_rowSn _ _ | exact pure_rowFd _ _ | exact pure_rowBBB _ | exact pure_rowCl _ _ | exact pure_rowTb _ _ _ | refine And.intro ?_ ?_), by first | exact ⟨by (repeat' first | exact trivial | exact pure_rowB _ | exact pure_rowO _ | exact pure_rowI _ | exact pure_rowBB _ | exact pure_rowPk _ _ | exact pure_rowSn _ _ | exact pure_rowFd _ _ | exact pure_rowBBB _ | exact pure_rowCl _ _ | exact pure_rowTb _ _ _ | refine And.intro ?_ ?_), trivial⟩ | exact ⟨by (repeat' first | exact trivial | exact pure_rowB _ | exact pure_rowO _ | exact pure_rowI _ | exact pure_rowBB _ | exact pure_rowPk _ _ | exact pure_rowSn _ _ | exact pure_rowFd _ _ | exact pure_rowBBB _ | exact pure_rowCl _ _ | exact pure_rowTb _ _ _ | refine And.intro ?_ ?_), trivial, trivial⟩⟩) (by simp -dsimp -implicitDefEqProofs only [go_sem, rowSn]) (by simp -dsimp -implicitDefEqProofs only [go_sem, rowSn]) ?_
  rintro r rs ⟨rfl, rfl⟩
  simp -dsimp -implicitDefEqProofs only [go_sem, rowSn]
theorem c_heldLinkOut (x : LO) (k : Nat) (hk : k + szL szSn x.h ≤ 4611686018427387904) (hx : x.h.length ≤ 1048576) (hb : ∀ b ∈ x.h, b.p.f.length ≤ 1048576) : Meets Tryz.prog 41 [.agg (loC 122 { x with h := mkSnS k x.h }), .v (.int .i64 k)] (fun r => r = .v (.int .i64 ((k + szL szSn x.h : Nat) : Int))) := by
  refine Meets.intro mixed (hint []) Tryz.func41 rfl (by decide) res_41 rty_41 (by kernel_rfl) ?_; 
  simp -dsimp -implicitDefEqProofs only [go_sem, loC]
  repeat (first | with_reducible refine ask.of (by omega) ?_ | simp -dsimp -implicitDefEqProofs only [go_sem, bleR, bl4])
  refine CallE.of (c_heldSentS x.h k hk hx hb) (by rintro r rfl; (repeat' first | exact trivial | exact pure_rowB _ | exact pure_rowO _ | exact pure_rowI _ | exact pure_rowBB _ | exact pure_rowPk _ _ | exact pure_rowSn _ _ | exact pure_rowFd _ _ | exact pure_rowBBB _ | exact pure_rowCl _ _ | exact pure_rowTb _ _ _ | refine And.intro ?_ ?_)) (by simp -dsimp -implicitDefEqProofs only [go_sem, rowSn]) ?_
  rintro r rfl
  simp -dsimp -implicitDefEqProofs only [go_sem, rowSn]
  refine ifB'.of (fun h => by omega) (fun h => ?_)
  simp -dsimp -implicitDefEqProofs only [go_sem]
end Go.Ev
